/-
  The law on NewDesk: its walk.
-/
import Derived.Test.YtemomjcgkpinfaaProg
import Derived.Test.YtemomjcgkpinfaaBase3
import Derived.Test.YtemomjcgkpinfaaW1
import Derived.Test.YtemomjcgkpinfaaM1
import Derived.Test.YtemomjcgkpinfaaW5
namespace Go.Proofs.Ytemomjcgkpinfaa
open Go.RowKit

set_option maxHeartbeats 800000 in
theorem eqDesk_any (ev ev' : Int) (a a' b b' : Option Addr) (xs ys : List Pl) (us vs : List Ed) (cap cap' dap dap' : Nat) (hx : xs.length ≤ 10000000) (hy : ys.length ≤ 10000000) (hu : us.length ≤ 10000000) (hv : vs.length ≤ 10000000) (w : World)
    (rx : SlR w 4 Pl.enc a xs) (ry : SlR w 4 Pl.enc a' ys) (ru : SlR w 6 Ed.enc b us) (rv : SlR w 6 Ed.enc b' vs) :
    Calls Try.prog 20 #[.agg #[.int .i64 ev, .slice a xs.length cap, .slice b us.length dap], .agg #[.int .i64 ev', .slice a' ys.length cap', .slice b' vs.length dap']] w fun e w' => e = .returned (.bool (eqGr ev ev' xs ys && eqLs Ed.eq us vs)) ∧ Below w.heap.size w w' := by
  go_enter Try.func20, Try.ntmps20
  go_wp2_with (go_at_call 17; refine (eqEventGraph_any ev ev' a a' xs ys cap cap' hx hy _ (by repeat' (first | with_reducible exact rx | with_reducible refine SlR.alloc ?_ _ | with_reducible refine SlR.drew ?_)) (by repeat' (first | with_reducible exact ry | with_reducible refine SlR.alloc ?_ _ | with_reducible refine SlR.drew ?_))).mono ?_; rintro e w' ⟨rfl, hb⟩; (try have hb := below_trans' (by assumption) hb); obtain ⟨hc, hf⟩ := bcell hb; have hz := (hb).size; (try simp only [World.size_alloc, World.size_setCell] at hz); have ru' : SlR w' 6 Ed.enc b us := SlR.stay (by repeat' (first | with_reducible exact ru | with_reducible refine SlR.alloc ?_ _ | with_reducible refine SlR.drew ?_)) hb; have rv' : SlR w' 6 Ed.enc b' vs := SlR.stay (by repeat' (first | with_reducible exact rv | with_reducible refine SlR.alloc ?_ _ | with_reducible refine SlR.drew ?_)) hb)
  · go_ret
    refine ⟨ret_bool (by grind), ?_⟩
    clear hc hf ru' rv'
    repeat' (first | with_reducible exact Below.refl _ _ | with_reducible refine Below.setCell ?_ ?_ _ | with_reducible refine Below.alloc ?_ ?_ _ | with_reducible refine Below.drew ?_ | with_reducible refine Below.trans ?_ (Below.mono (by assumption) ?_))
    all_goals (first | omega | (simp only [World.size_alloc, World.size_setCell, World.size_drew] at *; omega) | (simp; done) | (simp; omega))
  · clear ru rv rx ry
    go_wp2_with (go_at_call 28; refine (eqEditS_any b b' us vs dap dap' hu hv _ (by assumption) (by assumption)).mono ?_; rintro e w' ⟨rfl, hb⟩; (try have hb := below_trans' (by assumption) hb); obtain ⟨hc, hf⟩ := bcell hb; have hz := (hb).size; (try simp only [World.size_alloc, World.size_setCell] at hz))
    all_goals go_ret
    all_goals refine ⟨ret_bool (by grind), ?_⟩
    all_goals clear hc hf
    repeat' (first | with_reducible exact Below.refl _ _ | with_reducible refine Below.setCell ?_ ?_ _ | with_reducible refine Below.alloc ?_ ?_ _ | with_reducible refine Below.drew ?_ | with_reducible refine Below.trans ?_ (Below.mono (by assumption) ?_))
    all_goals (first | omega | (simp only [World.size_alloc, World.size_setCell, World.size_drew] at *; omega) | (simp; done) | (simp; omega))

set_option maxHeartbeats 800000 in
theorem markDesk_nil (ev k : Int) (h0 : 0 ≤ k) (h1 : k ≤ 10000000000) (w : World) :
    Calls Try.prog 21 #[.agg #[.int .i64 ev, .slice none 0 0, .slice none 0 0], .int .i64 k] w fun e w' => e = .returned (.int .i64 k) ∧ Below w.heap.size w w' := by
  go_enter Try.func21, Try.ntmps21
  go_wp2_with (first | (go_at_call 29; refine (markEventGraph_any ev none 0 0 [] k 0 (by omega) h0 h1 _ (World.ownsRow_nil _ _ _ _)).mono ?_; rintro e w' ⟨rfl, -, hg⟩; have hb := below_grown hg; (try have hb := below_trans' (by assumption) hb); obtain ⟨hc, hf⟩ := bcell hb; have hz := (hb).size; (try simp only [World.size_alloc, World.size_setCell] at hz)) | (go_at_call 30; refine (markEditS_none _ _).mono ?_; rintro e w' ⟨rfl, rfl⟩))
  go_ret
  refine ⟨ret_int (by simp), ?_⟩
  clear hc hf
  repeat' (first | with_reducible exact Below.refl _ _ | with_reducible refine Below.setCell ?_ ?_ _ | with_reducible refine Below.alloc ?_ ?_ _ | with_reducible refine Below.drew ?_ | with_reducible refine Below.trans ?_ (Below.mono (by assumption) ?_))
  all_goals (first | omega | (simp only [World.size_alloc, World.size_setCell, World.size_drew] at *; omega) | (simp; done) | (simp; omega))
set_option maxHeartbeats 800000 in
theorem heldDesk_nil (ev k : Int) (h0 : 0 ≤ k) (h1 : k ≤ 10000000000) (w : World) :
    Calls Try.prog 22 #[.agg #[.int .i64 ev, .slice none 0 0, .slice none 0 0], .int .i64 k] w fun e w' => e = .returned (.int .i64 k) ∧ Below w.heap.size w w' := by
  go_enter Try.func22, Try.ntmps22
  go_wp2_with (first | (go_at_call 34; refine (heldEventGraph_any ev none 0 0 k (by omega) h0 h1 _ (fun j c h => by simp [marks] at h)).mono ?_; rintro e w' ⟨rfl, hb⟩; (try have hb := below_trans' (by assumption) hb); obtain ⟨hc, hf⟩ := bcell hb; have hz := (hb).size; (try simp only [World.size_alloc, World.size_setCell] at hz)) | (go_at_call 31; refine (heldEditS_any none 0 0 _ (by omega) (by simpa using h0) (by simpa using h1) _ (fun j c h => by simp [marks] at h)).mono ?_; rintro e w' ⟨rfl, rfl⟩))
  go_ret
  refine ⟨ret_int (by simp), ?_⟩
  clear hc hf
  repeat' (first | with_reducible exact Below.refl _ _ | with_reducible refine Below.setCell ?_ ?_ _ | with_reducible refine Below.alloc ?_ ?_ _ | with_reducible refine Below.drew ?_ | with_reducible refine Below.trans ?_ (Below.mono (by assumption) ?_))
  all_goals (first | omega | (simp only [World.size_alloc, World.size_setCell, World.size_drew] at *; omega) | (simp; done) | (simp; omega))

set_option maxHeartbeats 400000 in
theorem sNewDesk_any (w : World) : Calls Try.prog 18 #[] w fun e w' => e = .returned (.agg #[.int .i64 1, .slice none 0 0, .slice none 0 0]) ∧ Below w.heap.size w w' := by
  go_enter Try.func18, Try.ntmps18
  go_wp2
  refine bodyPost_ret (v := .agg #[.int .i64 1, .slice none 0 0, .slice none 0 0]) (by simp [results, Try.results18, go_sem]) rfl ⟨rfl, ?_⟩
  repeat' (first | with_reducible exact Below.refl _ _ | with_reducible refine Below.setCell ?_ ?_ _ | with_reducible refine Below.alloc ?_ ?_ _ | with_reducible refine Below.drew ?_ | with_reducible refine Below.trans ?_ (Below.mono (by assumption) ?_))
  all_goals (first | omega | (simp only [World.size_alloc, World.size_setCell, World.size_drew] at *; omega) | (simp; done) | (simp; omega))
set_option maxHeartbeats 400000 in
theorem inewDesk_any (w : World) : Calls Try.prog 59 #[] w fun e w' => e = .returned (.agg #[.int .i64 1, .slice none 0 0, .slice none 0 0]) ∧ Below w.heap.size w w' := by
  go_enter Try.func59, Try.ntmps59
  go_wp2
  refine bodyPost_ret (v := .agg #[.int .i64 1, .slice none 0 0, .slice none 0 0]) (by simp [results, Try.results59, go_sem]) rfl ⟨rfl, ?_⟩
  repeat' (first | with_reducible exact Below.refl _ _ | with_reducible refine Below.setCell ?_ ?_ _ | with_reducible refine Below.alloc ?_ ?_ _ | with_reducible refine Below.drew ?_ | with_reducible refine Below.trans ?_ (Below.mono (by assumption) ?_))
  all_goals (first | omega | (simp only [World.size_alloc, World.size_setCell, World.size_drew] at *; omega) | (simp; done) | (simp; omega))
set_option maxHeartbeats 400000 in
theorem iNewDesk_any (w : World) : Calls Try.prog 19 #[] w fun e w' => e = .returned (.agg #[.int .i64 1, .slice none 0 0, .slice none 0 0]) ∧ Below w.heap.size w w' := by
  go_enter Try.func19, Try.ntmps19
  go_wp2_with (go_at_call 59; refine (inewDesk_any _).mono ?_; rintro e w1 ⟨rfl, hb⟩; (try have hb := below_trans' (by assumption) hb); obtain ⟨hc, hf⟩ := bcell hb; have hz := (hb).size; (try simp only [World.size_alloc, World.size_setCell] at hz))
  refine bodyPost_ret (v := .agg #[.int .i64 1, .slice none 0 0, .slice none 0 0]) (by simp [results, Try.results19, go_sem, hc, hz]) rfl ⟨rfl, ?_⟩
  clear hc hf
  repeat' (first | with_reducible exact Below.refl _ _ | with_reducible refine Below.setCell ?_ ?_ _ | with_reducible refine Below.alloc ?_ ?_ _ | with_reducible refine Below.drew ?_ | with_reducible refine Below.trans ?_ (Below.mono (by assumption) ?_))
  all_goals (first | omega | (simp only [World.size_alloc, World.size_setCell, World.size_drew] at *; omega) | (simp; done) | (simp; omega))

set_option maxHeartbeats 1600000 in
theorem lawNewDesk (w : World) : Calls Try.prog 4 #[] w fun r w' => r = .returned (.bool true) ∧ Below w.heap.size w w' := by
  go_enter Try.func4, Try.ntmps4
  go_wp2_with fail
  refine (sNewDesk_any _).mono ?_
  rintro e w1 ⟨rfl, h1⟩
  go_wp2_with fail
  refine (iNewDesk_any _).mono ?_
  rintro e w2 ⟨rfl, h2⟩
  have b1 : Box w2 w1.heap.size 43 [.int .i64 1, .slice none 0 0, .slice none 0 0] := box_of h2
  have b1l := b1.lt
  have b1n := Nat.ne_of_lt b1.lt
  have b10 := b1.cell 0 rfl
  have b11 := b1.cell 1 rfl
  have b12 := b1.cell 2 rfl
  go_wp2_with fail
  refine (eqDesk_any 1 1 none none none none [] [] [] [] 0 0 0 0 (by simp) (by simp) (by simp) (by simp) _ (SlR.nil _ _ _ _) (SlR.nil _ _ _ _) (SlR.nil _ _ _ _) (SlR.nil _ _ _ _)).mono ?_
  rintro e w3 ⟨rfl, h3⟩
  rw [show (eqGr 1 1 [] [] && eqLs Ed.eq [] []) = true from rfl]
  clear b1l b1n b10 b11 b12
  have b1 := (b1.alloc _).stay h3
  have b2 : Box w3 w2.heap.size 43 [.int .i64 1, .slice none 0 0, .slice none 0 0] := box_of h3
  have b1l := b1.lt
  have b1n := Nat.ne_of_lt b1.lt
  have b10 := b1.cell 0 rfl
  have b11 := b1.cell 1 rfl
  have b12 := b1.cell 2 rfl
  have b2l := b2.lt
  have b2n := Nat.ne_of_lt b2.lt
  have b20 := b2.cell 0 rfl
  have b21 := b2.cell 1 rfl
  have b22 := b2.cell 2 rfl
  go_wp2_with fail
  refine (markDesk_nil 1 1 (by omega) (by omega) _).mono ?_
  rintro e w4 ⟨rfl, h4⟩
  clear b1l b1n b10 b11 b12 b2l b2n b20 b21 b22
  have b1 := b1.stay h4
  have b2 := b2.stay h4
  have b1l := b1.lt
  have b1n := Nat.ne_of_lt b1.lt
  have b10 := b1.cell 0 rfl
  have b11 := b1.cell 1 rfl
  have b12 := b1.cell 2 rfl
  have b2l := b2.lt
  have b2n := Nat.ne_of_lt b2.lt
  have b20 := b2.cell 0 rfl
  have b21 := b2.cell 1 rfl
  have b22 := b2.cell 2 rfl
  go_wp2_with fail
  refine (heldDesk_nil 1 1 (by omega) (by omega) _).mono ?_
  rintro e w5 ⟨rfl, h5⟩
  clear b1l b1n b10 b11 b12 b2l b2n b20 b21 b22
  have b1 := b1.stay h5
  have b2 := b2.stay h5
  have b1l := b1.lt
  have b1n := Nat.ne_of_lt b1.lt
  have b10 := b1.cell 0 rfl
  have b11 := b1.cell 1 rfl
  have b12 := b1.cell 2 rfl
  have b2l := b2.lt
  have b2n := Nat.ne_of_lt b2.lt
  have b20 := b2.cell 0 rfl
  have b21 := b2.cell 1 rfl
  have b22 := b2.cell 2 rfl
  go_wp2_with fail
  refine (iNewDesk_any _).mono ?_
  rintro e w6 ⟨rfl, h6⟩
  clear b1l b1n b10 b11 b12 b2l b2n b20 b21 b22
  have b1 := b1.stay h6
  have b2 := b2.stay h6
  have b1l := b1.lt
  have b1n := Nat.ne_of_lt b1.lt
  have b10 := b1.cell 0 rfl
  have b11 := b1.cell 1 rfl
  have b12 := b1.cell 2 rfl
  have b2l := b2.lt
  have b2n := Nat.ne_of_lt b2.lt
  have b20 := b2.cell 0 rfl
  have b21 := b2.cell 1 rfl
  have b22 := b2.cell 2 rfl
  go_wp2_with fail
  refine (eqDesk_any 1 1 none none none none [] [] [] [] 0 0 0 0 (by simp) (by simp) (by simp) (by simp) _ (SlR.nil _ _ _ _) (SlR.nil _ _ _ _) (SlR.nil _ _ _ _) (SlR.nil _ _ _ _)).mono ?_
  rintro e w7 ⟨rfl, h7⟩
  rw [show (eqGr 1 1 [] [] && eqLs Ed.eq [] []) = true from rfl]
  clear b1l b1n b10 b11 b12 b2l b2n b20 b21 b22
  have b1 := (b1.alloc _).stay h7
  have b2 := (b2.alloc _).stay h7
  have b3 : Box w7 w6.heap.size 43 [.int .i64 1, .slice none 0 0, .slice none 0 0] := box_of h7
  have b1l := b1.lt
  have b1n := Nat.ne_of_lt b1.lt
  have b10 := b1.cell 0 rfl
  have b11 := b1.cell 1 rfl
  have b12 := b1.cell 2 rfl
  have b2l := b2.lt
  have b2n := Nat.ne_of_lt b2.lt
  have b20 := b2.cell 0 rfl
  have b21 := b2.cell 1 rfl
  have b22 := b2.cell 2 rfl
  have b3l := b3.lt
  have b3n := Nat.ne_of_lt b3.lt
  have b30 := b3.cell 0 rfl
  have b31 := b3.cell 1 rfl
  have b32 := b3.cell 2 rfl
  go_wp2_with fail
  refine (heldDesk_nil 1 1 (by omega) (by omega) _).mono ?_
  rintro e w8 ⟨rfl, h8⟩
  clear b1l b1n b10 b11 b12 b2l b2n b20 b21 b22 b3l b3n b30 b31 b32
  have b1 := b1.stay h8
  have b2 := b2.stay h8
  have b3 := b3.stay h8
  have b1l := b1.lt
  have b1n := Nat.ne_of_lt b1.lt
  have b10 := b1.cell 0 rfl
  have b11 := b1.cell 1 rfl
  have b12 := b1.cell 2 rfl
  have b2l := b2.lt
  have b2n := Nat.ne_of_lt b2.lt
  have b20 := b2.cell 0 rfl
  have b21 := b2.cell 1 rfl
  have b22 := b2.cell 2 rfl
  have b3l := b3.lt
  have b3n := Nat.ne_of_lt b3.lt
  have b30 := b3.cell 0 rfl
  have b31 := b3.cell 1 rfl
  have b32 := b3.cell 2 rfl
  go_wp2
  go_ret
  refine ⟨rfl, ?_⟩
  have z1 := h1.size
  have z2 := h2.size
  have z3 := h3.size
  have z4 := h4.size
  have z5 := h5.size
  have z6 := h6.size
  have z7 := h7.size
  have z8 := h8.size
  repeat' (first | with_reducible exact Below.refl _ _ | with_reducible refine Below.setCell ?_ ?_ _ | with_reducible refine Below.alloc ?_ ?_ _ | with_reducible refine Below.drew ?_ | with_reducible refine Below.trans ?_ (Below.mono h1 ?_) | with_reducible refine Below.trans ?_ (Below.mono h2 ?_) | with_reducible refine Below.trans ?_ (Below.mono h3 ?_) | with_reducible refine Below.trans ?_ (Below.mono h4 ?_) | with_reducible refine Below.trans ?_ (Below.mono h5 ?_) | with_reducible refine Below.trans ?_ (Below.mono h6 ?_) | with_reducible refine Below.trans ?_ (Below.mono h7 ?_) | with_reducible refine Below.trans ?_ (Below.mono h8 ?_))
  all_goals (first | omega | (simp only [World.size_alloc, World.size_setCell, World.size_drew] at *; omega) | (simp; done) | (simp; omega))
end Go.Proofs.Ytemomjcgkpinfaa
