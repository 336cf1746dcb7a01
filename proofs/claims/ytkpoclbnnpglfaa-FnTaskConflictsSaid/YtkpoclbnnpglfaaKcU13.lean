/-
  Walks in the abstract reading, part 13.
-/
import Derived.Test.YtkpoclbnnpglfaaKcR3
import Derived.Test.YtkpoclbnnpglfaaKcU1
import Derived.Test.YtkpoclbnnpglfaaKcA3
section
namespace Go.Proofs.Ytkpoclbnnpglfaa
set_option linter.unusedSimpArgs false
set_option linter.unusedVariables false
open Go Go.RowKit
attribute [local irreducible] AL AD AW OpOk Le AC thenQ blockQ EndQ

section
variable {P : Program} {o : Oper} {A : Operand → AV} {H : Heap} {new : Nat}
end
theorem DrOk.st [Mode] {code : List Int} {g : DrG} (h : DrOk code g) : RStOk code 40 (g.s, g.xs) := ⟨h.s, h.xs, h.len⟩
end Go.Proofs.Ytkpoclbnnpglfaa
end

section
namespace Go.Proofs.Ytkpoclbnnpglfaa
set_option linter.unusedSimpArgs false
set_option linter.unusedVariables false
open Go Go.RowKit
attribute [local irreducible] AL AD AW OpOk Le AC thenQ blockQ EndQ

section
variable {P : Program} {o : Oper} {A : Operand → AV} {H : Heap} {new : Nat}
/-- The source of the draws is made. -/
theorem Fx [Mode] {fo x : Operand} {ts : Array TypeId} {f : FuncId} {code : List Int} {s : Src} (hc : AC P f [.d (BD code)] H0 (Bx 3 0) (srcH code s)) (ho : o.op = .call { callee := .value fo, args := #[x], argTypes := ts }) [FnBody P f] (hfo : A fo = .clo (.func f) [] [])
    (hx : A x = .d (BD code)) : OpOk P o A [] H new (.ptr 3 ⟨new, [0]⟩ 0 0) [.one ⟨new, [0]⟩ (some (srcO code s))] :=
  OpOk.call1n (xs := [x]) [] ho hfo hc (.inl rfl) (fun g => rnO_dobj _ _ _) (by
    show ARs _ _ _ _ _ [A x]
    rw [hx]; exact .cons (AR.dd _) .nil) (by rw [rn])
theorem Nl [Mode] {fo x y : Operand} {ts : Array TypeId} {f : FuncId} {l : Loc} {code : List Int} {s s' : Src} {n a : Int} (hc : AC P f [Bx 3 0, I n] (srcH code s) (I a) (srcH code s')) (ho : o.op = .call { callee := .value fo, args := #[x, y], argTypes := ts }) [FnBody P f] (hfo : A fo = .clo (.func f) [] [])
    (hx : A x = .ptr 3 l 0 0) (hy : A y = I n) (hl : H l = some (srcO code s)) : OpOk P o A [l] H new (I a) [.one l (some (srcO code s'))] :=
  OpOk.callM (xs := [x, y]) ho hfo hc hl rfl (by
    show ARs _ _ _ _ _ [A x, A y]
    rw [hx, hy]; exact .cons (AR.ptr 3 ⟨0, []⟩ 0 0 rfl) (.cons (.dd _) .nil))
theorem Kl [Mode] {fo x y : Operand} {ts : Array TypeId} {f : FuncId} {l0 : Loc} {code : List Int} {s s' : Src} {m : Nat} {xs : List Int} {a : Int} {l : Loc} (hc : AC P f [Bx 3 0, .own 1 ⟨1, []⟩ 0 m] (upd (upd H0 ⟨1, []⟩ (some (IO xs))) ⟨0, []⟩ (some (srcO code s))) (I a) (srcH code s')) (ho : o.op = .call { callee := .value fo, args := #[x, y], argTypes := ts }) [FnBody P f] (hfo : A fo = .clo (.func f) [] [])
    (hx : A x = .ptr 3 l0 0 0) (hy : A y = .own 1 l 0 m) (hl : H l0 = some (srcO code s)) (hl2 : H l = some (IO xs)) (hne : l0 ≠ l) : OpOk P o A [l0, l] H new (I a) [.one l none, .one l0 (some (srcO code s'))] :=
  OpOk.callM2 (xs := [x, y]) ho hfo hc hl hl2 hne rfl (by
    show ARs _ _ _ _ _ [A x, A y]
    rw [hx, hy]
    refine .cons ?_ (.cons ?_ .nil)
    · have := AR.ptr (H := H) (lent := fun _ => False) (τ := two l0 l) (L := (· ∈ [(⟨0, []⟩ : Loc), ⟨1, []⟩])) 3 ⟨0, []⟩ 0 0 (by simp)
      rwa [show two l0 l ⟨0, []⟩ = l0 from if_pos rfl] at this
    · have := AR.own (H := H) (lent := fun _ => False) (τ := two l0 l) (L := (· ∈ [(⟨0, []⟩ : Loc), ⟨1, []⟩])) 1 ⟨1, []⟩ 0 m (by simp)
      rwa [show two l0 l ⟨1, []⟩ = l from if_neg (by decide)] at this)
end
theorem big_ac [Mode] (code : List Int) (hl : code.length ≤ 9223372036854775807) : AC Try.prog 5 [.d (BD code)] H0 (Bo (decide (4096 < (code.length : Int)))) H0 := by
  refine AC.of_body 0 Try.func5 rfl (fun l h => absurd rfl h) (fun C hC => ?_)
  have hD : ∀ l, ¬ C.D0 l := fun l h => (hC l).1 h rfl
  simp only [startFr, Try.ntmps5, List.length_cons, List.length_nil, Nat.reduceAdd, Nat.reduceSub, List.replicate_succ, List.replicate_zero, List.cons_append, List.nil_append]
  repeat' (first | ((first | apply Ba | (apply Bb; (· rfl); (· rfl)) | (apply Bc; (· exact nxE)) | (apply Bd; (· rfl); (· rfl); (· exact nxE))); (· first | exact Ok.pe)) | ((first | apply Ca | (apply Cb; (· exact nxE))); (· first | exact Ok.e0)) | refine Sx ?_ | (refine Sy (fun h => ?_) (fun h => ?_) <;> try (exfalso; omega; done)) | refine Sz (fun h => ?_) (fun h => ?_))
  refine Ya ?_
  (apply Le.headZ (hs := []) [] rfl)
  all_goals (try dsimp only [srcs])
  (case' hfr => (repeat' (first | refine La ?_ ?_ | exact Lc | refine Lo ?_ | refine ⟨⟨_, rfl, ?_⟩, ?_⟩ | refine Lx ?_)))
  all_goals (first | exact Ld | exact trivial | (rfl))
set_option maxHeartbeats 1000000 in
theorem likeInts_refl [Mode] (xs : List Int) (hn : xs.length ≤ 100000000) : AC Try.prog 12 [IL xs, IL xs] H0 (Bo true) H0 := by
  refine AC.of_body 0 Try.func12 rfl (fun l h => absurd rfl h) (fun C hC => ?_)
  have hD : ∀ l, ¬ C.D0 l := fun l h => (hC l).1 h rfl
  simp only [startFr, Try.ntmps12, List.length_cons, List.length_nil, Nat.reduceAdd, Nat.reduceSub, List.replicate_succ, List.replicate_zero, List.cons_append, List.nil_append]
  repeat' (first | ((first | apply Ba | (apply Bb; (· rfl); (· rfl)) | (apply Bc; (· exact nxE)) | (apply Bd; (· rfl); (· rfl); (· exact nxE))); (· first | exact Ok.pe)) | ((first | apply Ca | (apply Cb; (· exact nxE))); (· first | exact Ok.e0)) | refine Sx ?_ | (refine Sy (fun h => ?_) (fun h => ?_) <;> try (exfalso; omega; done)) | refine Sz (fun h => ?_) (fun h => ?_))
  refine AW.loop (X := {k : Nat // k ≤ xs.length}) (fun k => ⟨[IL xs, IL xs, Oo, Oo, Oo, I (k.1 : Nat), Oo, Oo, Oo, Oo, Oo, Oo, Oo, Oo, Oo, Oo, Oo, Oo, Oo, Oo, Oo, Oo, Oo, Oo, Oo, Oo], heapL [], 900⟩) (fun k => xs.length - k.1) ⟨0, Nat.zero_le _⟩ ?_ (fun k => ?_)
  ·
    (apply Le.headZ [] rfl)
    all_goals (try dsimp only [srcs])
    (case' hfr | hob => (repeat' (first | refine La ?_ ?_ | exact Lc | refine Lo ?_ | refine ⟨⟨_, rfl, ?_⟩, ?_⟩ | refine Lx ?_)))
    all_goals (first | (rfl) | exact Ld)
  obtain ⟨k, hk⟩ := k
  simp only
  by_cases hlt : k < xs.length
  · obtain ⟨x, hx⟩ : ∃ x, xs[k]? = some x := ⟨xs[k], by simp⟩
    have hrow := IR_get hx
    repeat' (first | ((first | apply Ba | (apply Bb; (· rfl); (· rfl)) | (apply Bc; (· exact nxE)) | (apply Bd; (· rfl); (· rfl); (· exact nxE))); (· first | exact Ok.pe)) | ((first | apply Ca | (apply Cb; (· exact nxE))); (· first | exact Ok.e0)) | refine Sx ?_ | (refine Sy (fun h => ?_) (fun h => ?_) <;> try (exfalso; omega; done)) | refine Sz (fun h => ?_) (fun h => ?_))
    refine ⟨⟨k + 1, by omega⟩, ?_, by simp only; omega⟩
    (apply Le.headZ [] rfl)
    all_goals (try dsimp only [srcs])
    (case' hfr | hob => (repeat' (first | refine La ?_ ?_ | exact Lc | refine Lo ?_ | refine ⟨⟨_, rfl, ?_⟩, ?_⟩ | refine Lx ?_)))
    all_goals (first | (rfl) | exact Ld)
  · obtain rfl : k = xs.length := by omega
    repeat' (first | ((first | apply Ba | (apply Bb; (· rfl); (· rfl)) | (apply Bc; (· exact nxE)) | (apply Bd; (· rfl); (· rfl); (· exact nxE))); (· first | exact Ok.pe)) | ((first | apply Ca | (apply Cb; (· exact nxE))); (· first | exact Ok.e0)) | refine Sx ?_ | (refine Sy (fun h => ?_) (fun h => ?_) <;> try (exfalso; omega; done)) | refine Sz (fun h => ?_) (fun h => ?_))
    refine Ya ?_
    (apply Le.headZ (hs := []) [] rfl)
    all_goals (try dsimp only [srcs])
    (case' hfr => (repeat' (first | refine La ?_ ?_ | exact Lc | refine Lo ?_ | refine ⟨⟨_, rfl, ?_⟩, ?_⟩ | refine Lx ?_)))
    all_goals (first | exact Ld | exact trivial | (rfl))
end Go.Proofs.Ytkpoclbnnpglfaa
end

section
namespace Go.Proofs.Ytkpoclbnnpglfaa
set_option linter.unusedSimpArgs false
set_option linter.unusedVariables false
open Go Go.RowKit
abbrev WO (ws : List Wn) : AObj := dobj 2 (ws.map Wn.row)
abbrev BO (bs : List Bn) : AObj := dobj 3 (bs.map Bn.row)
/-- Windows while they are drawn. -/
def dW (code : List Int) (q : Src × List Wn) : Src × List Wn :=
  let a := nxt code q.1 20
  let b := nxt code a.2 20
  let c := nxt code b.2 6
  ((nxt code c.2 3).2, q.2 ++ [⟨a.1, a.1 + pick code c.2 [b.1, 40, c.1]⟩])
structure DrawnW (code : List Int) (k : Nat) (q : Src × List Wn) : Prop where
  s : SrcOk code q.1
  len : q.2.length = k
theorem dW_it [Mode] {code : List Int} (hc : CodeOk code) {s : Src} (hs : SrcOk code s) : ∀ k, DrawnW code k (itr (dW code) k (s, []))
  | 0 => ⟨hs, rfl⟩
  | k + 1 => by
    obtain ⟨h1, h2⟩ := dW_it hc hs k
    have e1 := (nxt_ok hc h1 20).2.2
    have e2 := (nxt_ok hc e1 20).2.2
    have e3 := (nxt_ok hc e2 6).2.2
    exact ⟨(nxt_ok hc e3 3).2.2, by show (_ ++ [_]).length = _; simp [h2]⟩
/-- Bonds while they are drawn. -/
def dB (code : List Int) (n : Int) (q : Src × List Bn) : Src × List Bn :=
  let a := nxt code q.1 n
  let b := nxt code a.2 n
  let c := nxt code b.2 16
  let d := nxt code c.2 25
  if b.1 ≤ a.1 then (d.2, q.2 ++ [⟨a.1, b.1, -d.1⟩]) else (c.2, q.2 ++ [⟨a.1, b.1, c.1 - 6⟩])
structure DrawnB (code : List Int) (k : Nat) (q : Src × List Bn) : Prop where
  s : SrcOk code q.1
  len : q.2.length = k
theorem dB_it [Mode] {code : List Int} (hc : CodeOk code) (n : Int) {s : Src} (hs : SrcOk code s) : ∀ k, DrawnB code k (itr (dB code n) k (s, []))
  | 0 => ⟨hs, rfl⟩
  | k + 1 => by
    obtain ⟨h1, h2⟩ := dB_it hc n hs k
    have e1 := (nxt_ok hc h1 n).2.2
    have e2 := (nxt_ok hc e1 n).2.2
    have e3 := (nxt_ok hc e2 16).2.2
    have e4 := (nxt_ok hc e3 25).2.2
    show DrawnB code (k + 1) (dB code n _)
    generalize itr (dB code n) k (s, []) = q at *
    unfold dB
    simp only
    split
    · exact ⟨e4, by simp [h2]⟩
    · exact ⟨e3, by simp [h2]⟩
/-- What is done to a task drawn. -/
def TailW [Mode] (code : List Int) (n : Int) (s4 : Src) (ws : List Wn) (bs : List Bn) (ws2 : List Wn) (bs2 : List Bn) (s9 : Src) : Prop :=
  ∃ (z : Int) (s5 : Src), AC Try.prog 74 [Bx 3 0, I 40] (srcH code s4) (I z) (srcH code s5) ∧
    ((z = 0 ∧ ∃ p1 p2 s6, ws2 = ws.set 0 ⟨p1, p2⟩ ∧ bs2 = bs ∧ AC Try.prog 90 [Bx 3 0, .own 1 ⟨1, []⟩ 0 3] (upd (upd H0 ⟨1, []⟩ (some (IO [-1, 0, 5]))) ⟨0, []⟩ (some (srcO code s5))) (I p1) (srcH code s6) ∧
        AC Try.prog 90 [Bx 3 0, .own 1 ⟨1, []⟩ 0 3] (upd (upd H0 ⟨1, []⟩ (some (IO [4, 1000000, 1000001]))) ⟨0, []⟩ (some (srcO code s6))) (I p2) (srcH code s9)) ∨
     (z = 1 ∧ ∃ p1 p2 s6, ws2 = ws ∧ bs2 = bs ++ [⟨p1, 0, p2⟩] ∧ AC Try.prog 90 [Bx 3 0, .own 1 ⟨1, []⟩ 0 3] (upd (upd H0 ⟨1, []⟩ (some (IO [-1, 0, n]))) ⟨0, []⟩ (some (srcO code s5))) (I p1) (srcH code s6) ∧
        AC Try.prog 90 [Bx 3 0, .own 1 ⟨1, []⟩ 0 3] (upd (upd H0 ⟨1, []⟩ (some (IO [-1000000, -1000001, 0]))) ⟨0, []⟩ (some (srcO code s6))) (I p2) (srcH code s9)) ∨
     (z = 2 ∧ ∃ y : Nat, y ≤ 1 ∧ ws2 = List.replicate (10 + y) ⟨0, 0⟩ ∧ bs2 = bs ∧ AC Try.prog 74 [Bx 3 0, I 2] (srcH code s5) (I y) (srcH code s9)) ∨
     ((z ≠ 0 ∧ z ≠ 1 ∧ z ≠ 2) ∧ ws2 = ws ∧ bs2 = bs ∧ s9 = s5))
theorem tailW_ex [Mode] {code : List Int} (hc : CodeOk code) {s4 : Src} (h4 : SrcOk code s4) (n : Int) (ws : List Wn) (bs : List Bn) : ∃ ws2 bs2 s9, SrcOk code s9 ∧ ws2.length ≤ ws.length + 11 ∧ bs2.length ≤ bs.length + 1 ∧ TailW code n s4 ws bs ws2 bs2 s9 := by
  obtain ⟨z, s5, z1, z2, h5, q5, N5⟩ := next_ex hc h4 40
  obtain ⟨p1, t1, _, g1, _, _, K1⟩ := pick_ex hc h5 [-1, 0, 5] 3 rfl
  obtain ⟨p2, t2, _, g2, _, _, K2⟩ := pick_ex hc g1 [4, 1000000, 1000001] 3 rfl
  obtain ⟨p3, t3, _, g3, _, _, K3⟩ := pick_ex hc h5 [-1, 0, n] 3 rfl
  obtain ⟨p4, t4, _, g4, _, _, K4⟩ := pick_ex hc g3 [-1000000, -1000001, 0] 3 rfl
  obtain ⟨y0, t5, y1, y2, g5, _, K5⟩ := next_ex hc h5 2
  obtain ⟨y, rfl⟩ : ∃ y : Nat, y0 = y := ⟨y0.toNat, by omega⟩
  by_cases c0 : z = 0
  · exact ⟨_, _, t2, g2, by simp, by simp, z, s5, N5, .inl ⟨c0, p1, p2, t1, rfl, rfl, K1, K2⟩⟩
  by_cases c1 : z = 1
  · exact ⟨_, _, t4, g4, by simp, by simp, z, s5, N5, .inr (.inl ⟨c1, p3, p4, t3, rfl, rfl, K3, K4⟩)⟩
  by_cases c2 : z = 2
  · exact ⟨_, _, t5, g5, by rw [List.length_replicate]; omega, by simp, z, s5, N5, .inr (.inr (.inl ⟨c2, y, by omega, rfl, rfl, K5⟩))⟩
  · exact ⟨ws, bs, s5, h5, by omega, by omega, z, s5, N5, .inr (.inr (.inr ⟨⟨c0, c1, c2⟩, rfl, rfl, rfl⟩))⟩
attribute [local irreducible] AL AD AW OpOk Le AC thenQ blockQ EndQ

set_option maxRecDepth 4000 in
set_option maxHeartbeats 16000000 in
theorem l23Draw_w [Mode] (code : List Int) (hc : CodeOk code) (s s1 s2 s3 s4 s9 : Src) (a m : Nat) (ws ws2 : List Wn) (bs bs2 : List Bn) (ha : a ≤ 4) (hm : m ≤ 7)
    (N1 : AC Try.prog 74 [Bx 3 0, I 5] (srcH code s) (I a) (srcH code s1)) (hW : ∀ k, DrawnW code k (itr (dW code) k (s1, []))) (hWn : itr (dW code) (a + 1) (s1, []) = (s2, ws)) (hwl : ws.length = a + 1)
    (N2 : AC Try.prog 74 [Bx 3 0, I 8] (srcH code s2) (I m) (srcH code s3)) (hB : ∀ k, DrawnB code k (itr (dB code (1 + (a : Int))) k (s3, []))) (hBm : itr (dB code (1 + (a : Int))) m (s3, []) = (s4, bs)) (hbl : bs.length = m) (hT : TailW code (1 + (a : Int)) s4 ws bs ws2 bs2 s9) :
    AC Try.prog 73 [Bx 3 0] (heapL [(⟨0, []⟩, ⟨0, []⟩, srcO code s)]) (.tup [.own 2 ⟨1, []⟩ 0 ws2.length, .own 3 ⟨2, []⟩ 0 bs2.length]) (heapL [(⟨0, []⟩, ⟨0, []⟩, srcO code s9), (⟨1, []⟩, ⟨1, []⟩, WO ws2), (⟨2, []⟩, ⟨2, []⟩, BO bs2)]) := by
  refine AC.of_body 1 Try.func73 rfl (fun l h => by simp [heapL, upd] at h; simp [h]) (fun C hC => ?_)
  simp only [startFr, Try.ntmps73, List.length_cons, List.length_nil, Nat.reduceAdd, Nat.reduceSub, List.replicate_succ, List.replicate_zero, List.cons_append, List.nil_append]
  have hD : ∀ l, C.D0 l → l = ⟨0, []⟩ := fun l h => by have := (hC l).1 h; simp [heapL, upd] at this; exact this
  repeat' (first | ((first | apply Ba | (apply Bb; (· rfl); (· rfl)) | (apply Bc; (· exact nxE)) | (apply Bd; (· rfl); (· rfl); (· exact nxE))); (· first | exact Ok.slen rfl rfl | exact Nx N1 rfl rfl rfl rfl rfl | exact Ok.pe)) | ((first | apply Ca | (apply Cb; (· exact nxE))); (· first | exact Nx N1 rfl rfl rfl rfl rfl | exact Ok.e0)) | refine Sx ?_ | (refine Sy (fun h => ?_) (fun h => ?_) <;> try (exfalso; omega; done)) | refine Sz (fun h => ?_) (fun h => ?_))
  refine AW.loop (X := {k : Nat // k ≤ a + 1}) (fun k => ⟨[Bx 3 0, Oo, Oo, Oo, .own 2 ⟨1, []⟩ 0 (itr (dW code) (k.1 : Nat) (s1, [])).2.length, .own 3 ⟨2, []⟩ 0 0, I (1 + (a : Int)), I (k.1 : Nat), Oo, Oo, Oo, Oo, Oo, Oo, Oo, Oo, Oo, Oo, Oo, Oo, Oo, Oo, Oo, Oo, Oo, Oo, Oo, Oo, Oo, Oo, Oo, Oo, Oo, Oo, Oo, Oo, Oo, Oo, Oo, Oo, Oo, Oo, Oo, Oo, Oo, Oo, Oo, Oo, Oo, Oo, Oo, Oo, Oo, Oo, Oo, Oo, Oo, Oo, Oo, Oo, Oo, Oo, Oo, Oo, Oo, Oo, Oo, Oo, Oo, Oo, Oo, Oo, Oo, Oo, Oo, Oo, Oo, Oo, Oo, Oo, Oo, Oo, Oo, Oo, Oo, Oo, Oo, Oo, Oo, Oo, Oo, Oo, Oo, Oo, Oo, Oo, Oo, Oo, Oo, Oo], heapL [(⟨0, []⟩, ⟨0, []⟩, srcO code (itr (dW code) k.1 (s1, [])).1), (⟨1, []⟩, ⟨1, []⟩, WO (itr (dW code) k.1 (s1, [])).2), (⟨2, []⟩, ⟨2, []⟩, BO [])], 900⟩) (fun k => a + 1 - k.1) ⟨0, Nat.zero_le _⟩ ?_ (fun k => ?_)
  ·
    (apply Le.headZ [_, _, _] rfl)
    all_goals (try dsimp only [srcs])
    (case' hfr | hob => (repeat' (first | refine La ?_ ?_ | exact Lc | refine Lo ?_ | refine ⟨⟨_, rfl, ?_⟩, ?_⟩ | refine Lx ?_)))
    all_goals (first | (first | rfl | (simp [itr]; done)) | exact Ld)
  obtain ⟨k, hk⟩ := k
  simp only
  by_cases hlt : k < a + 1
  · have hM := hW k
    have hstep : itr (dW code) (k + 1) (s1, []) = dW code (itr (dW code) k (s1, [])) := rfl
    generalize itr (dW code) k (s1, []) = q at hM hstep ⊢
    obtain ⟨sq, us⟩ := q
    obtain ⟨i1, i2⟩ := hM
    simp only at i1 i2
    obtain ⟨x, t1, x1, x2, g1, q1, M1⟩ := next_ex hc i1 20
    obtain ⟨y, t2, y1, y2, g2, q2, M2⟩ := next_ex hc g1 20
    obtain ⟨z, t3, z1, z2, g3, q3, M3⟩ := next_ex hc g2 6
    obtain ⟨p, t4, p1, p2, q4, q5, M4⟩ := pick_ex hc g3 [y, 40, z] 3 rfl
    have hst2 : itr (dW code) (k + 1) (s1, []) = (t4, us ++ [⟨x, x + p⟩]) := by rw [hstep]; unfold dW; simp only [q1, q2, q3, q4, q5]
    clear hstep
    have hpb : 0 ≤ p ∧ p ≤ 40 := by
      simp only [List.mem_cons, List.not_mem_nil, or_false] at p1
      rcases p1 with rfl | rfl | rfl <;> omega
    have hol : (us.map Wn.row).length = us.length := WN_len
    repeat' (first | ((first | apply Ba | (apply Bb; (· rfl); (· rfl)) | (apply Bc; (· exact nxE)) | (apply Bd; (· rfl); (· rfl); (· exact nxE))); (· first | exact Ok.slen rfl rfl | exact Nl M1 rfl rfl rfl rfl rfl | exact Nl M2 rfl rfl rfl rfl rfl | exact Nl M3 rfl rfl rfl rfl rfl | exact Kl M4 rfl rfl rfl rfl rfl rfl (by decide) | exact Ok.bs3 rfl rfl rfl rfl rfl | exact Ok.append1 (row := [DI x, DI (x + p)]) rfl rfl (by decide) rfl rfl hol rfl rfl rfl (by rfl) (by omega) (by omega) | exact Ok.pe)) | ((first | apply Ca | (apply Cb; (· exact nxE))); (· first | exact Nl M1 rfl rfl rfl rfl rfl | exact Nl M2 rfl rfl rfl rfl rfl | exact Nl M3 rfl rfl rfl rfl rfl | exact Kl M4 rfl rfl rfl rfl rfl rfl (by decide) | exact Ok.bs3 rfl rfl rfl rfl rfl | exact Ok.append1 (row := [DI x, DI (x + p)]) rfl rfl (by decide) rfl rfl hol rfl rfl rfl (by rfl) (by omega) (by omega) | exact Ok.e0)) | refine Sx ?_ | (refine Sy (fun h => ?_) (fun h => ?_) <;> try (exfalso; omega; done)) | refine Sz (fun h => ?_) (fun h => ?_))
    refine ⟨⟨k + 1, by omega⟩, ?_, by simp only; omega⟩
    simp only [hst2]
    (apply Le.headZ [_, _, _] rfl)
    all_goals (try dsimp only [srcs])
    (case' hfr | hob => (repeat' (first | refine La ?_ ?_ | exact Lc | refine Lo ?_ | refine ⟨⟨_, rfl, ?_⟩, ?_⟩ | refine Lx ?_)))
    all_goals (first | (first | (rw [List.length_append]; rfl) | (rw [List.map_append]; rfl) | (simp; done)) | exact Ld)
  obtain rfl : k = a + 1 := by omega
  rw [hWn]
  simp only
  repeat' (first | ((first | apply Ba | (apply Bb; (· rfl); (· rfl)) | (apply Bc; (· exact nxE)) | (apply Bd; (· rfl); (· rfl); (· exact nxE))); (· first | exact Ok.slen rfl rfl | exact Nx N2 rfl rfl rfl rfl rfl | exact Nl N2 rfl rfl rfl rfl rfl | exact Ok.pe)) | ((first | apply Ca | (apply Cb; (· exact nxE))); (· first | exact Nx N2 rfl rfl rfl rfl rfl | exact Nl N2 rfl rfl rfl rfl rfl | exact Ok.e0)) | refine Sx ?_ | (refine Sy (fun h => ?_) (fun h => ?_) <;> try (exfalso; omega; done)) | refine Sz (fun h => ?_) (fun h => ?_))
  refine AW.loop (X := {k : Nat // k ≤ m}) (fun k => ⟨[Bx 3 0, Oo, Oo, Oo, .own 2 ⟨1, []⟩ 0 ws.length, .own 3 ⟨2, []⟩ 0 (itr (dB code (1 + (a : Int))) (k.1 : Nat) (s3, [])).2.length, I (1 + (a : Int)), Oo, Oo, I ((m : Int) - (k.1 : Nat)), Oo, Oo, Oo, Oo, Oo, Oo, Oo, Oo, Oo, Oo, Oo, Oo, Oo, Oo, Oo, Oo, Oo, Oo, Oo, Oo, Oo, Oo, Oo, Oo, Oo, Oo, Oo, Oo, Oo, Oo, Oo, Oo, Oo, Oo, Oo, Oo, Oo, Oo, Oo, Oo, Oo, Oo, Oo, Oo, Oo, Oo, Oo, Oo, Oo, Oo, Oo, Oo, Oo, Oo, Oo, Oo, Oo, Oo, Oo, Oo, Oo, Oo, Oo, Oo, Oo, Oo, Oo, Oo, Oo, Oo, Oo, Oo, Oo, Oo, Oo, Oo, Oo, Oo, Oo, Oo, Oo, Oo, Oo, Oo, Oo, Oo, Oo, Oo, Oo, Oo], heapL [(⟨0, []⟩, ⟨0, []⟩, srcO code (itr (dB code (1 + (a : Int))) k.1 (s3, [])).1), (⟨1, []⟩, ⟨1, []⟩, WO ws), (⟨2, []⟩, ⟨2, []⟩, BO (itr (dB code (1 + (a : Int))) k.1 (s3, [])).2)], 900⟩) (fun k => m - k.1) ⟨0, Nat.zero_le _⟩ ?_ (fun k => ?_)
  ·
    (apply Le.headZ [_, _, _] rfl)
    all_goals (try dsimp only [srcs])
    (case' hfr | hob => (repeat' (first | refine La ?_ ?_ | exact Lc | refine Lo ?_ | refine ⟨⟨_, rfl, ?_⟩, ?_⟩ | refine Lx ?_)))
    all_goals (first | (first | rfl | (simp [itr]; done)) | exact Ld)
  obtain ⟨k, hk'⟩ := k
  simp only
  by_cases hlt : k < m
  · have hM := hB k
    have hstep : itr (dB code (1 + (a : Int))) (k + 1) (s3, []) = dB code (1 + (a : Int)) (itr (dB code (1 + (a : Int))) k (s3, [])) := rfl
    generalize itr (dB code (1 + (a : Int))) k (s3, []) = q at hM hstep ⊢
    obtain ⟨sq, us⟩ := q
    obtain ⟨i1, i2⟩ := hM
    simp only at i1 i2
    obtain ⟨x, t1, x1, x2, g1, q1, M1⟩ := next_ex hc i1 (1 + (a : Int))
    obtain ⟨y, t2, y1, y2, g2, q2, M2⟩ := next_ex hc g1 (1 + (a : Int))
    obtain ⟨z, t3, z1, z2, g3, q3, M3⟩ := next_ex hc g2 16
    obtain ⟨d, t4, d1, d2, g4, q4, M4⟩ := next_ex hc g3 25
    have hst2 : itr (dB code (1 + (a : Int))) (k + 1) (s3, []) = if y ≤ x then (t4, us ++ [⟨x, y, -d⟩]) else (t3, us ++ [⟨x, y, z - 6⟩]) := by rw [hstep]; unfold dB; simp only [q1, q2, q3, q4]
    clear hstep
    have hol : (us.map Bn.row).length = us.length := BN_len
    by_cases hyx : y ≤ x
    · rw [if_pos hyx] at hst2
      repeat' (first | ((first | apply Ba | (apply Bb; (· rfl); (· rfl)) | (apply Bc; (· exact nxE)) | (apply Bd; (· rfl); (· rfl); (· exact nxE))); (· first | exact Ok.slen rfl rfl | exact Nl M1 rfl rfl rfl rfl rfl | exact Nl M2 rfl rfl rfl rfl rfl | exact Nl M3 rfl rfl rfl rfl rfl | exact Nl M4 rfl rfl rfl rfl rfl | exact Ok.append1 (row := [DI x, DI y, DI (-d)]) rfl rfl (by decide) rfl rfl hol rfl rfl rfl (by rfl) (by omega) (by omega) | exact Ok.pe)) | ((first | apply Ca | (apply Cb; (· exact nxE))); (· first | exact Nl M1 rfl rfl rfl rfl rfl | exact Nl M2 rfl rfl rfl rfl rfl | exact Nl M3 rfl rfl rfl rfl rfl | exact Nl M4 rfl rfl rfl rfl rfl | exact Ok.append1 (row := [DI x, DI y, DI (-d)]) rfl rfl (by decide) rfl rfl hol rfl rfl rfl (by rfl) (by omega) (by omega) | exact Ok.e0)) | refine Sx ?_ | (refine Sy (fun h => ?_) (fun h => ?_) <;> try (exfalso; omega; done)) | refine Sz (fun h => ?_) (fun h => ?_))
      refine ⟨⟨k + 1, by omega⟩, ?_, by simp only; omega⟩
      simp only [hst2]
      (apply Le.headZ [_, _, _] rfl)
      all_goals (try dsimp only [srcs])
      (case' hfr | hob => (repeat' (first | refine La ?_ ?_ | exact Lc | refine Lo ?_ | refine ⟨⟨_, rfl, ?_⟩, ?_⟩ | refine Lx ?_)))
      all_goals (first | (first | (rw [List.length_append]; rfl) | (rw [List.map_append]; rfl) | (simp; done)) | exact Ld)
    · rw [if_neg hyx] at hst2
      repeat' (first | ((first | apply Ba | (apply Bb; (· rfl); (· rfl)) | (apply Bc; (· exact nxE)) | (apply Bd; (· rfl); (· rfl); (· exact nxE))); (· first | exact Ok.slen rfl rfl | exact Nl M1 rfl rfl rfl rfl rfl | exact Nl M2 rfl rfl rfl rfl rfl | exact Nl M3 rfl rfl rfl rfl rfl | exact Ok.append1 (row := [DI x, DI y, DI (z - 6)]) rfl rfl (by decide) rfl rfl hol rfl rfl rfl (by rfl) (by omega) (by omega) | exact Ok.pe)) | ((first | apply Ca | (apply Cb; (· exact nxE))); (· first | exact Nl M1 rfl rfl rfl rfl rfl | exact Nl M2 rfl rfl rfl rfl rfl | exact Nl M3 rfl rfl rfl rfl rfl | exact Ok.append1 (row := [DI x, DI y, DI (z - 6)]) rfl rfl (by decide) rfl rfl hol rfl rfl rfl (by rfl) (by omega) (by omega) | exact Ok.e0)) | refine Sx ?_ | (refine Sy (fun h => ?_) (fun h => ?_) <;> try (exfalso; omega; done)) | refine Sz (fun h => ?_) (fun h => ?_))
      refine ⟨⟨k + 1, by omega⟩, ?_, by simp only; omega⟩
      simp only [hst2]
      (apply Le.headZ [_, _, _] rfl)
      all_goals (try dsimp only [srcs])
      (case' hfr | hob => (repeat' (first | refine La ?_ ?_ | exact Lc | refine Lo ?_ | refine ⟨⟨_, rfl, ?_⟩, ?_⟩ | refine Lx ?_)))
      all_goals (first | (first | (rw [List.length_append]; rfl) | (rw [List.map_append]; rfl) | (simp; done)) | exact Ld)
  obtain rfl : k = m := by omega
  rw [hBm]
  simp only
  obtain ⟨z, s5, N5, hz⟩ := hT
  have hwl2 : (WO ws).rows.length = ws.length := by simp [dobj]
  have hol : (bs.map Bn.row).length = bs.length := BN_len
  rcases hz with ⟨rfl, p1, p2, s6, rfl, rfl, K1, K2⟩ | ⟨rfl, p1, p2, s6, rfl, rfl, K1, K2⟩ | ⟨rfl, y, hy, rfl, rfl, K1⟩ | ⟨hzz, rfl, rfl, rfl⟩
  · obtain ⟨w0, hw0⟩ : ∃ w, ws[0]? = some w := ⟨ws[0]'(by omega), List.getElem?_eq_getElem (by omega)⟩
    have hrw : (WO ws).rows[0 + (0 : Int).toNat]? = some [I w0.lo, I w0.hi] := by
      show (dobj 2 (ws.map Wn.row)).rows[0]? = _
      simp [dobj, hw0, Wn.row]
    have hse : (WO ws).rows.set (0 + (0 : Int).toNat) [I p1, I p2] = (WO (ws.set 0 ⟨p1, p2⟩)).rows := by
      show (dobj 2 (ws.map Wn.row)).rows.set 0 _ = _
      simp [dobj, List.map_set, Wn.row]
    repeat' (first | ((first | apply Ba | (apply Bb; (· rfl); (· rfl)) | (apply Bc; (· exact nxE)) | (apply Bd; (· rfl); (· rfl); (· exact nxE))); (· first | exact Ok.slen rfl rfl | exact Nl N5 rfl rfl rfl rfl rfl | exact Kl K1 rfl rfl rfl rfl rfl rfl (by decide) | exact Kl K2 rfl rfl rfl rfl rfl rfl (by decide) | exact Ok.bs3 rfl rfl rfl rfl rfl | exact Ok.storeA rfl rfl rfl rfl hrw (Nat.le_refl 2) rfl rfl rfl hse | exact Ok.pe)) | ((first | apply Ca | (apply Cb; (· exact nxE))); (· first | exact Nl N5 rfl rfl rfl rfl rfl | exact Kl K1 rfl rfl rfl rfl rfl rfl (by decide) | exact Kl K2 rfl rfl rfl rfl rfl rfl (by decide) | exact Ok.bs3 rfl rfl rfl rfl rfl | exact Ok.storeA rfl rfl rfl rfl hrw (Nat.le_refl 2) rfl rfl rfl hse | exact Ok.e0)) | refine Sx ?_ | (refine Sy (fun h => ?_) (fun h => ?_) <;> try (exfalso; omega; done)) | refine Sz (fun h => ?_) (fun h => ?_))
    refine Yb ?_
    (apply Le.headZ [⟨0, []⟩, _, _] rfl)
    all_goals (try dsimp only [srcs])
    (case' hfr | hob => (repeat' (first | refine La ?_ ?_ | exact Lc | refine Lo ?_ | refine ⟨⟨_, rfl, ?_⟩, ?_⟩ | refine Lx ?_)))
    all_goals (first | (first | rfl | (rw [List.length_set]; rfl) | (simp; done)) | exact Ld)
  ·
    repeat' (first | ((first | apply Ba | (apply Bb; (· rfl); (· rfl)) | (apply Bc; (· exact nxE)) | (apply Bd; (· rfl); (· rfl); (· exact nxE))); (· first | exact Ok.slen rfl rfl | exact Nl N5 rfl rfl rfl rfl rfl | exact Kl K1 rfl rfl rfl rfl rfl rfl (by decide) | exact Kl K2 rfl rfl rfl rfl rfl rfl (by decide) | exact Ok.bs3 rfl rfl rfl rfl rfl | exact Ok.append1 (row := [DI p1, DI 0, DI p2]) rfl rfl (by decide) rfl rfl hol rfl rfl rfl (by rfl) (by omega) (by omega) | exact Ok.pe)) | ((first | apply Ca | (apply Cb; (· exact nxE))); (· first | exact Nl N5 rfl rfl rfl rfl rfl | exact Kl K1 rfl rfl rfl rfl rfl rfl (by decide) | exact Kl K2 rfl rfl rfl rfl rfl rfl (by decide) | exact Ok.bs3 rfl rfl rfl rfl rfl | exact Ok.append1 (row := [DI p1, DI 0, DI p2]) rfl rfl (by decide) rfl rfl hol rfl rfl rfl (by rfl) (by omega) (by omega) | exact Ok.e0)) | refine Sx ?_ | (refine Sy (fun h => ?_) (fun h => ?_) <;> try (exfalso; omega; done)) | refine Sz (fun h => ?_) (fun h => ?_))
    refine Yb ?_
    (apply Le.headZ [⟨0, []⟩, _, _] rfl)
    all_goals (try dsimp only [srcs])
    (case' hfr | hob => (repeat' (first | refine La ?_ ?_ | exact Lc | refine Lo ?_ | refine ⟨⟨_, rfl, ?_⟩, ?_⟩ | refine Lx ?_)))
    all_goals (first | (first | rfl | (rw [List.length_append]; rfl) | (rw [List.map_append]; rfl) | (simp; done)) | exact Ld)
  ·
    obtain ⟨q, hq⟩ : ∃ q : Nat, 10 + y = q := ⟨_, rfl⟩
    have hmI : ((q : Nat) : Int) = 10 + (y : Int) := by omega
    rw [hq]
    repeat' (first | ((first | apply Ba | (apply Bb; (· rfl); (· rfl)) | (apply Bc; (· exact nxE)) | (apply Bd; (· rfl); (· rfl); (· exact nxE))); (· first | exact Ok.slen rfl rfl | exact Nl N5 rfl rfl rfl rfl rfl | exact Nl K1 rfl rfl rfl rfl rfl | exact Ok.makeN (n := q) rfl (by rw [hmI]; rfl) (by rw [hmI]; rfl) (by omega) (by omega) | exact Ok.pe)) | ((first | apply Ca | (apply Cb; (· exact nxE))); (· first | exact Nl N5 rfl rfl rfl rfl rfl | exact Nl K1 rfl rfl rfl rfl rfl | exact Ok.makeN (n := q) rfl (by rw [hmI]; rfl) (by rw [hmI]; rfl) (by omega) (by omega) | exact Ok.e0)) | refine Sx ?_ | (refine Sy (fun h => ?_) (fun h => ?_) <;> try (exfalso; omega; done)) | refine Sz (fun h => ?_) (fun h => ?_))
    refine Yb ?_
    (apply Le.headZ [⟨0, []⟩, _, _] rfl)
    all_goals (try dsimp only [srcs])
    (case' hfr | hob => (repeat' (first | refine La ?_ ?_ | exact Lc | refine Lo ?_ | refine ⟨⟨_, rfl, ?_⟩, ?_⟩ | refine Lx ?_)))
    all_goals (first | (first | rfl | (rw [List.map_replicate]; rfl) | (simp; done)) | exact Ld)
  ·
    repeat' (first | ((first | apply Ba | (apply Bb; (· rfl); (· rfl)) | (apply Bc; (· exact nxE)) | (apply Bd; (· rfl); (· rfl); (· exact nxE))); (· first | exact Ok.slen rfl rfl | exact Nl N5 rfl rfl rfl rfl rfl | exact Ok.pe)) | ((first | apply Ca | (apply Cb; (· exact nxE))); (· first | exact Nl N5 rfl rfl rfl rfl rfl | exact Ok.e0)) | refine Sx ?_ | (refine Sy (fun h => ?_) (fun h => ?_) <;> try (exfalso; omega; done)) | refine Sz (fun h => ?_) (fun h => ?_))
    refine Yb ?_
    (apply Le.headZ [⟨0, []⟩, _, _] rfl)
    all_goals (try dsimp only [srcs])
    (case' hfr | hob => (repeat' (first | refine La ?_ ?_ | exact Lc | refine Lo ?_ | refine ⟨⟨_, rfl, ?_⟩, ?_⟩ | refine Lx ?_)))
    all_goals (first | (first | rfl | (simp; done)) | exact Ld)
end Go.Proofs.Ytkpoclbnnpglfaa
end

section
namespace Go.Proofs.Ytkpoclbnnpglfaa
set_option linter.unusedSimpArgs false
set_option linter.unusedVariables false
open Go Go.RowKit
section
variable {P : Program} {o : Oper} {A : Operand → AV} {H : Heap} {new : Nat}
theorem Mr [Mode] {fo x : Operand} {ts : Array TypeId} {f : FuncId} {l : Loc} {code : List Int} {s s' : Src} {ob ob' : AObj} {res res' : AV} (hc : AC P f [Bx 3 0] (srcH code s) res (hp3 (srcO code s') ob ob')) (ho : o.op = .call { callee := .value fo, args := #[x], argTypes := ts }) [FnBody P f] (hfo : A fo = .clo (.func f) [] [])
    (hx : A x = .ptr 3 l 0 0) (hl : H l = some (srcO code s)) (hrn : ∀ g, rnO g ob = ob) (hrn' : ∀ g, rnO g ob' = ob') (hr : rn (emb (fun _ => l) [⟨0, []⟩] new) res = res') : OpOk P o A [l] H new res' [.one l (some (srcO code s')), .one ⟨new, [1]⟩ (some ob), .one ⟨new, [2]⟩ (some ob')] :=
  OpOk.callMr2 (xs := [x]) ho hfo hc hl hrn hrn' (by
    show ARs _ _ _ _ _ [A x]
    rw [hx]; exact .cons (AR.ptr 3 ⟨0, []⟩ 0 0 rfl) .nil) hr
end
theorem l23Draw_ex [Mode] (code : List Int) (hc : CodeOk code) (s : Src) (hs : SrcOk code s) : ∃ ws bs s', SrcOk code s' ∧ ws.length ≤ 100 ∧ bs.length ≤ 100 ∧ AC Try.prog 73 [Bx 3 0] (srcH code s) (.tup [.own 2 ⟨1, []⟩ 0 ws.length, .own 3 ⟨2, []⟩ 0 bs.length]) (hp3 (srcO code s') (WO ws) (BO bs)) := by
  obtain ⟨a0, s1, a1, a2, g1, _, N1⟩ := next_ex hc hs 5
  obtain ⟨a, rfl⟩ : ∃ a : Nat, a0 = a := ⟨a0.toNat, by omega⟩
  have hW := dW_it hc g1
  obtain ⟨q, hq⟩ : ∃ q, itr (dW code) (a + 1) (s1, []) = q := ⟨_, rfl⟩
  have hq1 := hW (a + 1)
  rw [hq] at hq1
  obtain ⟨s2, ws⟩ := q
  obtain ⟨g2, hwl⟩ := hq1
  simp only at g2 hwl
  obtain ⟨m0, s3, m1, m2, g3, _, N2⟩ := next_ex hc g2 8
  obtain ⟨m, rfl⟩ : ∃ m : Nat, m0 = m := ⟨m0.toNat, by omega⟩
  have hB := dB_it hc (1 + (a : Int)) g3
  obtain ⟨p, hp⟩ : ∃ p, itr (dB code (1 + (a : Int))) m (s3, []) = p := ⟨_, rfl⟩
  have hp1 := hB m
  rw [hp] at hp1
  obtain ⟨s4, bs⟩ := p
  obtain ⟨g4, hbl⟩ := hp1
  simp only at g4 hbl
  obtain ⟨ws2, bs2, s9, g9, hw2, hb2, hT⟩ := tailW_ex hc g4 (1 + (a : Int)) ws bs
  exact ⟨ws2, bs2, s9, g9, by omega, by omega, l23Draw_w code hc s s1 s2 s3 s4 s9 a m ws ws2 bs bs2 (by omega) (by omega) N1 hW hq hwl N2 hB hp hbl hT⟩
attribute [local irreducible] AL AD AW OpOk Le AC thenQ blockQ EndQ

set_option maxHeartbeats 8000000 in
theorem drawFindTour_ex [Mode] (code : List Int) (hc : CodeOk code) : ∃ ws bs, ws.length ≤ 200 ∧ bs.length ≤ 200 ∧ AC Try.prog 27 [.d (BD code)] H0 (.tup [WNL ws, BNL bs]) H0 := by
  have hF := l01From_ac code hc
  obtain ⟨ws, bs, s1, h1, hwl, hbl, hG⟩ := l23Draw_ex code hc _ (src0_ok hc)
  obtain ⟨z, s2, z1, z2, h2, _, N2⟩ := next_ex hc h1 2
  by_cases hg : z = 0 ∧ 0 < bs.length ∧ bs.length < 9
  · obtain ⟨rfl, hb0, hb9⟩ := hg
    obtain ⟨j0, s3, j1, j2, h3, _, N3⟩ := next_ex hc h2 (bs.length : Int)
    obtain ⟨j, rfl⟩ : ∃ j : Nat, j0 = j := ⟨j0.toNat, by omega⟩
    obtain ⟨y, s4, y1, y2, h4, _, N4⟩ := next_ex hc h3 12
    obtain ⟨b, hbj⟩ : ∃ b, bs[j]? = some b := ⟨bs[j]'(by omega), List.getElem?_eq_getElem (by omega)⟩
    have hrb : (BO bs).rows[0 + ((j : Nat) : Int).toNat]? = some [I b.f, I b.t, I b.l] := by
      rw [Nat.zero_add, Int.toNat_natCast]
      simp [dobj, hbj, Bn.row]
    have hol : (bs.map Bn.row).length = bs.length := BN_len
    refine ⟨ws, bs ++ [⟨b.t, b.f, y - 4⟩], by omega, by simp; omega, ?_⟩
    refine AC.frz (res := .tup [.own 2 ⟨0, []⟩ 0 ws.length, .own 3 ⟨1, []⟩ 0 (bs ++ [(⟨b.t, b.f, y - 4⟩ : Bn)]).length]) (H' := hp2 (WO ws) (BO (bs ++ [⟨b.t, b.f, y - 4⟩]))) ?_ (ARs.tup (.cons (AR.whole rfl trivial WN_len) (.cons (AR.whole rfl trivial BN_len) .nil)))
    refine AC.of_body 0 Try.func27 rfl (fun l h => absurd rfl h) (fun C hC => ?_)
    have hD : ∀ l, ¬ C.D0 l := fun l h => (hC l).1 h rfl
    simp only [startFr, Try.ntmps27, List.length_cons, List.length_nil, Nat.reduceAdd, Nat.reduceSub, List.replicate_succ, List.replicate_zero, List.cons_append, List.nil_append]
    repeat' (first | ((first | apply Ba | (apply Bb; (· rfl); (· rfl)) | (apply Bc; (· exact nxE)) | (apply Bd; (· rfl); (· rfl); (· exact nxE))); (· first | exact OpOk.loadAgg rfl rfl rfl rfl hrb (Nat.le_refl 3) | exact Fx hF rfl rfl rfl | exact Mr hG rfl rfl rfl rfl (fun _ => rnO_dobj _ _ _) (fun _ => rnO_dobj _ _ _) (by simp only [rn, List.map_cons, List.map_nil]; rw [emb_one (by decide), emb_one (by decide)]) | exact Nl N2 rfl rfl rfl rfl rfl | exact Nl N3 rfl rfl rfl rfl rfl | exact Nl N4 rfl rfl rfl rfl rfl | exact Ok.append1 (row := [DI b.t, DI b.f, DI (y - 4)]) rfl rfl (by decide) rfl rfl hol rfl rfl rfl (by rfl) (by omega) (by omega) | exact Ok.pe)) | ((first | apply Ca | (apply Cb; (· exact nxE))); (· first | exact Fx hF rfl rfl rfl | exact Mr hG rfl rfl rfl rfl (fun _ => rnO_dobj _ _ _) (fun _ => rnO_dobj _ _ _) (by simp only [rn, List.map_cons, List.map_nil]; rw [emb_one (by decide), emb_one (by decide)]) | exact Nl N2 rfl rfl rfl rfl rfl | exact Nl N3 rfl rfl rfl rfl rfl | exact Nl N4 rfl rfl rfl rfl rfl | exact Ok.append1 (row := [DI b.t, DI b.f, DI (y - 4)]) rfl rfl (by decide) rfl rfl hol rfl rfl rfl (by rfl) (by omega) (by omega) | exact Ok.e0)) | refine Sx ?_ | (refine Sy (fun h => ?_) (fun h => ?_) <;> try (exfalso; omega; done)) | refine Sz (fun h => ?_) (fun h => ?_))
    refine Yb ?_
    (apply Le.head [(⟨0, []⟩, _, _), (⟨1, []⟩, _, _)])
    (case' hfr | hob => (repeat' (first | refine La ?_ ?_ | exact Lc | refine Lo ?_ | refine ⟨⟨_, rfl, ?_⟩, ?_⟩ | refine Lx ?_)))
    all_goals (first | exact Ld | (first | rfl | (rw [List.length_append]; rfl) | (rw [List.map_append]; rfl) | (simp; done)))
  · refine ⟨ws, bs, by omega, by omega, ?_⟩
    refine AC.frz (res := .tup [.own 2 ⟨0, []⟩ 0 ws.length, .own 3 ⟨1, []⟩ 0 bs.length]) (H' := hp2 (WO ws) (BO bs)) ?_ (ARs.tup (.cons (AR.whole rfl trivial WN_len) (.cons (AR.whole rfl trivial BN_len) .nil)))
    by_cases hz : z = 0
    · subst hz
      have hnb : ¬ (0 < bs.length ∧ bs.length < 9) := fun h => hg ⟨rfl, h⟩
      refine AC.of_body 0 Try.func27 rfl (fun l h => absurd rfl h) (fun C hC => ?_)
      have hD : ∀ l, ¬ C.D0 l := fun l h => (hC l).1 h rfl
      simp only [startFr, Try.ntmps27, List.length_cons, List.length_nil, Nat.reduceAdd, Nat.reduceSub, List.replicate_succ, List.replicate_zero, List.cons_append, List.nil_append]
      repeat' (first | ((first | apply Ba | (apply Bb; (· rfl); (· rfl)) | (apply Bc; (· exact nxE)) | (apply Bd; (· rfl); (· rfl); (· exact nxE))); (· first | exact Fx hF rfl rfl rfl | exact Mr hG rfl rfl rfl rfl (fun _ => rnO_dobj _ _ _) (fun _ => rnO_dobj _ _ _) (by simp only [rn, List.map_cons, List.map_nil]; rw [emb_one (by decide), emb_one (by decide)]) | exact Nl N2 rfl rfl rfl rfl rfl | exact Ok.pe)) | ((first | apply Ca | (apply Cb; (· exact nxE))); (· first | exact Fx hF rfl rfl rfl | exact Mr hG rfl rfl rfl rfl (fun _ => rnO_dobj _ _ _) (fun _ => rnO_dobj _ _ _) (by simp only [rn, List.map_cons, List.map_nil]; rw [emb_one (by decide), emb_one (by decide)]) | exact Nl N2 rfl rfl rfl rfl rfl | exact Ok.e0)) | refine Sx ?_ | (refine Sy (fun h => ?_) (fun h => ?_) <;> try (exfalso; omega; done)) | refine Sz (fun h => ?_) (fun h => ?_))
      all_goals
        refine Yb ?_
        (apply Le.head [(⟨0, []⟩, _, _), (⟨1, []⟩, _, _)])
        (case' hfr | hob => (repeat' (first | refine La ?_ ?_ | exact Lc | refine Lo ?_ | refine ⟨⟨_, rfl, ?_⟩, ?_⟩ | refine Lx ?_)))
        all_goals (first | exact Ld | (rfl))
    · clear hg
      refine AC.of_body 0 Try.func27 rfl (fun l h => absurd rfl h) (fun C hC => ?_)
      have hD : ∀ l, ¬ C.D0 l := fun l h => (hC l).1 h rfl
      simp only [startFr, Try.ntmps27, List.length_cons, List.length_nil, Nat.reduceAdd, Nat.reduceSub, List.replicate_succ, List.replicate_zero, List.cons_append, List.nil_append]
      repeat' (first | ((first | apply Ba | (apply Bb; (· rfl); (· rfl)) | (apply Bc; (· exact nxE)) | (apply Bd; (· rfl); (· rfl); (· exact nxE))); (· first | exact Fx hF rfl rfl rfl | exact Mr hG rfl rfl rfl rfl (fun _ => rnO_dobj _ _ _) (fun _ => rnO_dobj _ _ _) (by simp only [rn, List.map_cons, List.map_nil]; rw [emb_one (by decide), emb_one (by decide)]) | exact Nl N2 rfl rfl rfl rfl rfl | exact Ok.pe)) | ((first | apply Ca | (apply Cb; (· exact nxE))); (· first | exact Fx hF rfl rfl rfl | exact Mr hG rfl rfl rfl rfl (fun _ => rnO_dobj _ _ _) (fun _ => rnO_dobj _ _ _) (by simp only [rn, List.map_cons, List.map_nil]; rw [emb_one (by decide), emb_one (by decide)]) | exact Nl N2 rfl rfl rfl rfl rfl | exact Ok.e0)) | refine Sx ?_ | (refine Sy (fun h => ?_) (fun h => ?_) <;> try (exfalso; omega; done)) | refine Sz (fun h => ?_) (fun h => ?_))
      all_goals
        refine Yb ?_
        (apply Le.head [(⟨0, []⟩, _, _), (⟨1, []⟩, _, _)])
        (case' hfr | hob => (repeat' (first | refine La ?_ ?_ | exact Lc | refine Lo ?_ | refine ⟨⟨_, rfl, ?_⟩, ?_⟩ | refine Lx ?_)))
        all_goals (first | exact Ld | (rfl))
theorem drawFindSqueeze_ex [Mode] (code : List Int) (hc : CodeOk code) : ∃ ws bs, ws.length ≤ 200 ∧ bs.length ≤ 200 ∧ AC Try.prog 6 [.d (BD code)] H0 (.tup [WNL ws, BNL bs]) H0 := by
  obtain ⟨ws, bs, h1, h2, hT⟩ := drawFindTour_ex code hc
  refine ⟨ws, bs, h1, h2, ?_⟩
  refine AC.of_body 0 Try.func6 rfl (fun l h => absurd rfl h) (fun C hC => ?_)
  have hD : ∀ l, ¬ C.D0 l := fun l h => (hC l).1 h rfl
  simp only [startFr, Try.ntmps6, List.length_cons, List.length_nil, Nat.reduceAdd, Nat.reduceSub, List.replicate_succ, List.replicate_zero, List.cons_append, List.nil_append]
  repeat' (first | ((first | apply Ba | (apply Bb; (· rfl); (· rfl)) | (apply Bc; (· exact nxE)) | (apply Bd; (· rfl); (· rfl); (· exact nxE))); (· first | exact Kz rfl rfl (hT) (Ad An) | exact Ok.pe)) | ((first | apply Ca | (apply Cb; (· exact nxE))); (· first | exact Ok.e0)) | refine Sx ?_ | (refine Sy (fun h => ?_) (fun h => ?_) <;> try (exfalso; omega; done)) | refine Sz (fun h => ?_) (fun h => ?_))
  refine Yb ?_
  (apply Le.headZ (hs := []) [] rfl)
  all_goals (try dsimp only [srcs])
  (case' hfr => (repeat' (first | refine La ?_ ?_ | exact Lc | refine Lo ?_ | refine ⟨⟨_, rfl, ?_⟩, ?_⟩ | refine Lx ?_)))
  all_goals (first | exact Ld | exact trivial | (rfl))
end Go.Proofs.Ytkpoclbnnpglfaa
end
