/-
  Walks in the abstract reading, part 9.
-/
import Derived.Test.YtofakjlamoigcaaGreatDoorKsR31
import Derived.Test.YtofakjlamoigcaaGreatDoorKsU8
import Derived.Test.YtofakjlamoigcaaGreatDoorKsU5
import Derived.Laws.Bits64b
import Derived.Test.YtofakjlamoigcaaGreatDoorKsA3
import Derived.Test.YtofakjlamoigcaaGreatDoorKsU2
import Derived.Test.YtofakjlamoigcaaGreatDoorRows
import Derived.ProofKit
import Derived.LaidMore
import Derived.OpenShut
import Derived.Stop.Joined
import Derived.Stop.LaidErr
section
namespace Go.Proofs.YtofakjlamoigcaaGreatDoor
set_option linter.unusedSimpArgs false
set_option linter.unusedVariables false
open Go Go.RowKit
/-- Zero bytes. -/
def zB (n : Nat) : List UInt8 := List.replicate n 0
theorem zB_len [Mode] (n : Nat) : (zB n).length = n := by simp [zB]
section
variable {P : Program} {o : Oper} {A : Operand → AV} {H : Heap} {new : Nat}
theorem Ok.makeB [Mode] {t e : TypeId} {x y : Operand} {b n : Nat} (ho : o.op = .makeSlice t x y) (hx : A x = I (n : Nat)) (hy : A y = I (n : Nat)) [h : TySlice P t e 1 b (.int .u8 0)] (hb : b * n ≤ 281474976710656) (h63 : n ≤ 9223372036854775807) :
    OpOk P o A [] H new (.own 1 ⟨new, []⟩ 0 n) [.one ⟨new, []⟩ (some (dobj 1 (byR (zB n))))] := by
  have := Ok.makeN (P := P) (H := H) (new := new) (A := A) ho hx hy hb h63
  have e : List.replicate n ((Value.int IntKind.u8 0).cells.toList.map D.v) = byR (zB n) := by
    simp [byR, zB, Value.cells]
  rwa [e] at this
theorem Ok.sToR [Mode] {t : TypeId} {x hi : Operand} {a r : List UInt8} {j : Nat} {jz : Int} (hr : a.take j = r) (hh : j ≤ a.length) (ho : o.op = .slice t x none (some hi) none) (hx : A x = Str a) (hj : A hi = I jz) [TyString P t] (e : jz = j) : OpOk P o A [] H new (Str r) [] := hr ▸ Ok.sTo ho hx hj e hh
theorem Ok.sliceTE [Mode] {α : Type} {row : α → List D} {xs ys : List α} {t e : TypeId} {x y : Operand} {k b m : Nat} {i : Int} {z : Value} (hr : xs.take m = ys) (ho : o.op = .slice t x none (some y) none) [h : TySlice P t e k b z] (hx : A x = .d (.sl k (xs.map row))) (hy : A y = I i) (hi : i = (m : Nat)) (h1 : m ≤ xs.length) : OpOk P o A [] H new (.d (.sl k (ys.map row))) [] := hr ▸ Ok.sliceTk ho hx hy hi h1
theorem Ok.addE [Mode] {t t' : TypeId} {x y : Operand} {a b c : Int} (ho : o.op = .binOp .add t x y t') (hx : A x = I a) (hy : A y = I b) (h0 : -9223372036854775808 ≤ a + b) (h1 : a + b ≤ 9223372036854775807) (he : a + b = c) : OpOk P o A [] H new (I c) [] := he ▸ Ok.add ho hx hy h0 h1
end
attribute [irreducible] zB
theorem fiR_len [Mode] (fs : List Fi) : ∀ r ∈ fs.map Fi.row, r.length = 3 := fun r hr => by
  obtain ⟨f, _, rfl⟩ := List.mem_map.1 hr; rfl
theorem fiR_one [Mode] (fs : List Fi) : ∀ r ∈ fs.map Fi.row, (r.map AV.d).all AV.one = true := fun r hr => by
  obtain ⟨f, _, rfl⟩ := List.mem_map.1 hr; rfl
theorem ttT_len [Mode] (fs : List Fi) : (ttT fs).length ≤ 10000 := by
  unfold ttT
  split
  · rename_i h; exact trace_short h
  · simp
theorem ar_snoc [Mode] {H : Heap} {lent : Loc → Prop} {τ : Loc → Loc} {L : Loc → Prop} {fs : List Fi} {f : Fi} {l : Loc} {n : Nat} (h : H l = some (dobj 3 (([] ++ fs.map Fi.row) ++ [Fi.row f]))) (hl : lent l) (hn : 0 + fs.length + 1 = n) : AR H lent τ L (FL (fs ++ [f])) (.own 3 l 0 n) := by
  have e : (fs ++ [f]).map Fi.row = ([] ++ fs.map Fi.row) ++ [Fi.row f] := by simp
  show AR H lent τ L (.d (.sl 3 ((fs ++ [f]).map Fi.row))) _
  rw [e]
  exact AR.whole h hl (by rw [← hn]; simp)
attribute [local irreducible] AL AD AW OpOk Le AC thenQ blockQ EndQ

set_option maxHeartbeats 4000000 in
theorem l28Draw_ex [Mode] (code : List Int) (hc : CodeOk code) (s : Src) (hs : SrcOk code s) : ∃ (fs : List Fi) (s' : Src), SrcOk code s' ∧ fs.length ≤ 502 ∧ AC Tryz.prog 35 [Bx 3 0] (srcH code s) (FL fs) (srcH code s') := by
  obtain ⟨ev, xs, fs, s1, h1, hx, hf, hG⟩ := l14Draw_ex code hc s hs
  obtain ⟨z, s2, z1, z2, h2, q2, N2⟩ := next_ex hc h1 24
  obtain ⟨a, s3, _, h3, _, _, K3⟩ := pick_ex hc h2 [9, 10, 0] 3 rfl
  obtain ⟨b, s4, _, h4, _, _, K4⟩ := pick_ex hc h3 [1000000, 1000001, -1] 3 rfl
  have hfl : (fs.map Fi.row).length = fs.length := FL_len
  have hfl0 : (([] : List (List D)) ++ fs.map Fi.row).length = 0 + fs.length := by simp
  by_cases hz : z = 0
  · subst hz
    refine ⟨fs ++ [⟨a, 0, b⟩], s4, h4, by simp; omega, ?_⟩
    show AC _ _ _ (heapL [(⟨0, []⟩, ⟨0, []⟩, srcO code s)]) _ _
    refine AC.of_body 1 Tryz.func35 rfl (fun l h => by simp [heapL, upd] at h; simp [h]) (fun C hC => ?_)
    simp only [startFr, Tryz.ntmps35, List.length_cons, List.length_nil, Nat.reduceAdd, Nat.reduceSub, List.replicate_succ, List.replicate_zero, List.cons_append, List.nil_append]
    have hD : ∀ l, C.D0 l → l = ⟨0, []⟩ := fun l h => by have := (hC l).1 h; simp [heapL, upd] at this; exact this
    repeat' (first | ((first | apply Ba | (apply Bb; (· rfl); (· rfl)) | (apply Bc; (· exact nxE)) | (apply Bd; (· rfl); (· rfl); (· exact nxE))); (· first | exact Ok.slen rfl rfl | exact Zx (args := []) hG rfl rfl rfl rfl .nil (fun _ => by simp [rn]) | exact Nx N2 rfl rfl rfl rfl rfl | exact Ok.appendD (rows := []) rfl rfl (by decide) rfl rfl rfl rfl hfl (fiR_len fs) (fiR_one fs) (by omega) (by omega) | exact Kx K3 rfl rfl rfl rfl rfl rfl (by decide) | exact Kx K4 rfl rfl rfl rfl rfl rfl (by decide) | exact Ok.bs3 rfl rfl rfl rfl rfl | exact Ok.append1 (row := [DI a, DI 0, DI b]) rfl rfl (by decide) rfl rfl hfl0 rfl rfl rfl (by rfl) (by omega) (by omega) | exact Ok.pe)) | ((first | apply Ca | (apply Cb; (· exact nxE))); (· first | exact Zx (args := []) hG rfl rfl rfl rfl .nil (fun _ => by simp [rn]) | exact Nx N2 rfl rfl rfl rfl rfl | exact Ok.appendD (rows := []) rfl rfl (by decide) rfl rfl rfl rfl hfl (fiR_len fs) (fiR_one fs) (by omega) (by omega) | exact Kx K3 rfl rfl rfl rfl rfl rfl (by decide) | exact Kx K4 rfl rfl rfl rfl rfl rfl (by decide) | exact Ok.bs3 rfl rfl rfl rfl rfl | exact Ok.append1 (row := [DI a, DI 0, DI b]) rfl rfl (by decide) rfl rfl hfl0 rfl rfl rfl (by rfl) (by omega) (by omega) | exact Ok.e0)) | refine Sx ?_ | (refine Sy (fun h => ?_) (fun h => ?_) <;> try (exfalso; omega; done)) | refine Sz (fun h => ?_) (fun h => ?_))
    all_goals
      refine Ya ?_
      (apply Le.headZ (hs := [(⟨0, []⟩, ⟨0, []⟩, _)]) [⟨0, []⟩] rfl)
      all_goals (try dsimp only [srcs])
      (case' hfr | hob => (repeat' (first | refine La ?_ ?_ | refine ARs.agg ?_ | refine ARs.tup ?_ | (exact ar_snoc (f := ⟨a, 0, b⟩) rfl (by simp) rfl) | refine La ?_ ?_ | exact Lc | refine Lo ?_ | refine ⟨⟨_, rfl, ?_⟩, ?_⟩ | refine Lx ?_)))
      all_goals (first | exact Ld | exact trivial | (exact ar_snoc (f := ⟨a, 0, b⟩) rfl (by simp) rfl))
  · refine ⟨fs, s2, h2, by omega, ?_⟩
    show AC _ _ _ (heapL [(⟨0, []⟩, ⟨0, []⟩, srcO code s)]) _ _
    refine AC.of_body 1 Tryz.func35 rfl (fun l h => by simp [heapL, upd] at h; simp [h]) (fun C hC => ?_)
    simp only [startFr, Tryz.ntmps35, List.length_cons, List.length_nil, Nat.reduceAdd, Nat.reduceSub, List.replicate_succ, List.replicate_zero, List.cons_append, List.nil_append]
    have hD : ∀ l, C.D0 l → l = ⟨0, []⟩ := fun l h => by have := (hC l).1 h; simp [heapL, upd] at this; exact this
    repeat' (first | ((first | apply Ba | (apply Bb; (· rfl); (· rfl)) | (apply Bc; (· exact nxE)) | (apply Bd; (· rfl); (· rfl); (· exact nxE))); (· first | exact Ok.slen rfl rfl | exact Zx (args := []) hG rfl rfl rfl rfl .nil (fun _ => by simp [rn]) | exact Nx N2 rfl rfl rfl rfl rfl | exact Ok.pe)) | ((first | apply Ca | (apply Cb; (· exact nxE))); (· first | exact Zx (args := []) hG rfl rfl rfl rfl .nil (fun _ => by simp [rn]) | exact Nx N2 rfl rfl rfl rfl rfl | exact Ok.e0)) | refine Sx ?_ | (refine Sy (fun h => ?_) (fun h => ?_) <;> try (exfalso; omega; done)) | refine Sz (fun h => ?_) (fun h => ?_))
    all_goals
      refine Ya ?_
      (apply Le.headZ (hs := [(⟨0, []⟩, ⟨0, []⟩, _)]) [⟨0, []⟩] rfl)
      all_goals (try dsimp only [srcs])
      (case' hfr | hob => (repeat' (first | refine La ?_ ?_ | exact Lc | refine Lo ?_ | refine ⟨⟨_, rfl, ?_⟩, ?_⟩ | refine Lx ?_)))
      all_goals (first | exact Ld | exact trivial | (rfl))
set_option maxHeartbeats 4000000 in
theorem l28DrawText_ex [Mode] (code : List Int) (hc : CodeOk code) (s : Src) (hs : SrcOk code s) : ∃ (t : List UInt8) (s' : Src), SrcOk code s' ∧ t.length ≤ 40000 ∧ AC Tryz.prog 42 [Bx 3 0] (srcH code s) (Str t) (srcH code s') := by
  obtain ⟨fs, s1, h1, hf, hG⟩ := l28Draw_ex code hc s hs
  have hT := sTraceText_ac fs (by omega)
  have hTl := ttT_len fs
  generalize ttT fs = t at *
  generalize wrC fs = c at *
  obtain ⟨z, s2, z1, z2, h2, q2, N2⟩ := next_ex hc h1 3
  obtain ⟨t', s3, h3, hl3, hDm⟩ := l01Damage_ex code hc s2 h2 t (by omega)
  obtain ⟨y, s4, y1, y2, h4, q4, N4⟩ := next_ex hc h2 60
  obtain ⟨w, s5, w1, w2, h5, q5, N5⟩ := next_ex hc h4 2
  obtain ⟨m, hm⟩ : ∃ m : Nat, 20000 + w = m := ⟨(20000 + w).toNat, by omega⟩
  by_cases hz : z = 0
  · subst hz
    refine ⟨t', s3, h3, by omega, ?_⟩
    show AC _ _ _ (heapL [(⟨0, []⟩, ⟨0, []⟩, srcO code s)]) _ _
    refine AC.of_body 1 Tryz.func42 rfl (fun l h => by simp [heapL, upd] at h; simp [h]) (fun C hC => ?_)
    simp only [startFr, Tryz.ntmps42, List.length_cons, List.length_nil, Nat.reduceAdd, Nat.reduceSub, List.replicate_succ, List.replicate_zero, List.cons_append, List.nil_append]
    have hD : ∀ l, C.D0 l → l = ⟨0, []⟩ := fun l h => by have := (hC l).1 h; simp [heapL, upd] at this; exact this
    repeat' (first | ((first | apply Ba | (apply Bb; (· rfl); (· rfl)) | (apply Bc; (· exact nxE)) | (apply Bd; (· rfl); (· rfl); (· exact nxE))); (· first | exact Kz rfl rfl (hT) (Ad An) | exact Ok.slen rfl rfl | exact Zx (args := []) hG rfl rfl rfl rfl .nil (fun _ => by simp [rn]) | exact Nx N2 rfl rfl rfl rfl rfl | exact Zl (args := [Str t]) hDm rfl rfl rfl rfl (ARs.cons (.dd _) .nil) (fun _ => by simp [rn]) | exact Ok.pe)) | ((first | apply Ca | (apply Cb; (· exact nxE))); (· first | exact Zx (args := []) hG rfl rfl rfl rfl .nil (fun _ => by simp [rn]) | exact Nx N2 rfl rfl rfl rfl rfl | exact Zl (args := [Str t]) hDm rfl rfl rfl rfl (ARs.cons (.dd _) .nil) (fun _ => by simp [rn]) | exact Ok.e0)) | refine Sx ?_ | (refine Sy (fun h => ?_) (fun h => ?_) <;> try (exfalso; omega; done)) | refine Sz (fun h => ?_) (fun h => ?_))
    all_goals
      refine Ya ?_
      (apply Le.headZ (hs := [(⟨0, []⟩, ⟨0, []⟩, _)]) [⟨0, []⟩] rfl)
      all_goals (try dsimp only [srcs])
      (case' hfr | hob => (repeat' (first | refine La ?_ ?_ | exact Lc | refine Lo ?_ | refine ⟨⟨_, rfl, ?_⟩, ?_⟩ | refine Lx ?_)))
      all_goals (first | exact Ld | exact trivial | (rfl))
  by_cases hy : y = 0
  · subst hy
    refine ⟨zB m, s5, h5, by rw [zB_len]; omega, ?_⟩
    have hzl := zB_len m
    show AC _ _ _ (heapL [(⟨0, []⟩, ⟨0, []⟩, srcO code s)]) _ _
    refine AC.of_body 1 Tryz.func42 rfl (fun l h => by simp [heapL, upd] at h; simp [h]) (fun C hC => ?_)
    simp only [startFr, Tryz.ntmps42, List.length_cons, List.length_nil, Nat.reduceAdd, Nat.reduceSub, List.replicate_succ, List.replicate_zero, List.cons_append, List.nil_append]
    have hD : ∀ l, C.D0 l → l = ⟨0, []⟩ := fun l h => by have := (hC l).1 h; simp [heapL, upd] at this; exact this
    repeat' (first | ((first | apply Ba | (apply Bb; (· rfl); (· rfl)) | (apply Bc; (· exact nxE)) | (apply Bd; (· rfl); (· rfl); (· exact nxE))); (· first | exact Kz rfl rfl (hT) (Ad An) | exact Ok.addE rfl rfl rfl (by omega) (by omega) hm | exact Ok.strOf rfl rfl rfl hzl Tryz.underlying5 | exact Ok.slen rfl rfl | exact Zx (args := []) hG rfl rfl rfl rfl .nil (fun _ => by simp [rn]) | exact Nx N2 rfl rfl rfl rfl rfl | exact Nx N4 rfl rfl rfl rfl rfl | exact Nx N5 rfl rfl rfl rfl rfl | exact Ok.makeB rfl rfl rfl (by omega) (by omega) | exact Ok.pe)) | ((first | apply Ca | (apply Cb; (· exact nxE))); (· first | exact Zx (args := []) hG rfl rfl rfl rfl .nil (fun _ => by simp [rn]) | exact Nx N2 rfl rfl rfl rfl rfl | exact Nx N4 rfl rfl rfl rfl rfl | exact Nx N5 rfl rfl rfl rfl rfl | exact Ok.makeB rfl rfl rfl (by omega) (by omega) | exact Ok.e0)) | refine Sx ?_ | (refine Sy (fun h => ?_) (fun h => ?_) <;> try (exfalso; omega; done)) | refine Sz (fun h => ?_) (fun h => ?_))
    all_goals
      refine Ya ?_
      (apply Le.headZ (hs := [(⟨0, []⟩, ⟨0, []⟩, _)]) [⟨0, []⟩] rfl)
      all_goals (try dsimp only [srcs])
      (case' hfr | hob => (repeat' (first | refine La ?_ ?_ | exact Lc | refine Lo ?_ | refine ⟨⟨_, rfl, ?_⟩, ?_⟩ | refine Lx ?_)))
      all_goals (first | exact Ld | exact trivial | (rfl))
  · refine ⟨t, s4, h4, by omega, ?_⟩
    show AC _ _ _ (heapL [(⟨0, []⟩, ⟨0, []⟩, srcO code s)]) _ _
    refine AC.of_body 1 Tryz.func42 rfl (fun l h => by simp [heapL, upd] at h; simp [h]) (fun C hC => ?_)
    simp only [startFr, Tryz.ntmps42, List.length_cons, List.length_nil, Nat.reduceAdd, Nat.reduceSub, List.replicate_succ, List.replicate_zero, List.cons_append, List.nil_append]
    have hD : ∀ l, C.D0 l → l = ⟨0, []⟩ := fun l h => by have := (hC l).1 h; simp [heapL, upd] at this; exact this
    repeat' (first | ((first | apply Ba | (apply Bb; (· rfl); (· rfl)) | (apply Bc; (· exact nxE)) | (apply Bd; (· rfl); (· rfl); (· exact nxE))); (· first | exact Kz rfl rfl (hT) (Ad An) | exact Ok.slen rfl rfl | exact Zx (args := []) hG rfl rfl rfl rfl .nil (fun _ => by simp [rn]) | exact Nx N2 rfl rfl rfl rfl rfl | exact Nx N4 rfl rfl rfl rfl rfl | exact Ok.pe)) | ((first | apply Ca | (apply Cb; (· exact nxE))); (· first | exact Zx (args := []) hG rfl rfl rfl rfl .nil (fun _ => by simp [rn]) | exact Nx N2 rfl rfl rfl rfl rfl | exact Nx N4 rfl rfl rfl rfl rfl | exact Ok.e0)) | refine Sx ?_ | (refine Sy (fun h => ?_) (fun h => ?_) <;> try (exfalso; omega; done)) | refine Sz (fun h => ?_) (fun h => ?_))
    all_goals
      refine Ya ?_
      (apply Le.headZ (hs := [(⟨0, []⟩, ⟨0, []⟩, _)]) [⟨0, []⟩] rfl)
      all_goals (try dsimp only [srcs])
      (case' hfr | hob => (repeat' (first | refine La ?_ ?_ | exact Lc | refine Lo ?_ | refine ⟨⟨_, rfl, ?_⟩, ?_⟩ | refine Lx ?_)))
      all_goals (first | exact Ld | exact trivial | (rfl))
theorem drawTraceText_ex [Mode] (code : List Int) (hc : CodeOk code) : ∃ (fs : List Fi), fs.length ≤ 502 ∧ AC Tryz.prog 7 [.d (BD code)] H0 (FL fs) H0 := by
  have hF := l01From_ac code hc
  obtain ⟨fs, s1, h1, hf, hG⟩ := l28Draw_ex code hc _ (src0_ok hc)
  refine ⟨fs, hf, ?_⟩
  refine AC.of_body 0 Tryz.func7 rfl (fun l h => absurd rfl h) (fun C hC => ?_)
  have hD : ∀ l, ¬ C.D0 l := fun l h => (hC l).1 h rfl
  simp only [startFr, Tryz.ntmps7, List.length_cons, List.length_nil, Nat.reduceAdd, Nat.reduceSub, List.replicate_succ, List.replicate_zero, List.cons_append, List.nil_append]
  repeat' (first | ((first | apply Ba | (apply Bb; (· rfl); (· rfl)) | (apply Bc; (· exact nxE)) | (apply Bd; (· rfl); (· rfl); (· exact nxE))); (· first | exact Ok.slen rfl rfl | exact Fx hF rfl rfl rfl | exact Zl (args := []) hG rfl rfl rfl rfl .nil (fun _ => by simp [rn]) | exact Ok.pe)) | ((first | apply Ca | (apply Cb; (· exact nxE))); (· first | exact Fx hF rfl rfl rfl | exact Zl (args := []) hG rfl rfl rfl rfl .nil (fun _ => by simp [rn]) | exact Ok.e0)) | refine Sx ?_ | (refine Sy (fun h => ?_) (fun h => ?_) <;> try (exfalso; omega; done)) | refine Sz (fun h => ?_) (fun h => ?_))
  refine Ya ?_
  (apply Le.headZ (hs := []) [] rfl)
  all_goals (try dsimp only [srcs])
  (case' hfr => (repeat' (first | refine La ?_ ?_ | exact Lc | refine Lo ?_ | refine ⟨⟨_, rfl, ?_⟩, ?_⟩ | refine Lx ?_)))
  all_goals (first | exact Ld | exact trivial | (rfl))
theorem drawRecoverTrace_ex [Mode] (code : List Int) (hc : CodeOk code) : ∃ (t : List UInt8), t.length ≤ 40000 ∧ AC Tryz.prog 12 [.d (BD code)] H0 (Str t) H0 := by
  have hF := l01From_ac code hc
  obtain ⟨t, s1, h1, hf, hG⟩ := l28DrawText_ex code hc _ (src0_ok hc)
  refine ⟨t, hf, ?_⟩
  refine AC.of_body 0 Tryz.func12 rfl (fun l h => absurd rfl h) (fun C hC => ?_)
  have hD : ∀ l, ¬ C.D0 l := fun l h => (hC l).1 h rfl
  simp only [startFr, Tryz.ntmps12, List.length_cons, List.length_nil, Nat.reduceAdd, Nat.reduceSub, List.replicate_succ, List.replicate_zero, List.cons_append, List.nil_append]
  repeat' (first | ((first | apply Ba | (apply Bb; (· rfl); (· rfl)) | (apply Bc; (· exact nxE)) | (apply Bd; (· rfl); (· rfl); (· exact nxE))); (· first | exact Ok.slen rfl rfl | exact Fx hF rfl rfl rfl | exact Zl (args := []) hG rfl rfl rfl rfl .nil (fun _ => by simp [rn]) | exact Ok.pe)) | ((first | apply Ca | (apply Cb; (· exact nxE))); (· first | exact Fx hF rfl rfl rfl | exact Zl (args := []) hG rfl rfl rfl rfl .nil (fun _ => by simp [rn]) | exact Ok.e0)) | refine Sx ?_ | (refine Sy (fun h => ?_) (fun h => ?_) <;> try (exfalso; omega; done)) | refine Sz (fun h => ?_) (fun h => ?_))
  refine Ya ?_
  (apply Le.headZ (hs := []) [] rfl)
  all_goals (try dsimp only [srcs])
  (case' hfr => (repeat' (first | refine La ?_ ?_ | exact Lc | refine Lo ?_ | refine ⟨⟨_, rfl, ?_⟩, ?_⟩ | refine Lx ?_)))
  all_goals (first | exact Ld | exact trivial | (rfl))
end Go.Proofs.YtofakjlamoigcaaGreatDoor
end

section
namespace Go.Proofs.YtofakjlamoigcaaGreatDoor
set_option linter.unusedSimpArgs false
set_option linter.unusedVariables false
open Go Go.RowKit
attribute [local irreducible] AL AD AW OpOk Le AC thenQ blockQ EndQ

abbrev U (n : Int) : AV := .d (.v (.int .u64 n))
theorem wrapU [Mode] (n : Int) : IntKind.u64.wrap n = n % 18446744073709551616 := by simp [IntKind.wrap, IntKind.bits, IntKind.signed]
theorem wrapU_in [Mode] (n : Int) : 0 ≤ IntKind.u64.wrap n ∧ IntKind.u64.wrap n < 18446744073709551616 := by rw [wrapU]; omega
/-- Some bits of a number. -/
def diB (h : Int) : Int := bits .and .u64 (h / 8589934592) 16777215
theorem diB_in [Mode] {h : Int} (h1 : 0 ≤ h) (h2 : h < 18446744073709551616) : 0 ≤ diB h ∧ diB h ≤ 16777215 := by
  unfold diB
  obtain ⟨u, hu⟩ : ∃ u : Nat, h / 8589934592 = u := ⟨(h / 8589934592).toNat, by omega⟩
  rw [hu, show (16777215 : Int) = ((16777215 : Nat) : Int) from rfl, bits_and_u64_nat u 16777215 (by omega) (by decide)]
  have := Nat.and_le_right (n := u) (m := 16777215)
  omega
section
variable {P : Program} {o : Oper} {A : Operand → AV} {H : Heap} {new : Nat} {t t' : TypeId} {x y : Operand} {a : Int} {kd : IntKind}
theorem Ok.shr33 [Mode] (ho : o.op = .binOp .shr t x y t') (hx : A x = U a) (hy : A y = .d (.v (.int kd 33))) : OpOk P o A [] H new (U (a / 8589934592)) [] := OpOk.bin ho hx hy rfl fun w => by
  have := shift_shr_any (k := .u64) (yk := kd) a 33 (by decide)
  simp only [binOp_shr, this]
  rfl
theorem Ok.and24 [Mode] (ho : o.op = .binOp .and t x y t') (hx : A x = U (a / 8589934592)) (hy : A y = U 16777215) : OpOk P o A [] H new (U (diB a)) [] := OpOk.bin ho hx hy rfl fun w => by
  simp only [binOp_and, intBits_and]
  rfl
end
abbrev diO (code : List Int) (i h : Int) : AObj := dobj 3 [[BD code, DI i, .v (.int .u64 h)]]
set_option maxHeartbeats 4000000 in
theorem below_ex [Mode] (code : List Int) (hc : CodeOk code) (h : Int) (n : Int) (hn : 0 < n) : ∃ (q : Int) (i h' : Int), 0 ≤ q ∧ q < n ∧ AC Tryz.prog 17 [Bx 3 0, I n] (hp1 (diO code 0 h)) (I q) (hp1 (diO code i h')) := by
  have hl : (BR code).length = code.length := List.length_map _
  have h6 := hc.len
  obtain ⟨g, hg⟩ : ∃ g, g = IntKind.u64.wrap (IntKind.u64.wrap (h * 6364136223846793005) + 1442695040888963407) := ⟨_, rfl⟩
  have hgi := wrapU_in (IntKind.u64.wrap (h * 6364136223846793005) + 1442695040888963407)
  rw [← hg] at hgi
  have hdi := diB_in hgi.1 hgi.2
  have hadd : ∀ {P : Program} {o : Oper} {A : Operand → AV} {H : Heap} {new : Nat} {t t' : TypeId} {x y : Operand}, o.op = .binOp .add t x y t' → A x = U (IntKind.u64.wrap (h * 6364136223846793005)) → A y = U 1442695040888963407 → OpOk P o A [] H new (U g) [] := fun ho hx hy => by rw [hg]; exact Ok.addW ho hx hy
  cases hcd : code[0]? with
  | none =>
    have h0 : code.length = 0 := by simpa using hcd
    refine ⟨(diB g).tmod n, 0, g, (tmod_in hdi.1 hn).1, (tmod_in hdi.1 hn).2, ?_⟩
    show AC _ _ _ (heapL [(⟨0, []⟩, ⟨0, []⟩, ⟨3, [[.d (BD code), I 0, U h]]⟩)]) _ _
    refine AC.of_body 1 Tryz.func17 rfl (fun l h => by simp [heapL, upd] at h; simp [h]) (fun C hC => ?_)
    simp only [startFr, Tryz.ntmps17, List.length_cons, List.length_nil, Nat.reduceAdd, Nat.reduceSub, List.replicate_succ, List.replicate_zero, List.cons_append, List.nil_append]
    have hD : ∀ l, C.D0 l → l = ⟨0, []⟩ := fun l h => by have := (hC l).1 h; simp [heapL, upd] at this; exact this
    repeat' (first | ((first | apply Ba | (apply Bb; (· rfl); (· rfl)) | (apply Bc; (· exact nxE)) | (apply Bd; (· rfl); (· rfl); (· exact nxE))); (· first | exact OpOk.nilCheck rfl rfl | exact hadd rfl rfl rfl | exact Ok.mulW rfl rfl rfl | exact Ok.shr33 rfl rfl rfl | exact Ok.and24 rfl rfl rfl | exact Ok.convII rfl rfl Tryz.underlying2 (by rw [Tryz.underlying36]; rfl) (wrap64_id (by omega) (by omega)) | exact Ok.rem rfl rfl rfl (by omega) | exact Ok.pe)) | ((first | apply Ca | (apply Cb; (· exact nxE))); (· first | exact Ok.e0)) | refine Sx ?_ | (refine Sy (fun h => ?_) (fun h => ?_) <;> try (exfalso; omega; done)) | refine Sz (fun h => ?_) (fun h => ?_))
    (refine end1p (by first | exact .inl rfl | exact .inr rfl) rfl (by first | exact rT rfl | exact rCA rfl rfl rfl rfl (by simp) | exact rCC rfl rfl rfl rfl rfl) ?_ (Le.head ([(⟨0, []⟩, ⟨0, []⟩, ⟨3, [[.d (BD code), I 0, U g]]⟩)]) (by first | exact fun l h => absurd h (hD l) | (intro l h; rcases hD l h with rfl; simp [tauL]) | (intro l h; rcases hD l h with rfl | rfl <;> simp [tauL]; done) | (intro l h; rcases hD l h with rfl | rfl | rfl <;> simp [tauL])) ?_ ?_ (by simp) (by simp) (by simp [AllP]) (n' := 1000)); (· rfl)) <;> (repeat' (first | exact trivial | exact ARs.nil | refine ARs.cons ?_ ?_ | exact AR.dead _ | exact AR.dd _ | exact AR.i (by (try dsimp only); omega) | exact AR.ptr _ _ _ _ (by simp [heapL, upd]) | exact AR.own _ _ _ _ (by simp [heapL, upd]) | refine AR.ownE _ _ _ ?_ (by simp [heapL, upd]) | refine ⟨⟨_, rfl, ?_⟩, ?_⟩ | exact ObA.data | refine ObA.box ?_ | refine ObA.frE ?_ | refine ObA.dataE ?_ | refine ARs.agg ?_ | refine ARs.tup ?_ | exact AR.clo' ARs.nil ARs.nil | exact AR.clo' ARs.nil (hca _ _)))
  | some b =>
    obtain ⟨hp, hb0⟩ := List.getElem?_eq_some_iff.1 hcd
    have hbb := hc.b b (List.mem_of_getElem? hcd)
    have hrow : (BR code)[(0 : Int).toNat]? = some [D.v (.int .u8 b)] := by simp [hcd]
    refine ⟨(diB g + b).tmod n, 1, g, (tmod_in (by omega) hn).1, (tmod_in (by omega) hn).2, ?_⟩
    show AC _ _ _ (heapL [(⟨0, []⟩, ⟨0, []⟩, ⟨3, [[.d (BD code), I 0, U h]]⟩)]) _ _
    refine AC.of_body 1 Tryz.func17 rfl (fun l h => by simp [heapL, upd] at h; simp [h]) (fun C hC => ?_)
    simp only [startFr, Tryz.ntmps17, List.length_cons, List.length_nil, Nat.reduceAdd, Nat.reduceSub, List.replicate_succ, List.replicate_zero, List.cons_append, List.nil_append]
    have hD : ∀ l, C.D0 l → l = ⟨0, []⟩ := fun l h => by have := (hC l).1 h; simp [heapL, upd] at this; exact this
    repeat' (first | ((first | apply Ba | (apply Bb; (· rfl); (· rfl)) | (apply Bc; (· exact nxE)) | (apply Bd; (· rfl); (· rfl); (· exact nxE))); (· first | exact OpOk.nilCheck rfl rfl | exact hadd rfl rfl rfl | exact Ok.mulW rfl rfl rfl | exact Ok.shr33 rfl rfl rfl | exact Ok.and24 rfl rfl rfl | exact Ok.convII rfl rfl Tryz.underlying2 (by rw [Tryz.underlying36]; rfl) (wrap64_id (by omega) (by omega)) | exact Ok.convII rfl rfl Tryz.underlying2 (by rw [Tryz.underlying5]; rfl) (wrap64_id (by omega) (by omega)) | exact Ok.rem rfl rfl rfl (by omega) | exact Ok.pe)) | ((first | apply Ca | (apply Cb; (· exact nxE))); (· first | exact Ok.e0)) | refine Sx ?_ | (refine Sy (fun h => ?_) (fun h => ?_) <;> try (exfalso; omega; done)) | refine Sz (fun h => ?_) (fun h => ?_))
    (refine end1p (by first | exact .inl rfl | exact .inr rfl) rfl (by first | exact rT rfl | exact rCA rfl rfl rfl rfl (by simp) | exact rCC rfl rfl rfl rfl rfl) ?_ (Le.head ([(⟨0, []⟩, ⟨0, []⟩, ⟨3, [[.d (BD code), I (0 + 1), U g]]⟩)]) (by first | exact fun l h => absurd h (hD l) | (intro l h; rcases hD l h with rfl; simp [tauL]) | (intro l h; rcases hD l h with rfl | rfl <;> simp [tauL]; done) | (intro l h; rcases hD l h with rfl | rfl | rfl <;> simp [tauL])) ?_ ?_ (by simp) (by simp) (by simp [AllP]) (n' := 1000)); (· rfl)) <;> (repeat' (first | exact trivial | exact ARs.nil | refine ARs.cons ?_ ?_ | exact AR.dead _ | exact AR.dd _ | exact AR.i (by (try dsimp only); omega) | exact AR.ptr _ _ _ _ (by simp [heapL, upd]) | exact AR.own _ _ _ _ (by simp [heapL, upd]) | refine AR.ownE _ _ _ ?_ (by simp [heapL, upd]) | refine ⟨⟨_, rfl, ?_⟩, ?_⟩ | exact ObA.data | refine ObA.box ?_ | refine ObA.frE ?_ | refine ObA.dataE ?_ | refine ARs.agg ?_ | refine ARs.tup ?_ | exact AR.clo' ARs.nil ARs.nil | exact AR.clo' ARs.nil (hca _ _)))
section
variable {P : Program} {o : Oper} {A : Operand → AV} {H : Heap} {new : Nat}
/-- The dice are made. -/
theorem Fo [Mode] {fo x y : Operand} {ts : Array TypeId} {f : FuncId} {c : D} {s : AV} {rows : List (List D)} (hc : AC P f [.d c, s] H0 (Bx 3 0) (hp1 (dobj 3 rows))) (ho : o.op = .call { callee := .value fo, args := #[x, y], argTypes := ts }) [FnBody P f] (hfo : A fo = .clo (.func f) [] [])
    (hx : A x = .d c) (hs : ∃ d, s = .d d) (hy : A y = s) : OpOk P o A [] H new (.ptr 3 ⟨new, [0]⟩ 0 0) [.one ⟨new, [0]⟩ (some (dobj 3 rows))] := by
  obtain ⟨d, rfl⟩ := hs
  exact OpOk.call1n (xs := [x, y]) [] ho hfo hc (.inl rfl) (fun g => rnO_dobj _ _ _) (by
    show ARs _ _ _ _ _ [A x, A y]
    rw [hx, hy]; exact .cons (AR.dd _) (.cons (AR.dd _) .nil)) (by rw [rn])
/-- They are thrown. -/
theorem Ol [Mode] {fo x y : Operand} {ts : Array TypeId} {f : FuncId} {l : Loc} {rows rows' : List (List D)} {n a : Int} (hc : AC P f [Bx 3 0, I n] (hp1 (dobj 3 rows)) (I a) (hp1 (dobj 3 rows'))) (ho : o.op = .call { callee := .value fo, args := #[x, y], argTypes := ts }) [FnBody P f] (hfo : A fo = .clo (.func f) [] [])
    (hx : A x = .ptr 3 l 0 0) (hy : A y = I n) (hl : H l = some (dobj 3 rows)) : OpOk P o A [l] H new (I a) [.one l (some (dobj 3 rows'))] :=
  OpOk.callM (xs := [x, y]) ho hfo hc hl rfl (by
    show ARs _ _ _ _ _ [A x, A y]
    rw [hx, hy]; exact .cons (AR.ptr 3 ⟨0, []⟩ 0 0 rfl) (.cons (.dd _) .nil))
end
end Go.Proofs.YtofakjlamoigcaaGreatDoor
end

section
namespace Go.Proofs.YtofakjlamoigcaaGreatDoor
set_option linter.unusedSimpArgs false
set_option linter.unusedVariables false
open Go Go.RowKit
attribute [local irreducible] AL AD AW OpOk Le AC thenQ blockQ EndQ

def rollT (code : List Int) : Nat → Int
  | 0 => IntKind.u64.wrap (IntKind.u64.wrap (2801 * 9103) + IntKind.u64.wrap code.length)
  | k + 1 => IntKind.u64.wrap (IntKind.u64.wrap (IntKind.u64.wrap (rollT code k * 1099511628211) + IntKind.u64.wrap ((code[k]?).getD 0)) + 5)
set_option maxHeartbeats 4000000 in
theorem rollT_ac [Mode] (code : List Int) (hc : CodeOk code) : AC Tryz.prog 16 [.d (BD code), U 2801] H0 (Bx 3 0) (hp1 (diO code 0 (rollT code code.length))) := by
  have hl : (BR code).length = code.length := List.length_map _
  have h6 := hc.len
  have h00 : rollT code 0 = IntKind.u64.wrap (IntKind.u64.wrap (2801 * 9103) + IntKind.u64.wrap code.length) := rfl
  refine AC.of_body 0 Tryz.func16 rfl (fun l h => absurd rfl h) (fun C hC => ?_)
  have hD : ∀ l, ¬ C.D0 l := fun l h => (hC l).1 h rfl
  simp only [startFr, Tryz.ntmps16, List.length_cons, List.length_nil, Nat.reduceAdd, Nat.reduceSub, List.replicate_succ, List.replicate_zero, List.cons_append, List.nil_append]
  repeat' (first | ((first | apply Ba | (apply Bb; (· rfl); (· rfl)) | (apply Bc; (· exact nxE)) | (apply Bd; (· rfl); (· rfl); (· exact nxE))); (· first | exact Ok.mulW rfl rfl rfl | exact Ok.convII rfl rfl Tryz.underlying36 (by rw [Tryz.underlying3]; rfl) rfl | exact Ok.pe)) | ((first | apply Ca | (apply Cb; (· exact nxE))); (· first | exact Ok.e0)) | refine Sx ?_ | (refine Sy (fun h => ?_) (fun h => ?_) <;> try (exfalso; omega; done)) | refine Sz (fun h => ?_) (fun h => ?_))
  refine AW.loop (X := {k : Nat // k ≤ code.length}) (fun k => ⟨[.d (BD code), Oo, Oo, Oo, Oo, Bx 3 0, I (k.1 : Nat), Oo, Oo, Oo, Oo, Oo, Oo, Oo, Oo, Oo, Oo, Oo, Oo, Oo, Oo, Oo, Oo, Oo, Oo, Oo, Oo, Oo, Oo, Oo, Oo, Oo, Oo, Oo, Oo, Oo, Oo, Oo], heapL [(⟨0, []⟩, ⟨0, []⟩, ⟨3, [[.d (BD code), I 0, U (rollT code k.1)]]⟩)], 900⟩) (fun k => code.length - k.1) ⟨0, Nat.zero_le _⟩ ?_ (fun k => ?_)
  ·
    (apply Le.headZ [_] rfl)
    all_goals (try dsimp only [srcs])
    (case' hfr | hob => (repeat' (first | refine La ?_ ?_ | exact Lc | refine Lo ?_ | refine ⟨⟨_, rfl, ?_⟩, ?_⟩ | refine Lx ?_)))
    all_goals (first | (rfl) | exact Ld)
  obtain ⟨k, hk⟩ := k
  simp only
  by_cases hlt : k < code.length
  · obtain ⟨b, hb⟩ : ∃ b, code[k]? = some b := ⟨code[k], by simp⟩
    have hrow : (BR code)[((k : Nat) : Int).toNat]? = some [D.v (.int .u8 b)] := by simp [hb]
    have hst : rollT code (k + 1) = IntKind.u64.wrap (IntKind.u64.wrap (IntKind.u64.wrap (rollT code k * 1099511628211) + IntKind.u64.wrap b) + 5) := by rw [rollT, hb]; rfl
    generalize rollT code k = h0 at hst ⊢
    repeat' (first | ((first | apply Ba | (apply Bb; (· rfl); (· rfl)) | (apply Bc; (· exact nxE)) | (apply Bd; (· rfl); (· rfl); (· exact nxE))); (· first | exact OpOk.nilCheck rfl rfl | exact Ok.mulW rfl rfl rfl | exact Ok.convII rfl rfl Tryz.underlying36 (by rw [Tryz.underlying5]; rfl) rfl | exact Ok.pe)) | ((first | apply Ca | (apply Cb; (· exact nxE))); (· first | exact Ok.e0)) | refine Sx ?_ | (refine Sy (fun h => ?_) (fun h => ?_) <;> try (exfalso; omega; done)) | refine Sz (fun h => ?_) (fun h => ?_))
    refine ⟨⟨k + 1, by omega⟩, ?_, by simp only; omega⟩
    simp only [hst]
    (apply Le.headZ [_] rfl)
    all_goals (try dsimp only [srcs])
    (case' hfr | hob => (repeat' (first | refine La ?_ ?_ | exact Lc | refine Lo ?_ | refine ⟨⟨_, rfl, ?_⟩, ?_⟩ | refine Lx ?_)))
    all_goals (first | (rfl) | exact Ld)
  · obtain rfl : k = code.length := by omega
    repeat' (first | ((first | apply Ba | (apply Bb; (· rfl); (· rfl)) | (apply Bc; (· exact nxE)) | (apply Bd; (· rfl); (· rfl); (· exact nxE))); (· first | exact Ok.pe)) | ((first | apply Ca | (apply Cb; (· exact nxE))); (· first | exact Ok.e0)) | refine Sx ?_ | (refine Sy (fun h => ?_) (fun h => ?_) <;> try (exfalso; omega; done)) | refine Sz (fun h => ?_) (fun h => ?_))
    refine Ya ?_
    (apply Le.head [(⟨0, []⟩, _, _)])
    (case' hfr | hob => (repeat' (first | refine La ?_ ?_ | exact Lc | refine Lo ?_ | refine ⟨⟨_, rfl, ?_⟩, ?_⟩ | refine Lx ?_)))
    all_goals (first | exact Ld | (rfl))
end Go.Proofs.YtofakjlamoigcaaGreatDoor
end

section
namespace Go.Proofs.YtofakjlamoigcaaGreatDoor
set_option linter.unusedSimpArgs false
set_option linter.unusedVariables false
open Go Go.RowKit
attribute [local irreducible] AL AD AW OpOk Le AC thenQ blockQ EndQ

set_option maxHeartbeats 1000000 in
theorem likeRuns9_refl [Mode] (fs : List Fi) (hn : fs.length ≤ 100000000) : AC Tryz.prog 15 [FL fs, FL fs] H0 (Bo true) H0 := by
  refine AC.of_body 0 Tryz.func15 rfl (fun l h => absurd rfl h) (fun C hC => ?_)
  have hD : ∀ l, ¬ C.D0 l := fun l h => (hC l).1 h rfl
  simp only [startFr, Tryz.ntmps15, List.length_cons, List.length_nil, Nat.reduceAdd, Nat.reduceSub, List.replicate_succ, List.replicate_zero, List.cons_append, List.nil_append]
  repeat' (first | ((first | apply Ba | (apply Bb; (· rfl); (· rfl)) | (apply Bc; (· exact nxE)) | (apply Bd; (· rfl); (· rfl); (· exact nxE))); (· first | exact Ok.lenD rfl rfl FL_len | exact Ok.neqFiS rfl rfl rfl | exact Ok.pe)) | ((first | apply Ca | (apply Cb; (· exact nxE))); (· first | exact Ok.e0)) | refine Sx ?_ | (refine Sy (fun h => ?_) (fun h => ?_) <;> try (exfalso; omega; done)) | refine Sz (fun h => ?_) (fun h => ?_))
  refine AW.loop (X := {k : Nat // k ≤ fs.length}) (fun k => ⟨[FL fs, FL fs, Oo, Oo, Oo, I (k.1 : Nat), Oo, Oo, Oo, Oo, Oo, Oo, Oo, Oo, Oo, Oo, Oo, Oo, Oo, Oo, Oo, Oo, Oo, Oo, Oo, Oo], heapL [], 900⟩) (fun k => fs.length - k.1) ⟨0, Nat.zero_le _⟩ ?_ (fun k => ?_)
  ·
    (apply Le.headZ [] rfl)
    all_goals (try dsimp only [srcs])
    (case' hfr | hob => (repeat' (first | refine La ?_ ?_ | exact Lc | refine Lo ?_ | refine ⟨⟨_, rfl, ?_⟩, ?_⟩ | refine Lx ?_)))
    all_goals (first | (rfl) | exact Ld)
  obtain ⟨k, hk⟩ := k
  simp only
  by_cases hlt : k < fs.length
  · obtain ⟨f, hf⟩ : ∃ f, fs[k]? = some f := ⟨fs[k], List.getElem?_eq_getElem hlt⟩
    have hrow : (fs.map Fi.row)[((k : Nat) : Int).toNat]? = some [DI f.e, DI f.n, DI f.t] := row_get hf
    repeat' (first | ((first | apply Ba | (apply Bb; (· rfl); (· rfl)) | (apply Bc; (· exact nxE)) | (apply Bd; (· rfl); (· rfl); (· exact nxE))); (· first | exact Ok.lenD rfl rfl FL_len | exact Ok.neqFiS rfl rfl rfl | exact Ok.pe)) | ((first | apply Ca | (apply Cb; (· exact nxE))); (· first | exact Ok.e0)) | refine Sx ?_ | (refine Sy (fun h => ?_) (fun h => ?_) <;> try (exfalso; omega; done)) | refine Sz (fun h => ?_) (fun h => ?_))
    refine ⟨⟨k + 1, by omega⟩, ?_, by simp only; omega⟩
    (apply Le.headZ [] rfl)
    all_goals (try dsimp only [srcs])
    (case' hfr | hob => (repeat' (first | refine La ?_ ?_ | exact Lc | refine Lo ?_ | refine ⟨⟨_, rfl, ?_⟩, ?_⟩ | refine Lx ?_)))
    all_goals (first | (rfl) | exact Ld)
  · obtain rfl : k = fs.length := by omega
    repeat' (first | ((first | apply Ba | (apply Bb; (· rfl); (· rfl)) | (apply Bc; (· exact nxE)) | (apply Bd; (· rfl); (· rfl); (· exact nxE))); (· first | exact Ok.lenD rfl rfl FL_len | exact Ok.neqFiS rfl rfl rfl | exact Ok.pe)) | ((first | apply Ca | (apply Cb; (· exact nxE))); (· first | exact Ok.e0)) | refine Sx ?_ | (refine Sy (fun h => ?_) (fun h => ?_) <;> try (exfalso; omega; done)) | refine Sz (fun h => ?_) (fun h => ?_))
    refine Ya ?_
    (apply Le.headZ (hs := []) [] rfl)
    all_goals (try dsimp only [srcs])
    (case' hfr => (repeat' (first | refine La ?_ ?_ | exact Lc | refine Lo ?_ | refine ⟨⟨_, rfl, ?_⟩, ?_⟩ | refine Lx ?_)))
    all_goals (first | exact Ld | exact trivial | (rfl))
end Go.Proofs.YtofakjlamoigcaaGreatDoor
end

section
namespace Go.Proofs.YtofakjlamoigcaaGreatDoor
set_option linter.unusedSimpArgs false
set_option linter.unusedVariables false
open Go Go.ChangeShapes Go.WideShapes Go.ChangeAt Go.RowKit

/-- The way from a contract to the row's promise, with the world's shape handed to the contract. -/
theorem handed_shaped {H : Type} {enc : TypeId × Value → H} {a : Assume} {C : Checked} {os : Os} {f : FuncId} {fn : Func} {s : ChangeSpec} {conds : List PathCond} {apart fresh handsOn again : Bool} {X : World → Array Value → Prop}
    (hX : ∀ (w w' : World) (args : Array Value), w.heap = w'.heap → X w args → X w' args)
    (own : ownKnob C.prog.godebug = none) (started : os.Started) (noInit : C.prog.inits.idxOf? f = none) (hfn : C.prog.funcs[f]? = some fn)
    (witness : ∃ (w : World) (tape : Tape) (i : Input), w.os = os ∧ (w.forCall tape i).Shaped C.prog ∧ i.vars = [] ∧ Input.okWide C.prog (w.forCall tape i) .any w.heap.size f i ∧
      ((s.pre enc C.prog fn conds apart (w.forCall tape i).memory i.args ∧ X (w.forCall tape i).memory i.args) ∧ sizedMet enc C.prog fn (OpenSpec.ofChange s) apart (w.forCall tape i).memory i.args) ∧ a.holds C.prog (lone (Frame.enter C.prog f i.args .normal) [] (w.forCall tape i)))
    (contract : ∀ (W : World) (base : Nat) (args : Array Value) (ds gs : List (DataW H)) (before : List MemPlace),
      (∀ (j : Nat) t v, fn.params[j]? = some t → args[j]? = some v → Value.okWide C.prog W .any base t v) →
      DataW.Whole enc C.prog fn.params.toList s.vars apart W args.toList ds gs before →
      conds.all (PathCond.test C.prog ⟨fn.params.toList, ds, s.plain.varTypes C.prog, gs⟩) = true →
      (DataW.weightsEach C.prog (fn.params.toList ++ s.plain.varTypes C.prog) (ds ++ gs)).all (· ≤ reachBytes) = true → X W args →
      a.holds C.prog (lone (Frame.enter C.prog f args .normal) [] W) → W.ShapedOpen C.prog →
      Calls C.prog f args W fun e W' => ∃ v, e = .returned v ∧ s.post enc C.prog fn apart fresh handsOn again W args v W') :
    ReturnsInHanded a C os f .any (fun w args => (s.pre enc C.prog fn conds apart w args ∧ X w args) ∧ sizedMet enc C.prog fn (OpenSpec.ofChange s) apart w args) (s.post enc C.prog fn apart fresh handsOn again) := by
  refine returnsInHanded_of_calls own started noInit witness ?_
  intro w tape i _ hshape _ hok hpre hholds
  obtain ⟨_, _, _, fn', hfn', _, _, _, _, hval⟩ := hok
  have e : fn' = fn := Option.some.inj (hfn'.symm.trans hfn)
  subst e
  obtain ⟨⟨⟨ds, gs, before, hw, hc⟩, hx⟩, hz⟩ := hpre
  have hw' := DataW.Whole.of_heap (w' := w.forCall tape i) (by rfl) hw
  refine (contract (w.forCall tape i) w.heap.size i.args ds gs before hval hw' hc (hz.weights hw) (hX _ _ _ (by rfl) hx) hholds hshape).mono fun e W' ⟨v, he, hp⟩ => ?_
  subst he
  exact ChangeSpec.post_blind hp
theorem var_of_shaped {P : Program} {w : World} {n : String} {g : Nat} {t : TypeId} {zero : Array Value} {k : IntKind} (h : w.ShapedOpen P) (hn : P.globalNamed n = some g) (hg : g < P.globals.size)
    (h0 : ((begin P (fun _ _ => 0) default).world.heap[g]?).bind Obj.row? = some (zero, t)) (hz : zero.size = 1)
    (hb : P.buildable t = true) (hc : P.cellTypes P.depth t = some [t]) (hu : P.underlying t = some (.int k)) : ∃ m, w.var? P n = some #[.int k m] := by
  obtain ⟨cs, hh, hs, hr⟩ := h.1 g zero t hg h0
  obtain ⟨ts, hts, _, hall⟩ := hr hb
  rw [hc] at hts
  cases hts
  have h1 : cs.size = 1 := hs.trans hz
  obtain ⟨u, hu', hok⟩ := hall 0 cs[0] (by simp [h1])
  have : u = t := by simpa using hu'.symm
  subst this
  have hcs : cs = #[cs[0]] := by
    apply Array.ext
    · simp [h1]
    · intro i hi hi'
      have : i = 0 := by omega
      subst this
      simp
  have hv : w.var? P n = some cs := by
    unfold World.var?
    rw [hn]
    simp [hh]
  rw [hv]
  unfold Cell.ok at hok
  rw [hu] at hok
  cases hc : cs[0] <;> rw [hc] at hok <;> simp at hok
  case int k' n => exact ⟨n, by rw [hcs, hc, hok.1]⟩
theorem var_maxLen {w : World} (h : w.ShapedOpen Tryz.prog) : ∃ m, w.var? Tryz.prog "internal/bytealg.MaxLen" = some #[.int .i64 m] :=
  var_of_shaped (g := 0) (zero := #[.int .i64 0]) (t := 3) h (by kernel_rfl) (of_decide_eq_true (by kernel_rfl)) (by kernel_rfl) rfl (by kernel_rfl) (by kernel_rfl) Tryz.underlying3
theorem star_err : "*" ++ "errors.errorString" = "*errors.errorString" := by decide
theorem row_err (u : TypeId) (h : Tryz.prog.typeName? 3 u = some "*errors.errorString") : u = 178 :=
  typeName_ptr_named (nm := "errors.errorString") (by rw [star_err]; kernel_rfl) (by kernel_rfl) (by decide) u (by rw [star_err]; exact h)
theorem sentinel_syntax {W : World} {r : List (String × DataW Unit)} (h : laidMet Tryz.prog (("strconv.ErrSyntax", Rows.laid_strconv_ErrSyntax) :: r) W) :
    ∃ (a : Addr) (s : ByteArray), W.var? Tryz.prog "strconv.ErrSyntax" = some #[.iface 178 (.pointer (some a))] ∧ True := by
  obtain ⟨a, s, hv, _⟩ := laid_sentinel h (g := 1) (by kernel_rfl) (ti := 97) (by kernel_rfl) Tryz.underlying97 row_err Tryz.underlying178 Tryz.underlying180 rfl rfl Tryz.underlying9 (by kernel_rfl) (by kernel_rfl)
  exact ⟨a, s, hv, True.intro⟩
theorem sentinel_range {W : World} {r : List (String × DataW Unit)} (h : laidMet Tryz.prog (("strconv.ErrRange", Rows.laid_strconv_ErrRange) :: r) W) :
    ∃ (a : Addr) (s : ByteArray), W.var? Tryz.prog "strconv.ErrRange" = some #[.iface 178 (.pointer (some a))] ∧ True := by
  obtain ⟨a, s, hv, _⟩ := laid_sentinel h (g := 2) (by kernel_rfl) (ti := 97) (by kernel_rfl) Tryz.underlying97 row_err Tryz.underlying178 Tryz.underlying180 rfl rfl Tryz.underlying9 (by kernel_rfl) (by kernel_rfl)
  exact ⟨a, s, hv, True.intro⟩
end Go.Proofs.YtofakjlamoigcaaGreatDoor
end

section
namespace Go.Proofs.YtofakjlamoigcaaGreatDoor
set_option linter.unusedSimpArgs false
set_option linter.unusedVariables false
open Go Go.RowKit
attribute [local irreducible] AL AD AW OpOk Le AC thenQ blockQ EndQ

set_option maxHeartbeats 4000000 in
theorem drawAppendFiring_ex [Mode] (code : List Int) (hc : CodeOk code) : ∃ (t : List UInt8) (f : Fi), t.length ≤ 40000 ∧ AC Tryz.prog 27 [.d (BD code)] H0 (.tup [Str t, f.av]) H0 := by
  have hF := l01From_ac code hc
  obtain ⟨t, s1, h1, hf, hG⟩ := l28DrawText_ex code hc _ (src0_ok hc)
  obtain ⟨z, s2, z1, z2, h2, q2, N2⟩ := next_ex hc h1 12
  by_cases hz : z = 0
  · subst hz
    obtain ⟨a, s3, _, h3, _, _, K3⟩ := pick_ex hc h2 [-1, 10, 0] 3 rfl
    obtain ⟨b, s4, _, h4, _, _, K4⟩ := pick_ex hc h3 [-1, 0, 1000001] 3 rfl
    refine ⟨t, ⟨a, 0, b⟩, hf, ?_⟩
    refine AC.of_body 0 Tryz.func27 rfl (fun l h => absurd rfl h) (fun C hC => ?_)
    have hD : ∀ l, ¬ C.D0 l := fun l h => (hC l).1 h rfl
    simp only [startFr, Tryz.ntmps27, List.length_cons, List.length_nil, Nat.reduceAdd, Nat.reduceSub, List.replicate_succ, List.replicate_zero, List.cons_append, List.nil_append]
    repeat' (first | ((first | apply Ba | (apply Bb; (· rfl); (· rfl)) | (apply Bc; (· exact nxE)) | (apply Bd; (· rfl); (· rfl); (· exact nxE))); (· first | exact Ok.slen rfl rfl | exact Fx hF rfl rfl rfl | exact Zl (args := []) hG rfl rfl rfl rfl .nil (fun _ => by simp [rn]) | exact Nl N2 rfl rfl rfl rfl rfl | exact Kl K3 rfl rfl rfl rfl rfl rfl (by decide) | exact Kl K4 rfl rfl rfl rfl rfl rfl (by decide) | exact Ok.bs3 rfl rfl rfl rfl rfl | exact Ok.pe)) | ((first | apply Ca | (apply Cb; (· exact nxE))); (· first | exact Fx hF rfl rfl rfl | exact Zl (args := []) hG rfl rfl rfl rfl .nil (fun _ => by simp [rn]) | exact Nl N2 rfl rfl rfl rfl rfl | exact Kl K3 rfl rfl rfl rfl rfl rfl (by decide) | exact Kl K4 rfl rfl rfl rfl rfl rfl (by decide) | exact Ok.bs3 rfl rfl rfl rfl rfl | exact Ok.e0)) | refine Sx ?_ | (refine Sy (fun h => ?_) (fun h => ?_) <;> try (exfalso; omega; done)) | refine Sz (fun h => ?_) (fun h => ?_))
    all_goals
      refine Yb ?_
      (apply Le.headZ (hs := []) [] rfl)
      all_goals (try dsimp only [srcs])
      (case' hfr => (repeat' (first | refine La ?_ ?_ | exact Lc | refine Lo ?_ | refine ⟨⟨_, rfl, ?_⟩, ?_⟩ | refine Lx ?_)))
      all_goals (first | exact Ld | exact trivial | (rfl))
  · obtain ⟨a, s3, a1, a2, h3, q3, N3⟩ := next_ex hc h2 5
    obtain ⟨b, s4, b1, b2, h4, q4, N4⟩ := next_ex hc h3 9
    obtain ⟨c, s5, c1, c2, h5, q5, N5⟩ := next_ex hc h4 300
    refine ⟨t, ⟨a, b, c⟩, hf, ?_⟩
    refine AC.of_body 0 Tryz.func27 rfl (fun l h => absurd rfl h) (fun C hC => ?_)
    have hD : ∀ l, ¬ C.D0 l := fun l h => (hC l).1 h rfl
    simp only [startFr, Tryz.ntmps27, List.length_cons, List.length_nil, Nat.reduceAdd, Nat.reduceSub, List.replicate_succ, List.replicate_zero, List.cons_append, List.nil_append]
    repeat' (first | ((first | apply Ba | (apply Bb; (· rfl); (· rfl)) | (apply Bc; (· exact nxE)) | (apply Bd; (· rfl); (· rfl); (· exact nxE))); (· first | exact Ok.slen rfl rfl | exact Fx hF rfl rfl rfl | exact Zl (args := []) hG rfl rfl rfl rfl .nil (fun _ => by simp [rn]) | exact Nl N2 rfl rfl rfl rfl rfl | exact Nl N3 rfl rfl rfl rfl rfl | exact Nl N4 rfl rfl rfl rfl rfl | exact Nl N5 rfl rfl rfl rfl rfl | exact Ok.pe)) | ((first | apply Ca | (apply Cb; (· exact nxE))); (· first | exact Fx hF rfl rfl rfl | exact Zl (args := []) hG rfl rfl rfl rfl .nil (fun _ => by simp [rn]) | exact Nl N2 rfl rfl rfl rfl rfl | exact Nl N3 rfl rfl rfl rfl rfl | exact Nl N4 rfl rfl rfl rfl rfl | exact Nl N5 rfl rfl rfl rfl rfl | exact Ok.e0)) | refine Sx ?_ | (refine Sy (fun h => ?_) (fun h => ?_) <;> try (exfalso; omega; done)) | refine Sz (fun h => ?_) (fun h => ?_))
    all_goals
      refine Yb ?_
      (apply Le.headZ (hs := []) [] rfl)
      all_goals (try dsimp only [srcs])
      (case' hfr => (repeat' (first | refine La ?_ ?_ | exact Lc | refine Lo ?_ | refine ⟨⟨_, rfl, ?_⟩, ?_⟩ | refine Lx ?_)))
      all_goals (first | exact Ld | exact trivial | (rfl))
set_option maxHeartbeats 4000000 in
theorem drawReplayTrace_ex [Mode] (code : List Int) (hc : CodeOk code) : ∃ (ev : Int) (xs : List Pl) (t : List UInt8), xs.length ≤ 100 ∧ t.length ≤ 40000 ∧ AC Tryz.prog 30 [.d (BD code)] H0 (.tup [grD ev xs, Str t]) H0 := by
  have hF := l01From_ac code hc
  obtain ⟨ev, xs, fs, s1, h1, hx, hf, hG⟩ := l14Draw_ex code hc _ (src0_ok hc)
  have hT := sTraceText_ac fs (by omega)
  have hTl := ttT_len fs
  generalize ttT fs = t at *
  generalize wrC fs = c at *
  obtain ⟨z, s2, z1, z2, h2, q2, N2⟩ := next_ex hc h1 4
  obtain ⟨m, hm⟩ : ∃ m : Nat, m = 20001 := ⟨_, rfl⟩
  have hzl := zB_len m
  have hmI : ((m : Nat) : Int) = 20001 := by omega
  by_cases hz : z = 0
  · subst hz
    obtain ⟨t', s3, h3, hl3, hDm⟩ := l01Damage_ex code hc s2 h2 t (by omega)
    obtain ⟨y, s4, y1, y2, h4, q4, N4⟩ := next_ex hc h3 60
    by_cases hy : y = 0
    · subst hy
      refine ⟨ev, xs, zB m, hx, by omega, ?_⟩
      refine AC.of_body 0 Tryz.func30 rfl (fun l h => absurd rfl h) (fun C hC => ?_)
      have hD : ∀ l, ¬ C.D0 l := fun l h => (hC l).1 h rfl
      simp only [startFr, Tryz.ntmps30, List.length_cons, List.length_nil, Nat.reduceAdd, Nat.reduceSub, List.replicate_succ, List.replicate_zero, List.cons_append, List.nil_append]
      repeat' (first | ((first | apply Ba | (apply Bb; (· rfl); (· rfl)) | (apply Bc; (· exact nxE)) | (apply Bd; (· rfl); (· rfl); (· exact nxE))); (· first | exact Kz rfl rfl (hT) (Ad An) | exact Ok.strOf rfl rfl rfl hzl Tryz.underlying5 | exact Ok.slen rfl rfl | exact Fx hF rfl rfl rfl | exact Zl (args := []) hG rfl rfl rfl rfl .nil (fun _ => by simp [rn]) | exact Nl N2 rfl rfl rfl rfl rfl | exact Nl N4 rfl rfl rfl rfl rfl | exact Zl (args := [Str t]) hDm rfl rfl rfl rfl (ARs.cons (.dd _) .nil) (fun _ => by simp [rn]) | exact Ok.makeB (n := m) rfl (by rw [hmI]; rfl) (by rw [hmI]; rfl) (by omega) (by omega) | exact Ok.pe)) | ((first | apply Ca | (apply Cb; (· exact nxE))); (· first | exact Fx hF rfl rfl rfl | exact Zl (args := []) hG rfl rfl rfl rfl .nil (fun _ => by simp [rn]) | exact Nl N2 rfl rfl rfl rfl rfl | exact Nl N4 rfl rfl rfl rfl rfl | exact Zl (args := [Str t]) hDm rfl rfl rfl rfl (ARs.cons (.dd _) .nil) (fun _ => by simp [rn]) | exact Ok.makeB (n := m) rfl (by rw [hmI]; rfl) (by rw [hmI]; rfl) (by omega) (by omega) | exact Ok.e0)) | refine Sx ?_ | (refine Sy (fun h => ?_) (fun h => ?_) <;> try (exfalso; omega; done)) | refine Sz (fun h => ?_) (fun h => ?_))
      all_goals
        refine Yb ?_
        (apply Le.headZ (hs := []) [] rfl)
        all_goals (try dsimp only [srcs])
        (case' hfr => (repeat' (first | refine La ?_ ?_ | exact Lc | refine Lo ?_ | refine ⟨⟨_, rfl, ?_⟩, ?_⟩ | refine Lx ?_)))
        all_goals (first | exact Ld | exact trivial | (rfl))
    · refine ⟨ev, xs, t', hx, by omega, ?_⟩
      refine AC.of_body 0 Tryz.func30 rfl (fun l h => absurd rfl h) (fun C hC => ?_)
      have hD : ∀ l, ¬ C.D0 l := fun l h => (hC l).1 h rfl
      simp only [startFr, Tryz.ntmps30, List.length_cons, List.length_nil, Nat.reduceAdd, Nat.reduceSub, List.replicate_succ, List.replicate_zero, List.cons_append, List.nil_append]
      repeat' (first | ((first | apply Ba | (apply Bb; (· rfl); (· rfl)) | (apply Bc; (· exact nxE)) | (apply Bd; (· rfl); (· rfl); (· exact nxE))); (· first | exact Kz rfl rfl (hT) (Ad An) | exact Ok.slen rfl rfl | exact Fx hF rfl rfl rfl | exact Zl (args := []) hG rfl rfl rfl rfl .nil (fun _ => by simp [rn]) | exact Nl N2 rfl rfl rfl rfl rfl | exact Nl N4 rfl rfl rfl rfl rfl | exact Zl (args := [Str t]) hDm rfl rfl rfl rfl (ARs.cons (.dd _) .nil) (fun _ => by simp [rn]) | exact Ok.pe)) | ((first | apply Ca | (apply Cb; (· exact nxE))); (· first | exact Fx hF rfl rfl rfl | exact Zl (args := []) hG rfl rfl rfl rfl .nil (fun _ => by simp [rn]) | exact Nl N2 rfl rfl rfl rfl rfl | exact Nl N4 rfl rfl rfl rfl rfl | exact Zl (args := [Str t]) hDm rfl rfl rfl rfl (ARs.cons (.dd _) .nil) (fun _ => by simp [rn]) | exact Ok.e0)) | refine Sx ?_ | (refine Sy (fun h => ?_) (fun h => ?_) <;> try (exfalso; omega; done)) | refine Sz (fun h => ?_) (fun h => ?_))
      all_goals
        refine Yb ?_
        (apply Le.headZ (hs := []) [] rfl)
        all_goals (try dsimp only [srcs])
        (case' hfr => (repeat' (first | refine La ?_ ?_ | exact Lc | refine Lo ?_ | refine ⟨⟨_, rfl, ?_⟩, ?_⟩ | refine Lx ?_)))
        all_goals (first | exact Ld | exact trivial | (rfl))
  · obtain ⟨y, s4, y1, y2, h4, q4, N4⟩ := next_ex hc h2 60
    by_cases hy : y = 0
    · subst hy
      refine ⟨ev, xs, zB m, hx, by omega, ?_⟩
      refine AC.of_body 0 Tryz.func30 rfl (fun l h => absurd rfl h) (fun C hC => ?_)
      have hD : ∀ l, ¬ C.D0 l := fun l h => (hC l).1 h rfl
      simp only [startFr, Tryz.ntmps30, List.length_cons, List.length_nil, Nat.reduceAdd, Nat.reduceSub, List.replicate_succ, List.replicate_zero, List.cons_append, List.nil_append]
      repeat' (first | ((first | apply Ba | (apply Bb; (· rfl); (· rfl)) | (apply Bc; (· exact nxE)) | (apply Bd; (· rfl); (· rfl); (· exact nxE))); (· first | exact Kz rfl rfl (hT) (Ad An) | exact Ok.strOf rfl rfl rfl hzl Tryz.underlying5 | exact Ok.slen rfl rfl | exact Fx hF rfl rfl rfl | exact Zl (args := []) hG rfl rfl rfl rfl .nil (fun _ => by simp [rn]) | exact Nl N2 rfl rfl rfl rfl rfl | exact Nl N4 rfl rfl rfl rfl rfl | exact Ok.makeB (n := m) rfl (by rw [hmI]; rfl) (by rw [hmI]; rfl) (by omega) (by omega) | exact Ok.pe)) | ((first | apply Ca | (apply Cb; (· exact nxE))); (· first | exact Fx hF rfl rfl rfl | exact Zl (args := []) hG rfl rfl rfl rfl .nil (fun _ => by simp [rn]) | exact Nl N2 rfl rfl rfl rfl rfl | exact Nl N4 rfl rfl rfl rfl rfl | exact Ok.makeB (n := m) rfl (by rw [hmI]; rfl) (by rw [hmI]; rfl) (by omega) (by omega) | exact Ok.e0)) | refine Sx ?_ | (refine Sy (fun h => ?_) (fun h => ?_) <;> try (exfalso; omega; done)) | refine Sz (fun h => ?_) (fun h => ?_))
      all_goals
        refine Yb ?_
        (apply Le.headZ (hs := []) [] rfl)
        all_goals (try dsimp only [srcs])
        (case' hfr => (repeat' (first | refine La ?_ ?_ | exact Lc | refine Lo ?_ | refine ⟨⟨_, rfl, ?_⟩, ?_⟩ | refine Lx ?_)))
        all_goals (first | exact Ld | exact trivial | (rfl))
    · refine ⟨ev, xs, t, hx, by omega, ?_⟩
      refine AC.of_body 0 Tryz.func30 rfl (fun l h => absurd rfl h) (fun C hC => ?_)
      have hD : ∀ l, ¬ C.D0 l := fun l h => (hC l).1 h rfl
      simp only [startFr, Tryz.ntmps30, List.length_cons, List.length_nil, Nat.reduceAdd, Nat.reduceSub, List.replicate_succ, List.replicate_zero, List.cons_append, List.nil_append]
      repeat' (first | ((first | apply Ba | (apply Bb; (· rfl); (· rfl)) | (apply Bc; (· exact nxE)) | (apply Bd; (· rfl); (· rfl); (· exact nxE))); (· first | exact Kz rfl rfl (hT) (Ad An) | exact Ok.slen rfl rfl | exact Fx hF rfl rfl rfl | exact Zl (args := []) hG rfl rfl rfl rfl .nil (fun _ => by simp [rn]) | exact Nl N2 rfl rfl rfl rfl rfl | exact Nl N4 rfl rfl rfl rfl rfl | exact Ok.pe)) | ((first | apply Ca | (apply Cb; (· exact nxE))); (· first | exact Fx hF rfl rfl rfl | exact Zl (args := []) hG rfl rfl rfl rfl .nil (fun _ => by simp [rn]) | exact Nl N2 rfl rfl rfl rfl rfl | exact Nl N4 rfl rfl rfl rfl rfl | exact Ok.e0)) | refine Sx ?_ | (refine Sy (fun h => ?_) (fun h => ?_) <;> try (exfalso; omega; done)) | refine Sz (fun h => ?_) (fun h => ?_))
      all_goals
        refine Yb ?_
        (apply Le.headZ (hs := []) [] rfl)
        all_goals (try dsimp only [srcs])
        (case' hfr => (repeat' (first | refine La ?_ ?_ | exact Lc | refine Lo ?_ | refine ⟨⟨_, rfl, ?_⟩, ?_⟩ | refine Lx ?_)))
        all_goals (first | exact Ld | exact trivial | (rfl))
theorem sRecoverTrace_own [Mode] (s : List UInt8) (fs : List Fi) (r : List UInt8) (h : RecOf s fs r) (hs : s.length ≤ 20000) : AC Tryz.prog 14 [Str s] H0 (.tup [own1 3 fs.length, I 0]) (hp1 (FO fs)) := by
  have hR := l28Recover_ac s fs r h (by omega)
  have hol : (fs.map Fi.row).length = fs.length := FL_len
  refine AC.of_body 0 Tryz.func14 rfl (fun l h => absurd rfl h) (fun C hC => ?_)
  have hD : ∀ l, ¬ C.D0 l := fun l h => (hC l).1 h rfl
  simp only [startFr, Tryz.ntmps14, List.length_cons, List.length_nil, Nat.reduceAdd, Nat.reduceSub, List.replicate_succ, List.replicate_zero, List.cons_append, List.nil_append]
  repeat' (first | ((first | apply Ba | (apply Bb; (· rfl); (· rfl)) | (apply Bc; (· exact nxE)) | (apply Bd; (· rfl); (· rfl); (· exact nxE))); (· first | exact Ok.slen rfl rfl | exact Eo rfl rfl (hR) (Sd Sn) | exact Ok.pe)) | ((first | apply Ca | (apply Cb; (· exact nxE))); (· first | exact Eo rfl rfl (hR) (Sd Sn) | exact Ok.e0)) | refine Sx ?_ | (refine Sy (fun h => ?_) (fun h => ?_) <;> try (exfalso; omega; done)) | refine Sz (fun h => ?_) (fun h => ?_))
  all_goals
    refine Yb ?_
    (apply Le.head [(⟨0, []⟩, _, _)])
    (case' hfr | hob => (repeat' (first | refine La ?_ ?_ | exact Lc | refine Lo ?_ | refine ⟨⟨_, rfl, ?_⟩, ?_⟩ | refine Lx ?_)))
    all_goals (first | exact Ld | (rfl))
set_option maxHeartbeats 4000000 in
theorem drawFirstDifference_ex [Mode] (code : List Int) (hc : CodeOk code) : ∃ (t u : List UInt8), t.length ≤ 50000 ∧ u.length ≤ 50000 ∧ AC Tryz.prog 31 [.d (BD code)] H0 (.tup [Str t, Str u]) H0 := by
  have hF := l01From_ac code hc
  obtain ⟨t, s1, h1, hf, hG⟩ := l28DrawText_ex code hc _ (src0_ok hc)
  obtain ⟨z, s2, z1, z2, h2, q2, N2⟩ := next_ex hc h1 3
  obtain ⟨u, s3, h3, hu, hG3⟩ := l28DrawText_ex code hc s2 h2
  by_cases hz : z = 0
  · subst hz
    obtain ⟨t', s4, h4, hl4, hDm⟩ := l01Damage_ex code hc s2 h2 t (by omega)
    refine ⟨t, t', by omega, by omega, ?_⟩
    refine AC.of_body 0 Tryz.func31 rfl (fun l h => absurd rfl h) (fun C hC => ?_)
    have hD : ∀ l, ¬ C.D0 l := fun l h => (hC l).1 h rfl
    simp only [startFr, Tryz.ntmps31, List.length_cons, List.length_nil, Nat.reduceAdd, Nat.reduceSub, List.replicate_succ, List.replicate_zero, List.cons_append, List.nil_append]
    repeat' (first | ((first | apply Ba | (apply Bb; (· rfl); (· rfl)) | (apply Bc; (· exact nxE)) | (apply Bd; (· rfl); (· rfl); (· exact nxE))); (· first | exact Ok.slen rfl rfl | exact Fx hF rfl rfl rfl | exact Zl (args := []) hG rfl rfl rfl rfl .nil (fun _ => by simp [rn]) | exact Nl N2 rfl rfl rfl rfl rfl | exact Zl (args := [Str t]) hDm rfl rfl rfl rfl (ARs.cons (.dd _) .nil) (fun _ => by simp [rn]) | exact Ok.pe)) | ((first | apply Ca | (apply Cb; (· exact nxE))); (· first | exact Fx hF rfl rfl rfl | exact Zl (args := []) hG rfl rfl rfl rfl .nil (fun _ => by simp [rn]) | exact Nl N2 rfl rfl rfl rfl rfl | exact Zl (args := [Str t]) hDm rfl rfl rfl rfl (ARs.cons (.dd _) .nil) (fun _ => by simp [rn]) | exact Ok.e0)) | refine Sx ?_ | (refine Sy (fun h => ?_) (fun h => ?_) <;> try (exfalso; omega; done)) | refine Sz (fun h => ?_) (fun h => ?_))
    all_goals
      refine Yb ?_
      (apply Le.headZ (hs := []) [] rfl)
      all_goals (try dsimp only [srcs])
      (case' hfr => (repeat' (first | refine La ?_ ?_ | exact Lc | refine Lo ?_ | refine ⟨⟨_, rfl, ?_⟩, ?_⟩ | refine Lx ?_)))
      all_goals (first | exact Ld | exact trivial | (rfl))
  by_cases h1z : z = 1
  · subst h1z
    obtain ⟨fs, r, hr⟩ := rec_ex t
    by_cases hb : 20000 < t.length
    · have hR := sRecoverTrace_ac t fs r hr (by omega)
      rw [rtL, rtC, if_pos hb, if_pos hb] at hR
      refine ⟨t, u, by omega, by omega, ?_⟩
      refine AC.of_body 0 Tryz.func31 rfl (fun l h => absurd rfl h) (fun C hC => ?_)
      have hD : ∀ l, ¬ C.D0 l := fun l h => (hC l).1 h rfl
      simp only [startFr, Tryz.ntmps31, List.length_cons, List.length_nil, Nat.reduceAdd, Nat.reduceSub, List.replicate_succ, List.replicate_zero, List.cons_append, List.nil_append]
      repeat' (first | ((first | apply Ba | (apply Bb; (· rfl); (· rfl)) | (apply Bc; (· exact nxE)) | (apply Bd; (· rfl); (· rfl); (· exact nxE))); (· first | exact Kz rfl rfl (hR) (Ad An) | exact Ok.slen rfl rfl | exact Fx hF rfl rfl rfl | exact Zl (args := []) hG rfl rfl rfl rfl .nil (fun _ => by simp [rn]) | exact Zl (args := []) hG3 rfl rfl rfl rfl .nil (fun _ => by simp [rn]) | exact Nl N2 rfl rfl rfl rfl rfl | exact Ok.pe)) | ((first | apply Ca | (apply Cb; (· exact nxE))); (· first | exact Fx hF rfl rfl rfl | exact Zl (args := []) hG rfl rfl rfl rfl .nil (fun _ => by simp [rn]) | exact Zl (args := []) hG3 rfl rfl rfl rfl .nil (fun _ => by simp [rn]) | exact Nl N2 rfl rfl rfl rfl rfl | exact Ok.e0)) | refine Sx ?_ | (refine Sy (fun h => ?_) (fun h => ?_) <;> try (exfalso; omega; done)) | refine Sz (fun h => ?_) (fun h => ?_))
      all_goals
        refine Yb ?_
        (apply Le.headZ (hs := []) [] rfl)
        all_goals (try dsimp only [srcs])
        (case' hfr => (repeat' (first | refine La ?_ ?_ | exact Lc | refine Lo ?_ | refine ⟨⟨_, rfl, ?_⟩, ?_⟩ | refine Lx ?_)))
        all_goals (first | exact Ld | exact trivial | (rfl))
    · by_cases h0 : fs.length = 0
      · obtain rfl := List.length_eq_zero_iff.1 h0
        have hR := sRecoverTrace_ac t [] r hr (by omega)
        rw [rtL, rtC, if_neg hb, if_neg hb] at hR
        refine ⟨t, u, by omega, by omega, ?_⟩
        refine AC.of_body 0 Tryz.func31 rfl (fun l h => absurd rfl h) (fun C hC => ?_)
        have hD : ∀ l, ¬ C.D0 l := fun l h => (hC l).1 h rfl
        simp only [startFr, Tryz.ntmps31, List.length_cons, List.length_nil, Nat.reduceAdd, Nat.reduceSub, List.replicate_succ, List.replicate_zero, List.cons_append, List.nil_append]
        repeat' (first | ((first | apply Ba | (apply Bb; (· rfl); (· rfl)) | (apply Bc; (· exact nxE)) | (apply Bd; (· rfl); (· rfl); (· exact nxE))); (· first | exact Kz rfl rfl (hR) (Ad An) | exact Ok.slen rfl rfl | exact Fx hF rfl rfl rfl | exact Zl (args := []) hG rfl rfl rfl rfl .nil (fun _ => by simp [rn]) | exact Zl (args := []) hG3 rfl rfl rfl rfl .nil (fun _ => by simp [rn]) | exact Nl N2 rfl rfl rfl rfl rfl | exact Ok.pe)) | ((first | apply Ca | (apply Cb; (· exact nxE))); (· first | exact Fx hF rfl rfl rfl | exact Zl (args := []) hG rfl rfl rfl rfl .nil (fun _ => by simp [rn]) | exact Zl (args := []) hG3 rfl rfl rfl rfl .nil (fun _ => by simp [rn]) | exact Nl N2 rfl rfl rfl rfl rfl | exact Ok.e0)) | refine Sx ?_ | (refine Sy (fun h => ?_) (fun h => ?_) <;> try (exfalso; omega; done)) | refine Sz (fun h => ?_) (fun h => ?_))
        all_goals
          refine Yb ?_
          (apply Le.headZ (hs := []) [] rfl)
          all_goals (try dsimp only [srcs])
          (case' hfr => (repeat' (first | refine La ?_ ?_ | exact Lc | refine Lo ?_ | refine ⟨⟨_, rfl, ?_⟩, ?_⟩ | refine Lx ?_)))
          all_goals (first | exact Ld | exact trivial | (rfl))
      · have hR := sRecoverTrace_own t fs r hr (by omega)
        have hl5 := hr.len
        obtain ⟨k0, s4, k1, k2, h4, q4, N4⟩ := next_ex hc h2 (fs.length : Int)
        obtain ⟨k, rfl⟩ : ∃ k : Nat, k0 = k := ⟨k0.toNat, by omega⟩
        obtain ⟨b, s5, b1, b2, h5, q5, N5⟩ := next_ex hc h4 50
        obtain ⟨f, hfk⟩ : ∃ f, fs[k]? = some f := ⟨fs[k]'(by omega), List.getElem?_eq_getElem (by omega)⟩
        have hrf := ownFi_row hfk
        have hsl : (FO fs).rows.length = fs.length := by simp [dobj]
        have hT := sTraceText_ac (fs.set k ⟨f.e, f.n, b⟩) (by simp; omega)
        have hTl := ttT_len (fs.set k ⟨f.e, f.n, b⟩)
        have hsl2 : ((fs.set k ⟨f.e, f.n, b⟩).map Fi.row).length = fs.length := by simp
        refine ⟨t, ttT (fs.set k ⟨f.e, f.n, b⟩), by omega, by omega, ?_⟩
        generalize ttT (fs.set k ⟨f.e, f.n, b⟩) = w at *
        generalize wrC (fs.set k ⟨f.e, f.n, b⟩) = c at *
        refine AC.of_body 0 Tryz.func31 rfl (fun l h => absurd rfl h) (fun C hC => ?_)
        have hD : ∀ l, ¬ C.D0 l := fun l h => (hC l).1 h rfl
        simp only [startFr, Tryz.ntmps31, List.length_cons, List.length_nil, Nat.reduceAdd, Nat.reduceSub, List.replicate_succ, List.replicate_zero, List.cons_append, List.nil_append]
        repeat' (first | ((first | apply Ba | (apply Bb; (· rfl); (· rfl)) | (apply Bc; (· exact nxE)) | (apply Bd; (· rfl); (· rfl); (· exact nxE))); (· first | exact Ez rfl rfl (hT) (Sw (hn := by assumption) Sn) | exact Ok.slen rfl rfl | exact Fx hF rfl rfl rfl | exact Zl (args := []) hG rfl rfl rfl rfl .nil (fun _ => by simp [rn]) | exact Zl (args := []) hG3 rfl rfl rfl rfl .nil (fun _ => by simp [rn]) | exact Nl N2 rfl rfl rfl rfl rfl | exact Nl N4 rfl rfl rfl rfl rfl | exact Nl N5 rfl rfl rfl rfl rfl | exact Eo rfl rfl (hR) (Sd Sn) | exact Ok.storeC rfl rfl rfl rfl hrf (by simp only [List.length_cons, List.length_nil, Nat.reduceAdd, Nat.reduceLT]) (by conv => lhs; whnf) (by rfl) (by rfl) (ownFi_set (f := ⟨f.e, f.n, b⟩)) | exact Ok.pe)) | ((first | apply Ca | (apply Cb; (· exact nxE))); (· first | exact Fx hF rfl rfl rfl | exact Zl (args := []) hG rfl rfl rfl rfl .nil (fun _ => by simp [rn]) | exact Zl (args := []) hG3 rfl rfl rfl rfl .nil (fun _ => by simp [rn]) | exact Nl N2 rfl rfl rfl rfl rfl | exact Nl N4 rfl rfl rfl rfl rfl | exact Nl N5 rfl rfl rfl rfl rfl | exact Eo rfl rfl (hR) (Sd Sn) | exact Ok.storeC rfl rfl rfl rfl hrf (by simp only [List.length_cons, List.length_nil, Nat.reduceAdd, Nat.reduceLT]) (by conv => lhs; whnf) (by rfl) (by rfl) (ownFi_set (f := ⟨f.e, f.n, b⟩)) | exact Ok.e0)) | refine Sx ?_ | (refine Sy (fun h => ?_) (fun h => ?_) <;> try (exfalso; omega; done)) | refine Sz (fun h => ?_) (fun h => ?_))
        all_goals
          refine Yb ?_
          (apply Le.headZ (hs := []) [] rfl)
          all_goals (try dsimp only [srcs])
          (case' hfr => (repeat' (first | refine La ?_ ?_ | exact Lc | refine Lo ?_ | refine ⟨⟨_, rfl, ?_⟩, ?_⟩ | refine Lx ?_)))
          all_goals (first | exact Ld | exact trivial | (rfl))
  · refine ⟨t, u, by omega, by omega, ?_⟩
    refine AC.of_body 0 Tryz.func31 rfl (fun l h => absurd rfl h) (fun C hC => ?_)
    have hD : ∀ l, ¬ C.D0 l := fun l h => (hC l).1 h rfl
    simp only [startFr, Tryz.ntmps31, List.length_cons, List.length_nil, Nat.reduceAdd, Nat.reduceSub, List.replicate_succ, List.replicate_zero, List.cons_append, List.nil_append]
    repeat' (first | ((first | apply Ba | (apply Bb; (· rfl); (· rfl)) | (apply Bc; (· exact nxE)) | (apply Bd; (· rfl); (· rfl); (· exact nxE))); (· first | exact Ok.slen rfl rfl | exact Fx hF rfl rfl rfl | exact Zl (args := []) hG rfl rfl rfl rfl .nil (fun _ => by simp [rn]) | exact Zl (args := []) hG3 rfl rfl rfl rfl .nil (fun _ => by simp [rn]) | exact Nl N2 rfl rfl rfl rfl rfl | exact Ok.pe)) | ((first | apply Ca | (apply Cb; (· exact nxE))); (· first | exact Fx hF rfl rfl rfl | exact Zl (args := []) hG rfl rfl rfl rfl .nil (fun _ => by simp [rn]) | exact Zl (args := []) hG3 rfl rfl rfl rfl .nil (fun _ => by simp [rn]) | exact Nl N2 rfl rfl rfl rfl rfl | exact Ok.e0)) | refine Sx ?_ | (refine Sy (fun h => ?_) (fun h => ?_) <;> try (exfalso; omega; done)) | refine Sz (fun h => ?_) (fun h => ?_))
    all_goals
      refine Yb ?_
      (apply Le.headZ (hs := []) [] rfl)
      all_goals (try dsimp only [srcs])
      (case' hfr => (repeat' (first | refine La ?_ ?_ | exact Lc | refine Lo ?_ | refine ⟨⟨_, rfl, ?_⟩, ?_⟩ | refine Lx ?_)))
      all_goals (first | exact Ld | exact trivial | (rfl))
end Go.Proofs.YtofakjlamoigcaaGreatDoor
end
