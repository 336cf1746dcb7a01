/-
  Walks in the abstract reading, part 9.
-/
import Derived.Test.YtegfjedklebbfaaKmR1
import Derived.Laws.Bits64b
import Derived.Test.YtegfjedklebbfaaKmU4
import Derived.Test.YtegfjedklebbfaaKmU7
import Derived.Test.YtegfjedklebbfaaKmU8
import Derived.Test.YtegfjedklebbfaaKmU6
section
namespace Go.Proofs.Ytegfjedklebbfaa
set_option linter.unusedSimpArgs false
set_option linter.unusedVariables false
open Go Go.RowKit
attribute [local irreducible] AL AD AW OpOk Le AC thenQ blockQ EndQ

abbrev U (n : Int) : AV := .d (.v (.int .u64 n))
theorem wrapU (n : Int) : IntKind.u64.wrap n = n % 18446744073709551616 := by simp [IntKind.wrap, IntKind.bits, IntKind.signed]
theorem wrapU_in (n : Int) : 0 ≤ IntKind.u64.wrap n ∧ IntKind.u64.wrap n < 18446744073709551616 := by rw [wrapU]; omega
/-- Some bits of a number. -/
def diB (h : Int) : Int := bits .and .u64 (h / 8589934592) 16777215
theorem diB_in {h : Int} (h1 : 0 ≤ h) (h2 : h < 18446744073709551616) : 0 ≤ diB h ∧ diB h ≤ 16777215 := by
  unfold diB
  obtain ⟨u, hu⟩ : ∃ u : Nat, h / 8589934592 = u := ⟨(h / 8589934592).toNat, by omega⟩
  rw [hu, show (16777215 : Int) = ((16777215 : Nat) : Int) from rfl, bits_and_u64_nat u 16777215 (by omega) (by decide)]
  have := Nat.and_le_right (n := u) (m := 16777215)
  omega
section
variable {P : Program} {o : Oper} {A : Operand → AV} {H : Heap} {new : Nat} {t t' : TypeId} {x y : Operand} {a : Int} {kd : IntKind}
theorem Ok.shr33 (ho : o.op = .binOp .shr t x y t') (hx : A x = U a) (hy : A y = .d (.v (.int kd 33))) : OpOk P o A [] H new (U (a / 8589934592)) [] := OpOk.bin ho hx hy rfl fun w => by
  have := shift_shr_any (k := .u64) (yk := kd) a 33 (by decide)
  simp only [binOp_shr, this]
  rfl
theorem Ok.and24 (ho : o.op = .binOp .and t x y t') (hx : A x = U (a / 8589934592)) (hy : A y = U 16777215) : OpOk P o A [] H new (U (diB a)) [] := OpOk.bin ho hx hy rfl fun w => by
  simp only [binOp_and, intBits_and]
  rfl
end
abbrev diO (code : List Int) (i h : Int) : AObj := dobj 3 [[BD code, DI i, .v (.int .u64 h)]]
def rollF (code : List Int) : Nat → Int
  | 0 => IntKind.u64.wrap (IntKind.u64.wrap (2701 * 9103) + IntKind.u64.wrap code.length)
  | k + 1 => IntKind.u64.wrap (IntKind.u64.wrap (IntKind.u64.wrap (rollF code k * 1099511628211) + IntKind.u64.wrap ((code[k]?).getD 0)) + 5)
set_option maxHeartbeats 4000000 in
theorem roll_ac (code : List Int) (hc : CodeOk code) : AC Try.prog 37 [.d (BD code), U 2701] H0 (Bx 3 0) (hp1 (diO code 0 (rollF code code.length))) := by
  have hl : (BR code).length = code.length := List.length_map _
  have h6 := hc.len
  have h00 : rollF code 0 = IntKind.u64.wrap (IntKind.u64.wrap (2701 * 9103) + IntKind.u64.wrap code.length) := rfl
  refine AC.of_body 0 Try.func37 rfl (fun l h => absurd rfl h) (fun C hC => ?_)
  have hD : ∀ l, ¬ C.D0 l := fun l h => (hC l).1 h rfl
  simp only [startFr, Try.ntmps37, List.length_cons, List.length_nil, Nat.reduceAdd, Nat.reduceSub, List.replicate_succ, List.replicate_zero, List.cons_append, List.nil_append]
  repeat' (first | ((first | apply Ba | (apply Bb; (· rfl); (· rfl)) | (apply Bc; (· exact nxE)) | (apply Bd; (· rfl); (· rfl); (· exact nxE))); (· first | exact Ok.mulW rfl rfl rfl | exact Ok.convII rfl rfl Try.underlying49 (by rw [Try.underlying3]; rfl) rfl | exact Ok.pe)) | ((first | apply Ca | (apply Cb; (· exact nxE))); (· first | exact Ok.e0)) | refine Sx ?_ | (refine Sy (fun h => ?_) (fun h => ?_) <;> try (exfalso; omega; done)) | refine Sz (fun h => ?_) (fun h => ?_))
  refine AW.loop (X := {k : Nat // k ≤ code.length}) (fun k => ⟨[.d (BD code), Oo, Oo, Oo, Oo, Bx 3 0, I (k.1 : Nat), Oo, Oo, Oo, Oo, Oo, Oo, Oo, Oo, Oo, Oo, Oo, Oo, Oo, Oo, Oo, Oo, Oo, Oo, Oo, Oo, Oo, Oo, Oo, Oo, Oo, Oo, Oo, Oo, Oo, Oo, Oo], heapL [(⟨0, []⟩, ⟨0, []⟩, ⟨3, [[.d (BD code), I 0, U (rollF code k.1)]]⟩)], 900⟩) (fun k => code.length - k.1) ⟨0, Nat.zero_le _⟩ ?_ (fun k => ?_)
  ·
    (apply Le.headZ [_] rfl)
    all_goals (try dsimp only [srcs])
    (case' hfr | hob => (repeat' (first | refine La ?_ ?_ | exact Lc | refine Lo ?_ | refine ⟨⟨_, rfl, ?_⟩, ?_⟩ | refine Lx ?_)))
    all_goals (first | (rfl) | exact Ld)
  obtain ⟨k, hk⟩ := k
  simp only
  by_cases hlt : k < code.length
  · obtain ⟨b, hb⟩ : ∃ b, code[k]? = some b := ⟨code[k], by simp⟩
    have hrow : (BR code)[((k : Nat) : Int).toNat]? = some [D.v (.int .u8 b)] := by simp [hb]
    have hst : rollF code (k + 1) = IntKind.u64.wrap (IntKind.u64.wrap (IntKind.u64.wrap (rollF code k * 1099511628211) + IntKind.u64.wrap b) + 5) := by rw [rollF, hb]; rfl
    generalize rollF code k = h0 at hst ⊢
    repeat' (first | ((first | apply Ba | (apply Bb; (· rfl); (· rfl)) | (apply Bc; (· exact nxE)) | (apply Bd; (· rfl); (· rfl); (· exact nxE))); (· first | exact OpOk.nilCheck rfl rfl | exact Ok.mulW rfl rfl rfl | exact Ok.convII rfl rfl Try.underlying49 (by rw [Try.underlying5]; rfl) rfl | exact Ok.pe)) | ((first | apply Ca | (apply Cb; (· exact nxE))); (· first | exact Ok.e0)) | refine Sx ?_ | (refine Sy (fun h => ?_) (fun h => ?_) <;> try (exfalso; omega; done)) | refine Sz (fun h => ?_) (fun h => ?_))
    refine ⟨⟨k + 1, by omega⟩, ?_, by simp only; omega⟩
    simp only [hst]
    (apply Le.headZ [_] rfl)
    all_goals (try dsimp only [srcs])
    (case' hfr | hob => (repeat' (first | refine La ?_ ?_ | exact Lc | refine Lo ?_ | refine ⟨⟨_, rfl, ?_⟩, ?_⟩ | refine Lx ?_)))
    all_goals (first | (rfl) | exact Ld)
  · obtain rfl : k = code.length := by omega
    repeat' (first | ((first | apply Ba | (apply Bb; (· rfl); (· rfl)) | (apply Bc; (· exact nxE)) | (apply Bd; (· rfl); (· rfl); (· exact nxE))); (· first | exact Ok.pe)) | ((first | apply Ca | (apply Cb; (· exact nxE))); (· first | exact Ok.e0)) | refine Sx ?_ | (refine Sy (fun h => ?_) (fun h => ?_) <;> try (exfalso; omega; done)) | refine Sz (fun h => ?_) (fun h => ?_))
    refine Ya ?_
    (apply Le.head [(⟨0, []⟩, _, _)])
    (case' hfr | hob => (repeat' (first | refine La ?_ ?_ | exact Lc | refine Lo ?_ | refine ⟨⟨_, rfl, ?_⟩, ?_⟩ | refine Lx ?_)))
    all_goals (first | exact Ld | (rfl))
set_option maxHeartbeats 4000000 in
theorem below_ex (code : List Int) (hc : CodeOk code) (h : Int) (n : Int) (hn : 0 < n) : ∃ (q : Int) (i h' : Int), 0 ≤ q ∧ q < n ∧ AC Try.prog 38 [Bx 3 0, I n] (hp1 (diO code 0 h)) (I q) (hp1 (diO code i h')) := by
  have hl : (BR code).length = code.length := List.length_map _
  have h6 := hc.len
  obtain ⟨g, hg⟩ : ∃ g, g = IntKind.u64.wrap (IntKind.u64.wrap (h * 6364136223846793005) + 1442695040888963407) := ⟨_, rfl⟩
  have hgi := wrapU_in (IntKind.u64.wrap (h * 6364136223846793005) + 1442695040888963407)
  rw [← hg] at hgi
  have hdi := diB_in hgi.1 hgi.2
  have hadd : ∀ {P : Program} {o : Oper} {A : Operand → AV} {H : Heap} {new : Nat} {t t' : TypeId} {x y : Operand}, o.op = .binOp .add t x y t' → A x = U (IntKind.u64.wrap (h * 6364136223846793005)) → A y = U 1442695040888963407 → OpOk P o A [] H new (U g) [] := fun ho hx hy => by rw [hg]; exact Ok.addW ho hx hy
  cases hcd : code[0]? with
  | none =>
    have h0 : code.length = 0 := by simpa using hcd
    refine ⟨(diB g).tmod n, 0, g, (tmod_in hdi.1 hn).1, (tmod_in hdi.1 hn).2, ?_⟩
    show AC _ _ _ (heapL [(⟨0, []⟩, ⟨0, []⟩, ⟨3, [[.d (BD code), I 0, U h]]⟩)]) _ _
    refine AC.of_body 1 Try.func38 rfl (fun l h => by simp [heapL, upd] at h; simp [h]) (fun C hC => ?_)
    simp only [startFr, Try.ntmps38, List.length_cons, List.length_nil, Nat.reduceAdd, Nat.reduceSub, List.replicate_succ, List.replicate_zero, List.cons_append, List.nil_append]
    have hD : ∀ l, C.D0 l → l = ⟨0, []⟩ := fun l h => by have := (hC l).1 h; simp [heapL, upd] at this; exact this
    repeat' (first | ((first | apply Ba | (apply Bb; (· rfl); (· rfl)) | (apply Bc; (· exact nxE)) | (apply Bd; (· rfl); (· rfl); (· exact nxE))); (· first | exact OpOk.nilCheck rfl rfl | exact hadd rfl rfl rfl | exact Ok.mulW rfl rfl rfl | exact Ok.shr33 rfl rfl rfl | exact Ok.and24 rfl rfl rfl | exact Ok.convII rfl rfl Try.underlying2 (by rw [Try.underlying49]; rfl) (wrap64_id (by omega) (by omega)) | exact Ok.rem rfl rfl rfl (by omega) | exact Ok.pe)) | ((first | apply Ca | (apply Cb; (· exact nxE))); (· first | exact Ok.e0)) | refine Sx ?_ | (refine Sy (fun h => ?_) (fun h => ?_) <;> try (exfalso; omega; done)) | refine Sz (fun h => ?_) (fun h => ?_))
    (refine end1p (by first | exact .inl rfl | exact .inr rfl) rfl (by first | exact rT rfl | exact rCA rfl rfl rfl rfl (by simp) | exact rCC rfl rfl rfl rfl rfl) ?_ (Le.head ([(⟨0, []⟩, ⟨0, []⟩, ⟨3, [[.d (BD code), I 0, U g]]⟩)]) (by first | exact fun l h => absurd h (hD l) | (intro l h; rcases hD l h with rfl; simp [tauL]) | (intro l h; rcases hD l h with rfl | rfl <;> simp [tauL]; done) | (intro l h; rcases hD l h with rfl | rfl | rfl <;> simp [tauL])) ?_ ?_ (by simp) (by simp) (by simp [AllP]) (n' := 1000)); (· rfl)) <;> (repeat' (first | exact trivial | exact ARs.nil | refine ARs.cons ?_ ?_ | exact AR.dead _ | exact AR.dd _ | exact AR.i (by (try dsimp only); omega) | exact AR.ptr _ _ _ _ (by simp [heapL, upd]) | exact AR.own _ _ _ _ (by simp [heapL, upd]) | refine AR.ownE _ _ _ ?_ (by simp [heapL, upd]) | refine ⟨⟨_, rfl, ?_⟩, ?_⟩ | exact ObA.data | refine ObA.box ?_ | refine ObA.frE ?_ | refine ObA.dataE ?_ | refine ARs.agg ?_ | refine ARs.tup ?_ | exact AR.clo' ARs.nil ARs.nil | exact AR.clo' ARs.nil (hca _ _)))
  | some b =>
    obtain ⟨hp, hb0⟩ := List.getElem?_eq_some_iff.1 hcd
    have hbb := hc.b b (List.mem_of_getElem? hcd)
    have hrow : (BR code)[(0 : Int).toNat]? = some [D.v (.int .u8 b)] := by simp [hcd]
    refine ⟨(diB g + b).tmod n, 1, g, (tmod_in (by omega) hn).1, (tmod_in (by omega) hn).2, ?_⟩
    show AC _ _ _ (heapL [(⟨0, []⟩, ⟨0, []⟩, ⟨3, [[.d (BD code), I 0, U h]]⟩)]) _ _
    refine AC.of_body 1 Try.func38 rfl (fun l h => by simp [heapL, upd] at h; simp [h]) (fun C hC => ?_)
    simp only [startFr, Try.ntmps38, List.length_cons, List.length_nil, Nat.reduceAdd, Nat.reduceSub, List.replicate_succ, List.replicate_zero, List.cons_append, List.nil_append]
    have hD : ∀ l, C.D0 l → l = ⟨0, []⟩ := fun l h => by have := (hC l).1 h; simp [heapL, upd] at this; exact this
    repeat' (first | ((first | apply Ba | (apply Bb; (· rfl); (· rfl)) | (apply Bc; (· exact nxE)) | (apply Bd; (· rfl); (· rfl); (· exact nxE))); (· first | exact OpOk.nilCheck rfl rfl | exact hadd rfl rfl rfl | exact Ok.mulW rfl rfl rfl | exact Ok.shr33 rfl rfl rfl | exact Ok.and24 rfl rfl rfl | exact Ok.convII rfl rfl Try.underlying2 (by rw [Try.underlying49]; rfl) (wrap64_id (by omega) (by omega)) | exact Ok.convII rfl rfl Try.underlying2 (by rw [Try.underlying5]; rfl) (wrap64_id (by omega) (by omega)) | exact Ok.rem rfl rfl rfl (by omega) | exact Ok.pe)) | ((first | apply Ca | (apply Cb; (· exact nxE))); (· first | exact Ok.e0)) | refine Sx ?_ | (refine Sy (fun h => ?_) (fun h => ?_) <;> try (exfalso; omega; done)) | refine Sz (fun h => ?_) (fun h => ?_))
    (refine end1p (by first | exact .inl rfl | exact .inr rfl) rfl (by first | exact rT rfl | exact rCA rfl rfl rfl rfl (by simp) | exact rCC rfl rfl rfl rfl rfl) ?_ (Le.head ([(⟨0, []⟩, ⟨0, []⟩, ⟨3, [[.d (BD code), I (0 + 1), U g]]⟩)]) (by first | exact fun l h => absurd h (hD l) | (intro l h; rcases hD l h with rfl; simp [tauL]) | (intro l h; rcases hD l h with rfl | rfl <;> simp [tauL]; done) | (intro l h; rcases hD l h with rfl | rfl | rfl <;> simp [tauL])) ?_ ?_ (by simp) (by simp) (by simp [AllP]) (n' := 1000)); (· rfl)) <;> (repeat' (first | exact trivial | exact ARs.nil | refine ARs.cons ?_ ?_ | exact AR.dead _ | exact AR.dd _ | exact AR.i (by (try dsimp only); omega) | exact AR.ptr _ _ _ _ (by simp [heapL, upd]) | exact AR.own _ _ _ _ (by simp [heapL, upd]) | refine AR.ownE _ _ _ ?_ (by simp [heapL, upd]) | refine ⟨⟨_, rfl, ?_⟩, ?_⟩ | exact ObA.data | refine ObA.box ?_ | refine ObA.frE ?_ | refine ObA.dataE ?_ | refine ARs.agg ?_ | refine ARs.tup ?_ | exact AR.clo' ARs.nil ARs.nil | exact AR.clo' ARs.nil (hca _ _)))
section
variable {P : Program} {o : Oper} {A : Operand → AV} {H : Heap} {new : Nat}
/-- The dice are made. -/
theorem Fo {fo x y : Operand} {ts : Array TypeId} {f : FuncId} {c : D} {s : AV} {rows : List (List D)} (hc : AC P f [.d c, s] H0 (Bx 3 0) (hp1 (dobj 3 rows))) (ho : o.op = .call { callee := .value fo, args := #[x, y], argTypes := ts }) [FnBody P f] (hfo : A fo = .clo (.func f) [] [])
    (hx : A x = .d c) (hs : ∃ d, s = .d d) (hy : A y = s) : OpOk P o A [] H new (.ptr 3 ⟨new, [0]⟩ 0 0) [.one ⟨new, [0]⟩ (some (dobj 3 rows))] := by
  obtain ⟨d, rfl⟩ := hs
  exact OpOk.call1n (xs := [x, y]) [] ho hfo hc (.inl rfl) (fun g => rnO_dobj _ _ _) (by
    show ARs _ _ _ _ _ [A x, A y]
    rw [hx, hy]; exact .cons (AR.dd _) (.cons (AR.dd _) .nil)) (by rw [rn])
/-- They are thrown. -/
theorem Ol {fo x y : Operand} {ts : Array TypeId} {f : FuncId} {l : Loc} {rows rows' : List (List D)} {n a : Int} (hc : AC P f [Bx 3 0, I n] (hp1 (dobj 3 rows)) (I a) (hp1 (dobj 3 rows'))) (ho : o.op = .call { callee := .value fo, args := #[x, y], argTypes := ts }) [FnBody P f] (hfo : A fo = .clo (.func f) [] [])
    (hx : A x = .ptr 3 l 0 0) (hy : A y = I n) (hl : H l = some (dobj 3 rows)) : OpOk P o A [l] H new (I a) [.one l (some (dobj 3 rows'))] :=
  OpOk.callM (xs := [x, y]) ho hfo hc hl rfl (by
    show ARs _ _ _ _ _ [A x, A y]
    rw [hx, hy]; exact .cons (AR.ptr 3 ⟨0, []⟩ 0 0 rfl) (.cons (.dd _) .nil))
end
end Go.Proofs.Ytegfjedklebbfaa
end

section
namespace Go.Proofs.Ytegfjedklebbfaa
set_option linter.unusedSimpArgs false
set_option linter.unusedVariables false
open Go Go.RowKit
attribute [local irreducible] AL AD AW OpOk Le AC thenQ blockQ EndQ

theorem codeI_ok {ev : Int} {xs : List Pl} {b : Bool} (h : codeI ev xs b = 0) : liveI ev xs = 0 ∧ b = true := by
  unfold codeI at h
  cases b with
  | true => simpa using h
  | false =>
    by_cases h1 : liveI ev xs = 1
    · simp [h1] at h
    · simp [h1] at h
theorem cqC_ok {ev : Int} {xs : List Pl} {b : Bool} (h : cqC ev xs b = 0) : liveI ev xs = 0 ∧ b = true ∧ bcC ev xs = 0 := by
  unfold cqC at h
  by_cases h1 : codeI ev xs b = 0
  · rw [if_pos h1] at h
    exact ⟨(codeI_ok h1).1, (codeI_ok h1).2, h⟩
  · rw [if_neg h1] at h; exact absurd h h1
end Go.Proofs.Ytegfjedklebbfaa
end

section
namespace Go.Proofs.Ytegfjedklebbfaa
set_option linter.unusedSimpArgs false
set_option linter.unusedVariables false
open Go Go.RowKit
attribute [local irreducible] AL AD AW OpOk Le AC thenQ blockQ EndQ

theorem isEG_set {ev : Int} {xs : List Pl} {i : Nat} {p : Pl} (h : isEG ev xs = true) (hp : plB (ev - 1) p = true) : isEG ev (xs.set i p) = true := by
  simp only [isEG, Bool.and_eq_true, decide_eq_true_eq, List.all_eq_true, List.length_set] at h ⊢
  refine ⟨h.1, fun q hq => ?_⟩
  rcases List.mem_or_eq_of_mem_set hq with h1 | rfl
  · exact h.2 q h1
  · exact hp
theorem fold_set {β : Type} {f : β → Pl → β} {p q : Pl} (h : ∀ b, f b p = f b q) : ∀ {xs : List Pl} {i : Nat} {b : β}, xs[i]? = some q → (xs.set i p).foldl f b = xs.foldl f b
  | [], i, b, h1 => by simp at h1
  | x :: xs, 0, b, h1 => by simp at h1; subst h1; simp [h]
  | x :: xs, i + 1, b, h1 => by simp at h1; simp [fold_set h h1]
theorem plA_set {xs : List Pl} {i : Nat} {p : Pl} (hi : i < xs.length) (j : Nat) : plA (xs.set i p) j = if j = i then p else plA xs j := by
  unfold plA
  rw [List.getElem?_set]
  by_cases h : i = j
  · subst h; simp [hi]
  · rw [if_neg h, if_neg (Ne.symm h)]
theorem Wk.same {xs ys : List Pl} (hl : ys.length = xs.length) (h : ∀ i, (plA ys i).f = (plA xs i).f ∧ (plA ys i).t = (plA xs i).t) : ∀ {c : List Nat} {u v : Int}, Wk xs u c v → Wk ys u c v
  | [], _, _, hw => hw
  | i :: c, u, v, ⟨h1, h2, h3⟩ => ⟨by omega, by rw [(h i).1]; exact h2, by rw [(h i).2]; exact Wk.same hl h h3⟩
theorem Circ.same {xs ys : List Pl} (hl : ys.length = xs.length) (h : ∀ i, (plA ys i).f = (plA xs i).f ∧ (plA ys i).t = (plA xs i).t) {c : List Nat} (hc : Circ xs c) : Circ ys c := by
  have e : (c.map fun i => (plA ys i).f) = c.map fun i => (plA xs i).f := List.map_congr_left fun i _ => (h i).1
  refine ⟨hc.ne, ?_, by rw [e]; exact hc.nd, fun i hi => ?_⟩
  · have := hc.wk.same hl h
    simp only [firstF] at this ⊢
    rw [(h (hdN c)).1]
    exact this
  · have := hc.mn i hi
    simp only [firstF] at this ⊢
    rw [(h (hdN c)).1, (h i).1]
    exact this
theorem hasC_same {xs ys : List Pl} (hl : ys.length = xs.length) (h : ∀ i, (plA ys i).f = (plA xs i).f ∧ (plA ys i).t = (plA xs i).t) : hasC ys ↔ hasC xs :=
  ⟨fun ⟨c, hc⟩ => ⟨c, hc.same hl.symm fun i => ⟨(h i).1.symm, (h i).2.symm⟩⟩, fun ⟨c, hc⟩ => ⟨c, hc.same hl h⟩⟩
theorem plB_at {ev : Int} {xs : List Pl} {i : Nat} (h : isEG ev xs = true) (hi : i < xs.length) : plB (ev - 1) (plA xs i) = true := by
  simp only [isEG, Bool.and_eq_true, List.all_eq_true] at h
  have e : plA xs i = xs[i] := by simp [plA, hi]
  rw [e]
  exact h.2 _ (List.getElem_mem hi)
theorem eg_no {ev : Int} {xs : List Pl} {b : Bool} (h : isEG ev xs = false) : cqC ev xs b = 1 := by
  have h1 : liveI ev xs = 1 := by unfold liveI; rw [h]; rfl
  unfold cqC codeI
  rw [h1]; simp
theorem in_no {ev : Int} {xs : List Pl} (h : isEG ev xs = true) : cqC ev xs false = 2 := by
  have h1 : liveI ev xs ≠ 1 := by unfold liveI; rw [if_pos h]; split <;> decide
  unfold cqC codeI
  rw [if_neg (by simp [h1])]; simp [h1]
theorem in_yes {ev : Int} {xs : List Pl} : cqC ev xs true = bcC ev xs := by
  unfold cqC codeI
  simp only [Bool.true_eq_false, and_false, if_false]
  by_cases h : liveI ev xs = 0
  · rw [if_pos h]
  · rw [if_neg h]; unfold bcC; rw [if_neg h]
end Go.Proofs.Ytegfjedklebbfaa
end

section
namespace Go.Proofs.Ytegfjedklebbfaa
set_option linter.unusedSimpArgs false
set_option linter.unusedVariables false
open Go Go.RowKit
attribute [local irreducible] AL AD AW OpOk Le AC thenQ blockQ EndQ

def cmpI (x y : Int) : Int := if x < y then -1 else if y < x then 1 else 0
def crI (a b : Int × Int) : Int := cmpI (a.1 * b.2) (b.1 * a.2)
/-- Ratios whose products fit. -/
def smallR (a : Int × Int) : Prop := (0 ≤ a.1 ∧ a.1 ≤ 1000000) ∧ (0 ≤ a.2 ∧ a.2 ≤ 1000000)
theorem smallR.mul {a b : Int × Int} (h : smallR a) (k : smallR b) : (0 ≤ a.1 * b.2 ∧ a.1 * b.2 ≤ 1000000000000) ∧ (0 ≤ b.1 * a.2 ∧ b.1 * a.2 ≤ 1000000000000) :=
  ⟨mul_in h.1 k.2, mul_in k.1 h.2⟩
theorem isNaN_ac (x : Int) : AC Try.prog 259 [I x] H0 (Bo false) H0 := by
  refine AC.of_body 0 Try.func259 rfl (fun l h => absurd rfl h) (fun C hC => ?_)
  have hD : ∀ l, ¬ C.D0 l := fun l h => (hC l).1 h rfl
  simp only [startFr, Try.ntmps259, List.length_cons, List.length_nil, Nat.reduceAdd, Nat.reduceSub, List.replicate_succ, List.replicate_zero, List.cons_append, List.nil_append]
  repeat' (first | ((first | apply Ba | (apply Bb; (· rfl); (· rfl)) | (apply Bc; (· exact nxE)) | (apply Bd; (· rfl); (· rfl); (· exact nxE))); (· first | exact Ok.pe)) | ((first | apply Ca | (apply Cb; (· exact nxE))); (· first | exact Ok.e0)) | refine Sx ?_ | (refine Sy (fun h => ?_) (fun h => ?_) <;> try (exfalso; omega; done)) | refine Sz (fun h => ?_) (fun h => ?_))
  refine Ya ?_
  (apply Le.headZ (hs := []) [] rfl)
  all_goals (try dsimp only [srcs])
  (case' hfr => (repeat' (first | refine La ?_ ?_ | exact Lc | refine Lo ?_ | refine ⟨⟨_, rfl, ?_⟩, ?_⟩ | refine Lx ?_)))
  all_goals (first | exact Ld | exact trivial | ((simp; done)))
theorem compareI_ac (x y : Int) : AC Try.prog 212 [I x, I y] H0 (I (cmpI x y)) H0 := by
  unfold cmpI
  refine AC.of_body 0 Try.func212 rfl (fun l h => absurd rfl h) (fun C hC => ?_)
  have hD : ∀ l, ¬ C.D0 l := fun l h => (hC l).1 h rfl
  simp only [startFr, Try.ntmps212, List.length_cons, List.length_nil, Nat.reduceAdd, Nat.reduceSub, List.replicate_succ, List.replicate_zero, List.cons_append, List.nil_append]
  repeat' (first | ((first | apply Ba | (apply Bb; (· rfl); (· rfl)) | (apply Bc; (· exact nxE)) | (apply Bd; (· rfl); (· rfl); (· exact nxE))); (· first | exact Kz rfl rfl (isNaN_ac _) (Ad An) | exact Ok.pe)) | ((first | apply Ca | (apply Cb; (· exact nxE))); (· first | exact Ok.e0)) | refine Sx ?_ | (refine Sy (fun h => ?_) (fun h => ?_) <;> try (exfalso; omega; done)) | refine Sz (fun h => ?_) (fun h => ?_))
  all_goals first
    | (rw [if_pos (by omega)]
       refine Ya ?_
       (apply Le.headZ (hs := []) [] rfl)
       all_goals (try dsimp only [srcs])
       (case' hfr => (repeat' (first | refine La ?_ ?_ | exact Lc | refine Lo ?_ | refine ⟨⟨_, rfl, ?_⟩, ?_⟩ | refine Lx ?_)))
       all_goals (first | exact Ld | exact trivial | (rfl))
       done)
    | (rw [if_neg (by omega), if_pos (by omega)]
       refine Ya ?_
       (apply Le.headZ (hs := []) [] rfl)
       all_goals (try dsimp only [srcs])
       (case' hfr => (repeat' (first | refine La ?_ ?_ | exact Lc | refine Lo ?_ | refine ⟨⟨_, rfl, ?_⟩, ?_⟩ | refine Lx ?_)))
       all_goals (first | exact Ld | exact trivial | (rfl))
       done)
    | (rw [if_neg (by omega), if_neg (by omega)]
       refine Ya ?_
       (apply Le.headZ (hs := []) [] rfl)
       all_goals (try dsimp only [srcs])
       (case' hfr => (repeat' (first | refine La ?_ ?_ | exact Lc | refine Lo ?_ | refine ⟨⟨_, rfl, ?_⟩, ?_⟩ | refine Lx ?_)))
       all_goals (first | exact Ld | exact trivial | (rfl))
       done)
theorem compareRatios_ac (a b : Int × Int) (ha : smallR a) (hb : smallR b) : AC Try.prog 121 [.agg [I a.1, I a.2], .agg [I b.1, I b.2]] H0 (I (crI a b)) H0 := by
  obtain ⟨h1, h2⟩ := ha.mul hb
  unfold crI
  obtain ⟨a1, a2⟩ := a
  obtain ⟨b1, b2⟩ := b
  simp only at h1 h2 ⊢
  refine AC.of_body 0 Try.func121 rfl (fun l h => absurd rfl h) (fun C hC => ?_)
  have hD : ∀ l, ¬ C.D0 l := fun l h => (hC l).1 h rfl
  simp only [startFr, Try.ntmps121, List.length_cons, List.length_nil, Nat.reduceAdd, Nat.reduceSub, List.replicate_succ, List.replicate_zero, List.cons_append, List.nil_append]
  repeat' (first | ((first | apply Ba | (apply Bb; (· rfl); (· rfl)) | (apply Bc; (· exact nxE)) | (apply Bd; (· rfl); (· rfl); (· exact nxE))); (· first | exact Kz rfl rfl (compareI_ac _ _) (Ad (Ad An)) | exact Ok.pe)) | ((first | apply Ca | (apply Cb; (· exact nxE))); (· first | exact Ok.e0)) | refine Sx ?_ | (refine Sy (fun h => ?_) (fun h => ?_) <;> try (exfalso; omega; done)) | refine Sz (fun h => ?_) (fun h => ?_))
  refine Ya ?_
  (apply Le.headZ (hs := []) [] rfl)
  all_goals (try dsimp only [srcs])
  (case' hfr => (repeat' (first | refine La ?_ ?_ | exact Lc | refine Lo ?_ | refine ⟨⟨_, rfl, ?_⟩, ?_⟩ | refine Lx ?_)))
  all_goals (first | exact Ld | exact trivial | (rfl))
/-! ### Graphs with a faster place -/
end Go.Proofs.Ytegfjedklebbfaa
end

section
namespace Go.Proofs.Ytegfjedklebbfaa
set_option linter.unusedSimpArgs false
set_option linter.unusedVariables false
open Go Go.RowKit
attribute [local irreducible] AL AD AW OpOk Le AC thenQ blockQ EndQ

/-! ### UseOf -/
end Go.Proofs.Ytegfjedklebbfaa
end

section
namespace Go.Proofs.Ytegfjedklebbfaa
set_option linter.unusedSimpArgs false
set_option linter.unusedVariables false
open Go Go.RowKit
attribute [local irreducible] AL AD AW OpOk Le AC thenQ blockQ EndQ

abbrev prF (a b : List (List Int)) (i j : Nat) : Nat → Int := fun q => timesB (entN a i q) (entN b q j)
def mulF (a b : List (List Int)) (n : Nat) : Nat → Nat → Int := fun i j => maxN (prF a b i j) n
def parF (a b : List (List Int)) (n i j m : Nat) : Nat → Nat → Int := fun x y => if x = i ∧ y = j then maxN (prF a b i j) m else mixF (mulF a b n) botF i j x y
theorem parF_0 {a b : List (List Int)} {n i j : Nat} : parF a b n i j 0 = mixF (mulF a b n) botF i j := by
  funext x y
  unfold parF
  by_cases h : x = i ∧ y = j
  · obtain ⟨rfl, rfl⟩ := h
    rw [if_pos ⟨rfl, rfl⟩]; unfold mixF; rw [if_neg (by omega)]; rfl
  · rw [if_neg h]
theorem parF_n {a b : List (List Int)} {n i j : Nat} : parF a b n i j n = mixF (mulF a b n) botF i (j + 1) := by
  funext x y
  rw [mixF_set]
  rfl
theorem parF_at {a b : List (List Int)} {n i j m : Nat} : parF a b n i j m i j = maxN (prF a b i j) m := by simp [parF]
theorem parF_set {a b : List (List Int)} {n i j m x y : Nat} : parF a b n i j (m + 1) x y = if x = i ∧ y = j then max (parF a b n i j m i j) (prF a b i j m) else parF a b n i j m x y := by
  rw [parF_at]
  unfold parF
  by_cases h : x = i ∧ y = j
  · rw [if_pos h, if_pos h]; rfl
  · rw [if_neg h, if_neg h, if_neg h]
set_option maxHeartbeats 4000000 in
theorem l02Multiply_ac (n : Nat) (a b : List (List Int)) (ha : Rc a n n) (hb : Rc b n n) (hn : n ≤ 1000) (h0 : 0 < n)
    (ht : ∀ i q j, i < n → q < n → j < n → entN a i q ≠ BOT → entN b q j ≠ BOT → -9223372036854775808 ≤ entN a i q + entN b q j ∧ entN a i q + entN b q j ≤ 9223372036854775807) :
    AC Try.prog 248 [TL a, TL b] H0 (own1 1 n) (hpM 1 (TR (tabF n n (mulF a b n)))) := by
  have hal := ha.l
  have hbl := hb.l
  have hz : tabF n n (mixF (mulF a b n) botF 0 0) = botT n n := by rw [mixF_0, botF_tab]
  obtain ⟨B0, hB1, hB2, hB3⟩ := hb.get h0 h0
  have hBr := TR_get hB1
  have hBl : (IR B0).length = n := by rw [IR_len, hB3]
  have hB : AC Try.prog 241 [I a.length, I B0.length] H0 (own1 1 n) (hpM 1 (TR (tabF n n (mixF (mulF a b n) botF 0 0)))) := by
    rw [hal, hB3, hz]; exact l02Bottom_ac n n (by omega) (by omega)
  refine AC.of_body 0 Try.func248 rfl (fun l h => absurd rfl h) (fun C hC => ?_)
  have hD : ∀ l, ¬ C.D0 l := fun l h => (hC l).1 h rfl
  simp only [startFr, Try.ntmps248, List.length_cons, List.length_nil, Nat.reduceAdd, Nat.reduceSub, List.replicate_succ, List.replicate_zero, List.cons_append, List.nil_append]
  repeat' (first | ((first | apply Ba | (apply Bb; (· rfl); (· rfl)) | (apply Bc; (· exact nxE)) | (apply Bd; (· rfl); (· rfl); (· exact nxE))); (· first | exact Tb rfl rfl (hB) (Sd (Sd Sn)) | exact Ok.pe)) | ((first | apply Ca | (apply Cb; (· exact nxE))); (· first | exact Tb rfl rfl (hB) (Sd (Sd Sn)) | exact Ok.e0)) | refine Sx ?_ | (refine Sy (fun h => ?_) (fun h => ?_) <;> try (exfalso; omega; done)) | refine Sz (fun h => ?_) (fun h => ?_))
  refine AW.loop (X := {k : Nat // k ≤ n}) (fun k => ⟨[TL a, TL b, Oo, Oo, Oo, .own 1 ⟨1, []⟩ 0 n, I (k.1 : Nat), Oo, Oo, Oo, Oo, Oo, Oo, Oo, Oo, Oo, Oo, Oo, Oo, Oo, Oo, Oo, Oo, Oo, Oo, Oo, Oo, Oo, Oo, Oo, Oo, Oo, Oo, Oo, Oo, Oo, Oo, Oo, Oo, Oo, Oo, Oo, Oo, Oo, Oo, Oo, Oo, Oo, Oo, Oo, Oo, Oo, Oo, Oo, Oo, Oo, Oo, Oo, Oo, Oo, Oo, Oo, Oo, Oo, Oo, Oo], heapX [] [mi1 ⟨1, []⟩ (TR (tabF n n (mixF (mulF a b n) botF k.1 0)))], 900⟩) (fun k => n - k.1) ⟨0, Nat.zero_le _⟩ ?_ (fun k => ?_)
  ·
    (apply Le.headG [] [{ l := ⟨1, []⟩, k := 1, R := TR (tabF n n (mixF (mulF a b n) botF 0 0)), src := ⟨7, [0]⟩, base := ⟨7, [0]⟩ }] (fun _ => False))
    (case' hlen => rfl)
    (case' hms => rfl)
    all_goals (try dsimp only [srcs])
    (case' hfr | hob => (repeat' (first | refine La ?_ ?_ | exact Lc | refine Lo ?_ | refine ⟨⟨_, rfl, ?_⟩, ?_⟩ | refine Lx ?_)))
    (case' hok => first | exact ⟨MI.ok_same rfl (Cg), trivial⟩ | exact trivial)
    (case' hN => rfl)
    (case' hS => rfl)
    all_goals (first | exact Ld | (rfl))
  obtain ⟨i, hi⟩ := k
  simp only
  by_cases hlt : i < n
  ·
    repeat' (first | ((first | apply Ba | (apply Bb; (· rfl); (· rfl)) | (apply Bc; (· exact nxE)) | (apply Bd; (· rfl); (· rfl); (· exact nxE))); (· first | exact Ok.pe)) | ((first | apply Ca | (apply Cb; (· exact nxE))); (· first | exact Ok.e0)) | refine Sx ?_ | (refine Sy (fun h => ?_) (fun h => ?_) <;> try (exfalso; omega; done)) | refine Sz (fun h => ?_) (fun h => ?_))
    refine AW.loop (X := {k : Nat // k ≤ n}) (fun k => ⟨[TL a, TL b, Oo, Oo, Oo, .own 1 ⟨1, []⟩ 0 n, I i, I (k.1 : Nat), Oo, Oo, Oo, Oo, Oo, Oo, Oo, Oo, Oo, Oo, Oo, Oo, Oo, Oo, Oo, Oo, Oo, Oo, Oo, Oo, Oo, Oo, Oo, Oo, Oo, Oo, Oo, Oo, Oo, Oo, Oo, Oo, Oo, Oo, Oo, Oo, Oo, Oo, Oo, Oo, Oo, Oo, Oo, Oo, Oo, Oo, Oo, Oo, Oo, Oo, Oo, Oo, Oo, Oo, Oo, Oo, Oo, Oo], heapX [] [mi1 ⟨1, []⟩ (TR (tabF n n (mixF (mulF a b n) botF i k.1)))], 900⟩) (fun k => n - k.1) ⟨0, Nat.zero_le _⟩ ?_ (fun k => ?_)
    ·
      (apply Le.headG [] [mi1 ⟨1, []⟩ (TR (tabF n n (mixF (mulF a b n) botF i 0)))] (fun _ => False))
      (case' hlen => rfl)
      (case' hms => rfl)
      all_goals (try dsimp only [srcs])
      (case' hfr | hob => (repeat' (first | refine La ?_ ?_ | exact Lc | refine Lo ?_ | refine ⟨⟨_, rfl, ?_⟩, ?_⟩ | refine Lx ?_)))
      (case' hok => first | exact ⟨MI.ok_same rfl (Cg), trivial⟩ | exact trivial)
      (case' hN => rfl)
      (case' hS => rfl)
      all_goals (first | exact Ld | (rfl))
    obtain ⟨j, hj⟩ := k
    simp only
    by_cases hlt2 : j < n
    ·
      repeat' (first | ((first | apply Ba | (apply Bb; (· rfl); (· rfl)) | (apply Bc; (· exact nxE)) | (apply Bd; (· rfl); (· rfl); (· exact nxE))); (· first | exact Ok.pe)) | ((first | apply Ca | (apply Cb; (· exact nxE))); (· first | exact Ok.e0)) | refine Sx ?_ | (refine Sy (fun h => ?_) (fun h => ?_) <;> try (exfalso; omega; done)) | refine Sz (fun h => ?_) (fun h => ?_))
      rw [← parF_0]
      refine AW.loop (X := {k : Nat // k ≤ n}) (fun k => ⟨[TL a, TL b, Oo, Oo, Oo, .own 1 ⟨1, []⟩ 0 n, I i, I j, I (k.1 : Nat), Oo, Oo, Oo, Oo, Oo, Oo, Oo, Oo, Oo, Oo, Oo, Oo, Oo, Oo, Oo, Oo, Oo, Oo, Oo, Oo, Oo, Oo, Oo, Oo, Oo, Oo, Oo, Oo, Oo, Oo, Oo, Oo, Oo, Oo, Oo, Oo, Oo, Oo, Oo, Oo, Oo, Oo, Oo, Oo, Oo, Oo, Oo, Oo, Oo, Oo, Oo, Oo, Oo, Oo, Oo, Oo, Oo], heapX [] [mi1 ⟨1, []⟩ (TR (tabF n n (parF a b n i j k.1)))], 900⟩) (fun k => n - k.1) ⟨0, Nat.zero_le _⟩ ?_ (fun k => ?_)
      ·
        (apply Le.headG [] [mi1 ⟨1, []⟩ (TR (tabF n n (parF a b n i j 0)))] (fun _ => False))
        (case' hlen => rfl)
        (case' hms => rfl)
        all_goals (try dsimp only [srcs])
        (case' hfr | hob => (repeat' (first | refine La ?_ ?_ | exact Lc | refine Lo ?_ | refine ⟨⟨_, rfl, ?_⟩, ?_⟩ | refine Lx ?_)))
        (case' hok => first | exact ⟨MI.ok_same rfl (Cg), trivial⟩ | exact trivial)
        (case' hN => rfl)
        (case' hS => rfl)
        all_goals (first | exact Ld | (rfl))
      obtain ⟨q, hq⟩ := k
      simp only
      by_cases hlt3 : q < n
      ·
        have hrw := TRF_get (n := n) (f := parF a b n i j q) hlt
        have hli : (IR (rowF n (parF a b n i j q i))).length = n := by rw [IR_len, rowF_len]
        have hij := IRF_get (g := parF a b n i j q i) hlt2
        obtain ⟨R, hR1, hR2, hR3⟩ := ha.get hlt hlt3
        have hRr := TR_get hR1
        have hRf := IR_get hR2
        have hRl : (IR R).length = n := by rw [IR_len, hR3]
        obtain ⟨S, hS1, hS2, hS3⟩ := hb.get hlt3 hlt2
        have hSr := TR_get hS1
        have hSf := IR_get hS2
        have hSl : (IR S).length = n := by rw [IR_len, hS3]
        have hset : (IR (rowF n (parF a b n i j q i))).set j [DI (max (parF a b n i j q i j) (timesB (entN a i q) (entN b q j)))] = IR ((rowF n (parF a b n i j q i)).set j (max (parF a b n i j q i j) (prF a b i j q))) := IR_set
        repeat' (first | ((first | apply Ba | (apply Bb; (· rfl); (· rfl)) | (apply Bc; (· exact nxE)) | (apply Bd; (· rfl); (· rfl); (· exact nxE))); (· first | exact Ok.ldTn rfl rfl rfl hrw hli | exact Ok.ld1 rfl rfl (congrArg (Option.map (dobj 1)) hrw) hij | exact Kz rfl rfl (l01Times_ac (entN a i q) (entN b q j) (ht i q j hlt hlt3 hlt2)) (Ad (Ad An)) | exact Ok.st1 rfl rfl (congrArg (Option.map (dobj 1)) hrw) (by rw [hli]; omega) (by rw [hij]; rfl) rfl rfl hset | exact Ok.pe)) | ((first | apply Ca | (apply Cb; (· exact nxE))); (· first | exact Ok.st1 rfl rfl (congrArg (Option.map (dobj 1)) hrw) (by rw [hli]; omega) (by rw [hij]; rfl) rfl rfl hset | exact Ok.e0)) | refine Sx ?_ | (refine Sy (fun h => ?_) (fun h => ?_) <;> try (exfalso; omega; done)) | refine Sz (fun h => ?_) (fun h => ?_))
        refine ⟨⟨q + 1, by omega⟩, ?_, by simp only; omega⟩
        (apply Le.headG [] [mi1 ⟨1, []⟩ (TR (tabF n n (parF a b n i j (q + 1))))] (fun _ => False))
        (case' hlen => rfl)
        (case' hms => rfl)
        all_goals (try dsimp only [srcs])
        (case' hfr | hob => (repeat' (first | refine La ?_ ?_ | exact Lc | refine Lo ?_ | refine ⟨⟨_, rfl, ?_⟩, ?_⟩ | refine Lx ?_)))
        (case' hok => first | exact ⟨MI.ok_row (tabF_set (fun x y _ _ => parF_set)) hrw (by simp) rfl (Cg), trivial⟩ | exact trivial)
        (case' hN => rfl)
        (case' hS => rfl)
        all_goals (first | exact Ld | (rfl))
      ·
        obtain rfl : q = n := by omega
        repeat' (first | ((first | apply Ba | (apply Bb; (· rfl); (· rfl)) | (apply Bc; (· exact nxE)) | (apply Bd; (· rfl); (· rfl); (· exact nxE))); (· first | exact Ok.pe)) | ((first | apply Ca | (apply Cb; (· exact nxE))); (· first | exact Ok.e0)) | refine Sx ?_ | (refine Sy (fun h => ?_) (fun h => ?_) <;> try (exfalso; omega; done)) | refine Sz (fun h => ?_) (fun h => ?_))
        refine ⟨⟨j + 1, by omega⟩, ?_, by simp only; omega⟩
        simp only
        rw [← parF_n]
        (apply Le.headG [] [mi1 ⟨1, []⟩ (TR (tabF q q (parF a b q i j q)))] (fun _ => False))
        (case' hlen => rfl)
        (case' hms => rfl)
        all_goals (try dsimp only [srcs])
        (case' hfr | hob => (repeat' (first | refine La ?_ ?_ | exact Lc | refine Lo ?_ | refine ⟨⟨_, rfl, ?_⟩, ?_⟩ | refine Lx ?_)))
        (case' hok => first | exact ⟨MI.ok_same rfl (Cg), trivial⟩ | exact trivial)
        (case' hN => rfl)
        (case' hS => rfl)
        all_goals (first | exact Ld | (rfl))
    ·
      obtain rfl : j = n := by omega
      repeat' (first | ((first | apply Ba | (apply Bb; (· rfl); (· rfl)) | (apply Bc; (· exact nxE)) | (apply Bd; (· rfl); (· rfl); (· exact nxE))); (· first | exact Ok.pe)) | ((first | apply Ca | (apply Cb; (· exact nxE))); (· first | exact Ok.e0)) | refine Sx ?_ | (refine Sy (fun h => ?_) (fun h => ?_) <;> try (exfalso; omega; done)) | refine Sz (fun h => ?_) (fun h => ?_))
      refine ⟨⟨i + 1, by omega⟩, ?_, by simp only; omega⟩
      simp only
      rw [← mixF_row]
      (apply Le.headG [] [mi1 ⟨1, []⟩ (TR (tabF j j (mixF (mulF a b j) botF i j)))] (fun _ => False))
      (case' hlen => rfl)
      (case' hms => rfl)
      all_goals (try dsimp only [srcs])
      (case' hfr | hob => (repeat' (first | refine La ?_ ?_ | exact Lc | refine Lo ?_ | refine ⟨⟨_, rfl, ?_⟩, ?_⟩ | refine Lx ?_)))
      (case' hok => first | exact ⟨MI.ok_same rfl (Cg), trivial⟩ | exact trivial)
      (case' hN => rfl)
      (case' hS => rfl)
      all_goals (first | exact Ld | (rfl))
  ·
    obtain rfl : i = n := by omega
    rw [mixF_all]
    repeat' (first | ((first | apply Ba | (apply Bb; (· rfl); (· rfl)) | (apply Bc; (· exact nxE)) | (apply Bd; (· rfl); (· rfl); (· exact nxE))); (· first | exact Ok.pe)) | ((first | apply Ca | (apply Cb; (· exact nxE))); (· first | exact Ok.e0)) | refine Sx ?_ | (refine Sy (fun h => ?_) (fun h => ?_) <;> try (exfalso; omega; done)) | refine Sz (fun h => ?_) (fun h => ?_))
    refine Ya ?_
    (apply Le.headG [] [{ l := ⟨0, []⟩, k := 1, R := TR (tabF i i (mulF a b i)), src := ⟨1, []⟩, base := ⟨1, []⟩ }] (fun _ => False))
    (case' hlen => rfl)
    (case' hms => rfl)
    all_goals (try dsimp only [srcs])
    (case' hfr | hob => (repeat' (first | refine La ?_ ?_ | exact Lc | refine Lo ?_ | refine ⟨⟨_, rfl, ?_⟩, ?_⟩ | refine Lx ?_)))
    (case' hok => first | exact ⟨MI.ok_same rfl (Cg), trivial⟩ | exact trivial)
    (case' hN => rfl)
    (case' hS => rfl)
    all_goals (first | exact Ld | (rfl))
end Go.Proofs.Ytegfjedklebbfaa
end

section
namespace Go.Proofs.Ytegfjedklebbfaa
set_option linter.unusedSimpArgs false
set_option linter.unusedVariables false
open Go Go.RowKit
attribute [local irreducible] AL AD AW OpOk Le AC thenQ blockQ EndQ

theorem l01Same_ac (xs : List Int) (hn : xs.length ≤ 100000000) : AC Try.prog 270 [IL xs, IL xs] H0 (Bo true) H0 := by
  refine AC.of_body 0 Try.func270 rfl (fun l h => absurd rfl h) (fun C hC => ?_)
  have hD : ∀ l, ¬ C.D0 l := fun l h => (hC l).1 h rfl
  simp only [startFr, Try.ntmps270, List.length_cons, List.length_nil, Nat.reduceAdd, Nat.reduceSub, List.replicate_succ, List.replicate_zero, List.cons_append, List.nil_append]
  repeat' (first | ((first | apply Ba | (apply Bb; (· rfl); (· rfl)) | (apply Bc; (· exact nxE)) | (apply Bd; (· rfl); (· rfl); (· exact nxE))); (· first | exact Ok.pe)) | ((first | apply Ca | (apply Cb; (· exact nxE))); (· first | exact Ok.e0)) | refine Sx ?_ | (refine Sy (fun h => ?_) (fun h => ?_) <;> try (exfalso; omega; done)) | refine Sz (fun h => ?_) (fun h => ?_))
  refine AW.loop (X := {k : Nat // k ≤ xs.length}) (fun k => ⟨[IL xs, IL xs, Oo, Oo, Oo, I (k.1 : Nat), Oo, Oo, Oo, Oo, Oo, Oo, Oo, Oo, Oo, Oo, Oo, Oo, Oo, Oo, Oo, Oo, Oo, Oo, Oo, Oo], heapL [], 900⟩) (fun k => xs.length - k.1) ⟨0, Nat.zero_le _⟩ ?_ (fun k => ?_)
  ·
    (apply Le.headZ [] rfl)
    all_goals (try dsimp only [srcs])
    (case' hfr | hob => (repeat' (first | refine La ?_ ?_ | exact Lc | refine Lo ?_ | refine ⟨⟨_, rfl, ?_⟩, ?_⟩ | refine Lx ?_)))
    all_goals (first | (rfl) | exact Ld)
  obtain ⟨k, hk⟩ := k
  simp only
  by_cases hlt : k < xs.length
  · obtain ⟨x, hx⟩ : ∃ x, xs[k]? = some x := ⟨xs[k], by simp⟩
    have hrow := IR_get hx
    repeat' (first | ((first | apply Ba | (apply Bb; (· rfl); (· rfl)) | (apply Bc; (· exact nxE)) | (apply Bd; (· rfl); (· rfl); (· exact nxE))); (· first | exact Ok.pe)) | ((first | apply Ca | (apply Cb; (· exact nxE))); (· first | exact Ok.e0)) | refine Sx ?_ | (refine Sy (fun h => ?_) (fun h => ?_) <;> try (exfalso; omega; done)) | refine Sz (fun h => ?_) (fun h => ?_))
    refine ⟨⟨k + 1, by omega⟩, ?_, by simp only; omega⟩
    (apply Le.headZ [] rfl)
    all_goals (try dsimp only [srcs])
    (case' hfr | hob => (repeat' (first | refine La ?_ ?_ | exact Lc | refine Lo ?_ | refine ⟨⟨_, rfl, ?_⟩, ?_⟩ | refine Lx ?_)))
    all_goals (first | (rfl) | exact Ld)
  ·
    repeat' (first | ((first | apply Ba | (apply Bb; (· rfl); (· rfl)) | (apply Bc; (· exact nxE)) | (apply Bd; (· rfl); (· rfl); (· exact nxE))); (· first | exact Ok.pe)) | ((first | apply Ca | (apply Cb; (· exact nxE))); (· first | exact Ok.e0)) | refine Sx ?_ | (refine Sy (fun h => ?_) (fun h => ?_) <;> try (exfalso; omega; done)) | refine Sz (fun h => ?_) (fun h => ?_))
    refine Ya ?_
    (apply Le.headZ (hs := []) [] rfl)
    all_goals (try dsimp only [srcs])
    (case' hfr => (repeat' (first | refine La ?_ ?_ | exact Lc | refine Lo ?_ | refine ⟨⟨_, rfl, ?_⟩, ?_⟩ | refine Lx ?_)))
    all_goals (first | exact Ld | exact trivial | (rfl))
theorem l02Same_ac (t : List (List Int)) (hn : t.length ≤ 100000000) (hr : ∀ r ∈ t, r.length ≤ 100000000) : AC Try.prog 249 [TL t, TL t] H0 (Bo true) H0 := by
  refine AC.of_body 0 Try.func249 rfl (fun l h => absurd rfl h) (fun C hC => ?_)
  have hD : ∀ l, ¬ C.D0 l := fun l h => (hC l).1 h rfl
  simp only [startFr, Try.ntmps249, List.length_cons, List.length_nil, Nat.reduceAdd, Nat.reduceSub, List.replicate_succ, List.replicate_zero, List.cons_append, List.nil_append]
  repeat' (first | ((first | apply Ba | (apply Bb; (· rfl); (· rfl)) | (apply Bc; (· exact nxE)) | (apply Bd; (· rfl); (· rfl); (· exact nxE))); (· first | exact Ok.pe)) | ((first | apply Ca | (apply Cb; (· exact nxE))); (· first | exact Ok.e0)) | refine Sx ?_ | (refine Sy (fun h => ?_) (fun h => ?_) <;> try (exfalso; omega; done)) | refine Sz (fun h => ?_) (fun h => ?_))
  refine AW.loop (X := {k : Nat // k ≤ t.length}) (fun k => ⟨[TL t, TL t, Oo, Oo, Oo, I (k.1 : Nat), Oo, Oo, Oo, Oo, Oo, Oo, Oo, Oo, Oo, Oo, Oo, Oo, Oo, Oo, Oo, Oo, Oo, Oo, Oo, Oo, Oo], heapL [], 900⟩) (fun k => t.length - k.1) ⟨0, Nat.zero_le _⟩ ?_ (fun k => ?_)
  ·
    (apply Le.headZ [] rfl)
    all_goals (try dsimp only [srcs])
    (case' hfr | hob => (repeat' (first | refine La ?_ ?_ | exact Lc | refine Lo ?_ | refine ⟨⟨_, rfl, ?_⟩, ?_⟩ | refine Lx ?_)))
    all_goals (first | (rfl) | exact Ld)
  obtain ⟨k, hk⟩ := k
  simp only
  by_cases hlt : k < t.length
  · obtain ⟨r, hr1⟩ : ∃ r, t[k]? = some r := ⟨t[k], by simp⟩
    have hrow := TR_get hr1
    repeat' (first | ((first | apply Ba | (apply Bb; (· rfl); (· rfl)) | (apply Bc; (· exact nxE)) | (apply Bd; (· rfl); (· rfl); (· exact nxE))); (· first | exact Kz rfl rfl (l01Same_ac r (hr r (List.mem_of_getElem? hr1))) (Ad (Ad An)) | exact Ok.pe)) | ((first | apply Ca | (apply Cb; (· exact nxE))); (· first | exact Ok.e0)) | refine Sx ?_ | (refine Sy (fun h => ?_) (fun h => ?_) <;> try (exfalso; omega; done)) | refine Sz (fun h => ?_) (fun h => ?_))
    refine ⟨⟨k + 1, by omega⟩, ?_, by simp only; omega⟩
    (apply Le.headZ [] rfl)
    all_goals (try dsimp only [srcs])
    (case' hfr | hob => (repeat' (first | refine La ?_ ?_ | exact Lc | refine Lo ?_ | refine ⟨⟨_, rfl, ?_⟩, ?_⟩ | refine Lx ?_)))
    all_goals (first | (rfl) | exact Ld)
  ·
    repeat' (first | ((first | apply Ba | (apply Bb; (· rfl); (· rfl)) | (apply Bc; (· exact nxE)) | (apply Bd; (· rfl); (· rfl); (· exact nxE))); (· first | exact Ok.pe)) | ((first | apply Ca | (apply Cb; (· exact nxE))); (· first | exact Ok.e0)) | refine Sx ?_ | (refine Sy (fun h => ?_) (fun h => ?_) <;> try (exfalso; omega; done)) | refine Sz (fun h => ?_) (fun h => ?_))
    refine Ya ?_
    (apply Le.headZ (hs := []) [] rfl)
    all_goals (try dsimp only [srcs])
    (case' hfr => (repeat' (first | refine La ?_ ?_ | exact Lc | refine Lo ?_ | refine ⟨⟨_, rfl, ?_⟩, ?_⟩ | refine Lx ?_)))
    all_goals (first | exact Ld | exact trivial | (rfl))
theorem maxN_congr {f g : Nat → Int} : ∀ {n : Nat}, (∀ k, k < n → f k = g k) → maxN f n = maxN g n
  | 0, _ => rfl
  | n + 1, h => by simp only [maxN]; rw [maxN_congr (fun k hk => h k (by omega)), h n (by omega)]
theorem StarM.px {t : List (List Int)} {n : Nat} (h : StarM t n) {m : Nat} (hm : m ≤ n + 1) : PX (entN t) n 100000000000 m (powN (entN t) n m) :=
  powN_px (by decide) h.bnd m (by have := h.nn; omega)
theorem StarM.pow {t : List (List Int)} {n : Nat} (h : StarM t n) {m : Nat} (hm : m ≤ n + 1) (hl : n ≤ m) : tabF n n (powN (entN t) n m) = tabF n n (starF (entN t) n) :=
  tabF_congr fun i j hi hj => (starF_eq ((h.px hm).star h.np hl) hj hi).symm
theorem StarM.mul {t : List (List Int)} {n : Nat} (h : StarM t n) {m : Nat} (hm : m ≤ n) : AC Try.prog 248 [TL t, TL (tabF n n (powN (entN t) n m))] H0 (own1 1 n) (hpM 1 (TR (tabF n n (mulF t (tabF n n (powN (entN t) n m)) n)))) := by
  have hn := h.nn
  refine l02Multiply_ac n t _ h.rc tabF_rc (by omega) h.n0 (fun i q j hi hq hj h1 h2 => ?_)
  rw [tabF_ent hq hj] at h2 ⊢
  have g1 := h.bnd q i h1
  have g2 := (h.px (show m ≤ n + 1 by omega)).bnd j q hj hq h2
  omega
theorem StarM.add {t : List (List Int)} {n : Nat} (h : StarM t n) {m : Nat} : AC Try.prog 247 [TL (tabF n n unitF), TL (tabF n n (mulF t (tabF n n (powN (entN t) n m)) n))] H0 (own1 1 n) (hpM 1 (TR (tabF n n (powN (entN t) n (m + 1))))) := by
  have hn := h.nn
  have hA := l02Add_ac n n (tabF n n unitF) (tabF n n (mulF t (tabF n n (powN (entN t) n m)) n)) tabF_rc tabF_rc (by omega) (by omega)
  have e : tabF n n (addF (tabF n n unitF) (tabF n n (mulF t (tabF n n (powN (entN t) n m)) n))) = tabF n n (powN (entN t) n (m + 1)) := tabF_congr fun i j hi hj => by
    unfold addF
    rw [tabF_ent hi hj, tabF_ent hi hj]
    show _ = powS (entN t) n (powN (entN t) n m) i j
    unfold powS mulF
    rw [maxN_congr (g := fun q => timesB (entN t i q) (powN (entN t) n m q j)) (fun q hq => by show timesB (entN t i q) (entN (tabF n n (powN (entN t) n m)) q j) = _; rw [tabF_ent hq hj])]
  rw [← e]
  exact hA
set_option maxHeartbeats 4000000 in
theorem l03Star_ac (t : List (List Int)) (n : Nat) (h : StarM t n) : AC Try.prog 186 [TL t] H0 (.tup [own1 1 n, Bo true]) (hpM 1 (TR (tabF n n (starF (entN t) n)))) := by
  have hn := h.nn
  have h0 := h.n0
  have htl := h.rc.l
  have hU := l02Unit_ac n (by omega)
  have hul : (tabF n n unitF).length = n := tabF_len
  have hL : (mRows 1 (TR t)).length = n := by rw [mTR_len, htl]
  refine AC.of_body 0 Try.func186 rfl (fun l h => absurd rfl h) (fun C hC => ?_)
  have hD : ∀ l, ¬ C.D0 l := fun l h => (hC l).1 h rfl
  simp only [startFr, Try.ntmps186, List.length_cons, List.length_nil, Nat.reduceAdd, Nat.reduceSub, List.replicate_succ, List.replicate_zero, List.cons_append, List.nil_append]
  repeat' (first | ((first | apply Ba | (apply Bb; (· rfl); (· rfl)) | (apply Bc; (· exact nxE)) | (apply Bd; (· rfl); (· rfl); (· exact nxE))); (· first | exact Ok.lenD rfl rfl hL | exact Tb rfl rfl (hU) (Sd Sn) | exact Ok.pe)) | ((first | apply Ca | (apply Cb; (· exact nxE))); (· first | exact Tb rfl rfl (hU) (Sd Sn) | exact Ok.e0)) | refine Sx ?_ | (refine Sy (fun h => ?_) (fun h => ?_) <;> try (exfalso; omega; done)) | refine Sz (fun h => ?_) (fun h => ?_))
  refine AW.loop (X := {k : Nat // k ≤ n}) (fun k => ⟨[TL t, Oo, Oo, Oo, I n, .own 1 ⟨1, []⟩ 0 n, I (k.1 : Nat), Oo, Oo, Oo, Oo, Oo, Oo, Oo, Oo, Oo, Oo, Oo, Oo, Oo, Oo, Oo, Oo, Oo, Oo, Oo, Oo, Oo, Oo, Oo, Oo, Oo, Oo], heapX [] [mi1 ⟨1, []⟩ (TR (tabF n n (powN (entN t) n k.1)))], 900⟩) (fun k => n - k.1) ⟨0, Nat.zero_le _⟩ ?_ (fun k => ?_)
  ·
    (apply Le.headG [] [{ l := ⟨1, []⟩, k := 1, R := TR (tabF n n (powN (entN t) n 0)), src := ⟨6, [0]⟩, base := ⟨6, [0]⟩ }] (fun _ => False))
    (case' hlen => rfl)
    (case' hms => rfl)
    all_goals (try dsimp only [srcs])
    (case' hfr | hob => (repeat' (first | refine La ?_ ?_ | exact Lc | refine Lo ?_ | refine ⟨⟨_, rfl, ?_⟩, ?_⟩ | refine Lx ?_)))
    (case' hok => first | exact ⟨MI.ok_same rfl (Cg), trivial⟩ | exact trivial)
    (case' hN => rfl)
    (case' hS => rfl)
    all_goals (first | exact Ld | (rfl))
  obtain ⟨m, hk⟩ := k
  simp only
  have hM := h.mul hk
  have hA := h.add (m := m)
  have hpl : (tabF n n (powN (entN t) n m)).length = n := tabF_len
  have hml : (tabF n n (mulF t (tabF n n (powN (entN t) n m)) n)).length = n := tabF_len
  by_cases hlt : m < n
  ·
    repeat' (first | ((first | apply Ba | (apply Bb; (· rfl); (· rfl)) | (apply Bc; (· exact nxE)) | (apply Bd; (· rfl); (· rfl); (· exact nxE))); (· first | exact Tb rfl rfl (hU) (Sd Sn) | exact Tb rfl rfl (hM) (Sd (Sm Sn)) | exact Tb rfl rfl (hA) (Sm (Sm Sn)) | exact Ok.pe)) | ((first | apply Ca | (apply Cb; (· exact nxE))); (· first | exact Tb rfl rfl (hU) (Sd Sn) | exact Tb rfl rfl (hM) (Sd (Sm Sn)) | exact Tb rfl rfl (hA) (Sm (Sm Sn)) | exact Ok.e0)) | refine Sx ?_ | (refine Sy (fun h => ?_) (fun h => ?_) <;> try (exfalso; omega; done)) | refine Sz (fun h => ?_) (fun h => ?_))
    refine ⟨⟨m + 1, by omega⟩, ?_, by simp only; omega⟩
    (apply Le.headG [] [{ l := ⟨1, []⟩, k := 1, R := TR (tabF n n (powN (entN t) n (m + 1))), src := ⟨908, [0]⟩, base := ⟨908, [0]⟩ }] (fun _ => False))
    (case' hlen => rfl)
    (case' hms => rfl)
    all_goals (try dsimp only [srcs])
    (case' hfr | hob => (repeat' (first | refine La ?_ ?_ | exact Lc | refine Lo ?_ | refine ⟨⟨_, rfl, ?_⟩, ?_⟩ | refine Lx ?_)))
    (case' hok => first | exact ⟨MI.ok_same rfl (Cg), trivial⟩ | exact trivial)
    (case' hN => rfl)
    (case' hS => rfl)
    all_goals (first | exact Ld | (rfl))
  ·
    obtain rfl : n = m := by omega
    have hS := l02Same_ac (tabF n n (starF (entN t) n)) (by rw [tabF_len]; omega) (fun r hr => by rw [tabF_rc.r r hr]; omega)
    rw [h.pow (Nat.le_refl _) (by omega)] at hA
    rw [h.pow (by omega) (Nat.le_refl _)] at hM hA hpl hml ⊢
    repeat' (first | ((first | apply Ba | (apply Bb; (· rfl); (· rfl)) | (apply Bc; (· exact nxE)) | (apply Bd; (· rfl); (· rfl); (· exact nxE))); (· first | exact Ez rfl rfl (hS) (Sm (Sm Sn)) | exact Tb rfl rfl (hU) (Sd Sn) | exact Tb rfl rfl (hM) (Sd (Sm Sn)) | exact Tb rfl rfl (hA) (Sm (Sm Sn)) | exact Ok.pe)) | ((first | apply Ca | (apply Cb; (· exact nxE))); (· first | exact Tb rfl rfl (hU) (Sd Sn) | exact Tb rfl rfl (hM) (Sd (Sm Sn)) | exact Tb rfl rfl (hA) (Sm (Sm Sn)) | exact Ok.e0)) | refine Sx ?_ | (refine Sy (fun h => ?_) (fun h => ?_) <;> try (exfalso; omega; done)) | refine Sz (fun h => ?_) (fun h => ?_))
    refine Yb ?_
    (apply Le.headG [] [{ l := ⟨0, []⟩, k := 1, R := TR (tabF n n (starF (entN t) n)), src := ⟨1, []⟩, base := ⟨1, []⟩ }] (fun _ => False))
    (case' hlen => rfl)
    (case' hms => rfl)
    all_goals (try dsimp only [srcs])
    (case' hfr | hob => (repeat' (first | refine La ?_ ?_ | exact Lc | refine Lo ?_ | refine ⟨⟨_, rfl, ?_⟩, ?_⟩ | refine Lx ?_)))
    (case' hok => first | exact ⟨MI.ok_same rfl (Cg), trivial⟩ | exact trivial)
    (case' hN => rfl)
    (case' hS => rfl)
    all_goals (first | exact Ld | (rfl))
end Go.Proofs.Ytegfjedklebbfaa
end

section
namespace Go.Proofs.Ytegfjedklebbfaa
set_option linter.unusedSimpArgs false
set_option linter.unusedVariables false
open Go Go.RowKit
attribute [local irreducible] AL AD AW OpOk Le AC thenQ blockQ EndQ

theorem entN_out {t : List (List Int)} {m n u v : Nat} (h : Rc t m n) (hv : v < m) (hu : ¬ u < n) : entN t v u = 0 := by
  have h1 : v < t.length := by rw [h.l]; exact hv
  have h2 : (t[v]).length = n := h.r t[v] (List.getElem_mem h1)
  have h3 : (t[v])[u]? = none := List.getElem?_eq_none (by omega)
  have h4 : (t[v]?).getD [] = t[v] := by rw [List.getElem?_eq_getElem h1]; rfl
  unfold entN
  rw [h4, h3]
  rfl
theorem entN_out2 {t : List (List Int)} {m n u v : Nat} (h : Rc t m n) (hv : ¬ v < m) : entN t v u = 0 := by
  have h3 : t[v]? = none := List.getElem?_eq_none (by have := h.l; omega)
  unfold entN
  rw [h3]
  rfl
theorem starM_wm {n : Nat} {xs : List Pl} {r : Int × Int} (hn : n ≤ 10) (h0 : 0 < n) (hv : ∀ p ∈ xs, okPl n p) (hr : MaxR xs r) (h1 : 0 ≤ r.1 ∧ r.1 ≤ 100000) (h2 : 0 ≤ r.2 ∧ r.2 ≤ 50) : StarM (wmT n xs r) n := by
  have hb := wm_bnd hv h1 h2
  have hw : WmOk n xs r (wmT n xs r) := wm_ok (M := 500000) (by decide) xs (fun p hp => ⟨hv p hp, (hb p hp).1⟩)
  have hrc : Rc (wmT n xs r) n n := ⟨hw.sq.l, hw.sq.r⟩
  refine ⟨hrc, h0, hn, fun u v hne => ?_, wm_noPos hw hr⟩
  by_cases hvn : v < n
  · by_cases hun : u < n
    · rcases hw.some u v hun hvn with e | ⟨p, hp, e1, e2, e3⟩
      · exact absurd e hne
      · have := hb p hp
        rw [← e3]; omega
    · rw [entN_out hrc hvn hun]; decide
  · rw [entN_out2 hrc hvn]; decide
end Go.Proofs.Ytegfjedklebbfaa
end

section
namespace Go.Proofs.Ytegfjedklebbfaa
set_option linter.unusedSimpArgs false
set_option linter.unusedVariables false
open Go Go.RowKit
attribute [local irreducible] AL AD AW OpOk Le AC thenQ blockQ EndQ

def gapI (xs : List Pl) (u1 u2 : Int) (s : Nat → Nat → Int) (i : Nat) : Int := if s (plA xs i).f.toNat (plA xs i).t.toNat = BOT then -1 else u1 * (plA xs i).k - u2 * (plA xs i).d - s (plA xs i).f.toNat (plA xs i).t.toNat
theorem rowF_succ {g : Nat → Int} {k : Nat} : rowF (k + 1) g = rowF k g ++ [g k] := by simp [rowF, List.range_succ]
theorem rowF_next {g : Nat → Int} {k : Nat} {v : Int} (h : g k = v) : rowF (k + 1) g = rowF k g ++ [v] := by rw [rowF_succ, h]
theorem StarM.starB {t : List (List Int)} {n : Nat} (h : StarM t n) {i j : Nat} (hi : i < n) (hj : j < n) : starF (entN t) n i j = BOT ∨ (-102400000000000 ≤ starF (entN t) n i j ∧ starF (entN t) n i j ≤ 1000000000000) := by
  rw [h.star hi hj]; exact h.cells (Nat.le_refl n) hi hj
set_option maxHeartbeats 4000000 in
theorem l27Gaps_ac (n : Nat) (xs : List Pl) (u1 u2 : Int) (hx : xs.length ≤ 1000) (hv : ∀ p ∈ xs, okPl n p) (h1 : 0 ≤ u1 ∧ u1 ≤ 100000) (h2 : 0 ≤ u2 ∧ u2 ≤ 50) (hst : StarM (wmT n xs (u1, u2)) n) : AC Try.prog 139 [grD n xs, .agg [I u1, I u2]] H0 (own1 1 xs.length) (hp1 (IO (rowF xs.length (gapI xs u1 u2 (starF (entN (wmT n xs (u1, u2))) n))))) := by
  have hn := hst.nn
  have hW := (l15Weights_ac n xs u1 u2 hn hx hv h1 h2).frzT (by rw [TR_len]; exact hst.rc.l)
  have hS := (l03Star_ac (wmT n xs (u1, u2)) n hst).frzT2 (by rw [TR_len, tabF_len])
  have hB := fun {i j} => hst.starB (i := i) (j := j)
  generalize starF (entN (wmT n xs (u1, u2))) n = s at *
  refine AC.of_body 0 Try.func139 rfl (fun l h => absurd rfl h) (fun C hC => ?_)
  have hD : ∀ l, ¬ C.D0 l := fun l h => (hC l).1 h rfl
  simp only [startFr, Try.ntmps139, List.length_cons, List.length_nil, Nat.reduceAdd, Nat.reduceSub, List.replicate_succ, List.replicate_zero, List.cons_append, List.nil_append]
  repeat' (first | ((first | apply Ba | (apply Bb; (· rfl); (· rfl)) | (apply Bc; (· exact nxE)) | (apply Bd; (· rfl); (· rfl); (· exact nxE))); (· first | exact Kz rfl rfl (hW) (Aa (Ad (Ad An)) (Aa (Ad (Ad An)) An)) | exact Kz rfl rfl (hS) (Ad An) | exact Ok.pe)) | ((first | apply Ca | (apply Cb; (· exact nxE))); (· first | exact Ok.e0)) | refine Sx ?_ | (refine Sy (fun h => ?_) (fun h => ?_) <;> try (exfalso; omega; done)) | refine Sz (fun h => ?_) (fun h => ?_))
  refine AW.loop (X := {k : Nat // k ≤ xs.length}) (fun k => ⟨[Oo, Oo, Bx 2 0, Bx 2 1, Oo, TL (tabF n n s), Oo, .own 1 ⟨2, []⟩ 0 (k.1 : Nat), I (k.1 : Nat), Oo, Oo, Oo, Oo, Oo, Oo, Oo, Oo, Oo, Oo, Oo, Oo, Oo, Oo, Oo, Oo, Oo, Oo, Oo, Oo, Oo, Oo, Oo, Oo, Oo, Oo, Oo, Oo, Oo, Oo, Oo, Oo, Oo, Oo, Oo, Oo, Oo, Oo, Oo, Oo, Oo, Oo, Oo, Oo, Oo, Oo, Oo, Oo, Oo, Oo, Oo, Oo, Oo, Oo, Oo, Oo, Oo, Oo, Oo], heapL [(⟨0, []⟩, ⟨0, []⟩, ⟨2, [[I n, PL xs]]⟩), (⟨1, []⟩, ⟨1, []⟩, ⟨2, [[I u1, I u2]]⟩), (⟨2, []⟩, ⟨2, []⟩, IO (rowF k.1 (gapI xs u1 u2 s)))], 900⟩) (fun k => xs.length - k.1) ⟨0, Nat.zero_le _⟩ ?_ (fun k => ?_)
  ·
    (apply Le.headZ [_, _, _] rfl)
    all_goals (try dsimp only [srcs])
    (case' hfr | hob => (repeat' (first | refine La ?_ ?_ | exact Lc | refine Lo ?_ | refine ⟨⟨_, rfl, ?_⟩, ?_⟩ | refine Lx ?_)))
    all_goals (first | (rfl) | exact Ld)
  obtain ⟨k, hk⟩ := k
  simp only
  by_cases hlt : k < xs.length
  · have hrow := pl_row (n := 0) hlt
    have hpw := plW_le hv h1 h2 k hlt
    obtain ⟨⟨g1, g2⟩, ⟨g3, g4⟩, _⟩ := okPl_at hv k hlt
    have hg : gapI xs u1 u2 s k = if s (plA xs k).f.toNat (plA xs k).t.toNat = BOT then -1 else u1 * (plA xs k).k - u2 * (plA xs k).d - s (plA xs k).f.toNat (plA xs k).t.toNat := rfl
    generalize plA xs k = p at *
    obtain ⟨pf, pt, pd, pk⟩ := p
    obtain ⟨f, rfl⟩ : ∃ f : Nat, pf = f := ⟨pf.toNat, by simp at g1; omega⟩
    obtain ⟨t, rfl⟩ : ∃ t : Nat, pt = t := ⟨pt.toNat, by simp at g3; omega⟩
    simp only [Int.toNat_natCast] at hrow g2 g4 hpw hg
    obtain ⟨r, hr1, hr2, hr3⟩ := (tabF_rc (m := n) (n := n) (f := s)).get (show f < n by omega) (show t < n by omega)
    rw [tabF_ent (by omega) (by omega)] at hr2
    have hr1' := TR_get hr1
    have hrf := IR_get hr2
    have hrl : (IR r).length = n := by rw [IR_len, hr3]
    have hb := hB (i := f) (j := t) (by omega) (by omega)
    have hol : (IR (rowF k (gapI xs u1 u2 s))).length = k := by rw [IR_len, rowF_len]
    by_cases hbot : s f t = BOT
    · rw [if_pos hbot] at hg
      rw [hbot] at hrf
      unfold BOT at hrf
      repeat' (first | ((first | apply Ba | (apply Bb; (· rfl); (· rfl)) | (apply Bc; (· exact nxE)) | (apply Bd; (· rfl); (· rfl); (· exact nxE))); (· first | exact Ok.append1 (row := [DI (-1)]) rfl rfl (by decide) rfl rfl hol rfl rfl rfl (by rfl) (by omega) (by omega) | exact Ok.pe)) | ((first | apply Ca | (apply Cb; (· exact nxE))); (· first | exact Ok.append1 (row := [DI (-1)]) rfl rfl (by decide) rfl rfl hol rfl rfl rfl (by rfl) (by omega) (by omega) | exact Ok.e0)) | refine Sx ?_ | (refine Sy (fun h => ?_) (fun h => ?_) <;> try (exfalso; omega; done)) | refine Sz (fun h => ?_) (fun h => ?_))
      refine ⟨⟨k + 1, by omega⟩, ?_, by simp only; omega⟩
      (apply Le.headZ [_, _, _] rfl)
      all_goals (try dsimp only [srcs])
      (case' hfr | hob => (repeat' (first | refine La ?_ ?_ | exact Lc | refine Lo ?_ | refine ⟨⟨_, rfl, ?_⟩, ?_⟩ | refine Lx ?_)))
      all_goals (first | ((first | (rw [rowF_next hg]; simp; done) | (rw [rowF_next hg]; rw [IR_app]; done))) | exact Ld)
    · rw [if_neg hbot] at hg
      have hb2 := hb.resolve_left hbot
      unfold BOT at hbot
      repeat' (first | ((first | apply Ba | (apply Bb; (· rfl); (· rfl)) | (apply Bc; (· exact nxE)) | (apply Bd; (· rfl); (· rfl); (· exact nxE))); (· first | exact Ok.append1 (row := [DI (u1 * pk - u2 * pd - s f t)]) rfl rfl (by decide) rfl rfl hol rfl rfl rfl (by rfl) (by omega) (by omega) | exact Ok.pe)) | ((first | apply Ca | (apply Cb; (· exact nxE))); (· first | exact Ok.append1 (row := [DI (u1 * pk - u2 * pd - s f t)]) rfl rfl (by decide) rfl rfl hol rfl rfl rfl (by rfl) (by omega) (by omega) | exact Ok.e0)) | refine Sx ?_ | (refine Sy (fun h => ?_) (fun h => ?_) <;> try (exfalso; omega; done)) | refine Sz (fun h => ?_) (fun h => ?_))
      refine ⟨⟨k + 1, by omega⟩, ?_, by simp only; omega⟩
      (apply Le.headZ [_, _, _] rfl)
      all_goals (try dsimp only [srcs])
      (case' hfr | hob => (repeat' (first | refine La ?_ ?_ | exact Lc | refine Lo ?_ | refine ⟨⟨_, rfl, ?_⟩, ?_⟩ | refine Lx ?_)))
      all_goals (first | ((first | (rw [rowF_next hg]; simp; done) | (rw [rowF_next hg]; rw [IR_app]; done))) | exact Ld)
  ·
    obtain rfl : k = xs.length := by omega
    repeat' (first | ((first | apply Ba | (apply Bb; (· rfl); (· rfl)) | (apply Bc; (· exact nxE)) | (apply Bd; (· rfl); (· rfl); (· exact nxE))); (· first | exact Ok.pe)) | ((first | apply Ca | (apply Cb; (· exact nxE))); (· first | exact Ok.e0)) | refine Sx ?_ | (refine Sy (fun h => ?_) (fun h => ?_) <;> try (exfalso; omega; done)) | refine Sz (fun h => ?_) (fun h => ?_))
    refine Ya ?_
    (apply Le.head [(⟨0, []⟩, _, _)])
    (case' hfr | hob => (repeat' (first | refine La ?_ ?_ | exact Lc | refine Lo ?_ | refine ⟨⟨_, rfl, ?_⟩, ?_⟩ | refine Lx ?_)))
    all_goals (first | exact Ld | (rfl))
end Go.Proofs.Ytegfjedklebbfaa
end

section
namespace Go.Proofs.Ytegfjedklebbfaa
set_option linter.unusedSimpArgs false
set_option linter.unusedVariables false
open Go Go.RowKit
attribute [local irreducible] AL AD AW OpOk Le AC thenQ blockQ EndQ

/-- A place's margin by its gap. -/
def marI (xs : List Pl) (u2 : Int) (g : Nat → Int) (i : Nat) : Int := if 0 ≤ g i then min (1000 - (plA xs i).d) (g i / u2) else 1000 - (plA xs i).d
theorem ediv_in {a b : Int} (ha : 0 ≤ a) (hb : 0 < b) : 0 ≤ a / b ∧ a / b ≤ a := ⟨Int.ediv_nonneg ha (Int.le_of_lt hb), Int.ediv_le_self b ha⟩
set_option maxHeartbeats 4000000 in
theorem l27Margins_ac (n : Nat) (xs : List Pl) (u1 u2 : Int) (hx : xs.length ≤ 1000) (hv : ∀ p ∈ xs, okPl n p) (h1 : 0 ≤ u1 ∧ u1 ≤ 100000) (h2 : 0 < u2 ∧ u2 ≤ 50) (hst : StarM (wmT n xs (u1, u2)) n) : AC Try.prog 136 [grD n xs, .agg [I u1, I u2]] H0 (own1 1 xs.length) (hp1 (IO (rowF xs.length (marI xs u2 (gapI xs u1 u2 (starF (entN (wmT n xs (u1, u2))) n)))))) := by
  have hn := hst.nn
  have hG := (l27Gaps_ac n xs u1 u2 hx hv h1 (by omega) hst).frz (AR.whole (H := hp1 (IO (rowF xs.length (gapI xs u1 u2 (starF (entN (wmT n xs (u1, u2))) n))))) (lent := fun _ => True) rfl trivial (by rw [IR_len, rowF_len]))
  have hgb : ∀ i, i < xs.length → -1000000000000000 ≤ gapI xs u1 u2 (starF (entN (wmT n xs (u1, u2))) n) i ∧ gapI xs u1 u2 (starF (entN (wmT n xs (u1, u2))) n) i ≤ 1000000000000000 := by
    intro i hi
    have hpw := plW_le hv h1 (show 0 ≤ u2 ∧ u2 ≤ 50 by omega) i hi
    obtain ⟨⟨g1, g2⟩, ⟨g3, g4⟩, _⟩ := okPl_at hv i hi
    have hb := hst.starB (i := (plA xs i).f.toNat) (j := (plA xs i).t.toNat) (by omega) (by omega)
    unfold gapI
    by_cases e : starF (entN (wmT n xs (u1, u2))) n (plA xs i).f.toNat (plA xs i).t.toNat = BOT
    · rw [if_pos e]; omega
    · rw [if_neg e]
      have := hb.resolve_left e
      omega
  generalize gapI xs u1 u2 (starF (entN (wmT n xs (u1, u2))) n) = g at *
  have hgl : (IR (rowF xs.length g)).length = xs.length := by rw [IR_len, rowF_len]
  have hgl2 : (rowF xs.length g).length = xs.length := rowF_len
  refine AC.of_body 0 Try.func136 rfl (fun l h => absurd rfl h) (fun C hC => ?_)
  have hD : ∀ l, ¬ C.D0 l := fun l h => (hC l).1 h rfl
  simp only [startFr, Try.ntmps136, List.length_cons, List.length_nil, Nat.reduceAdd, Nat.reduceSub, List.replicate_succ, List.replicate_zero, List.cons_append, List.nil_append]
  repeat' (first | ((first | apply Ba | (apply Bb; (· rfl); (· rfl)) | (apply Bc; (· exact nxE)) | (apply Bd; (· rfl); (· rfl); (· exact nxE))); (· first | exact Kz rfl rfl (hG) (Aa (Ad (Ad An)) (Aa (Ad (Ad An)) An)) | exact Ok.pe)) | ((first | apply Ca | (apply Cb; (· exact nxE))); (· first | exact Ok.e0)) | refine Sx ?_ | (refine Sy (fun h => ?_) (fun h => ?_) <;> try (exfalso; omega; done)) | refine Sz (fun h => ?_) (fun h => ?_))
  refine AW.loop (X := {k : Nat // k ≤ xs.length}) (fun k => ⟨[Oo, Oo, Bx 2 0, Bx 2 1, Oo, IL (rowF xs.length g), .own 1 ⟨2, []⟩ 0 (k.1 : Nat), I (k.1 : Nat), Oo, Oo, Oo, Oo, Oo, Oo, Oo, Oo, Oo, Oo, Oo, Oo, Oo, Oo, Oo, Oo, Oo, Oo, Oo, Oo, Oo, Oo, Oo, Oo, Oo, Oo, Oo, Oo, Oo, Oo, Oo, Oo, Oo, Oo, Oo, Oo, Oo], heapL [(⟨0, []⟩, ⟨0, []⟩, ⟨2, [[I n, PL xs]]⟩), (⟨1, []⟩, ⟨1, []⟩, ⟨2, [[I u1, I u2]]⟩), (⟨2, []⟩, ⟨2, []⟩, IO (rowF k.1 (marI xs u2 g)))], 900⟩) (fun k => xs.length - k.1) ⟨0, Nat.zero_le _⟩ ?_ (fun k => ?_)
  ·
    (apply Le.headZ [_, _, _] rfl)
    all_goals (try dsimp only [srcs])
    (case' hfr | hob => (repeat' (first | refine La ?_ ?_ | exact Lc | refine Lo ?_ | refine ⟨⟨_, rfl, ?_⟩, ?_⟩ | refine Lx ?_)))
    all_goals (first | (rfl) | exact Ld)
  obtain ⟨k, hk⟩ := k
  simp only
  by_cases hlt : k < xs.length
  · have hrow := pl_row (n := 0) hlt
    have hcell : (IR (rowF xs.length g))[((k : Nat) : Int).toNat]? = some [DI (g k)] := IRF_get hlt
    have hgk := hgb k hlt
    obtain ⟨_, _, ⟨g5, g6⟩, _⟩ := okPl_at hv k hlt
    have hm : marI xs u2 g k = if 0 ≤ g k then min (1000 - (plA xs k).d) (g k / u2) else 1000 - (plA xs k).d := rfl
    generalize plA xs k = p at *
    obtain ⟨pf, pt, pd, pk⟩ := p
    simp only at g5 g6 hm hrow
    have hol : (IR (rowF k (marI xs u2 g))).length = k := by rw [IR_len, rowF_len]
    by_cases hge : 0 ≤ g k
    · rw [if_pos hge] at hm
      have hq := ediv_in hge h2.1
      rw [← Int.tdiv_eq_ediv_of_nonneg hge] at hm hq
      repeat' (first | ((first | apply Ba | (apply Bb; (· rfl); (· rfl)) | (apply Bc; (· exact nxE)) | (apply Bd; (· rfl); (· rfl); (· exact nxE))); (· first | exact Ok.quo rfl rfl rfl h2.1 (by omega) (by omega) | exact Ok.append1 (row := [DI (min (1000 - pd) ((g k).tdiv u2))]) rfl rfl (by decide) rfl rfl hol rfl rfl rfl (by rfl) (by omega) (by omega) | exact Ok.pe)) | ((first | apply Ca | (apply Cb; (· exact nxE))); (· first | exact Ok.append1 (row := [DI (min (1000 - pd) ((g k).tdiv u2))]) rfl rfl (by decide) rfl rfl hol rfl rfl rfl (by rfl) (by omega) (by omega) | exact Ok.e0)) | refine Sx ?_ | (refine Sy (fun h => ?_) (fun h => ?_) <;> try (exfalso; omega; done)) | refine Sz (fun h => ?_) (fun h => ?_))
      refine ⟨⟨k + 1, by omega⟩, ?_, by simp only; omega⟩
      (apply Le.headZ [_, _, _] rfl)
      all_goals (try dsimp only [srcs])
      (case' hfr | hob => (repeat' (first | refine La ?_ ?_ | exact Lc | refine Lo ?_ | refine ⟨⟨_, rfl, ?_⟩, ?_⟩ | refine Lx ?_)))
      all_goals (first | ((first | (rw [rowF_next hm]; simp; done) | (rw [rowF_next hm]; rw [IR_app]; done))) | exact Ld)
    · rw [if_neg hge] at hm
      repeat' (first | ((first | apply Ba | (apply Bb; (· rfl); (· rfl)) | (apply Bc; (· exact nxE)) | (apply Bd; (· rfl); (· rfl); (· exact nxE))); (· first | exact Ok.append1 (row := [DI (1000 - pd)]) rfl rfl (by decide) rfl rfl hol rfl rfl rfl (by rfl) (by omega) (by omega) | exact Ok.pe)) | ((first | apply Ca | (apply Cb; (· exact nxE))); (· first | exact Ok.append1 (row := [DI (1000 - pd)]) rfl rfl (by decide) rfl rfl hol rfl rfl rfl (by rfl) (by omega) (by omega) | exact Ok.e0)) | refine Sx ?_ | (refine Sy (fun h => ?_) (fun h => ?_) <;> try (exfalso; omega; done)) | refine Sz (fun h => ?_) (fun h => ?_))
      refine ⟨⟨k + 1, by omega⟩, ?_, by simp only; omega⟩
      (apply Le.headZ [_, _, _] rfl)
      all_goals (try dsimp only [srcs])
      (case' hfr | hob => (repeat' (first | refine La ?_ ?_ | exact Lc | refine Lo ?_ | refine ⟨⟨_, rfl, ?_⟩, ?_⟩ | refine Lx ?_)))
      all_goals (first | ((first | (rw [rowF_next hm]; simp; done) | (rw [rowF_next hm]; rw [IR_app]; done))) | exact Ld)
  ·
    obtain rfl : k = xs.length := by omega
    repeat' (first | ((first | apply Ba | (apply Bb; (· rfl); (· rfl)) | (apply Bc; (· exact nxE)) | (apply Bd; (· rfl); (· rfl); (· exact nxE))); (· first | exact Ok.pe)) | ((first | apply Ca | (apply Cb; (· exact nxE))); (· first | exact Ok.e0)) | refine Sx ?_ | (refine Sy (fun h => ?_) (fun h => ?_) <;> try (exfalso; omega; done)) | refine Sz (fun h => ?_) (fun h => ?_))
    refine Ya ?_
    (apply Le.head [(⟨0, []⟩, _, _)])
    (case' hfr | hob => (repeat' (first | refine La ?_ ?_ | exact Lc | refine Lo ?_ | refine ⟨⟨_, rfl, ?_⟩, ?_⟩ | refine Lx ?_)))
    all_goals (first | exact Ld | (rfl))
end Go.Proofs.Ytegfjedklebbfaa
end
