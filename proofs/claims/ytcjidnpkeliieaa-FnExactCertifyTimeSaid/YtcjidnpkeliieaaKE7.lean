/-
  Walks in the abstract reading: slices.Reverse of numbers; weights of places; the search of a better circuit.
-/
import Derived.Test.YtcjidnpkeliieaaKU4
import Derived.Test.YtcjidnpkeliieaaKU6
import Derived.Test.YtcjidnpkeliieaaKA3
namespace Go.Proofs.Ytcjidnpkeliieaa
set_option linter.unusedSimpArgs false
set_option linter.unusedVariables false
open Go Go.RowKit
attribute [local irreducible] AL AD AW OpOk Le AC thenQ blockQ EndQ

set_option maxHeartbeats 1000000 in
theorem revI_ac (xs : List Int) (hn : xs.length ≤ 1000000) : AC Try.prog 195 [own1 1 xs.length] (hp1 (IO xs)) (.tup []) (hp1 (IO xs.reverse)) := by
  refine AC.of_body 1 Try.func195 rfl (fun l h => by simp [upd] at h; simp [h]) (fun C hC => ?_)
  simp only [startFr, Try.ntmps195, List.length_cons, List.length_nil, Nat.reduceAdd, Nat.reduceSub, List.replicate_succ, List.replicate_zero, List.cons_append, List.nil_append]
  have hD : ∀ l, C.D0 l → l = ⟨0, []⟩ := fun l h => by have := (hC l).1 h; simp [upd] at this; exact this
  repeat' (first | refine Qa ?_ | ((first | apply Ba | (apply Bb; (· rfl); (· rfl)) | (apply Bc; (· exact nxE)) | (apply Bd; (· rfl); (· rfl); (· exact nxE))); (· first | exact Ok.pe); (first | refine Na ?_ | refine Nb ?_)) | ((first | apply Ca | (apply Cb; (· exact nxE))); (· first | exact Ok.e0); (first | refine Nc ?_ | refine Nd ?_)) | refine Oa ?_ | refine Ob ?_ | ((first | refine Ga (fun h => ?_) (fun h => ?_) | refine AD.gsplit rfl rfl (fun h => ?_) (fun h => ?_)) <;> try (exfalso; omega; done)) | (first | refine AL.gsplitB rfl rfl (fun h => ?_) (fun h => ?_) | refine AD.gsplitB rfl rfl (fun h => ?_) (fun h => ?_)) | refine Fa ?_ | refine Qb ?_ | refine Qc ?_ | refine Qd ?_ | refine Fb ?_ | refine Qe ?_ | refine Wa ?_ | refine Wb ?_ | (refine AW.ite rfl (fun h => ?_) (fun h => ?_) <;> try (exfalso; omega; done)) | refine AW.cond _ rfl (fun h => ?_) (fun h => ?_) | refine Qf ?_ | refine Qg ?_ | refine Qh ?_ | refine Qi ?_ | refine Xa ?_ | refine Xb ?_ | refine Xc ?_ | refine Xd ?_ | refine Fc ?_)
  refine AW.loop (X := {k : Nat // 2 * k ≤ xs.length}) (fun k => ⟨[own1 1 xs.length, Oo, I (k.1 : Nat), I ((xs.length : Int) - 1 - (k.1 : Nat)), Oo, Oo, Oo, Oo, Oo, Oo, Oo, Oo, Oo, Oo, Oo, Oo, Oo, Oo, Oo, Oo, Oo, Oo, Oo, Oo, Oo, Oo, Oo, Oo], heapL [(⟨0, []⟩, ⟨0, []⟩, IO (rvAt 0 xs k.1))], 50⟩) (fun k => xs.length - k.1) ⟨0, Nat.zero_le _⟩ ?_ (fun k => ?_)
  ·
    refine Le.head ([(⟨0, []⟩, ⟨0, []⟩, IO (rvAt 0 xs 0))]) (by first | exact fun l h => absurd h (hD l) | (intro l h; rcases hD l h with rfl; simp [tauL]) | (intro l h; rcases hD l h with rfl | rfl <;> simp [tauL]; done) | (intro l h; rcases hD l h with rfl | rfl | rfl <;> simp [tauL])) ?_ ?_ (by simp) (by simp) (by simp [AllP]) <;> (repeat' (first | exact trivial | exact ARs.nil | refine ARs.cons ?_ ?_ | exact AR.dead _ | exact AR.dd _ | exact AR.i (by (try dsimp only); omega) | exact AR.ptr _ _ _ _ (by simp [heapL, upd]) | exact AR.own _ _ _ _ (by simp [heapL, upd]) | refine AR.ownE _ _ _ ?_ (by simp [heapL, upd]) | refine ⟨⟨_, rfl, ?_⟩, ?_⟩ | exact ObA.data | refine ObA.box ?_ | refine ObA.frE ?_ | refine ObA.dataE ?_ | refine ARs.agg ?_ | refine ARs.tup ?_ | exact AR.clo' ARs.nil ARs.nil | exact AR.clo' ARs.nil (hca _ _)))
    all_goals (rw [rvAt_0])
  obtain ⟨k, hk⟩ := k
  simp only
  by_cases hlt : k < xs.length - 1 - k
  · obtain ⟨p, hp⟩ : ∃ p, xs[k]? = some p := ⟨xs[k], by simp⟩
    obtain ⟨q, hq⟩ : ∃ q, xs[xs.length - 1 - k]? = some q := ⟨xs[xs.length - 1 - k], by simp⟩
    have hI : (IR (rvAt 0 xs k))[k]? = some [DI p] := by simp [rvAt_i (z := 0) hlt hp]
    have hJ : (IR (rvAt 0 xs k))[xs.length - 1 - k]? = some [DI q] := by simp [rvAt_j (z := 0) hlt hq]
    have hJ2 : ((IR (rvAt 0 xs k)).set k [DI q])[xs.length - 1 - k]? = some [DI q] := by rw [IR_set]; show (List.map _ _)[_]? = _; rw [List.getElem?_map, rvAt_j2 (z := 0) hlt hq]; rfl
    have hS : ((IR (rvAt 0 xs k)).set k [DI q]).set (xs.length - 1 - k) [DI p] = IR (rvAt 0 xs (k + 1)) := by rw [IR_set, IR_set, rvAt_swap hlt hp hq]
    have hl : (IR (rvAt 0 xs k)).length = xs.length := by rw [IR_len, rvAt_len]
    have hj : (xs.length : Int) - 1 - (k : Nat) = ((xs.length - 1 - k : Nat) : Int) := by omega
    rw [hj]
    repeat' (first | refine Qa ?_ | ((first | apply Ba | (apply Bb; (· rfl); (· rfl)) | (apply Bc; (· exact nxE)) | (apply Bd; (· rfl); (· rfl); (· exact nxE))); (· first | exact Ok.ld1 rfl rfl rfl hI | exact Ok.ld1 rfl rfl rfl hJ | exact Ok.st1 rfl rfl rfl (by rw [hl]; omega) (by rw [hI]; rfl) rfl rfl rfl | exact Ok.st1 rfl rfl rfl (by rw [List.length_set, hl]; omega) (by rw [hJ2]; rfl) rfl rfl hS | exact Ok.pe); (first | refine Na ?_ | refine Nb ?_)) | ((first | apply Ca | (apply Cb; (· exact nxE))); (· first | exact Ok.st1 rfl rfl rfl (by rw [hl]; omega) (by rw [hI]; rfl) rfl rfl rfl | exact Ok.st1 rfl rfl rfl (by rw [List.length_set, hl]; omega) (by rw [hJ2]; rfl) rfl rfl hS | exact Ok.e0); (first | refine Nc ?_ | refine Nd ?_)) | refine Oa ?_ | refine Ob ?_ | ((first | refine Ga (fun h => ?_) (fun h => ?_) | refine AD.gsplit rfl rfl (fun h => ?_) (fun h => ?_)) <;> try (exfalso; omega; done)) | (first | refine AL.gsplitB rfl rfl (fun h => ?_) (fun h => ?_) | refine AD.gsplitB rfl rfl (fun h => ?_) (fun h => ?_)) | refine Fa ?_ | refine Qb ?_ | refine Qc ?_ | refine Qd ?_ | refine Fb ?_ | refine Qe ?_ | refine Wa ?_ | refine Wb ?_ | (refine AW.ite rfl (fun h => ?_) (fun h => ?_) <;> try (exfalso; omega; done)) | refine AW.cond _ rfl (fun h => ?_) (fun h => ?_) | refine Qf ?_ | refine Qg ?_ | refine Qh ?_ | refine Qi ?_ | refine Xa ?_ | refine Xb ?_ | refine Xc ?_ | refine Xd ?_ | refine Fc ?_)
    refine ⟨⟨k + 1, by omega⟩, ?_, by simp only; omega⟩
    refine Le.head ([(⟨0, []⟩, ⟨0, []⟩, IO (rvAt 0 xs (k + 1)))]) (by first | exact fun l h => absurd h (hD l) | (intro l h; rcases hD l h with rfl; simp [tauL]) | (intro l h; rcases hD l h with rfl | rfl <;> simp [tauL]; done) | (intro l h; rcases hD l h with rfl | rfl | rfl <;> simp [tauL])) ?_ ?_ (by simp) (by simp) (by simp [AllP]) <;> (repeat' (first | exact trivial | exact ARs.nil | refine ARs.cons ?_ ?_ | exact AR.dead _ | exact AR.dd _ | exact AR.i (by (try dsimp only); omega) | exact AR.ptr _ _ _ _ (by simp [heapL, upd]) | exact AR.own _ _ _ _ (by simp [heapL, upd]) | refine AR.ownE _ _ _ ?_ (by simp [heapL, upd]) | refine ⟨⟨_, rfl, ?_⟩, ?_⟩ | exact ObA.data | refine ObA.box ?_ | refine ObA.frE ?_ | refine ObA.dataE ?_ | refine ARs.agg ?_ | refine ARs.tup ?_ | exact AR.clo' ARs.nil ARs.nil | exact AR.clo' ARs.nil (hca _ _)))
    all_goals (rfl)
  have hrev : rvAt 0 xs k = xs.reverse := rvAt_all hk (by omega)
  repeat' (first | refine Qa ?_ | ((first | apply Ba | (apply Bb; (· rfl); (· rfl)) | (apply Bc; (· exact nxE)) | (apply Bd; (· rfl); (· rfl); (· exact nxE))); (· first | exact Ok.pe); (first | refine Na ?_ | refine Nb ?_)) | ((first | apply Ca | (apply Cb; (· exact nxE))); (· first | exact Ok.e0); (first | refine Nc ?_ | refine Nd ?_)) | refine Oa ?_ | refine Ob ?_ | ((first | refine Ga (fun h => ?_) (fun h => ?_) | refine AD.gsplit rfl rfl (fun h => ?_) (fun h => ?_)) <;> try (exfalso; omega; done)) | (first | refine AL.gsplitB rfl rfl (fun h => ?_) (fun h => ?_) | refine AD.gsplitB rfl rfl (fun h => ?_) (fun h => ?_)) | refine Fa ?_ | refine Qb ?_ | refine Qc ?_ | refine Qd ?_ | refine Fb ?_ | refine Qe ?_ | refine Wa ?_ | refine Wb ?_ | (refine AW.ite rfl (fun h => ?_) (fun h => ?_) <;> try (exfalso; omega; done)) | refine AW.cond _ rfl (fun h => ?_) (fun h => ?_) | refine Qf ?_ | refine Qg ?_ | refine Qh ?_ | refine Qi ?_ | refine Xa ?_ | refine Xb ?_ | refine Xc ?_ | refine Xd ?_ | refine Fc ?_)
  all_goals
    refine end0 (by first | exact .inl rfl | exact .inr rfl) rfl (Le.head ([(⟨0, []⟩, ⟨0, []⟩, IO xs.reverse)]) (by first | exact fun l h => absurd h (hD l) | (intro l h; rcases hD l h with rfl; simp [tauL]) | (intro l h; rcases hD l h with rfl | rfl <;> simp [tauL]; done) | (intro l h; rcases hD l h with rfl | rfl | rfl <;> simp [tauL])) ?_ ?_ (by simp) (by simp) (by simp [AllP]) (n' := 1000)) <;> (repeat' (first | exact trivial | exact ARs.nil | refine ARs.cons ?_ ?_ | exact AR.dead _ | exact AR.dd _ | exact AR.i (by (try dsimp only); omega) | exact AR.ptr _ _ _ _ (by simp [heapL, upd]) | exact AR.own _ _ _ _ (by simp [heapL, upd]) | refine AR.ownE _ _ _ ?_ (by simp [heapL, upd]) | refine ⟨⟨_, rfl, ?_⟩, ?_⟩ | exact ObA.data | refine ObA.box ?_ | refine ObA.frE ?_ | refine ObA.dataE ?_ | refine ARs.agg ?_ | refine ARs.tup ?_ | exact AR.clo' ARs.nil ARs.nil | exact AR.clo' ARs.nil (hca _ _)))
    all_goals (rw [hrev])
theorem placeWeight_ac (p : Pl) (u1 u2 : Int) (h1 : 0 ≤ u2 * p.d ∧ u2 * p.d ≤ 1000000000) (h2 : 0 ≤ u1 * p.k ∧ u1 * p.k ≤ 1000000000) : AC Try.prog 88 [p.av, .agg [I u1, I u2]] H0 (I (pw u1 u2 p)) H0 := by
  unfold pw
  obtain ⟨pf, pt, pd, pk⟩ := p
  simp only at h1 h2 ⊢
  refine AC.of_body 0 Try.func88 rfl (fun l h => absurd rfl h) (fun C hC => ?_)
  have hD : ∀ l, ¬ C.D0 l := fun l h => (hC l).1 h rfl
  simp only [startFr, Try.ntmps88, List.length_cons, List.length_nil, Nat.reduceAdd, Nat.reduceSub, List.replicate_succ, List.replicate_zero, List.cons_append, List.nil_append]
  repeat' (first | refine Qa ?_ | ((first | apply Ba | (apply Bb; (· rfl); (· rfl)) | (apply Bc; (· exact nxE)) | (apply Bd; (· rfl); (· rfl); (· exact nxE))); (· first | exact Ok.pe); (first | refine Na ?_ | refine Nb ?_)) | ((first | apply Ca | (apply Cb; (· exact nxE))); (· first | exact Ok.e0); (first | refine Nc ?_ | refine Nd ?_)) | refine Oa ?_ | refine Ob ?_ | ((first | refine Ga (fun h => ?_) (fun h => ?_) | refine AD.gsplit rfl rfl (fun h => ?_) (fun h => ?_)) <;> try (exfalso; omega; done)) | (first | refine AL.gsplitB rfl rfl (fun h => ?_) (fun h => ?_) | refine AD.gsplitB rfl rfl (fun h => ?_) (fun h => ?_)) | refine Fa ?_ | refine Qb ?_ | refine Qc ?_ | refine Qd ?_ | refine Fb ?_ | refine Qe ?_ | refine Wa ?_ | refine Wb ?_ | (refine AW.ite rfl (fun h => ?_) (fun h => ?_) <;> try (exfalso; omega; done)) | refine AW.cond _ rfl (fun h => ?_) (fun h => ?_) | refine Qf ?_ | refine Qg ?_ | refine Qh ?_ | refine Qi ?_ | refine Xa ?_ | refine Xb ?_ | refine Xc ?_ | refine Xd ?_ | refine Fc ?_)
  refine Ya ?_
  (apply Le.headZ (hs := []) [] rfl)
  all_goals (try dsimp only [srcs])
  (case' hfr => (repeat' (first | refine La ?_ ?_ | exact Lc | refine Lo ?_ | refine ⟨⟨_, rfl, ?_⟩, ?_⟩ | refine ObA.box ?_ | refine ObA.frE ?_ | refine ObA.dataE ?_ | refine ARs.agg ?_ | refine ARs.tup ?_ | refine AR.b ?_ | refine AR.iE ?_ | refine AR.e ?_ | refine AR.clo' ARs.nil ?_)))
  all_goals (first | exact Ld | exact trivial | (rfl))
noncomputable def perL (f : Nat → Nat) (z : Nat) : Nat := open Classical in if h : ∃ L, Per f z L then Classical.choose h else 0
theorem perL_eq {f : Nat → Nat} {z L : Nat} (h : Per f z L) : perL f z = L := by
  have he : ∃ L, Per f z L := ⟨L, h⟩
  unfold perL
  rw [dif_pos he]
  exact Per.uniq (Classical.choose_spec he) h
abbrev predF (xs : List Pl) (y : Nat → Nat) : Nat → Nat := fun v => plF xs (y v)
noncomputable def btL (xs : List Pl) (n : Nat) (s : BF) : List Nat := (backC s.y (predF xs s.y) (iter (predF xs s.y) n s.last.toNat) (perL (predF xs s.y) (iter (predF xs s.y) n s.last.toNat))).reverse
noncomputable def btRes (xs : List Pl) (n : Nat) : Option BF → AV
  | none => nilS
  | some s => own1 1 (btL xs n s).length
noncomputable def btHp (xs : List Pl) (n : Nat) : Option BF → Heap
  | none => H0
  | some s => hp1 (IO (cN (btL xs n s)))
theorem btL_eq {xs : List Pl} {n : Nat} {r : Int × Int} {s : BF} {v z L : Nat} (h : Found xs n r s v z L) : btL xs n s = (backC s.y (predF xs s.y) z L).reverse := by
  unfold btL
  rw [h.last, Int.toNat_natCast]
  have e : iter (predF xs s.y) n v = z := h.zv
  rw [e, perL_eq h.per]
/-- Before round q + 1. -/
structure BtSt (xs : List Pl) (n : Nat) (r : Int × Int) (q : Nat) (s : BF) : Prop where
  le : q ≤ n + 1
  run : bfRun xs r (n + 1) bf0 = bfRun xs r (n + 1 - q) s
  bnd : ∀ v, 0 ≤ s.b v ∧ s.b v ≤ 30000000 * (q : Int)
theorem bf_bnd2 {n : Nat} {xs : List Pl} {r : Int × Int} (hx : xs.length ≤ 30) (hw : ∀ i, i < xs.length → plW xs r i ≤ 1000000) {s : BF} {q : Nat} (h : ∀ v, 0 ≤ s.b v ∧ s.b v ≤ 30000000 * (q : Int)) (k : Nat) (hk : k ≤ xs.length) (v : Nat) : 0 ≤ (bfAt xs r s k).b v ∧ (bfAt xs r s k).b v ≤ 30000000 * ((q + 1 : Nat) : Int) := by
  have := bf_bnd (B := 1000000) (by decide) hw h k hk v
  omega
theorem plW_le {n : Nat} {xs : List Pl} {u1 u2 : Int} (hv : ∀ p ∈ xs, okPl n p) (hu1 : 0 ≤ u1 ∧ u1 ≤ 100000) (hu2 : 0 ≤ u2 ∧ u2 ≤ 50) (i : Nat) (hi : i < xs.length) : (0 ≤ u2 * (plA xs i).d ∧ u2 * (plA xs i).d ≤ 500000) ∧ (0 ≤ u1 * (plA xs i).k ∧ u1 * (plA xs i).k ≤ 500000) := by
  have ho := okPl_at hv i hi
  have h1 := mul_in hu2 ho.2.2.1
  have h2 := mul_in hu1 ho.2.2.2
  omega
set_option maxHeartbeats 8000000 in
theorem betterCircuit_ac (n : Nat) (xs : List Pl) (u1 u2 : Int) (h0 : 1 ≤ n) (hn : n ≤ 10) (hx : xs.length ≤ 30) (hv : ∀ p ∈ xs, okPl n p) (hu1 : 0 ≤ u1 ∧ u1 ≤ 100000) (hu2 : 0 ≤ u2 ∧ u2 ≤ 50) :
    AC Try.prog 138 [grD n xs, .agg [I u1, I u2]] H0 (btRes xs n (bfRun xs (u1, u2) (n + 1) bf0)) (btHp xs n (bfRun xs (u1, u2) (n + 1) bf0)) := by
  have hpw := plW_le hv hu1 hu2
  have hW : ∀ i, i < xs.length → plW xs (u1, u2) i ≤ 1000000 := fun i hi => by have := hpw i hi; simp only [plW, pw]; omega
  have hfill := fillF_0 (n := n) (x := 0)
  have hok : okN xs n := fun i hi => by have := (okPl_at hv i hi).2.1; simp only [plT]; omega
  refine AC.of_body 0 Try.func138 rfl (fun l h => absurd rfl h) (fun C hC => ?_)
  have hD : ∀ l, ¬ C.D0 l := fun l h => (hC l).1 h rfl
  simp only [startFr, Try.ntmps138, List.length_cons, List.length_nil, Nat.reduceAdd, Nat.reduceSub, List.replicate_succ, List.replicate_zero, List.cons_append, List.nil_append]
  repeat' (first | refine Qa ?_ | ((first | apply Ba | (apply Bb; (· rfl); (· rfl)) | (apply Bc; (· exact nxE)) | (apply Bd; (· rfl); (· rfl); (· exact nxE))); (· first | exact Ok.pe); (first | refine Na ?_ | refine Nb ?_)) | ((first | apply Ca | (apply Cb; (· exact nxE))); (· first | exact Ok.e0); (first | refine Nc ?_ | refine Nd ?_)) | refine Oa ?_ | refine Ob ?_ | ((first | refine Ga (fun h => ?_) (fun h => ?_) | refine AD.gsplit rfl rfl (fun h => ?_) (fun h => ?_)) <;> try (exfalso; omega; done)) | (first | refine AL.gsplitB rfl rfl (fun h => ?_) (fun h => ?_) | refine AD.gsplitB rfl rfl (fun h => ?_) (fun h => ?_)) | refine Fa ?_ | refine Qb ?_ | refine Qc ?_ | refine Qd ?_ | refine Fb ?_ | refine Qe ?_ | refine Wa ?_ | refine Wb ?_ | (refine AW.ite rfl (fun h => ?_) (fun h => ?_) <;> try (exfalso; omega; done)) | refine AW.cond _ rfl (fun h => ?_) (fun h => ?_) | refine Qf ?_ | refine Qg ?_ | refine Qh ?_ | refine Qi ?_ | refine Xa ?_ | refine Xb ?_ | refine Xc ?_ | refine Xd ?_ | refine Fc ?_)
  refine AW.loop (X := {p : Nat × BF // BtSt xs n (u1, u2) p.1 p.2}) (fun p => ⟨[Oo, Oo, Bx 2 0, Bx 2 1, Oo, .own 1 ⟨2, []⟩ 0 n, .own 1 ⟨3, []⟩ 0 n, I p.1.2.last, Oo, Oo, Oo, Oo, Oo, Oo, Oo, Oo, Oo, Oo, Oo, Oo, Oo, I ((n : Int) + 1), I (p.1.1 : Nat), Oo, Oo, Oo, Oo, Oo, Oo, Oo, Oo, Oo, Oo, Oo, Oo, Oo, Oo, Oo, Oo, Oo, Oo, Oo, Oo, Oo, Oo, Oo, Oo, Oo, Oo, Oo, Oo, Oo, Oo, Oo, Oo, Oo, Oo, Oo, Oo, Oo, Oo, Oo, Oo, Oo, Oo, Oo, Oo, Oo, Oo, Oo, Oo, Oo, Oo, Oo, Oo, Oo, Oo, Oo, Oo, Oo, Oo, Oo, Oo, Oo, Oo, Oo, Oo, Oo, Oo, Oo, Oo, Oo, Oo, Oo, Oo, Oo, Oo, Oo, Oo, Oo, Oo], heapL [(⟨0, []⟩, ⟨0, []⟩, ⟨2, [[I n, PL xs]]⟩), (⟨1, []⟩, ⟨1, []⟩, ⟨2, [[I u1, I u2]]⟩), (⟨2, []⟩, ⟨2, []⟩, IO (rowF n p.1.2.b)), (⟨3, []⟩, ⟨3, []⟩, IO (rowF n fun v => (p.1.2.y v : Int)))], 900⟩) (fun p => n + 1 - p.1.1) ⟨(0, bf0), Nat.zero_le _, rfl, fun v => by simp [bf0]⟩ ?_ (fun p => ?_)
  ·
    (apply Le.headZ [_, _, _, _] rfl)
    all_goals (try dsimp only [srcs])
    (case' hfr | hob => (repeat' (first | refine La ?_ ?_ | exact Lc | refine Lo ?_ | refine ⟨⟨_, rfl, ?_⟩, ?_⟩ | refine ObA.box ?_ | refine ObA.frE ?_ | refine ObA.dataE ?_ | refine ARs.agg ?_ | refine ARs.tup ?_ | refine AR.b ?_ | refine AR.iE ?_ | refine AR.e ?_ | refine AR.clo' ARs.nil ?_)))
    all_goals (first | ((first | exact hfill | (rw [hfill]; done) | (simp [bf0]; done))) | exact Ld)
  obtain ⟨⟨q, s⟩, hS⟩ := p
  simp only at hS ⊢
  have hq := hS.le
  have hrun := hS.run
  have hb0 := hS.bnd
  by_cases hlt : q < n + 1
  · have hbn := fun k hk v => bf_bnd2 (n := n) (r := (u1, u2)) hx hW hb0 k hk v
    repeat' (first | refine Qa ?_ | ((first | apply Ba | (apply Bb; (· rfl); (· rfl)) | (apply Bc; (· exact nxE)) | (apply Bd; (· rfl); (· rfl); (· exact nxE))); (· first | exact Ok.pe); (first | refine Na ?_ | refine Nb ?_)) | ((first | apply Ca | (apply Cb; (· exact nxE))); (· first | exact Ok.e0); (first | refine Nc ?_ | refine Nd ?_)) | refine Oa ?_ | refine Ob ?_ | ((first | refine Ga (fun h => ?_) (fun h => ?_) | refine AD.gsplit rfl rfl (fun h => ?_) (fun h => ?_)) <;> try (exfalso; omega; done)) | (first | refine AL.gsplitB rfl rfl (fun h => ?_) (fun h => ?_) | refine AD.gsplitB rfl rfl (fun h => ?_) (fun h => ?_)) | refine Fa ?_ | refine Qb ?_ | refine Qc ?_ | refine Qd ?_ | refine Fb ?_ | refine Qe ?_ | refine Wa ?_ | refine Wb ?_ | (refine AW.ite rfl (fun h => ?_) (fun h => ?_) <;> try (exfalso; omega; done)) | refine AW.cond _ rfl (fun h => ?_) (fun h => ?_) | refine Qf ?_ | refine Qg ?_ | refine Qh ?_ | refine Qi ?_ | refine Xa ?_ | refine Xb ?_ | refine Xc ?_ | refine Xd ?_ | refine Fc ?_)
    refine AW.loop (X := {k : Nat // k ≤ xs.length}) (fun k => ⟨[Oo, Oo, Bx 2 0, Bx 2 1, Oo, .own 1 ⟨2, []⟩ 0 n, .own 1 ⟨3, []⟩ 0 n, I (bfAt xs (u1, u2) s k.1).last, Oo, Oo, Oo, Oo, Oo, Oo, Oo, Oo, Oo, Oo, Oo, Oo, Oo, I ((n : Int) + 1), I q, Oo, Oo, PL xs, I xs.length, I (k.1 : Nat), Oo, Oo, Oo, Oo, Oo, Oo, Oo, Oo, Oo, Oo, Oo, Oo, Oo, Oo, Oo, Oo, Oo, Oo, Oo, Oo, Oo, Oo, Oo, Oo, Oo, Oo, Oo, Oo, Oo, Oo, Oo, Oo, Oo, Oo, Oo, Oo, Oo, Oo, Oo, Oo, Oo, Oo, Oo, Oo, Oo, Oo, Oo, Oo, Oo, Oo, Oo, Oo, Oo, Oo, Oo, Oo, Oo, Oo, Oo, Oo, Oo, Oo, Oo, Oo, Oo, Oo, Oo, Oo, Oo, Oo, Oo, Oo, Oo], heapL [(⟨0, []⟩, ⟨0, []⟩, ⟨2, [[I n, PL xs]]⟩), (⟨1, []⟩, ⟨1, []⟩, ⟨2, [[I u1, I u2]]⟩), (⟨2, []⟩, ⟨2, []⟩, IO (rowF n (bfAt xs (u1, u2) s k.1).b)), (⟨3, []⟩, ⟨3, []⟩, IO (rowF n fun v => ((bfAt xs (u1, u2) s k.1).y v : Int)))], 900⟩) (fun k => xs.length - k.1) ⟨0, Nat.zero_le _⟩ ?_ (fun k => ?_)
    ·
      (apply Le.headZ [_, _, _, _] rfl)
      all_goals (try dsimp only [srcs])
      (case' hfr | hob => (repeat' (first | refine La ?_ ?_ | exact Lc | refine Lo ?_ | refine ⟨⟨_, rfl, ?_⟩, ?_⟩ | refine ObA.box ?_ | refine ObA.frE ?_ | refine ObA.dataE ?_ | refine ARs.agg ?_ | refine ARs.tup ?_ | refine AR.b ?_ | refine AR.iE ?_ | refine AR.e ?_ | refine AR.clo' ARs.nil ?_)))
      all_goals (first | (rfl) | exact Ld)
    obtain ⟨k, hk⟩ := k
    simp only
    by_cases hlt2 : k < xs.length
    · have hrow := pl_row (n := 0) hlt2
      obtain ⟨⟨g1, g2⟩, ⟨g3, g4⟩, _⟩ := okPl_at hv k hlt2
      have hbk := hbn k hk
      have hpk := hpw k hlt2
      have hPW := placeWeight_ac (plA xs k) u1 u2 (by omega) (by omega)
      have hpwb : -1000000 ≤ pw u1 u2 (plA xs k) ∧ pw u1 u2 (plA xs k) ≤ 1000000 := by unfold pw; omega
      have hstep : bfAt xs (u1, u2) s (k + 1) = bfStep xs (u1, u2) (bfAt xs (u1, u2) s k) k := rfl
      unfold bfStep at hstep
      simp only [plF, plT, plW] at hstep
      obtain ⟨e, he⟩ : ∃ e, bfAt xs (u1, u2) s k = e := ⟨_, rfl⟩
      rw [he] at hstep hbk ⊢
      obtain ⟨b, y, la⟩ := e
      simp only at hstep hbk ⊢
      generalize hw : pw u1 u2 (plA xs k) = w at *
      generalize plA xs k = p at *
      obtain ⟨pf, pt, pd, pk⟩ := p
      obtain ⟨f, rfl⟩ : ∃ f : Nat, pf = f := ⟨pf.toNat, by simp at g1; omega⟩
      obtain ⟨t, rfl⟩ : ∃ t : Nat, pt = t := ⟨pt.toNat, by simp at g3; omega⟩
      simp only [Int.toNat_natCast] at hrow g2 g4 hstep
      have hF := rowI_at (n := n) (g := b) (show f < n by omega)
      have hT := rowI_at (n := n) (g := b) (show t < n by omega)
      have hY := rowI_at (n := n) (g := fun v => (y v : Int)) (show t < n by omega)
      have hbf := hbk f
      have hbt := hbk t
      have hset : (IR (rowF n b)).set t [DI (b f + w)] = IR (rowF n (fun v => if v = t then b f + w else b v)) := by rw [IR_set, rowF_set]
      have hset2 : (IR (rowF n fun v => (y v : Int))).set t [DI (k : Int)] = IR (rowF n (fun v => ((if v = t then k else y v : Nat) : Int))) := by
        rw [IR_set, rowF_set]
        congr 1
        exact rowF_congr fun j _ => by by_cases h : j = t <;> simp [h]
      repeat' (first | refine Qa ?_ | ((first | apply Ba | (apply Bb; (· rfl); (· rfl)) | (apply Bc; (· exact nxE)) | (apply Bd; (· rfl); (· rfl); (· exact nxE))); (· first | exact Kz rfl rfl (hPW) (Aa (Ad (Ad (Ad (Ad An)))) (Aa (Ad (Ad An)) An)) | exact Ok.ld1 rfl rfl rfl hF | exact Ok.ld1 rfl rfl rfl hT | exact Ok.st1 rfl rfl rfl (by simp [rowF_len]; omega) (by rw [hT]; rfl) rfl rfl hset | exact Ok.st1 rfl rfl rfl (by simp [rowF_len]; omega) (by rw [hY]; rfl) rfl rfl hset2 | exact Ok.pe); (first | refine Na ?_ | refine Nb ?_)) | ((first | apply Ca | (apply Cb; (· exact nxE))); (· first | exact Ok.st1 rfl rfl rfl (by simp [rowF_len]; omega) (by rw [hT]; rfl) rfl rfl hset | exact Ok.st1 rfl rfl rfl (by simp [rowF_len]; omega) (by rw [hY]; rfl) rfl rfl hset2 | exact Ok.e0); (first | refine Nc ?_ | refine Nd ?_)) | refine Oa ?_ | refine Ob ?_ | ((first | refine Ga (fun h => ?_) (fun h => ?_) | refine AD.gsplit rfl rfl (fun h => ?_) (fun h => ?_)) <;> try (exfalso; omega; done)) | (first | refine AL.gsplitB rfl rfl (fun h => ?_) (fun h => ?_) | refine AD.gsplitB rfl rfl (fun h => ?_) (fun h => ?_)) | refine Fa ?_ | refine Qb ?_ | refine Qc ?_ | refine Qd ?_ | refine Fb ?_ | refine Qe ?_ | refine Wa ?_ | refine Wb ?_ | (refine AW.ite rfl (fun h => ?_) (fun h => ?_) <;> try (exfalso; omega; done)) | refine AW.cond _ rfl (fun h => ?_) (fun h => ?_) | refine Qf ?_ | refine Qg ?_ | refine Qh ?_ | refine Qi ?_ | refine Xa ?_ | refine Xb ?_ | refine Xc ?_ | refine Xd ?_ | refine Fc ?_)
      all_goals first
        | (have hyes : b t < b f + w := by omega
           rw [if_pos hyes] at hstep
           refine ⟨⟨k + 1, by omega⟩, ?_, by simp only; omega⟩
           simp only
           rw [hstep]
           (apply Le.headZ [_, _, _, _] rfl)
           all_goals (try dsimp only [srcs])
           (case' hfr | hob => (repeat' (first | refine La ?_ ?_ | exact Lc | refine Lo ?_ | refine ⟨⟨_, rfl, ?_⟩, ?_⟩ | refine ObA.box ?_ | refine ObA.frE ?_ | refine ObA.dataE ?_ | refine ARs.agg ?_ | refine ARs.tup ?_ | refine AR.b ?_ | refine AR.iE ?_ | refine AR.e ?_ | refine AR.clo' ARs.nil ?_)))
           all_goals (first | (rfl) | exact Ld)
           done)
        | (have hno : ¬ b t < b f + w := by omega
           rw [if_neg hno] at hstep
           refine ⟨⟨k + 1, by omega⟩, ?_, by simp only; omega⟩
           simp only
           rw [hstep]
           (apply Le.headZ [_, _, _, _] rfl)
           all_goals (try dsimp only [srcs])
           (case' hfr | hob => (repeat' (first | refine La ?_ ?_ | exact Lc | refine Lo ?_ | refine ⟨⟨_, rfl, ?_⟩, ?_⟩ | refine ObA.box ?_ | refine ObA.frE ?_ | refine ObA.dataE ?_ | refine ARs.agg ?_ | refine ARs.tup ?_ | refine AR.b ?_ | refine AR.iE ?_ | refine AR.e ?_ | refine AR.clo' ARs.nil ?_)))
           all_goals (first | (rfl) | exact Ld)
           done)
    · obtain rfl : k = xs.length := by omega
      have hstep : bfRun xs (u1, u2) (n + 1) bf0 = if (bfAt xs (u1, u2) s xs.length).last < 0 then none else bfRun xs (u1, u2) (n + 1 - (q + 1)) (bfAt xs (u1, u2) s xs.length) := by
        rw [hrun, show n + 1 - q = (n + 1 - (q + 1)) + 1 by omega]; rfl
      by_cases hneg : (bfAt xs (u1, u2) s xs.length).last < 0
      · rw [if_pos hneg] at hstep
        rw [hstep]
        repeat' (first | refine Qa ?_ | ((first | apply Ba | (apply Bb; (· rfl); (· rfl)) | (apply Bc; (· exact nxE)) | (apply Bd; (· rfl); (· rfl); (· exact nxE))); (· first | exact Ok.pe); (first | refine Na ?_ | refine Nb ?_)) | ((first | apply Ca | (apply Cb; (· exact nxE))); (· first | exact Ok.e0); (first | refine Nc ?_ | refine Nd ?_)) | refine Oa ?_ | refine Ob ?_ | ((first | refine Ga (fun h => ?_) (fun h => ?_) | refine AD.gsplit rfl rfl (fun h => ?_) (fun h => ?_)) <;> try (exfalso; omega; done)) | (first | refine AL.gsplitB rfl rfl (fun h => ?_) (fun h => ?_) | refine AD.gsplitB rfl rfl (fun h => ?_) (fun h => ?_)) | refine Fa ?_ | refine Qb ?_ | refine Qc ?_ | refine Qd ?_ | refine Fb ?_ | refine Qe ?_ | refine Wa ?_ | refine Wb ?_ | (refine AW.ite rfl (fun h => ?_) (fun h => ?_) <;> try (exfalso; omega; done)) | refine AW.cond _ rfl (fun h => ?_) (fun h => ?_) | refine Qf ?_ | refine Qg ?_ | refine Qh ?_ | refine Qi ?_ | refine Xa ?_ | refine Xb ?_ | refine Xc ?_ | refine Xd ?_ | refine Fc ?_)
        show EndQ _ _ _ nilS H0 _ _
        refine Ya ?_
        (apply Le.headZ (hs := []) [] rfl)
        all_goals (try dsimp only [srcs])
        (case' hfr => (repeat' (first | refine La ?_ ?_ | exact Lc | refine Lo ?_ | refine ⟨⟨_, rfl, ?_⟩, ?_⟩ | refine ObA.box ?_ | refine ObA.frE ?_ | refine ObA.dataE ?_ | refine ARs.agg ?_ | refine ARs.tup ?_ | refine AR.b ?_ | refine AR.iE ?_ | refine AR.e ?_ | refine AR.clo' ARs.nil ?_)))
        all_goals (first | exact Ld | exact trivial | (rfl))
      · rw [if_neg hneg] at hstep
        repeat' (first | refine Qa ?_ | ((first | apply Ba | (apply Bb; (· rfl); (· rfl)) | (apply Bc; (· exact nxE)) | (apply Bd; (· rfl); (· rfl); (· exact nxE))); (· first | exact Ok.pe); (first | refine Na ?_ | refine Nb ?_)) | ((first | apply Ca | (apply Cb; (· exact nxE))); (· first | exact Ok.e0); (first | refine Nc ?_ | refine Nd ?_)) | refine Oa ?_ | refine Ob ?_ | ((first | refine Ga (fun h => ?_) (fun h => ?_) | refine AD.gsplit rfl rfl (fun h => ?_) (fun h => ?_)) <;> try (exfalso; omega; done)) | (first | refine AL.gsplitB rfl rfl (fun h => ?_) (fun h => ?_) | refine AD.gsplitB rfl rfl (fun h => ?_) (fun h => ?_)) | refine Fa ?_ | refine Qb ?_ | refine Qc ?_ | refine Qd ?_ | refine Fb ?_ | refine Qe ?_ | refine Wa ?_ | refine Wb ?_ | (refine AW.ite rfl (fun h => ?_) (fun h => ?_) <;> try (exfalso; omega; done)) | refine AW.cond _ rfl (fun h => ?_) (fun h => ?_) | refine Qf ?_ | refine Qg ?_ | refine Qh ?_ | refine Qi ?_ | refine Xa ?_ | refine Xb ?_ | refine Xc ?_ | refine Xd ?_ | refine Fc ?_)
        refine ⟨⟨(q + 1, bfAt xs (u1, u2) s xs.length), by omega, hstep, fun v => hbn _ (Nat.le_refl _) v⟩, ?_, by simp only; omega⟩
        (apply Le.headZ [_, _, _, _] rfl)
        all_goals (try dsimp only [srcs])
        (case' hfr | hob => (repeat' (first | refine La ?_ ?_ | exact Lc | refine Lo ?_ | refine ⟨⟨_, rfl, ?_⟩, ?_⟩ | refine ObA.box ?_ | refine ObA.frE ?_ | refine ObA.dataE ?_ | refine ARs.agg ?_ | refine ARs.tup ?_ | refine AR.b ?_ | refine AR.iE ?_ | refine AR.e ?_ | refine AR.clo' ARs.nil ?_)))
        all_goals (first | (rfl) | exact Ld)
  · obtain rfl : q = n + 1 := by omega
    rw [Nat.sub_self] at hrun
    have hrun2 : bfRun xs (u1, u2) (n + 1) bf0 = some s := hrun
    rw [hrun2]
    obtain ⟨v, z, L, hFd⟩ := bf_found hok hrun2
    rw [show btRes xs n (some s) = own1 1 (btL xs n s).length from rfl, show btHp xs n (some s) = hp1 (IO (cN (btL xs n s))) from rfl, btL_eq hFd]
    have hit : ∀ j, j ≤ n → iter (predF xs s.y) j v < n := fun j hj => by
      cases j with
      | zero => exact hFd.vn
      | succ j =>
        have h1 := hFd.okv j (by omega)
        have h2 : 0 ≤ (plA xs (s.y (iter (predF xs s.y) j v))).f ∧ (plA xs (s.y (iter (predF xs s.y) j v))).f < n := (okPl_at hv _ h1).1
        show (plA xs (s.y (iter (predF xs s.y) j v))).f.toNat < n
        omega
    have hla := hFd.last
    repeat' (first | refine Qa ?_ | ((first | apply Ba | (apply Bb; (· rfl); (· rfl)) | (apply Bc; (· exact nxE)) | (apply Bd; (· rfl); (· rfl); (· exact nxE))); (· first | exact Ok.pe); (first | refine Na ?_ | refine Nb ?_)) | ((first | apply Ca | (apply Cb; (· exact nxE))); (· first | exact Ok.e0); (first | refine Nc ?_ | refine Nd ?_)) | refine Oa ?_ | refine Ob ?_ | ((first | refine Ga (fun h => ?_) (fun h => ?_) | refine AD.gsplit rfl rfl (fun h => ?_) (fun h => ?_)) <;> try (exfalso; omega; done)) | (first | refine AL.gsplitB rfl rfl (fun h => ?_) (fun h => ?_) | refine AD.gsplitB rfl rfl (fun h => ?_) (fun h => ?_)) | refine Fa ?_ | refine Qb ?_ | refine Qc ?_ | refine Qd ?_ | refine Fb ?_ | refine Qe ?_ | refine Wa ?_ | refine Wb ?_ | (refine AW.ite rfl (fun h => ?_) (fun h => ?_) <;> try (exfalso; omega; done)) | refine AW.cond _ rfl (fun h => ?_) (fun h => ?_) | refine Qf ?_ | refine Qg ?_ | refine Qh ?_ | refine Qi ?_ | refine Xa ?_ | refine Xb ?_ | refine Xc ?_ | refine Xd ?_ | refine Fc ?_)
    refine AW.loop (X := {k : Nat // k ≤ n}) (fun k => ⟨[Oo, Oo, Bx 2 0, Oo, Oo, Oo, .own 1 ⟨3, []⟩ 0 n, I (iter (predF xs s.y) k.1 v : Nat), Oo, Oo, Oo, Oo, Oo, Oo, Oo, Oo, Oo, Oo, Oo, Oo, Oo, Oo, Oo, Oo, Oo, Oo, Oo, Oo, Oo, Oo, Oo, Oo, Oo, Oo, Oo, Oo, Oo, Oo, Oo, Oo, Oo, Oo, Oo, Oo, Oo, Oo, Oo, Oo, Oo, Oo, Oo, Oo, Oo, Oo, Oo, Oo, Oo, Oo, Oo, Oo, Oo, Oo, Oo, Oo, Oo, I n, I (k.1 : Nat), Oo, Oo, Oo, Oo, Oo, Oo, Oo, Oo, Oo, Oo, Oo, Oo, Oo, Oo, Oo, Oo, Oo, Oo, Oo, Oo, Oo, Oo, Oo, Oo, Oo, Oo, Oo, Oo, Oo, Oo, Oo, Oo, Oo, Oo], heapL [(⟨0, []⟩, ⟨0, []⟩, ⟨2, [[I n, PL xs]]⟩), (⟨3, []⟩, ⟨3, []⟩, IO (rowF n fun v => (s.y v : Int)))], 900⟩) (fun k => n - k.1) ⟨0, Nat.zero_le _⟩ ?_ (fun k => ?_)
    ·
      (apply Le.headZ [_, _] rfl)
      all_goals (try dsimp only [srcs])
      (case' hfr | hob => (repeat' (first | refine La ?_ ?_ | exact Lc | refine Lo ?_ | refine ⟨⟨_, rfl, ?_⟩, ?_⟩ | refine ObA.box ?_ | refine ObA.frE ?_ | refine ObA.dataE ?_ | refine ARs.agg ?_ | refine ARs.tup ?_ | refine AR.b ?_ | refine AR.iE ?_ | refine AR.e ?_ | refine AR.clo' ARs.nil ?_)))
      all_goals (first | ((first | exact hla.symm | (rw [hla]; rfl))) | exact Ld)
    obtain ⟨j, hj⟩ := k
    simp only
    by_cases hlt3 : j < n
    · have hjn := hit j (by omega)
      have hyl := hFd.okv j (by omega)
      have hY := rowI_at (n := n) (g := fun v => (s.y v : Int)) hjn
      have hrow := pl_row (n := 0) hyl
      have ho := (okPl_at hv _ hyl).1.1
      have hnx : (plA xs (s.y (iter (predF xs s.y) j v))).f = ((iter (predF xs s.y) (j + 1) v : Nat) : Int) := (Int.toNat_of_nonneg ho).symm
      rw [hnx] at hrow
      generalize hw : iter (predF xs s.y) j v = w at *
      generalize hw2 : iter (predF xs s.y) (j + 1) v = w2 at *
      generalize s.y w = yw at *
      generalize plA xs yw = p at *
      obtain ⟨pf, pt, pd, pk⟩ := p
      simp only at hrow
      repeat' (first | refine Qa ?_ | ((first | apply Ba | (apply Bb; (· rfl); (· rfl)) | (apply Bc; (· exact nxE)) | (apply Bd; (· rfl); (· rfl); (· exact nxE))); (· first | exact Ok.ld1 rfl rfl rfl hY | exact Ok.pe); (first | refine Na ?_ | refine Nb ?_)) | ((first | apply Ca | (apply Cb; (· exact nxE))); (· first | exact Ok.e0); (first | refine Nc ?_ | refine Nd ?_)) | refine Oa ?_ | refine Ob ?_ | ((first | refine Ga (fun h => ?_) (fun h => ?_) | refine AD.gsplit rfl rfl (fun h => ?_) (fun h => ?_)) <;> try (exfalso; omega; done)) | (first | refine AL.gsplitB rfl rfl (fun h => ?_) (fun h => ?_) | refine AD.gsplitB rfl rfl (fun h => ?_) (fun h => ?_)) | refine Fa ?_ | refine Qb ?_ | refine Qc ?_ | refine Qd ?_ | refine Fb ?_ | refine Qe ?_ | refine Wa ?_ | refine Wb ?_ | (refine AW.ite rfl (fun h => ?_) (fun h => ?_) <;> try (exfalso; omega; done)) | refine AW.cond _ rfl (fun h => ?_) (fun h => ?_) | refine Qf ?_ | refine Qg ?_ | refine Qh ?_ | refine Qi ?_ | refine Xa ?_ | refine Xb ?_ | refine Xc ?_ | refine Xd ?_ | refine Fc ?_)
      refine ⟨⟨j + 1, by omega⟩, ?_, by simp only; omega⟩
      simp only
      rw [hw2]
      (apply Le.headZ [_, _] rfl)
      all_goals (try dsimp only [srcs])
      (case' hfr | hob => (repeat' (first | refine La ?_ ?_ | exact Lc | refine Lo ?_ | refine ⟨⟨_, rfl, ?_⟩, ?_⟩ | refine ObA.box ?_ | refine ObA.frE ?_ | refine ObA.dataE ?_ | refine ARs.agg ?_ | refine ARs.tup ?_ | refine AR.b ?_ | refine AR.iE ?_ | refine AR.e ?_ | refine AR.clo' ARs.nil ?_)))
      all_goals (first | (rfl) | exact Ld)
    · obtain rfl : j = n := by omega
      rw [show iter (predF xs s.y) j v = z from hFd.zv]
      have hper := hFd.per
      have hLn := hFd.Ln
      repeat' (first | refine Qa ?_ | ((first | apply Ba | (apply Bb; (· rfl); (· rfl)) | (apply Bc; (· exact nxE)) | (apply Bd; (· rfl); (· rfl); (· exact nxE))); (· first | exact Ok.pe); (first | refine Na ?_ | refine Nb ?_)) | ((first | apply Ca | (apply Cb; (· exact nxE))); (· first | exact Ok.e0); (first | refine Nc ?_ | refine Nd ?_)) | refine Oa ?_ | refine Ob ?_ | ((first | refine Ga (fun h => ?_) (fun h => ?_) | refine AD.gsplit rfl rfl (fun h => ?_) (fun h => ?_)) <;> try (exfalso; omega; done)) | (first | refine AL.gsplitB rfl rfl (fun h => ?_) (fun h => ?_) | refine AD.gsplitB rfl rfl (fun h => ?_) (fun h => ?_)) | refine Fa ?_ | refine Qb ?_ | refine Qc ?_ | refine Qd ?_ | refine Fb ?_ | refine Qe ?_ | refine Wa ?_ | refine Wb ?_ | (refine AW.ite rfl (fun h => ?_) (fun h => ?_) <;> try (exfalso; omega; done)) | refine AW.cond _ rfl (fun h => ?_) (fun h => ?_) | refine Qf ?_ | refine Qg ?_ | refine Qh ?_ | refine Qi ?_ | refine Xa ?_ | refine Xb ?_ | refine Xc ?_ | refine Xd ?_ | refine Fc ?_)
      refine AW.loop (X := {m : Nat // m < L}) (fun m => ⟨[Oo, Oo, Bx 2 0, Oo, Oo, Oo, .own 1 ⟨3, []⟩ 0 j, I (z : Nat), Oo, Oo, Oo, .own 1 ⟨4, []⟩ 0 m.1, I (iter (predF xs s.y) m.1 z : Nat), Oo, Oo, Oo, Oo, Oo, Oo, Oo, Oo, Oo, Oo, Oo, Oo, Oo, Oo, Oo, Oo, Oo, Oo, Oo, Oo, Oo, Oo, Oo, Oo, Oo, Oo, Oo, Oo, Oo, Oo, Oo, Oo, Oo, Oo, Oo, Oo, Oo, Oo, Oo, Oo, Oo, Oo, Oo, Oo, Oo, Oo, Oo, Oo, Oo, Oo, Oo, Oo, Oo, Oo, Oo, Oo, Oo, Oo, Oo, Oo, Oo, Oo, Oo, Oo, Oo, Oo, Oo, Oo, Oo, Oo, Oo, Oo, Oo, Oo, Oo, Oo, Oo, Oo, Oo, Oo, Oo, Oo, Oo, Oo, Oo, Oo, Oo, Oo], heapL [(⟨0, []⟩, ⟨0, []⟩, ⟨2, [[I j, PL xs]]⟩), (⟨3, []⟩, ⟨3, []⟩, IO (rowF j fun v => (s.y v : Int))), (⟨4, []⟩, ⟨4, []⟩, IO (cN (backC s.y (predF xs s.y) z m.1)))], 900⟩) (fun m => L - m.1) ⟨0, hper.pos⟩ ?_ (fun m => ?_)
      ·
        refine (Le.nil 11 1 rfl).trans ?_
        (apply Le.headZ [_, _, _] rfl)
        all_goals (try dsimp only [srcs])
        (case' hfr | hob => (repeat' (first | refine La ?_ ?_ | exact Lc | refine Lo ?_ | refine ⟨⟨_, rfl, ?_⟩, ?_⟩ | refine ObA.box ?_ | refine ObA.frE ?_ | refine ObA.dataE ?_ | refine ARs.agg ?_ | refine ARs.tup ?_ | refine AR.b ?_ | refine AR.iE ?_ | refine AR.e ?_ | refine AR.clo' ARs.nil ?_)))
        all_goals (first | (rfl) | exact Ld)
      obtain ⟨m, hm⟩ := m
      simp only
      have hmn := hFd.zn m
      have hyl := (hFd.ok m).1
      have hY := rowI_at (n := j) (g := fun v => (s.y v : Int)) hmn
      have hrow := pl_row (n := 0) hyl
      have ho := (okPl_at hv _ hyl).1.1
      have hnx : (plA xs (s.y (iter (predF xs s.y) m z))).f = ((iter (predF xs s.y) (m + 1) z : Nat) : Int) := (Int.toNat_of_nonneg ho).symm
      rw [hnx] at hrow
      have hbl : (IR (cN (backC s.y (predF xs s.y) z m))).length = m := by simp [backC]
      have hbs : IR (cN (backC s.y (predF xs s.y) z (m + 1))) = IR (cN (backC s.y (predF xs s.y) z m)) ++ [[DI (s.y (iter (predF xs s.y) m z) : Nat)]] := by rw [backC_succ]; simp
      by_cases hend : m + 1 = L
      · have hz : iter (predF xs s.y) (m + 1) z = z := by rw [hend]; exact hper.back
        rw [hz] at hrow
        have hR := revI_ac (cN (backC s.y (predF xs s.y) z (m + 1))) (by simp [backC]; omega)
        have hrl : (cN (backC s.y (predF xs s.y) z (m + 1))).length = m + 1 := by simp [backC]
        have hrv : (cN (backC s.y (predF xs s.y) z (m + 1))).reverse = cN (backC s.y (predF xs s.y) z L).reverse := by rw [← hend]; simp
        rw [hrl, hrv] at hR
        unfold IO at hR
        rw [hbs] at hR
        have hfl : (backC s.y (predF xs s.y) z L).reverse.length = m + 1 := by rw [← hend]; simp [backC]
        rw [hfl]
        generalize (backC s.y (predF xs s.y) z L).reverse = res at *
        generalize hbc : backC s.y (predF xs s.y) z m = bc at *
        generalize iter (predF xs s.y) m z = w at *
        generalize s.y w = yw at *
        generalize plA xs yw = p at *
        obtain ⟨pf, pt, pd, pk⟩ := p
        simp only at hrow
        repeat' (first | refine Qa ?_ | ((first | apply Ba | (apply Bb; (· rfl); (· rfl)) | (apply Bc; (· exact nxE)) | (apply Bd; (· rfl); (· rfl); (· exact nxE))); (· first | exact Ok.ld1 rfl rfl rfl hY | exact Ok.append1 (row := [DI (yw : Nat)]) rfl rfl (by decide) rfl rfl hbl rfl rfl rfl (by rfl) (by omega) (by omega) | exact OpOk.callMg rfl rfl hR rfl (fun _ => by simp [Go.Proofs.Ytcjidnpkeliieaa.rn]) (.cons (.own _ _ _ _ rfl) .nil) | exact Ok.pe); (first | refine Na ?_ | refine Nb ?_)) | ((first | apply Ca | (apply Cb; (· exact nxE))); (· first | exact Ok.append1 (row := [DI (yw : Nat)]) rfl rfl (by decide) rfl rfl hbl rfl rfl rfl (by rfl) (by omega) (by omega) | exact OpOk.callMg rfl rfl hR rfl (fun _ => by simp [Go.Proofs.Ytcjidnpkeliieaa.rn]) (.cons (.own _ _ _ _ rfl) .nil) | exact Ok.e0); (first | refine Nc ?_ | refine Nd ?_)) | refine Oa ?_ | refine Ob ?_ | ((first | refine Ga (fun h => ?_) (fun h => ?_) | refine AD.gsplit rfl rfl (fun h => ?_) (fun h => ?_)) <;> try (exfalso; omega; done)) | (first | refine AL.gsplitB rfl rfl (fun h => ?_) (fun h => ?_) | refine AD.gsplitB rfl rfl (fun h => ?_) (fun h => ?_)) | refine Fa ?_ | refine Qb ?_ | refine Qc ?_ | refine Qd ?_ | refine Fb ?_ | refine Qe ?_ | refine Wa ?_ | refine Wb ?_ | (refine AW.ite rfl (fun h => ?_) (fun h => ?_) <;> try (exfalso; omega; done)) | refine AW.cond _ rfl (fun h => ?_) (fun h => ?_) | refine Qf ?_ | refine Qg ?_ | refine Qh ?_ | refine Qi ?_ | refine Xa ?_ | refine Xb ?_ | refine Xc ?_ | refine Xd ?_ | refine Fc ?_)
        refine Ya ?_
        (apply Le.head [(⟨0, []⟩, _, _)])
        (case' hfr | hob => (repeat' (first | refine La ?_ ?_ | exact Lc | refine Lo ?_ | refine ⟨⟨_, rfl, ?_⟩, ?_⟩ | refine ObA.box ?_ | refine ObA.frE ?_ | refine ObA.dataE ?_ | refine ARs.agg ?_ | refine ARs.tup ?_ | refine AR.b ?_ | refine AR.iE ?_ | refine AR.e ?_ | refine AR.clo' ARs.nil ?_)))
        all_goals (first | exact Ld | (rfl))
      · have hne := hper.least (m + 1) (by omega) (by omega)
        generalize hw2 : iter (predF xs s.y) (m + 1) z = w2 at *
        generalize hw1 : iter (predF xs s.y) m z = w at *
        generalize hyw : s.y w = yw at *
        generalize hbc : backC s.y (predF xs s.y) z m = bc at *
        generalize plA xs yw = p at *
        obtain ⟨pf, pt, pd, pk⟩ := p
        simp only at hrow
        repeat' (first | refine Qa ?_ | ((first | apply Ba | (apply Bb; (· rfl); (· rfl)) | (apply Bc; (· exact nxE)) | (apply Bd; (· rfl); (· rfl); (· exact nxE))); (· first | exact Ok.ld1 rfl rfl rfl hY | exact Ok.append1 (row := [DI (yw : Nat)]) rfl rfl (by decide) rfl rfl hbl rfl rfl rfl (by rfl) (by omega) (by omega) | exact Ok.pe); (first | refine Na ?_ | refine Nb ?_)) | ((first | apply Ca | (apply Cb; (· exact nxE))); (· first | exact Ok.append1 (row := [DI (yw : Nat)]) rfl rfl (by decide) rfl rfl hbl rfl rfl rfl (by rfl) (by omega) (by omega) | exact Ok.e0); (first | refine Nc ?_ | refine Nd ?_)) | refine Oa ?_ | refine Ob ?_ | ((first | refine Ga (fun h => ?_) (fun h => ?_) | refine AD.gsplit rfl rfl (fun h => ?_) (fun h => ?_)) <;> try (exfalso; omega; done)) | (first | refine AL.gsplitB rfl rfl (fun h => ?_) (fun h => ?_) | refine AD.gsplitB rfl rfl (fun h => ?_) (fun h => ?_)) | refine Fa ?_ | refine Qb ?_ | refine Qc ?_ | refine Qd ?_ | refine Fb ?_ | refine Qe ?_ | refine Wa ?_ | refine Wb ?_ | (refine AW.ite rfl (fun h => ?_) (fun h => ?_) <;> try (exfalso; omega; done)) | refine AW.cond _ rfl (fun h => ?_) (fun h => ?_) | refine Qf ?_ | refine Qg ?_ | refine Qh ?_ | refine Qi ?_ | refine Xa ?_ | refine Xb ?_ | refine Xc ?_ | refine Xd ?_ | refine Fc ?_)
        refine ⟨⟨m + 1, by omega⟩, ?_, by simp only; omega⟩
        simp only
        rw [hw2]
        (apply Le.headZ [_, _, _] rfl)
        all_goals (try dsimp only [srcs])
        (case' hfr | hob => (repeat' (first | refine La ?_ ?_ | exact Lc | refine Lo ?_ | refine ⟨⟨_, rfl, ?_⟩, ?_⟩ | refine ObA.box ?_ | refine ObA.frE ?_ | refine ObA.dataE ?_ | refine ARs.agg ?_ | refine ARs.tup ?_ | refine AR.b ?_ | refine AR.iE ?_ | refine AR.e ?_ | refine AR.clo' ARs.nil ?_)))
        all_goals (first | ((first | (rw [hbs]; done) | rfl)) | exact Ld)
end Go.Proofs.Ytcjidnpkeliieaa
