/-
  Walks in the abstract reading, part 5.
-/
import Derived.Test.YtcjidnpkeliieaaKU4
import Derived.Test.YtcjidnpkeliieaaKA2
import Derived.Test.YtcjidnpkeliieaaKU1
section
namespace Go.Proofs.Ytcjidnpkeliieaa
set_option linter.unusedSimpArgs false
set_option linter.unusedVariables false
open Go Go.RowKit
attribute [local irreducible] AL AD AW OpOk Le AC thenQ blockQ EndQ

theorem indexInt_ac (xs : List Int) (y : Int) (hn : xs.length ≤ 100000000) : AC Try.prog 228 [IL xs, I y] H0 (I (idxOf (fun x => decide (x = y)) xs 0)) H0 := by
  refine AC.of_body 0 Try.func228 rfl (fun l h => absurd rfl h) (fun C hC => ?_)
  have hD : ∀ l, ¬ C.D0 l := fun l h => (hC l).1 h rfl
  simp only [startFr, Try.ntmps228, List.length_cons, List.length_nil, Nat.reduceAdd, Nat.reduceSub, List.replicate_succ, List.replicate_zero, List.cons_append, List.nil_append]
  repeat' (first | refine Qa ?_ | ((first | apply Ba | (apply Bb; (· rfl); (· rfl)) | (apply Bc; (· exact nxE)) | (apply Bd; (· rfl); (· rfl); (· exact nxE))); (· first | exact Ok.pe); (first | refine Na ?_ | refine Nb ?_)) | ((first | apply Ca | (apply Cb; (· exact nxE))); (· first | exact Ok.e0); (first | refine Nc ?_ | refine Nd ?_)) | refine Oa ?_ | refine Ob ?_ | ((first | refine Ga (fun h => ?_) (fun h => ?_) | refine AD.gsplit rfl rfl (fun h => ?_) (fun h => ?_)) <;> try (exfalso; omega; done)) | (first | refine AL.gsplitB rfl rfl (fun h => ?_) (fun h => ?_) | refine AD.gsplitB rfl rfl (fun h => ?_) (fun h => ?_)) | refine Fa ?_ | refine Qb ?_ | refine Qc ?_ | refine Qd ?_ | refine Fb ?_ | refine Qe ?_ | refine Wa ?_ | refine Wb ?_ | (refine AW.ite rfl (fun h => ?_) (fun h => ?_) <;> try (exfalso; omega; done)) | refine AW.cond _ rfl (fun h => ?_) (fun h => ?_) | refine Qf ?_ | refine Qg ?_ | refine Qh ?_ | refine Qi ?_ | refine Xa ?_ | refine Xb ?_ | refine Xc ?_ | refine Xd ?_ | refine Fc ?_)
  refine AW.loop (X := {k : Nat // k ≤ xs.length ∧ idxOf (fun x => decide (x = y)) xs 0 = idxOf (fun x => decide (x = y)) (xs.drop k) k}) (fun k => ⟨[IL xs, I y, Oo, Oo, Oo, Oo, Oo, I xs.length, I (k.1 : Nat), Oo, Oo, Oo, Oo, Oo, Oo, Oo, Oo, Oo, Oo], heapL [], 900⟩) (fun k => xs.length - k.1) ⟨0, Nat.zero_le _, by simp⟩ ?_ (fun k => ?_)
  ·
    (apply Le.headZ [] rfl)
    all_goals (try dsimp only [srcs])
    (case' hfr | hob => (repeat' (first | refine La ?_ ?_ | exact Lc | refine Lo ?_ | refine ⟨⟨_, rfl, ?_⟩, ?_⟩ | refine ObA.box ?_ | refine ObA.frE ?_ | refine ObA.dataE ?_ | refine ARs.agg ?_ | refine ARs.tup ?_ | refine AR.b ?_ | refine AR.iE ?_ | refine AR.e ?_ | refine AR.clo' ARs.nil ?_)))
    all_goals (first | (rfl) | exact Ld)
  obtain ⟨k, hk, hall⟩ := k
  simp only
  by_cases hlt : k < xs.length
  · obtain ⟨x, hx⟩ : ∃ x, xs[k]? = some x := ⟨xs[k], by simp⟩
    have hrow := IR_get hx
    have hst := idxOf_at (f := fun x => decide (x = y)) hx k
    rw [← hall] at hst
    repeat' (first | refine Qa ?_ | ((first | apply Ba | (apply Bb; (· rfl); (· rfl)) | (apply Bc; (· exact nxE)) | (apply Bd; (· rfl); (· rfl); (· exact nxE))); (· first | exact Ok.pe); (first | refine Na ?_ | refine Nb ?_)) | ((first | apply Ca | (apply Cb; (· exact nxE))); (· first | exact Ok.e0); (first | refine Nc ?_ | refine Nd ?_)) | refine Oa ?_ | refine Ob ?_ | ((first | refine Ga (fun h => ?_) (fun h => ?_) | refine AD.gsplit rfl rfl (fun h => ?_) (fun h => ?_)) <;> try (exfalso; omega; done)) | (first | refine AL.gsplitB rfl rfl (fun h => ?_) (fun h => ?_) | refine AD.gsplitB rfl rfl (fun h => ?_) (fun h => ?_)) | refine Fa ?_ | refine Qb ?_ | refine Qc ?_ | refine Qd ?_ | refine Fb ?_ | refine Qe ?_ | refine Wa ?_ | refine Wb ?_ | (refine AW.ite rfl (fun h => ?_) (fun h => ?_) <;> try (exfalso; omega; done)) | refine AW.cond _ rfl (fun h => ?_) (fun h => ?_) | refine Qf ?_ | refine Qg ?_ | refine Qh ?_ | refine Qi ?_ | refine Xa ?_ | refine Xb ?_ | refine Xc ?_ | refine Xd ?_ | refine Fc ?_)
    ·
      refine Ya ?_
      (apply Le.headZ (hs := []) [] rfl)
      all_goals (try dsimp only [srcs])
      (case' hfr => (repeat' (first | refine La ?_ ?_ | exact Lc | refine Lo ?_ | refine ⟨⟨_, rfl, ?_⟩, ?_⟩ | refine ObA.box ?_ | refine ObA.frE ?_ | refine ObA.dataE ?_ | refine ARs.agg ?_ | refine ARs.tup ?_ | refine AR.b ?_ | refine AR.iE ?_ | refine AR.e ?_ | refine AR.clo' ARs.nil ?_)))
      all_goals (first | exact Ld | exact trivial | ((rw [hst, if_pos (by simpa using h.symm)]; done)))
    · refine ⟨⟨k + 1, by omega, by rw [hst, if_neg (by simpa using fun e => h e.symm)]⟩, ?_, by simp only; omega⟩
      (apply Le.headZ [] rfl)
      all_goals (try dsimp only [srcs])
      (case' hfr | hob => (repeat' (first | refine La ?_ ?_ | exact Lc | refine Lo ?_ | refine ⟨⟨_, rfl, ?_⟩, ?_⟩ | refine ObA.box ?_ | refine ObA.frE ?_ | refine ObA.dataE ?_ | refine ARs.agg ?_ | refine ARs.tup ?_ | refine AR.b ?_ | refine AR.iE ?_ | refine AR.e ?_ | refine AR.clo' ARs.nil ?_)))
      all_goals (first | (rfl) | exact Ld)
  ·
    repeat' (first | refine Qa ?_ | ((first | apply Ba | (apply Bb; (· rfl); (· rfl)) | (apply Bc; (· exact nxE)) | (apply Bd; (· rfl); (· rfl); (· exact nxE))); (· first | exact Ok.pe); (first | refine Na ?_ | refine Nb ?_)) | ((first | apply Ca | (apply Cb; (· exact nxE))); (· first | exact Ok.e0); (first | refine Nc ?_ | refine Nd ?_)) | refine Oa ?_ | refine Ob ?_ | ((first | refine Ga (fun h => ?_) (fun h => ?_) | refine AD.gsplit rfl rfl (fun h => ?_) (fun h => ?_)) <;> try (exfalso; omega; done)) | (first | refine AL.gsplitB rfl rfl (fun h => ?_) (fun h => ?_) | refine AD.gsplitB rfl rfl (fun h => ?_) (fun h => ?_)) | refine Fa ?_ | refine Qb ?_ | refine Qc ?_ | refine Qd ?_ | refine Fb ?_ | refine Qe ?_ | refine Wa ?_ | refine Wb ?_ | (refine AW.ite rfl (fun h => ?_) (fun h => ?_) <;> try (exfalso; omega; done)) | refine AW.cond _ rfl (fun h => ?_) (fun h => ?_) | refine Qf ?_ | refine Qg ?_ | refine Qh ?_ | refine Qi ?_ | refine Xa ?_ | refine Xb ?_ | refine Xc ?_ | refine Xd ?_ | refine Fc ?_)
    refine Ya ?_
    (apply Le.headZ (hs := []) [] rfl)
    all_goals (try dsimp only [srcs])
    (case' hfr => (repeat' (first | refine La ?_ ?_ | exact Lc | refine Lo ?_ | refine ⟨⟨_, rfl, ?_⟩, ?_⟩ | refine ObA.box ?_ | refine ObA.frE ?_ | refine ObA.dataE ?_ | refine ARs.agg ?_ | refine ARs.tup ?_ | refine AR.b ?_ | refine AR.iE ?_ | refine AR.e ?_ | refine AR.clo' ARs.nil ?_)))
    all_goals (first | exact Ld | exact trivial | ((rw [hall, List.drop_of_length_le (by omega)]; rfl)))
theorem containsInt_ac (xs : List Int) (y : Int) (hn : xs.length ≤ 100000000) : AC Try.prog 223 [IL xs, I y] H0 (Bo (xs.any fun x => decide (x = y))) H0 := by
  refine AC.of_body 0 Try.func223 rfl (fun l h => absurd rfl h) (fun C hC => ?_)
  have hD : ∀ l, ¬ C.D0 l := fun l h => (hC l).1 h rfl
  simp only [startFr, Try.ntmps223, List.length_cons, List.length_nil, Nat.reduceAdd, Nat.reduceSub, List.replicate_succ, List.replicate_zero, List.cons_append, List.nil_append]
  repeat' (first | refine Qa ?_ | ((first | apply Ba | (apply Bb; (· rfl); (· rfl)) | (apply Bc; (· exact nxE)) | (apply Bd; (· rfl); (· rfl); (· exact nxE))); (· first | exact Kz rfl rfl (indexInt_ac xs y hn) (Ad (Ad An)) | exact Ok.pe); (first | refine Na ?_ | refine Nb ?_)) | ((first | apply Ca | (apply Cb; (· exact nxE))); (· first | exact Ok.e0); (first | refine Nc ?_ | refine Nd ?_)) | refine Oa ?_ | refine Ob ?_ | ((first | refine Ga (fun h => ?_) (fun h => ?_) | refine AD.gsplit rfl rfl (fun h => ?_) (fun h => ?_)) <;> try (exfalso; omega; done)) | (first | refine AL.gsplitB rfl rfl (fun h => ?_) (fun h => ?_) | refine AD.gsplitB rfl rfl (fun h => ?_) (fun h => ?_)) | refine Fa ?_ | refine Qb ?_ | refine Qc ?_ | refine Qd ?_ | refine Fb ?_ | refine Qe ?_ | refine Wa ?_ | refine Wb ?_ | (refine AW.ite rfl (fun h => ?_) (fun h => ?_) <;> try (exfalso; omega; done)) | refine AW.cond _ rfl (fun h => ?_) (fun h => ?_) | refine Qf ?_ | refine Qg ?_ | refine Qh ?_ | refine Qi ?_ | refine Xa ?_ | refine Xb ?_ | refine Xc ?_ | refine Xd ?_ | refine Fc ?_)
  all_goals
    refine Ya ?_
    (apply Le.headZ (hs := []) [] rfl)
    all_goals (try dsimp only [srcs])
    (case' hfr => (repeat' (first | refine La ?_ ?_ | exact Lc | refine Lo ?_ | refine ⟨⟨_, rfl, ?_⟩, ?_⟩ | refine ObA.box ?_ | refine ObA.frE ?_ | refine ObA.dataE ?_ | refine ARs.agg ?_ | refine ARs.tup ?_ | refine AR.b ?_ | refine AR.iE ?_ | refine AR.e ?_ | refine AR.clo' ARs.nil ?_)))
    all_goals (first | exact Ld | exact trivial | ((rw [idxOf_any]; done)))
/-- Does event e wait for a place's event that is not yet there? -/
def waitP (ord : List Nat) (e : Nat) (p : Pl) : Bool := decide (p.t = e) && (decide (p.k = 0) && !(ord.contains p.f.toNat))
theorem cN_any {ord : List Nat} {f : Nat} : (cN ord).any (fun x => decide (x = (f : Int))) = ord.contains f := by
  rw [any_cN]; simp
abbrev hsF (e : Nat) (ord : List Nat) : HL := [(⟨1, []⟩, ⟨1, []⟩, ⟨1, [[.own 1 ⟨2, []⟩ 0 ord.length]]⟩), (⟨2, []⟩, ⟨2, []⟩, IO (cN ord)), (⟨3, []⟩, ⟨3, []⟩, ⟨1, [[I e]]⟩)]
theorem hsF_ok {e : Nat} {ord : List Nat} : HOk (hsF e ord) := by
  intro p hp r hr c hc
  simp only [List.mem_cons, List.not_mem_nil, or_false] at hp
  rcases hp with rfl | rfl | rfl
  · simp at hr; subst hr; simp at hc; subst hc; exact .own _ _ _ _ (by simp)
  · obtain ⟨a, _, rfl⟩ := List.mem_map.1 hr
    obtain ⟨d, _, rfl⟩ := List.mem_map.1 hc
    exact .d _
  · simp at hr; subst hr; simp at hc; subst hc; exact .d _
set_option maxHeartbeats 1000000 in
theorem firingFn_ac (n : Nat) (p : Pl) (e : Nat) (ord : List Nat) (hv : okPl n p) (ho : ord.length ≤ 1000000) : AC Try.prog 224 [p.av, Bx 1 3, Bx 1 1] (heapL (hsF e ord)) (Bo (waitP ord e p)) (heapL (hsF e ord)) := by
  obtain ⟨⟨h1, h2⟩, _⟩ := hv
  obtain ⟨pf, pt, pd, pk⟩ := p
  obtain ⟨f, rfl⟩ : ∃ f : Nat, pf = f := ⟨pf.toNat, by simp at h1; omega⟩
  have hC1 := containsInt_ac (cN ord) f (by simp; omega)
  rw [cN_any] at hC1
  have hlen : (IR (cN ord)).length = ord.length := by simp
  refine AC.of_body 4 Try.func224 rfl (fun l h => by simp [heapL, upd] at h; (repeat' split at h) <;> simp_all) (fun C hC => ?_)
  simp only [startFr, Try.ntmps224, List.length_cons, List.length_nil, Nat.reduceAdd, Nat.reduceSub, List.replicate_succ, List.replicate_zero, List.cons_append, List.nil_append]
  have hD : ∀ l, C.D0 l → l = ⟨1, []⟩ ∨ l = ⟨2, []⟩ ∨ l = ⟨3, []⟩ := fun l h => by have := (hC l).1 h; simp [heapL, upd] at this; (repeat' split at this) <;> simp_all
  repeat' (first | refine Qa ?_ | ((first | apply Ba | (apply Bb; (· rfl); (· rfl)) | (apply Bc; (· exact nxE)) | (apply Bd; (· rfl); (· rfl); (· exact nxE))); (· first | exact Ez rfl rfl (hC1) (Sw (Sd Sn)) | exact Ok.pe); (first | refine Na ?_ | refine Nb ?_)) | ((first | apply Ca | (apply Cb; (· exact nxE))); (· first | exact Ok.e0); (first | refine Nc ?_ | refine Nd ?_)) | refine Oa ?_ | refine Ob ?_ | ((first | refine Ga (fun h => ?_) (fun h => ?_) | refine AD.gsplit rfl rfl (fun h => ?_) (fun h => ?_)) <;> try (exfalso; omega; done)) | (first | refine AL.gsplitB rfl rfl (fun h => ?_) (fun h => ?_) | refine AD.gsplitB rfl rfl (fun h => ?_) (fun h => ?_)) | refine Fa ?_ | refine Qb ?_ | refine Qc ?_ | refine Qd ?_ | refine Fb ?_ | refine Qe ?_ | refine Wa ?_ | refine Wb ?_ | (refine AW.ite rfl (fun h => ?_) (fun h => ?_) <;> try (exfalso; omega; done)) | refine AW.cond _ rfl (fun h => ?_) (fun h => ?_) | refine Qf ?_ | refine Qg ?_ | refine Qh ?_ | refine Qi ?_ | refine Xa ?_ | refine Xb ?_ | refine Xc ?_ | refine Xd ?_ | refine Fc ?_)
  all_goals
    (refine end1p (by first | exact .inl rfl | exact .inr rfl) rfl (by first | exact rT rfl | exact rCA rfl rfl rfl rfl (by simp) | exact rCC rfl rfl rfl rfl rfl) ?_ (Le.head ([(⟨1, []⟩, ⟨1, []⟩, ⟨1, [[.own 1 ⟨2, []⟩ 0 ord.length]]⟩), (⟨2, []⟩, ⟨2, []⟩, IO (cN ord)), (⟨3, []⟩, ⟨3, []⟩, ⟨1, [[I e]]⟩)]) (by first | exact fun l h => absurd h (hD l) | (intro l h; rcases hD l h with rfl; simp [tauL]) | (intro l h; rcases hD l h with rfl | rfl <;> simp [tauL]; done) | (intro l h; rcases hD l h with rfl | rfl | rfl <;> simp [tauL])) ?_ ?_ (by simp) (by simp) (by simp [AllP]) (n' := 1000)); (· (simp_all [waitP]; done))) <;> (repeat' (first | exact trivial | exact ARs.nil | refine ARs.cons ?_ ?_ | exact AR.dead _ | exact AR.dd _ | exact AR.i (by (try dsimp only); omega) | exact AR.ptr _ _ _ _ (by simp [heapL, upd]) | exact AR.own _ _ _ _ (by simp [heapL, upd]) | refine AR.ownE _ _ _ ?_ (by simp [heapL, upd]) | refine ⟨⟨_, rfl, ?_⟩, ?_⟩ | exact ObA.data | refine ObA.box ?_ | refine ObA.frE ?_ | refine ObA.dataE ?_ | refine ARs.agg ?_ | refine ARs.tup ?_ | exact AR.clo' ARs.nil ARs.nil | exact AR.clo' ARs.nil (hca _ _)))
def wPl (xs : List Pl) (e u : Nat) : Bool := xs.any fun p => decide (p.t = e) && (decide (p.k = 0) && decide (p.f = u))
def readyB (xs : List Pl) (ord : List Nat) (e : Nat) : Bool := !ord.contains e && !(xs.any (waitP ord e))
theorem ready_eq {n : Nat} {xs : List Pl} (hv : ∀ p ∈ xs, okPl n p) {ord : List Nat} {e : Nat} : (!ord.contains e && (List.range n).all fun u => !wPl xs e u || ord.contains u) = readyB xs ord e := by
  unfold readyB
  congr 1
  rw [Bool.eq_iff_iff]
  simp only [List.all_eq_true, List.mem_range, Bool.or_eq_true, Bool.not_eq_true', wPl, List.any_eq_false, Bool.and_eq_true, decide_eq_true_eq, not_and, waitP, Bool.not_eq_false, Bool.not_eq_true]
  constructor
  · intro h p hp ht hk
    obtain ⟨⟨h1, h2⟩, _⟩ := hv p hp
    rcases h p.f.toNat (by omega) with h | h
    · exact absurd (show p.f = (p.f.toNat : Int) by omega) (h p hp ht hk)
    · exact h
  · intro h u hu
    by_cases hc : ord.contains u = true
    · exact .inr hc
    · refine .inl fun p hp ht hk hf => hc ?_
      have := h p hp ht hk
      rwa [hf, Int.toNat_natCast] at this
theorem nextE_ready {n : Nat} {xs : List Pl} (hv : ∀ p ∈ xs, okPl n p) {ord : List Nat} : nextE (wPl xs) n ord = (List.range n).find? (readyB xs ord) := by
  unfold nextE
  congr 1
  funext e
  exact ready_eq hv
theorem find_none {f : Nat → Bool} {n : Nat} (h : ∀ j, j < n → f j = false) : (List.range n).find? f = none := by
  rw [List.find?_eq_none]; intro x hx; rw [h x (List.mem_range.1 hx)]; simp
theorem find_some {f : Nat → Bool} {n e : Nat} (he : e < n) (hf : f e = true) (h : ∀ j, j < e → f j = false) : (List.range n).find? f = some e := by
  rw [List.find?_eq_some_iff_append]
  refine ⟨hf, List.range e, List.range' (e + 1) (n - (e + 1)), ?_, fun a ha => by rw [h a (List.mem_range.1 ha)]; rfl⟩
  rw [List.range_eq_range', List.range_eq_range', ← List.range'_succ, show n - (e + 1) + 1 = n - e by omega]
  have := List.range'_append (s := 0) (m := e) (n := n - e) (step := 1)
  simp only [Nat.zero_add, Nat.one_mul] at this
  rw [this, show e + (n - e) = n by omega]
def ordR (n : Nat) (xs : List Pl) : Option (List Nat) := ordF (wPl xs) n n []
theorem cN_snoc {ord : List Nat} {e : Nat} : IR (cN (ord ++ [e])) = IR (cN ord) ++ [[DI e]] := by simp
set_option maxHeartbeats 2000000 in
theorem firingOrder_ac (n : Nat) (xs : List Pl) (hn : n ≤ 10) (hx : xs.length ≤ 100000000) (hv : ∀ p ∈ xs, okPl n p) : AC Try.prog 192 [grD n xs] H0 (.tup [IL (cN ((ordR n xs).getD [])), Bo (ordR n xs).isSome]) H0 := by
  refine AC.of_body 0 Try.func192 rfl (fun l h => absurd rfl h) (fun C hC => ?_)
  have hD : ∀ l, ¬ C.D0 l := fun l h => (hC l).1 h rfl
  simp only [startFr, Try.ntmps192, List.length_cons, List.length_nil, Nat.reduceAdd, Nat.reduceSub, List.replicate_succ, List.replicate_zero, List.cons_append, List.nil_append]
  repeat' (first | refine Qa ?_ | ((first | apply Ba | (apply Bb; (· rfl); (· rfl)) | (apply Bc; (· exact nxE)) | (apply Bd; (· rfl); (· rfl); (· exact nxE))); (· first | exact Ok.pe); (first | refine Na ?_ | refine Nb ?_)) | ((first | apply Ca | (apply Cb; (· exact nxE))); (· first | exact Ok.e0); (first | refine Nc ?_ | refine Nd ?_)) | refine Oa ?_ | refine Ob ?_ | ((first | refine Ga (fun h => ?_) (fun h => ?_) | refine AD.gsplit rfl rfl (fun h => ?_) (fun h => ?_)) <;> try (exfalso; omega; done)) | (first | refine AL.gsplitB rfl rfl (fun h => ?_) (fun h => ?_) | refine AD.gsplitB rfl rfl (fun h => ?_) (fun h => ?_)) | refine Fa ?_ | refine Qb ?_ | refine Qc ?_ | refine Qd ?_ | refine Fb ?_ | refine Qe ?_ | refine Wa ?_ | refine Wb ?_ | (refine AW.ite rfl (fun h => ?_) (fun h => ?_) <;> try (exfalso; omega; done)) | refine AW.cond _ rfl (fun h => ?_) (fun h => ?_) | refine Qf ?_ | refine Qg ?_ | refine Qh ?_ | refine Qi ?_ | refine Xa ?_ | refine Xb ?_ | refine Xc ?_ | refine Xd ?_ | refine Fc ?_)
  refine AW.loop (X := {ord : List Nat // ord.length ≤ n ∧ ordR n xs = ordF (wPl xs) n (n - ord.length) ord}) (fun ord => ⟨[Oo, Bx 2 0, Oo, Oo, Bx 1 1, Oo, Oo, Oo, Oo, Oo, Oo, Oo, Oo, Oo, Oo, Oo, Oo, Oo, Oo, Oo, Oo, Oo, Oo, Oo, Oo, Oo, Oo, Oo, Oo, Oo, Oo, Oo, Oo, Oo, Oo, Oo, Oo, Oo, Oo, Oo, Oo], heapL [(⟨0, []⟩, ⟨0, []⟩, ⟨2, [[I n, PL xs]]⟩), (⟨1, []⟩, ⟨1, []⟩, ⟨1, [[.own 1 ⟨2, []⟩ 0 ord.1.length]]⟩), (⟨2, []⟩, ⟨2, []⟩, IO (cN ord.1))], 900⟩) (fun ord => n - ord.1.length) ⟨[], Nat.zero_le _, rfl⟩ ?_ (fun ord => ?_)
  ·
    refine (Le.nilC 1 ⟨3, []⟩ rfl).trans ?_
    (apply Le.headZ [_, _, _] rfl)
    all_goals (try dsimp only [srcs])
    (case' hfr | hob => (repeat' (first | refine La ?_ ?_ | exact Lc | refine Lo ?_ | refine ⟨⟨_, rfl, ?_⟩, ?_⟩ | refine ObA.box ?_ | refine ObA.frE ?_ | refine ObA.dataE ?_ | refine ARs.agg ?_ | refine ARs.tup ?_ | refine AR.b ?_ | refine AR.iE ?_ | refine AR.e ?_ | refine AR.clo' ARs.nil ?_)))
    all_goals (first | (rfl) | exact Ld)
  obtain ⟨ord, ho1, ho2⟩ := ord
  simp only
  have hol : (IR (cN ord)).length = ord.length := by simp
  by_cases hlt : ord.length < n
  · rw [show n - ord.length = (n - (ord.length + 1)) + 1 by omega, ordF, nextE_ready hv] at ho2
    repeat' (first | refine Qa ?_ | ((first | apply Ba | (apply Bb; (· rfl); (· rfl)) | (apply Bc; (· exact nxE)) | (apply Bd; (· rfl); (· rfl); (· exact nxE))); (· first | exact Ok.pe); (first | refine Na ?_ | refine Nb ?_)) | ((first | apply Ca | (apply Cb; (· exact nxE))); (· first | exact Ok.e0); (first | refine Nc ?_ | refine Nd ?_)) | refine Oa ?_ | refine Ob ?_ | ((first | refine Ga (fun h => ?_) (fun h => ?_) | refine AD.gsplit rfl rfl (fun h => ?_) (fun h => ?_)) <;> try (exfalso; omega; done)) | (first | refine AL.gsplitB rfl rfl (fun h => ?_) (fun h => ?_) | refine AD.gsplitB rfl rfl (fun h => ?_) (fun h => ?_)) | refine Fa ?_ | refine Qb ?_ | refine Qc ?_ | refine Qd ?_ | refine Fb ?_ | refine Qe ?_ | refine Wa ?_ | refine Wb ?_ | (refine AW.ite rfl (fun h => ?_) (fun h => ?_) <;> try (exfalso; omega; done)) | refine AW.cond _ rfl (fun h => ?_) (fun h => ?_) | refine Qf ?_ | refine Qg ?_ | refine Qh ?_ | refine Qi ?_ | refine Xa ?_ | refine Xb ?_ | refine Xc ?_ | refine Xd ?_ | refine Fc ?_)
    refine AW.loop (X := {s : Nat × Int // s.1 ≤ n ∧ ((s.2 = -1 ∧ ∀ j, j < s.1 → readyB xs ord j = false) ∨ (∃ e : Nat, s.2 = e ∧ s.1 = e + 1 ∧ readyB xs ord e = true ∧ ∀ j, j < e → readyB xs ord j = false))}) (fun s => ⟨[Oo, Bx 2 0, Oo, Oo, Bx 1 1, I s.1.2, Bx 1 3, Oo, Oo, Oo, Oo, Oo, Oo, Oo, Oo, Oo, Oo, Oo, Oo, Oo, Oo, Oo, Oo, Oo, Oo, Oo, Oo, Oo, Oo, Oo, Oo, Oo, Oo, Oo, Oo, Oo, Oo, Oo, Oo, Oo, Oo], heapL [(⟨0, []⟩, ⟨0, []⟩, ⟨2, [[I n, PL xs]]⟩), (⟨1, []⟩, ⟨1, []⟩, ⟨1, [[.own 1 ⟨2, []⟩ 0 ord.length]]⟩), (⟨2, []⟩, ⟨2, []⟩, IO (cN ord)), (⟨3, []⟩, ⟨3, []⟩, ⟨1, [[I (s.1.1 : Nat)]]⟩)], 900⟩) (fun s => n - s.1.1) ⟨(0, -1), Nat.zero_le _, .inl ⟨rfl, fun j hj => absurd hj (Nat.not_lt_zero j)⟩⟩ ?_ (fun s => ?_)
    ·
      (apply Le.headZ [_, _, _, _] rfl)
      all_goals (try dsimp only [srcs])
      (case' hfr | hob => (repeat' (first | refine La ?_ ?_ | exact Lc | refine Lo ?_ | refine ⟨⟨_, rfl, ?_⟩, ?_⟩ | refine ObA.box ?_ | refine ObA.frE ?_ | refine ObA.dataE ?_ | refine ARs.agg ?_ | refine ARs.tup ?_ | refine AR.b ?_ | refine AR.iE ?_ | refine AR.e ?_ | refine AR.clo' ARs.nil ?_)))
      all_goals (first | (rfl) | exact Ld)
    obtain ⟨⟨k, nx⟩, hk, hs⟩ := s
    simp only at hk hs ⊢
    rcases hs with ⟨rfl, hs⟩ | ⟨e, rfl, rfl, he, hs⟩
    · by_cases hlt2 : k < n
      ·
        have hC1 := containsInt_ac (cN ord) k (by simp; omega)
        rw [cN_any] at hC1
        have hc := containsFuncPl_ac xs hx 224 [Bx 1 3, Bx 1 1] (hsF k ord) (by simp) (by simp) hsF_ok
          (by intro c hc; simp at hc; rcases hc with rfl | rfl <;> exact .ptr _ _ _ _ (by simp)) 4 (by simp) (waitP ord k) (fun p hp => firingFn_ac n p k ord (hv p hp) (by omega))
        have hrd : readyB xs ord k = (!ord.contains k && !(xs.any (waitP ord k))) := rfl
        repeat' (first | refine Qa ?_ | ((first | apply Ba | (apply Bb; (· rfl); (· rfl)) | (apply Bc; (· exact nxE)) | (apply Bd; (· rfl); (· rfl); (· exact nxE))); (· first | exact Ez rfl rfl (hC1) (Sw (Sd Sn)) | exact OpOk.callS (hsF k ord) rfl rfl hc (by simp [heapL, upd, upds, W.app]) hsF_ok (.d _) (.cons (.dd _) (.cons (AR.clo' .nil (.cons (AR.ptr _ _ _ _ (by simp)) (.cons (AR.ptr _ _ _ _ (by simp)) .nil))) .nil)) | exact Ok.pe); (first | refine Na ?_ | refine Nb ?_)) | ((first | apply Ca | (apply Cb; (· exact nxE))); (· first | exact Ok.e0); (first | refine Nc ?_ | refine Nd ?_)) | refine Oa ?_ | refine Ob ?_ | ((first | refine Ga (fun h => ?_) (fun h => ?_) | refine AD.gsplit rfl rfl (fun h => ?_) (fun h => ?_)) <;> try (exfalso; omega; done)) | (first | refine AL.gsplitB rfl rfl (fun h => ?_) (fun h => ?_) | refine AD.gsplitB rfl rfl (fun h => ?_) (fun h => ?_)) | refine Fa ?_ | refine Qb ?_ | refine Qc ?_ | refine Qd ?_ | refine Fb ?_ | refine Qe ?_ | refine Wa ?_ | refine Wb ?_ | (refine AW.ite rfl (fun h => ?_) (fun h => ?_) <;> try (exfalso; omega; done)) | refine AW.cond _ rfl (fun h => ?_) (fun h => ?_) | refine Qf ?_ | refine Qg ?_ | refine Qh ?_ | refine Qi ?_ | refine Xa ?_ | refine Xb ?_ | refine Xc ?_ | refine Xd ?_ | refine Fc ?_)
        · refine ⟨⟨(k + 1, -1), by omega, .inl ⟨rfl, fun j hj => ?_⟩⟩, ?_, by simp only; omega⟩
          · rcases Nat.lt_succ_iff_lt_or_eq.1 hj with hj | rfl
            · exact hs j hj
            · rw [hrd, h]; rfl
          ·
            (apply Le.headZ [_, _, _, _] rfl)
            all_goals (try dsimp only [srcs])
            (case' hfr | hob => (repeat' (first | refine La ?_ ?_ | exact Lc | refine Lo ?_ | refine ⟨⟨_, rfl, ?_⟩, ?_⟩ | refine ObA.box ?_ | refine ObA.frE ?_ | refine ObA.dataE ?_ | refine ARs.agg ?_ | refine ARs.tup ?_ | refine AR.b ?_ | refine AR.iE ?_ | refine AR.e ?_ | refine AR.clo' ARs.nil ?_)))
            all_goals (first | (rfl) | exact Ld)
        · refine ⟨⟨(k + 1, k), by omega, .inr ⟨k, rfl, rfl, by rw [hrd, h, ‹ord.contains k = false›]; rfl, hs⟩⟩, ?_, by simp only; omega⟩
          (apply Le.headZ [_, _, _, _] rfl)
          all_goals (try dsimp only [srcs])
          (case' hfr | hob => (repeat' (first | refine La ?_ ?_ | exact Lc | refine Lo ?_ | refine ⟨⟨_, rfl, ?_⟩, ?_⟩ | refine ObA.box ?_ | refine ObA.frE ?_ | refine ObA.dataE ?_ | refine ARs.agg ?_ | refine ARs.tup ?_ | refine AR.b ?_ | refine AR.iE ?_ | refine AR.e ?_ | refine AR.clo' ARs.nil ?_)))
          all_goals (first | (rfl) | exact Ld)
        · refine ⟨⟨(k + 1, -1), by omega, .inl ⟨rfl, fun j hj => ?_⟩⟩, ?_, by simp only; omega⟩
          · rcases Nat.lt_succ_iff_lt_or_eq.1 hj with hj | rfl
            · exact hs j hj
            · rw [hrd, h, Bool.and_false]
          ·
            (apply Le.headZ [_, _, _, _] rfl)
            all_goals (try dsimp only [srcs])
            (case' hfr | hob => (repeat' (first | refine La ?_ ?_ | exact Lc | refine Lo ?_ | refine ⟨⟨_, rfl, ?_⟩, ?_⟩ | refine ObA.box ?_ | refine ObA.frE ?_ | refine ObA.dataE ?_ | refine ARs.agg ?_ | refine ARs.tup ?_ | refine AR.b ?_ | refine AR.iE ?_ | refine AR.e ?_ | refine AR.clo' ARs.nil ?_)))
            all_goals (first | (rfl) | exact Ld)
      ·
        have hnone : ordR n xs = none := by rw [ho2, find_none (fun j hj => hs j (by omega))]
        simp only [hnone, Option.getD_none, Option.isSome_none]
        repeat' (first | refine Qa ?_ | ((first | apply Ba | (apply Bb; (· rfl); (· rfl)) | (apply Bc; (· exact nxE)) | (apply Bd; (· rfl); (· rfl); (· exact nxE))); (· first | exact Ok.pe); (first | refine Na ?_ | refine Nb ?_)) | ((first | apply Ca | (apply Cb; (· exact nxE))); (· first | exact Ok.e0); (first | refine Nc ?_ | refine Nd ?_)) | refine Oa ?_ | refine Ob ?_ | ((first | refine Ga (fun h => ?_) (fun h => ?_) | refine AD.gsplit rfl rfl (fun h => ?_) (fun h => ?_)) <;> try (exfalso; omega; done)) | (first | refine AL.gsplitB rfl rfl (fun h => ?_) (fun h => ?_) | refine AD.gsplitB rfl rfl (fun h => ?_) (fun h => ?_)) | refine Fa ?_ | refine Qb ?_ | refine Qc ?_ | refine Qd ?_ | refine Fb ?_ | refine Qe ?_ | refine Wa ?_ | refine Wb ?_ | (refine AW.ite rfl (fun h => ?_) (fun h => ?_) <;> try (exfalso; omega; done)) | refine AW.cond _ rfl (fun h => ?_) (fun h => ?_) | refine Qf ?_ | refine Qg ?_ | refine Qh ?_ | refine Qi ?_ | refine Xa ?_ | refine Xb ?_ | refine Xc ?_ | refine Xd ?_ | refine Fc ?_)
        refine Yb ?_
        (apply Le.headZ (hs := []) [] rfl)
        all_goals (try dsimp only [srcs])
        (case' hfr => (repeat' (first | refine La ?_ ?_ | exact Lc | refine Lo ?_ | refine ⟨⟨_, rfl, ?_⟩, ?_⟩ | refine ObA.box ?_ | refine ObA.frE ?_ | refine ObA.dataE ?_ | refine ARs.agg ?_ | refine ARs.tup ?_ | refine AR.b ?_ | refine AR.iE ?_ | refine AR.e ?_ | refine AR.clo' ARs.nil ?_)))
        all_goals (first | exact Ld | exact trivial | (rfl))
    ·
      rw [find_some (by omega) he hs] at ho2
      repeat' (first | refine Qa ?_ | ((first | apply Ba | (apply Bb; (· rfl); (· rfl)) | (apply Bc; (· exact nxE)) | (apply Bd; (· rfl); (· rfl); (· exact nxE))); (· first | exact Ok.append1 (row := [DI e]) rfl rfl (by decide) rfl rfl hol rfl rfl rfl (by rfl) (by omega) (by omega) | exact Ok.pe); (first | refine Na ?_ | refine Nb ?_)) | ((first | apply Ca | (apply Cb; (· exact nxE))); (· first | exact Ok.append1 (row := [DI e]) rfl rfl (by decide) rfl rfl hol rfl rfl rfl (by rfl) (by omega) (by omega) | exact Ok.e0); (first | refine Nc ?_ | refine Nd ?_)) | refine Oa ?_ | refine Ob ?_ | ((first | refine Ga (fun h => ?_) (fun h => ?_) | refine AD.gsplit rfl rfl (fun h => ?_) (fun h => ?_)) <;> try (exfalso; omega; done)) | (first | refine AL.gsplitB rfl rfl (fun h => ?_) (fun h => ?_) | refine AD.gsplitB rfl rfl (fun h => ?_) (fun h => ?_)) | refine Fa ?_ | refine Qb ?_ | refine Qc ?_ | refine Qd ?_ | refine Fb ?_ | refine Qe ?_ | refine Wa ?_ | refine Wb ?_ | (refine AW.ite rfl (fun h => ?_) (fun h => ?_) <;> try (exfalso; omega; done)) | refine AW.cond _ rfl (fun h => ?_) (fun h => ?_) | refine Qf ?_ | refine Qg ?_ | refine Qh ?_ | refine Qi ?_ | refine Xa ?_ | refine Xb ?_ | refine Xc ?_ | refine Xd ?_ | refine Fc ?_)
      all_goals
        refine ⟨⟨ord ++ [e], by simp; omega, by simpa using ho2⟩, ?_, by simp; omega⟩
        (apply Le.headZ [_, _, _] rfl)
        all_goals (try dsimp only [srcs])
        (case' hfr | hob => (repeat' (first | refine La ?_ ?_ | exact Lc | refine Lo ?_ | refine ⟨⟨_, rfl, ?_⟩, ?_⟩ | refine ObA.box ?_ | refine ObA.frE ?_ | refine ObA.dataE ?_ | refine ARs.agg ?_ | refine ARs.tup ?_ | refine AR.b ?_ | refine AR.iE ?_ | refine AR.e ?_ | refine AR.clo' ARs.nil ?_)))
        all_goals (first | ((first | (rw [cN_snoc]; done) | (simp; done))) | exact Ld)
  ·
    have hsome : ordR n xs = some ord := by rw [ho2, show n - ord.length = 0 by omega, ordF]
    simp only [hsome, Option.getD_some, Option.isSome_some]
    repeat' (first | refine Qa ?_ | ((first | apply Ba | (apply Bb; (· rfl); (· rfl)) | (apply Bc; (· exact nxE)) | (apply Bd; (· rfl); (· rfl); (· exact nxE))); (· first | exact Ok.pe); (first | refine Na ?_ | refine Nb ?_)) | ((first | apply Ca | (apply Cb; (· exact nxE))); (· first | exact Ok.e0); (first | refine Nc ?_ | refine Nd ?_)) | refine Oa ?_ | refine Ob ?_ | ((first | refine Ga (fun h => ?_) (fun h => ?_) | refine AD.gsplit rfl rfl (fun h => ?_) (fun h => ?_)) <;> try (exfalso; omega; done)) | (first | refine AL.gsplitB rfl rfl (fun h => ?_) (fun h => ?_) | refine AD.gsplitB rfl rfl (fun h => ?_) (fun h => ?_)) | refine Fa ?_ | refine Qb ?_ | refine Qc ?_ | refine Qd ?_ | refine Fb ?_ | refine Qe ?_ | refine Wa ?_ | refine Wb ?_ | (refine AW.ite rfl (fun h => ?_) (fun h => ?_) <;> try (exfalso; omega; done)) | refine AW.cond _ rfl (fun h => ?_) (fun h => ?_) | refine Qf ?_ | refine Qg ?_ | refine Qh ?_ | refine Qi ?_ | refine Xa ?_ | refine Xb ?_ | refine Xc ?_ | refine Xd ?_ | refine Fc ?_)
    refine Yb ?_
    (apply Le.headZ (hs := []) [] rfl)
    all_goals (try dsimp only [srcs])
    (case' hfr => (repeat' (first | refine La ?_ ?_ | exact Lc | refine Lo ?_ | refine ⟨⟨_, rfl, ?_⟩, ?_⟩ | refine ObA.box ?_ | refine ObA.frE ?_ | refine ObA.dataE ?_ | refine ARs.agg ?_ | refine ARs.tup ?_ | refine AR.b ?_ | refine AR.iE ?_ | refine AR.e ?_ | refine AR.clo' ARs.nil ?_)))
    all_goals (first | exact Ld | exact trivial | (rfl))
end Go.Proofs.Ytcjidnpkeliieaa
end

section
namespace Go.Proofs.Ytcjidnpkeliieaa
set_option linter.unusedSimpArgs false
set_option linter.unusedVariables false
open Go Go.RowKit
attribute [local irreducible] AL AD AW OpOk Le AC thenQ blockQ EndQ

theorem free_entN {n : Nat} : ∀ {xs : List Pl} {t : List (List Int)}, Sq t n → (∀ p ∈ xs, okPl n p) → ∀ {a b : Nat}, a < n → b < n → entN (xs.foldl freeS t) a b = if wPl xs a b = true then 0 else entN t a b
  | [], t, hs, _, a, b, _, _ => by simp [wPl]
  | p :: r, t, hs, hv, a, b, ha, hb => by
    obtain ⟨⟨h1, h2⟩, ⟨h3, h4⟩, _⟩ := hv p (by simp)
    rw [List.foldl_cons, free_entN (freeS_sq hs) (fun q hq => hv q (by simp [hq])) ha hb]
    have hw : wPl (p :: r) a b = ((decide (p.t = a) && (decide (p.k = 0) && decide (p.f = b))) || wPl r a b) := by simp [wPl]
    rw [hw]
    cases hr : wPl r a b with
    | true => simp
    | false =>
      rw [Bool.or_false, if_neg (by simp)]
      unfold freeS
      by_cases hk : p.k = 0
      · rw [if_pos hk, entN_setT hs (by omega) (by omega)]
        by_cases e : a = p.t.toNat ∧ b = p.f.toNat
        · rw [if_pos e, if_pos (by simp [hk]; omega)]
        · rw [if_neg e, if_neg (by simp [hk]; omega)]
      · rw [if_neg hk, if_neg (by simp [hk])]
/-- A graph is live by the reference exactly if the program finds a firing order. -/
theorem live_ord {n : Nat} {xs : List Pl} (hv : ∀ p ∈ xs, okPl n p) : deadC n xs = [] ↔ ordR n xs ≠ none := by
  let a : Nat → Nat → Int := fun u v => if u < n ∧ v < n then entN (freeT n xs) u v else BOT
  have he : ∀ {u v : Nat}, u < n → v < n → entN (freeT n xs) u v = if wPl xs u v = true then 0 else BOT := fun hu hv' => by
    unfold freeT
    rw [free_entN (Sq.bot n) hv hu hv', entN_bot hu hv']
  have ha : ∀ {u v : Nat}, u < n → v < n → (entN (freeT n xs) u v ≠ BOT ↔ wPl xs u v = true) := fun hu hv' => by
    rw [he hu hv']
    split
    · rename_i h; exact ⟨fun _ => h, fun _ => by decide⟩
    · rename_i h; exact ⟨fun e => absurd rfl e, fun e => absurd e h⟩
  unfold deadC ordR
  refine live_iff (a := entN (freeT n xs)) (fun u v => ?_) (fun e u he' hu => ha he' hu)
  have := free_ent (xs := xs) (Sq.bot n) (bot_big n) hv
  by_cases hu : u < n
  · by_cases hv2 : v < n
    · rw [he hu hv2]; split
      · exact .inr (Int.le_refl _)
      · exact .inl rfl
    · right
      unfold entN
      have hs := (free_sq (xs := xs) (Sq.bot n))
      have h1 : u < (freeT n xs).length := by show u < (xs.foldl freeS (botT n n)).length; rw [hs.l]; exact hu
      rw [List.getElem?_eq_getElem h1, Option.getD_some, List.getElem?_eq_none (by rw [hs.r _ (List.getElem_mem h1)]; omega)]
      exact Int.le_refl _
  · right
    unfold entN
    have hs := (free_sq (xs := xs) (Sq.bot n))
    rw [show (freeT n xs)[u]? = none from List.getElem?_eq_none (by show (xs.foldl freeS (botT n n)).length ≤ u; rw [hs.l]; omega)]
    exact Int.le_refl _
theorem liveB_ord {n : Nat} {xs : List Pl} (hv : ∀ p ∈ xs, okPl n p) : liveB n xs = (ordR n xs).isSome := by
  unfold liveB
  rw [Int.toNat_natCast, Bool.eq_iff_iff, decide_eq_true_eq, live_ord hv]
  cases ordR n xs <;> simp
theorem isLive_ac (n : Nat) (xs : List Pl) (hn : n ≤ 10) (hx : xs.length ≤ 100000000) (hv : ∀ p ∈ xs, okPl n p) : AC Try.prog 136 [grD n xs] H0 (Bo (liveB n xs)) H0 := by
  rw [liveB_ord hv]
  refine AC.of_body 0 Try.func136 rfl (fun l h => absurd rfl h) (fun C hC => ?_)
  have hD : ∀ l, ¬ C.D0 l := fun l h => (hC l).1 h rfl
  simp only [startFr, Try.ntmps136, List.length_cons, List.length_nil, Nat.reduceAdd, Nat.reduceSub, List.replicate_succ, List.replicate_zero, List.cons_append, List.nil_append]
  repeat' (first | refine Qa ?_ | ((first | apply Ba | (apply Bb; (· rfl); (· rfl)) | (apply Bc; (· exact nxE)) | (apply Bd; (· rfl); (· rfl); (· exact nxE))); (· first | exact Kz rfl rfl (firingOrder_ac n xs hn hx hv) (Aa (Ad (Ad An)) An) | exact Ok.pe); (first | refine Na ?_ | refine Nb ?_)) | ((first | apply Ca | (apply Cb; (· exact nxE))); (· first | exact Ok.e0); (first | refine Nc ?_ | refine Nd ?_)) | refine Oa ?_ | refine Ob ?_ | ((first | refine Ga (fun h => ?_) (fun h => ?_) | refine AD.gsplit rfl rfl (fun h => ?_) (fun h => ?_)) <;> try (exfalso; omega; done)) | (first | refine AL.gsplitB rfl rfl (fun h => ?_) (fun h => ?_) | refine AD.gsplitB rfl rfl (fun h => ?_) (fun h => ?_)) | refine Fa ?_ | refine Qb ?_ | refine Qc ?_ | refine Qd ?_ | refine Fb ?_ | refine Qe ?_ | refine Wa ?_ | refine Wb ?_ | (refine AW.ite rfl (fun h => ?_) (fun h => ?_) <;> try (exfalso; omega; done)) | refine AW.cond _ rfl (fun h => ?_) (fun h => ?_) | refine Qf ?_ | refine Qg ?_ | refine Qh ?_ | refine Qi ?_ | refine Xa ?_ | refine Xb ?_ | refine Xc ?_ | refine Xd ?_ | refine Fc ?_)
  all_goals
    refine Ya ?_
    (apply Le.headZ (hs := []) [] rfl)
    all_goals (try dsimp only [srcs])
    (case' hfr => (repeat' (first | refine La ?_ ?_ | exact Lc | refine Lo ?_ | refine ⟨⟨_, rfl, ?_⟩, ?_⟩ | refine ObA.box ?_ | refine ObA.frE ?_ | refine ObA.dataE ?_ | refine ARs.agg ?_ | refine ARs.tup ?_ | refine AR.b ?_ | refine AR.iE ?_ | refine AR.e ?_ | refine AR.clo' ARs.nil ?_)))
    all_goals (first | exact Ld | exact trivial | (rfl))
end Go.Proofs.Ytcjidnpkeliieaa
end

section
namespace Go.Proofs.Ytcjidnpkeliieaa
set_option linter.unusedSimpArgs false
set_option linter.unusedVariables false
open Go Go.RowKit
attribute [local irreducible] AL AD AW OpOk Le AC thenQ blockQ EndQ

/-! ### Tables told by a function -/
def rowF (n : Nat) (g : Nat → Int) : List Int := (List.range n).map g
def tabF (m n : Nat) (f : Nat → Nat → Int) : List (List Int) := (List.range m).map fun i => rowF n (f i)
theorem rowF_len {n : Nat} {g : Nat → Int} : (rowF n g).length = n := by simp [rowF]
theorem tabF_len {m n : Nat} {f : Nat → Nat → Int} : (tabF m n f).length = m := by simp [tabF]
theorem rowF_get {n j : Nat} {g : Nat → Int} (h : j < n) : (rowF n g)[j]? = some (g j) := by simp [rowF, h]
theorem tabF_get {m n i : Nat} {f : Nat → Nat → Int} (h : i < m) : (tabF m n f)[i]? = some (rowF n (f i)) := by simp [tabF, h]
theorem TRF_get {m n i : Nat} {f : Nat → Nat → Int} (h : i < m) : (TR (tabF m n f))[i]? = some (IR (rowF n (f i))) := by simp [tabF_get h]
theorem IRF_get {n j : Nat} {g : Nat → Int} (h : j < n) : (IR (rowF n g))[j]? = some [DI (g j)] := by simp [rowF_get h]
theorem tabF_rc {m n : Nat} {f : Nat → Nat → Int} : Rc (tabF m n f) m n := ⟨tabF_len, fun r hr => by obtain ⟨i, _, rfl⟩ := List.mem_map.1 hr; exact rowF_len⟩
theorem tabF_ent {m n i j : Nat} {f : Nat → Nat → Int} (hi : i < m) (hj : j < n) : entN (tabF m n f) i j = f i j := by
  unfold entN; rw [tabF_get hi, Option.getD_some, rowF_get hj, Option.getD_some]
theorem rowF_congr {n : Nat} {f g : Nat → Int} (h : ∀ j, j < n → f j = g j) : rowF n f = rowF n g := List.map_congr_left fun j hj => h j (List.mem_range.1 hj)
theorem tabF_congr {m n : Nat} {f g : Nat → Nat → Int} (h : ∀ i j, i < m → j < n → f i j = g i j) : tabF m n f = tabF m n g := List.map_congr_left fun i hi => rowF_congr fun j hj => h i j (List.mem_range.1 hi) hj
theorem rowF_self {r : List Int} {n : Nat} (h : r.length = n) : rowF n (fun j => (r[j]?).getD 0) = r := by
  subst h
  apply List.ext_getElem?
  intro j
  by_cases hj : j < r.length
  · rw [rowF_get hj]; simp [hj]
  · rw [List.getElem?_eq_none (by rw [rowF_len]; omega), List.getElem?_eq_none (by omega)]
theorem tabF_self {t : List (List Int)} {m n : Nat} (h : Rc t m n) : tabF m n (entN t) = t := by
  apply List.ext_getElem?
  intro i
  by_cases hi : i < m
  · have h1 : i < t.length := by rw [h.l]; exact hi
    rw [tabF_get hi, List.getElem?_eq_getElem h1]
    congr 1
    have := rowF_self (h.r _ (List.getElem_mem h1))
    rw [← this]
    refine rowF_congr fun j hj => ?_
    unfold entN
    rw [List.getElem?_eq_getElem h1, Option.getD_some]
  · rw [List.getElem?_eq_none (by rw [tabF_len]; omega), List.getElem?_eq_none (by rw [h.l]; omega)]
theorem rowF_set {n j : Nat} {g : Nat → Int} {v : Int} : (rowF n g).set j v = rowF n (fun b => if b = j then v else g b) := by
  apply List.ext_getElem?
  intro b
  rw [List.getElem?_set]
  by_cases hb : b < n
  · rw [rowF_get hb, rowF_get hb, rowF_len]
    by_cases e : j = b
    · subst e; rw [if_pos rfl, if_pos hb, if_pos rfl]
    · rw [if_neg e, if_neg (fun h => e h.symm)]
  · rw [List.getElem?_eq_none (l := rowF n g) (by rw [rowF_len]; omega), List.getElem?_eq_none (l := rowF n _) (by rw [rowF_len]; omega), rowF_len]
    split
    · rename_i e; subst e; rw [if_neg hb]
    · rfl
/-- One cell of a table written. -/
theorem tabF_set {m n i j : Nat} {f f' : Nat → Nat → Int} {v : Int} (h : ∀ a b, a < m → b < n → f' a b = if a = i ∧ b = j then v else f a b) : TR (tabF m n f') = (TR (tabF m n f)).set i (IR ((rowF n (f i)).set j v)) := by
  have e : tabF m n f' = (tabF m n f).set i ((rowF n (f i)).set j v) := by
    apply List.ext_getElem?
    intro a
    rw [List.getElem?_set]
    by_cases ha : a < m
    · rw [tabF_get ha]
      by_cases e : i = a
      · subst e
        rw [if_pos rfl, if_pos (by rw [tabF_len]; exact ha), rowF_set]
        congr 1
        exact rowF_congr fun b hb => by rw [h i b ha hb]; simp
      · rw [if_neg e, tabF_get ha]
        congr 1
        exact rowF_congr fun b hb => by rw [h a b ha hb, if_neg (fun h => e h.1.symm)]
    · rw [List.getElem?_eq_none (by rw [tabF_len]; omega)]
      split
      · rw [if_neg (by rw [tabF_len]; omega)]
      · rw [List.getElem?_eq_none (by rw [tabF_len]; omega)]
  rw [e]; simp [List.map_set]
theorem TR_take {t : List (List Int)} {k : Nat} {r : List Int} (h : t[k]? = some r) : TR (t.take (k + 1)) = TR (t.take k) ++ [IR r] := by
  obtain ⟨hk, rfl⟩ := List.getElem?_eq_some_iff.1 h
  rw [List.take_succ_eq_append_getElem hk]; exact List.map_append
end Go.Proofs.Ytcjidnpkeliieaa
end

section
namespace Go.Proofs.Ytcjidnpkeliieaa
set_option linter.unusedSimpArgs false
set_option linter.unusedVariables false
open Go Go.RowKit
attribute [local irreducible] AL AD AW OpOk Le AC thenQ blockQ EndQ

/-- A table of which the first rows, and the first cells of the next one, have been written. -/
def mixF (f g : Nat → Nat → Int) (K J : Nat) : Nat → Nat → Int := fun a b => if a < K ∨ (a = K ∧ b < J) then f a b else g a b
theorem mixF_0 {f g : Nat → Nat → Int} {m n : Nat} : tabF m n (mixF f g 0 0) = tabF m n g := tabF_congr fun i j _ _ => by simp [mixF]
theorem mixF_row {f g : Nat → Nat → Int} {m n K : Nat} : tabF m n (mixF f g K n) = tabF m n (mixF f g (K + 1) 0) := tabF_congr fun i j _ hj => by
  unfold mixF
  by_cases h : i < K ∨ (i = K ∧ j < n)
  · rw [if_pos h, if_pos (by omega)]
  · rw [if_neg h, if_neg (by omega)]
theorem mixF_all {f g : Nat → Nat → Int} {m n : Nat} : tabF m n (mixF f g m 0) = tabF m n f := tabF_congr fun i j hi _ => by simp [mixF, hi]
theorem mixF_set {f g : Nat → Nat → Int} {K J a b : Nat} : mixF f g K (J + 1) a b = if a = K ∧ b = J then f K J else mixF f g K J a b := by
  unfold mixF
  by_cases h : a = K ∧ b = J
  · obtain ⟨rfl, rfl⟩ := h; simp
  · rw [if_neg h]
    by_cases h2 : a < K ∨ (a = K ∧ b < J)
    · rw [if_pos h2, if_pos (by omega)]
    · rw [if_neg h2, if_neg (by omega)]
end Go.Proofs.Ytcjidnpkeliieaa
end

section
namespace Go.Proofs.Ytcjidnpkeliieaa
set_option linter.unusedSimpArgs false
set_option linter.unusedVariables false
open Go Go.RowKit
attribute [local irreducible] AL AD AW OpOk Le AC thenQ blockQ EndQ

def okP (r e : Nat) (p : Pl) : Prop := p.t = e ∧ p.k + 1 ≤ r
instance {r e : Nat} {p : Pl} : Decidable (okP r e p) := by unfold okP; exact inferInstance
/-! ### Causes -/
/-- Does a cause end at this firing? -/
def stopC (t : List (List Int)) (xs : List Pl) (r e : Nat) : Prop := (alA t r e xs xs.length).2 < 0 ∨ (alA t r e xs xs.length).1 < entN t (r - 1) e
instance {t : List (List Int)} {xs : List Pl} {r e : Nat} : Decidable (stopC t xs r e) := by unfold stopC; exact inferInstance
theorem ord_idx {n : Nat} {xs : List Pl} {ord : List Nat} (h : ordR n xs = some ord) : ord.length = n ∧ (∀ e u, e < n → u < n → wPl xs e u = true → ord.idxOf u < ord.idxOf e) ∧ ∀ e, e < n → ord.idxOf e < n := by
  obtain ⟨h1, h2⟩ := ordF_some OrdOk.nil h
  have hl : ord.length = n := by simpa using h2
  have hm : ∀ e, e < n → e ∈ ord := fun e he => nodup_full h1.nd h1.lt hl he
  refine ⟨hl, fun e u he hu hw => ?_, fun e he => by have := List.idxOf_lt_length_iff.2 (hm e he); omega⟩
  have hi := List.idxOf_lt_length_iff.2 (hm e he)
  have hg : ord.getD (ord.idxOf e) 0 = e := by rw [List.getD_eq_getElem?_getD, List.getElem?_eq_getElem hi, Option.getD_some]; exact List.getElem_idxOf hi
  have hu2 := h1.wait _ hi u hu (by rw [hg]; exact hw)
  obtain ⟨j, hj, hj2⟩ := List.getElem_of_mem hu2
  simp only [List.length_take] at hj
  rw [List.getElem_take] at hj2
  have h3 : ord.idxOf u ≤ j := by
    refine Nat.le_of_not_lt fun h => ?_
    have h4 := List.not_of_lt_findIdx (p := fun x => x == u) (xs := ord) (i := j) h
    rw [hj2] at h4; simp at h4
  omega
end Go.Proofs.Ytcjidnpkeliieaa
end

section
namespace Go.Proofs.Ytcjidnpkeliieaa
set_option linter.unusedSimpArgs false
set_option linter.unusedVariables false
open Go Go.RowKit
attribute [local irreducible] AL AD AW OpOk Le AC thenQ blockQ EndQ

/-! ### Fractions -/
theorem l01Divisor_ac (a b : Nat) (ha : a ≤ 1000000000000000000) (hb : b ≤ 1000000000000000000) : AC Try.prog 144 [I a, I b] H0 (I (Nat.gcd a b : Nat)) H0 := by
  refine AC.of_body 0 Try.func144 rfl (fun l h => absurd rfl h) (fun C hC => ?_)
  have hD : ∀ l, ¬ C.D0 l := fun l h => (hC l).1 h rfl
  simp only [startFr, Try.ntmps144, List.length_cons, List.length_nil, Nat.reduceAdd, Nat.reduceSub, List.replicate_succ, List.replicate_zero, List.cons_append, List.nil_append]
  repeat' (first | refine Qa ?_ | ((first | apply Ba | (apply Bb; (· rfl); (· rfl)) | (apply Bc; (· exact nxE)) | (apply Bd; (· rfl); (· rfl); (· exact nxE))); (· first | exact Ok.pe); (first | refine Na ?_ | refine Nb ?_)) | ((first | apply Ca | (apply Cb; (· exact nxE))); (· first | exact Ok.e0); (first | refine Nc ?_ | refine Nd ?_)) | refine Oa ?_ | refine Ob ?_ | ((first | refine Ga (fun h => ?_) (fun h => ?_) | refine AD.gsplit rfl rfl (fun h => ?_) (fun h => ?_)) <;> try (exfalso; omega; done)) | (first | refine AL.gsplitB rfl rfl (fun h => ?_) (fun h => ?_) | refine AD.gsplitB rfl rfl (fun h => ?_) (fun h => ?_)) | refine Fa ?_ | refine Qb ?_ | refine Qc ?_ | refine Qd ?_ | refine Fb ?_ | refine Qe ?_ | refine Wa ?_ | refine Wb ?_ | (refine AW.ite rfl (fun h => ?_) (fun h => ?_) <;> try (exfalso; omega; done)) | refine AW.cond _ rfl (fun h => ?_) (fun h => ?_) | refine Qf ?_ | refine Qg ?_ | refine Qh ?_ | refine Qi ?_ | refine Xa ?_ | refine Xb ?_ | refine Xc ?_ | refine Xd ?_ | refine Fc ?_)
  refine AW.loop (X := {p : Nat × Nat // Nat.gcd p.1 p.2 = Nat.gcd a b ∧ p.1 ≤ 1000000000000000000 ∧ p.2 ≤ 1000000000000000000}) (fun p => ⟨[I (p.1.1 : Nat), I (p.1.2 : Nat), Oo, Oo, Oo, Oo, Oo, Oo, Oo, Oo, Oo, Oo, Oo, Oo, Oo, Oo, Oo, Oo, Oo, Oo], heapL [], 900⟩) (fun p => p.1.2) ⟨(a, b), rfl, ha, hb⟩ ?_ (fun p => ?_)
  ·
    (apply Le.headZ [] rfl)
    all_goals (try dsimp only [srcs])
    (case' hfr | hob => (repeat' (first | refine La ?_ ?_ | exact Lc | refine Lo ?_ | refine ⟨⟨_, rfl, ?_⟩, ?_⟩ | refine ObA.box ?_ | refine ObA.frE ?_ | refine ObA.dataE ?_ | refine ARs.agg ?_ | refine ARs.tup ?_ | refine AR.b ?_ | refine AR.iE ?_ | refine AR.e ?_ | refine AR.clo' ARs.nil ?_)))
    all_goals (first | (rfl) | exact Ld)
  obtain ⟨⟨x, y⟩, hg, hx, hy⟩ := p
  simp only at hg hx hy ⊢
  by_cases h0 : 0 < y
  ·
    repeat' (first | refine Qa ?_ | ((first | apply Ba | (apply Bb; (· rfl); (· rfl)) | (apply Bc; (· exact nxE)) | (apply Bd; (· rfl); (· rfl); (· exact nxE))); (· first | exact Ok.rem rfl rfl rfl (by omega) | exact Ok.pe); (first | refine Na ?_ | refine Nb ?_)) | ((first | apply Ca | (apply Cb; (· exact nxE))); (· first | exact Ok.e0); (first | refine Nc ?_ | refine Nd ?_)) | refine Oa ?_ | refine Ob ?_ | ((first | refine Ga (fun h => ?_) (fun h => ?_) | refine AD.gsplit rfl rfl (fun h => ?_) (fun h => ?_)) <;> try (exfalso; omega; done)) | (first | refine AL.gsplitB rfl rfl (fun h => ?_) (fun h => ?_) | refine AD.gsplitB rfl rfl (fun h => ?_) (fun h => ?_)) | refine Fa ?_ | refine Qb ?_ | refine Qc ?_ | refine Qd ?_ | refine Fb ?_ | refine Qe ?_ | refine Wa ?_ | refine Wb ?_ | (refine AW.ite rfl (fun h => ?_) (fun h => ?_) <;> try (exfalso; omega; done)) | refine AW.cond _ rfl (fun h => ?_) (fun h => ?_) | refine Qf ?_ | refine Qg ?_ | refine Qh ?_ | refine Qi ?_ | refine Xa ?_ | refine Xb ?_ | refine Xc ?_ | refine Xd ?_ | refine Fc ?_)
    refine ⟨⟨(y, x % y), by rw [← hg, Nat.gcd_comm y (x % y), ← Nat.gcd_rec, Nat.gcd_comm], hy, by have := Nat.mod_lt x h0; simp only; omega⟩, ?_, by simp only; exact Nat.mod_lt x h0⟩
    (apply Le.headZ [] rfl)
    all_goals (try dsimp only [srcs])
    (case' hfr | hob => (repeat' (first | refine La ?_ ?_ | exact Lc | refine Lo ?_ | refine ⟨⟨_, rfl, ?_⟩, ?_⟩ | refine ObA.box ?_ | refine ObA.frE ?_ | refine ObA.dataE ?_ | refine ARs.agg ?_ | refine ARs.tup ?_ | refine AR.b ?_ | refine AR.iE ?_ | refine AR.e ?_ | refine AR.clo' ARs.nil ?_)))
    all_goals (first | (rfl) | exact Ld)
  ·
    obtain rfl : y = 0 := by omega
    rw [Nat.gcd_zero_right] at hg
    subst hg
    repeat' (first | refine Qa ?_ | ((first | apply Ba | (apply Bb; (· rfl); (· rfl)) | (apply Bc; (· exact nxE)) | (apply Bd; (· rfl); (· rfl); (· exact nxE))); (· first | exact Ok.pe); (first | refine Na ?_ | refine Nb ?_)) | ((first | apply Ca | (apply Cb; (· exact nxE))); (· first | exact Ok.e0); (first | refine Nc ?_ | refine Nd ?_)) | refine Oa ?_ | refine Ob ?_ | ((first | refine Ga (fun h => ?_) (fun h => ?_) | refine AD.gsplit rfl rfl (fun h => ?_) (fun h => ?_)) <;> try (exfalso; omega; done)) | (first | refine AL.gsplitB rfl rfl (fun h => ?_) (fun h => ?_) | refine AD.gsplitB rfl rfl (fun h => ?_) (fun h => ?_)) | refine Fa ?_ | refine Qb ?_ | refine Qc ?_ | refine Qd ?_ | refine Fb ?_ | refine Qe ?_ | refine Wa ?_ | refine Wb ?_ | (refine AW.ite rfl (fun h => ?_) (fun h => ?_) <;> try (exfalso; omega; done)) | refine AW.cond _ rfl (fun h => ?_) (fun h => ?_) | refine Qf ?_ | refine Qg ?_ | refine Qh ?_ | refine Qi ?_ | refine Xa ?_ | refine Xb ?_ | refine Xc ?_ | refine Xd ?_ | refine Fc ?_)
    refine Ya ?_
    (apply Le.headZ (hs := []) [] rfl)
    all_goals (try dsimp only [srcs])
    (case' hfr => (repeat' (first | refine La ?_ ?_ | exact Lc | refine Lo ?_ | refine ⟨⟨_, rfl, ?_⟩, ?_⟩ | refine ObA.box ?_ | refine ObA.frE ?_ | refine ObA.dataE ?_ | refine ARs.agg ?_ | refine ARs.tup ?_ | refine AR.b ?_ | refine AR.iE ?_ | refine AR.e ?_ | refine AR.clo' ARs.nil ?_)))
    all_goals (first | exact Ld | exact trivial | (rfl))
theorem redR_div {d m : Int} (hd : 0 ≤ d) (hm : 0 < m) : d.tdiv ((Nat.gcd d.toNat m.toNat : Nat) : Int) = (redR d m).1 ∧ m.tdiv ((Nat.gcd d.toNat m.toNat : Nat) : Int) = (redR d m).2 ∧ 0 < ((Nat.gcd d.toNat m.toNat : Nat) : Int) := by
  have e : Nat.gcd d.toNat m.toNat = Int.gcd d m := by
    unfold Int.gcd
    congr 1 <;> omega
  rw [e]
  refine ⟨Int.tdiv_eq_ediv_of_nonneg hd, Int.tdiv_eq_ediv_of_nonneg (Int.le_of_lt hm), (redR_ok (d := d) hm).2.2.2.2⟩
theorem l01Ratio_ac (d m : Int) (hd : 0 ≤ d ∧ d ≤ 1000000000000000) (hm : 0 < m ∧ m ≤ 1000000000000000) : AC Try.prog 74 [I d, I m] H0 (.agg [I (redR d m).1, I (redR d m).2]) H0 := by
  obtain ⟨e1, e2, e3⟩ := redR_div hd.1 hm.1
  have hG := l01Divisor_ac d.toNat m.toNat (by omega) (by omega)
  rw [Int.toNat_of_nonneg hd.1, Int.toNat_of_nonneg (Int.le_of_lt hm.1)] at hG
  rw [← e1, ← e2]
  generalize ((Nat.gcd d.toNat m.toNat : Nat) : Int) = g at *
  refine AC.of_body 0 Try.func74 rfl (fun l h => absurd rfl h) (fun C hC => ?_)
  have hD : ∀ l, ¬ C.D0 l := fun l h => (hC l).1 h rfl
  simp only [startFr, Try.ntmps74, List.length_cons, List.length_nil, Nat.reduceAdd, Nat.reduceSub, List.replicate_succ, List.replicate_zero, List.cons_append, List.nil_append]
  repeat' (first | refine Qa ?_ | ((first | apply Ba | (apply Bb; (· rfl); (· rfl)) | (apply Bc; (· exact nxE)) | (apply Bd; (· rfl); (· rfl); (· exact nxE))); (· first | exact Kz rfl rfl (hG) (Ad (Ad An)) | exact Ok.quo rfl rfl rfl (by omega) (by omega) (by omega) | exact Ok.pe); (first | refine Na ?_ | refine Nb ?_)) | ((first | apply Ca | (apply Cb; (· exact nxE))); (· first | exact Ok.e0); (first | refine Nc ?_ | refine Nd ?_)) | refine Oa ?_ | refine Ob ?_ | ((first | refine Ga (fun h => ?_) (fun h => ?_) | refine AD.gsplit rfl rfl (fun h => ?_) (fun h => ?_)) <;> try (exfalso; omega; done)) | (first | refine AL.gsplitB rfl rfl (fun h => ?_) (fun h => ?_) | refine AD.gsplitB rfl rfl (fun h => ?_) (fun h => ?_)) | refine Fa ?_ | refine Qb ?_ | refine Qc ?_ | refine Qd ?_ | refine Fb ?_ | refine Qe ?_ | refine Wa ?_ | refine Wb ?_ | (refine AW.ite rfl (fun h => ?_) (fun h => ?_) <;> try (exfalso; omega; done)) | refine AW.cond _ rfl (fun h => ?_) (fun h => ?_) | refine Qf ?_ | refine Qg ?_ | refine Qh ?_ | refine Qi ?_ | refine Xa ?_ | refine Xb ?_ | refine Xc ?_ | refine Xd ?_ | refine Fc ?_)
  (refine end1p (by first | exact .inl rfl | exact .inr rfl) rfl (by first | exact rT rfl | exact rCA rfl rfl rfl rfl (by simp) | exact rCC rfl rfl rfl rfl rfl) ?_ (Le.head ([]) (by first | exact fun l h => absurd h (hD l) | (intro l h; rcases hD l h with rfl; simp [tauL]) | (intro l h; rcases hD l h with rfl | rfl <;> simp [tauL]; done) | (intro l h; rcases hD l h with rfl | rfl | rfl <;> simp [tauL])) ?_ ?_ (by simp) (by simp) (by simp [AllP]) (n' := 1000)); (· rfl)) <;> (repeat' (first | exact trivial | exact ARs.nil | refine ARs.cons ?_ ?_ | exact AR.dead _ | exact AR.dd _ | exact AR.i (by (try dsimp only); omega) | exact AR.ptr _ _ _ _ (by simp [heapL, upd]) | exact AR.own _ _ _ _ (by simp [heapL, upd]) | refine AR.ownE _ _ _ ?_ (by simp [heapL, upd]) | refine ⟨⟨_, rfl, ?_⟩, ?_⟩ | exact ObA.data | refine ObA.box ?_ | refine ObA.frE ?_ | refine ObA.dataE ?_ | refine ARs.agg ?_ | refine ARs.tup ?_ | exact AR.clo' ARs.nil ARs.nil | exact AR.clo' ARs.nil (hca _ _)))
theorem redR_of_zero {xs : List Pl} {r : Int × Int} {c : List Nat} (h1 : 0 < r.2) (h2 : Int.gcd r.1 r.2 = 1) (hk : 0 < sumT xs c) (h : wgt xs r.1 r.2 c = 0) : redR (sumD xs c) (sumT xs c) = r := by
  obtain ⟨g1, g2, g3, g4, g5⟩ := redR_ok (d := sumD xs c) hk
  rw [wgt_sums] at h
  generalize (Int.gcd (sumD xs c) (sumT xs c) : Int) = g at g3 g4 g5
  generalize redR (sumD xs c) (sumT xs c) = s at *
  rw [← g3, ← g4] at h
  have e : g * (s.1 * r.2) = g * (r.1 * s.2) := by
    have e1 : r.2 * (g * s.1) = g * (s.1 * r.2) := by rw [Int.mul_left_comm, Int.mul_comm r.2]
    have e2 : r.1 * (g * s.2) = g * (r.1 * s.2) := by rw [Int.mul_left_comm]
    omega
  have e2 := Int.eq_of_mul_eq_mul_left (by omega) e
  obtain ⟨e3, e4⟩ := frac_eq g1 h1 g2 h2 e2
  exact Prod.ext e3 e4
/-! ### Live graphs -/
theorem live_of {n : Nat} {xs : List Pl} (hv : ∀ p ∈ xs, okPl n p) (hl : liveB n xs = true) : Live xs n := by
  have h1 := liveB_ord hv
  rw [hl] at h1
  obtain ⟨ord, ho⟩ := Option.isSome_iff_exists.1 h1.symm
  obtain ⟨_, h2, _⟩ := ord_idx ho
  refine ⟨fun i hi => okPl_at hv i hi, fun c u hc hw => walk_tok (pos := fun e => (ord.idxOf e.toNat : Int)) (fun i hi => (okPl_at hv i hi).2.2.2.1) (fun i hi hk => ?_) hc hw⟩
  have ⟨⟨g1, g2⟩, ⟨g3, g4⟩, _⟩ := okPl_at hv i hi
  have := h2 (plA xs i).t.toNat (plA xs i).f.toNat (by omega) (by omega) (by
    unfold wPl
    rw [List.any_eq_true]
    exact ⟨plA xs i, by unfold plA; rw [List.getElem?_eq_getElem hi]; exact List.getElem_mem hi, by simp [hk, Int.toNat_of_nonneg g1, Int.toNat_of_nonneg g3]⟩)
  omega
theorem Live.over {n : Nat} {xs : List Pl} (hl : Live xs n) {u1 u2 over : Int} {c : List Nat} (hc : Circ xs c) (hw : over < wgt xs u1 u2 c) : overC xs u1 u2 over n ≠ [] := overC_finds hc (hl.circ hc).1 hw
theorem Live.over0 {n : Nat} {xs : List Pl} (hl : Live xs n) : overC xs 0 1 (-1) n ≠ [] ↔ hasC xs := by
  constructor
  · intro h; exact ⟨_, (overC_sound h).1⟩
  · rintro ⟨c, hc⟩
    refine hl.over hc ?_
    rw [wgt_sums]
    have := (hl.circ hc).2.1.1
    omega
theorem Live.max_of {n : Nat} {xs : List Pl} (hl : Live xs n) (hn : n ≤ 10) {c : List Nat} (hc : Circ xs c) (h0 : overC xs (redR (sumD xs c) (sumT xs c)).1 (redR (sumD xs c) (sumT xs c)).2 0 n = []) : MaxR xs (redR (sumD xs c) (sumT xs c)) := by
  have hk := (hl.circ hc).2.2.1
  obtain ⟨_, ⟨g1, _⟩, g2⟩ := hl.red hn (hl.circ hc).1 hc.wk.lt hk
  refine ⟨g1, g2, fun c' hc' => ?_, c, hc, wgt_redR hk⟩
  apply Classical.byContradiction
  intro hlt
  exact hl.over hc' (by omega) h0
set_option maxHeartbeats 1000000 in
theorem l15Best_no (ev : Int) (n : Nat) (xs : List Pl) (hn : n ≤ 10) (hx : xs.length ≤ 1000) (hv : ∀ p ∈ xs, okPl n p) (hl : Live xs n) (hc : ¬ hasC xs) : AC Try.prog 79 [grD ev xs] H0 (.tup [IL [], Bo false]) H0 := by
  have h0 : overC xs 0 1 (-1) n = [] := Classical.byContradiction fun h => hc (hl.over0.1 h)
  have hO := l15Over_ac ev n xs 0 1 (-1) hn hx hv (by omega) (by omega)
  rw [h0] at hO
  refine AC.of_body 0 Try.func79 rfl (fun l h => absurd rfl h) (fun C hC => ?_)
  have hD : ∀ l, ¬ C.D0 l := fun l h => (hC l).1 h rfl
  simp only [startFr, Try.ntmps79, List.length_cons, List.length_nil, Nat.reduceAdd, Nat.reduceSub, List.replicate_succ, List.replicate_zero, List.cons_append, List.nil_append]
  repeat' (first | refine Qa ?_ | ((first | apply Ba | (apply Bb; (· rfl); (· rfl)) | (apply Bc; (· exact nxE)) | (apply Bd; (· rfl); (· rfl); (· exact nxE))); (· first | exact Kz rfl rfl (hO) (Aa (Ad (Ad An)) (Aa (Ad (Ad An)) (Ad An))) | exact Ok.pe); (first | refine Na ?_ | refine Nb ?_)) | ((first | apply Ca | (apply Cb; (· exact nxE))); (· first | exact Ok.e0); (first | refine Nc ?_ | refine Nd ?_)) | refine Oa ?_ | refine Ob ?_ | ((first | refine Ga (fun h => ?_) (fun h => ?_) | refine AD.gsplit rfl rfl (fun h => ?_) (fun h => ?_)) <;> try (exfalso; omega; done)) | (first | refine AL.gsplitB rfl rfl (fun h => ?_) (fun h => ?_) | refine AD.gsplitB rfl rfl (fun h => ?_) (fun h => ?_)) | refine Fa ?_ | refine Qb ?_ | refine Qc ?_ | refine Qd ?_ | refine Fb ?_ | refine Qe ?_ | refine Wa ?_ | refine Wb ?_ | (refine AW.ite rfl (fun h => ?_) (fun h => ?_) <;> try (exfalso; omega; done)) | refine AW.cond _ rfl (fun h => ?_) (fun h => ?_) | refine Qf ?_ | refine Qg ?_ | refine Qh ?_ | refine Qi ?_ | refine Xa ?_ | refine Xb ?_ | refine Xc ?_ | refine Xd ?_ | refine Fc ?_)
  refine AW.loop (X := Unit) (fun _ => ⟨[Oo, Bx 2 0, Oo, Oo, IL [], Oo, Oo, Oo, Oo, Oo, Oo, Oo, Oo, Oo, Oo, Oo, Oo, Oo, Oo, Oo, Oo, Oo, Oo, Oo, Oo, Oo, Oo, Oo, Oo, Oo, Oo, Oo, Oo, Oo], heapL [(⟨0, []⟩, ⟨0, []⟩, ⟨2, [[I ev, PL xs]]⟩)], 900⟩) (fun _ => 0) () ?_ (fun _ => ?_)
  ·
    (apply Le.headZ [_] rfl)
    all_goals (try dsimp only [srcs])
    (case' hfr | hob => (repeat' (first | refine La ?_ ?_ | exact Lc | refine Lo ?_ | refine ⟨⟨_, rfl, ?_⟩, ?_⟩ | refine ObA.box ?_ | refine ObA.frE ?_ | refine ObA.dataE ?_ | refine ARs.agg ?_ | refine ARs.tup ?_ | refine AR.b ?_ | refine AR.iE ?_ | refine AR.e ?_ | refine AR.clo' ARs.nil ?_)))
    all_goals (first | (rfl) | exact Ld)
  ·
    repeat' (first | refine Qa ?_ | ((first | apply Ba | (apply Bb; (· rfl); (· rfl)) | (apply Bc; (· exact nxE)) | (apply Bd; (· rfl); (· rfl); (· exact nxE))); (· first | exact Ok.pe); (first | refine Na ?_ | refine Nb ?_)) | ((first | apply Ca | (apply Cb; (· exact nxE))); (· first | exact Ok.e0); (first | refine Nc ?_ | refine Nd ?_)) | refine Oa ?_ | refine Ob ?_ | ((first | refine Ga (fun h => ?_) (fun h => ?_) | refine AD.gsplit rfl rfl (fun h => ?_) (fun h => ?_)) <;> try (exfalso; omega; done)) | (first | refine AL.gsplitB rfl rfl (fun h => ?_) (fun h => ?_) | refine AD.gsplitB rfl rfl (fun h => ?_) (fun h => ?_)) | refine Fa ?_ | refine Qb ?_ | refine Qc ?_ | refine Qd ?_ | refine Fb ?_ | refine Qe ?_ | refine Wa ?_ | refine Wb ?_ | (refine AW.ite rfl (fun h => ?_) (fun h => ?_) <;> try (exfalso; omega; done)) | refine AW.cond _ rfl (fun h => ?_) (fun h => ?_) | refine Qf ?_ | refine Qg ?_ | refine Qh ?_ | refine Qi ?_ | refine Xa ?_ | refine Xb ?_ | refine Xc ?_ | refine Xd ?_ | refine Fc ?_)
    refine Yb ?_
    (apply Le.headZ (hs := []) [] rfl)
    all_goals (try dsimp only [srcs])
    (case' hfr => (repeat' (first | refine La ?_ ?_ | exact Lc | refine Lo ?_ | refine ⟨⟨_, rfl, ?_⟩, ?_⟩ | refine ObA.box ?_ | refine ObA.frE ?_ | refine ObA.dataE ?_ | refine ARs.agg ?_ | refine ARs.tup ?_ | refine AR.b ?_ | refine AR.iE ?_ | refine AR.e ?_ | refine AR.clo' ARs.nil ?_)))
    all_goals (first | exact Ld | exact trivial | (rfl))
set_option maxHeartbeats 2000000 in
theorem l15Best_yes (ev : Int) (n : Nat) (xs : List Pl) (hn : n ≤ 10) (hx : xs.length ≤ 1000) (hv : ∀ p ∈ xs, okPl n p) (hl : Live xs n) (hc : hasC xs) : AC Try.prog 79 [grD ev xs] H0 (.tup [IL (cN (overC xs (maxR xs).1 (maxR xs).2 (-1) n)), Bo true]) H0 := by
  have h0 := hl.over0.2 hc
  have hO := l15Over_ac ev n xs 0 1 (-1) hn hx hv (by omega) (by omega)
  refine AC.of_body 0 Try.func79 rfl (fun l h => absurd rfl h) (fun C hC => ?_)
  have hD : ∀ l, ¬ C.D0 l := fun l h => (hC l).1 h rfl
  simp only [startFr, Try.ntmps79, List.length_cons, List.length_nil, Nat.reduceAdd, Nat.reduceSub, List.replicate_succ, List.replicate_zero, List.cons_append, List.nil_append]
  repeat' (first | refine Qa ?_ | ((first | apply Ba | (apply Bb; (· rfl); (· rfl)) | (apply Bc; (· exact nxE)) | (apply Bd; (· rfl); (· rfl); (· exact nxE))); (· first | exact Kz rfl rfl (hO) (Aa (Ad (Ad An)) (Aa (Ad (Ad An)) (Ad An))) | exact Ok.pe); (first | refine Na ?_ | refine Nb ?_)) | ((first | apply Ca | (apply Cb; (· exact nxE))); (· first | exact Ok.e0); (first | refine Nc ?_ | refine Nd ?_)) | refine Oa ?_ | refine Ob ?_ | ((first | refine Ga (fun h => ?_) (fun h => ?_) | refine AD.gsplit rfl rfl (fun h => ?_) (fun h => ?_)) <;> try (exfalso; omega; done)) | (first | refine AL.gsplitB rfl rfl (fun h => ?_) (fun h => ?_) | refine AD.gsplitB rfl rfl (fun h => ?_) (fun h => ?_)) | refine Fa ?_ | refine Qb ?_ | refine Qc ?_ | refine Qd ?_ | refine Fb ?_ | refine Qe ?_ | refine Wa ?_ | refine Wb ?_ | (refine AW.ite rfl (fun h => ?_) (fun h => ?_) <;> try (exfalso; omega; done)) | refine AW.cond _ rfl (fun h => ?_) (fun h => ?_) | refine Qf ?_ | refine Qg ?_ | refine Qh ?_ | refine Qi ?_ | refine Xa ?_ | refine Xb ?_ | refine Xc ?_ | refine Xd ?_ | refine Fc ?_)
  refine AW.loop (X := {c : List Nat // Circ xs c}) (fun c => ⟨[Oo, Bx 2 0, Oo, Oo, IL (cN c.1), Oo, Oo, Oo, Oo, Oo, Oo, Oo, Oo, Oo, Oo, Oo, Oo, Oo, Oo, Oo, Oo, Oo, Oo, Oo, Oo, Oo, Oo, Oo, Oo, Oo, Oo, Oo, Oo, Oo], heapL [(⟨0, []⟩, ⟨0, []⟩, ⟨2, [[I ev, PL xs]]⟩)], 900⟩) (fun c => (1000000000000 - rank 1000 (redR (sumD xs c.1) (sumT xs c.1))).toNat) ⟨_, (overC_sound h0).1⟩ ?_ (fun c => ?_)
  ·
    (apply Le.headZ [_] rfl)
    all_goals (try dsimp only [srcs])
    (case' hfr | hob => (repeat' (first | refine La ?_ ?_ | exact Lc | refine Lo ?_ | refine ⟨⟨_, rfl, ?_⟩, ?_⟩ | refine ObA.box ?_ | refine ObA.frE ?_ | refine ObA.dataE ?_ | refine ARs.agg ?_ | refine ARs.tup ?_ | refine AR.b ?_ | refine AR.iE ?_ | refine AR.e ?_ | refine AR.clo' ARs.nil ?_)))
    all_goals (first | (rfl) | exact Ld)
  obtain ⟨c, hcc⟩ := c
  simp only
  obtain ⟨g1, ⟨g2, g3⟩, ⟨g4, g5⟩⟩ := hl.circ hcc
  obtain ⟨⟨r1, r2⟩, ⟨r3, r4⟩, r5⟩ := hl.red hn g1 hcc.wk.lt g4
  have hS := l15Sums_ac ev n xs c (by omega) hv hcc.wk.lt (by omega)
  have hR := l01Ratio_ac (sumD xs c) (sumT xs c) (by omega) (by omega)
  have hO1 := l15Over_ac ev n xs (redR (sumD xs c) (sumT xs c)).1 (redR (sumD xs c) (sumT xs c)).2 0 hn hx hv (by omega) (by omega)
  have hO2 := l15Over_ac ev n xs (redR (sumD xs c) (sumT xs c)).1 (redR (sumD xs c) (sumT xs c)).2 (-1) hn hx hv (by omega) (by omega)
  have hne : 0 < c.length := List.length_pos_iff.2 hcc.ne
  have hcl : (IR (cN c)).length = c.length := by simp
  by_cases hz : overC xs (redR (sumD xs c) (sumT xs c)).1 (redR (sumD xs c) (sumT xs c)).2 0 n = []
  · rw [maxR_eq hl (hl.max_of hn hcc hz)]
    rw [hz] at hO1
    generalize redR (sumD xs c) (sumT xs c) = r at *
    obtain ⟨q1, q2⟩ := r
    simp only at *
    repeat' (first | refine Qa ?_ | ((first | apply Ba | (apply Bb; (· rfl); (· rfl)) | (apply Bc; (· exact nxE)) | (apply Bd; (· rfl); (· rfl); (· exact nxE))); (· first | exact Kz rfl rfl (hS) (Aa (Ad (Ad An)) (Ad An)) | exact Kz rfl rfl (hR) (Ad (Ad An)) | exact Kz rfl rfl (hO1) (Aa (Ad (Ad An)) (Aa (Ad (Ad An)) (Ad An))) | exact Kz rfl rfl (hO2) (Aa (Ad (Ad An)) (Aa (Ad (Ad An)) (Ad An))) | exact Ok.pe); (first | refine Na ?_ | refine Nb ?_)) | ((first | apply Ca | (apply Cb; (· exact nxE))); (· first | exact Ok.e0); (first | refine Nc ?_ | refine Nd ?_)) | refine Oa ?_ | refine Ob ?_ | ((first | refine Ga (fun h => ?_) (fun h => ?_) | refine AD.gsplit rfl rfl (fun h => ?_) (fun h => ?_)) <;> try (exfalso; omega; done)) | (first | refine AL.gsplitB rfl rfl (fun h => ?_) (fun h => ?_) | refine AD.gsplitB rfl rfl (fun h => ?_) (fun h => ?_)) | refine Fa ?_ | refine Qb ?_ | refine Qc ?_ | refine Qd ?_ | refine Fb ?_ | refine Qe ?_ | refine Wa ?_ | refine Wb ?_ | (refine AW.ite rfl (fun h => ?_) (fun h => ?_) <;> try (exfalso; omega; done)) | refine AW.cond _ rfl (fun h => ?_) (fun h => ?_) | refine Qf ?_ | refine Qg ?_ | refine Qh ?_ | refine Qi ?_ | refine Xa ?_ | refine Xb ?_ | refine Xc ?_ | refine Xd ?_ | refine Fc ?_)
    refine Yb ?_
    (apply Le.headZ (hs := []) [] rfl)
    all_goals (try dsimp only [srcs])
    (case' hfr => (repeat' (first | refine La ?_ ?_ | exact Lc | refine Lo ?_ | refine ⟨⟨_, rfl, ?_⟩, ?_⟩ | refine ObA.box ?_ | refine ObA.frE ?_ | refine ObA.dataE ?_ | refine ARs.agg ?_ | refine ARs.tup ?_ | refine AR.b ?_ | refine AR.iE ?_ | refine AR.e ?_ | refine AR.clo' ARs.nil ?_)))
    all_goals (first | exact Ld | exact trivial | (rfl))
  · obtain ⟨s1, s2⟩ := overC_sound hz
    obtain ⟨k1, _, ⟨k4, k5⟩⟩ := hl.circ s1
    have hrank := rank_redR (M := 1000) (r := redR (sumD xs c) (sumT xs c)) (by omega) (by omega) k4 (by omega) s2
    have hsn := hl.red hn k1 s1.wk.lt k4
    have hup : rank 1000 (redR (sumD xs (overC xs (redR (sumD xs c) (sumT xs c)).1 (redR (sumD xs c) (sumT xs c)).2 0 n)) (sumT xs (overC xs (redR (sumD xs c) (sumT xs c)).1 (redR (sumD xs c) (sumT xs c)).2 0 n))) ≤ 100000 * 1000000 := by
      unfold rank
      refine Int.le_trans (Int.ediv_le_self _ (Int.mul_nonneg (by omega) (by omega))) ?_
      omega
    have hlen : 0 < (overC xs (redR (sumD xs c) (sumT xs c)).1 (redR (sumD xs c) (sumT xs c)).2 0 n).length := List.length_pos_iff.2 hz
    generalize overC xs (redR (sumD xs c) (sumT xs c)).1 (redR (sumD xs c) (sumT xs c)).2 0 n = nx at *
    have hrk : rank 1000 (redR (sumD xs c) (sumT xs c)) < rank 1000 (redR (sumD xs nx) (sumT xs nx)) := hrank
    have hnl : (IR (cN nx)).length = nx.length := by simp
    generalize redR (sumD xs c) (sumT xs c) = r at *
    obtain ⟨q1, q2⟩ := r
    simp only at *
    repeat' (first | refine Qa ?_ | ((first | apply Ba | (apply Bb; (· rfl); (· rfl)) | (apply Bc; (· exact nxE)) | (apply Bd; (· rfl); (· rfl); (· exact nxE))); (· first | exact Kz rfl rfl (hS) (Aa (Ad (Ad An)) (Ad An)) | exact Kz rfl rfl (hR) (Ad (Ad An)) | exact Kz rfl rfl (hO1) (Aa (Ad (Ad An)) (Aa (Ad (Ad An)) (Ad An))) | exact Ok.pe); (first | refine Na ?_ | refine Nb ?_)) | ((first | apply Ca | (apply Cb; (· exact nxE))); (· first | exact Ok.e0); (first | refine Nc ?_ | refine Nd ?_)) | refine Oa ?_ | refine Ob ?_ | ((first | refine Ga (fun h => ?_) (fun h => ?_) | refine AD.gsplit rfl rfl (fun h => ?_) (fun h => ?_)) <;> try (exfalso; omega; done)) | (first | refine AL.gsplitB rfl rfl (fun h => ?_) (fun h => ?_) | refine AD.gsplitB rfl rfl (fun h => ?_) (fun h => ?_)) | refine Fa ?_ | refine Qb ?_ | refine Qc ?_ | refine Qd ?_ | refine Fb ?_ | refine Qe ?_ | refine Wa ?_ | refine Wb ?_ | (refine AW.ite rfl (fun h => ?_) (fun h => ?_) <;> try (exfalso; omega; done)) | refine AW.cond _ rfl (fun h => ?_) (fun h => ?_) | refine Qf ?_ | refine Qg ?_ | refine Qh ?_ | refine Qi ?_ | refine Xa ?_ | refine Xb ?_ | refine Xc ?_ | refine Xd ?_ | refine Fc ?_)
    refine ⟨⟨nx, s1⟩, ?_, by simp only; omega⟩
    (apply Le.headZ [_] rfl)
    all_goals (try dsimp only [srcs])
    (case' hfr | hob => (repeat' (first | refine La ?_ ?_ | exact Lc | refine Lo ?_ | refine ⟨⟨_, rfl, ?_⟩, ?_⟩ | refine ObA.box ?_ | refine ObA.frE ?_ | refine ObA.dataE ?_ | refine ARs.agg ?_ | refine ARs.tup ?_ | refine AR.b ?_ | refine AR.iE ?_ | refine AR.e ?_ | refine AR.clo' ARs.nil ?_)))
    all_goals (first | (rfl) | exact Ld)
end Go.Proofs.Ytcjidnpkeliieaa
end

section
namespace Go.Proofs.Ytcjidnpkeliieaa
open Go Go.RowKit
set_option linter.unusedSimpArgs false
set_option linter.unusedVariables false
attribute [local irreducible] AL AD AW OpOk Le AC thenQ blockQ EndQ

end Go.Proofs.Ytcjidnpkeliieaa
end
