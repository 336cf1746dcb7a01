/-
  Walks in the abstract reading, part 4.
-/
import Derived.Test.YtpgcmpbamlnkkaaKoU3
import Derived.Test.YtpgcmpbamlnkkaaKoA3
import Derived.Test.YtpgcmpbamlnkkaaKoA2
import Derived.Test.YtpgcmpbamlnkkaaKoU1
import Derived.Test.YtpgcmpbamlnkkaaKoR1
import Derived.Test.YtpgcmpbamlnkkaaKoU2
section
namespace Go.Proofs.Ytpgcmpbamlnkkaa
set_option linter.unusedSimpArgs false
set_option linter.unusedVariables false
open Go Go.RowKit
attribute [local irreducible] AL AD AW OpOk Le AC thenQ blockQ EndQ

theorem indexInt_ac (xs : List Int) (y : Int) (hn : xs.length ≤ 100000000) : AC Try.prog 206 [IL xs, I y] H0 (I (idxOf (fun x => decide (x = y)) xs 0)) H0 := by
  refine AC.of_body 0 Try.func206 rfl (fun l h => absurd rfl h) (fun C hC => ?_)
  have hD : ∀ l, ¬ C.D0 l := fun l h => (hC l).1 h rfl
  simp only [startFr, Try.ntmps206, List.length_cons, List.length_nil, Nat.reduceAdd, Nat.reduceSub, List.replicate_succ, List.replicate_zero, List.cons_append, List.nil_append]
  repeat' (first | ((first | apply Ba | (apply Bb; (· rfl); (· rfl)) | (apply Bc; (· exact nxE)) | (apply Bd; (· rfl); (· rfl); (· exact nxE))); (· first | exact Ok.pe)) | ((first | apply Ca | (apply Cb; (· exact nxE))); (· first | exact Ok.e0)) | refine Sx ?_ | (refine Sy (fun h => ?_) (fun h => ?_) <;> try (exfalso; omega; done)) | refine Sz (fun h => ?_) (fun h => ?_))
  refine AW.loop (X := {k : Nat // k ≤ xs.length ∧ idxOf (fun x => decide (x = y)) xs 0 = idxOf (fun x => decide (x = y)) (xs.drop k) k}) (fun k => ⟨[IL xs, I y, Oo, Oo, Oo, Oo, Oo, I xs.length, I (k.1 : Nat), Oo, Oo, Oo, Oo, Oo, Oo, Oo, Oo, Oo, Oo], heapL [], 900⟩) (fun k => xs.length - k.1) ⟨0, Nat.zero_le _, by simp⟩ ?_ (fun k => ?_)
  ·
    (apply Le.headZ [] rfl)
    all_goals (try dsimp only [srcs])
    (case' hfr | hob => (repeat' (first | refine La ?_ ?_ | exact Lc | refine Lo ?_ | refine ⟨⟨_, rfl, ?_⟩, ?_⟩ | refine Lx ?_)))
    all_goals (first | (rfl) | exact Ld)
  obtain ⟨k, hk, hall⟩ := k
  simp only
  by_cases hlt : k < xs.length
  · obtain ⟨x, hx⟩ : ∃ x, xs[k]? = some x := ⟨xs[k], by simp⟩
    have hrow := IR_get hx
    have hst := idxOf_at (f := fun x => decide (x = y)) hx k
    rw [← hall] at hst
    repeat' (first | ((first | apply Ba | (apply Bb; (· rfl); (· rfl)) | (apply Bc; (· exact nxE)) | (apply Bd; (· rfl); (· rfl); (· exact nxE))); (· first | exact Ok.pe)) | ((first | apply Ca | (apply Cb; (· exact nxE))); (· first | exact Ok.e0)) | refine Sx ?_ | (refine Sy (fun h => ?_) (fun h => ?_) <;> try (exfalso; omega; done)) | refine Sz (fun h => ?_) (fun h => ?_))
    ·
      refine Ya ?_
      (apply Le.headZ (hs := []) [] rfl)
      all_goals (try dsimp only [srcs])
      (case' hfr => (repeat' (first | refine La ?_ ?_ | exact Lc | refine Lo ?_ | refine ⟨⟨_, rfl, ?_⟩, ?_⟩ | refine Lx ?_)))
      all_goals (first | exact Ld | exact trivial | ((rw [hst, if_pos (by simpa using h.symm)]; done)))
    · refine ⟨⟨k + 1, by omega, by rw [hst, if_neg (by simpa using fun e => h e.symm)]⟩, ?_, by simp only; omega⟩
      (apply Le.headZ [] rfl)
      all_goals (try dsimp only [srcs])
      (case' hfr | hob => (repeat' (first | refine La ?_ ?_ | exact Lc | refine Lo ?_ | refine ⟨⟨_, rfl, ?_⟩, ?_⟩ | refine Lx ?_)))
      all_goals (first | (rfl) | exact Ld)
  ·
    repeat' (first | ((first | apply Ba | (apply Bb; (· rfl); (· rfl)) | (apply Bc; (· exact nxE)) | (apply Bd; (· rfl); (· rfl); (· exact nxE))); (· first | exact Ok.pe)) | ((first | apply Ca | (apply Cb; (· exact nxE))); (· first | exact Ok.e0)) | refine Sx ?_ | (refine Sy (fun h => ?_) (fun h => ?_) <;> try (exfalso; omega; done)) | refine Sz (fun h => ?_) (fun h => ?_))
    refine Ya ?_
    (apply Le.headZ (hs := []) [] rfl)
    all_goals (try dsimp only [srcs])
    (case' hfr => (repeat' (first | refine La ?_ ?_ | exact Lc | refine Lo ?_ | refine ⟨⟨_, rfl, ?_⟩, ?_⟩ | refine Lx ?_)))
    all_goals (first | exact Ld | exact trivial | ((rw [hall, List.drop_of_length_le (by omega)]; rfl)))
theorem containsInt_ac (xs : List Int) (y : Int) (hn : xs.length ≤ 100000000) : AC Try.prog 105 [IL xs, I y] H0 (Bo (xs.any fun x => decide (x = y))) H0 := by
  refine AC.of_body 0 Try.func105 rfl (fun l h => absurd rfl h) (fun C hC => ?_)
  have hD : ∀ l, ¬ C.D0 l := fun l h => (hC l).1 h rfl
  simp only [startFr, Try.ntmps105, List.length_cons, List.length_nil, Nat.reduceAdd, Nat.reduceSub, List.replicate_succ, List.replicate_zero, List.cons_append, List.nil_append]
  repeat' (first | ((first | apply Ba | (apply Bb; (· rfl); (· rfl)) | (apply Bc; (· exact nxE)) | (apply Bd; (· rfl); (· rfl); (· exact nxE))); (· first | exact Kz rfl rfl (indexInt_ac xs y hn) (Ad (Ad An)) | exact Ok.pe)) | ((first | apply Ca | (apply Cb; (· exact nxE))); (· first | exact Ok.e0)) | refine Sx ?_ | (refine Sy (fun h => ?_) (fun h => ?_) <;> try (exfalso; omega; done)) | refine Sz (fun h => ?_) (fun h => ?_))
  all_goals
    refine Ya ?_
    (apply Le.headZ (hs := []) [] rfl)
    all_goals (try dsimp only [srcs])
    (case' hfr => (repeat' (first | refine La ?_ ?_ | exact Lc | refine Lo ?_ | refine ⟨⟨_, rfl, ?_⟩, ?_⟩ | refine Lx ?_)))
    all_goals (first | exact Ld | exact trivial | ((rw [idxOf_any]; done)))
/-- Does event e wait for a place's event that is not yet there? -/
def waitP (ord : List Nat) (e : Nat) (p : Pl) : Bool := decide (p.t = e) && (decide (p.k = 0) && !(ord.contains p.f.toNat))
theorem cN_any {ord : List Nat} {f : Nat} : (cN ord).any (fun x => decide (x = (f : Int))) = ord.contains f := by
  rw [any_cN]; simp
abbrev hsF (e : Nat) (ord : List Nat) : HL := [(⟨1, []⟩, ⟨1, []⟩, ⟨1, [[.own 1 ⟨2, []⟩ 0 ord.length]]⟩), (⟨2, []⟩, ⟨2, []⟩, IO (cN ord)), (⟨3, []⟩, ⟨3, []⟩, ⟨1, [[I e]]⟩)]
theorem hsF_ok {e : Nat} {ord : List Nat} : HOk (hsF e ord) := by
  intro p hp r hr c hc
  simp only [List.mem_cons, List.not_mem_nil, or_false] at hp
  rcases hp with rfl | rfl | rfl
  · simp at hr; subst hr; simp at hc; subst hc; exact .own _ _ _ _ (by simp)
  · obtain ⟨a, _, rfl⟩ := List.mem_map.1 hr
    obtain ⟨d, _, rfl⟩ := List.mem_map.1 hc
    exact .d _
  · simp at hr; subst hr; simp at hc; subst hc; exact .d _
set_option maxHeartbeats 1000000 in
theorem firingFn_ac (n : Nat) (p : Pl) (e : Nat) (ord : List Nat) (hv : okPl n p) (ho : ord.length ≤ 1000000) : AC Try.prog 199 [p.av, Bx 1 3, Bx 1 1] (heapL (hsF e ord)) (Bo (waitP ord e p)) (heapL (hsF e ord)) := by
  obtain ⟨⟨h1, h2⟩, _⟩ := hv
  obtain ⟨pf, pt, pd, pk⟩ := p
  obtain ⟨f, rfl⟩ : ∃ f : Nat, pf = f := ⟨pf.toNat, by simp at h1; omega⟩
  have hC1 := containsInt_ac (cN ord) f (by simp; omega)
  rw [cN_any] at hC1
  have hlen : (IR (cN ord)).length = ord.length := by simp
  refine AC.of_body 4 Try.func199 rfl (fun l h => by simp [heapL, upd] at h; (repeat' split at h) <;> simp_all) (fun C hC => ?_)
  simp only [startFr, Try.ntmps199, List.length_cons, List.length_nil, Nat.reduceAdd, Nat.reduceSub, List.replicate_succ, List.replicate_zero, List.cons_append, List.nil_append]
  have hD : ∀ l, C.D0 l → l = ⟨1, []⟩ ∨ l = ⟨2, []⟩ ∨ l = ⟨3, []⟩ := fun l h => by have := (hC l).1 h; simp [heapL, upd] at this; (repeat' split at this) <;> simp_all
  repeat' (first | ((first | apply Ba | (apply Bb; (· rfl); (· rfl)) | (apply Bc; (· exact nxE)) | (apply Bd; (· rfl); (· rfl); (· exact nxE))); (· first | exact Ez rfl rfl (hC1) (Sw (Sd Sn)) | exact Ok.pe)) | ((first | apply Ca | (apply Cb; (· exact nxE))); (· first | exact Ok.e0)) | refine Sx ?_ | (refine Sy (fun h => ?_) (fun h => ?_) <;> try (exfalso; omega; done)) | refine Sz (fun h => ?_) (fun h => ?_))
  all_goals
    (refine end1p (by first | exact .inl rfl | exact .inr rfl) rfl (by first | exact rT rfl | exact rCA rfl rfl rfl rfl (by simp) | exact rCC rfl rfl rfl rfl rfl) ?_ (Le.head ([(⟨1, []⟩, ⟨1, []⟩, ⟨1, [[.own 1 ⟨2, []⟩ 0 ord.length]]⟩), (⟨2, []⟩, ⟨2, []⟩, IO (cN ord)), (⟨3, []⟩, ⟨3, []⟩, ⟨1, [[I e]]⟩)]) (by first | exact fun l h => absurd h (hD l) | (intro l h; rcases hD l h with rfl; simp [tauL]) | (intro l h; rcases hD l h with rfl | rfl <;> simp [tauL]; done) | (intro l h; rcases hD l h with rfl | rfl | rfl <;> simp [tauL])) ?_ ?_ (by simp) (by simp) (by simp [AllP]) (n' := 1000)); (· (simp_all [waitP]; done))) <;> (repeat' (first | exact trivial | exact ARs.nil | refine ARs.cons ?_ ?_ | exact AR.dead _ | exact AR.dd _ | exact AR.i (by (try dsimp only); omega) | exact AR.ptr _ _ _ _ (by simp [heapL, upd]) | exact AR.own _ _ _ _ (by simp [heapL, upd]) | refine AR.ownE _ _ _ ?_ (by simp [heapL, upd]) | refine ⟨⟨_, rfl, ?_⟩, ?_⟩ | exact ObA.data | refine ObA.box ?_ | refine ObA.frE ?_ | refine ObA.dataE ?_ | refine ARs.agg ?_ | refine ARs.tup ?_ | exact AR.clo' ARs.nil ARs.nil | exact AR.clo' ARs.nil (hca _ _)))
def wPl (xs : List Pl) (e u : Nat) : Bool := xs.any fun p => decide (p.t = e) && (decide (p.k = 0) && decide (p.f = u))
def readyB (xs : List Pl) (ord : List Nat) (e : Nat) : Bool := !ord.contains e && !(xs.any (waitP ord e))
theorem ready_eq {n : Nat} {xs : List Pl} (hv : ∀ p ∈ xs, okPl n p) {ord : List Nat} {e : Nat} : (!ord.contains e && (List.range n).all fun u => !wPl xs e u || ord.contains u) = readyB xs ord e := by
  unfold readyB
  congr 1
  rw [Bool.eq_iff_iff]
  simp only [List.all_eq_true, List.mem_range, Bool.or_eq_true, Bool.not_eq_true', wPl, List.any_eq_false, Bool.and_eq_true, decide_eq_true_eq, not_and, waitP, Bool.not_eq_false, Bool.not_eq_true]
  constructor
  · intro h p hp ht hk
    obtain ⟨⟨h1, h2⟩, _⟩ := hv p hp
    rcases h p.f.toNat (by omega) with h | h
    · exact absurd (show p.f = (p.f.toNat : Int) by omega) (h p hp ht hk)
    · exact h
  · intro h u hu
    by_cases hc : ord.contains u = true
    · exact .inr hc
    · refine .inl fun p hp ht hk hf => hc ?_
      have := h p hp ht hk
      rwa [hf, Int.toNat_natCast] at this
theorem nextE_ready {n : Nat} {xs : List Pl} (hv : ∀ p ∈ xs, okPl n p) {ord : List Nat} : nextE (wPl xs) n ord = (List.range n).find? (readyB xs ord) := by
  unfold nextE
  congr 1
  funext e
  exact ready_eq hv
theorem find_none {f : Nat → Bool} {n : Nat} (h : ∀ j, j < n → f j = false) : (List.range n).find? f = none := by
  rw [List.find?_eq_none]; intro x hx; rw [h x (List.mem_range.1 hx)]; simp
theorem find_some {f : Nat → Bool} {n e : Nat} (he : e < n) (hf : f e = true) (h : ∀ j, j < e → f j = false) : (List.range n).find? f = some e := by
  rw [List.find?_eq_some_iff_append]
  refine ⟨hf, List.range e, List.range' (e + 1) (n - (e + 1)), ?_, fun a ha => by rw [h a (List.mem_range.1 ha)]; rfl⟩
  rw [List.range_eq_range', List.range_eq_range', ← List.range'_succ, show n - (e + 1) + 1 = n - e by omega]
  have := List.range'_append (s := 0) (m := e) (n := n - e) (step := 1)
  simp only [Nat.zero_add, Nat.one_mul] at this
  rw [this, show e + (n - e) = n by omega]
def ordR (n : Nat) (xs : List Pl) : Option (List Nat) := ordF (wPl xs) n n []
theorem cN_snoc {ord : List Nat} {e : Nat} : IR (cN (ord ++ [e])) = IR (cN ord) ++ [[DI e]] := by simp
set_option maxHeartbeats 2000000 in
theorem firingOrder_ac (n : Nat) (xs : List Pl) (hn : n ≤ 10) (hx : xs.length ≤ 100000000) (hv : ∀ p ∈ xs, okPl n p) : AC Try.prog 92 [grD n xs] H0 (.tup [IL (cN ((ordR n xs).getD [])), Bo (ordR n xs).isSome]) H0 := by
  refine AC.of_body 0 Try.func92 rfl (fun l h => absurd rfl h) (fun C hC => ?_)
  have hD : ∀ l, ¬ C.D0 l := fun l h => (hC l).1 h rfl
  simp only [startFr, Try.ntmps92, List.length_cons, List.length_nil, Nat.reduceAdd, Nat.reduceSub, List.replicate_succ, List.replicate_zero, List.cons_append, List.nil_append]
  repeat' (first | ((first | apply Ba | (apply Bb; (· rfl); (· rfl)) | (apply Bc; (· exact nxE)) | (apply Bd; (· rfl); (· rfl); (· exact nxE))); (· first | exact Ok.pe)) | ((first | apply Ca | (apply Cb; (· exact nxE))); (· first | exact Ok.e0)) | refine Sx ?_ | (refine Sy (fun h => ?_) (fun h => ?_) <;> try (exfalso; omega; done)) | refine Sz (fun h => ?_) (fun h => ?_))
  refine AW.loop (X := {ord : List Nat // ord.length ≤ n ∧ ordR n xs = ordF (wPl xs) n (n - ord.length) ord}) (fun ord => ⟨[Oo, Bx 2 0, Oo, Oo, Bx 1 1, Oo, Oo, Oo, Oo, Oo, Oo, Oo, Oo, Oo, Oo, Oo, Oo, Oo, Oo, Oo, Oo, Oo, Oo, Oo, Oo, Oo, Oo, Oo, Oo, Oo, Oo, Oo, Oo, Oo, Oo, Oo, Oo, Oo, Oo, Oo, Oo], heapL [(⟨0, []⟩, ⟨0, []⟩, ⟨2, [[I n, PL xs]]⟩), (⟨1, []⟩, ⟨1, []⟩, ⟨1, [[.own 1 ⟨2, []⟩ 0 ord.1.length]]⟩), (⟨2, []⟩, ⟨2, []⟩, IO (cN ord.1))], 900⟩) (fun ord => n - ord.1.length) ⟨[], Nat.zero_le _, rfl⟩ ?_ (fun ord => ?_)
  ·
    refine (Le.nilC 1 ⟨3, []⟩ rfl).trans ?_
    (apply Le.headZ [_, _, _] rfl)
    all_goals (try dsimp only [srcs])
    (case' hfr | hob => (repeat' (first | refine La ?_ ?_ | exact Lc | refine Lo ?_ | refine ⟨⟨_, rfl, ?_⟩, ?_⟩ | refine Lx ?_)))
    all_goals (first | (rfl) | exact Ld)
  obtain ⟨ord, ho1, ho2⟩ := ord
  simp only
  have hol : (IR (cN ord)).length = ord.length := by simp
  by_cases hlt : ord.length < n
  · rw [show n - ord.length = (n - (ord.length + 1)) + 1 by omega, ordF, nextE_ready hv] at ho2
    repeat' (first | ((first | apply Ba | (apply Bb; (· rfl); (· rfl)) | (apply Bc; (· exact nxE)) | (apply Bd; (· rfl); (· rfl); (· exact nxE))); (· first | exact Ok.pe)) | ((first | apply Ca | (apply Cb; (· exact nxE))); (· first | exact Ok.e0)) | refine Sx ?_ | (refine Sy (fun h => ?_) (fun h => ?_) <;> try (exfalso; omega; done)) | refine Sz (fun h => ?_) (fun h => ?_))
    refine AW.loop (X := {s : Nat × Int // s.1 ≤ n ∧ ((s.2 = -1 ∧ ∀ j, j < s.1 → readyB xs ord j = false) ∨ (∃ e : Nat, s.2 = e ∧ s.1 = e + 1 ∧ readyB xs ord e = true ∧ ∀ j, j < e → readyB xs ord j = false))}) (fun s => ⟨[Oo, Bx 2 0, Oo, Oo, Bx 1 1, I s.1.2, Bx 1 3, Oo, Oo, Oo, Oo, Oo, Oo, Oo, Oo, Oo, Oo, Oo, Oo, Oo, Oo, Oo, Oo, Oo, Oo, Oo, Oo, Oo, Oo, Oo, Oo, Oo, Oo, Oo, Oo, Oo, Oo, Oo, Oo, Oo, Oo], heapL [(⟨0, []⟩, ⟨0, []⟩, ⟨2, [[I n, PL xs]]⟩), (⟨1, []⟩, ⟨1, []⟩, ⟨1, [[.own 1 ⟨2, []⟩ 0 ord.length]]⟩), (⟨2, []⟩, ⟨2, []⟩, IO (cN ord)), (⟨3, []⟩, ⟨3, []⟩, ⟨1, [[I (s.1.1 : Nat)]]⟩)], 900⟩) (fun s => n - s.1.1) ⟨(0, -1), Nat.zero_le _, .inl ⟨rfl, fun j hj => absurd hj (Nat.not_lt_zero j)⟩⟩ ?_ (fun s => ?_)
    ·
      (apply Le.headZ [_, _, _, _] rfl)
      all_goals (try dsimp only [srcs])
      (case' hfr | hob => (repeat' (first | refine La ?_ ?_ | exact Lc | refine Lo ?_ | refine ⟨⟨_, rfl, ?_⟩, ?_⟩ | refine Lx ?_)))
      all_goals (first | (rfl) | exact Ld)
    obtain ⟨⟨k, nx⟩, hk, hs⟩ := s
    simp only at hk hs ⊢
    rcases hs with ⟨rfl, hs⟩ | ⟨e, rfl, rfl, he, hs⟩
    · by_cases hlt2 : k < n
      ·
        have hC1 := containsInt_ac (cN ord) k (by simp; omega)
        rw [cN_any] at hC1
        have hc := containsFuncPl_ac xs hx 199 [Bx 1 3, Bx 1 1] (hsF k ord) (by simp) (by simp) hsF_ok
          (by intro c hc; simp at hc; rcases hc with rfl | rfl <;> exact .ptr _ _ _ _ (by simp)) 4 (by simp) (waitP ord k) (fun p hp => firingFn_ac n p k ord (hv p hp) (by omega))
        have hrd : readyB xs ord k = (!ord.contains k && !(xs.any (waitP ord k))) := rfl
        repeat' (first | ((first | apply Ba | (apply Bb; (· rfl); (· rfl)) | (apply Bc; (· exact nxE)) | (apply Bd; (· rfl); (· rfl); (· exact nxE))); (· first | exact Ez rfl rfl (hC1) (Sw (Sd Sn)) | exact OpOk.callS (hsF k ord) rfl rfl hc (by simp [heapL, upd, upds, W.app]) hsF_ok (.d _) (.cons (.dd _) (.cons (AR.clo' .nil (.cons (AR.ptr _ _ _ _ (by simp)) (.cons (AR.ptr _ _ _ _ (by simp)) .nil))) .nil)) | exact Ok.pe)) | ((first | apply Ca | (apply Cb; (· exact nxE))); (· first | exact Ok.e0)) | refine Sx ?_ | (refine Sy (fun h => ?_) (fun h => ?_) <;> try (exfalso; omega; done)) | refine Sz (fun h => ?_) (fun h => ?_))
        · refine ⟨⟨(k + 1, -1), by omega, .inl ⟨rfl, fun j hj => ?_⟩⟩, ?_, by simp only; omega⟩
          · rcases Nat.lt_succ_iff_lt_or_eq.1 hj with hj | rfl
            · exact hs j hj
            · rw [hrd, h]; rfl
          ·
            (apply Le.headZ [_, _, _, _] rfl)
            all_goals (try dsimp only [srcs])
            (case' hfr | hob => (repeat' (first | refine La ?_ ?_ | exact Lc | refine Lo ?_ | refine ⟨⟨_, rfl, ?_⟩, ?_⟩ | refine Lx ?_)))
            all_goals (first | (rfl) | exact Ld)
        · refine ⟨⟨(k + 1, k), by omega, .inr ⟨k, rfl, rfl, by rw [hrd, h, ‹ord.contains k = false›]; rfl, hs⟩⟩, ?_, by simp only; omega⟩
          (apply Le.headZ [_, _, _, _] rfl)
          all_goals (try dsimp only [srcs])
          (case' hfr | hob => (repeat' (first | refine La ?_ ?_ | exact Lc | refine Lo ?_ | refine ⟨⟨_, rfl, ?_⟩, ?_⟩ | refine Lx ?_)))
          all_goals (first | (rfl) | exact Ld)
        · refine ⟨⟨(k + 1, -1), by omega, .inl ⟨rfl, fun j hj => ?_⟩⟩, ?_, by simp only; omega⟩
          · rcases Nat.lt_succ_iff_lt_or_eq.1 hj with hj | rfl
            · exact hs j hj
            · rw [hrd, h, Bool.and_false]
          ·
            (apply Le.headZ [_, _, _, _] rfl)
            all_goals (try dsimp only [srcs])
            (case' hfr | hob => (repeat' (first | refine La ?_ ?_ | exact Lc | refine Lo ?_ | refine ⟨⟨_, rfl, ?_⟩, ?_⟩ | refine Lx ?_)))
            all_goals (first | (rfl) | exact Ld)
      ·
        have hnone : ordR n xs = none := by rw [ho2, find_none (fun j hj => hs j (by omega))]
        simp only [hnone, Option.getD_none, Option.isSome_none]
        repeat' (first | ((first | apply Ba | (apply Bb; (· rfl); (· rfl)) | (apply Bc; (· exact nxE)) | (apply Bd; (· rfl); (· rfl); (· exact nxE))); (· first | exact Ok.pe)) | ((first | apply Ca | (apply Cb; (· exact nxE))); (· first | exact Ok.e0)) | refine Sx ?_ | (refine Sy (fun h => ?_) (fun h => ?_) <;> try (exfalso; omega; done)) | refine Sz (fun h => ?_) (fun h => ?_))
        refine Yb ?_
        (apply Le.headZ (hs := []) [] rfl)
        all_goals (try dsimp only [srcs])
        (case' hfr => (repeat' (first | refine La ?_ ?_ | exact Lc | refine Lo ?_ | refine ⟨⟨_, rfl, ?_⟩, ?_⟩ | refine Lx ?_)))
        all_goals (first | exact Ld | exact trivial | (rfl))
    ·
      rw [find_some (by omega) he hs] at ho2
      repeat' (first | ((first | apply Ba | (apply Bb; (· rfl); (· rfl)) | (apply Bc; (· exact nxE)) | (apply Bd; (· rfl); (· rfl); (· exact nxE))); (· first | exact Ok.append1 (row := [DI e]) rfl rfl (by decide) rfl rfl hol rfl rfl rfl (by rfl) (by omega) (by omega) | exact Ok.pe)) | ((first | apply Ca | (apply Cb; (· exact nxE))); (· first | exact Ok.append1 (row := [DI e]) rfl rfl (by decide) rfl rfl hol rfl rfl rfl (by rfl) (by omega) (by omega) | exact Ok.e0)) | refine Sx ?_ | (refine Sy (fun h => ?_) (fun h => ?_) <;> try (exfalso; omega; done)) | refine Sz (fun h => ?_) (fun h => ?_))
      all_goals
        refine ⟨⟨ord ++ [e], by simp; omega, by simpa using ho2⟩, ?_, by simp; omega⟩
        (apply Le.headZ [_, _, _] rfl)
        all_goals (try dsimp only [srcs])
        (case' hfr | hob => (repeat' (first | refine La ?_ ?_ | exact Lc | refine Lo ?_ | refine ⟨⟨_, rfl, ?_⟩, ?_⟩ | refine Lx ?_)))
        all_goals (first | ((first | (rw [cN_snoc]; done) | (simp; done))) | exact Ld)
  ·
    have hsome : ordR n xs = some ord := by rw [ho2, show n - ord.length = 0 by omega, ordF]
    simp only [hsome, Option.getD_some, Option.isSome_some]
    repeat' (first | ((first | apply Ba | (apply Bb; (· rfl); (· rfl)) | (apply Bc; (· exact nxE)) | (apply Bd; (· rfl); (· rfl); (· exact nxE))); (· first | exact Ok.pe)) | ((first | apply Ca | (apply Cb; (· exact nxE))); (· first | exact Ok.e0)) | refine Sx ?_ | (refine Sy (fun h => ?_) (fun h => ?_) <;> try (exfalso; omega; done)) | refine Sz (fun h => ?_) (fun h => ?_))
    refine Yb ?_
    (apply Le.headZ (hs := []) [] rfl)
    all_goals (try dsimp only [srcs])
    (case' hfr => (repeat' (first | refine La ?_ ?_ | exact Lc | refine Lo ?_ | refine ⟨⟨_, rfl, ?_⟩, ?_⟩ | refine Lx ?_)))
    all_goals (first | exact Ld | exact trivial | (rfl))
end Go.Proofs.Ytpgcmpbamlnkkaa
end

section
namespace Go.Proofs.Ytpgcmpbamlnkkaa
set_option linter.unusedSimpArgs false
set_option linter.unusedVariables false
open Go Go.RowKit
attribute [local irreducible] AL AD AW OpOk Le AC thenQ blockQ EndQ

theorem free_entN {n : Nat} : ∀ {xs : List Pl} {t : List (List Int)}, Sq t n → (∀ p ∈ xs, okPl n p) → ∀ {a b : Nat}, a < n → b < n → entN (xs.foldl freeS t) a b = if wPl xs a b = true then 0 else entN t a b
  | [], t, hs, _, a, b, _, _ => by simp [wPl]
  | p :: r, t, hs, hv, a, b, ha, hb => by
    obtain ⟨⟨h1, h2⟩, ⟨h3, h4⟩, _⟩ := hv p (by simp)
    rw [List.foldl_cons, free_entN (freeS_sq hs) (fun q hq => hv q (by simp [hq])) ha hb]
    have hw : wPl (p :: r) a b = ((decide (p.t = a) && (decide (p.k = 0) && decide (p.f = b))) || wPl r a b) := by simp [wPl]
    rw [hw]
    cases hr : wPl r a b with
    | true => simp
    | false =>
      rw [Bool.or_false, if_neg (by simp)]
      unfold freeS
      by_cases hk : p.k = 0
      · rw [if_pos hk, entN_setT hs (by omega) (by omega)]
        by_cases e : a = p.t.toNat ∧ b = p.f.toNat
        · rw [if_pos e, if_pos (by simp [hk]; omega)]
        · rw [if_neg e, if_neg (by simp [hk]; omega)]
      · rw [if_neg hk, if_neg (by simp [hk])]
/-- A graph is live by the reference exactly if the program finds a firing order. -/
theorem live_ord {n : Nat} {xs : List Pl} (hv : ∀ p ∈ xs, okPl n p) : deadC n xs = [] ↔ ordR n xs ≠ none := by
  let a : Nat → Nat → Int := fun u v => if u < n ∧ v < n then entN (freeT n xs) u v else BOT
  have he : ∀ {u v : Nat}, u < n → v < n → entN (freeT n xs) u v = if wPl xs u v = true then 0 else BOT := fun hu hv' => by
    unfold freeT
    rw [free_entN (Sq.bot n) hv hu hv', entN_bot hu hv']
  have ha : ∀ {u v : Nat}, u < n → v < n → (entN (freeT n xs) u v ≠ BOT ↔ wPl xs u v = true) := fun hu hv' => by
    rw [he hu hv']
    split
    · rename_i h; exact ⟨fun _ => h, fun _ => by decide⟩
    · rename_i h; exact ⟨fun e => absurd rfl e, fun e => absurd e h⟩
  unfold deadC ordR
  refine live_iff (a := entN (freeT n xs)) (fun u v => ?_) (fun e u he' hu => ha he' hu)
  have := free_ent (xs := xs) (Sq.bot n) (bot_big n) hv
  by_cases hu : u < n
  · by_cases hv2 : v < n
    · rw [he hu hv2]; split
      · exact .inr (Int.le_refl _)
      · exact .inl rfl
    · right
      unfold entN
      have hs := (free_sq (xs := xs) (Sq.bot n))
      have h1 : u < (freeT n xs).length := by show u < (xs.foldl freeS (botT n n)).length; rw [hs.l]; exact hu
      rw [List.getElem?_eq_getElem h1, Option.getD_some, List.getElem?_eq_none (by rw [hs.r _ (List.getElem_mem h1)]; omega)]
      exact Int.le_refl _
  · right
    unfold entN
    have hs := (free_sq (xs := xs) (Sq.bot n))
    rw [show (freeT n xs)[u]? = none from List.getElem?_eq_none (by show (xs.foldl freeS (botT n n)).length ≤ u; rw [hs.l]; omega)]
    exact Int.le_refl _
theorem liveB_ord {n : Nat} {xs : List Pl} (hv : ∀ p ∈ xs, okPl n p) : liveB n xs = (ordR n xs).isSome := by
  unfold liveB
  rw [Int.toNat_natCast, Bool.eq_iff_iff, decide_eq_true_eq, live_ord hv]
  cases ordR n xs <;> simp
theorem isLive_ac (n : Nat) (xs : List Pl) (hn : n ≤ 10) (hx : xs.length ≤ 100000000) (hv : ∀ p ∈ xs, okPl n p) : AC Try.prog 101 [grD n xs] H0 (Bo (liveB n xs)) H0 := by
  rw [liveB_ord hv]
  refine AC.of_body 0 Try.func101 rfl (fun l h => absurd rfl h) (fun C hC => ?_)
  have hD : ∀ l, ¬ C.D0 l := fun l h => (hC l).1 h rfl
  simp only [startFr, Try.ntmps101, List.length_cons, List.length_nil, Nat.reduceAdd, Nat.reduceSub, List.replicate_succ, List.replicate_zero, List.cons_append, List.nil_append]
  repeat' (first | ((first | apply Ba | (apply Bb; (· rfl); (· rfl)) | (apply Bc; (· exact nxE)) | (apply Bd; (· rfl); (· rfl); (· exact nxE))); (· first | exact Kz rfl rfl (firingOrder_ac n xs hn hx hv) (Aa (Ad (Ad An)) An) | exact Ok.pe)) | ((first | apply Ca | (apply Cb; (· exact nxE))); (· first | exact Ok.e0)) | refine Sx ?_ | (refine Sy (fun h => ?_) (fun h => ?_) <;> try (exfalso; omega; done)) | refine Sz (fun h => ?_) (fun h => ?_))
  all_goals
    refine Ya ?_
    (apply Le.headZ (hs := []) [] rfl)
    all_goals (try dsimp only [srcs])
    (case' hfr => (repeat' (first | refine La ?_ ?_ | exact Lc | refine Lo ?_ | refine ⟨⟨_, rfl, ?_⟩, ?_⟩ | refine Lx ?_)))
    all_goals (first | exact Ld | exact trivial | (rfl))
end Go.Proofs.Ytpgcmpbamlnkkaa
end

section
namespace Go.Proofs.Ytpgcmpbamlnkkaa
set_option linter.unusedSimpArgs false
set_option linter.unusedVariables false
open Go Go.RowKit
attribute [local irreducible] AL AD AW OpOk Le AC thenQ blockQ EndQ

/-! ### Tables told by a function -/
def rowF (n : Nat) (g : Nat → Int) : List Int := (List.range n).map g
def tabF (m n : Nat) (f : Nat → Nat → Int) : List (List Int) := (List.range m).map fun i => rowF n (f i)
theorem rowF_len {n : Nat} {g : Nat → Int} : (rowF n g).length = n := by simp [rowF]
theorem tabF_len {m n : Nat} {f : Nat → Nat → Int} : (tabF m n f).length = m := by simp [tabF]
theorem rowF_get {n j : Nat} {g : Nat → Int} (h : j < n) : (rowF n g)[j]? = some (g j) := by simp [rowF, h]
theorem tabF_get {m n i : Nat} {f : Nat → Nat → Int} (h : i < m) : (tabF m n f)[i]? = some (rowF n (f i)) := by simp [tabF, h]
theorem TRF_get {m n i : Nat} {f : Nat → Nat → Int} (h : i < m) : (TR (tabF m n f))[i]? = some (IR (rowF n (f i))) := by simp [tabF_get h]
theorem IRF_get {n j : Nat} {g : Nat → Int} (h : j < n) : (IR (rowF n g))[j]? = some [DI (g j)] := by simp [rowF_get h]
theorem tabF_rc {m n : Nat} {f : Nat → Nat → Int} : Rc (tabF m n f) m n := ⟨tabF_len, fun r hr => by obtain ⟨i, _, rfl⟩ := List.mem_map.1 hr; exact rowF_len⟩
theorem tabF_ent {m n i j : Nat} {f : Nat → Nat → Int} (hi : i < m) (hj : j < n) : entN (tabF m n f) i j = f i j := by
  unfold entN; rw [tabF_get hi, Option.getD_some, rowF_get hj, Option.getD_some]
theorem rowF_congr {n : Nat} {f g : Nat → Int} (h : ∀ j, j < n → f j = g j) : rowF n f = rowF n g := List.map_congr_left fun j hj => h j (List.mem_range.1 hj)
theorem tabF_congr {m n : Nat} {f g : Nat → Nat → Int} (h : ∀ i j, i < m → j < n → f i j = g i j) : tabF m n f = tabF m n g := List.map_congr_left fun i hi => rowF_congr fun j hj => h i j (List.mem_range.1 hi) hj
theorem rowF_self {r : List Int} {n : Nat} (h : r.length = n) : rowF n (fun j => (r[j]?).getD 0) = r := by
  subst h
  apply List.ext_getElem?
  intro j
  by_cases hj : j < r.length
  · rw [rowF_get hj]; simp [hj]
  · rw [List.getElem?_eq_none (by rw [rowF_len]; omega), List.getElem?_eq_none (by omega)]
theorem tabF_self {t : List (List Int)} {m n : Nat} (h : Rc t m n) : tabF m n (entN t) = t := by
  apply List.ext_getElem?
  intro i
  by_cases hi : i < m
  · have h1 : i < t.length := by rw [h.l]; exact hi
    rw [tabF_get hi, List.getElem?_eq_getElem h1]
    congr 1
    have := rowF_self (h.r _ (List.getElem_mem h1))
    rw [← this]
    refine rowF_congr fun j hj => ?_
    unfold entN
    rw [List.getElem?_eq_getElem h1, Option.getD_some]
  · rw [List.getElem?_eq_none (by rw [tabF_len]; omega), List.getElem?_eq_none (by rw [h.l]; omega)]
theorem rowF_set {n j : Nat} {g : Nat → Int} {v : Int} : (rowF n g).set j v = rowF n (fun b => if b = j then v else g b) := by
  apply List.ext_getElem?
  intro b
  rw [List.getElem?_set]
  by_cases hb : b < n
  · rw [rowF_get hb, rowF_get hb, rowF_len]
    by_cases e : j = b
    · subst e; rw [if_pos rfl, if_pos hb, if_pos rfl]
    · rw [if_neg e, if_neg (fun h => e h.symm)]
  · rw [List.getElem?_eq_none (l := rowF n g) (by rw [rowF_len]; omega), List.getElem?_eq_none (l := rowF n _) (by rw [rowF_len]; omega), rowF_len]
    split
    · rename_i e; subst e; rw [if_neg hb]
    · rfl
/-- One cell of a table written. -/
theorem tabF_set {m n i j : Nat} {f f' : Nat → Nat → Int} {v : Int} (h : ∀ a b, a < m → b < n → f' a b = if a = i ∧ b = j then v else f a b) : TR (tabF m n f') = (TR (tabF m n f)).set i (IR ((rowF n (f i)).set j v)) := by
  have e : tabF m n f' = (tabF m n f).set i ((rowF n (f i)).set j v) := by
    apply List.ext_getElem?
    intro a
    rw [List.getElem?_set]
    by_cases ha : a < m
    · rw [tabF_get ha]
      by_cases e : i = a
      · subst e
        rw [if_pos rfl, if_pos (by rw [tabF_len]; exact ha), rowF_set]
        congr 1
        exact rowF_congr fun b hb => by rw [h i b ha hb]; simp
      · rw [if_neg e, tabF_get ha]
        congr 1
        exact rowF_congr fun b hb => by rw [h a b ha hb, if_neg (fun h => e h.1.symm)]
    · rw [List.getElem?_eq_none (by rw [tabF_len]; omega)]
      split
      · rw [if_neg (by rw [tabF_len]; omega)]
      · rw [List.getElem?_eq_none (by rw [tabF_len]; omega)]
  rw [e]; simp [List.map_set]
theorem TR_take {t : List (List Int)} {k : Nat} {r : List Int} (h : t[k]? = some r) : TR (t.take (k + 1)) = TR (t.take k) ++ [IR r] := by
  obtain ⟨hk, rfl⟩ := List.getElem?_eq_some_iff.1 h
  rw [List.take_succ_eq_append_getElem hk]; exact List.map_append
end Go.Proofs.Ytpgcmpbamlnkkaa
end

section
namespace Go.Proofs.Ytpgcmpbamlnkkaa
set_option linter.unusedSimpArgs false
set_option linter.unusedVariables false
open Go Go.RowKit
attribute [local irreducible] AL AD AW OpOk Le AC thenQ blockQ EndQ

/-- A table of which the first rows, and the first cells of the next one, have been written. -/
def mixF (f g : Nat → Nat → Int) (K J : Nat) : Nat → Nat → Int := fun a b => if a < K ∨ (a = K ∧ b < J) then f a b else g a b
theorem mixF_0 {f g : Nat → Nat → Int} {m n : Nat} : tabF m n (mixF f g 0 0) = tabF m n g := tabF_congr fun i j _ _ => by simp [mixF]
theorem mixF_row {f g : Nat → Nat → Int} {m n K : Nat} : tabF m n (mixF f g K n) = tabF m n (mixF f g (K + 1) 0) := tabF_congr fun i j _ hj => by
  unfold mixF
  by_cases h : i < K ∨ (i = K ∧ j < n)
  · rw [if_pos h, if_pos (by omega)]
  · rw [if_neg h, if_neg (by omega)]
theorem mixF_all {f g : Nat → Nat → Int} {m n : Nat} : tabF m n (mixF f g m 0) = tabF m n f := tabF_congr fun i j hi _ => by simp [mixF, hi]
theorem mixF_set {f g : Nat → Nat → Int} {K J a b : Nat} : mixF f g K (J + 1) a b = if a = K ∧ b = J then f K J else mixF f g K J a b := by
  unfold mixF
  by_cases h : a = K ∧ b = J
  · obtain ⟨rfl, rfl⟩ := h; simp
  · rw [if_neg h]
    by_cases h2 : a < K ∨ (a = K ∧ b < J)
    · rw [if_pos h2, if_pos (by omega)]
    · rw [if_neg h2, if_neg (by omega)]
end Go.Proofs.Ytpgcmpbamlnkkaa
end

section
namespace Go.Proofs.Ytpgcmpbamlnkkaa
set_option linter.unusedSimpArgs false
set_option linter.unusedVariables false
open Go Go.RowKit
attribute [local irreducible] AL AD AW OpOk Le AC thenQ blockQ EndQ

def okP (r e : Nat) (p : Pl) : Prop := p.t = e ∧ p.k + 1 ≤ r
instance {r e : Nat} {p : Pl} : Decidable (okP r e p) := by unfold okP; exact inferInstance
/-! ### Causes -/
/-- Does a cause end at this firing? -/
def stopC (t : List (List Int)) (xs : List Pl) (r e : Nat) : Prop := (alA t r e xs xs.length).2 < 0 ∨ (alA t r e xs xs.length).1 < entN t (r - 1) e
instance {t : List (List Int)} {xs : List Pl} {r e : Nat} : Decidable (stopC t xs r e) := by unfold stopC; exact inferInstance
theorem ord_idx {n : Nat} {xs : List Pl} {ord : List Nat} (h : ordR n xs = some ord) : ord.length = n ∧ (∀ e u, e < n → u < n → wPl xs e u = true → ord.idxOf u < ord.idxOf e) ∧ ∀ e, e < n → ord.idxOf e < n := by
  obtain ⟨h1, h2⟩ := ordF_some OrdOk.nil h
  have hl : ord.length = n := by simpa using h2
  have hm : ∀ e, e < n → e ∈ ord := fun e he => nodup_full h1.nd h1.lt hl he
  refine ⟨hl, fun e u he hu hw => ?_, fun e he => by have := List.idxOf_lt_length_iff.2 (hm e he); omega⟩
  have hi := List.idxOf_lt_length_iff.2 (hm e he)
  have hg : ord.getD (ord.idxOf e) 0 = e := by rw [List.getD_eq_getElem?_getD, List.getElem?_eq_getElem hi, Option.getD_some]; exact List.getElem_idxOf hi
  have hu2 := h1.wait _ hi u hu (by rw [hg]; exact hw)
  obtain ⟨j, hj, hj2⟩ := List.getElem_of_mem hu2
  simp only [List.length_take] at hj
  rw [List.getElem_take] at hj2
  have h3 : ord.idxOf u ≤ j := by
    refine Nat.le_of_not_lt fun h => ?_
    have h4 := List.not_of_lt_findIdx (p := fun x => x == u) (xs := ord) (i := j) h
    rw [hj2] at h4; simp at h4
  omega
end Go.Proofs.Ytpgcmpbamlnkkaa
end

section
namespace Go.Proofs.Ytpgcmpbamlnkkaa
set_option linter.unusedSimpArgs false
set_option linter.unusedVariables false
open Go Go.RowKit
attribute [local irreducible] AL AD AW OpOk Le AC thenQ blockQ EndQ

/-! ### Fractions -/
/-! ### Live graphs -/
theorem live_of {n : Nat} {xs : List Pl} (hv : ∀ p ∈ xs, okPl n p) (hl : liveB n xs = true) : Live xs n := by
  have h1 := liveB_ord hv
  rw [hl] at h1
  obtain ⟨ord, ho⟩ := Option.isSome_iff_exists.1 h1.symm
  obtain ⟨_, h2, _⟩ := ord_idx ho
  refine ⟨fun i hi => okPl_at hv i hi, fun c u hc hw => walk_tok (pos := fun e => (ord.idxOf e.toNat : Int)) (fun i hi => (okPl_at hv i hi).2.2.2.1) (fun i hi hk => ?_) hc hw⟩
  have ⟨⟨g1, g2⟩, ⟨g3, g4⟩, _⟩ := okPl_at hv i hi
  have := h2 (plA xs i).t.toNat (plA xs i).f.toNat (by omega) (by omega) (by
    unfold wPl
    rw [List.any_eq_true]
    exact ⟨plA xs i, by unfold plA; rw [List.getElem?_eq_getElem hi]; exact List.getElem_mem hi, by simp [hk, Int.toNat_of_nonneg g1, Int.toNat_of_nonneg g3]⟩)
  omega
theorem Live.over {n : Nat} {xs : List Pl} (hl : Live xs n) {u1 u2 over : Int} {c : List Nat} (hc : Circ xs c) (hw : over < wgt xs u1 u2 c) : overC xs u1 u2 over n ≠ [] := overC_finds hc (hl.circ hc).1 hw
end Go.Proofs.Ytpgcmpbamlnkkaa
end

section
namespace Go.Proofs.Ytpgcmpbamlnkkaa
open Go Go.RowKit
set_option linter.unusedSimpArgs false
set_option linter.unusedVariables false
attribute [local irreducible] AL AD AW OpOk Le AC thenQ blockQ EndQ

end Go.Proofs.Ytpgcmpbamlnkkaa
end

section
namespace Go.Proofs.Ytpgcmpbamlnkkaa
set_option linter.unusedSimpArgs false
set_option linter.unusedVariables false
open Go Go.RowKit
attribute [local irreducible] AL AD AW OpOk Le AC thenQ blockQ EndQ

theorem live_ok {ev : Int} {xs : List Pl} (h : liveI ev xs = 0) : ∃ n : Nat, ev = n ∧ 1 ≤ n ∧ n ≤ 10 ∧ xs.length ≤ 30 ∧ (∀ p ∈ xs, okPl n p) ∧ Live xs n := by
  unfold liveI at h
  by_cases hg : isEG ev xs = true
  · obtain ⟨n, rfl, h1, h2, h3, h4⟩ := isEG_ok hg
    rw [if_pos hg] at h
    cases hl : liveB n xs
    · rw [hl] at h; simp at h
    · exact ⟨n, rfl, h1, h2, h3, h4, live_of h4 hl⟩
  · rw [if_neg hg] at h; simp at h
theorem ownPl_row {xs : List Pl} {i : Nat} (hi : i < xs.length) : (dobj 4 (xs.map Pl.row)).rows[0 + ((i : Nat) : Int).toNat]? = some [I (plA xs i).f, I (plA xs i).t, I (plA xs i).d, I (plA xs i).k] := by
  simp [dobj, plA, hi, Pl.row]
theorem ownPl_set {xs : List Pl} {i : Nat} {p : Pl} : (dobj 4 (xs.map Pl.row)).rows.set (0 + ((i : Nat) : Int).toNat) [I p.f, I p.t, I p.d, I p.k] = ((xs.set i p).map Pl.row).map fun r => r.map .d := by
  simp [dobj, List.map_set, Pl.row]
end Go.Proofs.Ytpgcmpbamlnkkaa
end

section
namespace Go.Proofs.Ytpgcmpbamlnkkaa
set_option linter.unusedSimpArgs false
set_option linter.unusedVariables false
open Go Go.RowKit
attribute [local irreducible] AL AD AW OpOk Le AC thenQ blockQ EndQ

abbrev srcO (code : List Int) (s : Src) : AObj := dobj 3 (srcR code s)
abbrev PO (xs : List Pl) : AObj := dobj 4 (xs.map Pl.row)
theorem next_ex {code : List Int} (hc : CodeOk code) {s : Src} (hs : SrcOk code s) (n : Int) : ∃ a s', 0 ≤ a ∧ a ≤ max (n - 1) 0 ∧ SrcOk code s' ∧ nxt code s n = (a, s') ∧ AC Try.prog 131 [Bx 3 0, I n] (srcH code s) (I a) (srcH code s') :=
  ⟨(nxt code s n).1, (nxt code s n).2, (nxt_ok hc hs n).1, (nxt_ok hc hs n).2.1, (nxt_ok hc hs n).2.2, rfl, l01Next_ac code hc s hs n⟩
theorem pick_ex {code : List Int} (hc : CodeOk code) {s : Src} (hs : SrcOk code s) (xs : List Int) (n : Int) (hn : (xs.length : Int) = n) (h0 : 0 < xs.length := by simp) (hx : xs.length ≤ 100 := by simp) :
    ∃ v s', v ∈ xs ∧ SrcOk code s' ∧ pick code s xs = v ∧ (nxt code s n).2 = s' ∧ AC Try.prog 132 [Bx 3 0, .own 1 ⟨1, []⟩ 0 xs.length] (upd (upd H0 ⟨1, []⟩ (some (IO xs))) ⟨0, []⟩ (some (dobj 3 (srcR code s)))) (I v) (srcH code s') := by
  subst hn
  refine ⟨pick code s xs, (nxt code s xs.length).2, ?_, (nxt_ok hc hs _).2.2, rfl, rfl, l01Pick_ac code hc s hs xs h0 hx⟩
  obtain ⟨b1, b2, b3⟩ := nxt_ok hc hs xs.length
  unfold pick
  rw [List.getElem?_eq_getElem (by omega), Option.getD_some]
  exact List.getElem_mem _
def itr {S : Type} (f : S → S) : Nat → S → S
  | 0, s => s
  | n + 1, s => f (itr f n s)
theorem itr_ok {S : Type} {f : S → S} {p : Nat → S → Prop} {s : S} (h0 : p 0 s) (h : ∀ k x, p k x → p (k + 1) (f x)) : ∀ n, p n (itr f n s)
  | 0 => h0
  | n + 1 => h n _ (itr_ok h0 h n)
/-- A place drawn. -/
def drPl (code : List Int) (ev : Int) (s : Src) : Pl × Src :=
  let a := nxt code s ev
  let b := nxt code a.2 ev
  let d := nxt code b.2 12
  let q := nxt code d.2 4
  let t := if b.1 ≤ a.1 then d.2 else q.2
  let x := nxt code t 2
  let y := nxt code x.2 3
  let k : Int × Src := if b.1 ≤ a.1 ∨ q.1 = 0 then (1 + x.1 * y.1, y.2) else (0, t)
  let z := nxt code k.2 30
  (⟨a.1, b.1, d.1, if z.1 = 0 then 0 else k.1⟩, z.2)
abbrev RSt := Src × List Pl
def drF (code : List Int) (ev : Int) (q : RSt) : RSt := ((drPl code ev q.1).2, q.2 ++ [(drPl code ev q.1).1])
/-- Places one behind the other: at most 31. -/
def drMany (code : List Int) : Nat → Nat → RSt → RSt
  | 0, _, q => q
  | f + 1, k, q => if (k : Int) < 22 + (nxt code q.1 9).1 then drMany code f (k + 1) ((nxt code q.1 9).2, q.2 ++ [⟨0, 0, k, 1⟩]) else ((nxt code q.1 9).2, q.2)
structure DrG where
  ev : Int
  xs : List Pl
  s : Src
def drEnd (code : List Int) (ev : Int) (q : RSt) : DrG :=
  let z := nxt code q.1 60
  let a := nxt code z.2 3
  if z.1 = 0 then ⟨pick code z.2 [0, 10, 11], q.2, a.2⟩
  else if z.1 = 1 then ⟨ev, q.2 ++ [⟨pick code z.2 [-1, 0, ev], 0, pick code a.2 [-1, 1000, 1001], 1⟩], (nxt code a.2 3).2⟩
  else if z.1 = 2 then ⟨ev, q.2 ++ [⟨0, 0, 0, pick code z.2 [5, 6, -1]⟩], a.2⟩
  else if z.1 = 3 then ⟨ev, (drMany code 31 0 (z.2, q.2)).2, (drMany code 31 0 (z.2, q.2)).1⟩
  else ⟨ev, q.2, z.2⟩
def dr11 (code : List Int) (s : Src) : DrG :=
  let e := nxt code s 5
  let n := nxt code e.2 9
  drEnd code (1 + e.1) (itr (drF code (1 + e.1)) n.1.toNat (n.2, []))
/-! ### Their sizes -/
structure DrPl (p : Pl) : Prop where
  f : -1 ≤ p.f ∧ p.f ≤ 100
  t : -1 ≤ p.t ∧ p.t ≤ 100
  d : -1 ≤ p.d ∧ p.d ≤ 1001
  k : -1 ≤ p.k ∧ p.k ≤ 6
structure RStOk (code : List Int) (m : Nat) (q : RSt) : Prop where
  s : SrcOk code q.1
  xs : ∀ p ∈ q.2, DrPl p
  len : q.2.length ≤ m
theorem RStOk.app {code : List Int} {m : Nat} {q : RSt} {p : Pl} {s : Src} (h : RStOk code m q) (hp : DrPl p) (hs : SrcOk code s) : RStOk code (m + 1) (s, q.2 ++ [p]) :=
  ⟨hs, fun p' hp' => by
    rcases List.mem_append.1 hp' with h' | h'
    · exact h.xs p' h'
    · simp at h'; subst h'; exact hp, by have := h.len; simp; omega⟩
theorem drPl_ok {code : List Int} (hc : CodeOk code) {s : Src} (hs : SrcOk code s) {ev : Int} (he : ev ≤ 100) : DrPl (drPl code ev s).1 ∧ SrcOk code (drPl code ev s).2 := by
  obtain ⟨a1, a2, a3⟩ := nxt_ok hc hs ev
  obtain ⟨b1, b2, b3⟩ := nxt_ok hc a3 ev
  obtain ⟨d1, d2, d3⟩ := nxt_ok hc b3 12
  obtain ⟨q1, q2, q3⟩ := nxt_ok hc d3 4
  have ht : SrcOk code (if (nxt code (nxt code s ev).2 ev).1 ≤ (nxt code s ev).1 then (nxt code (nxt code (nxt code s ev).2 ev).2 12).2 else (nxt code (nxt code (nxt code (nxt code s ev).2 ev).2 12).2 4).2) := by split <;> assumption
  obtain ⟨x1, x2, x3⟩ := nxt_ok hc ht 2
  obtain ⟨y1, y2, y3⟩ := nxt_ok hc x3 3
  unfold drPl
  simp only
  generalize (nxt code (if (nxt code (nxt code s ev).2 ev).1 ≤ (nxt code s ev).1 then (nxt code (nxt code (nxt code s ev).2 ev).2 12).2 else (nxt code (nxt code (nxt code (nxt code s ev).2 ev).2 12).2 4).2) 2) = X at *
  generalize (nxt code X.2 3) = Y at *
  have hxy : 0 ≤ X.1 * Y.1 ∧ X.1 * Y.1 ≤ 2 := by
    have e1 : X.1 ≤ 1 := by omega
    have e2 : Y.1 ≤ 2 := by omega
    have := Int.mul_nonneg x1 y1
    have := Int.mul_le_mul_of_nonneg_right e1 y1
    omega
  generalize X.1 * Y.1 = m at *
  split
  · obtain ⟨z1, z2, z3⟩ := nxt_ok hc y3 30
    exact ⟨⟨by simp only; omega, by simp only; omega, by simp only; omega, by simp only; split <;> omega⟩, z3⟩
  · obtain ⟨z1, z2, z3⟩ := nxt_ok hc ht 30
    exact ⟨⟨by simp only; omega, by simp only; omega, by simp only; omega, by simp only; split <;> omega⟩, z3⟩
theorem drF_ok {code : List Int} (hc : CodeOk code) {ev : Int} (he : ev ≤ 100) {m : Nat} {q : RSt} (h : RStOk code m q) : RStOk code (m + 1) (drF code ev q) :=
  h.app (drPl_ok hc h.s he).1 (drPl_ok hc h.s he).2
theorem drMany_ok {code : List Int} (hc : CodeOk code) : ∀ (f k : Nat) (q : RSt) (m : Nat), f + k = 31 → RStOk code m q → RStOk code (m + f) (drMany code f k q)
  | 0, k, q, m, _, h => h
  | f + 1, k, q, m, hk, h => by
    obtain ⟨a1, a2, a3⟩ := nxt_ok hc h.s 9
    unfold drMany
    split
    · have := drMany_ok hc f (k + 1) ((nxt code q.1 9).2, q.2 ++ [⟨0, 0, k, 1⟩]) (m + 1) (by omega) (h.app ⟨by simp, by simp, by simp only; omega, by simp⟩ a3)
      rwa [show m + 1 + f = m + (f + 1) by omega] at this
    · exact ⟨a3, h.xs, by have := h.len; simp only; omega⟩
theorem pick_mem {code : List Int} (hc : CodeOk code) {s : Src} (hs : SrcOk code s) {xs : List Int} (h0 : 0 < xs.length) : pick code s xs ∈ xs := by
  obtain ⟨b1, b2, b3⟩ := nxt_ok hc hs xs.length
  unfold pick
  rw [List.getElem?_eq_getElem (by omega), Option.getD_some]
  exact List.getElem_mem _
structure DrOk (code : List Int) (g : DrG) : Prop where
  ev : 0 ≤ g.ev ∧ g.ev ≤ 11
  xs : ∀ p ∈ g.xs, DrPl p
  len : g.xs.length ≤ 40
  s : SrcOk code g.s
theorem drEnd_ok {code : List Int} (hc : CodeOk code) {ev : Int} (he : 0 ≤ ev ∧ ev ≤ 5) {q : RSt} (h : RStOk code 8 q) : DrOk code (drEnd code ev q) := by
  obtain ⟨z1, z2, z3⟩ := nxt_ok hc h.s 60
  obtain ⟨y1, y2, y3⟩ := nxt_ok hc z3 3
  obtain ⟨x1, x2, x3⟩ := nxt_ok hc y3 3
  have hl := h.len
  unfold drEnd
  simp only
  split
  · have := pick_mem hc z3 (xs := [0, 10, 11]) (by simp)
    simp at this
    exact ⟨by simp only; omega, h.xs, by simp only; omega, y3⟩
  · split
    · have h1 := pick_mem hc z3 (xs := [-1, 0, ev]) (by simp)
      have h2 := pick_mem hc y3 (xs := [-1, 1000, 1001]) (by simp)
      simp at h1 h2
      have := h.app (p := ⟨pick code (nxt code q.1 60).2 [-1, 0, ev], 0, pick code (nxt code (nxt code q.1 60).2 3).2 [-1, 1000, 1001], 1⟩) (s := (nxt code (nxt code (nxt code q.1 60).2 3).2 3).2) ⟨by simp only; omega, by simp, by simp only; omega, by simp⟩ x3
      exact ⟨by simp only; omega, this.xs, by have := this.len; simp only at this ⊢; omega, x3⟩
    · split
      · have h1 := pick_mem hc z3 (xs := [5, 6, -1]) (by simp)
        simp at h1
        have := h.app (p := ⟨0, 0, 0, pick code (nxt code q.1 60).2 [5, 6, -1]⟩) (s := (nxt code (nxt code q.1 60).2 3).2) ⟨by simp, by simp, by simp, by simp only; omega⟩ y3
        exact ⟨by simp only; omega, this.xs, by have := this.len; simp only at this ⊢; omega, y3⟩
      · split
        · have := drMany_ok hc 31 0 ((nxt code q.1 60).2, q.2) 8 rfl ⟨z3, h.xs, hl⟩
          exact ⟨by simp only; omega, this.xs, by have := this.len; simp only; omega, this.s⟩
        · exact ⟨by simp only; omega, h.xs, by simp only; omega, z3⟩
theorem drI_ok {code : List Int} (hc : CodeOk code) {ev : Int} (he : ev ≤ 100) {s : Src} (hs : SrcOk code s) (n : Nat) : RStOk code n (itr (drF code ev) n (s, [])) :=
  itr_ok (p := fun k q => RStOk code k q) ⟨hs, by simp, by simp⟩ (fun k x h => drF_ok hc he h) n
theorem dr11_ok {code : List Int} (hc : CodeOk code) {s : Src} (hs : SrcOk code s) : DrOk code (dr11 code s) := by
  obtain ⟨e1, e2, e3⟩ := nxt_ok hc hs 5
  obtain ⟨n1, n2, n3⟩ := nxt_ok hc e3 9
  have h := drI_ok hc (ev := 1 + (nxt code s 5).1) (by omega) n3 (nxt code (nxt code s 5).2 9).1.toNat
  exact drEnd_ok hc (by omega) ⟨h.s, h.xs, by have := h.len; omega⟩
end Go.Proofs.Ytpgcmpbamlnkkaa
end

section
namespace Go.Proofs.Ytpgcmpbamlnkkaa
set_option linter.unusedSimpArgs false
set_option linter.unusedVariables false
open Go Go.RowKit
attribute [local irreducible] AL AD AW OpOk Le AC thenQ blockQ EndQ

section
variable {P : Program} {o : Oper} {A : Operand → AV} {H : Heap} {new : Nat}
theorem Ok.bs3 {t e : TypeId} {k b : Nat} {z : Value} {x y w : Operand} {n1 n2 n3 : Int} (ho : o.op = .buildSlice t 3 #[(0, x), (1, y), (2, w)]) [h : TySlice P t e k b z] (hx : A x = I n1) (hy : A y = I n2) (hw : A w = I n3) (hk : k = 1) :
    OpOk P o A [] H new (.own k ⟨new, []⟩ 0 3) [.one ⟨new, []⟩ (some (IO [n1, n2, n3]))] := by
  subst hk
  have := OpOk.buildSlice (P := P) (H := H) (new := new) (A := A) [x, y, w] ho rfl rfl (by decide) (by intro p hp; simp at hp; rcases hp with rfl | rfl | rfl <;> simp only [hx, hy, hw] <;> rfl) (by intro p hp; simp at hp; rcases hp with rfl | rfl | rfl <;> simp only [hx, hy, hw] <;> rfl)
  simpa [hx, hy, hw, AV.cells, dobj] using this
/-- The draw of a number. -/
theorem Nx {fo x y : Operand} {ts : Array TypeId} {f : FuncId} {code : List Int} {s s' : Src} {n a : Int} (hc : AC P f [Bx 3 0, I n] (srcH code s) (I a) (srcH code s')) (ho : o.op = .call { callee := .value fo, args := #[x, y], argTypes := ts }) [FnBody P f] (hfo : A fo = .clo (.func f) [] [])
    (hx : A x = Bx 3 0) (hy : A y = I n) (hl : H ⟨0, []⟩ = some (srcO code s)) : OpOk P o A [⟨0, []⟩] H new (I a) [.one ⟨0, []⟩ (some (srcO code s'))] :=
  OpOk.callM (xs := [x, y]) ho hfo hc hl rfl (by
    show ARs _ _ _ _ _ [A x, A y]
    rw [hx, hy]; exact .cons (AR.ptr 3 ⟨0, []⟩ 0 0 rfl) (.cons (.dd _) .nil))
/-- One of some numbers. -/
theorem Kx {fo x y : Operand} {ts : Array TypeId} {f : FuncId} {code : List Int} {s s' : Src} {m : Nat} {xs : List Int} {a : Int} {l : Loc} (hc : AC P f [Bx 3 0, .own 1 ⟨1, []⟩ 0 m] (upd (upd H0 ⟨1, []⟩ (some (IO xs))) ⟨0, []⟩ (some (srcO code s))) (I a) (srcH code s')) (ho : o.op = .call { callee := .value fo, args := #[x, y], argTypes := ts }) [FnBody P f] (hfo : A fo = .clo (.func f) [] [])
    (hx : A x = Bx 3 0) (hy : A y = .own 1 l 0 m) (hl : H ⟨0, []⟩ = some (srcO code s)) (hl2 : H l = some (IO xs)) (hne : (⟨0, []⟩ : Loc) ≠ l) : OpOk P o A [⟨0, []⟩, l] H new (I a) [.one l none, .one ⟨0, []⟩ (some (srcO code s'))] :=
  OpOk.callM2 (xs := [x, y]) ho hfo hc hl hl2 hne rfl (by
    show ARs _ _ _ _ _ [A x, A y]
    rw [hx, hy]
    refine .cons ?_ (.cons ?_ .nil)
    · have := AR.ptr (H := H) (lent := fun _ => False) (τ := two ⟨0, []⟩ l) (L := (· ∈ [(⟨0, []⟩ : Loc), ⟨1, []⟩])) 3 ⟨0, []⟩ 0 0 (by simp)
      rwa [show two ⟨0, []⟩ l ⟨0, []⟩ = ⟨0, []⟩ from if_pos rfl] at this
    · have := AR.own (H := H) (lent := fun _ => False) (τ := two ⟨0, []⟩ l) (L := (· ∈ [(⟨0, []⟩ : Loc), ⟨1, []⟩])) 1 ⟨1, []⟩ 0 m (by simp)
      rwa [show two ⟨0, []⟩ l ⟨1, []⟩ = l from if_neg (by decide)] at this)
end
set_option maxHeartbeats 2000000 in
theorem l11Draw_ac (code : List Int) (hc : CodeOk code) (s : Src) (hs : SrcOk code s) : AC Try.prog 196 [Bx 3 0] (srcH code s) (.agg [I (dr11 code s).ev, .own 4 ⟨1, []⟩ 0 (dr11 code s).xs.length]) (heapL [(⟨0, []⟩, ⟨0, []⟩, srcO code (dr11 code s).s), (⟨1, []⟩, ⟨1, []⟩, PO (dr11 code s).xs)]) := by
  unfold dr11
  obtain ⟨e, s1, e1, e2, h1, q1, N1⟩ := next_ex hc hs 5
  rw [q1]; simp only
  obtain ⟨m, s2, m1, m2, h2, q2, N2⟩ := next_ex hc h1 9
  rw [q2]; simp only
  obtain ⟨n, rfl⟩ : ∃ n : Nat, m = n := ⟨m.toNat, by omega⟩
  rw [Int.toNat_natCast]
  have hF := drI_ok hc (ev := 1 + e) (by omega) h2 n
  generalize hqF : itr (drF code (1 + e)) n (s2, []) = qF at hF
  show AC _ _ _ (heapL [(⟨0, []⟩, ⟨0, []⟩, srcO code s)]) _ _
  refine AC.of_body 1 Try.func196 rfl (fun l h => by simp [heapL, upd] at h; simp [h]) (fun C hC => ?_)
  simp only [startFr, Try.ntmps196, List.length_cons, List.length_nil, Nat.reduceAdd, Nat.reduceSub, List.replicate_succ, List.replicate_zero, List.cons_append, List.nil_append]
  have hD : ∀ l, C.D0 l → l = ⟨0, []⟩ := fun l h => by have := (hC l).1 h; simp [heapL, upd] at this; exact this
  repeat' (first | ((first | apply Ba | (apply Bb; (· rfl); (· rfl)) | (apply Bc; (· exact nxE)) | (apply Bd; (· rfl); (· rfl); (· exact nxE))); (· first | exact Nx N1 rfl rfl rfl rfl rfl | exact Nx N2 rfl rfl rfl rfl rfl | exact Ok.pe)) | ((first | apply Ca | (apply Cb; (· exact nxE))); (· first | exact Nx N1 rfl rfl rfl rfl rfl | exact Nx N2 rfl rfl rfl rfl rfl | exact Ok.e0)) | refine Sx ?_ | (refine Sy (fun h => ?_) (fun h => ?_) <;> try (exfalso; omega; done)) | refine Sz (fun h => ?_) (fun h => ?_))
  refine AW.loop (X := {k : Nat // k ≤ n}) (fun k => ⟨[Bx 3 0, Oo, Bx 2 1, Bx 2 2, I ((n : Int) - (k.1 : Nat)), Oo, Oo, Oo, Oo, Oo, Oo, Oo, Oo, Oo, Oo, Oo, Oo, Oo, Oo, Oo, Oo, Oo, Oo, Oo, Oo, Oo, Oo, Oo, Oo, Oo, Oo, Oo, Oo, Oo, Oo, Oo, Oo, Oo, Oo, Oo, Oo, Oo, Oo, Oo, Oo, Oo, Oo, Oo, Oo, Oo, Oo, Oo, Oo, Oo, Oo, Oo, Oo, Oo, Oo, Oo, Oo, Oo, Oo, Oo, Oo, Oo, Oo, Oo, Oo, Oo, Oo, Oo, Oo, Oo, Oo, Oo, Oo, Oo, Oo, Oo, Oo, Oo, Oo, Oo, Oo, Oo, Oo, Oo, Oo, Oo, Oo, Oo, Oo, Oo, Oo, Oo, Oo, Oo, Oo, Oo, Oo, Oo, Oo, Oo, Oo, Oo, Oo, Oo], heapL [(⟨0, []⟩, ⟨0, []⟩, srcO code (itr (drF code (1 + e)) k.1 (s2, [])).1), (⟨1, []⟩, ⟨1, []⟩, ⟨2, [[I 0, nilS]]⟩), (⟨2, []⟩, ⟨2, []⟩, ⟨2, [[I (1 + e), .own 4 ⟨3, []⟩ 0 (itr (drF code (1 + e)) k.1 (s2, [])).2.length]]⟩), (⟨3, []⟩, ⟨3, []⟩, PO (itr (drF code (1 + e)) k.1 (s2, [])).2)], 900⟩) (fun k => n - k.1) ⟨0, Nat.zero_le _⟩ ?_ (fun k => ?_)
  ·
    (apply Le.headZ [_, _, _, _] rfl)
    all_goals (try dsimp only [srcs])
    (case' hfr | hob => (repeat' (first | refine La ?_ ?_ | exact Lc | refine Lo ?_ | refine ⟨⟨_, rfl, ?_⟩, ?_⟩ | refine Lx ?_)))
    all_goals (first | (rfl) | exact Ld)
  obtain ⟨k, hk⟩ := k
  simp only
  by_cases hlt : k < n
  · have hI := drI_ok hc (ev := 1 + e) (by omega) h2 k
    have hst : itr (drF code (1 + e)) (k + 1) (s2, []) = drF code (1 + e) (itr (drF code (1 + e)) k (s2, [])) := rfl
    generalize itr (drF code (1 + e)) k (s2, []) = q at hI hst ⊢
    obtain ⟨s3, ys⟩ := q
    obtain ⟨i1, i2, i3⟩ := hI
    simp only at i1 i2 i3 ⊢
    obtain ⟨a, s4, a1, a2, h4, q4, N4⟩ := next_ex hc i1 (1 + e)
    obtain ⟨b, s5, b1, b2, h5, q5, N5⟩ := next_ex hc h4 (1 + e)
    obtain ⟨d, s6, d1, d2, h6, q6, N6⟩ := next_ex hc h5 12
    obtain ⟨f, s7, f1, f2, h7, q7, N7⟩ := next_ex hc h6 4
    obtain ⟨t, ht⟩ : ∃ t, t = if b ≤ a then s6 else s7 := ⟨_, rfl⟩
    have h8 : SrcOk code t := by rw [ht]; split <;> assumption
    obtain ⟨x, s9, x1, x2, h9, q9, N9⟩ := next_ex hc h8 2
    obtain ⟨y, s10, y1, y2, h10, q10, N10⟩ := next_ex hc h9 3
    have hxy : 0 ≤ x * y ∧ x * y ≤ 2 := by
      have e1 : x ≤ 1 := by omega
      have := Int.mul_nonneg x1 y1
      have := Int.mul_le_mul_of_nonneg_right e1 y1
      omega
    obtain ⟨u, hu⟩ : ∃ u, u = if b ≤ a ∨ f = 0 then s10 else t := ⟨_, rfl⟩
    have h11 : SrcOk code u := by rw [hu]; split <;> assumption
    obtain ⟨z, s12, z1, z2, h12, q12, N12⟩ := next_ex hc h11 30
    have hp : drPl code (1 + e) s3 = (⟨a, b, d, if z = 0 then 0 else if b ≤ a ∨ f = 0 then 1 + x * y else 0⟩, s12) := by
      have h20 : (if b ≤ a ∨ f = 0 then ((1 + x * y, s10) : Int × Src) else (0, t)) = (if b ≤ a ∨ f = 0 then 1 + x * y else 0, u) := by rw [hu]; split <;> rfl
      unfold drPl
      simp only [q4, q5, q6, q7, ← ht, q9, q10, h20, q12]
    have hst2 : itr (drF code (1 + e)) (k + 1) (s2, []) = (s12, ys ++ [⟨a, b, d, if z = 0 then 0 else if b ≤ a ∨ f = 0 then 1 + x * y else 0⟩]) := by
      rw [hst]; unfold drF; rw [hp]
    clear hst hp
    have hyl : (ys.map Pl.row).length = ys.length := List.length_map _
    have hcs : (t = s6 ∧ b ≤ a) ∨ (t = s7 ∧ ¬ b ≤ a) := by rw [ht]; by_cases hb : b ≤ a <;> simp [hb]
    have hcu : (u = s10 ∧ (b ≤ a ∨ f = 0)) ∨ (u = t ∧ ¬ (b ≤ a ∨ f = 0)) := by rw [hu]; by_cases hb : b ≤ a ∨ f = 0 <;> simp [hb]
    clear ht hu
    rcases hcs with ⟨rfl, hb1⟩ | ⟨rfl, hb1⟩ <;> rcases hcu with ⟨rfl, hb2⟩ | ⟨rfl, hb2⟩ <;> try (exfalso; omega; done)
    all_goals
      repeat' (first | ((first | apply Ba | (apply Bb; (· rfl); (· rfl)) | (apply Bc; (· exact nxE)) | (apply Bd; (· rfl); (· rfl); (· exact nxE))); (· first | exact Nx N4 rfl rfl rfl rfl rfl | exact Nx N5 rfl rfl rfl rfl rfl | exact Nx N6 rfl rfl rfl rfl rfl | exact Nx N7 rfl rfl rfl rfl rfl | exact Nx N9 rfl rfl rfl rfl rfl | exact Nx N10 rfl rfl rfl rfl rfl | exact Nx N12 rfl rfl rfl rfl rfl | exact Ok.append1 (row := [DI a, DI b, DI d, DI _]) rfl rfl (by decide) rfl rfl hyl rfl rfl rfl (by rfl) (by omega) (by omega) | exact Ok.pe)) | ((first | apply Ca | (apply Cb; (· exact nxE))); (· first | exact Nx N4 rfl rfl rfl rfl rfl | exact Nx N5 rfl rfl rfl rfl rfl | exact Nx N6 rfl rfl rfl rfl rfl | exact Nx N7 rfl rfl rfl rfl rfl | exact Nx N9 rfl rfl rfl rfl rfl | exact Nx N10 rfl rfl rfl rfl rfl | exact Nx N12 rfl rfl rfl rfl rfl | exact Ok.append1 (row := [DI a, DI b, DI d, DI _]) rfl rfl (by decide) rfl rfl hyl rfl rfl rfl (by rfl) (by omega) (by omega) | exact Ok.e0)) | refine Sx ?_ | (refine Sy (fun h => ?_) (fun h => ?_) <;> try (exfalso; omega; done)) | refine Sz (fun h => ?_) (fun h => ?_))
    all_goals
      refine ⟨⟨k + 1, by omega⟩, ?_, by simp only; omega⟩
      simp only [hst2]
      (apply Le.headZ [_, _, _, _] rfl)
      all_goals (try dsimp only [srcs])
      (case' hfr | hob => (repeat' (first | refine La ?_ ?_ | exact Lc | refine Lo ?_ | refine ⟨⟨_, rfl, ?_⟩, ?_⟩ | refine Lx ?_)))
      all_goals (first | ((simp [Pl.row, *]; done)) | exact Ld)
  · obtain rfl : k = n := by omega
    rw [hqF]
    obtain ⟨s3, ys⟩ := qF
    obtain ⟨i1, i2, i3⟩ := hF
    simp only at i1 i2 i3 ⊢
    have hyl : (ys.map Pl.row).length = ys.length := List.length_map _
    obtain ⟨z, s4, z1, z2, h4, q4, N4⟩ := next_ex hc i1 60
    obtain ⟨a1, s5, _, h5, p1, q5, K1⟩ := pick_ex hc h4 [0, 10, 11] 3 rfl
    obtain ⟨a2, s6, _, h6, p2, q6, K2⟩ := pick_ex hc h4 [-1, 0, 1 + e] 3 rfl
    obtain ⟨a4, s8, _, h8, p4, q8, K4⟩ := pick_ex hc h4 [5, 6, -1] 3 rfl
    obtain rfl : s5 = s6 := q5.symm.trans q6
    obtain rfl : s5 = s8 := q5.symm.trans q8
    obtain ⟨a3, s7, _, h7, p3, q7, K3⟩ := pick_ex hc h5 [-1, 1000, 1001] 3 rfl
    unfold drEnd
    simp only [q4, q5, q7, p1, p2, p3, p4]
    have hm := drMany_ok hc 31 0 (s4, ys) k (by omega) ⟨h4, i2, i3⟩
    obtain ⟨R, hR⟩ : ∃ R, R = drMany code 31 0 (s4, ys) := ⟨_, rfl⟩
    rw [← hR] at hm ⊢
    repeat' (first | ((first | apply Ba | (apply Bb; (· rfl); (· rfl)) | (apply Bc; (· exact nxE)) | (apply Bd; (· rfl); (· rfl); (· exact nxE))); (· first | exact Nx N4 rfl rfl rfl rfl rfl | exact Kx K1 rfl rfl rfl rfl rfl rfl (by decide) | exact Kx K2 rfl rfl rfl rfl rfl rfl (by decide) | exact Kx K3 rfl rfl rfl rfl rfl rfl (by decide) | exact Kx K4 rfl rfl rfl rfl rfl rfl (by decide) | exact Ok.bs3 rfl rfl rfl rfl rfl | exact Ok.append1 (row := [DI _, DI _, DI _, DI _]) rfl rfl (by decide) rfl rfl hyl rfl rfl rfl (by rfl) (by omega) (by omega) | exact Ok.pe)) | ((first | apply Ca | (apply Cb; (· exact nxE))); (· first | exact Nx N4 rfl rfl rfl rfl rfl | exact Kx K1 rfl rfl rfl rfl rfl rfl (by decide) | exact Kx K2 rfl rfl rfl rfl rfl rfl (by decide) | exact Kx K3 rfl rfl rfl rfl rfl rfl (by decide) | exact Kx K4 rfl rfl rfl rfl rfl rfl (by decide) | exact Ok.bs3 rfl rfl rfl rfl rfl | exact Ok.append1 (row := [DI _, DI _, DI _, DI _]) rfl rfl (by decide) rfl rfl hyl rfl rfl rfl (by rfl) (by omega) (by omega) | exact Ok.e0)) | refine Sx ?_ | (refine Sy (fun h => ?_) (fun h => ?_) <;> try (exfalso; omega; done)) | refine Sz (fun h => ?_) (fun h => ?_))
    rotate_left 3
    · rw [if_neg (by assumption), if_neg (by assumption), if_neg (by assumption), if_pos (by assumption)]
      refine AW.loop (X := {p : Nat × RSt // p.1 ≤ 30 ∧ drMany code (31 - p.1) p.1 p.2 = R ∧ RStOk code (k + p.1) p.2}) (fun p => ⟨[Bx 3 0, Oo, Bx 2 1, Bx 2 2, Oo, Oo, I p.1.1, Oo, Oo, Oo, Oo, Oo, Oo, Oo, Oo, Oo, Oo, Oo, Oo, Oo, Oo, Oo, Oo, Oo, Oo, Oo, Oo, Oo, Oo, Oo, Oo, Oo, Oo, Oo, Oo, Oo, Oo, Oo, Oo, Oo, Oo, Oo, Oo, Oo, Oo, Oo, Oo, Oo, Oo, Oo, Oo, Oo, Oo, Oo, Oo, Oo, Oo, Oo, Oo, Oo, Oo, Oo, Oo, Oo, Oo, Oo, Oo, Oo, Oo, Oo, Oo, Oo, Oo, Oo, Oo, Oo, Oo, Oo, Oo, Oo, Oo, Oo, Oo, Oo, Oo, Oo, Oo, Oo, Oo, Oo, Oo, Oo, Oo, Oo, Oo, Oo, Oo, Oo, Oo, Oo, Oo, Oo, Oo, Oo, Oo, Oo, Oo, Oo], heapL [(⟨0, []⟩, ⟨0, []⟩, srcO code p.1.2.1), (⟨1, []⟩, ⟨1, []⟩, ⟨2, [[I 0, nilS]]⟩), (⟨2, []⟩, ⟨2, []⟩, ⟨2, [[I (1 + e), .own 4 ⟨3, []⟩ 0 p.1.2.2.length]]⟩), (⟨3, []⟩, ⟨3, []⟩, PO p.1.2.2)], 900⟩) (fun p => 31 - p.1.1) ⟨(0, s4, ys), by simp, hR.symm, h4, i2, i3⟩ ?_ (fun p => ?_)
      ·
        (apply Le.headZ [_, _, _, _] rfl)
        all_goals (try dsimp only [srcs])
        (case' hfr | hob => (repeat' (first | refine La ?_ ?_ | exact Lc | refine Lo ?_ | refine ⟨⟨_, rfl, ?_⟩, ?_⟩ | refine Lx ?_)))
        all_goals (first | (rfl) | exact Ld)
      obtain ⟨⟨j, s10, us⟩, j1, j2, ⟨g1, g2, g3⟩⟩ := p
      simp only at j1 j2 g1 g2 g3 ⊢
      obtain ⟨y, s11, y1, y2, h11, q11, N11⟩ := next_ex hc g1 9
      have hul : (us.map Pl.row).length = us.length := List.length_map _
      by_cases hlt2 : (j : Int) < 22 + y
      · have hst : drMany code (31 - j) j (s10, us) = drMany code (31 - (j + 1)) (j + 1) (s11, us ++ [⟨0, 0, j, 1⟩]) := by
          rw [show 31 - j = (31 - (j + 1)) + 1 by omega, drMany]
          simp only [q11]
          rw [if_pos hlt2]
        rw [hst] at j2
        repeat' (first | ((first | apply Ba | (apply Bb; (· rfl); (· rfl)) | (apply Bc; (· exact nxE)) | (apply Bd; (· rfl); (· rfl); (· exact nxE))); (· first | exact Nx N11 rfl rfl rfl rfl rfl | exact Ok.append1 (row := [DI 0, DI 0, DI j, DI 1]) rfl rfl (by decide) rfl rfl hul rfl rfl rfl (by rfl) (by omega) (by omega) | exact Ok.pe)) | ((first | apply Ca | (apply Cb; (· exact nxE))); (· first | exact Nx N11 rfl rfl rfl rfl rfl | exact Ok.append1 (row := [DI 0, DI 0, DI j, DI 1]) rfl rfl (by decide) rfl rfl hul rfl rfl rfl (by rfl) (by omega) (by omega) | exact Ok.e0)) | refine Sx ?_ | (refine Sy (fun h => ?_) (fun h => ?_) <;> try (exfalso; omega; done)) | refine Sz (fun h => ?_) (fun h => ?_))
        refine ⟨⟨(j + 1, s11, us ++ [⟨0, 0, j, 1⟩]), by simp only; omega, j2, h11, fun p hp => ?_, by simp; omega⟩, ?_, by simp only; omega⟩
        · rcases List.mem_append.1 hp with h | h
          · exact g2 p h
          · simp at h; subst h; exact ⟨by simp, by simp, by simp only; omega, by simp⟩
        (apply Le.headZ [_, _, _, _] rfl)
        all_goals (try dsimp only [srcs])
        (case' hfr | hob => (repeat' (first | refine La ?_ ?_ | exact Lc | refine Lo ?_ | refine ⟨⟨_, rfl, ?_⟩, ?_⟩ | refine Lx ?_)))
        all_goals (first | ((simp [Pl.row, *]; done)) | exact Ld)
      · have hst : R = (s11, us) := by
          rw [← j2]
          rw [show 31 - j = (31 - (j + 1)) + 1 by omega, drMany]
          simp only [q11]
          rw [if_neg hlt2]
        rw [hst]
        repeat' (first | ((first | apply Ba | (apply Bb; (· rfl); (· rfl)) | (apply Bc; (· exact nxE)) | (apply Bd; (· rfl); (· rfl); (· exact nxE))); (· first | exact Nx N11 rfl rfl rfl rfl rfl | exact Ok.pe)) | ((first | apply Ca | (apply Cb; (· exact nxE))); (· first | exact Nx N11 rfl rfl rfl rfl rfl | exact Ok.e0)) | refine Sx ?_ | (refine Sy (fun h => ?_) (fun h => ?_) <;> try (exfalso; omega; done)) | refine Sz (fun h => ?_) (fun h => ?_))
        refine Ya ?_
        (apply Le.head [(⟨0, []⟩, ⟨0, []⟩, srcO code s11), (⟨1, []⟩, ⟨3, []⟩, PO us)])
        (case' hfr | hob => (repeat' (first | refine La ?_ ?_ | exact Lc | refine Lo ?_ | refine ⟨⟨_, rfl, ?_⟩, ?_⟩ | refine Lx ?_)))
        all_goals (first | exact Ld | ((simp [Pl.row, *]; done)))
    rotate_left 1
    all_goals (first | rw [if_pos (by assumption)] | rw [if_neg (by assumption), if_pos (by assumption)] | rw [if_neg (by assumption), if_neg (by assumption), if_pos (by assumption)] | rw [if_neg (by assumption), if_neg (by assumption), if_neg (by assumption), if_neg (by assumption)])
    (·
      refine Ya ?_
      (apply Le.head [(⟨0, []⟩, ⟨0, []⟩, srcO code s5), (⟨1, []⟩, ⟨3, []⟩, PO ys)])
      (case' hfr | hob => (repeat' (first | refine La ?_ ?_ | exact Lc | refine Lo ?_ | refine ⟨⟨_, rfl, ?_⟩, ?_⟩ | refine Lx ?_)))
      all_goals (first | exact Ld | ((simp [Pl.row, *]; done))))
    (·
      refine Ya ?_
      (apply Le.head [(⟨0, []⟩, ⟨0, []⟩, srcO code s7), (⟨1, []⟩, ⟨920, []⟩, PO _)])
      (case' hfr | hob => (repeat' (first | refine La ?_ ?_ | exact Lc | refine Lo ?_ | refine ⟨⟨_, rfl, ?_⟩, ?_⟩ | refine Lx ?_)))
      all_goals (first | exact Ld | ((simp [Pl.row, *]; done))))
    (·
      refine Ya ?_
      (apply Le.head [(⟨0, []⟩, ⟨0, []⟩, srcO code s5), (⟨1, []⟩, ⟨917, []⟩, PO _)])
      (case' hfr | hob => (repeat' (first | refine La ?_ ?_ | exact Lc | refine Lo ?_ | refine ⟨⟨_, rfl, ?_⟩, ?_⟩ | refine Lx ?_)))
      all_goals (first | exact Ld | ((simp [Pl.row, *]; done))))
    (·
      refine Ya ?_
      (apply Le.head [(⟨0, []⟩, ⟨0, []⟩, srcO code s4), (⟨1, []⟩, ⟨3, []⟩, PO ys)])
      (case' hfr | hob => (repeat' (first | refine La ?_ ?_ | exact Lc | refine Lo ?_ | refine ⟨⟨_, rfl, ?_⟩, ?_⟩ | refine Lx ?_)))
      all_goals (first | exact Ld | ((simp [Pl.row, *]; done))))
end Go.Proofs.Ytpgcmpbamlnkkaa
end
