/-
  Walks in the abstract reading: liveness and tables of the program.
-/
import Derived.Test.YtcjidnpkeliieaaKC7
namespace Go.Proofs.Ytcjidnpkeliieaa
set_option linter.unusedSimpArgs false
set_option linter.unusedVariables false
open Go Go.RowKit
attribute [local irreducible] AL AD AW OpOk Le AC thenQ blockQ EndQ

theorem free_entN {n : Nat} : ∀ {xs : List Pl} {t : List (List Int)}, Sq t n → (∀ p ∈ xs, okPl n p) → ∀ {a b : Nat}, a < n → b < n → entN (xs.foldl freeS t) a b = if wPl xs a b = true then 0 else entN t a b
  | [], t, hs, _, a, b, _, _ => by simp [wPl]
  | p :: r, t, hs, hv, a, b, ha, hb => by
    obtain ⟨⟨h1, h2⟩, ⟨h3, h4⟩, _⟩ := hv p (by simp)
    rw [List.foldl_cons, free_entN (freeS_sq hs) (fun q hq => hv q (by simp [hq])) ha hb]
    have hw : wPl (p :: r) a b = ((decide (p.t = a) && (decide (p.k = 0) && decide (p.f = b))) || wPl r a b) := by simp [wPl]
    rw [hw]
    cases hr : wPl r a b with
    | true => simp
    | false =>
      rw [Bool.or_false, if_neg (by simp)]
      unfold freeS
      by_cases hk : p.k = 0
      · rw [if_pos hk, entN_setT hs (by omega) (by omega)]
        by_cases e : a = p.t.toNat ∧ b = p.f.toNat
        · rw [if_pos e, if_pos (by simp [hk]; omega)]
        · rw [if_neg e, if_neg (by simp [hk]; omega)]
      · rw [if_neg hk, if_neg (by simp [hk])]
/-- A graph is live by the reference exactly if the program finds a firing order. -/
theorem live_ord {n : Nat} {xs : List Pl} (hv : ∀ p ∈ xs, okPl n p) : deadC n xs = [] ↔ ordR n xs ≠ none := by
  let a : Nat → Nat → Int := fun u v => if u < n ∧ v < n then entN (freeT n xs) u v else BOT
  have he : ∀ {u v : Nat}, u < n → v < n → entN (freeT n xs) u v = if wPl xs u v = true then 0 else BOT := fun hu hv' => by
    unfold freeT
    rw [free_entN (Sq.bot n) hv hu hv', entN_bot hu hv']
  have ha : ∀ {u v : Nat}, u < n → v < n → (entN (freeT n xs) u v ≠ BOT ↔ wPl xs u v = true) := fun hu hv' => by
    rw [he hu hv']
    split
    · rename_i h; exact ⟨fun _ => h, fun _ => by decide⟩
    · rename_i h; exact ⟨fun e => absurd rfl e, fun e => absurd e h⟩
  unfold deadC ordR
  refine live_iff (a := entN (freeT n xs)) (fun u v => ?_) (fun e u he' hu => ha he' hu)
  have := free_ent (xs := xs) (Sq.bot n) (bot_big n) hv
  by_cases hu : u < n
  · by_cases hv2 : v < n
    · rw [he hu hv2]; split
      · exact .inr (Int.le_refl _)
      · exact .inl rfl
    · right
      unfold entN
      have hs := (free_sq (xs := xs) (Sq.bot n))
      have h1 : u < (freeT n xs).length := by show u < (xs.foldl freeS (botT n n)).length; rw [hs.l]; exact hu
      rw [List.getElem?_eq_getElem h1, Option.getD_some, List.getElem?_eq_none (by rw [hs.r _ (List.getElem_mem h1)]; omega)]
      exact Int.le_refl _
  · right
    unfold entN
    have hs := (free_sq (xs := xs) (Sq.bot n))
    rw [show (freeT n xs)[u]? = none from List.getElem?_eq_none (by show (xs.foldl freeS (botT n n)).length ≤ u; rw [hs.l]; omega)]
    exact Int.le_refl _
theorem liveB_ord {n : Nat} {xs : List Pl} (hv : ∀ p ∈ xs, okPl n p) : liveB n xs = (ordR n xs).isSome := by
  unfold liveB
  rw [Int.toNat_natCast, Bool.eq_iff_iff, decide_eq_true_eq, live_ord hv]
  cases ordR n xs <;> simp
theorem isLive_ac (n : Nat) (xs : List Pl) (hn : n ≤ 10) (hx : xs.length ≤ 100000000) (hv : ∀ p ∈ xs, okPl n p) : AC Try.prog 136 [grD n xs] H0 (Bo (liveB n xs)) H0 := by
  rw [liveB_ord hv]
  refine AC.of_body 0 Try.func136 rfl (fun l h => absurd rfl h) (fun C hC => ?_)
  have hD : ∀ l, ¬ C.D0 l := fun l h => (hC l).1 h rfl
  simp only [startFr, Try.ntmps136, List.length_cons, List.length_nil, Nat.reduceAdd, Nat.reduceSub, List.replicate_succ, List.replicate_zero, List.cons_append, List.nil_append]
  repeat' (first | refine Qa ?_ | ((first | apply Ba | (apply Bb; (· rfl); (· rfl)) | (apply Bc; (· exact nxE)) | (apply Bd; (· rfl); (· rfl); (· exact nxE))); (· first | exact Kz rfl rfl (firingOrder_ac n xs hn hx hv) (Aa (Ad (Ad An)) An) | exact Ok.pe); (first | refine Na ?_ | refine Nb ?_)) | ((first | apply Ca | (apply Cb; (· exact nxE))); (· first | exact Ok.e0); (first | refine Nc ?_ | refine Nd ?_)) | refine Oa ?_ | refine Ob ?_ | ((first | refine Ga (fun h => ?_) (fun h => ?_) | refine AD.gsplit rfl rfl (fun h => ?_) (fun h => ?_)) <;> try (exfalso; omega; done)) | (first | refine AL.gsplitB rfl rfl (fun h => ?_) (fun h => ?_) | refine AD.gsplitB rfl rfl (fun h => ?_) (fun h => ?_)) | refine Fa ?_ | refine Qb ?_ | refine Qc ?_ | refine Qd ?_ | refine Fb ?_ | refine Qe ?_ | refine Wa ?_ | refine Wb ?_ | (refine AW.ite rfl (fun h => ?_) (fun h => ?_) <;> try (exfalso; omega; done)) | refine AW.cond _ rfl (fun h => ?_) (fun h => ?_) | refine Qf ?_ | refine Qg ?_ | refine Qh ?_ | refine Qi ?_ | refine Xa ?_ | refine Xb ?_ | refine Xc ?_ | refine Xd ?_ | refine Fc ?_)
  all_goals
    refine Ya ?_
    (apply Le.headZ (hs := []) [] rfl)
    all_goals (try dsimp only [srcs])
    (case' hfr => (repeat' (first | refine La ?_ ?_ | exact Lc | refine Lo ?_ | refine ⟨⟨_, rfl, ?_⟩, ?_⟩ | refine ObA.box ?_ | refine ObA.frE ?_ | refine ObA.dataE ?_ | refine ARs.agg ?_ | refine ARs.tup ?_ | refine AR.b ?_ | refine AR.iE ?_ | refine AR.e ?_ | refine AR.clo' ARs.nil ?_)))
    all_goals (first | exact Ld | exact trivial | (rfl))
end Go.Proofs.Ytcjidnpkeliieaa
