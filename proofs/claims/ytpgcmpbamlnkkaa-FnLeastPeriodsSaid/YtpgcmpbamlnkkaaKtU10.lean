/-
  Walks in the abstract reading, part 10.
-/
import Derived.Test.YtpgcmpbamlnkkaaKtU9
import Derived.Test.YtpgcmpbamlnkkaaKtU7
import Derived.Test.YtpgcmpbamlnkkaaKtU8
import Derived.Test.YtpgcmpbamlnkkaaKtA3
section
namespace Go.Proofs.Ytpgcmpbamlnkkaa
set_option linter.unusedSimpArgs false
set_option linter.unusedVariables false
open Go Go.RowKit
attribute [local irreducible] AL AD AW OpOk Le AC thenQ blockQ EndQ

theorem tb_cell {x : List Int} {n : Nat} {v : Int} (hl : x.length = n) (hv : 0 ≤ v ∧ v < n) : (IR x)[v.toNat]? = some [DI (x.getD v.toNat 0)] := by
  have := getD_cell (j := v.toNat) hl (by omega)
  rw [Int.toNat_of_nonneg hv.1] at this
  exact this
def nxF (xs : List Pl) (c : List Nat) (k : Nat) : Int := if k < c.length then (plA xs (c.getD k 0)).f else firstF xs c
def seF (xs : List Pl) (c : List Nat) (k : Nat) : List Int := (c.take k).map fun i => (plA xs i).f
theorem wk_next {xs : List Pl} : ∀ {c : List Nat} {u v : Int} {k : Nat}, Wk xs u c v → k < c.length → (plA xs (c.getD k 0)).t = if k + 1 < c.length then (plA xs (c.getD (k + 1) 0)).f else v
  | [], _, _, _, _, hk => by cases hk
  | i :: c, u, v, 0, h, _ => by
    obtain ⟨_, _, hw⟩ := h
    cases c with
    | nil => simp only [Wk] at hw; simpa using hw
    | cons j c => obtain ⟨_, hf, _⟩ := hw; simpa using hf.symm
  | i :: c, u, v, k + 1, h, hk => by
    have := wk_next (k := k) h.2.2 (by simpa using hk)
    simpa using this
theorem nx_next {xs : List Pl} {c : List Nat} {k : Nat} (h : Circ xs c) (hk : k < c.length) : nxF xs c k = (plA xs (c.getD k 0)).f ∧ nxF xs c (k + 1) = (plA xs (c.getD k 0)).t := by
  unfold nxF
  rw [if_pos hk, wk_next h.wk hk]
  exact ⟨rfl, rfl⟩
theorem nx_start {xs : List Pl} {c : List Nat} (h : Circ xs c) (hk : 0 < c.length) : nxF xs c 0 = (plA xs (c.getD (c.length - 1) 0)).t := by
  have e := wk_next (k := c.length - 1) h.wk (by omega)
  rw [if_neg (by omega)] at e
  rw [e]
  unfold nxF
  rw [if_pos hk]
  cases c with
  | nil => cases hk
  | cons i c => rfl
theorem se_step {xs : List Pl} {c : List Nat} {k : Nat} (hk : k < c.length) : seF xs c (k + 1) = seF xs c k ++ [(plA xs (c.getD k 0)).f] := by
  unfold seF
  rw [List.take_succ_eq_append_getElem hk, List.map_append, List.getD_eq_getElem?_getD, List.getElem?_eq_getElem hk]
  rfl
theorem se_no {xs : List Pl} {c : List Nat} {k : Nat} (h : Circ xs c) (hk : k < c.length) : ((seF xs c k).any fun x => decide (x = (plA xs (c.getD k 0)).f)) = false := by
  rw [List.any_eq_false]
  intro y hy e
  have e := of_decide_eq_true e
  subst e
  have hnd := h.nd
  have hs := se_step (xs := xs) hk
  have h2 : seF xs c (k + 1) <+: c.map fun i => (plA xs i).f := by
    unfold seF
    rw [List.map_take]
    exact List.take_prefix _ _
  have h3 := hnd.sublist h2.sublist
  rw [hs, List.nodup_append] at h3
  exact h3.2.2 _ hy _ (by simp) rfl
theorem se_len {xs : List Pl} {c : List Nat} {k : Nat} (hk : k ≤ c.length) : (seF xs c k).length = k := by
  unfold seF
  rw [List.length_map, List.length_take]
  omega
theorem getD_at {c : List Nat} {k : Nat} (hk : k < c.length) : c[k]? = some (c.getD k 0) := by
  rw [List.getD_eq_getElem?_getD, List.getElem?_eq_getElem hk]; rfl
set_option maxHeartbeats 4000000 in
theorem isCircuit_ac (n : Nat) (xs : List Pl) (c : List Nat) (hx : xs.length ≤ 1000) (hc : Circ xs c) (hcl : c.length ≤ 1000) : AC Try.prog 128 [grD n xs, IL (cN c)] H0 (Bo true) H0 := by
  have h0 : 0 < c.length := List.length_pos_iff.2 hc.ne
  have hlt0 := hc.wk.lt
  have hA := allWithin_ac (cN c) 0 ((xs.length : Int) - 1) (by simp; omega)
  have hal : ((cN c).all fun x => wi x 0 ((xs.length : Int) - 1)) = true := by
    rw [List.all_eq_true]
    intro y hy
    obtain ⟨i, hi, rfl⟩ := List.mem_map.1 hy
    have := hlt0 i hi
    exact wi_iff.2 (by omega)
  rw [hal] at hA
  have hlen : (IR (cN c)).length = c.length := by simp
  have hla : (IR (cN c))[((c.length : Int) - 1).toNat]? = some [DI ((c.getD (c.length - 1) 0 : Nat) : Int)] := by
    have := cN_get (getD_at (c := c) (k := c.length - 1) (by omega))
    rw [show ((c.length - 1 : Nat) : Int) = (c.length : Int) - 1 by omega] at this
    exact this
  have hmem : ∀ k, k < c.length → c.getD k 0 < xs.length := fun k hk => hlt0 _ (List.mem_of_getElem? (getD_at hk))
  have hrl := pl_row (n := 0) (hmem (c.length - 1) (by omega))
  have hst := nx_start hc h0
  rw [← hst] at hrl
  generalize plA xs (c.getD (c.length - 1) 0) = pl at *
  obtain ⟨f0, t0, d0, k0⟩ := pl
  simp only at hrl hst
  generalize c.getD (c.length - 1) 0 = la at *
  refine AC.of_body 0 Try.func128 rfl (fun l h => absurd rfl h) (fun C hC => ?_)
  have hD : ∀ l, ¬ C.D0 l := fun l h => (hC l).1 h rfl
  simp only [startFr, Try.ntmps128, List.length_cons, List.length_nil, Nat.reduceAdd, Nat.reduceSub, List.replicate_succ, List.replicate_zero, List.cons_append, List.nil_append]
  repeat' (first | ((first | apply Ba | (apply Bb; (· rfl); (· rfl)) | (apply Bc; (· exact nxE)) | (apply Bd; (· rfl); (· rfl); (· exact nxE))); (· first | exact Ok.lenD rfl rfl hlen | exact Kz rfl rfl (hA) (Ad (Ad (Ad An))) | exact Ok.pe)) | ((first | apply Ca | (apply Cb; (· exact nxE))); (· first | exact Ok.e0)) | refine Sx ?_ | (refine Sy (fun h => ?_) (fun h => ?_) <;> try (exfalso; omega; done)) | refine Sz (fun h => ?_) (fun h => ?_))
  refine AW.loop (X := {k : Nat // k ≤ c.length}) (fun k => ⟨[Oo, Oo, Bx 2 0, Oo, Oo, I (nxF xs c k.1), .own 1 ⟨1, []⟩ 0 (seF xs c (k.1 : Nat)).length, Oo, Oo, Oo, Oo, Oo, Oo, Oo, Oo, Oo, Oo, Oo, Oo, Oo, Oo, Oo, Oo, Oo, Oo, Oo, Oo, Oo, Oo, Oo, Oo, Oo, Oo, IL (cN c), I c.length, I (k.1 : Nat), Oo, Oo, Oo, Oo, Oo, Oo, Oo, Oo, Oo, Oo, Oo, Oo, Oo, Oo, Oo, Oo, Oo, Oo, Oo, Oo, Oo, Oo, Oo, Oo], heapL [(⟨0, []⟩, ⟨0, []⟩, ⟨2, [[I n, PL xs]]⟩), (⟨1, []⟩, ⟨1, []⟩, IO (seF xs c k.1))], 900⟩) (fun k => c.length - k.1) ⟨0, Nat.zero_le _⟩ ?_ (fun k => ?_)
  ·
    refine (Le.nil 6 1 rfl).trans ?_
    (apply Le.headZ [_, _] rfl)
    all_goals (try dsimp only [srcs])
    (case' hfr | hob => (repeat' (first | refine La ?_ ?_ | exact Lc | refine Lo ?_ | refine ⟨⟨_, rfl, ?_⟩, ?_⟩ | refine Lx ?_)))
    all_goals (first | (rfl) | exact Ld)
  obtain ⟨k, hk⟩ := k
  simp only
  by_cases hlt : k < c.length
  case neg =>
    repeat' (first | ((first | apply Ba | (apply Bb; (· rfl); (· rfl)) | (apply Bc; (· exact nxE)) | (apply Bd; (· rfl); (· rfl); (· exact nxE))); (· first | exact Ok.pe)) | ((first | apply Ca | (apply Cb; (· exact nxE))); (· first | exact Ok.e0)) | refine Sx ?_ | (refine Sy (fun h => ?_) (fun h => ?_) <;> try (exfalso; omega; done)) | refine Sz (fun h => ?_) (fun h => ?_))
    refine Ya ?_
    (apply Le.headZ (hs := []) [] rfl)
    all_goals (try dsimp only [srcs])
    (case' hfr => (repeat' (first | refine La ?_ ?_ | exact Lc | refine Lo ?_ | refine ⟨⟨_, rfl, ?_⟩, ?_⟩ | refine Lx ?_)))
    all_goals (first | exact Ld | exact trivial | (rfl))
  obtain ⟨e1, e2⟩ := nx_next hc hlt
  have hs := se_step (xs := xs) hlt
  have hno := se_no hc hlt
  have hse := se_len (xs := xs) hk
  have hrow := pl_row (n := 0) (hmem k hlt)
  have hcell := cN_get (getD_at hlt)
  have hC1 := containsInt_ac (seF xs c k) (plA xs (c.getD k 0)).f (by omega)
  rw [hno] at hC1
  rw [e1]
  have hser : (IR (seF xs c k)).length = k := by rw [IR_len, hse]
  clear hno hmem hal hlt0
  generalize plA xs (c.getD k 0) = p at *
  obtain ⟨pf, pt, pd, pk⟩ := p
  simp only at *
  generalize c.getD k 0 = j at *
  generalize seF xs c k = L at *
  have hN := hC1
  clear hC1
  repeat' (first | ((first | apply Ba | (apply Bb; (· rfl); (· rfl)) | (apply Bc; (· exact nxE)) | (apply Bd; (· rfl); (· rfl); (· exact nxE))); (· first | exact Ez rfl rfl (hN) (Sw (Sd Sn)) | exact Ok.append1 (row := [DI pf]) rfl rfl (by decide) rfl rfl (by simp; done) rfl rfl rfl (by rfl) (by omega) (by omega) | exact Ok.pe)) | ((first | apply Ca | (apply Cb; (· exact nxE))); (· first | exact Ok.append1 (row := [DI pf]) rfl rfl (by decide) rfl rfl (by simp; done) rfl rfl rfl (by rfl) (by omega) (by omega) | exact Ok.e0)) | refine Sx ?_ | (refine Sy (fun h => ?_) (fun h => ?_) <;> try (exfalso; omega; done)) | refine Sz (fun h => ?_) (fun h => ?_))
  refine ⟨⟨k + 1, by omega⟩, ?_, by simp only; omega⟩
  simp only
  rw [e2, hs]
  (apply Le.headZ [_, _] rfl)
  all_goals (try dsimp only [srcs])
  (case' hfr | hob => (repeat' (first | refine La ?_ ?_ | exact Lc | refine Lo ?_ | refine ⟨⟨_, rfl, ?_⟩, ?_⟩ | refine Lx ?_)))
  all_goals (first | ((first | rfl | (simp; done) | (rw [IR_app]; done))) | exact Ld)
theorem iIsCircuit_ac (n : Nat) (xs : List Pl) (c : List Nat) (hg : isEG n xs = true) (hc : Circ xs c) (hcl : c.length ≤ 1000) : AC Try.prog 40 [grD n xs, IL (cN c)] H0 (Bo true) H0 := by
  obtain ⟨m, hm, g1, g2, g3, hv⟩ := isEG_ok hg
  have hE := iIsEventGraph_ac n xs (by omega)
  rw [hg] at hE
  have hI := isCircuit_ac n xs c (by omega) hc hcl
  refine AC.of_body 0 Try.func40 rfl (fun l h => absurd rfl h) (fun C hC => ?_)
  have hD : ∀ l, ¬ C.D0 l := fun l h => (hC l).1 h rfl
  simp only [startFr, Try.ntmps40, List.length_cons, List.length_nil, Nat.reduceAdd, Nat.reduceSub, List.replicate_succ, List.replicate_zero, List.cons_append, List.nil_append]
  repeat' (first | ((first | apply Ba | (apply Bb; (· rfl); (· rfl)) | (apply Bc; (· exact nxE)) | (apply Bd; (· rfl); (· rfl); (· exact nxE))); (· first | exact Kz rfl rfl (hE) (Aa (Ad (Ad An)) An) | exact Kz rfl rfl (hI) (Aa (Ad (Ad An)) (Ad An)) | exact Ok.pe)) | ((first | apply Ca | (apply Cb; (· exact nxE))); (· first | exact Ok.e0)) | refine Sx ?_ | (refine Sy (fun h => ?_) (fun h => ?_) <;> try (exfalso; omega; done)) | refine Sz (fun h => ?_) (fun h => ?_))
  refine Ya ?_
  (apply Le.headZ (hs := []) [] rfl)
  all_goals (try dsimp only [srcs])
  (case' hfr => (repeat' (first | refine La ?_ ?_ | exact Lc | refine Lo ?_ | refine ⟨⟨_, rfl, ?_⟩, ?_⟩ | refine Lx ?_)))
  all_goals (first | exact Ld | exact trivial | (rfl))
end Go.Proofs.Ytpgcmpbamlnkkaa
end

section
namespace Go.Proofs.Ytpgcmpbamlnkkaa
set_option linter.unusedSimpArgs false
set_option linter.unusedVariables false
open Go Go.RowKit
attribute [local irreducible] AL AD AW OpOk Le AC thenQ blockQ EndQ

/-- A ratio as a cycle time is one. -/
structure RatOk (r : Int × Int) : Prop where
  n : 0 ≤ r.1 ∧ r.1 ≤ 1000000
  d : 1 ≤ r.2 ∧ r.2 ≤ 1000000
  g : Nat.gcd r.1.toNat r.2.toNat = 1
end Go.Proofs.Ytpgcmpbamlnkkaa
end

section
namespace Go.Proofs.Ytpgcmpbamlnkkaa
set_option linter.unusedSimpArgs false
set_option linter.unusedVariables false
open Go Go.RowKit
attribute [local irreducible] AL AD AW OpOk Le AC thenQ blockQ EndQ

/-! ### The least potential -/
theorem apA_atT {f : Nat → Nat → Int} {v : Nat → Int} {i : Nat} : ∀ {k : Nat}, apA f v i k = BOT ∨ ∃ j, j < k ∧ apA f v i k = timesB (f i j) (v j)
  | 0 => .inl rfl
  | k + 1 => by
    simp only [apA]
    rcases apA_atT (f := f) (v := v) (i := i) (k := k) with e | ⟨j, hj, e⟩
    · by_cases h : timesB (f i k) (v k) ≤ apA f v i k
      · left; omega
      · right; exact ⟨k, by omega, by omega⟩
    · by_cases h : timesB (f i k) (v k) ≤ apA f v i k
      · right; exact ⟨j, by omega, by omega⟩
      · right; exact ⟨k, by omega, by omega⟩
theorem ptL_pot {n : Nat} {xs : List Pl} {r : Int × Int} (hst : StarM (wmT n xs r) n) (i j : Nat) (hi : i < n) (hj : j < n) (hW : entN (wmT n xs r) i j ≠ BOT) : entN (wmT n xs r) i j + (ptL n xs r).getD j 0 ≤ (ptL n xs r).getD i 0 := by
  have hs := hst.ok
  have hx : ∀ k, k < n → (ptL n xs r).getD k 0 = apA (entN (tabF n n (starF (entN (wmT n xs r)) n))) (fun _ => 0) k n := fun k hk => by
    unfold ptL
    rw [List.getD_eq_getElem?_getD, rowF_get hk]; rfl
  have hne : (ptL n xs r).getD j 0 ≠ BOT := by
    refine ptL_ne hst _ ?_
    have hl : (ptL n xs r).length = n := rowF_len
    rw [List.getD_eq_getElem?_getD, List.getElem?_eq_getElem (by omega)]
    exact List.getElem_mem _
  generalize wmT n xs r = T at *
  rw [hx j hj] at hne
  rw [hx i hi, hx j hj]
  rcases apA_atT (f := entN (tabF n n (starF (entN T) n))) (v := fun _ => 0) (i := j) (k := n) with e | ⟨m, hm, e⟩
  · exact absurd e hne
  · rw [e] at hne ⊢
    rw [tabF_ent hj hm, timesB_0] at hne ⊢
    have hge := apA_ge (f := entN (tabF n n (starF (entN T) n))) (v := fun _ => 0) (i := i) (j := m) (k := n) hm
    rw [tabF_ent hi hm, timesB_0] at hge
    have hsup : starF (entN T) n i m ≠ BOT ∧ entN T i j + starF (entN T) n j m ≤ starF (entN T) n i m := by
      rcases hs.some m j hm hj with e1 | ⟨e1, e2⟩ | ⟨c, c1, c2, c3⟩
      · exact absurd e1 hne
      · subst e1
        have := hs.all m i [] hm hi (by simp) hW
        simp only [wM] at this
        exact ⟨this.1, by omega⟩
      · have := hs.all m i (c ++ [j]) hm hi (fun x hx => by
          rcases List.mem_append.1 hx with hx | hx
          · exact c2 x hx
          · simp at hx; subst hx; exact hj) (WM.app.2 ⟨c1, hW⟩)
        rw [wM_app] at this
        simp only [wM] at this
        exact ⟨this.1, by omega⟩
    omega
end Go.Proofs.Ytpgcmpbamlnkkaa
end

section
namespace Go.Proofs.Ytpgcmpbamlnkkaa
set_option linter.unusedSimpArgs false
set_option linter.unusedVariables false
open Go Go.RowKit
attribute [local irreducible] AL AD AW OpOk Le AC thenQ blockQ EndQ

abbrev ttA (P : Int) (st : List Int) : AV := .agg [I P, IL st]
def stB (st : List Int) : Bool := st.all fun x => wi x 0 1000000
def ttB (ev P : Int) (st : List Int) : Bool := wi P 0 100000 && (decide ((st.length : Int) = ev) && stB st)
def ttC (ev : Int) (xs : List Pl) (P : Int) (st : List Int) : Int := if isEG ev xs = true then (if ttB ev P st = true then 0 else 2) else 1
structure TtOk (n : Nat) (P : Int) (st : List Int) : Prop where
  l : st.length = n
  p : 0 ≤ P ∧ P ≤ 100000
  s : ∀ j, j < n → 0 ≤ st.getD j 0 ∧ st.getD j 0 ≤ 1000000
theorem ttB_ok {n : Nat} {P : Int} {st : List Int} (h : ttB n P st = true) : TtOk n P st := by
  unfold ttB at h
  rw [Bool.and_eq_true, Bool.and_eq_true, wi_iff] at h
  obtain ⟨h1, h2, h3⟩ := h
  have h2 := of_decide_eq_true h2
  refine ⟨by omega, h1, fun j hj => ?_⟩
  unfold stB at h3
  rw [List.all_eq_true] at h3
  have : st.getD j 0 ∈ st := by rw [List.getD_eq_getElem?_getD, List.getElem?_eq_getElem (by omega)]; exact List.getElem_mem _
  exact wi_iff.1 (h3 _ this)
theorem isTimetable_ac (ev : Int) (xs : List Pl) (P : Int) (st : List Int) (hs : st.length ≤ 100000000) : AC Try.prog 125 [grD ev xs, ttA P st] H0 (Bo (ttB ev P st)) H0 := by
  have hW := within_ac P 0 100000
  have hA := allWithin_ac st 0 1000000 hs
  rw [show (st.all fun x => wi x 0 1000000) = stB st from rfl] at hA
  have hsr : (IR st).length = st.length := IR_len
  unfold ttB
  cases hp : wi P 0 100000
  · rw [hp] at hW
    rw [Bool.false_and]
    refine AC.of_body 0 Try.func125 rfl (fun l h => absurd rfl h) (fun C hC => ?_)
    have hD : ∀ l, ¬ C.D0 l := fun l h => (hC l).1 h rfl
    simp only [startFr, Try.ntmps125, List.length_cons, List.length_nil, Nat.reduceAdd, Nat.reduceSub, List.replicate_succ, List.replicate_zero, List.cons_append, List.nil_append]
    repeat' (first | ((first | apply Ba | (apply Bb; (· rfl); (· rfl)) | (apply Bc; (· exact nxE)) | (apply Bd; (· rfl); (· rfl); (· exact nxE))); (· first | exact Kz rfl rfl (hW) (Ad (Ad (Ad An))) | exact Ok.pe)) | ((first | apply Ca | (apply Cb; (· exact nxE))); (· first | exact Ok.e0)) | refine Sx ?_ | (refine Sy (fun h => ?_) (fun h => ?_) <;> try (exfalso; omega; done)) | refine Sz (fun h => ?_) (fun h => ?_))
    refine Ya ?_
    (apply Le.headZ (hs := []) [] rfl)
    all_goals (try dsimp only [srcs])
    (case' hfr => (repeat' (first | refine La ?_ ?_ | exact Lc | refine Lo ?_ | refine ⟨⟨_, rfl, ?_⟩, ?_⟩ | refine Lx ?_)))
    all_goals (first | exact Ld | exact trivial | (rfl))
  rw [hp] at hW
  rw [Bool.true_and]
  by_cases hl : (st.length : Int) = ev
  · rw [decide_eq_true hl, Bool.true_and]
    subst hl
    generalize stB st = b at *
    refine AC.of_body 0 Try.func125 rfl (fun l h => absurd rfl h) (fun C hC => ?_)
    have hD : ∀ l, ¬ C.D0 l := fun l h => (hC l).1 h rfl
    simp only [startFr, Try.ntmps125, List.length_cons, List.length_nil, Nat.reduceAdd, Nat.reduceSub, List.replicate_succ, List.replicate_zero, List.cons_append, List.nil_append]
    repeat' (first | ((first | apply Ba | (apply Bb; (· rfl); (· rfl)) | (apply Bc; (· exact nxE)) | (apply Bd; (· rfl); (· rfl); (· exact nxE))); (· first | exact Kz rfl rfl (hW) (Ad (Ad (Ad An))) | exact Ok.lenD rfl rfl hsr | exact Kz rfl rfl (hA) (Ad (Ad (Ad An))) | exact Ok.pe)) | ((first | apply Ca | (apply Cb; (· exact nxE))); (· first | exact Ok.e0)) | refine Sx ?_ | (refine Sy (fun h => ?_) (fun h => ?_) <;> try (exfalso; omega; done)) | refine Sz (fun h => ?_) (fun h => ?_))
    refine Ya ?_
    (apply Le.headZ (hs := []) [] rfl)
    all_goals (try dsimp only [srcs])
    (case' hfr => (repeat' (first | refine La ?_ ?_ | exact Lc | refine Lo ?_ | refine ⟨⟨_, rfl, ?_⟩, ?_⟩ | refine Lx ?_)))
    all_goals (first | exact Ld | exact trivial | (rfl))
  · rw [decide_eq_false hl, Bool.false_and]
    refine AC.of_body 0 Try.func125 rfl (fun l h => absurd rfl h) (fun C hC => ?_)
    have hD : ∀ l, ¬ C.D0 l := fun l h => (hC l).1 h rfl
    simp only [startFr, Try.ntmps125, List.length_cons, List.length_nil, Nat.reduceAdd, Nat.reduceSub, List.replicate_succ, List.replicate_zero, List.cons_append, List.nil_append]
    repeat' (first | ((first | apply Ba | (apply Bb; (· rfl); (· rfl)) | (apply Bc; (· exact nxE)) | (apply Bd; (· rfl); (· rfl); (· exact nxE))); (· first | exact Kz rfl rfl (hW) (Ad (Ad (Ad An))) | exact Ok.lenD rfl rfl hsr | exact Ok.pe)) | ((first | apply Ca | (apply Cb; (· exact nxE))); (· first | exact Ok.e0)) | refine Sx ?_ | (refine Sy (fun h => ?_) (fun h => ?_) <;> try (exfalso; omega; done)) | refine Sz (fun h => ?_) (fun h => ?_))
    refine Ya ?_
    (apply Le.headZ (hs := []) [] rfl)
    all_goals (try dsimp only [srcs])
    (case' hfr => (repeat' (first | refine La ?_ ?_ | exact Lc | refine Lo ?_ | refine ⟨⟨_, rfl, ?_⟩, ?_⟩ | refine Lx ?_)))
    all_goals (first | exact Ld | exact trivial | (rfl))
theorem iIsTimetable_ac (ev : Int) (xs : List Pl) (P : Int) (st : List Int) (hx : xs.length ≤ 1000) (hs : st.length ≤ 100000000) : AC Try.prog 38 [grD ev xs, ttA P st] H0 (Bo (isEG ev xs && ttB ev P st)) H0 := by
  have hE := iIsEventGraph_ac ev xs (by omega)
  have hT := isTimetable_ac ev xs P st hs
  generalize ttB ev P st = b at *
  cases hg : isEG ev xs
  · rw [hg] at hE
    rw [Bool.false_and]
    refine AC.of_body 0 Try.func38 rfl (fun l h => absurd rfl h) (fun C hC => ?_)
    have hD : ∀ l, ¬ C.D0 l := fun l h => (hC l).1 h rfl
    simp only [startFr, Try.ntmps38, List.length_cons, List.length_nil, Nat.reduceAdd, Nat.reduceSub, List.replicate_succ, List.replicate_zero, List.cons_append, List.nil_append]
    repeat' (first | ((first | apply Ba | (apply Bb; (· rfl); (· rfl)) | (apply Bc; (· exact nxE)) | (apply Bd; (· rfl); (· rfl); (· exact nxE))); (· first | exact Kz rfl rfl (hE) (Aa (Ad (Ad An)) An) | exact Ok.pe)) | ((first | apply Ca | (apply Cb; (· exact nxE))); (· first | exact Ok.e0)) | refine Sx ?_ | (refine Sy (fun h => ?_) (fun h => ?_) <;> try (exfalso; omega; done)) | refine Sz (fun h => ?_) (fun h => ?_))
    refine Ya ?_
    (apply Le.headZ (hs := []) [] rfl)
    all_goals (try dsimp only [srcs])
    (case' hfr => (repeat' (first | refine La ?_ ?_ | exact Lc | refine Lo ?_ | refine ⟨⟨_, rfl, ?_⟩, ?_⟩ | refine Lx ?_)))
    all_goals (first | exact Ld | exact trivial | (rfl))
  · rw [hg] at hE
    rw [Bool.true_and]
    refine AC.of_body 0 Try.func38 rfl (fun l h => absurd rfl h) (fun C hC => ?_)
    have hD : ∀ l, ¬ C.D0 l := fun l h => (hC l).1 h rfl
    simp only [startFr, Try.ntmps38, List.length_cons, List.length_nil, Nat.reduceAdd, Nat.reduceSub, List.replicate_succ, List.replicate_zero, List.cons_append, List.nil_append]
    repeat' (first | ((first | apply Ba | (apply Bb; (· rfl); (· rfl)) | (apply Bc; (· exact nxE)) | (apply Bd; (· rfl); (· rfl); (· exact nxE))); (· first | exact Kz rfl rfl (hE) (Aa (Ad (Ad An)) An) | exact Kz rfl rfl (hT) (Aa (Ad (Ad An)) (Aa (Ad (Ad An)) An)) | exact Ok.pe)) | ((first | apply Ca | (apply Cb; (· exact nxE))); (· first | exact Ok.e0)) | refine Sx ?_ | (refine Sy (fun h => ?_) (fun h => ?_) <;> try (exfalso; omega; done)) | refine Sz (fun h => ?_) (fun h => ?_))
    refine Ya ?_
    (apply Le.headZ (hs := []) [] rfl)
    all_goals (try dsimp only [srcs])
    (case' hfr => (repeat' (first | refine La ?_ ?_ | exact Lc | refine Lo ?_ | refine ⟨⟨_, rfl, ?_⟩, ?_⟩ | refine Lx ?_)))
    all_goals (first | exact Ld | exact trivial | (rfl))
theorem sIsTimetable_ac (ev : Int) (xs : List Pl) (P : Int) (st : List Int) (hx : xs.length ≤ 1000) (hs : st.length ≤ 100000000) : AC Try.prog 39 [grD ev xs, ttA P st] H0 (Bo (isEG ev xs && ttB ev P st)) H0 := by
  have hE := sIsEventGraph_ac ev xs (by omega)
  have hW := l01In_ac P 0 100000
  have hA := l01Within_ac st 10 0 1000000 hs
  have hsr : (IR st).length = st.length := IR_len
  cases hg : isEG ev xs
  · rw [hg] at hE
    rw [Bool.false_and]
    refine AC.of_body 0 Try.func39 rfl (fun l h => absurd rfl h) (fun C hC => ?_)
    have hD : ∀ l, ¬ C.D0 l := fun l h => (hC l).1 h rfl
    simp only [startFr, Try.ntmps39, List.length_cons, List.length_nil, Nat.reduceAdd, Nat.reduceSub, List.replicate_succ, List.replicate_zero, List.cons_append, List.nil_append]
    repeat' (first | ((first | apply Ba | (apply Bb; (· rfl); (· rfl)) | (apply Bc; (· exact nxE)) | (apply Bd; (· rfl); (· rfl); (· exact nxE))); (· first | exact Kz rfl rfl (hE) (Aa (Ad (Ad An)) An) | exact Ok.pe)) | ((first | apply Ca | (apply Cb; (· exact nxE))); (· first | exact Ok.e0)) | refine Sx ?_ | (refine Sy (fun h => ?_) (fun h => ?_) <;> try (exfalso; omega; done)) | refine Sz (fun h => ?_) (fun h => ?_))
    refine Ya ?_
    (apply Le.headZ (hs := []) [] rfl)
    all_goals (try dsimp only [srcs])
    (case' hfr => (repeat' (first | refine La ?_ ?_ | exact Lc | refine Lo ?_ | refine ⟨⟨_, rfl, ?_⟩, ?_⟩ | refine Lx ?_)))
    all_goals (first | exact Ld | exact trivial | (rfl))
  rw [hg] at hE
  rw [Bool.true_and]
  obtain ⟨n, rfl, g1, g2, g3, hv⟩ := isEG_ok hg
  unfold ttB
  cases hp : wi P 0 100000
  · rw [hp] at hW
    rw [Bool.false_and]
    refine AC.of_body 0 Try.func39 rfl (fun l h => absurd rfl h) (fun C hC => ?_)
    have hD : ∀ l, ¬ C.D0 l := fun l h => (hC l).1 h rfl
    simp only [startFr, Try.ntmps39, List.length_cons, List.length_nil, Nat.reduceAdd, Nat.reduceSub, List.replicate_succ, List.replicate_zero, List.cons_append, List.nil_append]
    repeat' (first | ((first | apply Ba | (apply Bb; (· rfl); (· rfl)) | (apply Bc; (· exact nxE)) | (apply Bd; (· rfl); (· rfl); (· exact nxE))); (· first | exact Kz rfl rfl (hE) (Aa (Ad (Ad An)) An) | exact Kz rfl rfl (hW) (Ad (Ad (Ad An))) | exact Ok.pe)) | ((first | apply Ca | (apply Cb; (· exact nxE))); (· first | exact Ok.e0)) | refine Sx ?_ | (refine Sy (fun h => ?_) (fun h => ?_) <;> try (exfalso; omega; done)) | refine Sz (fun h => ?_) (fun h => ?_))
    refine Ya ?_
    (apply Le.headZ (hs := []) [] rfl)
    all_goals (try dsimp only [srcs])
    (case' hfr => (repeat' (first | refine La ?_ ?_ | exact Lc | refine Lo ?_ | refine ⟨⟨_, rfl, ?_⟩, ?_⟩ | refine Lx ?_)))
    all_goals (first | exact Ld | exact trivial | (rfl))
  rw [hp] at hW
  rw [Bool.true_and]
  by_cases hl : (st.length : Int) = n
  · rw [decide_eq_true hl, Bool.true_and]
    rw [show wiB st 10 0 1000000 = stB st by unfold wiB stB; rw [decide_eq_true (by omega : (st.length : Int) ≤ 10), Bool.and_true]] at hA
    generalize stB st = b at *
    refine AC.of_body 0 Try.func39 rfl (fun l h => absurd rfl h) (fun C hC => ?_)
    have hD : ∀ l, ¬ C.D0 l := fun l h => (hC l).1 h rfl
    simp only [startFr, Try.ntmps39, List.length_cons, List.length_nil, Nat.reduceAdd, Nat.reduceSub, List.replicate_succ, List.replicate_zero, List.cons_append, List.nil_append]
    repeat' (first | ((first | apply Ba | (apply Bb; (· rfl); (· rfl)) | (apply Bc; (· exact nxE)) | (apply Bd; (· rfl); (· rfl); (· exact nxE))); (· first | exact Kz rfl rfl (hE) (Aa (Ad (Ad An)) An) | exact Kz rfl rfl (hW) (Ad (Ad (Ad An))) | exact Ok.lenD rfl rfl hsr | exact Kz rfl rfl (hA) (Ad (Ad (Ad (Ad An)))) | exact Ok.pe)) | ((first | apply Ca | (apply Cb; (· exact nxE))); (· first | exact Ok.e0)) | refine Sx ?_ | (refine Sy (fun h => ?_) (fun h => ?_) <;> try (exfalso; omega; done)) | refine Sz (fun h => ?_) (fun h => ?_))
    refine Ya ?_
    (apply Le.headZ (hs := []) [] rfl)
    all_goals (try dsimp only [srcs])
    (case' hfr => (repeat' (first | refine La ?_ ?_ | exact Lc | refine Lo ?_ | refine ⟨⟨_, rfl, ?_⟩, ?_⟩ | refine Lx ?_)))
    all_goals (first | exact Ld | exact trivial | (rfl))
  · rw [decide_eq_false hl, Bool.false_and]
    refine AC.of_body 0 Try.func39 rfl (fun l h => absurd rfl h) (fun C hC => ?_)
    have hD : ∀ l, ¬ C.D0 l := fun l h => (hC l).1 h rfl
    simp only [startFr, Try.ntmps39, List.length_cons, List.length_nil, Nat.reduceAdd, Nat.reduceSub, List.replicate_succ, List.replicate_zero, List.cons_append, List.nil_append]
    repeat' (first | ((first | apply Ba | (apply Bb; (· rfl); (· rfl)) | (apply Bc; (· exact nxE)) | (apply Bd; (· rfl); (· rfl); (· exact nxE))); (· first | exact Kz rfl rfl (hE) (Aa (Ad (Ad An)) An) | exact Kz rfl rfl (hW) (Ad (Ad (Ad An))) | exact Ok.lenD rfl rfl hsr | exact Ok.pe)) | ((first | apply Ca | (apply Cb; (· exact nxE))); (· first | exact Ok.e0)) | refine Sx ?_ | (refine Sy (fun h => ?_) (fun h => ?_) <;> try (exfalso; omega; done)) | refine Sz (fun h => ?_) (fun h => ?_))
    refine Ya ?_
    (apply Le.headZ (hs := []) [] rfl)
    all_goals (try dsimp only [srcs])
    (case' hfr => (repeat' (first | refine La ?_ ?_ | exact Lc | refine Lo ?_ | refine ⟨⟨_, rfl, ?_⟩, ?_⟩ | refine Lx ?_)))
    all_goals (first | exact Ld | exact trivial | (rfl))
theorem checkTimetable_ac (ev : Int) (xs : List Pl) (P : Int) (st : List Int) (hx : xs.length ≤ 1000) (hs : st.length ≤ 100000000) : AC Try.prog 120 [grD ev xs, ttA P st] H0 (I (ttC ev xs P st)) H0 := by
  have hE := iIsEventGraph_ac ev xs (by omega)
  have hT := isTimetable_ac ev xs P st hs
  unfold ttC
  cases hg : isEG ev xs
  · rw [hg] at hE
    rw [if_neg (by simp)]
    refine AC.of_body 0 Try.func120 rfl (fun l h => absurd rfl h) (fun C hC => ?_)
    have hD : ∀ l, ¬ C.D0 l := fun l h => (hC l).1 h rfl
    simp only [startFr, Try.ntmps120, List.length_cons, List.length_nil, Nat.reduceAdd, Nat.reduceSub, List.replicate_succ, List.replicate_zero, List.cons_append, List.nil_append]
    repeat' (first | ((first | apply Ba | (apply Bb; (· rfl); (· rfl)) | (apply Bc; (· exact nxE)) | (apply Bd; (· rfl); (· rfl); (· exact nxE))); (· first | exact Kz rfl rfl (hE) (Aa (Ad (Ad An)) An) | exact Ok.pe)) | ((first | apply Ca | (apply Cb; (· exact nxE))); (· first | exact Ok.e0)) | refine Sx ?_ | (refine Sy (fun h => ?_) (fun h => ?_) <;> try (exfalso; omega; done)) | refine Sz (fun h => ?_) (fun h => ?_))
    refine Ya ?_
    (apply Le.headZ (hs := []) [] rfl)
    all_goals (try dsimp only [srcs])
    (case' hfr => (repeat' (first | refine La ?_ ?_ | exact Lc | refine Lo ?_ | refine ⟨⟨_, rfl, ?_⟩, ?_⟩ | refine Lx ?_)))
    all_goals (first | exact Ld | exact trivial | (rfl))
  rw [hg] at hE
  rw [if_pos rfl]
  cases hb : ttB ev P st
  · rw [hb] at hT
    rw [if_neg (by simp)]
    refine AC.of_body 0 Try.func120 rfl (fun l h => absurd rfl h) (fun C hC => ?_)
    have hD : ∀ l, ¬ C.D0 l := fun l h => (hC l).1 h rfl
    simp only [startFr, Try.ntmps120, List.length_cons, List.length_nil, Nat.reduceAdd, Nat.reduceSub, List.replicate_succ, List.replicate_zero, List.cons_append, List.nil_append]
    repeat' (first | ((first | apply Ba | (apply Bb; (· rfl); (· rfl)) | (apply Bc; (· exact nxE)) | (apply Bd; (· rfl); (· rfl); (· exact nxE))); (· first | exact Kz rfl rfl (hE) (Aa (Ad (Ad An)) An) | exact Kz rfl rfl (hT) (Aa (Ad (Ad An)) (Aa (Ad (Ad An)) An)) | exact Ok.pe)) | ((first | apply Ca | (apply Cb; (· exact nxE))); (· first | exact Ok.e0)) | refine Sx ?_ | (refine Sy (fun h => ?_) (fun h => ?_) <;> try (exfalso; omega; done)) | refine Sz (fun h => ?_) (fun h => ?_))
    refine Ya ?_
    (apply Le.headZ (hs := []) [] rfl)
    all_goals (try dsimp only [srcs])
    (case' hfr => (repeat' (first | refine La ?_ ?_ | exact Lc | refine Lo ?_ | refine ⟨⟨_, rfl, ?_⟩, ?_⟩ | refine Lx ?_)))
    all_goals (first | exact Ld | exact trivial | (rfl))
  · rw [hb] at hT
    rw [if_pos rfl]
    refine AC.of_body 0 Try.func120 rfl (fun l h => absurd rfl h) (fun C hC => ?_)
    have hD : ∀ l, ¬ C.D0 l := fun l h => (hC l).1 h rfl
    simp only [startFr, Try.ntmps120, List.length_cons, List.length_nil, Nat.reduceAdd, Nat.reduceSub, List.replicate_succ, List.replicate_zero, List.cons_append, List.nil_append]
    repeat' (first | ((first | apply Ba | (apply Bb; (· rfl); (· rfl)) | (apply Bc; (· exact nxE)) | (apply Bd; (· rfl); (· rfl); (· exact nxE))); (· first | exact Kz rfl rfl (hE) (Aa (Ad (Ad An)) An) | exact Kz rfl rfl (hT) (Aa (Ad (Ad An)) (Aa (Ad (Ad An)) An)) | exact Ok.pe)) | ((first | apply Ca | (apply Cb; (· exact nxE))); (· first | exact Ok.e0)) | refine Sx ?_ | (refine Sy (fun h => ?_) (fun h => ?_) <;> try (exfalso; omega; done)) | refine Sz (fun h => ?_) (fun h => ?_))
    refine Ya ?_
    (apply Le.headZ (hs := []) [] rfl)
    all_goals (try dsimp only [srcs])
    (case' hfr => (repeat' (first | refine La ?_ ?_ | exact Lc | refine Lo ?_ | refine ⟨⟨_, rfl, ?_⟩, ?_⟩ | refine Lx ?_)))
    all_goals (first | exact Ld | exact trivial | (rfl))
theorem l20Code_ac (ev : Int) (xs : List Pl) (P : Int) (st : List Int) (hx : xs.length ≤ 1000) (hs : st.length ≤ 100000000) : AC Try.prog 122 [grD ev xs, ttA P st] H0 (I (ttC ev xs P st)) H0 := by
  have hE := sIsEventGraph_ac ev xs (by omega)
  have hT := sIsTimetable_ac ev xs P st hx hs
  unfold ttC
  cases hg : isEG ev xs
  · rw [hg] at hE
    rw [if_neg (by simp)]
    refine AC.of_body 0 Try.func122 rfl (fun l h => absurd rfl h) (fun C hC => ?_)
    have hD : ∀ l, ¬ C.D0 l := fun l h => (hC l).1 h rfl
    simp only [startFr, Try.ntmps122, List.length_cons, List.length_nil, Nat.reduceAdd, Nat.reduceSub, List.replicate_succ, List.replicate_zero, List.cons_append, List.nil_append]
    repeat' (first | ((first | apply Ba | (apply Bb; (· rfl); (· rfl)) | (apply Bc; (· exact nxE)) | (apply Bd; (· rfl); (· rfl); (· exact nxE))); (· first | exact Kz rfl rfl (hE) (Aa (Ad (Ad An)) An) | exact Ok.pe)) | ((first | apply Ca | (apply Cb; (· exact nxE))); (· first | exact Ok.e0)) | refine Sx ?_ | (refine Sy (fun h => ?_) (fun h => ?_) <;> try (exfalso; omega; done)) | refine Sz (fun h => ?_) (fun h => ?_))
    refine Ya ?_
    (apply Le.headZ (hs := []) [] rfl)
    all_goals (try dsimp only [srcs])
    (case' hfr => (repeat' (first | refine La ?_ ?_ | exact Lc | refine Lo ?_ | refine ⟨⟨_, rfl, ?_⟩, ?_⟩ | refine Lx ?_)))
    all_goals (first | exact Ld | exact trivial | (rfl))
  rw [hg] at hE hT
  rw [Bool.true_and] at hT
  rw [if_pos rfl]
  cases hb : ttB ev P st
  · rw [hb] at hT
    rw [if_neg (by simp)]
    refine AC.of_body 0 Try.func122 rfl (fun l h => absurd rfl h) (fun C hC => ?_)
    have hD : ∀ l, ¬ C.D0 l := fun l h => (hC l).1 h rfl
    simp only [startFr, Try.ntmps122, List.length_cons, List.length_nil, Nat.reduceAdd, Nat.reduceSub, List.replicate_succ, List.replicate_zero, List.cons_append, List.nil_append]
    repeat' (first | ((first | apply Ba | (apply Bb; (· rfl); (· rfl)) | (apply Bc; (· exact nxE)) | (apply Bd; (· rfl); (· rfl); (· exact nxE))); (· first | exact Kz rfl rfl (hE) (Aa (Ad (Ad An)) An) | exact Kz rfl rfl (hT) (Aa (Ad (Ad An)) (Aa (Ad (Ad An)) An)) | exact Ok.pe)) | ((first | apply Ca | (apply Cb; (· exact nxE))); (· first | exact Ok.e0)) | refine Sx ?_ | (refine Sy (fun h => ?_) (fun h => ?_) <;> try (exfalso; omega; done)) | refine Sz (fun h => ?_) (fun h => ?_))
    refine Ya ?_
    (apply Le.headZ (hs := []) [] rfl)
    all_goals (try dsimp only [srcs])
    (case' hfr => (repeat' (first | refine La ?_ ?_ | exact Lc | refine Lo ?_ | refine ⟨⟨_, rfl, ?_⟩, ?_⟩ | refine Lx ?_)))
    all_goals (first | exact Ld | exact trivial | (rfl))
  · rw [hb] at hT
    rw [if_pos rfl]
    refine AC.of_body 0 Try.func122 rfl (fun l h => absurd rfl h) (fun C hC => ?_)
    have hD : ∀ l, ¬ C.D0 l := fun l h => (hC l).1 h rfl
    simp only [startFr, Try.ntmps122, List.length_cons, List.length_nil, Nat.reduceAdd, Nat.reduceSub, List.replicate_succ, List.replicate_zero, List.cons_append, List.nil_append]
    repeat' (first | ((first | apply Ba | (apply Bb; (· rfl); (· rfl)) | (apply Bc; (· exact nxE)) | (apply Bd; (· rfl); (· rfl); (· exact nxE))); (· first | exact Kz rfl rfl (hE) (Aa (Ad (Ad An)) An) | exact Kz rfl rfl (hT) (Aa (Ad (Ad An)) (Aa (Ad (Ad An)) An)) | exact Ok.pe)) | ((first | apply Ca | (apply Cb; (· exact nxE))); (· first | exact Ok.e0)) | refine Sx ?_ | (refine Sy (fun h => ?_) (fun h => ?_) <;> try (exfalso; omega; done)) | refine Sz (fun h => ?_) (fun h => ?_))
    refine Ya ?_
    (apply Le.headZ (hs := []) [] rfl)
    all_goals (try dsimp only [srcs])
    (case' hfr => (repeat' (first | refine La ?_ ?_ | exact Lc | refine Lo ?_ | refine ⟨⟨_, rfl, ?_⟩, ?_⟩ | refine Lx ?_)))
    all_goals (first | exact Ld | exact trivial | (rfl))
theorem ttC_ok {ev : Int} {xs : List Pl} {P : Int} {st : List Int} (h : ttC ev xs P st = 0) : ∃ n : Nat, ev = n ∧ 1 ≤ n ∧ n ≤ 10 ∧ xs.length ≤ 30 ∧ (∀ p ∈ xs, okPl n p) ∧ isEG n xs = true ∧ TtOk n P st ∧ ttB n P st = true := by
  unfold ttC at h
  cases hg : isEG ev xs
  · rw [hg] at h; simp at h
  · rw [hg] at h
    rw [if_pos rfl] at h
    obtain ⟨n, rfl, g1, g2, g3, hv⟩ := isEG_ok hg
    cases hb : ttB n P st
    · rw [hb] at h; simp at h
    · exact ⟨n, rfl, g1, g2, g3, hv, hg, ttB_ok hb, hb⟩
/-! ### Slacks -/
def slF (xs : List Pl) (P : Int) (st : List Int) (i : Nat) : Int := st.getD (plA xs i).t.toNat 0 + (plA xs i).k * P - st.getD (plA xs i).f.toNat 0 - (plA xs i).d
abbrev slL (xs : List Pl) (P : Int) (st : List Int) : List Int := rowF xs.length (slF xs P st)
theorem l20Slacks_ac (n : Nat) (xs : List Pl) (P : Int) (st : List Int) (hx : xs.length ≤ 1000) (hv : ∀ p ∈ xs, okPl n p) (ht : TtOk n P st) : AC Try.prog 123 [grD n xs, ttA P st] H0 (IL (slL xs P st)) H0 := by
  refine AC.of_body 0 Try.func123 rfl (fun l h => absurd rfl h) (fun C hC => ?_)
  have hD : ∀ l, ¬ C.D0 l := fun l h => (hC l).1 h rfl
  simp only [startFr, Try.ntmps123, List.length_cons, List.length_nil, Nat.reduceAdd, Nat.reduceSub, List.replicate_succ, List.replicate_zero, List.cons_append, List.nil_append]
  repeat' (first | ((first | apply Ba | (apply Bb; (· rfl); (· rfl)) | (apply Bc; (· exact nxE)) | (apply Bd; (· rfl); (· rfl); (· exact nxE))); (· first | exact Ok.pe)) | ((first | apply Ca | (apply Cb; (· exact nxE))); (· first | exact Ok.e0)) | refine Sx ?_ | (refine Sy (fun h => ?_) (fun h => ?_) <;> try (exfalso; omega; done)) | refine Sz (fun h => ?_) (fun h => ?_))
  refine AW.loop (X := {k : Nat // k ≤ xs.length}) (fun k => ⟨[Oo, Oo, Bx 2 0, Bx 2 1, Oo, .own 1 ⟨2, []⟩ 0 (k.1 : Nat), I (k.1 : Nat), Oo, Oo, Oo, Oo, Oo, Oo, Oo, Oo, Oo, Oo, Oo, Oo, Oo, Oo, Oo, Oo, Oo, Oo, Oo, Oo, Oo, Oo, Oo, Oo, Oo, Oo, Oo, Oo, Oo, Oo, Oo, Oo, Oo, Oo, Oo, Oo, Oo, Oo, Oo, Oo], heapL [(⟨0, []⟩, ⟨0, []⟩, ⟨2, [[I n, PL xs]]⟩), (⟨1, []⟩, ⟨1, []⟩, ⟨2, [[I P, IL st]]⟩), (⟨2, []⟩, ⟨2, []⟩, IO (rowF k.1 (slF xs P st)))], 900⟩) (fun k => xs.length - k.1) ⟨0, Nat.zero_le _⟩ ?_ (fun k => ?_)
  ·
    (apply Le.headZ [_, _, _] rfl)
    all_goals (try dsimp only [srcs])
    (case' hfr | hob => (repeat' (first | refine La ?_ ?_ | exact Lc | refine Lo ?_ | refine ⟨⟨_, rfl, ?_⟩, ?_⟩ | refine Lx ?_)))
    all_goals (first | (rfl) | exact Ld)
  obtain ⟨k, hk⟩ := k
  simp only
  by_cases hlt : k < xs.length
  case neg =>
    obtain rfl : k = xs.length := by omega
    have hlen : (IR (rowF xs.length (slF xs P st))).length = xs.length := by rw [IR_len, rowF_len]
    repeat' (first | ((first | apply Ba | (apply Bb; (· rfl); (· rfl)) | (apply Bc; (· exact nxE)) | (apply Bd; (· rfl); (· rfl); (· exact nxE))); (· first | exact Ok.pe)) | ((first | apply Ca | (apply Cb; (· exact nxE))); (· first | exact Ok.e0)) | refine Sx ?_ | (refine Sy (fun h => ?_) (fun h => ?_) <;> try (exfalso; omega; done)) | refine Sz (fun h => ?_) (fun h => ?_))
    refine Ya ?_
    (apply Le.headZ (hs := []) [] rfl)
    all_goals (try dsimp only [srcs])
    (case' hfr => (repeat' (first | refine La ?_ ?_ | exact Lc | refine Lo ?_ | refine ⟨⟨_, rfl, ?_⟩, ?_⟩ | refine Lx ?_)))
    all_goals (first | exact Ld | exact trivial | (rfl))
  have hrow := pl_row (n := 0) hlt
  obtain ⟨hF, hT, hd, hk5⟩ := okPl_at hv k hlt
  have hxf := tb_cell ht.l hF
  have hxt := tb_cell ht.l hT
  have hfv := ht.s (plA xs k).f.toNat (by omega)
  have htv := ht.s (plA xs k).t.toNat (by omega)
  have hpb := ht.p
  have hmul := mul_in hk5 hpb
  have hm : slF xs P st k = st.getD (plA xs k).t.toNat 0 + (plA xs k).k * P - st.getD (plA xs k).f.toNat 0 - (plA xs k).d := rfl
  have hol : (IR (rowF k (slF xs P st))).length = k := by rw [IR_len, rowF_len]
  generalize st.getD (plA xs k).f.toNat 0 = a at *
  generalize st.getD (plA xs k).t.toNat 0 = b at *
  generalize plA xs k = p at *
  obtain ⟨pf, pt, pd, pk⟩ := p
  simp only at *
  repeat' (first | ((first | apply Ba | (apply Bb; (· rfl); (· rfl)) | (apply Bc; (· exact nxE)) | (apply Bd; (· rfl); (· rfl); (· exact nxE))); (· first | exact Ok.append1 (row := [DI (b + pk * P - a - pd)]) rfl rfl (by decide) rfl rfl hol rfl rfl rfl (by rfl) (by omega) (by omega) | exact Ok.pe)) | ((first | apply Ca | (apply Cb; (· exact nxE))); (· first | exact Ok.append1 (row := [DI (b + pk * P - a - pd)]) rfl rfl (by decide) rfl rfl hol rfl rfl rfl (by rfl) (by omega) (by omega) | exact Ok.e0)) | refine Sx ?_ | (refine Sy (fun h => ?_) (fun h => ?_) <;> try (exfalso; omega; done)) | refine Sz (fun h => ?_) (fun h => ?_))
  refine ⟨⟨k + 1, by omega⟩, ?_, by simp only; omega⟩
  (apply Le.headZ [_, _, _] rfl)
  all_goals (try dsimp only [srcs])
  (case' hfr | hob => (repeat' (first | refine La ?_ ?_ | exact Lc | refine Lo ?_ | refine ⟨⟨_, rfl, ?_⟩, ?_⟩ | refine Lx ?_)))
  all_goals (first | ((first | (rw [rowF_next hm]; simp; done) | (rw [rowF_next hm]; rw [IR_app]; done))) | exact Ld)
def fillG (g : Nat → Int) (K : Nat) : Nat → Int := fun v => if v < K then g v else 0
theorem fillG_0 {g : Nat → Int} {n : Nat} : dobj 1 (List.replicate n [DI 0]) = IO (rowF n (fillG g 0)) := by
  show dobj 1 _ = dobj 1 (IR (rowF n (fillG g 0)))
  congr 1
  apply List.ext_getElem?
  intro i
  by_cases hi : i < n
  · rw [IRF_get hi, List.getElem?_replicate, if_pos hi]; simp [fillG]
  · rw [List.getElem?_eq_none (by simp; omega), List.getElem?_eq_none (by rw [IR_len, rowF_len]; omega)]
theorem fillG_set {g : Nat → Int} {n K : Nat} {x : Int} (hx : g K = x) : (IR (rowF n (fillG g K))).set K [DI x] = IR (rowF n (fillG g (K + 1))) := by
  have h : (IR (rowF n (fillG g K))).set K [DI x] = IR ((rowF n (fillG g K)).set K x) := IR_set
  rw [h, rowF_set]
  congr 1
  refine rowF_congr fun j hj => ?_
  simp only [fillG]
  by_cases e : j = K
  · subst e; rw [if_pos rfl, if_pos (by omega), hx]
  · rw [if_neg e]
    by_cases e2 : j < K
    · rw [if_pos e2, if_pos (by omega)]
    · rw [if_neg e2, if_neg (by omega)]
theorem fillG_all {g : Nat → Int} {n : Nat} : rowF n (fillG g n) = rowF n g := rowF_congr fun j hj => by simp only [fillG, if_pos hj]
theorem slacksOf_ac (n : Nat) (xs : List Pl) (P : Int) (st : List Int) (hx : xs.length ≤ 1000) (hv : ∀ p ∈ xs, okPl n p) (ht : TtOk n P st) : AC Try.prog 121 [grD n xs, ttA P st] H0 (IL (slL xs P st)) H0 := by
  have hfill := fillG_0 (g := slF xs P st) (n := xs.length)
  refine AC.of_body 0 Try.func121 rfl (fun l h => absurd rfl h) (fun C hC => ?_)
  have hD : ∀ l, ¬ C.D0 l := fun l h => (hC l).1 h rfl
  simp only [startFr, Try.ntmps121, List.length_cons, List.length_nil, Nat.reduceAdd, Nat.reduceSub, List.replicate_succ, List.replicate_zero, List.cons_append, List.nil_append]
  repeat' (first | ((first | apply Ba | (apply Bb; (· rfl); (· rfl)) | (apply Bc; (· exact nxE)) | (apply Bd; (· rfl); (· rfl); (· exact nxE))); (· first | exact Ok.pe)) | ((first | apply Ca | (apply Cb; (· exact nxE))); (· first | exact Ok.e0)) | refine Sx ?_ | (refine Sy (fun h => ?_) (fun h => ?_) <;> try (exfalso; omega; done)) | refine Sz (fun h => ?_) (fun h => ?_))
  refine AW.loop (X := {k : Nat // k ≤ xs.length}) (fun k => ⟨[Oo, Oo, Oo, Bx 2 1, Oo, .own 1 ⟨2, []⟩ 0 xs.length, Oo, Oo, Oo, Oo, Oo, Oo, Oo, PL xs, I xs.length, I (k.1 : Nat), Oo, Oo, Oo, Oo, Oo, Oo, Oo, Oo, Oo, Oo, Oo, Oo, Oo, Oo, Oo, Oo, Oo, Oo, Oo, Oo, Oo, Oo, Oo, Oo, Oo, Oo, Oo, Oo, Oo, Oo, Oo], heapL [(⟨1, []⟩, ⟨1, []⟩, ⟨2, [[I P, IL st]]⟩), (⟨2, []⟩, ⟨2, []⟩, IO (rowF xs.length (fillG (slF xs P st) k.1)))], 900⟩) (fun k => xs.length - k.1) ⟨0, Nat.zero_le _⟩ ?_ (fun k => ?_)
  ·
    (apply Le.headZ [_, _] rfl)
    all_goals (try dsimp only [srcs])
    (case' hfr | hob => (repeat' (first | refine La ?_ ?_ | exact Lc | refine Lo ?_ | refine ⟨⟨_, rfl, ?_⟩, ?_⟩ | refine Lx ?_)))
    all_goals (first | ((first | exact hfill | (rw [hfill]; done))) | exact Ld)
  obtain ⟨k, hk⟩ := k
  simp only
  by_cases hlt : k < xs.length
  case neg =>
    obtain rfl : k = xs.length := by omega
    rw [fillG_all]
    have hlen : (IR (rowF xs.length (slF xs P st))).length = xs.length := by rw [IR_len, rowF_len]
    repeat' (first | ((first | apply Ba | (apply Bb; (· rfl); (· rfl)) | (apply Bc; (· exact nxE)) | (apply Bd; (· rfl); (· rfl); (· exact nxE))); (· first | exact Ok.pe)) | ((first | apply Ca | (apply Cb; (· exact nxE))); (· first | exact Ok.e0)) | refine Sx ?_ | (refine Sy (fun h => ?_) (fun h => ?_) <;> try (exfalso; omega; done)) | refine Sz (fun h => ?_) (fun h => ?_))
    refine Ya ?_
    (apply Le.headZ (hs := []) [] rfl)
    all_goals (try dsimp only [srcs])
    (case' hfr => (repeat' (first | refine La ?_ ?_ | exact Lc | refine Lo ?_ | refine ⟨⟨_, rfl, ?_⟩, ?_⟩ | refine Lx ?_)))
    all_goals (first | exact Ld | exact trivial | (rfl))
  have hrow := pl_row (n := 0) hlt
  obtain ⟨hF, hT, hd, hk5⟩ := okPl_at hv k hlt
  have hxf := tb_cell ht.l hF
  have hxt := tb_cell ht.l hT
  have hfv := ht.s (plA xs k).f.toNat (by omega)
  have htv := ht.s (plA xs k).t.toNat (by omega)
  have hpb := ht.p
  have hmul := mul_in hk5 hpb
  have hm : slF xs P st k = st.getD (plA xs k).t.toNat 0 + (plA xs k).k * P - st.getD (plA xs k).f.toNat 0 - (plA xs k).d := rfl
  have hown := rowI_at (g := fillG (slF xs P st) k) hlt
  have hset := fillG_set (n := xs.length) hm
  generalize st.getD (plA xs k).f.toNat 0 = a at *
  generalize st.getD (plA xs k).t.toNat 0 = b at *
  generalize plA xs k = p at *
  obtain ⟨pf, pt, pd, pk⟩ := p
  simp only at *
  repeat' (first | ((first | apply Ba | (apply Bb; (· rfl); (· rfl)) | (apply Bc; (· exact nxE)) | (apply Bd; (· rfl); (· rfl); (· exact nxE))); (· first | exact Ok.st1 rfl rfl rfl (by simp [rowF_len]; omega) (by rw [hown]; rfl) rfl rfl hset | exact Ok.pe)) | ((first | apply Ca | (apply Cb; (· exact nxE))); (· first | exact Ok.st1 rfl rfl rfl (by simp [rowF_len]; omega) (by rw [hown]; rfl) rfl rfl hset | exact Ok.e0)) | refine Sx ?_ | (refine Sy (fun h => ?_) (fun h => ?_) <;> try (exfalso; omega; done)) | refine Sz (fun h => ?_) (fun h => ?_))
  refine ⟨⟨k + 1, by omega⟩, ?_, by simp only; omega⟩
  (apply Le.headZ [_, _] rfl)
  all_goals (try dsimp only [srcs])
  (case' hfr | hob => (repeat' (first | refine La ?_ ?_ | exact Lc | refine Lo ?_ | refine ⟨⟨_, rfl, ?_⟩, ?_⟩ | refine Lx ?_)))
  all_goals (first | (rfl) | exact Ld)
noncomputable def slO (ev : Int) (xs : List Pl) (P : Int) (st : List Int) : List Int := if ttC ev xs P st = 0 then slL xs P st else []
theorem sSlacksOf_ac (ev : Int) (xs : List Pl) (P : Int) (st : List Int) (hx : xs.length ≤ 1000) (hs : st.length ≤ 100000000) : AC Try.prog 33 [grD ev xs, ttA P st] H0 (.tup [IL (slO ev xs P st), I (ttC ev xs P st)]) H0 := by
  have hK := l20Code_ac ev xs P st hx hs
  unfold slO
  by_cases h0 : ttC ev xs P st = 0
  · rw [if_pos h0]
    obtain ⟨n, rfl, g1, g2, g3, hv, hg, ht, _⟩ := ttC_ok h0
    have hS := l20Slacks_ac n xs P st hx hv ht
    rw [h0] at hK ⊢
    generalize slL xs P st = l at *
    refine AC.of_body 0 Try.func33 rfl (fun l h => absurd rfl h) (fun C hC => ?_)
    have hD : ∀ l, ¬ C.D0 l := fun l h => (hC l).1 h rfl
    simp only [startFr, Try.ntmps33, List.length_cons, List.length_nil, Nat.reduceAdd, Nat.reduceSub, List.replicate_succ, List.replicate_zero, List.cons_append, List.nil_append]
    repeat' (first | ((first | apply Ba | (apply Bb; (· rfl); (· rfl)) | (apply Bc; (· exact nxE)) | (apply Bd; (· rfl); (· rfl); (· exact nxE))); (· first | exact Kz rfl rfl (hK) (Aa (Ad (Ad An)) (Aa (Ad (Ad An)) An)) | exact Kz rfl rfl (hS) (Aa (Ad (Ad An)) (Aa (Ad (Ad An)) An)) | exact Ok.pe)) | ((first | apply Ca | (apply Cb; (· exact nxE))); (· first | exact Ok.e0)) | refine Sx ?_ | (refine Sy (fun h => ?_) (fun h => ?_) <;> try (exfalso; omega; done)) | refine Sz (fun h => ?_) (fun h => ?_))
    refine Yb ?_
    (apply Le.headZ (hs := []) [] rfl)
    all_goals (try dsimp only [srcs])
    (case' hfr => (repeat' (first | refine La ?_ ?_ | exact Lc | refine Lo ?_ | refine ⟨⟨_, rfl, ?_⟩, ?_⟩ | refine Lx ?_)))
    all_goals (first | exact Ld | exact trivial | (rfl))
  · rw [if_neg h0]
    generalize ttC ev xs P st = c at *
    refine AC.of_body 0 Try.func33 rfl (fun l h => absurd rfl h) (fun C hC => ?_)
    have hD : ∀ l, ¬ C.D0 l := fun l h => (hC l).1 h rfl
    simp only [startFr, Try.ntmps33, List.length_cons, List.length_nil, Nat.reduceAdd, Nat.reduceSub, List.replicate_succ, List.replicate_zero, List.cons_append, List.nil_append]
    repeat' (first | ((first | apply Ba | (apply Bb; (· rfl); (· rfl)) | (apply Bc; (· exact nxE)) | (apply Bd; (· rfl); (· rfl); (· exact nxE))); (· first | exact Kz rfl rfl (hK) (Aa (Ad (Ad An)) (Aa (Ad (Ad An)) An)) | exact Ok.pe)) | ((first | apply Ca | (apply Cb; (· exact nxE))); (· first | exact Ok.e0)) | refine Sx ?_ | (refine Sy (fun h => ?_) (fun h => ?_) <;> try (exfalso; omega; done)) | refine Sz (fun h => ?_) (fun h => ?_))
    refine Yb ?_
    (apply Le.headZ (hs := []) [] rfl)
    all_goals (try dsimp only [srcs])
    (case' hfr => (repeat' (first | refine La ?_ ?_ | exact Lc | refine Lo ?_ | refine ⟨⟨_, rfl, ?_⟩, ?_⟩ | refine Lx ?_)))
    all_goals (first | exact Ld | exact trivial | (rfl))
theorem iSlacksOf_ac (ev : Int) (xs : List Pl) (P : Int) (st : List Int) (hx : xs.length ≤ 1000) (hs : st.length ≤ 100000000) : AC Try.prog 32 [grD ev xs, ttA P st] H0 (.tup [IL (slO ev xs P st), I (ttC ev xs P st)]) H0 := by
  have hK := checkTimetable_ac ev xs P st hx hs
  unfold slO
  by_cases h0 : ttC ev xs P st = 0
  · rw [if_pos h0]
    obtain ⟨n, rfl, g1, g2, g3, hv, hg, ht, _⟩ := ttC_ok h0
    have hS := slacksOf_ac n xs P st hx hv ht
    rw [h0] at hK ⊢
    generalize slL xs P st = l at *
    refine AC.of_body 0 Try.func32 rfl (fun l h => absurd rfl h) (fun C hC => ?_)
    have hD : ∀ l, ¬ C.D0 l := fun l h => (hC l).1 h rfl
    simp only [startFr, Try.ntmps32, List.length_cons, List.length_nil, Nat.reduceAdd, Nat.reduceSub, List.replicate_succ, List.replicate_zero, List.cons_append, List.nil_append]
    repeat' (first | ((first | apply Ba | (apply Bb; (· rfl); (· rfl)) | (apply Bc; (· exact nxE)) | (apply Bd; (· rfl); (· rfl); (· exact nxE))); (· first | exact Kz rfl rfl (hK) (Aa (Ad (Ad An)) (Aa (Ad (Ad An)) An)) | exact Kz rfl rfl (hS) (Aa (Ad (Ad An)) (Aa (Ad (Ad An)) An)) | exact Ok.pe)) | ((first | apply Ca | (apply Cb; (· exact nxE))); (· first | exact Ok.e0)) | refine Sx ?_ | (refine Sy (fun h => ?_) (fun h => ?_) <;> try (exfalso; omega; done)) | refine Sz (fun h => ?_) (fun h => ?_))
    refine Yb ?_
    (apply Le.headZ (hs := []) [] rfl)
    all_goals (try dsimp only [srcs])
    (case' hfr => (repeat' (first | refine La ?_ ?_ | exact Lc | refine Lo ?_ | refine ⟨⟨_, rfl, ?_⟩, ?_⟩ | refine Lx ?_)))
    all_goals (first | exact Ld | exact trivial | (rfl))
  · rw [if_neg h0]
    generalize ttC ev xs P st = c at *
    refine AC.of_body 0 Try.func32 rfl (fun l h => absurd rfl h) (fun C hC => ?_)
    have hD : ∀ l, ¬ C.D0 l := fun l h => (hC l).1 h rfl
    simp only [startFr, Try.ntmps32, List.length_cons, List.length_nil, Nat.reduceAdd, Nat.reduceSub, List.replicate_succ, List.replicate_zero, List.cons_append, List.nil_append]
    repeat' (first | ((first | apply Ba | (apply Bb; (· rfl); (· rfl)) | (apply Bc; (· exact nxE)) | (apply Bd; (· rfl); (· rfl); (· exact nxE))); (· first | exact Kz rfl rfl (hK) (Aa (Ad (Ad An)) (Aa (Ad (Ad An)) An)) | exact Ok.pe)) | ((first | apply Ca | (apply Cb; (· exact nxE))); (· first | exact Ok.e0)) | refine Sx ?_ | (refine Sy (fun h => ?_) (fun h => ?_) <;> try (exfalso; omega; done)) | refine Sz (fun h => ?_) (fun h => ?_))
    refine Yb ?_
    (apply Le.headZ (hs := []) [] rfl)
    all_goals (try dsimp only [srcs])
    (case' hfr => (repeat' (first | refine La ?_ ?_ | exact Lc | refine Lo ?_ | refine ⟨⟨_, rfl, ?_⟩, ?_⟩ | refine Lx ?_)))
    all_goals (first | exact Ld | exact trivial | (rfl))
/-! ### Kept -/
noncomputable def ktB (ev : Int) (xs : List Pl) (P : Int) (st : List Int) : Bool := decide (ttC ev xs P st = 0) && (slL xs P st).all fun a => !decide (a < 0)
theorem keptFn_ac (a : Int) : AC Try.prog 217 [I a] H0 (Bo (decide (a < 0))) H0 := by
  refine AC.of_body 0 Try.func217 rfl (fun l h => absurd rfl h) (fun C hC => ?_)
  have hD : ∀ l, ¬ C.D0 l := fun l h => (hC l).1 h rfl
  simp only [startFr, Try.ntmps217, List.length_cons, List.length_nil, Nat.reduceAdd, Nat.reduceSub, List.replicate_succ, List.replicate_zero, List.cons_append, List.nil_append]
  repeat' (first | ((first | apply Ba | (apply Bb; (· rfl); (· rfl)) | (apply Bc; (· exact nxE)) | (apply Bd; (· rfl); (· rfl); (· exact nxE))); (· first | exact Ok.pe)) | ((first | apply Ca | (apply Cb; (· exact nxE))); (· first | exact Ok.e0)) | refine Sx ?_ | (refine Sy (fun h => ?_) (fun h => ?_) <;> try (exfalso; omega; done)) | refine Sz (fun h => ?_) (fun h => ?_))
  refine Ya ?_
  (apply Le.headZ (hs := []) [] rfl)
  all_goals (try dsimp only [srcs])
  (case' hfr => (repeat' (first | refine La ?_ ?_ | exact Lc | refine Lo ?_ | refine ⟨⟨_, rfl, ?_⟩, ?_⟩ | refine Lx ?_)))
  all_goals (first | exact Ld | exact trivial | (rfl))
theorem iIsKept_ac (ev : Int) (xs : List Pl) (P : Int) (st : List Int) (hx : xs.length ≤ 1000) (hs : st.length ≤ 100000000) : AC Try.prog 34 [grD ev xs, ttA P st] H0 (.tup [Bo (ktB ev xs P st), I (ttC ev xs P st)]) H0 := by
  have hK := checkTimetable_ac ev xs P st hx hs
  unfold ktB
  by_cases h0 : ttC ev xs P st = 0
  · rw [decide_eq_true h0, Bool.true_and]
    obtain ⟨n, rfl, g1, g2, g3, hv, hg, ht, _⟩ := ttC_ok h0
    have hS := slacksOf_ac n xs P st hx hv ht
    have hl : (slL xs P st).length = xs.length := rowF_len
    have hQ := containsFuncI_ac (slL xs P st) (by omega) 217 (fun a => decide (a < 0)) (fun x _ => keptFn_ac x)
    rw [h0] at hK ⊢
    rw [show ((slL xs P st).all fun a => !decide (a < 0)) = !((slL xs P st).any fun a => decide (a < 0)) by rw [List.all_eq_not_any_not]; simp]
    generalize slL xs P st = l at *
    have hJ : AC Try.prog 124 [grD n xs, ttA P st] H0 (Bo (!(l.any fun a => decide (a < 0)))) H0 := by
      generalize (l.any fun a => decide (a < 0)) = b at *
      refine AC.of_body 0 Try.func124 rfl (fun l h => absurd rfl h) (fun C hC => ?_)
      have hD : ∀ l, ¬ C.D0 l := fun l h => (hC l).1 h rfl
      simp only [startFr, Try.ntmps124, List.length_cons, List.length_nil, Nat.reduceAdd, Nat.reduceSub, List.replicate_succ, List.replicate_zero, List.cons_append, List.nil_append]
      repeat' (first | ((first | apply Ba | (apply Bb; (· rfl); (· rfl)) | (apply Bc; (· exact nxE)) | (apply Bd; (· rfl); (· rfl); (· exact nxE))); (· first | exact Kz rfl rfl (hS) (Aa (Ad (Ad An)) (Aa (Ad (Ad An)) An)) | exact Ez rfl rfl hQ (Sd (Ce Sn)) | exact Ok.pe)) | ((first | apply Ca | (apply Cb; (· exact nxE))); (· first | exact Ok.e0)) | refine Sx ?_ | (refine Sy (fun h => ?_) (fun h => ?_) <;> try (exfalso; omega; done)) | refine Sz (fun h => ?_) (fun h => ?_))
      refine Ya ?_
      (apply Le.headZ (hs := []) [] rfl)
      all_goals (try dsimp only [srcs])
      (case' hfr => (repeat' (first | refine La ?_ ?_ | exact Lc | refine Lo ?_ | refine ⟨⟨_, rfl, ?_⟩, ?_⟩ | refine Lx ?_)))
      all_goals (first | exact Ld | exact trivial | (rfl))
    generalize (l.any fun a => decide (a < 0)) = b at *
    refine AC.of_body 0 Try.func34 rfl (fun l h => absurd rfl h) (fun C hC => ?_)
    have hD : ∀ l, ¬ C.D0 l := fun l h => (hC l).1 h rfl
    simp only [startFr, Try.ntmps34, List.length_cons, List.length_nil, Nat.reduceAdd, Nat.reduceSub, List.replicate_succ, List.replicate_zero, List.cons_append, List.nil_append]
    repeat' (first | ((first | apply Ba | (apply Bb; (· rfl); (· rfl)) | (apply Bc; (· exact nxE)) | (apply Bd; (· rfl); (· rfl); (· exact nxE))); (· first | exact Kz rfl rfl (hK) (Aa (Ad (Ad An)) (Aa (Ad (Ad An)) An)) | exact Kz rfl rfl (hJ) (Aa (Ad (Ad An)) (Aa (Ad (Ad An)) An)) | exact Ok.pe)) | ((first | apply Ca | (apply Cb; (· exact nxE))); (· first | exact Ok.e0)) | refine Sx ?_ | (refine Sy (fun h => ?_) (fun h => ?_) <;> try (exfalso; omega; done)) | refine Sz (fun h => ?_) (fun h => ?_))
    refine Yb ?_
    (apply Le.headZ (hs := []) [] rfl)
    all_goals (try dsimp only [srcs])
    (case' hfr => (repeat' (first | refine La ?_ ?_ | exact Lc | refine Lo ?_ | refine ⟨⟨_, rfl, ?_⟩, ?_⟩ | refine Lx ?_)))
    all_goals (first | exact Ld | exact trivial | (rfl))
  · rw [decide_eq_false h0, Bool.false_and]
    generalize ttC ev xs P st = c at *
    refine AC.of_body 0 Try.func34 rfl (fun l h => absurd rfl h) (fun C hC => ?_)
    have hD : ∀ l, ¬ C.D0 l := fun l h => (hC l).1 h rfl
    simp only [startFr, Try.ntmps34, List.length_cons, List.length_nil, Nat.reduceAdd, Nat.reduceSub, List.replicate_succ, List.replicate_zero, List.cons_append, List.nil_append]
    repeat' (first | ((first | apply Ba | (apply Bb; (· rfl); (· rfl)) | (apply Bc; (· exact nxE)) | (apply Bd; (· rfl); (· rfl); (· exact nxE))); (· first | exact Kz rfl rfl (hK) (Aa (Ad (Ad An)) (Aa (Ad (Ad An)) An)) | exact Ok.pe)) | ((first | apply Ca | (apply Cb; (· exact nxE))); (· first | exact Ok.e0)) | refine Sx ?_ | (refine Sy (fun h => ?_) (fun h => ?_) <;> try (exfalso; omega; done)) | refine Sz (fun h => ?_) (fun h => ?_))
    refine Yb ?_
    (apply Le.headZ (hs := []) [] rfl)
    all_goals (try dsimp only [srcs])
    (case' hfr => (repeat' (first | refine La ?_ ?_ | exact Lc | refine Lo ?_ | refine ⟨⟨_, rfl, ?_⟩, ?_⟩ | refine Lx ?_)))
    all_goals (first | exact Ld | exact trivial | (rfl))
/-! ### Tight places -/
def tiF (g : Nat → Int) (k : Nat) : List Int := cN ((List.range k).filter fun e => decide (g e = 0))
theorem tiF_yes {g : Nat → Int} {k : Nat} (h : g k = 0) : tiF g (k + 1) = tiF g k ++ [(k : Int)] := by simp [tiF, List.range_succ, List.filter_append, h]
theorem tiF_no {g : Nat → Int} {k : Nat} (h : g k ≠ 0) : tiF g (k + 1) = tiF g k := by simp [tiF, List.range_succ, List.filter_append, h]
theorem tiF_le {g : Nat → Int} {k : Nat} : (tiF g k).length ≤ k := by
  unfold tiF
  simp only [List.length_map]
  exact Nat.le_trans (List.length_filter_le _ _) (by simp)
noncomputable def tiO (ev : Int) (xs : List Pl) (P : Int) (st : List Int) : List Int := if ttC ev xs P st = 0 then tiF (slF xs P st) xs.length else []
set_option maxHeartbeats 2000000 in
theorem sTightPlaces_ac (ev : Int) (xs : List Pl) (P : Int) (st : List Int) (hx : xs.length ≤ 1000) (hs : st.length ≤ 100000000) : AC Try.prog 36 [grD ev xs, ttA P st] H0 (.tup [IL (tiO ev xs P st), I (ttC ev xs P st)]) H0 := by
  have hK := l20Code_ac ev xs P st hx hs
  unfold tiO
  by_cases h0 : ttC ev xs P st = 0
  case neg =>
    rw [if_neg h0]
    generalize ttC ev xs P st = c at *
    refine AC.of_body 0 Try.func36 rfl (fun l h => absurd rfl h) (fun C hC => ?_)
    have hD : ∀ l, ¬ C.D0 l := fun l h => (hC l).1 h rfl
    simp only [startFr, Try.ntmps36, List.length_cons, List.length_nil, Nat.reduceAdd, Nat.reduceSub, List.replicate_succ, List.replicate_zero, List.cons_append, List.nil_append]
    repeat' (first | ((first | apply Ba | (apply Bb; (· rfl); (· rfl)) | (apply Bc; (· exact nxE)) | (apply Bd; (· rfl); (· rfl); (· exact nxE))); (· first | exact Kz rfl rfl (hK) (Aa (Ad (Ad An)) (Aa (Ad (Ad An)) An)) | exact Ok.pe)) | ((first | apply Ca | (apply Cb; (· exact nxE))); (· first | exact Ok.e0)) | refine Sx ?_ | (refine Sy (fun h => ?_) (fun h => ?_) <;> try (exfalso; omega; done)) | refine Sz (fun h => ?_) (fun h => ?_))
    refine Yb ?_
    (apply Le.headZ (hs := []) [] rfl)
    all_goals (try dsimp only [srcs])
    (case' hfr => (repeat' (first | refine La ?_ ?_ | exact Lc | refine Lo ?_ | refine ⟨⟨_, rfl, ?_⟩, ?_⟩ | refine Lx ?_)))
    all_goals (first | exact Ld | exact trivial | (rfl))
  rw [if_pos h0]
  obtain ⟨n, rfl, g1, g2, g3, hv, hg, ht, _⟩ := ttC_ok h0
  have hS := l20Slacks_ac n xs P st hx hv ht
  rw [h0] at hK ⊢
  have hll : (IR (slL xs P st)).length = xs.length := by rw [IR_len, rowF_len]
  have hcell := fun {k} (h : k < xs.length) => rowI_at (g := slF xs P st) h
  have hSl := hS
  clear hS
  unfold slL at *
  generalize slF xs P st = g at *
  refine AC.of_body 0 Try.func36 rfl (fun l h => absurd rfl h) (fun C hC => ?_)
  have hD : ∀ l, ¬ C.D0 l := fun l h => (hC l).1 h rfl
  simp only [startFr, Try.ntmps36, List.length_cons, List.length_nil, Nat.reduceAdd, Nat.reduceSub, List.replicate_succ, List.replicate_zero, List.cons_append, List.nil_append]
  repeat' (first | ((first | apply Ba | (apply Bb; (· rfl); (· rfl)) | (apply Bc; (· exact nxE)) | (apply Bd; (· rfl); (· rfl); (· exact nxE))); (· first | exact Kz rfl rfl (hK) (Aa (Ad (Ad An)) (Aa (Ad (Ad An)) An)) | exact Kz rfl rfl (hSl) (Aa (Ad (Ad An)) (Aa (Ad (Ad An)) An)) | exact Ok.pe)) | ((first | apply Ca | (apply Cb; (· exact nxE))); (· first | exact Ok.e0)) | refine Sx ?_ | (refine Sy (fun h => ?_) (fun h => ?_) <;> try (exfalso; omega; done)) | refine Sz (fun h => ?_) (fun h => ?_))
  refine AW.loop (X := {k : Nat // k ≤ xs.length}) (fun k => ⟨[Oo, Oo, Oo, Oo, Oo, Oo, Oo, IL (rowF xs.length g), .own 1 ⟨0, []⟩ 0 (tiF g (k.1 : Nat)).length, I (k.1 : Nat), Oo, Oo, Oo, Oo, Oo, Oo, Oo, Oo, Oo, Oo, Oo, Oo, Oo, Oo, Oo, Oo, Oo, Oo, Oo, Oo, Oo, Oo, Oo, Oo, Oo, Oo], heapL [(⟨0, []⟩, ⟨0, []⟩, IO (tiF g k.1))], 900⟩) (fun k => xs.length - k.1) ⟨0, Nat.zero_le _⟩ ?_ (fun k => ?_)
  ·
    (apply Le.headZ [_] rfl)
    all_goals (try dsimp only [srcs])
    (case' hfr | hob => (repeat' (first | refine La ?_ ?_ | exact Lc | refine Lo ?_ | refine ⟨⟨_, rfl, ?_⟩, ?_⟩ | refine Lx ?_)))
    all_goals (first | (rfl) | exact Ld)
  obtain ⟨k, hk⟩ := k
  simp only
  by_cases hlt : k < xs.length
  case neg =>
    obtain rfl : k = xs.length := by omega
    have hlen : (IR (tiF g xs.length)).length = (tiF g xs.length).length := by simp
    repeat' (first | ((first | apply Ba | (apply Bb; (· rfl); (· rfl)) | (apply Bc; (· exact nxE)) | (apply Bd; (· rfl); (· rfl); (· exact nxE))); (· first | exact Ok.lenD rfl rfl hll | exact Ok.pe)) | ((first | apply Ca | (apply Cb; (· exact nxE))); (· first | exact Ok.e0)) | refine Sx ?_ | (refine Sy (fun h => ?_) (fun h => ?_) <;> try (exfalso; omega; done)) | refine Sz (fun h => ?_) (fun h => ?_))
    refine Yb ?_
    (apply Le.headZ (hs := []) [] rfl)
    all_goals (try dsimp only [srcs])
    (case' hfr => (repeat' (first | refine La ?_ ?_ | exact Lc | refine Lo ?_ | refine ⟨⟨_, rfl, ?_⟩, ?_⟩ | refine Lx ?_)))
    all_goals (first | exact Ld | exact trivial | (rfl))
  have hc := hcell hlt
  have hle := tiF_le (g := g) (k := k)
  have hyes := tiF_yes (g := g) (k := k)
  have hno := tiF_no (g := g) (k := k)
  have hol : (IR (tiF g k)).length = (tiF g k).length := by simp
  by_cases hz : g k = 0
  · have hyes2 := hyes hz
    clear hyes hno
    rw [hz] at hc
    repeat' (first | ((first | apply Ba | (apply Bb; (· rfl); (· rfl)) | (apply Bc; (· exact nxE)) | (apply Bd; (· rfl); (· rfl); (· exact nxE))); (· first | exact Ok.lenD rfl rfl hll | exact Ok.append1 (row := [DI k]) rfl rfl (by decide) rfl rfl hol rfl rfl rfl (by rfl) (by omega) (by omega) | exact Ok.pe)) | ((first | apply Ca | (apply Cb; (· exact nxE))); (· first | exact Ok.append1 (row := [DI k]) rfl rfl (by decide) rfl rfl hol rfl rfl rfl (by rfl) (by omega) (by omega) | exact Ok.e0)) | refine Sx ?_ | (refine Sy (fun h => ?_) (fun h => ?_) <;> try (exfalso; omega; done)) | refine Sz (fun h => ?_) (fun h => ?_))
    refine ⟨⟨k + 1, by omega⟩, ?_, by simp only; omega⟩
    simp only
    rw [hyes2]
    (apply Le.headZ [_] rfl)
    all_goals (try dsimp only [srcs])
    (case' hfr | hob => (repeat' (first | refine La ?_ ?_ | exact Lc | refine Lo ?_ | refine ⟨⟨_, rfl, ?_⟩, ?_⟩ | refine Lx ?_)))
    all_goals (first | ((first | rfl | (simp; done) | (rw [IR_app]; done))) | exact Ld)
  · have hno2 := hno hz
    clear hyes hno
    generalize g k = v at *
    repeat' (first | ((first | apply Ba | (apply Bb; (· rfl); (· rfl)) | (apply Bc; (· exact nxE)) | (apply Bd; (· rfl); (· rfl); (· exact nxE))); (· first | exact Ok.lenD rfl rfl hll | exact Ok.pe)) | ((first | apply Ca | (apply Cb; (· exact nxE))); (· first | exact Ok.e0)) | refine Sx ?_ | (refine Sy (fun h => ?_) (fun h => ?_) <;> try (exfalso; omega; done)) | refine Sz (fun h => ?_) (fun h => ?_))
    refine ⟨⟨k + 1, by omega⟩, ?_, by simp only; omega⟩
    simp only
    rw [hno2]
    (apply Le.headZ [_] rfl)
    all_goals (try dsimp only [srcs])
    (case' hfr | hob => (repeat' (first | refine La ?_ ?_ | exact Lc | refine Lo ?_ | refine ⟨⟨_, rfl, ?_⟩, ?_⟩ | refine Lx ?_)))
    all_goals (first | (rfl) | exact Ld)
set_option maxHeartbeats 2000000 in
theorem iTightPlaces_ac (ev : Int) (xs : List Pl) (P : Int) (st : List Int) (hx : xs.length ≤ 1000) (hs : st.length ≤ 100000000) : AC Try.prog 35 [grD ev xs, ttA P st] H0 (.tup [IL (tiO ev xs P st), I (ttC ev xs P st)]) H0 := by
  have hK := checkTimetable_ac ev xs P st hx hs
  unfold tiO
  by_cases h0 : ttC ev xs P st = 0
  case neg =>
    rw [if_neg h0]
    generalize ttC ev xs P st = c at *
    refine AC.of_body 0 Try.func35 rfl (fun l h => absurd rfl h) (fun C hC => ?_)
    have hD : ∀ l, ¬ C.D0 l := fun l h => (hC l).1 h rfl
    simp only [startFr, Try.ntmps35, List.length_cons, List.length_nil, Nat.reduceAdd, Nat.reduceSub, List.replicate_succ, List.replicate_zero, List.cons_append, List.nil_append]
    repeat' (first | ((first | apply Ba | (apply Bb; (· rfl); (· rfl)) | (apply Bc; (· exact nxE)) | (apply Bd; (· rfl); (· rfl); (· exact nxE))); (· first | exact Kz rfl rfl (hK) (Aa (Ad (Ad An)) (Aa (Ad (Ad An)) An)) | exact Ok.pe)) | ((first | apply Ca | (apply Cb; (· exact nxE))); (· first | exact Ok.e0)) | refine Sx ?_ | (refine Sy (fun h => ?_) (fun h => ?_) <;> try (exfalso; omega; done)) | refine Sz (fun h => ?_) (fun h => ?_))
    refine Yb ?_
    (apply Le.headZ (hs := []) [] rfl)
    all_goals (try dsimp only [srcs])
    (case' hfr => (repeat' (first | refine La ?_ ?_ | exact Lc | refine Lo ?_ | refine ⟨⟨_, rfl, ?_⟩, ?_⟩ | refine Lx ?_)))
    all_goals (first | exact Ld | exact trivial | (rfl))
  rw [if_pos h0]
  obtain ⟨n, rfl, g1, g2, g3, hv, hg, ht, _⟩ := ttC_ok h0
  have hS := slacksOf_ac n xs P st hx hv ht
  rw [h0] at hK ⊢
  have hll : (IR (slL xs P st)).length = xs.length := by rw [IR_len, rowF_len]
  have hcell := fun {k} (h : k < xs.length) => rowI_at (g := slF xs P st) h
  have hSl := hS
  clear hS
  unfold slL at *
  generalize slF xs P st = g at *
  refine AC.of_body 0 Try.func35 rfl (fun l h => absurd rfl h) (fun C hC => ?_)
  have hD : ∀ l, ¬ C.D0 l := fun l h => (hC l).1 h rfl
  simp only [startFr, Try.ntmps35, List.length_cons, List.length_nil, Nat.reduceAdd, Nat.reduceSub, List.replicate_succ, List.replicate_zero, List.cons_append, List.nil_append]
  repeat' (first | ((first | apply Ba | (apply Bb; (· rfl); (· rfl)) | (apply Bc; (· exact nxE)) | (apply Bd; (· rfl); (· rfl); (· exact nxE))); (· first | exact Kz rfl rfl (hK) (Aa (Ad (Ad An)) (Aa (Ad (Ad An)) An)) | exact Kz rfl rfl (hSl) (Aa (Ad (Ad An)) (Aa (Ad (Ad An)) An)) | exact Ok.lenD rfl rfl hll | exact Ok.pe)) | ((first | apply Ca | (apply Cb; (· exact nxE))); (· first | exact Ok.e0)) | refine Sx ?_ | (refine Sy (fun h => ?_) (fun h => ?_) <;> try (exfalso; omega; done)) | refine Sz (fun h => ?_) (fun h => ?_))
  refine AW.loop (X := {k : Nat // k ≤ xs.length}) (fun k => ⟨[Oo, Oo, Oo, Oo, Oo, Oo, Oo, .own 1 ⟨0, []⟩ 0 (tiF g (k.1 : Nat)).length, Oo, Oo, Oo, Oo, Oo, Oo, Oo, Oo, Oo, Oo, IL (rowF xs.length g), I xs.length, I (k.1 : Nat), Oo, Oo, Oo, Oo, Oo, Oo, Oo, Oo, Oo, Oo, Oo, Oo], heapL [(⟨0, []⟩, ⟨0, []⟩, IO (tiF g k.1))], 900⟩) (fun k => xs.length - k.1) ⟨0, Nat.zero_le _⟩ ?_ (fun k => ?_)
  ·
    refine (Le.nil 7 1 rfl).trans ?_
    (apply Le.headZ [_] rfl)
    all_goals (try dsimp only [srcs])
    (case' hfr | hob => (repeat' (first | refine La ?_ ?_ | exact Lc | refine Lo ?_ | refine ⟨⟨_, rfl, ?_⟩, ?_⟩ | refine Lx ?_)))
    all_goals (first | (rfl) | exact Ld)
  obtain ⟨k, hk⟩ := k
  simp only
  by_cases hlt : k < xs.length
  case neg =>
    obtain rfl : k = xs.length := by omega
    have hlen : (IR (tiF g xs.length)).length = (tiF g xs.length).length := by simp
    repeat' (first | ((first | apply Ba | (apply Bb; (· rfl); (· rfl)) | (apply Bc; (· exact nxE)) | (apply Bd; (· rfl); (· rfl); (· exact nxE))); (· first | exact Ok.pe)) | ((first | apply Ca | (apply Cb; (· exact nxE))); (· first | exact Ok.e0)) | refine Sx ?_ | (refine Sy (fun h => ?_) (fun h => ?_) <;> try (exfalso; omega; done)) | refine Sz (fun h => ?_) (fun h => ?_))
    refine Yb ?_
    (apply Le.headZ (hs := []) [] rfl)
    all_goals (try dsimp only [srcs])
    (case' hfr => (repeat' (first | refine La ?_ ?_ | exact Lc | refine Lo ?_ | refine ⟨⟨_, rfl, ?_⟩, ?_⟩ | refine Lx ?_)))
    all_goals (first | exact Ld | exact trivial | (rfl))
  have hc := hcell hlt
  have hle := tiF_le (g := g) (k := k)
  have hyes := tiF_yes (g := g) (k := k)
  have hno := tiF_no (g := g) (k := k)
  have hol : (IR (tiF g k)).length = (tiF g k).length := by simp
  by_cases hz : g k = 0
  · have hyes2 := hyes hz
    clear hyes hno
    rw [hz] at hc
    repeat' (first | ((first | apply Ba | (apply Bb; (· rfl); (· rfl)) | (apply Bc; (· exact nxE)) | (apply Bd; (· rfl); (· rfl); (· exact nxE))); (· first | exact Ok.append1 (row := [DI k]) rfl rfl (by decide) rfl rfl hol rfl rfl rfl (by rfl) (by omega) (by omega) | exact Ok.pe)) | ((first | apply Ca | (apply Cb; (· exact nxE))); (· first | exact Ok.append1 (row := [DI k]) rfl rfl (by decide) rfl rfl hol rfl rfl rfl (by rfl) (by omega) (by omega) | exact Ok.e0)) | refine Sx ?_ | (refine Sy (fun h => ?_) (fun h => ?_) <;> try (exfalso; omega; done)) | refine Sz (fun h => ?_) (fun h => ?_))
    refine ⟨⟨k + 1, by omega⟩, ?_, by simp only; omega⟩
    simp only
    rw [hyes2]
    (apply Le.headZ [_] rfl)
    all_goals (try dsimp only [srcs])
    (case' hfr | hob => (repeat' (first | refine La ?_ ?_ | exact Lc | refine Lo ?_ | refine ⟨⟨_, rfl, ?_⟩, ?_⟩ | refine Lx ?_)))
    all_goals (first | ((first | rfl | (simp; done) | (rw [IR_app]; done))) | exact Ld)
  · have hno2 := hno hz
    clear hyes hno
    generalize g k = v at *
    repeat' (first | ((first | apply Ba | (apply Bb; (· rfl); (· rfl)) | (apply Bc; (· exact nxE)) | (apply Bd; (· rfl); (· rfl); (· exact nxE))); (· first | exact Ok.pe)) | ((first | apply Ca | (apply Cb; (· exact nxE))); (· first | exact Ok.e0)) | refine Sx ?_ | (refine Sy (fun h => ?_) (fun h => ?_) <;> try (exfalso; omega; done)) | refine Sz (fun h => ?_) (fun h => ?_))
    refine ⟨⟨k + 1, by omega⟩, ?_, by simp only; omega⟩
    simp only
    rw [hno2]
    (apply Le.headZ [_] rfl)
    all_goals (try dsimp only [srcs])
    (case' hfr | hob => (repeat' (first | refine La ?_ ?_ | exact Lc | refine Lo ?_ | refine ⟨⟨_, rfl, ?_⟩, ?_⟩ | refine Lx ?_)))
    all_goals (first | (rfl) | exact Ld)
end Go.Proofs.Ytpgcmpbamlnkkaa
end
