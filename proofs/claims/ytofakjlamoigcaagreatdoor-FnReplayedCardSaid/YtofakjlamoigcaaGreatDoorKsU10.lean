/-
  Walks in the abstract reading, part 10.
-/
import Derived.Test.YtofakjlamoigcaaGreatDoorKsS33
import Derived.Test.YtofakjlamoigcaaGreatDoorKsS12
import Derived.Test.YtofakjlamoigcaaGreatDoorKsU6
import Derived.Test.YtofakjlamoigcaaGreatDoorKsA3
import Derived.Test.YtofakjlamoigcaaGreatDoorKsU8
section
namespace Go.Proofs.YtofakjlamoigcaaGreatDoor
set_option linter.unusedSimpArgs false
set_option linter.unusedVariables false
open Go Go.RowKit
/-- A row of nil slices told as a table. -/
theorem MI.ok_nilT [Mode] {H : Heap} {l l0 : Loc} {n m k : Nat} {R : List (List (List D))} (hR : R = List.replicate m []) (hne : l0.id ≠ n) :
    MI.ok { l := l, k := k, R := R, src := l0, base := ⟨n, []⟩ } (upd (fun l => if l.id = n then (if ∃ i, i < m ∧ l.sub = [i] then some ⟨k, []⟩ else none) else H l) l0 (some (outer (Loc.at ⟨n, []⟩) k (List.replicate m []) 0))) := by
  subst hR
  refine ⟨upd_same, fun i r hr => ?_⟩
  have hi : i < m := by have := (List.getElem?_eq_some_iff.1 hr).1; simpa using this
  have hr0 : r = [] := by rw [List.getElem?_replicate, if_pos hi] at hr; cases hr; rfl
  subst hr0
  show upd _ l0 _ (Loc.at ⟨n, []⟩ i) = _
  rw [upd_ne (fun e => hne (by rw [← e]; rfl))]
  show (if (Loc.at ⟨n, []⟩ i).id = n then _ else _) = _
  rw [if_pos (show (Loc.at ⟨n, []⟩ i).id = n from rfl), if_pos ⟨i, hi, rfl⟩]; rfl
theorem TR_nils [Mode] {n : Nat} {fs : List Fi} (h : fs = []) : TR (tmT n fs) = List.replicate n [] := by
  subst h; rw [tmT_nil]; simp [TR, IR]
attribute [local irreducible] AL AD AW OpOk Le AC thenQ blockQ EndQ

set_option maxHeartbeats 4000000 in
theorem readyTime_ac [Mode] (n : Nat) (xs : List Pl) (fs : List Fi) (e : Nat) (he : e < n) (hn : n ≤ 10) (hv : ∀ p ∈ xs, okPl n p) (hx : xs.length ≤ 100000) (htm : TmOk fs) (hfs : fs.length ≤ 100000) : AC Tryz.prog 105 [grD n xs, TL (tmT n fs), I e] H0 (.tup [I (rdR xs fs e).1, Bo (rdR xs fs e).2]) H0 := by
  have hcl := cnt_le fs e
  have hlen : ∀ a, (IR (tms fs a)).length = cnt fs a := fun a => by rw [IR_len, tms_len]
  have hrT : ∀ a : Int, 0 ≤ a → a < n → (mRows 1 (TR (tmT n fs)))[a.toNat]? = some [.sl 1 (IR (tms fs a))] := fun a h0 h1 => by
    have := TR_get (tmT_get (fs := fs) (show a.toNat < n by omega))
    rw [Int.toNat_natCast] at this
    rw [this, Int.toNat_of_nonneg h0]
  have hrE := hrT e (by omega) (by omega)
  have hlE := hlen e
  rcases first_or (fun p => !gdP fs e p) xs with h | ⟨j, q, hj, hq, hb⟩
  · have hall : xs.all (gdP fs e) = true := List.all_eq_true.2 fun p hp => by simpa using h p hp
    have hr : rdR xs fs e = (rdT fs e xs, true) := if_pos hall
    rw [hr]
    refine AC.of_body 0 Tryz.func105 rfl (fun l h => absurd rfl h) (fun C hC => ?_)
    have hD : ∀ l, ¬ C.D0 l := fun l h => (hC l).1 h rfl
    simp only [startFr, Tryz.ntmps105, List.length_cons, List.length_nil, Nat.reduceAdd, Nat.reduceSub, List.replicate_succ, List.replicate_zero, List.cons_append, List.nil_append]
    repeat' (first | ((first | apply Ba | (apply Bb; (· rfl); (· rfl)) | (apply Bc; (· exact nxE)) | (apply Bd; (· rfl); (· rfl); (· exact nxE))); (· first | exact Ok.lenD rfl rfl hlE | exact Ok.lenD rfl rfl FL_len | exact Ok.pe)) | ((first | apply Ca | (apply Cb; (· exact nxE))); (· first | exact Ok.e0)) | refine Sx ?_ | (refine Sy (fun h => ?_) (fun h => ?_) <;> try (exfalso; omega; done)) | refine Sz (fun h => ?_) (fun h => ?_))
    refine AW.loop (X := {k : Nat // k ≤ xs.length}) (fun k => ⟨[Oo, TL (tmT n fs), I e, Oo, Oo, Oo, Oo, Oo, I ((cnt fs e : Nat) + 1), I (rdT fs e (xs.take (k.1 : Nat))), Oo, Oo, Oo, Oo, Oo, Oo, Oo, Oo, Oo, Oo, PL xs, I xs.length, I (k.1 : Nat), Oo, Oo, Oo, Oo, Oo, Oo, Oo, Oo, Oo, Oo, Oo, Oo, Oo, Oo, Oo, Oo, Oo, Oo, Oo, Oo, Oo, Oo, Oo, Oo, Oo, Oo, Oo, Oo, Oo, Oo, Oo, Oo, Oo, Oo, Oo, Oo, Oo, Oo, Oo, Oo, Oo], heapL [], 900⟩) (fun k => xs.length - k.1) ⟨0, Nat.zero_le _⟩ ?_ (fun k => ?_)
    ·
      (apply Le.headZ [] rfl)
      all_goals (try dsimp only [srcs])
      (case' hfr | hob => (repeat' (first | refine La ?_ ?_ | exact Lc | refine Lo ?_ | refine ⟨⟨_, rfl, ?_⟩, ?_⟩ | refine Lx ?_)))
      all_goals (first | (rfl) | exact Ld)
    obtain ⟨k, hk⟩ := k
    simp only
    by_cases hlt : k < xs.length
    · obtain ⟨p, hp⟩ : ∃ p, xs[k]? = some p := ⟨xs[k], List.getElem?_eq_getElem hlt⟩
      have hrow : (xs.map Pl.row)[((k : Nat) : Int).toNat]? = some [DI p.f, DI p.t, DI p.d, DI p.k] := row_get hp
      have hmem := List.mem_of_getElem? hp
      have hok := hv p hmem
      have hgd : gdP fs e p = true := by simpa using h p hmem
      have hst := take_st (fs := fs) (e := e) hp
      have hbd := rdT_bd htm e (xs.take k) (fun q hq => hv q (List.mem_of_mem_take hq))
      generalize rdT fs e (xs.take k) = T at *
      obtain ⟨pf, pt, pd, pk⟩ := p
      unfold okPl at hok
      simp only at hok hrow
      unfold gdP at hgd
      simp only [decide_eq_true_eq] at hgd
      by_cases hpe : pt = e
      · by_cases hpk : (cnt fs e : Int) + 1 ≤ pk
        · rw [rx_skip (.inr hpk)] at hst
          repeat' (first | ((first | apply Ba | (apply Bb; (· rfl); (· rfl)) | (apply Bc; (· exact nxE)) | (apply Bd; (· rfl); (· rfl); (· exact nxE))); (· first | exact Ok.lenD rfl rfl FL_len | exact Ok.pe)) | ((first | apply Ca | (apply Cb; (· exact nxE))); (· first | exact Ok.e0)) | refine Sx ?_ | (refine Sy (fun h => ?_) (fun h => ?_) <;> try (exfalso; omega; done)) | refine Sz (fun h => ?_) (fun h => ?_))
          refine ⟨⟨k + 1, by omega⟩, ?_, by simp only; omega⟩
          (apply Le.headZ [] rfl)
          all_goals (try dsimp only [srcs])
          (case' hfr | hob => (repeat' (first | refine La ?_ ?_ | exact Lc | refine Lo ?_ | refine ⟨⟨_, rfl, ?_⟩, ?_⟩ | refine Lx ?_)))
          all_goals (first | ((rw [hst]; done)) | exact Ld)
        · have hrF := hrT pf (by omega) (by omega)
          have hlF := hlen pf
          have hT := getD_tms htm pf ((cnt fs e : Int) + 1 - pk - 1).toNat
          have hcf := cnt_le fs pf
          rw [rx_step hpe (by simp only; omega)] at hst
          have hrI : (IR (tms fs pf))[((cnt fs e : Int) + 1 - pk - 1).toNat]? = some [DI (((tms fs pf)[((cnt fs e : Int) + 1 - pk - 1).toNat]?).getD 0)] := by
            have hl2 : ((cnt fs e : Int) + 1 - pk - 1).toNat < (tms fs pf).length := by rw [tms_len]; omega
            rw [IR, List.getElem?_map, List.getElem?_eq_getElem hl2]; rfl
          simp only at hst
          generalize ((tms fs pf)[((cnt fs e : Int) + 1 - pk - 1).toNat]?).getD 0 = x at *
          repeat' (first | ((first | apply Ba | (apply Bb; (· rfl); (· rfl)) | (apply Bc; (· exact nxE)) | (apply Bd; (· rfl); (· rfl); (· exact nxE))); (· first | exact Ok.lenD rfl rfl hlF | exact Ok.lenD rfl rfl FL_len | exact Ok.pe)) | ((first | apply Ca | (apply Cb; (· exact nxE))); (· first | exact Ok.e0)) | refine Sx ?_ | (refine Sy (fun h => ?_) (fun h => ?_) <;> try (exfalso; omega; done)) | refine Sz (fun h => ?_) (fun h => ?_))
          refine ⟨⟨k + 1, by omega⟩, ?_, by simp only; omega⟩
          (apply Le.headZ [] rfl)
          all_goals (try dsimp only [srcs])
          (case' hfr | hob => (repeat' (first | refine La ?_ ?_ | exact Lc | refine Lo ?_ | refine ⟨⟨_, rfl, ?_⟩, ?_⟩ | refine Lx ?_)))
          all_goals (first | ((rw [hst]; done)) | exact Ld)
      · rw [rx_skip (.inl hpe)] at hst
        repeat' (first | ((first | apply Ba | (apply Bb; (· rfl); (· rfl)) | (apply Bc; (· exact nxE)) | (apply Bd; (· rfl); (· rfl); (· exact nxE))); (· first | exact Ok.lenD rfl rfl FL_len | exact Ok.pe)) | ((first | apply Ca | (apply Cb; (· exact nxE))); (· first | exact Ok.e0)) | refine Sx ?_ | (refine Sy (fun h => ?_) (fun h => ?_) <;> try (exfalso; omega; done)) | refine Sz (fun h => ?_) (fun h => ?_))
        refine ⟨⟨k + 1, by omega⟩, ?_, by simp only; omega⟩
        (apply Le.headZ [] rfl)
        all_goals (try dsimp only [srcs])
        (case' hfr | hob => (repeat' (first | refine La ?_ ?_ | exact Lc | refine Lo ?_ | refine ⟨⟨_, rfl, ?_⟩, ?_⟩ | refine Lx ?_)))
        all_goals (first | ((rw [hst]; done)) | exact Ld)
    · obtain rfl : k = xs.length := by omega
      rw [List.take_length]
      repeat' (first | ((first | apply Ba | (apply Bb; (· rfl); (· rfl)) | (apply Bc; (· exact nxE)) | (apply Bd; (· rfl); (· rfl); (· exact nxE))); (· first | exact Ok.lenD rfl rfl FL_len | exact Ok.pe)) | ((first | apply Ca | (apply Cb; (· exact nxE))); (· first | exact Ok.e0)) | refine Sx ?_ | (refine Sy (fun h => ?_) (fun h => ?_) <;> try (exfalso; omega; done)) | refine Sz (fun h => ?_) (fun h => ?_))
      refine Yb ?_
      (apply Le.headZ (hs := []) [] rfl)
      all_goals (try dsimp only [srcs])
      (case' hfr => (repeat' (first | refine La ?_ ?_ | exact Lc | refine Lo ?_ | refine ⟨⟨_, rfl, ?_⟩, ?_⟩ | refine Lx ?_)))
      all_goals (first | exact Ld | exact trivial | (rfl))
  · have hjl := (List.getElem?_eq_some_iff.1 hj).1
    have hall : ¬ xs.all (gdP fs e) = true := fun h => by
      have := List.all_eq_true.1 h q (List.mem_of_getElem? hj)
      rw [this] at hq; cases hq
    have hr : rdR xs fs e = (0, false) := if_neg hall
    rw [hr]
    refine AC.of_body 0 Tryz.func105 rfl (fun l h => absurd rfl h) (fun C hC => ?_)
    have hD : ∀ l, ¬ C.D0 l := fun l h => (hC l).1 h rfl
    simp only [startFr, Tryz.ntmps105, List.length_cons, List.length_nil, Nat.reduceAdd, Nat.reduceSub, List.replicate_succ, List.replicate_zero, List.cons_append, List.nil_append]
    repeat' (first | ((first | apply Ba | (apply Bb; (· rfl); (· rfl)) | (apply Bc; (· exact nxE)) | (apply Bd; (· rfl); (· rfl); (· exact nxE))); (· first | exact Ok.lenD rfl rfl hlE | exact Ok.lenD rfl rfl FL_len | exact Ok.pe)) | ((first | apply Ca | (apply Cb; (· exact nxE))); (· first | exact Ok.e0)) | refine Sx ?_ | (refine Sy (fun h => ?_) (fun h => ?_) <;> try (exfalso; omega; done)) | refine Sz (fun h => ?_) (fun h => ?_))
    refine AW.loop (X := {k : Nat // k ≤ j}) (fun k => ⟨[Oo, TL (tmT n fs), I e, Oo, Oo, Oo, Oo, Oo, I ((cnt fs e : Nat) + 1), I (rdT fs e (xs.take (k.1 : Nat))), Oo, Oo, Oo, Oo, Oo, Oo, Oo, Oo, Oo, Oo, PL xs, I xs.length, I (k.1 : Nat), Oo, Oo, Oo, Oo, Oo, Oo, Oo, Oo, Oo, Oo, Oo, Oo, Oo, Oo, Oo, Oo, Oo, Oo, Oo, Oo, Oo, Oo, Oo, Oo, Oo, Oo, Oo, Oo, Oo, Oo, Oo, Oo, Oo, Oo, Oo, Oo, Oo, Oo, Oo, Oo, Oo], heapL [], 900⟩) (fun k => j - k.1) ⟨0, Nat.zero_le _⟩ ?_ (fun k => ?_)
    ·
      (apply Le.headZ [] rfl)
      all_goals (try dsimp only [srcs])
      (case' hfr | hob => (repeat' (first | refine La ?_ ?_ | exact Lc | refine Lo ?_ | refine ⟨⟨_, rfl, ?_⟩, ?_⟩ | refine Lx ?_)))
      all_goals (first | (rfl) | exact Ld)
    obtain ⟨k, hk⟩ := k
    simp only
    by_cases hlt : k < j
    · obtain ⟨p, hp⟩ : ∃ p, xs[k]? = some p := ⟨xs[k]'(by omega), List.getElem?_eq_getElem (by omega)⟩
      have hrow : (xs.map Pl.row)[((k : Nat) : Int).toNat]? = some [DI p.f, DI p.t, DI p.d, DI p.k] := row_get hp
      have hmem := List.mem_of_getElem? hp
      have hok := hv p hmem
      have hgd : gdP fs e p = true := by simpa using hb k p hlt hp
      have hst := take_st (fs := fs) (e := e) hp
      have hbd := rdT_bd htm e (xs.take k) (fun q hq => hv q (List.mem_of_mem_take hq))
      generalize rdT fs e (xs.take k) = T at *
      obtain ⟨pf, pt, pd, pk⟩ := p
      unfold okPl at hok
      simp only at hok hrow
      unfold gdP at hgd
      simp only [decide_eq_true_eq] at hgd
      by_cases hpe : pt = e
      · by_cases hpk : (cnt fs e : Int) + 1 ≤ pk
        · rw [rx_skip (.inr hpk)] at hst
          repeat' (first | ((first | apply Ba | (apply Bb; (· rfl); (· rfl)) | (apply Bc; (· exact nxE)) | (apply Bd; (· rfl); (· rfl); (· exact nxE))); (· first | exact Ok.lenD rfl rfl FL_len | exact Ok.pe)) | ((first | apply Ca | (apply Cb; (· exact nxE))); (· first | exact Ok.e0)) | refine Sx ?_ | (refine Sy (fun h => ?_) (fun h => ?_) <;> try (exfalso; omega; done)) | refine Sz (fun h => ?_) (fun h => ?_))
          refine ⟨⟨k + 1, by omega⟩, ?_, by simp only; omega⟩
          (apply Le.headZ [] rfl)
          all_goals (try dsimp only [srcs])
          (case' hfr | hob => (repeat' (first | refine La ?_ ?_ | exact Lc | refine Lo ?_ | refine ⟨⟨_, rfl, ?_⟩, ?_⟩ | refine Lx ?_)))
          all_goals (first | ((rw [hst]; done)) | exact Ld)
        · have hrF := hrT pf (by omega) (by omega)
          have hlF := hlen pf
          have hT := getD_tms htm pf ((cnt fs e : Int) + 1 - pk - 1).toNat
          have hcf := cnt_le fs pf
          rw [rx_step hpe (by simp only; omega)] at hst
          have hrI : (IR (tms fs pf))[((cnt fs e : Int) + 1 - pk - 1).toNat]? = some [DI (((tms fs pf)[((cnt fs e : Int) + 1 - pk - 1).toNat]?).getD 0)] := by
            have hl2 : ((cnt fs e : Int) + 1 - pk - 1).toNat < (tms fs pf).length := by rw [tms_len]; omega
            rw [IR, List.getElem?_map, List.getElem?_eq_getElem hl2]; rfl
          simp only at hst
          generalize ((tms fs pf)[((cnt fs e : Int) + 1 - pk - 1).toNat]?).getD 0 = x at *
          repeat' (first | ((first | apply Ba | (apply Bb; (· rfl); (· rfl)) | (apply Bc; (· exact nxE)) | (apply Bd; (· rfl); (· rfl); (· exact nxE))); (· first | exact Ok.lenD rfl rfl hlF | exact Ok.lenD rfl rfl FL_len | exact Ok.pe)) | ((first | apply Ca | (apply Cb; (· exact nxE))); (· first | exact Ok.e0)) | refine Sx ?_ | (refine Sy (fun h => ?_) (fun h => ?_) <;> try (exfalso; omega; done)) | refine Sz (fun h => ?_) (fun h => ?_))
          refine ⟨⟨k + 1, by omega⟩, ?_, by simp only; omega⟩
          (apply Le.headZ [] rfl)
          all_goals (try dsimp only [srcs])
          (case' hfr | hob => (repeat' (first | refine La ?_ ?_ | exact Lc | refine Lo ?_ | refine ⟨⟨_, rfl, ?_⟩, ?_⟩ | refine Lx ?_)))
          all_goals (first | ((rw [hst]; done)) | exact Ld)
      · rw [rx_skip (.inl hpe)] at hst
        repeat' (first | ((first | apply Ba | (apply Bb; (· rfl); (· rfl)) | (apply Bc; (· exact nxE)) | (apply Bd; (· rfl); (· rfl); (· exact nxE))); (· first | exact Ok.lenD rfl rfl FL_len | exact Ok.pe)) | ((first | apply Ca | (apply Cb; (· exact nxE))); (· first | exact Ok.e0)) | refine Sx ?_ | (refine Sy (fun h => ?_) (fun h => ?_) <;> try (exfalso; omega; done)) | refine Sz (fun h => ?_) (fun h => ?_))
        refine ⟨⟨k + 1, by omega⟩, ?_, by simp only; omega⟩
        (apply Le.headZ [] rfl)
        all_goals (try dsimp only [srcs])
        (case' hfr | hob => (repeat' (first | refine La ?_ ?_ | exact Lc | refine Lo ?_ | refine ⟨⟨_, rfl, ?_⟩, ?_⟩ | refine Lx ?_)))
        all_goals (first | ((rw [hst]; done)) | exact Ld)
    · obtain rfl : k = j := by omega
      have hrow : (xs.map Pl.row)[((k : Nat) : Int).toNat]? = some [DI q.f, DI q.t, DI q.d, DI q.k] := row_get hj
      have hok := hv q (List.mem_of_getElem? hj)
      have hgd : gdP fs e q = false := by simpa using hq
      obtain ⟨pf, pt, pd, pk⟩ := q
      unfold okPl at hok
      simp only at hok hrow
      unfold gdP at hgd
      simp only [decide_eq_false_iff_not, not_or, Int.not_le, Decidable.not_not] at hgd
      obtain ⟨hpe, hpk, hcp⟩ := hgd
      have hrF := hrT pf (by omega) (by omega)
      have hlF := hlen pf
      have hcf := cnt_le fs pf
      repeat' (first | ((first | apply Ba | (apply Bb; (· rfl); (· rfl)) | (apply Bc; (· exact nxE)) | (apply Bd; (· rfl); (· rfl); (· exact nxE))); (· first | exact Ok.lenD rfl rfl hlF | exact Ok.lenD rfl rfl FL_len | exact Ok.pe)) | ((first | apply Ca | (apply Cb; (· exact nxE))); (· first | exact Ok.e0)) | refine Sx ?_ | (refine Sy (fun h => ?_) (fun h => ?_) <;> try (exfalso; omega; done)) | refine Sz (fun h => ?_) (fun h => ?_))
      all_goals
        refine Yb ?_
        (apply Le.headZ (hs := []) [] rfl)
        all_goals (try dsimp only [srcs])
        (case' hfr => (repeat' (first | refine La ?_ ?_ | exact Lc | refine Lo ?_ | refine ⟨⟨_, rfl, ?_⟩, ?_⟩ | refine Lx ?_)))
        all_goals (first | exact Ld | exact trivial | (rfl))
end Go.Proofs.YtofakjlamoigcaaGreatDoor
end

section
namespace Go.Proofs.YtofakjlamoigcaaGreatDoor
set_option linter.unusedSimpArgs false
set_option linter.unusedVariables false
open Go Go.RowKit
theorem TR_tmT_set [Mode] {n e : Nat} {fs : List Fi} {k : Nat} {fn ft : Int} (hf : fs[k]? = some ⟨(e : Nat), fn, ft⟩) (he : e < n) : TR (tmT n (fs.take (k + 1))) = (TR (tmT n (fs.take k))).set e (IR (tms (fs.take k) (e : Nat)) ++ [[DI ft]]) := by
  rw [List.take_add_one, hf]
  show TR (tmT n (fs.take k ++ [_])) = _
  rw [tmT_snoc he rfl]
  simp [TR, IR, List.map_set]
theorem TR_tmT_get [Mode] {n e : Nat} {fs : List Fi} (he : e < n) : (TR (tmT n fs))[e]? = some (IR (tms fs (e : Nat))) := by simp [TR, tmT_get he]
attribute [local irreducible] AL AD AW OpOk Le AC thenQ blockQ EndQ

set_option maxHeartbeats 8000000 in
theorem isRun_ac [Mode] (n : Nat) (xs : List Pl) (fs : List Fi) (hn : 1 ≤ n ∧ n ≤ 10) (hx : xs.length ≤ 30) (hv : ∀ p ∈ xs, okPl n p) (hno : NumOk fs) (htm : TmOk fs) (hl : fs.length ≤ 500) : AC Tryz.prog 94 [grD n xs, FL fs] H0 (Bo (rnB n xs fs)) H0 := by
  obtain ⟨m, hm, hgood, hend⟩ := rn_m n xs fs
  have hEy : ∀ e : Int, 0 ≤ e ∧ e < n → AC Tryz.prog 93 [grD n xs, I e] H0 (Bo true) H0 := fun e he => by have := isEvent_ac n xs e; rwa [wrap_in (by omega) (by omega), wi_yes (by omega)] at this
  have hEn : ∀ e : Int, ¬(0 ≤ e ∧ e < n) → AC Tryz.prog 93 [grD n xs, I e] H0 (Bo false) H0 := fun e he => by have := isEvent_ac n xs e; rwa [wrap_in (by omega) (by omega), wi_no (by omega)] at this
  refine AC.of_body 0 Tryz.func94 rfl (fun l h => absurd rfl h) (fun C hC => ?_)
  have hD : ∀ l, ¬ C.D0 l := fun l h => (hC l).1 h rfl
  simp only [startFr, Tryz.ntmps94, List.length_cons, List.length_nil, Nat.reduceAdd, Nat.reduceSub, List.replicate_succ, List.replicate_zero, List.cons_append, List.nil_append]
  repeat' (first | ((first | apply Ba | (apply Bb; (· rfl); (· rfl)) | (apply Bc; (· exact nxE)) | (apply Bd; (· rfl); (· rfl); (· exact nxE))); (· first | exact Ok.lenD rfl rfl FL_len | exact Ok.makeN (n := n) rfl rfl rfl (by omega) (by omega) | exact Ok.pe)) | ((first | apply Ca | (apply Cb; (· exact nxE))); (· first | exact Ok.makeN (n := n) rfl rfl rfl (by omega) (by omega) | exact Ok.e0)) | refine Sx ?_ | (refine Sy (fun h => ?_) (fun h => ?_) <;> try (exfalso; omega; done)) | refine Sz (fun h => ?_) (fun h => ?_))
  refine AW.loop (X := {k : Nat // k ≤ m}) (fun k => ⟨[Oo, Oo, Bx 2 0, Oo, Oo, .own 1 ⟨1, []⟩ 0 n, I (lsT (fs.take (k.1 : Nat))), Oo, Oo, Oo, Oo, Oo, Oo, Oo, Oo, Oo, Oo, FL fs, I fs.length, I (k.1 : Nat), Oo, Oo, Oo, Oo, Oo, Oo, Oo, Oo, Oo, Oo, Oo, Oo, Oo, Oo, Oo, Oo, Oo, Oo, Oo, Oo, Oo, Oo, Oo, Oo, Oo, Oo, Oo, Oo, Oo, Oo, Oo, Oo, Oo, Oo, Oo, Oo, Oo, Oo, Oo, Oo, Oo, Oo, Oo, Oo, Oo, Oo, Oo, Oo, Oo, Oo, Oo, Oo, Oo, Oo, Oo, Oo, Oo, Oo, Oo, Oo, Oo, Oo, Oo], heapX [(⟨0, []⟩, ⟨0, []⟩, ⟨2, [[I n, PL xs]]⟩)] [mi1 ⟨1, []⟩ (TR (tmT n (fs.take k.1)))], 900⟩) (fun k => m - k.1) ⟨0, Nat.zero_le _⟩ ?_ (fun k => ?_)
  ·
    refine (Le.nilTm 1 n ⟨7, []⟩ rfl).trans ?_
    (apply Le.headG [_] [{ l := ⟨1, []⟩, k := 1, R := TR (tmT n (fs.take 0)), src := ⟨7, []⟩, base := ⟨13, []⟩ }] (fun _ => False))
    (case' hlen => rfl)
    (case' hms => rfl)
    all_goals (try dsimp only [srcs])
    (case' hfr | hob => (repeat' (first | refine La ?_ ?_ | exact Lc | refine Lo ?_ | refine ⟨⟨_, rfl, ?_⟩, ?_⟩ | refine Lx ?_)))
    (case' hok => first | exact ⟨MI.ok_nilT (TR_nils rfl) (by decide), trivial⟩ | exact trivial)
    (case' hN => rfl)
    (case' hS => rfl)
    all_goals (first | exact Ld | (rfl))
  obtain ⟨k, hk⟩ := k
  simp only
  by_cases hkl : k < fs.length
  case neg =>
    obtain rfl : k = m := by omega
    rcases hend with ⟨rfl, hr⟩ | ⟨f, hf, _, _⟩
    · rw [hr]
      repeat' (first | ((first | apply Ba | (apply Bb; (· rfl); (· rfl)) | (apply Bc; (· exact nxE)) | (apply Bd; (· rfl); (· rfl); (· exact nxE))); (· first | exact Ok.lenD rfl rfl FL_len | exact Ok.pe)) | ((first | apply Ca | (apply Cb; (· exact nxE))); (· first | exact Ok.e0)) | refine Sx ?_ | (refine Sy (fun h => ?_) (fun h => ?_) <;> try (exfalso; omega; done)) | refine Sz (fun h => ?_) (fun h => ?_))
      refine Ya ?_
      (apply Le.headZ (hs := []) [] rfl)
      all_goals (try dsimp only [srcs])
      (case' hfr => (repeat' (first | refine La ?_ ?_ | exact Lc | refine Lo ?_ | refine ⟨⟨_, rfl, ?_⟩, ?_⟩ | refine Lx ?_)))
      all_goals (first | exact Ld | exact trivial | (rfl))
    · exact absurd (List.getElem?_eq_some_iff.1 hf).1 hkl
  obtain ⟨f, hf⟩ : ∃ f, fs[k]? = some f := ⟨fs[k], List.getElem?_eq_getElem hkl⟩
  have hrow : (fs.map Fi.row)[((k : Nat) : Int).toNat]? = some [DI f.e, DI f.n, DI f.t] := row_get hf
  have hfn := hno k f hf
  have hft := htm f (List.mem_of_getElem? hf)
  have hcl := cnt_le (fs.take k) f.e
  have htl : (fs.take k).length = k := by rw [List.length_take]; omega
  have hls := lsT_bd (htm.take k)
  have hkm : k < m ∨ k = m := by omega
  have hB : (rnS n xs (fs.take k) f = true ∧ k < m) ∨ (k = m ∧ rnS n xs (fs.take k) f = false ∧ rnB n xs fs = false) := by
    rcases hkm with h | h
    · exact .inl ⟨hgood k f h hf, h⟩
    · rcases hend with ⟨h1, _⟩ | ⟨g, hg, h2, h3⟩
      · omega
      · subst h
        rw [hf] at hg; cases hg
        exact .inr ⟨rfl, h2, h3⟩
  have hls2 := lsT_take hf
  have hTl : (TR (tmT n (fs.take k))).length = n := by rw [TR_len, tmT_len]
  by_cases hev : 0 ≤ f.e ∧ f.e < n
  case neg =>
    have hE := hEn f.e hev
    rcases hB with ⟨hS, _⟩ | ⟨rfl, hS, hrB⟩
    · obtain ⟨e1, e2, _⟩ := rnS_yes hS
      exact absurd ⟨e1, e2⟩ hev
    rw [hrB]
    obtain ⟨fe, fn, ft⟩ := f
    simp only at hrow hE
    repeat' (first | ((first | apply Ba | (apply Bb; (· rfl); (· rfl)) | (apply Bc; (· exact nxE)) | (apply Bd; (· rfl); (· rfl); (· exact nxE))); (· first | exact Kz rfl rfl (hE) (Aa (Ad (Ad An)) (Ad An)) | exact Ok.lenD rfl rfl FL_len | exact Ok.pe)) | ((first | apply Ca | (apply Cb; (· exact nxE))); (· first | exact Ok.e0)) | refine Sx ?_ | (refine Sy (fun h => ?_) (fun h => ?_) <;> try (exfalso; omega; done)) | refine Sz (fun h => ?_) (fun h => ?_))
    all_goals
      refine Ya ?_
      (apply Le.headZ (hs := []) [] rfl)
      all_goals (try dsimp only [srcs])
      (case' hfr => (repeat' (first | refine La ?_ ?_ | exact Lc | refine Lo ?_ | refine ⟨⟨_, rfl, ?_⟩, ?_⟩ | refine Lx ?_)))
      all_goals (first | exact Ld | exact trivial | (rfl))
  have hE := hEy f.e hev
  obtain ⟨fe, fn, ft⟩ := f
  simp only at hrow hfn hft hcl hev hE hls2
  obtain ⟨e, rfl⟩ : ∃ e : Nat, fe = e := ⟨fe.toNat, by omega⟩
  have hR := readyTime_ac n xs (fs.take k) e (by omega) (by omega) hv (by omega) (htm.take k) (by omega)
  have hrw := TR_tmT_get (n := n) (fs := fs.take k) (e := e) (by omega)
  have hlen : (IR (tms (fs.take k) (e : Nat))).length = cnt (fs.take k) e := by rw [IR_len, tms_len]
  have hset := TR_tmT_set (n := n) hf (by omega)
  have hlen2 : (IR (tms (fs.take k) (e : Nat)) ++ [[DI ft]]).length = cnt (fs.take k) e + 1 := by rw [List.length_append, hlen]; rfl
  have hcut : e < (TR (tmT n (fs.take k))).length := by omega
  generalize hq : rdR xs (fs.take k) (e : Nat) = q at *
  obtain ⟨qt, qb⟩ := q
  simp only at hR
  generalize cnt (fs.take k) e = c at *
  rcases hB with ⟨hS, hlt⟩ | ⟨rfl, hS, hrB⟩
  · obtain ⟨e1, e2, e3, e4, e5⟩ := rnS_yes hS
    simp only [hq] at e1 e2 e3 e4 e5
    subst e4
    generalize lsT (fs.take k) = lt at *
    repeat' (first | ((first | apply Ba | (apply Bb; (· rfl); (· rfl)) | (apply Bc; (· exact nxE)) | (apply Bd; (· rfl); (· rfl); (· exact nxE))); (· first | exact Kz rfl rfl (hE) (Aa (Ad (Ad An)) (Ad An)) | exact Ok.ldTn rfl rfl rfl hrw hlen | exact Ez rfl rfl (hR) (Sa (Sd (Sd Sn)) (Sm (Sd Sn))) | exact Ok.lenD rfl rfl FL_len | exact Ok.append1 (row := [DI ft]) rfl rfl (by decide) rfl (congrArg (Option.map (dobj 1)) hrw) hlen rfl rfl rfl (by rfl) (by omega) (by omega) | exact Ok.stT rfl rfl rfl (by dsimp only; rw [hTl]; omega) rfl | exact Ok.pe)) | ((first | apply Ca | (apply Cb; (· exact nxE))); (· first | exact Ok.append1 (row := [DI ft]) rfl rfl (by decide) rfl (congrArg (Option.map (dobj 1)) hrw) hlen rfl rfl rfl (by rfl) (by omega) (by omega) | exact Ok.stT rfl rfl rfl (by dsimp only; rw [hTl]; omega) rfl | exact Ok.e0)) | refine Sx ?_ | (refine Sy (fun h => ?_) (fun h => ?_) <;> try (exfalso; omega; done)) | refine Sz (fun h => ?_) (fun h => ?_))
    refine ⟨⟨k + 1, by omega⟩, ?_, by simp only; omega⟩
    (apply Le.headG [_] [{ l := ⟨1, []⟩, k := 1, R := TR (tmT n (fs.take (k + 1))), src := ⟨1, []⟩, base := ⟨1, []⟩, cut := e, ext := some ⟨962, []⟩ }] (fun _ => False))
    (case' hlen => rfl)
    (case' hms => rfl)
    all_goals (try dsimp only [srcs])
    (case' hfr | hob => (repeat' (first | refine La ?_ ?_ | exact Lc | refine Lo ?_ | refine ⟨⟨_, rfl, ?_⟩, ?_⟩ | refine Lx ?_)))
    (case' hok => first | exact ⟨MI.ok_swap hset hcut hlen2 rfl (fun i x hx hne => by simp [upds, W.app, upd, heapX, heapM, matG, Loc.cov, Loc.at, hne, hx]) rfl, trivial⟩ | exact trivial)
    (case' hN => rfl)
    (case' hS => rfl)
    all_goals (first | exact Ld | ((first | (rw [hls2]; done) | (simp [AllP]; done) | (simp [AllP]; omega))))
  · rw [hrB]
    rcases rnS_no hS with h1 | h1 | h1 | h1
    · exact absurd hev h1
    · obtain ⟨h1, h2⟩ := h1
      simp only at h1 h2
      generalize lsT (fs.take k) = lt at *
      repeat' (first | ((first | apply Ba | (apply Bb; (· rfl); (· rfl)) | (apply Bc; (· exact nxE)) | (apply Bd; (· rfl); (· rfl); (· exact nxE))); (· first | exact Kz rfl rfl (hE) (Aa (Ad (Ad An)) (Ad An)) | exact Ok.ldTn rfl rfl rfl hrw hlen | exact Ok.lenD rfl rfl FL_len | exact Ok.pe)) | ((first | apply Ca | (apply Cb; (· exact nxE))); (· first | exact Ok.e0)) | refine Sx ?_ | (refine Sy (fun h => ?_) (fun h => ?_) <;> try (exfalso; omega; done)) | refine Sz (fun h => ?_) (fun h => ?_))
      all_goals
        refine Ya ?_
        (apply Le.headZ (hs := []) [] rfl)
        all_goals (try dsimp only [srcs])
        (case' hfr => (repeat' (first | refine La ?_ ?_ | exact Lc | refine Lo ?_ | refine ⟨⟨_, rfl, ?_⟩, ?_⟩ | refine Lx ?_)))
        all_goals (first | exact Ld | exact trivial | (rfl))
    · obtain ⟨h1, h2, h3⟩ := h1
      simp only [hq] at h1 h2 h3
      subst h3
      generalize lsT (fs.take k) = lt at *
      repeat' (first | ((first | apply Ba | (apply Bb; (· rfl); (· rfl)) | (apply Bc; (· exact nxE)) | (apply Bd; (· rfl); (· rfl); (· exact nxE))); (· first | exact Kz rfl rfl (hE) (Aa (Ad (Ad An)) (Ad An)) | exact Ok.ldTn rfl rfl rfl hrw hlen | exact Ez rfl rfl (hR) (Sa (Sd (Sd Sn)) (Sm (Sd Sn))) | exact Ok.lenD rfl rfl FL_len | exact Ok.pe)) | ((first | apply Ca | (apply Cb; (· exact nxE))); (· first | exact Ok.e0)) | refine Sx ?_ | (refine Sy (fun h => ?_) (fun h => ?_) <;> try (exfalso; omega; done)) | refine Sz (fun h => ?_) (fun h => ?_))
      all_goals
        refine Ya ?_
        (apply Le.headZ (hs := []) [] rfl)
        all_goals (try dsimp only [srcs])
        (case' hfr => (repeat' (first | refine La ?_ ?_ | exact Lc | refine Lo ?_ | refine ⟨⟨_, rfl, ?_⟩, ?_⟩ | refine Lx ?_)))
        all_goals (first | exact Ld | exact trivial | (rfl))
    · obtain ⟨h1, h2, h3, h4⟩ := h1
      simp only [hq] at h1 h2 h3 h4
      subst h3
      generalize lsT (fs.take k) = lt at *
      repeat' (first | ((first | apply Ba | (apply Bb; (· rfl); (· rfl)) | (apply Bc; (· exact nxE)) | (apply Bd; (· rfl); (· rfl); (· exact nxE))); (· first | exact Kz rfl rfl (hE) (Aa (Ad (Ad An)) (Ad An)) | exact Ok.ldTn rfl rfl rfl hrw hlen | exact Ez rfl rfl (hR) (Sa (Sd (Sd Sn)) (Sm (Sd Sn))) | exact Ok.lenD rfl rfl FL_len | exact Ok.pe)) | ((first | apply Ca | (apply Cb; (· exact nxE))); (· first | exact Ok.e0)) | refine Sx ?_ | (refine Sy (fun h => ?_) (fun h => ?_) <;> try (exfalso; omega; done)) | refine Sz (fun h => ?_) (fun h => ?_))
      all_goals
        refine Ya ?_
        (apply Le.headZ (hs := []) [] rfl)
        all_goals (try dsimp only [srcs])
        (case' hfr => (repeat' (first | refine La ?_ ?_ | exact Lc | refine Lo ?_ | refine ⟨⟨_, rfl, ?_⟩, ?_⟩ | refine Lx ?_)))
        all_goals (first | exact Ld | exact trivial | (rfl))
theorem checkRun_ac [Mode] (ev : Int) (xs : List Pl) (fs : List Fi) (hx : xs.length ≤ 1048576) (hno : NumOk fs) (htm : TmOk fs) (hl : fs.length ≤ 500) : AC Tryz.prog 78 [grD ev xs, FL fs] H0 (I (raC ev xs fs)) H0 := by
  have hG := iIsEventGraph_ac ev xs (by omega)
  by_cases hg : isEG ev xs = true
  · obtain ⟨n, rfl, h1, h2, h3, h4⟩ := isEG_okR hg
    have hR := isRun_ac n xs fs ⟨h1, h2⟩ h3 h4 hno htm hl
    have e1 : raC n xs fs = if rnB n xs fs = true then 0 else 2 := if_pos hg
    rw [e1]
    rw [hg] at hG
    generalize rnB n xs fs = b at *
    cases b
    all_goals
      refine AC.of_body 0 Tryz.func78 rfl (fun l h => absurd rfl h) (fun C hC => ?_)
      have hD : ∀ l, ¬ C.D0 l := fun l h => (hC l).1 h rfl
      simp only [startFr, Tryz.ntmps78, List.length_cons, List.length_nil, Nat.reduceAdd, Nat.reduceSub, List.replicate_succ, List.replicate_zero, List.cons_append, List.nil_append]
      repeat' (first | ((first | apply Ba | (apply Bb; (· rfl); (· rfl)) | (apply Bc; (· exact nxE)) | (apply Bd; (· rfl); (· rfl); (· exact nxE))); (· first | exact Kz rfl rfl (hG) (Aa (Ad (Ad An)) An) | exact Kz rfl rfl (hR) (Aa (Ad (Ad An)) (Ad An)) | exact Ok.lenD rfl rfl FL_len | exact Ok.pe)) | ((first | apply Ca | (apply Cb; (· exact nxE))); (· first | exact Ok.e0)) | refine Sx ?_ | (refine Sy (fun h => ?_) (fun h => ?_) <;> try (exfalso; omega; done)) | refine Sz (fun h => ?_) (fun h => ?_))
    all_goals
      refine Ya ?_
      (apply Le.headZ (hs := []) [] rfl)
      all_goals (try dsimp only [srcs])
      (case' hfr => (repeat' (first | refine La ?_ ?_ | exact Lc | refine Lo ?_ | refine ⟨⟨_, rfl, ?_⟩, ?_⟩ | refine Lx ?_)))
      all_goals (first | exact Ld | exact trivial | (rfl))
  · have e1 : raC ev xs fs = 1 := if_neg hg
    rw [e1]
    rw [Bool.not_eq_true] at hg
    rw [hg] at hG
    refine AC.of_body 0 Tryz.func78 rfl (fun l h => absurd rfl h) (fun C hC => ?_)
    have hD : ∀ l, ¬ C.D0 l := fun l h => (hC l).1 h rfl
    simp only [startFr, Tryz.ntmps78, List.length_cons, List.length_nil, Nat.reduceAdd, Nat.reduceSub, List.replicate_succ, List.replicate_zero, List.cons_append, List.nil_append]
    repeat' (first | ((first | apply Ba | (apply Bb; (· rfl); (· rfl)) | (apply Bc; (· exact nxE)) | (apply Bd; (· rfl); (· rfl); (· exact nxE))); (· first | exact Kz rfl rfl (hG) (Aa (Ad (Ad An)) An) | exact Ok.lenD rfl rfl FL_len | exact Ok.pe)) | ((first | apply Ca | (apply Cb; (· exact nxE))); (· first | exact Ok.e0)) | refine Sx ?_ | (refine Sy (fun h => ?_) (fun h => ?_) <;> try (exfalso; omega; done)) | refine Sz (fun h => ?_) (fun h => ?_))
    all_goals
      refine Ya ?_
      (apply Le.headZ (hs := []) [] rfl)
      all_goals (try dsimp only [srcs])
      (case' hfr => (repeat' (first | refine La ?_ ?_ | exact Lc | refine Lo ?_ | refine ⟨⟨_, rfl, ?_⟩, ?_⟩ | refine Lx ?_)))
      all_goals (first | exact Ld | exact trivial | (rfl))
end Go.Proofs.YtofakjlamoigcaaGreatDoor
end

section
namespace Go.Proofs.YtofakjlamoigcaaGreatDoor
set_option linter.unusedSimpArgs false
set_option linter.unusedVariables false
open Go Go.RowKit
/-- How often each event has fired. -/
def cntsN (n : Nat) (fs : List Fi) : List Int := (List.range n).map fun e : Nat => ((cnt fs (e : Int) : Nat) : Int)
theorem cntsN_len [Mode] (n : Nat) (fs : List Fi) : (cntsN n fs).length = n := by simp [cntsN]
theorem cntsN_get [Mode] {n : Nat} {fs : List Fi} {e : Nat} (h : e < n) : (cntsN n fs)[e]? = some (cnt fs e : Int) := by simp [cntsN, h]
theorem cntsN_set [Mode] {n : Nat} {fs : List Fi} {e : Nat} {q t : Int} (h : e < n) : (cntsN n fs).set e ((cnt fs e : Int) + 1) = cntsN n (fs ++ [⟨e, q, t⟩]) := by
  apply List.ext_getElem?
  intro j
  rw [List.getElem?_set]
  by_cases hj : e = j
  · subst hj
    rw [if_pos rfl, if_pos (by rw [cntsN_len]; exact h), cntsN_get h, cnt_snoc]
    simp
  · rw [if_neg hj]
    by_cases hlt : j < n
    · rw [cntsN_get hlt, cntsN_get hlt, cnt_snoc, if_neg (by simp; omega)]; rfl
    · rw [List.getElem?_eq_none (by rw [cntsN_len]; omega), List.getElem?_eq_none (by rw [cntsN_len]; omega)]
theorem cntsN_nil [Mode] (n : Nat) : cntsN n [] = List.replicate n 0 := by
  apply List.ext_getElem?
  intro i
  by_cases h : i < n
  · rw [cntsN_get h, List.getElem?_replicate, if_pos h]; rfl
  · rw [List.getElem?_eq_none (by rw [cntsN_len]; omega), List.getElem?_eq_none (by simp; omega)]
theorem cntsN_zero [Mode] (n : Nat) (fs : List Fi) (h : fs = []) : List.replicate n [D.v (.int .i64 0)] = IR (cntsN n fs) := by
  subst h; rw [cntsN_nil]; simp [IR]
abbrev rowJ (n : Int) : List D := [DI n]
attribute [local irreducible] AL AD AW OpOk Le AC thenQ blockQ EndQ

set_option maxHeartbeats 4000000 in
theorem markingAfter_ac [Mode] (n : Nat) (xs : List Pl) (fs : List Fi) (hn : 1 ≤ n ∧ n ≤ 10) (hx : xs.length ≤ 30) (hv : ∀ p ∈ xs, okPl n p) (he : ∀ f ∈ fs, 0 ≤ f.e ∧ f.e < n) (hl : fs.length ≤ 500) : AC Tryz.prog 79 [grD n xs, FL fs] H0 (own1 1 (mkA xs fs).length) (hp1 (IO (mkA xs fs))) := by
  have hml := mkA_len (xs := xs) (fs := fs)
  refine AC.of_body 0 Tryz.func79 rfl (fun l h => absurd rfl h) (fun C hC => ?_)
  have hD : ∀ l, ¬ C.D0 l := fun l h => (hC l).1 h rfl
  simp only [startFr, Tryz.ntmps79, List.length_cons, List.length_nil, Nat.reduceAdd, Nat.reduceSub, List.replicate_succ, List.replicate_zero, List.cons_append, List.nil_append]
  repeat' (first | ((first | apply Ba | (apply Bb; (· rfl); (· rfl)) | (apply Bc; (· exact nxE)) | (apply Bd; (· rfl); (· rfl); (· exact nxE))); (· first | exact Ok.lenD rfl rfl FL_len | exact Ok.makeN (n := n) rfl rfl rfl (by omega) (by omega) | exact Ok.pe)) | ((first | apply Ca | (apply Cb; (· exact nxE))); (· first | exact Ok.makeN (n := n) rfl rfl rfl (by omega) (by omega) | exact Ok.e0)) | refine Sx ?_ | (refine Sy (fun h => ?_) (fun h => ?_) <;> try (exfalso; omega; done)) | refine Sz (fun h => ?_) (fun h => ?_))
  refine AW.loop (X := {k : Nat // k ≤ fs.length}) (fun k => ⟨[Oo, Oo, Bx 2 0, Oo, Oo, .own 1 ⟨1, []⟩ 0 n, Oo, Oo, Oo, Oo, Oo, Oo, Oo, Oo, FL fs, I fs.length, I (k.1 : Nat), Oo, Oo, Oo, Oo, Oo, Oo, Oo, Oo, Oo, Oo, Oo, Oo, Oo, Oo, Oo, Oo, Oo, Oo, Oo, Oo, Oo, Oo, Oo, Oo, Oo, Oo, Oo, Oo, Oo, Oo, Oo, Oo, Oo, Oo, Oo, Oo, Oo, Oo, Oo, Oo, Oo, Oo], heapL [(⟨0, []⟩, ⟨0, []⟩, ⟨2, [[I n, PL xs]]⟩), (⟨1, []⟩, ⟨1, []⟩, IO (cntsN n (fs.take k.1)))], 900⟩) (fun k => fs.length - k.1) ⟨0, Nat.zero_le _⟩ ?_ (fun k => ?_)
  ·
    (apply Le.headZ [_, _] rfl)
    all_goals (try dsimp only [srcs])
    (case' hfr | hob => (repeat' (first | refine La ?_ ?_ | exact Lc | refine Lo ?_ | refine ⟨⟨_, rfl, ?_⟩, ?_⟩ | refine Lx ?_)))
    all_goals (first | ((exact congrArg (dobj 1) (cntsN_zero n _ rfl))) | exact Ld)
  obtain ⟨k, hk⟩ := k
  simp only
  by_cases hlt : k < fs.length
  · obtain ⟨f, hf⟩ : ∃ f, fs[k]? = some f := ⟨fs[k], List.getElem?_eq_getElem hlt⟩
    have hrow : (fs.map Fi.row)[((k : Nat) : Int).toNat]? = some [DI f.e, DI f.n, DI f.t] := row_get hf
    have hfe := he f (List.mem_of_getElem? hf)
    have hcl := cnt_le (fs.take k) f.e
    have htk : fs.take (k + 1) = fs.take k ++ [f] := by rw [List.take_add_one, hf]; rfl
    have htl := List.length_take_le k fs
    obtain ⟨fe, fn, ft⟩ := f
    simp only at hrow hfe hcl htk
    obtain ⟨e, rfl⟩ : ∃ e : Nat, fe = e := ⟨fe.toNat, by omega⟩
    have hg1 := IO_get (cntsN_get (n := n) (fs := fs.take k) (e := e) (by omega))
    have hst := IO_set (cntsN_set (n := n) (fs := fs.take k) (e := e) (q := fn) (t := ft) (by omega))
    rw [← htk] at hst
    generalize cnt (fs.take k) e = q at *
    generalize hc0 : cntsN n (fs.take k) = c0 at *
    repeat' (first | ((first | apply Ba | (apply Bb; (· rfl); (· rfl)) | (apply Bc; (· exact nxE)) | (apply Bd; (· rfl); (· rfl); (· exact nxE))); (· first | exact OpOk.loadCell rfl rfl rfl rfl hg1 rfl | exact Ok.lenD rfl rfl FL_len | exact Ok.storeC rfl rfl rfl rfl hg1 (by exact Nat.zero_lt_one) rfl rfl rfl hst | exact Ok.pe)) | ((first | apply Ca | (apply Cb; (· exact nxE))); (· first | exact Ok.storeC rfl rfl rfl rfl hg1 (by exact Nat.zero_lt_one) rfl rfl rfl hst | exact Ok.e0)) | refine Sx ?_ | (refine Sy (fun h => ?_) (fun h => ?_) <;> try (exfalso; omega; done)) | refine Sz (fun h => ?_) (fun h => ?_))
    refine ⟨⟨k + 1, by omega⟩, ?_, by simp only; omega⟩
    (apply Le.headZ [_, _] rfl)
    all_goals (try dsimp only [srcs])
    (case' hfr | hob => (repeat' (first | refine La ?_ ?_ | exact Lc | refine Lo ?_ | refine ⟨⟨_, rfl, ?_⟩, ?_⟩ | refine Lx ?_)))
    all_goals (first | (rfl) | exact Ld)
  · obtain rfl : k = fs.length := by omega
    rw [List.take_length]
    repeat' (first | ((first | apply Ba | (apply Bb; (· rfl); (· rfl)) | (apply Bc; (· exact nxE)) | (apply Bd; (· rfl); (· rfl); (· exact nxE))); (· first | exact Ok.lenD rfl rfl FL_len | exact Ok.makeN (n := xs.length) rfl rfl rfl (by omega) (by omega) | exact Ok.pe)) | ((first | apply Ca | (apply Cb; (· exact nxE))); (· first | exact Ok.makeN (n := xs.length) rfl rfl rfl (by omega) (by omega) | exact Ok.e0)) | refine Sx ?_ | (refine Sy (fun h => ?_) (fun h => ?_) <;> try (exfalso; omega; done)) | refine Sz (fun h => ?_) (fun h => ?_))
    refine AW.loop (X := {k : Nat // k ≤ xs.length}) (fun k => ⟨[Oo, Oo, Oo, Oo, Oo, .own 1 ⟨0, []⟩ 0 n, Oo, Oo, .own 1 ⟨1, []⟩ 0 xs.length, Oo, Oo, Oo, Oo, Oo, Oo, Oo, Oo, Oo, Oo, Oo, Oo, Oo, Oo, Oo, Oo, Oo, Oo, Oo, Oo, Oo, Oo, Oo, Oo, PL xs, I xs.length, I (k.1 : Nat), Oo, Oo, Oo, Oo, Oo, Oo, Oo, Oo, Oo, Oo, Oo, Oo, Oo, Oo, Oo, Oo, Oo, Oo, Oo, Oo, Oo, Oo, Oo], heapL [(⟨0, []⟩, ⟨0, []⟩, IO (cntsN n fs)), (⟨1, []⟩, ⟨1, []⟩, fillRows 1 rowJ [DI 0] (mkA xs fs) k.1)], 900⟩) (fun k => xs.length - k.1) ⟨0, Nat.zero_le _⟩ ?_ (fun k => ?_)
    ·
      (apply Le.headZ [_, _] rfl)
      all_goals (try dsimp only [srcs])
      (case' hfr | hob => (repeat' (first | refine La ?_ ?_ | exact Lc | refine Lo ?_ | refine ⟨⟨_, rfl, ?_⟩, ?_⟩ | refine Lx ?_)))
      all_goals (first | (first | (rw [fillRows_0, hml]; done) | (rw [fillRows_0, hml]; rfl) | (simp; done)) | exact Ld)
    obtain ⟨j, hj⟩ := k
    simp only
    by_cases hjl : j < xs.length
    · obtain ⟨p, hp⟩ : ∃ p, xs[j]? = some p := ⟨xs[j], List.getElem?_eq_getElem hjl⟩
      have hrow : (xs.map Pl.row)[((j : Nat) : Int).toNat]? = some [DI p.f, DI p.t, DI p.d, DI p.k] := row_get hp
      have hok := hv p (List.mem_of_getElem? hp)
      have hc1 := cnt_le fs p.f
      have hc2 := cnt_le fs p.t
      have hmk : (mkA xs fs)[j]? = some (p.k + (cnt fs p.f : Int) - (cnt fs p.t : Int)) := by simp [mkA, hp]
      have hget := fillRows_get (m := 1) (row := rowJ) (z := [DI 0]) (xs := mkA xs fs) (k := j) (by omega)
      obtain ⟨pf, pt, pd, pk⟩ := p
      unfold okPl at hok
      simp only at hok hrow hc1 hc2 hmk
      obtain ⟨a, rfl⟩ : ∃ a : Nat, pf = a := ⟨pf.toNat, by omega⟩
      obtain ⟨b, rfl⟩ : ∃ b : Nat, pt = b := ⟨pt.toNat, by omega⟩
      have hga := IO_get (cntsN_get (n := n) (fs := fs) (e := a) (by omega))
      have hgb := IO_get (cntsN_get (n := n) (fs := fs) (e := b) (by omega))
      generalize cntsN n fs = c0 at *
      generalize cnt fs a = u at *
      generalize cnt fs b = v at *
      repeat' (first | ((first | apply Ba | (apply Bb; (· rfl); (· rfl)) | (apply Bc; (· exact nxE)) | (apply Bd; (· rfl); (· rfl); (· exact nxE))); (· first | exact OpOk.loadCell rfl rfl rfl rfl hga rfl | exact OpOk.loadCell rfl rfl rfl rfl hgb rfl | exact Ok.lenD rfl rfl FL_len | exact Ok.storeC rfl rfl rfl rfl hget (by exact Nat.zero_lt_one) rfl rfl rfl (fillRows_set hmk rfl) | exact Ok.pe)) | ((first | apply Ca | (apply Cb; (· exact nxE))); (· first | exact Ok.storeC rfl rfl rfl rfl hget (by exact Nat.zero_lt_one) rfl rfl rfl (fillRows_set hmk rfl) | exact Ok.e0)) | refine Sx ?_ | (refine Sy (fun h => ?_) (fun h => ?_) <;> try (exfalso; omega; done)) | refine Sz (fun h => ?_) (fun h => ?_))
      refine ⟨⟨j + 1, by omega⟩, ?_, by simp only; omega⟩
      (apply Le.headZ [_, _] rfl)
      all_goals (try dsimp only [srcs])
      (case' hfr | hob => (repeat' (first | refine La ?_ ?_ | exact Lc | refine Lo ?_ | refine ⟨⟨_, rfl, ?_⟩, ?_⟩ | refine Lx ?_)))
      all_goals (first | (rfl) | exact Ld)
    · obtain rfl : j = xs.length := by omega
      have hfa : fillRows 1 rowJ [DI 0] (mkA xs fs) xs.length = IO (mkA xs fs) := fillRows_all (by omega)
      rw [hfa]
      repeat' (first | ((first | apply Ba | (apply Bb; (· rfl); (· rfl)) | (apply Bc; (· exact nxE)) | (apply Bd; (· rfl); (· rfl); (· exact nxE))); (· first | exact Ok.lenD rfl rfl FL_len | exact Ok.pe)) | ((first | apply Ca | (apply Cb; (· exact nxE))); (· first | exact Ok.e0)) | refine Sx ?_ | (refine Sy (fun h => ?_) (fun h => ?_) <;> try (exfalso; omega; done)) | refine Sz (fun h => ?_) (fun h => ?_))
      refine Ya ?_
      (apply Le.head [(⟨0, []⟩, _, _)])
      (case' hfr | hob => (repeat' (first | refine La ?_ ?_ | exact Lc | refine Lo ?_ | refine ⟨⟨_, rfl, ?_⟩, ?_⟩ | refine Lx ?_)))
      all_goals (first | exact Ld | ((rw [hml]; done)))
theorem rn_e [Mode] {n : Nat} {xs : List Pl} {fs : List Fi} (h : rnB n xs fs = true) : ∀ f ∈ fs, 0 ≤ f.e ∧ f.e < n := fun f hf => by
  rcases rnB_or n xs fs with ⟨_, h2⟩ | ⟨h1, _⟩
  · obtain ⟨i, hi⟩ := List.mem_iff_getElem?.1 hf
    obtain ⟨e1, e2, _⟩ := rnS_yes (h2 i f hi)
    exact ⟨e1, e2⟩
  · rw [h] at h1; cases h1
theorem ra_zero [Mode] {ev : Int} {xs : List Pl} {fs : List Fi} (h0 : raC ev xs fs = 0) : isEG ev xs = true ∧ rnB ev.toNat xs fs = true := by
  unfold raC at h0
  cases hg : isEG ev xs with
  | false => rw [hg] at h0; simp at h0
  | true =>
    rw [hg, if_pos rfl] at h0
    cases hr : rnB ev.toNat xs fs with
    | false => rw [hr] at h0; simp at h0
    | true => exact ⟨rfl, rfl⟩
theorem iMarkingAfter_ac [Mode] (ev : Int) (xs : List Pl) (fs : List Fi) (hx : xs.length ≤ 1048576) (hno : NumOk fs) (htm : TmOk fs) (hl : fs.length ≤ 500) : AC Tryz.prog 50 [grD ev xs, FL fs] H0 (.tup [own1 1 (raL ev xs fs).length, I (raC ev xs fs)]) (hp1 (IO (raL ev xs fs))) := by
  have hCd := checkRun_ac ev xs fs hx hno htm hl
  by_cases h0 : raC ev xs fs = 0
  · have e2 : raL ev xs fs = mkA xs fs := if_pos h0
    obtain ⟨hg, hr⟩ := ra_zero h0
    obtain ⟨n, rfl, h1, h2, h3, h4⟩ := isEG_okR hg
    have hM := markingAfter_ac n xs fs ⟨h1, h2⟩ h3 h4 (rn_e hr) hl
    rw [e2, h0]
    rw [h0] at hCd
    generalize mkA xs fs = out at *
    refine AC.of_body 0 Tryz.func50 rfl (fun l h => absurd rfl h) (fun C hC => ?_)
    have hD : ∀ l, ¬ C.D0 l := fun l h => (hC l).1 h rfl
    simp only [startFr, Tryz.ntmps50, List.length_cons, List.length_nil, Nat.reduceAdd, Nat.reduceSub, List.replicate_succ, List.replicate_zero, List.cons_append, List.nil_append]
    repeat' (first | ((first | apply Ba | (apply Bb; (· rfl); (· rfl)) | (apply Bc; (· exact nxE)) | (apply Bd; (· rfl); (· rfl); (· exact nxE))); (· first | exact Kz rfl rfl (hCd) (Aa (Ad (Ad An)) (Ad An)) | exact Ok.lenD rfl rfl FL_len | exact Eo rfl rfl (hM) (Sa (Sd (Sd Sn)) (Sd Sn)) | exact Ok.pe)) | ((first | apply Ca | (apply Cb; (· exact nxE))); (· first | exact Eo rfl rfl (hM) (Sa (Sd (Sd Sn)) (Sd Sn)) | exact Ok.e0)) | refine Sx ?_ | (refine Sy (fun h => ?_) (fun h => ?_) <;> try (exfalso; omega; done)) | refine Sz (fun h => ?_) (fun h => ?_))
    all_goals
      refine Yb ?_
      (apply Le.head [(⟨0, []⟩, _, _)])
      (case' hfr | hob => (repeat' (first | refine La ?_ ?_ | exact Lc | refine Lo ?_ | refine ⟨⟨_, rfl, ?_⟩, ?_⟩ | refine Lx ?_)))
      all_goals (first | exact Ld | (rfl))
  · have e2 : raL ev xs fs = [] := if_neg h0
    rw [e2]
    generalize raC ev xs fs = c at *
    refine AC.of_body 0 Tryz.func50 rfl (fun l h => absurd rfl h) (fun C hC => ?_)
    have hD : ∀ l, ¬ C.D0 l := fun l h => (hC l).1 h rfl
    simp only [startFr, Tryz.ntmps50, List.length_cons, List.length_nil, Nat.reduceAdd, Nat.reduceSub, List.replicate_succ, List.replicate_zero, List.cons_append, List.nil_append]
    repeat' (first | ((first | apply Ba | (apply Bb; (· rfl); (· rfl)) | (apply Bc; (· exact nxE)) | (apply Bd; (· rfl); (· rfl); (· exact nxE))); (· first | exact Kz rfl rfl (hCd) (Aa (Ad (Ad An)) (Ad An)) | exact Ok.lenD rfl rfl FL_len | exact Ok.pe)) | ((first | apply Ca | (apply Cb; (· exact nxE))); (· first | exact Ok.e0)) | refine Sx ?_ | (refine Sy (fun h => ?_) (fun h => ?_) <;> try (exfalso; omega; done)) | refine Sz (fun h => ?_) (fun h => ?_))
    all_goals
      exact end2nil (.inl rfl) rfl (rT rfl) (rT rfl) hD
end Go.Proofs.YtofakjlamoigcaaGreatDoor
end

section
namespace Go.Proofs.YtofakjlamoigcaaGreatDoor
set_option linter.unusedSimpArgs false
set_option linter.unusedVariables false
open Go Go.RowKit
theorem RecOf.no [Mode] {s : List UInt8} {fs : List Fi} {r : List UInt8} (h : RecOf s fs r) : NumOk fs := h.num
theorem RecOf.tm [Mode] {s : List UInt8} {fs : List Fi} {r : List UInt8} (h : RecOf s fs r) : TmOk fs := fun f hf => by
  have := wrF_iff.1 (List.all_eq_true.1 h.wr f hf)
  omega
/-- What ReplayTrace answers. -/
def rpC (ev : Int) (xs : List Pl) (s : List UInt8) (fs : List Fi) : Int := if isEG ev xs = true then (if 20000 < s.length then 3 else raC ev xs fs) else 1
def rpL (ev : Int) (xs : List Pl) (s : List UInt8) (fs : List Fi) : List Int := if isEG ev xs = true then (if 20000 < s.length then [] else raL ev xs fs) else []
theorem rpL_len [Mode] (ev : Int) (xs : List Pl) (s : List UInt8) (fs : List Fi) : (rpL ev xs s fs).length ≤ 1000 := by
  unfold rpL
  split
  · rename_i hg
    obtain ⟨n, _, _, _, h3, _⟩ := isEG_okR hg
    split
    · simp
    · unfold raL
      split
      · rw [mkA_len]; omega
      · simp
  · simp
attribute [local irreducible] AL AD AW OpOk Le AC thenQ blockQ EndQ

theorem sReplayTrace_ac [Mode] (ev : Int) (xs : List Pl) (s : List UInt8) (fs : List Fi) (r : List UInt8) (h : RecOf s fs r) (hx : xs.length ≤ 1048576) (hs : s.length ≤ 1048576) : AC Tryz.prog 19 [grD ev xs, Str s] H0 (.tup [IL (rpL ev xs s fs), I (rpC ev xs s fs)]) H0 := by
  have hG := sIsEventGraph_ac ev xs (by omega)
  unfold rpL rpC
  cases hg : isEG ev xs with
  | false =>
    rw [hg] at hG
    rw [if_neg (by decide), if_neg (by decide)]
    refine AC.of_body 0 Tryz.func19 rfl (fun l h => absurd rfl h) (fun C hC => ?_)
    have hD : ∀ l, ¬ C.D0 l := fun l h => (hC l).1 h rfl
    simp only [startFr, Tryz.ntmps19, List.length_cons, List.length_nil, Nat.reduceAdd, Nat.reduceSub, List.replicate_succ, List.replicate_zero, List.cons_append, List.nil_append]
    repeat' (first | ((first | apply Ba | (apply Bb; (· rfl); (· rfl)) | (apply Bc; (· exact nxE)) | (apply Bd; (· rfl); (· rfl); (· exact nxE))); (· first | exact Kz rfl rfl (hG) (Aa (Ad (Ad An)) An) | exact Ok.slen rfl rfl | exact Ok.pe)) | ((first | apply Ca | (apply Cb; (· exact nxE))); (· first | exact Ok.e0)) | refine Sx ?_ | (refine Sy (fun h => ?_) (fun h => ?_) <;> try (exfalso; omega; done)) | refine Sz (fun h => ?_) (fun h => ?_))
    all_goals
      refine Yb ?_
      (apply Le.headZ (hs := []) [] rfl)
      all_goals (try dsimp only [srcs])
      (case' hfr => (repeat' (first | refine La ?_ ?_ | exact Lc | refine Lo ?_ | refine ⟨⟨_, rfl, ?_⟩, ?_⟩ | refine Lx ?_)))
      all_goals (first | exact Ld | exact trivial | (rfl))
  | true =>
    rw [hg] at hG
    rw [if_pos rfl, if_pos rfl]
    by_cases hb : 20000 < s.length
    · rw [if_pos hb, if_pos hb]
      refine AC.of_body 0 Tryz.func19 rfl (fun l h => absurd rfl h) (fun C hC => ?_)
      have hD : ∀ l, ¬ C.D0 l := fun l h => (hC l).1 h rfl
      simp only [startFr, Tryz.ntmps19, List.length_cons, List.length_nil, Nat.reduceAdd, Nat.reduceSub, List.replicate_succ, List.replicate_zero, List.cons_append, List.nil_append]
      repeat' (first | ((first | apply Ba | (apply Bb; (· rfl); (· rfl)) | (apply Bc; (· exact nxE)) | (apply Bd; (· rfl); (· rfl); (· exact nxE))); (· first | exact Kz rfl rfl (hG) (Aa (Ad (Ad An)) An) | exact Ok.slen rfl rfl | exact Ok.pe)) | ((first | apply Ca | (apply Cb; (· exact nxE))); (· first | exact Ok.e0)) | refine Sx ?_ | (refine Sy (fun h => ?_) (fun h => ?_) <;> try (exfalso; omega; done)) | refine Sz (fun h => ?_) (fun h => ?_))
      all_goals
        refine Yb ?_
        (apply Le.headZ (hs := []) [] rfl)
        all_goals (try dsimp only [srcs])
        (case' hfr => (repeat' (first | refine La ?_ ?_ | exact Lc | refine Lo ?_ | refine ⟨⟨_, rfl, ?_⟩, ?_⟩ | refine Lx ?_)))
        all_goals (first | exact Ld | exact trivial | (rfl))
    · rw [if_neg hb, if_neg hb]
      have hR := l28Recover_frz s fs r h (by omega)
      have hM := sMarkingAfter_ac ev xs fs hx h.no h.tm h.len
      refine AC.of_body 0 Tryz.func19 rfl (fun l h => absurd rfl h) (fun C hC => ?_)
      have hD : ∀ l, ¬ C.D0 l := fun l h => (hC l).1 h rfl
      simp only [startFr, Tryz.ntmps19, List.length_cons, List.length_nil, Nat.reduceAdd, Nat.reduceSub, List.replicate_succ, List.replicate_zero, List.cons_append, List.nil_append]
      repeat' (first | ((first | apply Ba | (apply Bb; (· rfl); (· rfl)) | (apply Bc; (· exact nxE)) | (apply Bd; (· rfl); (· rfl); (· exact nxE))); (· first | exact Kz rfl rfl (hG) (Aa (Ad (Ad An)) An) | exact Kz rfl rfl (hR) (Ad An) | exact Kz rfl rfl (hM) (Aa (Ad (Ad An)) (Ad An)) | exact Ok.slen rfl rfl | exact Ok.pe)) | ((first | apply Ca | (apply Cb; (· exact nxE))); (· first | exact Ok.e0)) | refine Sx ?_ | (refine Sy (fun h => ?_) (fun h => ?_) <;> try (exfalso; omega; done)) | refine Sz (fun h => ?_) (fun h => ?_))
      all_goals
        refine Yb ?_
        (apply Le.headZ (hs := []) [] rfl)
        all_goals (try dsimp only [srcs])
        (case' hfr => (repeat' (first | refine La ?_ ?_ | exact Lc | refine Lo ?_ | refine ⟨⟨_, rfl, ?_⟩, ?_⟩ | refine Lx ?_)))
        all_goals (first | exact Ld | exact trivial | (rfl))
theorem iReplayTrace_ac [Mode] [HasTab] [HasErr] [HasLen] (ev : Int) (xs : List Pl) (s : List UInt8) (fs : List Fi) (r : List UInt8) (h : RecOf s fs r) (hx : xs.length ≤ 1048576) (hs : s.length ≤ 1048576) : AC Tryz.prog 21 [grD ev xs, Str s] H0 (.tup [own1 1 (rpL ev xs s fs).length, I (rpC ev xs s fs)]) (hp1 (IO (rpL ev xs s fs))) := by
  have hG := iIsEventGraph_ac ev xs (by omega)
  have hR := iRecoverTrace_frz s fs r h hs
  unfold rpL rpC
  cases hg : isEG ev xs with
  | false =>
    rw [hg] at hG
    rw [if_neg (by decide), if_neg (by decide)]
    refine AC.of_body 0 Tryz.func21 rfl (fun l h => absurd rfl h) (fun C hC => ?_)
    have hD : ∀ l, ¬ C.D0 l := fun l h => (hC l).1 h rfl
    simp only [startFr, Tryz.ntmps21, List.length_cons, List.length_nil, Nat.reduceAdd, Nat.reduceSub, List.replicate_succ, List.replicate_zero, List.cons_append, List.nil_append]
    repeat' (first | ((first | apply Ba | (apply Bb; (· rfl); (· rfl)) | (apply Bc; (· exact nxE)) | (apply Bd; (· rfl); (· rfl); (· exact nxE))); (· first | exact Kz rfl rfl (hG) (Aa (Ad (Ad An)) An) | exact Ok.slen rfl rfl | exact Ok.pe)) | ((first | apply Ca | (apply Cb; (· exact nxE))); (· first | exact Ok.e0)) | refine Sx ?_ | (refine Sy (fun h => ?_) (fun h => ?_) <;> try (exfalso; omega; done)) | refine Sz (fun h => ?_) (fun h => ?_))
    all_goals
      exact end2nil (.inl rfl) rfl (rT rfl) (rT rfl) hD
  | true =>
    rw [hg] at hG
    rw [if_pos rfl, if_pos rfl]
    by_cases hb : 20000 < s.length
    · rw [if_pos hb, if_pos hb]
      rw [rtL, rtC, if_pos hb, if_pos hb] at hR
      refine AC.of_body 0 Tryz.func21 rfl (fun l h => absurd rfl h) (fun C hC => ?_)
      have hD : ∀ l, ¬ C.D0 l := fun l h => (hC l).1 h rfl
      simp only [startFr, Tryz.ntmps21, List.length_cons, List.length_nil, Nat.reduceAdd, Nat.reduceSub, List.replicate_succ, List.replicate_zero, List.cons_append, List.nil_append]
      repeat' (first | ((first | apply Ba | (apply Bb; (· rfl); (· rfl)) | (apply Bc; (· exact nxE)) | (apply Bd; (· rfl); (· rfl); (· exact nxE))); (· first | exact Kz rfl rfl (hG) (Aa (Ad (Ad An)) An) | exact Kz rfl rfl (hR) (Ad An) | exact Ok.slen rfl rfl | exact Ok.pe)) | ((first | apply Ca | (apply Cb; (· exact nxE))); (· first | exact Ok.e0)) | refine Sx ?_ | (refine Sy (fun h => ?_) (fun h => ?_) <;> try (exfalso; omega; done)) | refine Sz (fun h => ?_) (fun h => ?_))
      all_goals
        exact end2nil (.inl rfl) rfl (rT rfl) (rT rfl) hD
    · rw [if_neg hb, if_neg hb]
      rw [rtL, rtC, if_neg hb, if_neg hb] at hR
      have hM := iMarkingAfter_ac ev xs fs hx h.no h.tm h.len
      generalize raL ev xs fs = out at *
      refine AC.of_body 0 Tryz.func21 rfl (fun l h => absurd rfl h) (fun C hC => ?_)
      have hD : ∀ l, ¬ C.D0 l := fun l h => (hC l).1 h rfl
      simp only [startFr, Tryz.ntmps21, List.length_cons, List.length_nil, Nat.reduceAdd, Nat.reduceSub, List.replicate_succ, List.replicate_zero, List.cons_append, List.nil_append]
      repeat' (first | ((first | apply Ba | (apply Bb; (· rfl); (· rfl)) | (apply Bc; (· exact nxE)) | (apply Bd; (· rfl); (· rfl); (· exact nxE))); (· first | exact Kz rfl rfl (hG) (Aa (Ad (Ad An)) An) | exact Kz rfl rfl (hR) (Ad An) | exact Ok.slen rfl rfl | exact Eo rfl rfl (hM) (Sa (Sd (Sd Sn)) (Sd Sn)) | exact Ok.pe)) | ((first | apply Ca | (apply Cb; (· exact nxE))); (· first | exact Eo rfl rfl (hM) (Sa (Sd (Sd Sn)) (Sd Sn)) | exact Ok.e0)) | refine Sx ?_ | (refine Sy (fun h => ?_) (fun h => ?_) <;> try (exfalso; omega; done)) | refine Sz (fun h => ?_) (fun h => ?_))
      all_goals
        refine Yb ?_
        (apply Le.head [(⟨0, []⟩, _, _)])
        (case' hfr | hob => (repeat' (first | refine La ?_ ?_ | exact Lc | refine Lo ?_ | refine ⟨⟨_, rfl, ?_⟩, ?_⟩ | refine Lx ?_)))
        all_goals (first | exact Ld | (rfl))
end Go.Proofs.YtofakjlamoigcaaGreatDoor
end
