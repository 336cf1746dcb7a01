/-
  Walks in the abstract reading: the least time potential for any ratio, by both sides.
-/
import Derived.Test.YtpgcmpbamlnkkaaGreatKcU12
namespace Go.Proofs.YtpgcmpbamlnkkaaGreat
set_option linter.unusedSimpArgs false
set_option linter.unusedVariables false
open Go Go.RowKit
attribute [local irreducible] AL AD AW OpOk Le AC thenQ blockQ EndQ

theorem frzV2 {P : Program} {f : FuncId} {args : List AV} {n : Nat} {d : D} {xs : List Int} (hc : AC P f args H0 (.tup [own1 1 n, .d d]) (hp1 (IO xs))) (hn : xs.length = n) : AC P f args H0 (.tup [IL xs, .d d]) H0 :=
  hc.frz (ARs.tup (.cons (AR.whole rfl trivial (by rw [IR_len]; exact hn)) (.cons (.dd _) .nil)))
theorem mulK {u k : Int} (h1 : -2000000 ≤ u ∧ u ≤ 2000000) (h2 : 0 ≤ k ∧ k ≤ 5) : -10000000 ≤ u * k ∧ u * k ≤ 10000000 := by
  have := mulB (q := k) (w := u) (Q := 5) (M := 2000000) h2.1 h2.2 h1.1 h1.2 (by decide)
  rw [Int.mul_comm]
  omega
theorem plW_leG {n : Nat} {xs : List Pl} {u1 u2 : Int} (hv : ∀ p ∈ xs, okPl n p) (hu1 : -2000000 ≤ u1 ∧ u1 ≤ 2000000) (hu2 : 0 ≤ u2 ∧ u2 ≤ 1000000) (i : Nat) (hi : i < xs.length) : (0 ≤ u2 * (plA xs i).d ∧ u2 * (plA xs i).d ≤ 10000000000) ∧ (-10000000 ≤ u1 * (plA xs i).k ∧ u1 * (plA xs i).k ≤ 10000000) := by
  have ho := okPl_at hv i hi
  have h1 := mul_in hu2 ho.2.2.1
  exact ⟨by omega, mulK hu1 ho.2.2.2⟩
theorem wm_bndG {n : Nat} {xs : List Pl} (hv : ∀ p ∈ xs, okPl n p) {u1 u2 : Int} (h1 : -2000000 ≤ u1 ∧ u1 ≤ 2000000) (h2 : 0 ≤ u2 ∧ u2 ≤ 1000000) (p : Pl) (hp : p ∈ xs) : -20000000000 ≤ pw u1 u2 p ∧ pw u1 u2 p ≤ 20000000000 := by
  obtain ⟨i, hi, rfl⟩ := List.getElem_of_mem hp
  have := plW_leG hv h1 h2 i hi
  have e : plA xs i = xs[i] := by simp [plA, hi]
  rw [e] at this
  unfold pw; omega
theorem wm_okG {n : Nat} {xs : List Pl} {r : Int × Int} (hv : ∀ p ∈ xs, okPl n p) (h1 : -2000000 ≤ r.1 ∧ r.1 ≤ 2000000) (h2 : 0 ≤ r.2 ∧ r.2 ≤ 1000000) : WmOk n xs r (wmT n xs r) :=
  wm_ok (M := 20000000000) (by decide) xs (fun p hp => ⟨hv p hp, (wm_bndG hv h1 h2 p hp).1⟩)
theorem starB_wm {n : Nat} {xs : List Pl} {r : Int × Int} (hn : n ≤ 10) (h0 : 0 < n) (hv : ∀ p ∈ xs, okPl n p) (h1 : -2000000 ≤ r.1 ∧ r.1 ≤ 2000000) (h2 : 0 ≤ r.2 ∧ r.2 ≤ 1000000) : StarB (wmT n xs r) n := by
  have hb := wm_bndG hv h1 h2
  have hw := wm_okG hv h1 h2
  have hrc : Rc (wmT n xs r) n n := ⟨hw.sq.l, hw.sq.r⟩
  refine ⟨hrc, h0, hn, fun u v hne => ?_⟩
  by_cases hvn : v < n
  · by_cases hun : u < n
    · rcases hw.some u v hun hvn with e | ⟨p, hp, e1, e2, e3⟩
      · exact absurd e hne
      · have := hb p hp
        rw [← e3]; omega
    · rw [entN_out hrc hvn hun]; decide
  · rw [entN_out2 hrc hvn]; decide
set_option maxHeartbeats 2000000 in
theorem l15WeightsG_ac (n : Nat) (xs : List Pl) (u1 u2 : Int) (hn : n ≤ 10) (hx : xs.length ≤ 1000) (hv : ∀ p ∈ xs, okPl n p) (h1 : -2000000 ≤ u1 ∧ u1 ≤ 2000000) (h2 : 0 ≤ u2 ∧ u2 ≤ 1000000) : AC Tryz.prog 65 [grD n xs, .agg [I u1, I u2]] H0 (own1 1 n) (hpM 1 (TR (wmT n xs (u1, u2)))) := by
  have hB := l02Bottom_ac n n (by omega) (by omega)
  refine AC.of_body 0 Tryz.func65 rfl (fun l h => absurd rfl h) (fun C hC => ?_)
  have hD : ∀ l, ¬ C.D0 l := fun l h => (hC l).1 h rfl
  simp only [startFr, Tryz.ntmps65, List.length_cons, List.length_nil, Nat.reduceAdd, Nat.reduceSub, List.replicate_succ, List.replicate_zero, List.cons_append, List.nil_append]
  repeat' (first | ((first | apply Ba | (apply Bb; (· rfl); (· rfl)) | (apply Bc; (· exact nxE)) | (apply Bd; (· rfl); (· rfl); (· exact nxE))); (· first | exact Tb rfl rfl (hB) (Sd (Sd Sn)) | exact Ok.pe)) | ((first | apply Ca | (apply Cb; (· exact nxE))); (· first | exact Tb rfl rfl (hB) (Sd (Sd Sn)) | exact Ok.e0)) | refine Sx ?_ | (refine Sy (fun h => ?_) (fun h => ?_) <;> try (exfalso; omega; done)) | refine Sz (fun h => ?_) (fun h => ?_))
  refine AW.loop (X := {k : Nat // k ≤ xs.length}) (fun k => ⟨[Oo, Oo, Bx 2 0, Bx 2 1, Oo, .own 1 ⟨2, []⟩ 0 n, I (k.1 : Nat), Oo, Oo, Oo, Oo, Oo, Oo, Oo, Oo, Oo, Oo, Oo, Oo, Oo, Oo, Oo, Oo, Oo, Oo, Oo, Oo, Oo, Oo, Oo, Oo, Oo, Oo, Oo, Oo, Oo, Oo, Oo, Oo, Oo, Oo, Oo, Oo, Oo, Oo, Oo, Oo, Oo, Oo, Oo, Oo, Oo, Oo, Oo, Oo], heapX [(⟨0, []⟩, ⟨0, []⟩, ⟨2, [[I n, PL xs]]⟩), (⟨1, []⟩, ⟨1, []⟩, ⟨2, [[I u1, I u2]]⟩)] [mi1 ⟨2, []⟩ (TR ((xs.take k.1).foldl (wmS (u1, u2)) (botT n n)))], 900⟩) (fun k => xs.length - k.1) ⟨0, Nat.zero_le _⟩ ?_ (fun k => ?_)
  ·
    (apply Le.headG [_, _] [{ l := ⟨2, []⟩, k := 1, R := TR (botT n n), src := ⟨7, [0]⟩, base := ⟨7, [0]⟩ }] (fun _ => False))
    (case' hlen => rfl)
    (case' hms => rfl)
    all_goals (try dsimp only [srcs])
    (case' hfr | hob => (repeat' (first | refine La ?_ ?_ | exact Lc | refine Lo ?_ | refine ⟨⟨_, rfl, ?_⟩, ?_⟩ | refine Lx ?_)))
    (case' hok => first | exact ⟨MI.ok_same rfl (Cg), trivial⟩ | exact trivial)
    (case' hN => rfl)
    (case' hS => rfl)
    all_goals (first | exact Ld | (rfl))
  obtain ⟨k, hk⟩ := k
  simp only
  by_cases hlt : k < xs.length
  · have hrow := pl_row (n := 0) hlt
    have hst := wm_take (r := (u1, u2)) (n := n) hlt
    have hpw := plW_leG hv h1 h2 k hlt
    obtain ⟨⟨g1, g2⟩, ⟨g3, g4⟩, _⟩ := okPl_at hv k hlt
    have hsq : Sq ((xs.take k).foldl (wmS (u1, u2)) (botT n n)) n := wm_sq (Sq.bot n)
    generalize hT : (xs.take k).foldl (wmS (u1, u2)) (botT n n) = T at hst hsq
    generalize plA xs k = p at *
    obtain ⟨pf, pt, pd, pk⟩ := p
    obtain ⟨f, rfl⟩ : ∃ f : Nat, pf = f := ⟨pf.toNat, by simp at g1; omega⟩
    obtain ⟨t, rfl⟩ : ∃ t : Nat, pt = t := ⟨pt.toNat, by simp at g3; omega⟩
    simp only [Int.toNat_natCast] at hrow g2 g4 hpw
    obtain ⟨r, hr1, hr2, hr3⟩ := hsq.get (show t < n by omega) (show f < n by omega)
    have hr1' : (TR T)[t]? = some (IR r) := by simp [hr1]
    have hrl : (IR r).length = n := by rw [IR_len, hr3]
    have hrf : (IR r)[f]? = some [DI (entN T t f)] := by simp [hr2]
    repeat' (first | ((first | apply Ba | (apply Bb; (· rfl); (· rfl)) | (apply Bc; (· exact nxE)) | (apply Bd; (· rfl); (· rfl); (· exact nxE))); (· first | exact Ok.ldTn rfl rfl rfl hr1' hrl | exact Ok.ld1 rfl rfl (congrArg (Option.map (dobj 1)) hr1') hrf | exact Ok.st1 rfl rfl (congrArg (Option.map (dobj 1)) hr1') (by omega) (by rw [hrf]; rfl) rfl rfl IR_set | exact Ok.pe)) | ((first | apply Ca | (apply Cb; (· exact nxE))); (· first | exact Ok.st1 rfl rfl (congrArg (Option.map (dobj 1)) hr1') (by omega) (by rw [hrf]; rfl) rfl rfl IR_set | exact Ok.e0)) | refine Sx ?_ | (refine Sy (fun h => ?_) (fun h => ?_) <;> try (exfalso; omega; done)) | refine Sz (fun h => ?_) (fun h => ?_))
    refine ⟨⟨k + 1, by omega⟩, ?_, by simp only; omega⟩
    (apply Le.headG [_, _] [{ l := ⟨2, []⟩, k := 1, R := TR ((xs.take (k + 1)).foldl (wmS (u1, u2)) (botT n n)), src := ⟨2, []⟩, base := ⟨2, []⟩ }] (fun _ => False))
    (case' hlen => rfl)
    (case' hms => rfl)
    all_goals (try dsimp only [srcs])
    (case' hfr | hob => (repeat' (first | refine La ?_ ?_ | exact Lc | refine Lo ?_ | refine ⟨⟨_, rfl, ?_⟩, ?_⟩ | refine Lx ?_)))
    (case' hok => first | exact ⟨MI.ok_row (r0 := IR r) (r := IR (r.set f (max (entN T t f) (u2 * pd - u1 * pk)))) (by rw [hst, wmS]; exact setT_TR hr1) hr1' (by simp) rfl (Cg), trivial⟩ | exact trivial)
    (case' hN => rfl)
    (case' hS => rfl)
    all_goals (first | exact Ld | (rfl))
  ·
    obtain rfl : k = xs.length := by omega
    rw [List.take_length]
    repeat' (first | ((first | apply Ba | (apply Bb; (· rfl); (· rfl)) | (apply Bc; (· exact nxE)) | (apply Bd; (· rfl); (· rfl); (· exact nxE))); (· first | exact Ok.pe)) | ((first | apply Ca | (apply Cb; (· exact nxE))); (· first | exact Ok.e0)) | refine Sx ?_ | (refine Sy (fun h => ?_) (fun h => ?_) <;> try (exfalso; omega; done)) | refine Sz (fun h => ?_) (fun h => ?_))
    refine Ya ?_
    (apply Le.headG [] [{ l := ⟨0, []⟩, k := 1, R := TR (wmT n xs (u1, u2)), src := ⟨2, []⟩, base := ⟨2, []⟩ }] (fun _ => False))
    (case' hlen => rfl)
    (case' hms => rfl)
    all_goals (try dsimp only [srcs])
    (case' hfr | hob => (repeat' (first | refine La ?_ ?_ | exact Lc | refine Lo ?_ | refine ⟨⟨_, rfl, ?_⟩, ?_⟩ | refine Lx ?_)))
    (case' hok => first | exact ⟨MI.ok_same rfl (Cg), trivial⟩ | exact trivial)
    (case' hN => rfl)
    (case' hS => rfl)
    all_goals (first | exact Ld | (rfl))
theorem placeWeightG_ac (p : Pl) (u1 u2 : Int) (h1 : 0 ≤ u2 * p.d ∧ u2 * p.d ≤ 10000000000) (h2 : -10000000 ≤ u1 * p.k ∧ u1 * p.k ≤ 10000000) : AC Tryz.prog 79 [p.av, .agg [I u1, I u2]] H0 (I (pw u1 u2 p)) H0 := by
  unfold pw
  obtain ⟨pf, pt, pd, pk⟩ := p
  simp only at h1 h2 ⊢
  refine AC.of_body 0 Tryz.func79 rfl (fun l h => absurd rfl h) (fun C hC => ?_)
  have hD : ∀ l, ¬ C.D0 l := fun l h => (hC l).1 h rfl
  simp only [startFr, Tryz.ntmps79, List.length_cons, List.length_nil, Nat.reduceAdd, Nat.reduceSub, List.replicate_succ, List.replicate_zero, List.cons_append, List.nil_append]
  repeat' (first | ((first | apply Ba | (apply Bb; (· rfl); (· rfl)) | (apply Bc; (· exact nxE)) | (apply Bd; (· rfl); (· rfl); (· exact nxE))); (· first | exact Ok.pe)) | ((first | apply Ca | (apply Cb; (· exact nxE))); (· first | exact Ok.e0)) | refine Sx ?_ | (refine Sy (fun h => ?_) (fun h => ?_) <;> try (exfalso; omega; done)) | refine Sz (fun h => ?_) (fun h => ?_))
  refine Ya ?_
  (apply Le.headZ (hs := []) [] rfl)
  all_goals (try dsimp only [srcs])
  (case' hfr => (repeat' (first | refine La ?_ ?_ | exact Lc | refine Lo ?_ | refine ⟨⟨_, rfl, ?_⟩, ?_⟩ | refine Lx ?_)))
  all_goals (first | exact Ld | exact trivial | (rfl))
set_option maxHeartbeats 2000000 in
theorem weightMatrixG_ac (n : Nat) (xs : List Pl) (u1 u2 : Int) (hn : n ≤ 10) (hx : xs.length ≤ 1000) (hv : ∀ p ∈ xs, okPl n p) (h1 : -2000000 ≤ u1 ∧ u1 ≤ 2000000) (h2 : 0 ≤ u2 ∧ u2 ≤ 1000000) : AC Tryz.prog 141 [grD n xs, .agg [I u1, I u2]] H0 (own1 1 n) (hpM 1 (TR (wmT n xs (u1, u2)))) := by
  have hB := bottomMatrix_ac n (by omega)
  refine AC.of_body 0 Tryz.func141 rfl (fun l h => absurd rfl h) (fun C hC => ?_)
  have hD : ∀ l, ¬ C.D0 l := fun l h => (hC l).1 h rfl
  simp only [startFr, Tryz.ntmps141, List.length_cons, List.length_nil, Nat.reduceAdd, Nat.reduceSub, List.replicate_succ, List.replicate_zero, List.cons_append, List.nil_append]
  repeat' (first | ((first | apply Ba | (apply Bb; (· rfl); (· rfl)) | (apply Bc; (· exact nxE)) | (apply Bd; (· rfl); (· rfl); (· exact nxE))); (· first | exact Tb rfl rfl (hB) (Sd (Sd Sn)) | exact Ok.pe)) | ((first | apply Ca | (apply Cb; (· exact nxE))); (· first | exact Tb rfl rfl (hB) (Sd (Sd Sn)) | exact Ok.e0)) | refine Sx ?_ | (refine Sy (fun h => ?_) (fun h => ?_) <;> try (exfalso; omega; done)) | refine Sz (fun h => ?_) (fun h => ?_))
  refine AW.loop (X := {k : Nat // k ≤ xs.length}) (fun k => ⟨[Oo, Oo, Oo, Bx 2 1, Oo, .own 1 ⟨2, []⟩ 0 n, Oo, Oo, Oo, Oo, Oo, Oo, Oo, Oo, PL xs, I xs.length, I (k.1 : Nat), Oo, Oo, Oo, Oo, Oo, Oo, Oo, Oo, Oo, Oo, Oo, Oo, Oo, Oo, Oo, Oo, Oo, Oo, Oo, Oo, Oo, Oo, Oo, Oo, Oo, Oo], heapX [(⟨1, []⟩, ⟨1, []⟩, ⟨2, [[I u1, I u2]]⟩)] [mi1 ⟨2, []⟩ (TR ((xs.take k.1).foldl (wmS (u1, u2)) (botT n n)))], 900⟩) (fun k => xs.length - k.1) ⟨0, Nat.zero_le _⟩ ?_ (fun k => ?_)
  ·
    (apply Le.headG [_] [{ l := ⟨2, []⟩, k := 1, R := TR (botT n n), src := ⟨7, [0]⟩, base := ⟨7, [0]⟩ }] (fun _ => False))
    (case' hlen => rfl)
    (case' hms => rfl)
    all_goals (try dsimp only [srcs])
    (case' hfr | hob => (repeat' (first | refine La ?_ ?_ | exact Lc | refine Lo ?_ | refine ⟨⟨_, rfl, ?_⟩, ?_⟩ | refine Lx ?_)))
    (case' hok => first | exact ⟨MI.ok_same rfl (Cg), trivial⟩ | exact trivial)
    (case' hN => rfl)
    (case' hS => rfl)
    all_goals (first | exact Ld | (rfl))
  obtain ⟨k, hk⟩ := k
  simp only
  by_cases hlt : k < xs.length
  · have hrow := pl_row (n := 0) hlt
    have hst := wm_take (r := (u1, u2)) (n := n) hlt
    have hpw := plW_leG hv h1 h2 k hlt
    have hPW := placeWeightG_ac (plA xs k) u1 u2 (by omega) (by omega)
    obtain ⟨⟨g1, g2⟩, ⟨g3, g4⟩, _⟩ := okPl_at hv k hlt
    have hsq : Sq ((xs.take k).foldl (wmS (u1, u2)) (botT n n)) n := wm_sq (Sq.bot n)
    generalize hT : (xs.take k).foldl (wmS (u1, u2)) (botT n n) = T at hst hsq
    generalize hw : pw u1 u2 (plA xs k) = w at hPW
    rw [show wmS (u1, u2) T (plA xs k) = setT T (plA xs k).t.toNat (plA xs k).f.toNat (max (entN T (plA xs k).t.toNat (plA xs k).f.toNat) (pw u1 u2 (plA xs k))) from rfl, hw] at hst
    generalize plA xs k = p at *
    obtain ⟨pf, pt, pd, pk⟩ := p
    obtain ⟨f, rfl⟩ : ∃ f : Nat, pf = f := ⟨pf.toNat, by simp at g1; omega⟩
    obtain ⟨t, rfl⟩ : ∃ t : Nat, pt = t := ⟨pt.toNat, by simp at g3; omega⟩
    simp only [Int.toNat_natCast] at hrow g2 g4 hpw hst
    obtain ⟨r, hr1, hr2, hr3⟩ := hsq.get (show t < n by omega) (show f < n by omega)
    have hr1' : (TR T)[t]? = some (IR r) := by simp [hr1]
    have hrl : (IR r).length = n := by rw [IR_len, hr3]
    have hrf : (IR r)[f]? = some [DI (entN T t f)] := by simp [hr2]
    repeat' (first | ((first | apply Ba | (apply Bb; (· rfl); (· rfl)) | (apply Bc; (· exact nxE)) | (apply Bd; (· rfl); (· rfl); (· exact nxE))); (· first | exact Kz rfl rfl (hPW) (Aa (Ad (Ad (Ad (Ad An)))) (Aa (Ad (Ad An)) An)) | exact Ok.ldTn rfl rfl rfl hr1' hrl | exact Ok.ld1 rfl rfl (congrArg (Option.map (dobj 1)) hr1') hrf | exact Ok.st1 rfl rfl (congrArg (Option.map (dobj 1)) hr1') (by omega) (by rw [hrf]; rfl) rfl rfl IR_set | exact Ok.pe)) | ((first | apply Ca | (apply Cb; (· exact nxE))); (· first | exact Ok.st1 rfl rfl (congrArg (Option.map (dobj 1)) hr1') (by omega) (by rw [hrf]; rfl) rfl rfl IR_set | exact Ok.e0)) | refine Sx ?_ | (refine Sy (fun h => ?_) (fun h => ?_) <;> try (exfalso; omega; done)) | refine Sz (fun h => ?_) (fun h => ?_))
    refine ⟨⟨k + 1, by omega⟩, ?_, by simp only; omega⟩
    (apply Le.headG [_] [{ l := ⟨2, []⟩, k := 1, R := TR ((xs.take (k + 1)).foldl (wmS (u1, u2)) (botT n n)), src := ⟨2, []⟩, base := ⟨2, []⟩ }] (fun _ => False))
    (case' hlen => rfl)
    (case' hms => rfl)
    all_goals (try dsimp only [srcs])
    (case' hfr | hob => (repeat' (first | refine La ?_ ?_ | exact Lc | refine Lo ?_ | refine ⟨⟨_, rfl, ?_⟩, ?_⟩ | refine Lx ?_)))
    (case' hok => first | exact ⟨MI.ok_row (r0 := IR r) (r := IR (r.set f (max (entN T t f) w))) (by rw [hst]; exact setT_TR hr1) hr1' (by simp) rfl (Cg), trivial⟩ | exact trivial)
    (case' hN => rfl)
    (case' hS => rfl)
    all_goals (first | exact Ld | (rfl))
  ·
    obtain rfl : k = xs.length := by omega
    rw [List.take_length]
    repeat' (first | ((first | apply Ba | (apply Bb; (· rfl); (· rfl)) | (apply Bc; (· exact nxE)) | (apply Bd; (· rfl); (· rfl); (· exact nxE))); (· first | exact Ok.pe)) | ((first | apply Ca | (apply Cb; (· exact nxE))); (· first | exact Ok.e0)) | refine Sx ?_ | (refine Sy (fun h => ?_) (fun h => ?_) <;> try (exfalso; omega; done)) | refine Sz (fun h => ?_) (fun h => ?_))
    refine Ya ?_
    (apply Le.headG [] [{ l := ⟨0, []⟩, k := 1, R := TR (wmT n xs (u1, u2)), src := ⟨2, []⟩, base := ⟨2, []⟩ }] (fun _ => False))
    (case' hlen => rfl)
    (case' hms => rfl)
    all_goals (try dsimp only [srcs])
    (case' hfr | hob => (repeat' (first | refine La ?_ ?_ | exact Lc | refine Lo ?_ | refine ⟨⟨_, rfl, ?_⟩, ?_⟩ | refine Lx ?_)))
    (case' hok => first | exact ⟨MI.ok_same rfl (Cg), trivial⟩ | exact trivial)
    (case' hN => rfl)
    (case' hS => rfl)
    all_goals (first | exact Ld | (rfl))
/-! ### The least time potential -/
noncomputable def tpC (ev : Int) (xs : List Pl) (r : Int × Int) : Int := open Classical in
  if isEG ev xs = true ∧ isRtG r = true then (if NoPos (entN (wmT ev.toNat xs r)) ev.toNat then (if (ptL ev.toNat xs r).all isVal = true then 0 else 3) else 5) else 1
noncomputable def tpX (ev : Int) (xs : List Pl) (r : Int × Int) : List Int := if tpC ev xs r = 0 then ptL ev.toNat xs r else []
/-- A ratio that is drawn. -/
structure DrT (r : Int × Int) : Prop where
  n : -2000000 ≤ r.1 ∧ r.1 ≤ 2000000
  d : -1 ≤ r.2 ∧ r.2 ≤ 1000000
theorem isRtG_pos {r : Int × Int} (h : isRtG r = true) : (-1000000 ≤ r.1 ∧ r.1 ≤ 1000000) ∧ (1 ≤ r.2 ∧ r.2 ≤ 1000000) ∧ Nat.gcd r.1.natAbs r.2.toNat = 1 := by
  unfold isRtG at h
  rw [Bool.and_eq_true, Bool.and_eq_true, wi_iff, wi_iff, beq_iff_eq] at h
  exact ⟨h.1, h.2.1, h.2.2⟩
theorem tp_inv {ev : Int} {xs : List Pl} {r : Int × Int} (h : ¬ (isEG ev xs = true ∧ isRtG r = true)) : tpC ev xs r = 1 ∧ tpX ev xs r = [] := by
  have h1 : tpC ev xs r = 1 := by unfold tpC; rw [if_neg h]
  exact ⟨h1, by unfold tpX; rw [h1]; rfl⟩
theorem tp_pos {n : Nat} {xs : List Pl} {r : Int × Int} (h1 : isEG n xs = true) (h2 : isRtG r = true) (h3 : ¬ NoPos (entN (wmT n xs r)) n) : tpC n xs r = 5 ∧ tpX n xs r = [] := by
  have h1 : tpC n xs r = 5 := by unfold tpC; rw [if_pos ⟨h1, h2⟩, Int.toNat_natCast, if_neg h3]
  exact ⟨h1, by unfold tpX; rw [h1]; rfl⟩
theorem tp_lim {n : Nat} {xs : List Pl} {r : Int × Int} (h1 : isEG n xs = true) (h2 : isRtG r = true) (h3 : NoPos (entN (wmT n xs r)) n) (h4 : (ptL n xs r).all isVal = false) : tpC n xs r = 3 ∧ tpX n xs r = [] := by
  have h1 : tpC n xs r = 3 := by unfold tpC; rw [if_pos ⟨h1, h2⟩, Int.toNat_natCast, if_pos h3, h4]; rfl
  exact ⟨h1, by unfold tpX; rw [h1]; rfl⟩
theorem tp_yes {n : Nat} {xs : List Pl} {r : Int × Int} (h1 : isEG n xs = true) (h2 : isRtG r = true) (h3 : NoPos (entN (wmT n xs r)) n) (h4 : (ptL n xs r).all isVal = true) : tpC n xs r = 0 ∧ tpX n xs r = ptL n xs r := by
  have h1 : tpC n xs r = 0 := by unfold tpC; rw [if_pos ⟨h1, h2⟩, Int.toNat_natCast, if_pos h3, h4]; rfl
  exact ⟨h1, by unfold tpX; rw [h1]; rfl⟩
theorem isVal_fin {x : List Int} (h1 : ∀ a ∈ x, a ≠ BOT) (h2 : x.all isVal = true) : ∀ a ∈ x, -1000000 ≤ a ∧ a ≤ 1000000 := fun a ha => by
  have h3 := isVal_iff.1 (List.all_eq_true.1 h2 a ha)
  have h4 := h1 a ha
  unfold BOT at h3 h4
  omega
set_option maxHeartbeats 4000000 in
theorem sTimePotential_cs (ev : Int) (xs : List Pl) (r : Int × Int) (hx : xs.length ≤ 1000) (hr : DrT r) : (tpC ev xs r ≠ 0 ∧ AC Tryz.prog 10 [grD ev xs, .agg [I r.1, I r.2]] H0 (.tup [IL (tpX ev xs r), I (tpC ev xs r)]) H0) ∨
    (tpC ev xs r = 0 ∧ ∃ n : Nat, ev = n ∧ 1 ≤ n ∧ n ≤ 10 ∧ (tpX ev xs r).length = n ∧ (∀ a ∈ tpX ev xs r, -1000000 ≤ a ∧ a ≤ 1000000) ∧ AC Tryz.prog 10 [grD ev xs, .agg [I r.1, I r.2]] H0 (.tup [own1 1 n, I 0]) (hp1 (IO (tpX ev xs r)))) := by
  have hE := sIsEventGraph_ac ev xs (by omega)
  have hR := sIsRatioG_ac r (by have := hr.n; omega)
  cases hg : isEG ev xs
  · rw [hg] at hE
    obtain ⟨e1, e2⟩ := tp_inv (ev := ev) (xs := xs) (r := r) (by rw [hg]; simp)
    rw [e1, e2]
    refine .inl ⟨by decide, ?_⟩
    refine AC.of_body 0 Tryz.func10 rfl (fun l h => absurd rfl h) (fun C hC => ?_)
    have hD : ∀ l, ¬ C.D0 l := fun l h => (hC l).1 h rfl
    simp only [startFr, Tryz.ntmps10, List.length_cons, List.length_nil, Nat.reduceAdd, Nat.reduceSub, List.replicate_succ, List.replicate_zero, List.cons_append, List.nil_append]
    repeat' (first | ((first | apply Ba | (apply Bb; (· rfl); (· rfl)) | (apply Bc; (· exact nxE)) | (apply Bd; (· rfl); (· rfl); (· exact nxE))); (· first | exact Kz rfl rfl (hE) (Aa (Ad (Ad An)) An) | exact Kz rfl rfl (hR) (Aa (Ad (Ad An)) An) | exact Ok.pe)) | ((first | apply Ca | (apply Cb; (· exact nxE))); (· first | exact Ok.e0)) | refine Sx ?_ | (refine Sy (fun h => ?_) (fun h => ?_) <;> try (exfalso; omega; done)) | refine Sz (fun h => ?_) (fun h => ?_))
    refine Yb ?_
    (apply Le.headZ (hs := []) [] rfl)
    all_goals (try dsimp only [srcs])
    (case' hfr => (repeat' (first | refine La ?_ ?_ | exact Lc | refine Lo ?_ | refine ⟨⟨_, rfl, ?_⟩, ?_⟩ | refine Lx ?_)))
    all_goals (first | exact Ld | exact trivial | (rfl))
  rw [hg] at hE
  cases hq : isRtG r
  · rw [hq] at hR
    obtain ⟨e1, e2⟩ := tp_inv (ev := ev) (xs := xs) (r := r) (by rw [hq]; simp)
    rw [e1, e2]
    refine .inl ⟨by decide, ?_⟩
    refine AC.of_body 0 Tryz.func10 rfl (fun l h => absurd rfl h) (fun C hC => ?_)
    have hD : ∀ l, ¬ C.D0 l := fun l h => (hC l).1 h rfl
    simp only [startFr, Tryz.ntmps10, List.length_cons, List.length_nil, Nat.reduceAdd, Nat.reduceSub, List.replicate_succ, List.replicate_zero, List.cons_append, List.nil_append]
    repeat' (first | ((first | apply Ba | (apply Bb; (· rfl); (· rfl)) | (apply Bc; (· exact nxE)) | (apply Bd; (· rfl); (· rfl); (· exact nxE))); (· first | exact Kz rfl rfl (hE) (Aa (Ad (Ad An)) An) | exact Kz rfl rfl (hR) (Aa (Ad (Ad An)) An) | exact Ok.pe)) | ((first | apply Ca | (apply Cb; (· exact nxE))); (· first | exact Ok.e0)) | refine Sx ?_ | (refine Sy (fun h => ?_) (fun h => ?_) <;> try (exfalso; omega; done)) | refine Sz (fun h => ?_) (fun h => ?_))
    refine Yb ?_
    (apply Le.headZ (hs := []) [] rfl)
    all_goals (try dsimp only [srcs])
    (case' hfr => (repeat' (first | refine La ?_ ?_ | exact Lc | refine Lo ?_ | refine ⟨⟨_, rfl, ?_⟩, ?_⟩ | refine Lx ?_)))
    all_goals (first | exact Ld | exact trivial | (rfl))
  rw [hq] at hR
  obtain ⟨n, rfl, h1, h2, h3, hv⟩ := isEG_ok hg
  obtain ⟨b1, b2, _⟩ := isRtG_pos hq
  have hB := starB_wm (r := r) h2 (by omega) hv (by omega) (by omega)
  have hW := (l15WeightsG_ac n xs r.1 r.2 h2 (by omega) hv (by omega) (by omega)).frzT (by rw [TR_len]; exact hB.rc.l)
  have hWl : (mRows 1 (TR (wmT n xs r))).length = n := by rw [mTR_len]; exact hB.rc.l
  rw [show ((r.1, r.2) : Int × Int) = r from rfl] at hW
  by_cases hnp : NoPos (entN (wmT n xs r)) n
  case neg =>
    obtain ⟨e1, e2⟩ := tp_pos hg hq hnp
    have hSt := (l03Star_no (wmT n xs r) n hB hnp).frzT2 (by rw [TR_len, tabF_len])
    rw [e1, e2]
    refine .inl ⟨by decide, ?_⟩
    generalize tabF n n (powN (entN (wmT n xs r)) n n) = s at *
    generalize wmT n xs r = wm at *
    refine AC.of_body 0 Tryz.func10 rfl (fun l h => absurd rfl h) (fun C hC => ?_)
    have hD : ∀ l, ¬ C.D0 l := fun l h => (hC l).1 h rfl
    simp only [startFr, Tryz.ntmps10, List.length_cons, List.length_nil, Nat.reduceAdd, Nat.reduceSub, List.replicate_succ, List.replicate_zero, List.cons_append, List.nil_append]
    repeat' (first | ((first | apply Ba | (apply Bb; (· rfl); (· rfl)) | (apply Bc; (· exact nxE)) | (apply Bd; (· rfl); (· rfl); (· exact nxE))); (· first | exact Kz rfl rfl (hE) (Aa (Ad (Ad An)) An) | exact Kz rfl rfl (hR) (Aa (Ad (Ad An)) An) | exact Kz rfl rfl (hW) (Aa (Ad (Ad An)) (Aa (Ad (Ad An)) An)) | exact Kz rfl rfl (hSt) (Ad An) | exact Ok.pe)) | ((first | apply Ca | (apply Cb; (· exact nxE))); (· first | exact Ok.e0)) | refine Sx ?_ | (refine Sy (fun h => ?_) (fun h => ?_) <;> try (exfalso; omega; done)) | refine Sz (fun h => ?_) (fun h => ?_))
    refine Yb ?_
    (apply Le.headZ (hs := []) [] rfl)
    all_goals (try dsimp only [srcs])
    (case' hfr => (repeat' (first | refine La ?_ ?_ | exact Lc | refine Lo ?_ | refine ⟨⟨_, rfl, ?_⟩, ?_⟩ | refine Lx ?_)))
    all_goals (first | exact Ld | exact trivial | (rfl))
  have hst := hB.m hnp
  have hSt := (l03Star_ac (wmT n xs r) n hst).frzT2 (by rw [TR_len, tabF_len])
  have hpl : (ptL n xs r).length = n := rowF_len
  have hT : AC Tryz.prog 66 [TL (tabF n n (starF (entN (wmT n xs r)) n)), .d (.sl 1 (List.replicate n [DI 0]))] H0 (own1 1 (ptL n xs r).length) (hp1 (IO (ptL n xs r))) := by
    rw [hpl, ← zeroRow]
    exact l02Apply_ac (tabF n n (starF (entN (wmT n xs r)) n)) n n (fun _ => 0) tabF_rc (by omega) (by omega) (apOk_star hst)
  have hA := l01All_ac (ptL n xs r) (by omega)
  rw [ptL_ok hst] at hA
  have hpl2 : (IR (ptL n xs r)).length = n := by rw [IR_len, hpl]
  have hne := ptL_ne hst
  cases hb : (ptL n xs r).all isVal
  · rw [hb] at hA
    obtain ⟨e1, e2⟩ := tp_lim hg hq hnp hb
    rw [e1, e2]
    refine .inl ⟨by decide, ?_⟩
    clear hb hne
    generalize ptL n xs r = pt at *
    generalize starF (entN (wmT n xs r)) n = s at *
    generalize wmT n xs r = wm at *
    clear hst hB hnp
    refine AC.of_body 0 Tryz.func10 rfl (fun l h => absurd rfl h) (fun C hC => ?_)
    have hD : ∀ l, ¬ C.D0 l := fun l h => (hC l).1 h rfl
    simp only [startFr, Tryz.ntmps10, List.length_cons, List.length_nil, Nat.reduceAdd, Nat.reduceSub, List.replicate_succ, List.replicate_zero, List.cons_append, List.nil_append]
    repeat' (first | ((first | apply Ba | (apply Bb; (· rfl); (· rfl)) | (apply Bc; (· exact nxE)) | (apply Bd; (· rfl); (· rfl); (· exact nxE))); (· first | exact Kz rfl rfl (hE) (Aa (Ad (Ad An)) An) | exact Kz rfl rfl (hR) (Aa (Ad (Ad An)) An) | exact Kz rfl rfl (hW) (Aa (Ad (Ad An)) (Aa (Ad (Ad An)) An)) | exact Kz rfl rfl (hSt) (Ad An) | exact Ez rfl rfl (hA) (Sw (Sd Sn)) | exact Eo rfl rfl (hT) (Sd (Sw Sn)) | exact Ok.pe)) | ((first | apply Ca | (apply Cb; (· exact nxE))); (· first | exact Eo rfl rfl (hT) (Sd (Sw Sn)) | exact Ok.e0)) | refine Sx ?_ | (refine Sy (fun h => ?_) (fun h => ?_) <;> try (exfalso; omega; done)) | refine Sz (fun h => ?_) (fun h => ?_))
    refine Yb ?_
    (apply Le.headZ (hs := []) [] rfl)
    all_goals (try dsimp only [srcs])
    (case' hfr => (repeat' (first | refine La ?_ ?_ | exact Lc | refine Lo ?_ | refine ⟨⟨_, rfl, ?_⟩, ?_⟩ | refine Lx ?_)))
    all_goals (first | exact Ld | exact trivial | (rfl))
  · rw [hb] at hA
    obtain ⟨e1, e2⟩ := tp_yes hg hq hnp hb
    rw [e1, e2]
    refine .inr ⟨rfl, n, rfl, h1, h2, hpl, isVal_fin hne hb, ?_⟩
    clear hb hne e1 e2
    generalize ptL n xs r = pt at *
    generalize starF (entN (wmT n xs r)) n = s at *
    generalize wmT n xs r = wm at *
    clear hst hB hnp
    refine AC.of_body 0 Tryz.func10 rfl (fun l h => absurd rfl h) (fun C hC => ?_)
    have hD : ∀ l, ¬ C.D0 l := fun l h => (hC l).1 h rfl
    simp only [startFr, Tryz.ntmps10, List.length_cons, List.length_nil, Nat.reduceAdd, Nat.reduceSub, List.replicate_succ, List.replicate_zero, List.cons_append, List.nil_append]
    repeat' (first | ((first | apply Ba | (apply Bb; (· rfl); (· rfl)) | (apply Bc; (· exact nxE)) | (apply Bd; (· rfl); (· rfl); (· exact nxE))); (· first | exact Kz rfl rfl (hE) (Aa (Ad (Ad An)) An) | exact Kz rfl rfl (hR) (Aa (Ad (Ad An)) An) | exact Kz rfl rfl (hW) (Aa (Ad (Ad An)) (Aa (Ad (Ad An)) An)) | exact Kz rfl rfl (hSt) (Ad An) | exact Ez rfl rfl (hA) (Sw (Sd Sn)) | exact Eo rfl rfl (hT) (Sd (Sw Sn)) | exact Ok.pe)) | ((first | apply Ca | (apply Cb; (· exact nxE))); (· first | exact Eo rfl rfl (hT) (Sd (Sw Sn)) | exact Ok.e0)) | refine Sx ?_ | (refine Sy (fun h => ?_) (fun h => ?_) <;> try (exfalso; omega; done)) | refine Sz (fun h => ?_) (fun h => ?_))
    refine Yb ?_
    (apply Le.head [(⟨0, []⟩, _, _)])
    (case' hfr | hob => (repeat' (first | refine La ?_ ?_ | exact Lc | refine Lo ?_ | refine ⟨⟨_, rfl, ?_⟩, ?_⟩ | refine Lx ?_)))
    all_goals (first | exact Ld | (exact hpl.symm))
theorem sTimePotential_ac (ev : Int) (xs : List Pl) (r : Int × Int) (hx : xs.length ≤ 1000) (hr : DrT r) : AC Tryz.prog 10 [grD ev xs, .agg [I r.1, I r.2]] H0 (.tup [IL (tpX ev xs r), I (tpC ev xs r)]) H0 := by
  rcases sTimePotential_cs ev xs r hx hr with ⟨_, h⟩ | ⟨h0, n, _, _, _, hl, _, h⟩
  · exact h
  · rw [h0]; exact frzV2 h hl
theorem chkVec_ac (x : List Int) (hx : x.length ≤ 100000000) : AC Tryz.prog 61 [IL x] H0 (.tup [IL (if x.all isVal = true then x else []), I (if x.all isVal = true then 0 else 3)]) H0 := by
  have hA := areValues_ac x hx
  cases ha : x.all isVal
  · rw [ha] at hA
    simp only [Bool.false_eq_true, if_false]
    refine AC.of_body 0 Tryz.func61 rfl (fun l h => absurd rfl h) (fun C hC => ?_)
    have hD : ∀ l, ¬ C.D0 l := fun l h => (hC l).1 h rfl
    simp only [startFr, Tryz.ntmps61, List.length_cons, List.length_nil, Nat.reduceAdd, Nat.reduceSub, List.replicate_succ, List.replicate_zero, List.cons_append, List.nil_append]
    repeat' (first | ((first | apply Ba | (apply Bb; (· rfl); (· rfl)) | (apply Bc; (· exact nxE)) | (apply Bd; (· rfl); (· rfl); (· exact nxE))); (· first | exact Kz rfl rfl (hA) (Ad An) | exact Ok.pe)) | ((first | apply Ca | (apply Cb; (· exact nxE))); (· first | exact Ok.e0)) | refine Sx ?_ | (refine Sy (fun h => ?_) (fun h => ?_) <;> try (exfalso; omega; done)) | refine Sz (fun h => ?_) (fun h => ?_))
    refine Yb ?_
    (apply Le.headZ (hs := []) [] rfl)
    all_goals (try dsimp only [srcs])
    (case' hfr => (repeat' (first | refine La ?_ ?_ | exact Lc | refine Lo ?_ | refine ⟨⟨_, rfl, ?_⟩, ?_⟩ | refine Lx ?_)))
    all_goals (first | exact Ld | exact trivial | (rfl))
  · rw [ha] at hA
    simp only [if_true]
    refine AC.of_body 0 Tryz.func61 rfl (fun l h => absurd rfl h) (fun C hC => ?_)
    have hD : ∀ l, ¬ C.D0 l := fun l h => (hC l).1 h rfl
    simp only [startFr, Tryz.ntmps61, List.length_cons, List.length_nil, Nat.reduceAdd, Nat.reduceSub, List.replicate_succ, List.replicate_zero, List.cons_append, List.nil_append]
    repeat' (first | ((first | apply Ba | (apply Bb; (· rfl); (· rfl)) | (apply Bc; (· exact nxE)) | (apply Bd; (· rfl); (· rfl); (· exact nxE))); (· first | exact Kz rfl rfl (hA) (Ad An) | exact Ok.pe)) | ((first | apply Ca | (apply Cb; (· exact nxE))); (· first | exact Ok.e0)) | refine Sx ?_ | (refine Sy (fun h => ?_) (fun h => ?_) <;> try (exfalso; omega; done)) | refine Sz (fun h => ?_) (fun h => ?_))
    refine Yb ?_
    (apply Le.headZ (hs := []) [] rfl)
    all_goals (try dsimp only [srcs])
    (case' hfr => (repeat' (first | refine La ?_ ?_ | exact Lc | refine Lo ?_ | refine ⟨⟨_, rfl, ?_⟩, ?_⟩ | refine Lx ?_)))
    all_goals (first | exact Ld | exact trivial | (rfl))
/-- timePotential of the program, for any ratio. -/
noncomputable def npB (n : Nat) (xs : List Pl) (r : Int × Int) : Bool := open Classical in decide (NoPos (entN (wmT n xs r)) n)
theorem npB_no {n : Nat} {xs : List Pl} {r : Int × Int} (h : ¬ NoPos (entN (wmT n xs r)) n) : npB n xs r = false := open Classical in decide_eq_false h
theorem npB_yes {n : Nat} {xs : List Pl} {r : Int × Int} (h : NoPos (entN (wmT n xs r)) n) : npB n xs r = true := open Classical in decide_eq_true h
set_option maxHeartbeats 4000000 in
theorem timePotentialG_ac (n : Nat) (xs : List Pl) (r : Int × Int) (h0 : 1 ≤ n) (hn : n ≤ 10) (hx : xs.length ≤ 1000) (hv : ∀ p ∈ xs, okPl n p) (h1 : -2000000 ≤ r.1 ∧ r.1 ≤ 2000000) (h2 : 0 ≤ r.2 ∧ r.2 ≤ 1000000) : AC Tryz.prog 60 [grD n xs, .agg [I r.1, I r.2]] H0 (.tup [IL (if npB n xs r = true then ptL n xs r else []), Bo (npB n xs r)]) H0 := by
  have hB := starB_wm (r := r) hn (by omega) hv h1 h2
  have hW := (weightMatrixG_ac n xs r.1 r.2 hn hx hv h1 h2).frzT (by rw [TR_len]; exact hB.rc.l)
  have hWl : (mRows 1 (TR (wmT n xs r))).length = n := by rw [mTR_len]; exact hB.rc.l
  rw [show ((r.1, r.2) : Int × Int) = r from rfl] at hW
  by_cases hnp : NoPos (entN (wmT n xs r)) n
  case neg =>
    rw [npB_no hnp]
    simp only [Bool.false_eq_true, if_false]
    have hS := starOf_no (wmT n xs r) n hB hnp
    generalize wmT n xs r = wm at *
    refine AC.of_body 0 Tryz.func60 rfl (fun l h => absurd rfl h) (fun C hC => ?_)
    have hD : ∀ l, ¬ C.D0 l := fun l h => (hC l).1 h rfl
    simp only [startFr, Tryz.ntmps60, List.length_cons, List.length_nil, Nat.reduceAdd, Nat.reduceSub, List.replicate_succ, List.replicate_zero, List.cons_append, List.nil_append]
    repeat' (first | ((first | apply Ba | (apply Bb; (· rfl); (· rfl)) | (apply Bc; (· exact nxE)) | (apply Bd; (· rfl); (· rfl); (· exact nxE))); (· first | exact Kz rfl rfl (hW) (Aa (Ad (Ad An)) (Aa (Ad (Ad An)) An)) | exact Kz rfl rfl (hS) (Ad An) | exact Ok.pe)) | ((first | apply Ca | (apply Cb; (· exact nxE))); (· first | exact Ok.e0)) | refine Sx ?_ | (refine Sy (fun h => ?_) (fun h => ?_) <;> try (exfalso; omega; done)) | refine Sz (fun h => ?_) (fun h => ?_))
    refine Yb ?_
    (apply Le.headZ (hs := []) [] rfl)
    all_goals (try dsimp only [srcs])
    (case' hfr => (repeat' (first | refine La ?_ ?_ | exact Lc | refine Lo ?_ | refine ⟨⟨_, rfl, ?_⟩, ?_⟩ | refine Lx ?_)))
    all_goals (first | exact Ld | exact trivial | (rfl))
  rw [npB_yes hnp, if_pos rfl]
  have hst := hB.m hnp
  have hS := (starOf_ac (wmT n xs r) n hst).frzT2 (by rw [TR_len, tabF_len])
  have hT : AC Tryz.prog 117 [TL (tabF n n (starF (entN (wmT n xs r)) n)), .d (.sl 1 (List.replicate n [DI 0]))] H0 (own1 1 n) (hp1 (IO (ptL n xs r))) := by
    rw [← zeroRow]
    exact timesVector_ac (tabF n n (starF (entN (wmT n xs r)) n)) n n (fun _ => 0) tabF_rc (by omega) (by omega) (apOk_star hst)
  have hpl : (ptL n xs r).length = n := rowF_len
  generalize ptL n xs r = pt at *
  generalize starF (entN (wmT n xs r)) n = s at *
  generalize wmT n xs r = wm at *
  clear hst hB hnp
  refine frzV2 ?_ hpl
  refine AC.of_body 0 Tryz.func60 rfl (fun l h => absurd rfl h) (fun C hC => ?_)
  have hD : ∀ l, ¬ C.D0 l := fun l h => (hC l).1 h rfl
  simp only [startFr, Tryz.ntmps60, List.length_cons, List.length_nil, Nat.reduceAdd, Nat.reduceSub, List.replicate_succ, List.replicate_zero, List.cons_append, List.nil_append]
  repeat' (first | ((first | apply Ba | (apply Bb; (· rfl); (· rfl)) | (apply Bc; (· exact nxE)) | (apply Bd; (· rfl); (· rfl); (· exact nxE))); (· first | exact Kz rfl rfl (hW) (Aa (Ad (Ad An)) (Aa (Ad (Ad An)) An)) | exact Kz rfl rfl (hS) (Ad An) | exact Eo rfl rfl (hT) (Sd (Sw Sn)) | exact Ok.pe)) | ((first | apply Ca | (apply Cb; (· exact nxE))); (· first | exact Eo rfl rfl (hT) (Sd (Sw Sn)) | exact Ok.e0)) | refine Sx ?_ | (refine Sy (fun h => ?_) (fun h => ?_) <;> try (exfalso; omega; done)) | refine Sz (fun h => ?_) (fun h => ?_))
  refine Yb ?_
  (apply Le.head [(⟨0, []⟩, _, _)])
  (case' hfr | hob => (repeat' (first | refine La ?_ ?_ | exact Lc | refine Lo ?_ | refine ⟨⟨_, rfl, ?_⟩, ?_⟩ | refine Lx ?_)))
  all_goals (first | exact Ld | (rfl))
set_option maxHeartbeats 4000000 in
theorem iTimePotential_ac (ev : Int) (xs : List Pl) (r : Int × Int) (hx : xs.length ≤ 1000) (hr : DrT r) : AC Tryz.prog 9 [grD ev xs, .agg [I r.1, I r.2]] H0 (.tup [IL (tpX ev xs r), I (tpC ev xs r)]) H0 := by
  have hE := iIsEventGraph_ac ev xs (by omega)
  have hR := iIsRatioG_ac r (by have := hr.n; omega)
  cases hg : isEG ev xs
  · rw [hg] at hE
    obtain ⟨e1, e2⟩ := tp_inv (ev := ev) (xs := xs) (r := r) (by rw [hg]; simp)
    rw [e1, e2]
    refine AC.of_body 0 Tryz.func9 rfl (fun l h => absurd rfl h) (fun C hC => ?_)
    have hD : ∀ l, ¬ C.D0 l := fun l h => (hC l).1 h rfl
    simp only [startFr, Tryz.ntmps9, List.length_cons, List.length_nil, Nat.reduceAdd, Nat.reduceSub, List.replicate_succ, List.replicate_zero, List.cons_append, List.nil_append]
    repeat' (first | ((first | apply Ba | (apply Bb; (· rfl); (· rfl)) | (apply Bc; (· exact nxE)) | (apply Bd; (· rfl); (· rfl); (· exact nxE))); (· first | exact Kz rfl rfl (hE) (Aa (Ad (Ad An)) An) | exact Kz rfl rfl (hR) (Aa (Ad (Ad An)) An) | exact Ok.pe)) | ((first | apply Ca | (apply Cb; (· exact nxE))); (· first | exact Ok.e0)) | refine Sx ?_ | (refine Sy (fun h => ?_) (fun h => ?_) <;> try (exfalso; omega; done)) | refine Sz (fun h => ?_) (fun h => ?_))
    refine Yb ?_
    (apply Le.headZ (hs := []) [] rfl)
    all_goals (try dsimp only [srcs])
    (case' hfr => (repeat' (first | refine La ?_ ?_ | exact Lc | refine Lo ?_ | refine ⟨⟨_, rfl, ?_⟩, ?_⟩ | refine Lx ?_)))
    all_goals (first | exact Ld | exact trivial | (rfl))
  rw [hg] at hE
  cases hq : isRtG r
  · rw [hq] at hR
    obtain ⟨e1, e2⟩ := tp_inv (ev := ev) (xs := xs) (r := r) (by rw [hq]; simp)
    rw [e1, e2]
    refine AC.of_body 0 Tryz.func9 rfl (fun l h => absurd rfl h) (fun C hC => ?_)
    have hD : ∀ l, ¬ C.D0 l := fun l h => (hC l).1 h rfl
    simp only [startFr, Tryz.ntmps9, List.length_cons, List.length_nil, Nat.reduceAdd, Nat.reduceSub, List.replicate_succ, List.replicate_zero, List.cons_append, List.nil_append]
    repeat' (first | ((first | apply Ba | (apply Bb; (· rfl); (· rfl)) | (apply Bc; (· exact nxE)) | (apply Bd; (· rfl); (· rfl); (· exact nxE))); (· first | exact Kz rfl rfl (hE) (Aa (Ad (Ad An)) An) | exact Kz rfl rfl (hR) (Aa (Ad (Ad An)) An) | exact Ok.pe)) | ((first | apply Ca | (apply Cb; (· exact nxE))); (· first | exact Ok.e0)) | refine Sx ?_ | (refine Sy (fun h => ?_) (fun h => ?_) <;> try (exfalso; omega; done)) | refine Sz (fun h => ?_) (fun h => ?_))
    refine Yb ?_
    (apply Le.headZ (hs := []) [] rfl)
    all_goals (try dsimp only [srcs])
    (case' hfr => (repeat' (first | refine La ?_ ?_ | exact Lc | refine Lo ?_ | refine ⟨⟨_, rfl, ?_⟩, ?_⟩ | refine Lx ?_)))
    all_goals (first | exact Ld | exact trivial | (rfl))
  rw [hq] at hR
  obtain ⟨n, rfl, h1, h2, h3, hv⟩ := isEG_ok hg
  obtain ⟨b1, b2, _⟩ := isRtG_pos hq
  have hP := timePotentialG_ac n xs r h1 h2 (by omega) hv (by omega) (by omega)
  have hpl : (ptL n xs r).length = n := rowF_len
  have hC := chkVec_ac (ptL n xs r) (by omega)
  have hK := hC
  clear hC
  by_cases hnp : NoPos (entN (wmT n xs r)) n
  case neg =>
    obtain ⟨e1, e2⟩ := tp_pos hg hq hnp
    rw [e1, e2]
    rw [npB_no hnp] at hP
    simp only [Bool.false_eq_true, if_false] at hP
    refine AC.of_body 0 Tryz.func9 rfl (fun l h => absurd rfl h) (fun C hC => ?_)
    have hD : ∀ l, ¬ C.D0 l := fun l h => (hC l).1 h rfl
    simp only [startFr, Tryz.ntmps9, List.length_cons, List.length_nil, Nat.reduceAdd, Nat.reduceSub, List.replicate_succ, List.replicate_zero, List.cons_append, List.nil_append]
    repeat' (first | ((first | apply Ba | (apply Bb; (· rfl); (· rfl)) | (apply Bc; (· exact nxE)) | (apply Bd; (· rfl); (· rfl); (· exact nxE))); (· first | exact Kz rfl rfl (hE) (Aa (Ad (Ad An)) An) | exact Kz rfl rfl (hR) (Aa (Ad (Ad An)) An) | exact Kz rfl rfl (hP) (Aa (Ad (Ad An)) (Aa (Ad (Ad An)) An)) | exact Ok.pe)) | ((first | apply Ca | (apply Cb; (· exact nxE))); (· first | exact Ok.e0)) | refine Sx ?_ | (refine Sy (fun h => ?_) (fun h => ?_) <;> try (exfalso; omega; done)) | refine Sz (fun h => ?_) (fun h => ?_))
    refine Yb ?_
    (apply Le.headZ (hs := []) [] rfl)
    all_goals (try dsimp only [srcs])
    (case' hfr => (repeat' (first | refine La ?_ ?_ | exact Lc | refine Lo ?_ | refine ⟨⟨_, rfl, ?_⟩, ?_⟩ | refine Lx ?_)))
    all_goals (first | exact Ld | exact trivial | (rfl))
  rw [npB_yes hnp, if_pos rfl] at hP
  cases hb : (ptL n xs r).all isVal
  · obtain ⟨e1, e2⟩ := tp_lim hg hq hnp hb
    rw [e1, e2]
    rw [hb] at hK
    simp only [Bool.false_eq_true, if_false] at hK
    refine AC.of_body 0 Tryz.func9 rfl (fun l h => absurd rfl h) (fun C hC => ?_)
    have hD : ∀ l, ¬ C.D0 l := fun l h => (hC l).1 h rfl
    simp only [startFr, Tryz.ntmps9, List.length_cons, List.length_nil, Nat.reduceAdd, Nat.reduceSub, List.replicate_succ, List.replicate_zero, List.cons_append, List.nil_append]
    repeat' (first | ((first | apply Ba | (apply Bb; (· rfl); (· rfl)) | (apply Bc; (· exact nxE)) | (apply Bd; (· rfl); (· rfl); (· exact nxE))); (· first | exact Kz rfl rfl (hE) (Aa (Ad (Ad An)) An) | exact Kz rfl rfl (hR) (Aa (Ad (Ad An)) An) | exact Kz rfl rfl (hP) (Aa (Ad (Ad An)) (Aa (Ad (Ad An)) An)) | exact Kz rfl rfl (hK) (Ad An) | exact Ok.pe)) | ((first | apply Ca | (apply Cb; (· exact nxE))); (· first | exact Ok.e0)) | refine Sx ?_ | (refine Sy (fun h => ?_) (fun h => ?_) <;> try (exfalso; omega; done)) | refine Sz (fun h => ?_) (fun h => ?_))
    refine Yb ?_
    (apply Le.headZ (hs := []) [] rfl)
    all_goals (try dsimp only [srcs])
    (case' hfr => (repeat' (first | refine La ?_ ?_ | exact Lc | refine Lo ?_ | refine ⟨⟨_, rfl, ?_⟩, ?_⟩ | refine Lx ?_)))
    all_goals (first | exact Ld | exact trivial | (rfl))
  · obtain ⟨e1, e2⟩ := tp_yes hg hq hnp hb
    rw [e1, e2]
    rw [hb] at hK
    simp only [if_true] at hK
    generalize ptL n xs r = pt at *
    refine AC.of_body 0 Tryz.func9 rfl (fun l h => absurd rfl h) (fun C hC => ?_)
    have hD : ∀ l, ¬ C.D0 l := fun l h => (hC l).1 h rfl
    simp only [startFr, Tryz.ntmps9, List.length_cons, List.length_nil, Nat.reduceAdd, Nat.reduceSub, List.replicate_succ, List.replicate_zero, List.cons_append, List.nil_append]
    repeat' (first | ((first | apply Ba | (apply Bb; (· rfl); (· rfl)) | (apply Bc; (· exact nxE)) | (apply Bd; (· rfl); (· rfl); (· exact nxE))); (· first | exact Kz rfl rfl (hE) (Aa (Ad (Ad An)) An) | exact Kz rfl rfl (hR) (Aa (Ad (Ad An)) An) | exact Kz rfl rfl (hP) (Aa (Ad (Ad An)) (Aa (Ad (Ad An)) An)) | exact Kz rfl rfl (hK) (Ad An) | exact Ok.pe)) | ((first | apply Ca | (apply Cb; (· exact nxE))); (· first | exact Ok.e0)) | refine Sx ?_ | (refine Sy (fun h => ?_) (fun h => ?_) <;> try (exfalso; omega; done)) | refine Sz (fun h => ?_) (fun h => ?_))
    refine Yb ?_
    (apply Le.headZ (hs := []) [] rfl)
    all_goals (try dsimp only [srcs])
    (case' hfr => (repeat' (first | refine La ?_ ?_ | exact Lc | refine Lo ?_ | refine ⟨⟨_, rfl, ?_⟩, ?_⟩ | refine Lx ?_)))
    all_goals (first | exact Ld | exact trivial | (rfl))
end Go.Proofs.YtpgcmpbamlnkkaaGreat
