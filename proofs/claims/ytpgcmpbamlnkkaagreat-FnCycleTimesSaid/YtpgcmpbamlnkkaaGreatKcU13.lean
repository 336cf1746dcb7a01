/-
  Walks in the abstract reading, part 13.
-/
import Derived.Test.YtpgcmpbamlnkkaaGreatKcE71
import Derived.Test.YtpgcmpbamlnkkaaGreatKcU8
import Derived.Test.YtpgcmpbamlnkkaaGreatKcU10
import Derived.Test.YtpgcmpbamlnkkaaGreatKcU9
import Derived.Test.YtpgcmpbamlnkkaaGreatKcA3
section
namespace Go.Proofs.YtpgcmpbamlnkkaaGreat
set_option linter.unusedSimpArgs false
set_option linter.unusedVariables false
open Go Go.RowKit
attribute [local irreducible] AL AD AW OpOk Le AC thenQ blockQ EndQ

def tbP (x : List Int) (r : Int × Int) (p : Pl) : Bool := decide (x.getD p.t.toNat 0 < x.getD p.f.toNat 0 + pw r.1 r.2 p)
def tbH (n : Nat) (xs : List Pl) (r : Int × Int) (x : List Int) : Bool := decide (x.length = n) && (finL x && xs.all fun p => !tbP x r p)
def tbB (ev : Int) (xs : List Pl) (r : Int × Int) (x : List Int) : Bool := isEG ev xs && (isRtG r && tbH ev.toNat xs r x)
theorem tb_cell {x : List Int} {n : Nat} {v : Int} (hl : x.length = n) (hv : 0 ≤ v ∧ v < n) : (IR x)[v.toNat]? = some [DI (x.getD v.toNat 0)] := by
  have := getD_cell (j := v.toNat) hl (by omega)
  rw [Int.toNat_of_nonneg hv.1] at this
  exact this
set_option maxHeartbeats 2000000 in
theorem l15Holds_ac (n : Nat) (xs : List Pl) (u1 u2 : Int) (x : List Int) (hx : xs.length ≤ 1000) (hv : ∀ p ∈ xs, okPl n p) (hn : n ≤ 10) (h1 : -2000000 ≤ u1 ∧ u1 ≤ 2000000) (h2 : 0 ≤ u2 ∧ u2 ≤ 1000000) (hxl : x.length ≤ 100000) : AC Tryz.prog 80 [grD n xs, .agg [I u1, I u2], IL x] H0 (Bo (tbH n xs (u1, u2) x)) H0 := by
  have hA := l01All_ac x (by omega)
  rw [finL_eq] at hA
  have hxr : (IR x).length = x.length := IR_len
  unfold tbH
  by_cases hl : x.length = n
  case neg =>
    rw [decide_eq_false hl, Bool.false_and]
    refine AC.of_body 0 Tryz.func80 rfl (fun l h => absurd rfl h) (fun C hC => ?_)
    have hD : ∀ l, ¬ C.D0 l := fun l h => (hC l).1 h rfl
    simp only [startFr, Tryz.ntmps80, List.length_cons, List.length_nil, Nat.reduceAdd, Nat.reduceSub, List.replicate_succ, List.replicate_zero, List.cons_append, List.nil_append]
    repeat' (first | ((first | apply Ba | (apply Bb; (· rfl); (· rfl)) | (apply Bc; (· exact nxE)) | (apply Bd; (· rfl); (· rfl); (· exact nxE))); (· first | exact Ok.lenD rfl rfl hxr | exact Ok.pe)) | ((first | apply Ca | (apply Cb; (· exact nxE))); (· first | exact Ok.e0)) | refine Sx ?_ | (refine Sy (fun h => ?_) (fun h => ?_) <;> try (exfalso; omega; done)) | refine Sz (fun h => ?_) (fun h => ?_))
    refine Ya ?_
    (apply Le.headZ (hs := []) [] rfl)
    all_goals (try dsimp only [srcs])
    (case' hfr => (repeat' (first | refine La ?_ ?_ | exact Lc | refine Lo ?_ | refine ⟨⟨_, rfl, ?_⟩, ?_⟩ | refine Lx ?_)))
    all_goals (first | exact Ld | exact trivial | (rfl))
  rw [decide_eq_true hl, Bool.true_and]
  cases hf : finL x
  · rw [hf] at hA
    rw [Bool.false_and]
    refine AC.of_body 0 Tryz.func80 rfl (fun l h => absurd rfl h) (fun C hC => ?_)
    have hD : ∀ l, ¬ C.D0 l := fun l h => (hC l).1 h rfl
    simp only [startFr, Tryz.ntmps80, List.length_cons, List.length_nil, Nat.reduceAdd, Nat.reduceSub, List.replicate_succ, List.replicate_zero, List.cons_append, List.nil_append]
    repeat' (first | ((first | apply Ba | (apply Bb; (· rfl); (· rfl)) | (apply Bc; (· exact nxE)) | (apply Bd; (· rfl); (· rfl); (· exact nxE))); (· first | exact Ok.lenD rfl rfl hxr | exact Kz rfl rfl (hA) (Ad (Ad An)) | exact Ok.pe)) | ((first | apply Ca | (apply Cb; (· exact nxE))); (· first | exact Ok.e0)) | refine Sx ?_ | (refine Sy (fun h => ?_) (fun h => ?_) <;> try (exfalso; omega; done)) | refine Sz (fun h => ?_) (fun h => ?_))
    refine Ya ?_
    (apply Le.headZ (hs := []) [] rfl)
    all_goals (try dsimp only [srcs])
    (case' hfr => (repeat' (first | refine La ?_ ?_ | exact Lc | refine Lo ?_ | refine ⟨⟨_, rfl, ?_⟩, ?_⟩ | refine Lx ?_)))
    all_goals (first | exact Ld | exact trivial | (rfl))
  rw [hf] at hA
  rw [Bool.true_and]
  refine AC.of_body 0 Tryz.func80 rfl (fun l h => absurd rfl h) (fun C hC => ?_)
  have hD : ∀ l, ¬ C.D0 l := fun l h => (hC l).1 h rfl
  simp only [startFr, Tryz.ntmps80, List.length_cons, List.length_nil, Nat.reduceAdd, Nat.reduceSub, List.replicate_succ, List.replicate_zero, List.cons_append, List.nil_append]
  repeat' (first | ((first | apply Ba | (apply Bb; (· rfl); (· rfl)) | (apply Bc; (· exact nxE)) | (apply Bd; (· rfl); (· rfl); (· exact nxE))); (· first | exact Ok.lenD rfl rfl hxr | exact Kz rfl rfl (hA) (Ad (Ad An)) | exact Ok.pe)) | ((first | apply Ca | (apply Cb; (· exact nxE))); (· first | exact Ok.e0)) | refine Sx ?_ | (refine Sy (fun h => ?_) (fun h => ?_) <;> try (exfalso; omega; done)) | refine Sz (fun h => ?_) (fun h => ?_))
  refine AW.loop (X := {k : Nat // k ≤ xs.length ∧ (xs.all fun p => !tbP x (u1, u2) p) = ((xs.drop k).all fun p => !tbP x (u1, u2) p)}) (fun k => ⟨[Oo, Oo, IL x, Bx 2 0, Bx 2 1, Oo, Oo, I (k.1 : Nat), Oo, Oo, Oo, Oo, Oo, Oo, Oo, Oo, Oo, Oo, Oo, Oo, Oo, Oo, Oo, Oo, Oo, Oo, Oo, Oo, Oo, Oo, Oo, Oo, Oo, Oo, Oo, Oo, Oo, Oo, Oo, Oo, Oo, Oo, Oo, Oo, Oo, Oo, Oo, Oo, Oo, Oo, Oo, Oo, Oo, Oo], heapL [(⟨0, []⟩, ⟨0, []⟩, ⟨2, [[I n, PL xs]]⟩), (⟨1, []⟩, ⟨1, []⟩, ⟨2, [[I u1, I u2]]⟩)], 900⟩) (fun k => xs.length - k.1) ⟨0, Nat.zero_le _, rfl⟩ ?_ (fun k => ?_)
  ·
    (apply Le.headZ [_, _] rfl)
    all_goals (try dsimp only [srcs])
    (case' hfr | hob => (repeat' (first | refine La ?_ ?_ | exact Lc | refine Lo ?_ | refine ⟨⟨_, rfl, ?_⟩, ?_⟩ | refine Lx ?_)))
    all_goals (first | (rfl) | exact Ld)
  obtain ⟨k, hk, hall⟩ := k
  simp only
  by_cases hlt : k < xs.length
  case neg =>
    obtain rfl : k = xs.length := by omega
    rw [hall, List.drop_length, List.all_nil]
    repeat' (first | ((first | apply Ba | (apply Bb; (· rfl); (· rfl)) | (apply Bc; (· exact nxE)) | (apply Bd; (· rfl); (· rfl); (· exact nxE))); (· first | exact Ok.pe)) | ((first | apply Ca | (apply Cb; (· exact nxE))); (· first | exact Ok.e0)) | refine Sx ?_ | (refine Sy (fun h => ?_) (fun h => ?_) <;> try (exfalso; omega; done)) | refine Sz (fun h => ?_) (fun h => ?_))
    refine Ya ?_
    (apply Le.headZ (hs := []) [] rfl)
    all_goals (try dsimp only [srcs])
    (case' hfr => (repeat' (first | refine La ?_ ?_ | exact Lc | refine Lo ?_ | refine ⟨⟨_, rfl, ?_⟩, ?_⟩ | refine Lx ?_)))
    all_goals (first | exact Ld | exact trivial | (rfl))
  have hrow := pl_row (n := 0) hlt
  have hpw := plW_leG hv h1 h2 k hlt
  have hget : xs[k]? = some (plA xs k) := by simp [plA, hlt]
  obtain ⟨hF, hT, _⟩ := okPl_at hv k hlt
  have hxf := tb_cell hl hF
  have hxt := tb_cell hl hT
  have hfv := finL_at (j := (plA xs k).f.toNat) hf hl (by omega)
  have htv := finL_at (j := (plA xs k).t.toNat) hf hl (by omega)
  have hnoR : (!tbP x (u1, u2) (plA xs k)) = false → _ := fun h => all_no (f := fun p => !tbP x (u1, u2) p) hget h
  have hstR : (!tbP x (u1, u2) (plA xs k)) = true → _ := fun h => all_step (f := fun p => !tbP x (u1, u2) p) hget hall h
  rw [show tbP x (u1, u2) (plA xs k) = decide (x.getD (plA xs k).t.toNat 0 < x.getD (plA xs k).f.toNat 0 + (u2 * (plA xs k).d - u1 * (plA xs k).k)) from rfl] at hnoR hstR
  clear hall hget
  generalize (xs.all fun p => !tbP x (u1, u2) p) = A at *
  generalize x.getD (plA xs k).f.toNat 0 = a at *
  generalize x.getD (plA xs k).t.toNat 0 = b at *
  generalize plA xs k = p at *
  obtain ⟨pf, pt, pd, pk⟩ := p
  simp only at hrow hpw hF hT hxf hxt hfv htv hnoR hstR
  by_cases hlt2 : b < a + (u2 * pd - u1 * pk)
  · have hq := hnoR (by rw [decide_eq_true hlt2]; rfl)
    rw [hq]
    clear hnoR hstR hq
    repeat' (first | ((first | apply Ba | (apply Bb; (· rfl); (· rfl)) | (apply Bc; (· exact nxE)) | (apply Bd; (· rfl); (· rfl); (· exact nxE))); (· first | exact Ok.lenD rfl rfl hxr | exact Ok.pe)) | ((first | apply Ca | (apply Cb; (· exact nxE))); (· first | exact Ok.e0)) | refine Sx ?_ | (refine Sy (fun h => ?_) (fun h => ?_) <;> try (exfalso; omega; done)) | refine Sz (fun h => ?_) (fun h => ?_))
    refine Ya ?_
    (apply Le.headZ (hs := []) [] rfl)
    all_goals (try dsimp only [srcs])
    (case' hfr => (repeat' (first | refine La ?_ ?_ | exact Lc | refine Lo ?_ | refine ⟨⟨_, rfl, ?_⟩, ?_⟩ | refine Lx ?_)))
    all_goals (first | exact Ld | exact trivial | (rfl))
  · have hq := hstR (by rw [decide_eq_false hlt2]; rfl)
    clear hnoR hstR
    repeat' (first | ((first | apply Ba | (apply Bb; (· rfl); (· rfl)) | (apply Bc; (· exact nxE)) | (apply Bd; (· rfl); (· rfl); (· exact nxE))); (· first | exact Ok.lenD rfl rfl hxr | exact Ok.pe)) | ((first | apply Ca | (apply Cb; (· exact nxE))); (· first | exact Ok.e0)) | refine Sx ?_ | (refine Sy (fun h => ?_) (fun h => ?_) <;> try (exfalso; omega; done)) | refine Sz (fun h => ?_) (fun h => ?_))
    refine ⟨⟨k + 1, by omega, hq⟩, ?_, by simp only; omega⟩
    (apply Le.headZ [_, _] rfl)
    all_goals (try dsimp only [srcs])
    (case' hfr | hob => (repeat' (first | refine La ?_ ?_ | exact Lc | refine Lo ?_ | refine ⟨⟨_, rfl, ?_⟩, ?_⟩ | refine Lx ?_)))
    all_goals (first | (rfl) | exact Ld)
theorem sIsTimePotential_ac (ev : Int) (xs : List Pl) (r : Int × Int) (x : List Int) (hx : xs.length ≤ 1000) (hr : DrT r) (hxl : x.length ≤ 100000) : AC Tryz.prog 18 [grD ev xs, .agg [I r.1, I r.2], IL x] H0 (Bo (tbB ev xs r x)) H0 := by
  have hE := sIsEventGraph_ac ev xs (by omega)
  have hR := sIsRatioG_ac r (by have := hr.n; omega)
  unfold tbB
  cases hg : isEG ev xs
  · rw [hg] at hE
    rw [Bool.false_and]
    refine AC.of_body 0 Tryz.func18 rfl (fun l h => absurd rfl h) (fun C hC => ?_)
    have hD : ∀ l, ¬ C.D0 l := fun l h => (hC l).1 h rfl
    simp only [startFr, Tryz.ntmps18, List.length_cons, List.length_nil, Nat.reduceAdd, Nat.reduceSub, List.replicate_succ, List.replicate_zero, List.cons_append, List.nil_append]
    repeat' (first | ((first | apply Ba | (apply Bb; (· rfl); (· rfl)) | (apply Bc; (· exact nxE)) | (apply Bd; (· rfl); (· rfl); (· exact nxE))); (· first | exact Kz rfl rfl (hE) (Aa (Ad (Ad An)) An) | exact Kz rfl rfl (hR) (Aa (Ad (Ad An)) An) | exact Ok.pe)) | ((first | apply Ca | (apply Cb; (· exact nxE))); (· first | exact Ok.e0)) | refine Sx ?_ | (refine Sy (fun h => ?_) (fun h => ?_) <;> try (exfalso; omega; done)) | refine Sz (fun h => ?_) (fun h => ?_))
    refine Ya ?_
    (apply Le.headZ (hs := []) [] rfl)
    all_goals (try dsimp only [srcs])
    (case' hfr => (repeat' (first | refine La ?_ ?_ | exact Lc | refine Lo ?_ | refine ⟨⟨_, rfl, ?_⟩, ?_⟩ | refine Lx ?_)))
    all_goals (first | exact Ld | exact trivial | (rfl))
  rw [hg] at hE
  rw [Bool.true_and]
  cases hq : isRtG r
  · rw [hq] at hR
    rw [Bool.false_and]
    refine AC.of_body 0 Tryz.func18 rfl (fun l h => absurd rfl h) (fun C hC => ?_)
    have hD : ∀ l, ¬ C.D0 l := fun l h => (hC l).1 h rfl
    simp only [startFr, Tryz.ntmps18, List.length_cons, List.length_nil, Nat.reduceAdd, Nat.reduceSub, List.replicate_succ, List.replicate_zero, List.cons_append, List.nil_append]
    repeat' (first | ((first | apply Ba | (apply Bb; (· rfl); (· rfl)) | (apply Bc; (· exact nxE)) | (apply Bd; (· rfl); (· rfl); (· exact nxE))); (· first | exact Kz rfl rfl (hE) (Aa (Ad (Ad An)) An) | exact Kz rfl rfl (hR) (Aa (Ad (Ad An)) An) | exact Ok.pe)) | ((first | apply Ca | (apply Cb; (· exact nxE))); (· first | exact Ok.e0)) | refine Sx ?_ | (refine Sy (fun h => ?_) (fun h => ?_) <;> try (exfalso; omega; done)) | refine Sz (fun h => ?_) (fun h => ?_))
    refine Ya ?_
    (apply Le.headZ (hs := []) [] rfl)
    all_goals (try dsimp only [srcs])
    (case' hfr => (repeat' (first | refine La ?_ ?_ | exact Lc | refine Lo ?_ | refine ⟨⟨_, rfl, ?_⟩, ?_⟩ | refine Lx ?_)))
    all_goals (first | exact Ld | exact trivial | (rfl))
  rw [hq] at hR
  rw [Bool.true_and]
  obtain ⟨n, rfl, g1, g2, g3, hv⟩ := isEG_ok hg
  obtain ⟨b1, b2, _⟩ := isRtG_pos hq
  obtain ⟨u1, u2⟩ := r
  simp only at b1 b2 hR
  have hH := l15Holds_ac n xs u1 u2 x hx hv g2 (by omega) (by omega) hxl
  rw [Int.toNat_natCast]
  refine AC.of_body 0 Tryz.func18 rfl (fun l h => absurd rfl h) (fun C hC => ?_)
  have hD : ∀ l, ¬ C.D0 l := fun l h => (hC l).1 h rfl
  simp only [startFr, Tryz.ntmps18, List.length_cons, List.length_nil, Nat.reduceAdd, Nat.reduceSub, List.replicate_succ, List.replicate_zero, List.cons_append, List.nil_append]
  repeat' (first | ((first | apply Ba | (apply Bb; (· rfl); (· rfl)) | (apply Bc; (· exact nxE)) | (apply Bd; (· rfl); (· rfl); (· exact nxE))); (· first | exact Kz rfl rfl (hE) (Aa (Ad (Ad An)) An) | exact Kz rfl rfl (hR) (Aa (Ad (Ad An)) An) | exact Kz rfl rfl (hH) (Aa (Ad (Ad An)) (Aa (Ad (Ad An)) (Ad An))) | exact Ok.pe)) | ((first | apply Ca | (apply Cb; (· exact nxE))); (· first | exact Ok.e0)) | refine Sx ?_ | (refine Sy (fun h => ?_) (fun h => ?_) <;> try (exfalso; omega; done)) | refine Sz (fun h => ?_) (fun h => ?_))
  refine Ya ?_
  (apply Le.headZ (hs := []) [] rfl)
  all_goals (try dsimp only [srcs])
  (case' hfr => (repeat' (first | refine La ?_ ?_ | exact Lc | refine Lo ?_ | refine ⟨⟨_, rfl, ?_⟩, ?_⟩ | refine Lx ?_)))
  all_goals (first | exact Ld | exact trivial | (rfl))
/-! ### The program's test -/
abbrev hsTp (x : List Int) (p q : Int) : HL := [(⟨2, []⟩, ⟨2, []⟩, ⟨1, [[IL x]]⟩), (⟨1, []⟩, ⟨1, []⟩, ⟨2, [[I p, I q]]⟩)]
theorem hsTp_ok {x : List Int} {p q : Int} : HOk (hsTp x p q) := by
  intro s hp r hr c hc
  simp only [List.mem_cons, List.not_mem_nil, or_false] at hp
  rcases hp with rfl | rfl
  · simp at hr; subst hr; simp at hc; subst hc; exact .d _
  · simp at hr; subst hr; simp at hc; rcases hc with rfl | rfl <;> exact .d _
set_option maxHeartbeats 2000000 in
theorem tpFn_ac (n : Nat) (p : Pl) (u1 u2 : Int) (x : List Int) (hp : okPl n p) (h1 : -2000000 ≤ u1 ∧ u1 ≤ 2000000) (h2 : 0 ≤ u2 ∧ u2 ≤ 1000000) (hl : x.length = n) (hf : finL x = true) : AC Tryz.prog 78 [p.av, Bx 1 2, Bx 2 1] (heapL (hsTp x u1 u2)) (Bo (tbP x (u1, u2) p)) (heapL (hsTp x u1 u2)) := by
  obtain ⟨hF, hT, hd, hk⟩ := hp
  have hxf := tb_cell hl hF
  have hxt := tb_cell hl hT
  have hfv := finL_at (j := p.f.toNat) hf hl (by omega)
  have htv := finL_at (j := p.t.toNat) hf hl (by omega)
  have hm1 := mul_in h2 hd
  have hm2 := mulK h1 hk
  have hPW := placeWeightG_ac p u1 u2 (by omega) (by omega)
  have hpb : -20000000000 ≤ pw u1 u2 p ∧ pw u1 u2 p ≤ 20000000000 := by unfold pw; omega
  unfold tbP
  simp only
  generalize pw u1 u2 p = w at *
  generalize x.getD p.f.toNat 0 = a at *
  generalize x.getD p.t.toNat 0 = b at *
  obtain ⟨pf, pt, pd, pk⟩ := p
  simp only at hxf hxt hPW hF hT
  refine AC.of_body 3 Tryz.func78 rfl (fun l h => by simp [heapL, upd] at h; (repeat' split at h) <;> simp_all) (fun C hC => ?_)
  simp only [startFr, Tryz.ntmps78, List.length_cons, List.length_nil, Nat.reduceAdd, Nat.reduceSub, List.replicate_succ, List.replicate_zero, List.cons_append, List.nil_append]
  have hD : ∀ l, C.D0 l → l = ⟨2, []⟩ ∨ l = ⟨1, []⟩ := fun l h => by have := (hC l).1 h; simp [heapL, upd] at this; (repeat' split at this) <;> simp_all
  repeat' (first | ((first | apply Ba | (apply Bb; (· rfl); (· rfl)) | (apply Bc; (· exact nxE)) | (apply Bd; (· rfl); (· rfl); (· exact nxE))); (· first | exact Kz rfl rfl (hPW) (Aa (Ad (Ad (Ad (Ad An)))) (Aa (Ad (Ad An)) An)) | exact Ok.pe)) | ((first | apply Ca | (apply Cb; (· exact nxE))); (· first | exact Ok.e0)) | refine Sx ?_ | (refine Sy (fun h => ?_) (fun h => ?_) <;> try (exfalso; omega; done)) | refine Sz (fun h => ?_) (fun h => ?_))
  (refine end1p (by first | exact .inl rfl | exact .inr rfl) rfl (by first | exact rT rfl | exact rCA rfl rfl rfl rfl (by simp) | exact rCC rfl rfl rfl rfl rfl) ?_ (Le.head ([(⟨2, []⟩, ⟨2, []⟩, ⟨1, [[IL x]]⟩), (⟨1, []⟩, ⟨1, []⟩, ⟨2, [[I u1, I u2]]⟩)]) (by first | exact fun l h => absurd h (hD l) | (intro l h; rcases hD l h with rfl; simp [tauL]) | (intro l h; rcases hD l h with rfl | rfl <;> simp [tauL]; done) | (intro l h; rcases hD l h with rfl | rfl | rfl <;> simp [tauL])) ?_ ?_ (by simp) (by simp) (by simp [AllP]) (n' := 1000)); (· rfl)) <;> (repeat' (first | exact trivial | exact ARs.nil | refine ARs.cons ?_ ?_ | exact AR.dead _ | exact AR.dd _ | exact AR.i (by (try dsimp only); omega) | exact AR.ptr _ _ _ _ (by simp [heapL, upd]) | exact AR.own _ _ _ _ (by simp [heapL, upd]) | refine AR.ownE _ _ _ ?_ (by simp [heapL, upd]) | refine ⟨⟨_, rfl, ?_⟩, ?_⟩ | exact ObA.data | refine ObA.box ?_ | refine ObA.frE ?_ | refine ObA.dataE ?_ | refine ARs.agg ?_ | refine ARs.tup ?_ | exact AR.clo' ARs.nil ARs.nil | exact AR.clo' ARs.nil (hca _ _)))
set_option maxHeartbeats 2000000 in
theorem iIsTimePotential_ac (ev : Int) (xs : List Pl) (r : Int × Int) (x : List Int) (hx : xs.length ≤ 1000) (hr : DrT r) (hxl : x.length ≤ 100000) : AC Tryz.prog 17 [grD ev xs, .agg [I r.1, I r.2], IL x] H0 (Bo (tbB ev xs r x)) H0 := by
  have hE := iIsEventGraph_ac ev xs (by omega)
  have hR := iIsRatioG_ac r (by have := hr.n; omega)
  have hxr : (IR x).length = x.length := IR_len
  unfold tbB
  cases hg : isEG ev xs
  · rw [hg] at hE
    rw [Bool.false_and]
    refine AC.of_body 0 Tryz.func17 rfl (fun l h => absurd rfl h) (fun C hC => ?_)
    have hD : ∀ l, ¬ C.D0 l := fun l h => (hC l).1 h rfl
    simp only [startFr, Tryz.ntmps17, List.length_cons, List.length_nil, Nat.reduceAdd, Nat.reduceSub, List.replicate_succ, List.replicate_zero, List.cons_append, List.nil_append]
    repeat' (first | ((first | apply Ba | (apply Bb; (· rfl); (· rfl)) | (apply Bc; (· exact nxE)) | (apply Bd; (· rfl); (· rfl); (· exact nxE))); (· first | exact Kz rfl rfl (hE) (Aa (Ad (Ad An)) An) | exact Kz rfl rfl (hR) (Aa (Ad (Ad An)) An) | exact Ok.pe)) | ((first | apply Ca | (apply Cb; (· exact nxE))); (· first | exact Ok.e0)) | refine Sx ?_ | (refine Sy (fun h => ?_) (fun h => ?_) <;> try (exfalso; omega; done)) | refine Sz (fun h => ?_) (fun h => ?_))
    refine Ya ?_
    (apply Le.headZ (hs := []) [] rfl)
    all_goals (try dsimp only [srcs])
    (case' hfr => (repeat' (first | refine La ?_ ?_ | exact Lc | refine Lo ?_ | refine ⟨⟨_, rfl, ?_⟩, ?_⟩ | refine Lx ?_)))
    all_goals (first | exact Ld | exact trivial | (rfl))
  rw [hg] at hE
  rw [Bool.true_and]
  cases hq : isRtG r
  · rw [hq] at hR
    rw [Bool.false_and]
    refine AC.of_body 0 Tryz.func17 rfl (fun l h => absurd rfl h) (fun C hC => ?_)
    have hD : ∀ l, ¬ C.D0 l := fun l h => (hC l).1 h rfl
    simp only [startFr, Tryz.ntmps17, List.length_cons, List.length_nil, Nat.reduceAdd, Nat.reduceSub, List.replicate_succ, List.replicate_zero, List.cons_append, List.nil_append]
    repeat' (first | ((first | apply Ba | (apply Bb; (· rfl); (· rfl)) | (apply Bc; (· exact nxE)) | (apply Bd; (· rfl); (· rfl); (· exact nxE))); (· first | exact Kz rfl rfl (hE) (Aa (Ad (Ad An)) An) | exact Kz rfl rfl (hR) (Aa (Ad (Ad An)) An) | exact Ok.pe)) | ((first | apply Ca | (apply Cb; (· exact nxE))); (· first | exact Ok.e0)) | refine Sx ?_ | (refine Sy (fun h => ?_) (fun h => ?_) <;> try (exfalso; omega; done)) | refine Sz (fun h => ?_) (fun h => ?_))
    refine Ya ?_
    (apply Le.headZ (hs := []) [] rfl)
    all_goals (try dsimp only [srcs])
    (case' hfr => (repeat' (first | refine La ?_ ?_ | exact Lc | refine Lo ?_ | refine ⟨⟨_, rfl, ?_⟩, ?_⟩ | refine Lx ?_)))
    all_goals (first | exact Ld | exact trivial | (rfl))
  rw [hq] at hR
  rw [Bool.true_and]
  obtain ⟨n, rfl, g1, g2, g3, hv⟩ := isEG_ok hg
  obtain ⟨b1, b2, _⟩ := isRtG_pos hq
  obtain ⟨u1, u2⟩ := r
  simp only at b1 b2 hR
  rw [Int.toNat_natCast]
  unfold tbH
  have hA := allWithin_ac x (-1000000) 1000000 (by omega)
  rw [show (x.all fun a => wi a (-1000000) 1000000) = finL x from rfl] at hA
  by_cases hl : x.length = n
  case neg =>
    rw [decide_eq_false hl, Bool.false_and]
    refine AC.of_body 0 Tryz.func17 rfl (fun l h => absurd rfl h) (fun C hC => ?_)
    have hD : ∀ l, ¬ C.D0 l := fun l h => (hC l).1 h rfl
    simp only [startFr, Tryz.ntmps17, List.length_cons, List.length_nil, Nat.reduceAdd, Nat.reduceSub, List.replicate_succ, List.replicate_zero, List.cons_append, List.nil_append]
    repeat' (first | ((first | apply Ba | (apply Bb; (· rfl); (· rfl)) | (apply Bc; (· exact nxE)) | (apply Bd; (· rfl); (· rfl); (· exact nxE))); (· first | exact Kz rfl rfl (hE) (Aa (Ad (Ad An)) An) | exact Kz rfl rfl (hR) (Aa (Ad (Ad An)) An) | exact Ok.lenD rfl rfl hxr | exact Ok.pe)) | ((first | apply Ca | (apply Cb; (· exact nxE))); (· first | exact Ok.e0)) | refine Sx ?_ | (refine Sy (fun h => ?_) (fun h => ?_) <;> try (exfalso; omega; done)) | refine Sz (fun h => ?_) (fun h => ?_))
    refine Ya ?_
    (apply Le.headZ (hs := []) [] rfl)
    all_goals (try dsimp only [srcs])
    (case' hfr => (repeat' (first | refine La ?_ ?_ | exact Lc | refine Lo ?_ | refine ⟨⟨_, rfl, ?_⟩, ?_⟩ | refine Lx ?_)))
    all_goals (first | exact Ld | exact trivial | (rfl))
  rw [decide_eq_true hl, Bool.true_and]
  cases hf : finL x
  · rw [hf] at hA
    rw [Bool.false_and]
    refine AC.of_body 0 Tryz.func17 rfl (fun l h => absurd rfl h) (fun C hC => ?_)
    have hD : ∀ l, ¬ C.D0 l := fun l h => (hC l).1 h rfl
    simp only [startFr, Tryz.ntmps17, List.length_cons, List.length_nil, Nat.reduceAdd, Nat.reduceSub, List.replicate_succ, List.replicate_zero, List.cons_append, List.nil_append]
    repeat' (first | ((first | apply Ba | (apply Bb; (· rfl); (· rfl)) | (apply Bc; (· exact nxE)) | (apply Bd; (· rfl); (· rfl); (· exact nxE))); (· first | exact Kz rfl rfl (hE) (Aa (Ad (Ad An)) An) | exact Kz rfl rfl (hR) (Aa (Ad (Ad An)) An) | exact Ok.lenD rfl rfl hxr | exact Kz rfl rfl (hA) (Ad (Ad (Ad An))) | exact Ok.pe)) | ((first | apply Ca | (apply Cb; (· exact nxE))); (· first | exact Ok.e0)) | refine Sx ?_ | (refine Sy (fun h => ?_) (fun h => ?_) <;> try (exfalso; omega; done)) | refine Sz (fun h => ?_) (fun h => ?_))
    refine Ya ?_
    (apply Le.headZ (hs := []) [] rfl)
    all_goals (try dsimp only [srcs])
    (case' hfr => (repeat' (first | refine La ?_ ?_ | exact Lc | refine Lo ?_ | refine ⟨⟨_, rfl, ?_⟩, ?_⟩ | refine Lx ?_)))
    all_goals (first | exact Ld | exact trivial | (rfl))
  rw [hf] at hA
  rw [Bool.true_and]
  have hF := containsFuncPl_ac xs (by omega) 78 [Bx 1 2, Bx 2 1] (hsTp x u1 u2) (by intro p hp; simp only [List.mem_cons, List.not_mem_nil, or_false] at hp; rcases hp with rfl | rfl <;> rfl) (by simp) hsTp_ok
    (by intro c hc; simp at hc; rcases hc with rfl | rfl <;> exact .ptr _ _ _ _ (by simp)) 3 (by simp) (tbP x (u1, u2)) (fun p hp => tpFn_ac n p u1 u2 x (hv p hp) (by omega) (by omega) hl hf)
  have hQ := hF
  clear hF
  rw [show (xs.all fun p => !tbP x (u1, u2) p) = !(xs.any (tbP x (u1, u2))) by rw [List.all_eq_not_any_not]; simp]
  generalize xs.any (tbP x (u1, u2)) = b at *
  refine AC.of_body 0 Tryz.func17 rfl (fun l h => absurd rfl h) (fun C hC => ?_)
  have hD : ∀ l, ¬ C.D0 l := fun l h => (hC l).1 h rfl
  simp only [startFr, Tryz.ntmps17, List.length_cons, List.length_nil, Nat.reduceAdd, Nat.reduceSub, List.replicate_succ, List.replicate_zero, List.cons_append, List.nil_append]
  repeat' (first | ((first | apply Ba | (apply Bb; (· rfl); (· rfl)) | (apply Bc; (· exact nxE)) | (apply Bd; (· rfl); (· rfl); (· exact nxE))); (· first | exact Kz rfl rfl (hE) (Aa (Ad (Ad An)) An) | exact Kz rfl rfl (hR) (Aa (Ad (Ad An)) An) | exact Ok.lenD rfl rfl hxr | exact Kz rfl rfl (hA) (Ad (Ad (Ad An))) | exact OpOk.callS (hsTp x u1 u2) rfl rfl hQ (by intro p hp; simp only [List.mem_cons, List.not_mem_nil, or_false] at hp; rcases hp with rfl | rfl <;> rfl) hsTp_ok (.d _) (.cons (.dd _) (.cons (AR.clo' .nil (.cons (AR.ptr _ _ _ _ (by simp)) (.cons (AR.ptr _ _ _ _ (by simp)) .nil))) .nil)) | exact Ok.pe)) | ((first | apply Ca | (apply Cb; (· exact nxE))); (· first | exact Ok.e0)) | refine Sx ?_ | (refine Sy (fun h => ?_) (fun h => ?_) <;> try (exfalso; omega; done)) | refine Sz (fun h => ?_) (fun h => ?_))
  refine Ya ?_
  (apply Le.headZ (hs := []) [] rfl)
  all_goals (try dsimp only [srcs])
  (case' hfr => (repeat' (first | refine La ?_ ?_ | exact Lc | refine Lo ?_ | refine ⟨⟨_, rfl, ?_⟩, ?_⟩ | refine Lx ?_)))
  all_goals (first | exact Ld | exact trivial | (rfl))
/-! ### Written circuits -/
def nxF (xs : List Pl) (c : List Nat) (k : Nat) : Int := if k < c.length then (plA xs (c.getD k 0)).f else firstF xs c
def seF (xs : List Pl) (c : List Nat) (k : Nat) : List Int := (c.take k).map fun i => (plA xs i).f
theorem wk_next {xs : List Pl} : ∀ {c : List Nat} {u v : Int} {k : Nat}, Wk xs u c v → k < c.length → (plA xs (c.getD k 0)).t = if k + 1 < c.length then (plA xs (c.getD (k + 1) 0)).f else v
  | [], _, _, _, _, hk => by cases hk
  | i :: c, u, v, 0, h, _ => by
    obtain ⟨_, _, hw⟩ := h
    cases c with
    | nil => simp only [Wk] at hw; simpa using hw
    | cons j c => obtain ⟨_, hf, _⟩ := hw; simpa using hf.symm
  | i :: c, u, v, k + 1, h, hk => by
    have := wk_next (k := k) h.2.2 (by simpa using hk)
    simpa using this
theorem nx_next {xs : List Pl} {c : List Nat} {k : Nat} (h : Circ xs c) (hk : k < c.length) : nxF xs c k = (plA xs (c.getD k 0)).f ∧ nxF xs c (k + 1) = (plA xs (c.getD k 0)).t := by
  unfold nxF
  rw [if_pos hk, wk_next h.wk hk]
  exact ⟨rfl, rfl⟩
theorem nx_start {xs : List Pl} {c : List Nat} (h : Circ xs c) (hk : 0 < c.length) : nxF xs c 0 = (plA xs (c.getD (c.length - 1) 0)).t := by
  have e := wk_next (k := c.length - 1) h.wk (by omega)
  rw [if_neg (by omega)] at e
  rw [e]
  unfold nxF
  rw [if_pos hk]
  cases c with
  | nil => cases hk
  | cons i c => rfl
theorem se_step {xs : List Pl} {c : List Nat} {k : Nat} (hk : k < c.length) : seF xs c (k + 1) = seF xs c k ++ [(plA xs (c.getD k 0)).f] := by
  unfold seF
  rw [List.take_succ_eq_append_getElem hk, List.map_append, List.getD_eq_getElem?_getD, List.getElem?_eq_getElem hk]
  rfl
theorem se_no {xs : List Pl} {c : List Nat} {k : Nat} (h : Circ xs c) (hk : k < c.length) : ((seF xs c k).any fun x => decide (x = (plA xs (c.getD k 0)).f)) = false := by
  rw [List.any_eq_false]
  intro y hy e
  have e := of_decide_eq_true e
  subst e
  have hnd := h.nd
  have hs := se_step (xs := xs) hk
  have h2 : seF xs c (k + 1) <+: c.map fun i => (plA xs i).f := by
    unfold seF
    rw [List.map_take]
    exact List.take_prefix _ _
  have h3 := hnd.sublist h2.sublist
  rw [hs, List.nodup_append] at h3
  exact h3.2.2 _ hy _ (by simp) rfl
theorem se_len {xs : List Pl} {c : List Nat} {k : Nat} (hk : k ≤ c.length) : (seF xs c k).length = k := by
  unfold seF
  rw [List.length_map, List.length_take]
  omega
theorem getD_at {c : List Nat} {k : Nat} (hk : k < c.length) : c[k]? = some (c.getD k 0) := by
  rw [List.getD_eq_getElem?_getD, List.getElem?_eq_getElem hk]; rfl
set_option maxHeartbeats 4000000 in
theorem isCircuit_ac (n : Nat) (xs : List Pl) (c : List Nat) (hx : xs.length ≤ 1000) (hc : Circ xs c) (hcl : c.length ≤ 1000) : AC Tryz.prog 82 [grD n xs, IL (cN c)] H0 (Bo true) H0 := by
  have h0 : 0 < c.length := List.length_pos_iff.2 hc.ne
  have hlt0 := hc.wk.lt
  have hA := allWithin_ac (cN c) 0 ((xs.length : Int) - 1) (by simp; omega)
  have hal : ((cN c).all fun x => wi x 0 ((xs.length : Int) - 1)) = true := by
    rw [List.all_eq_true]
    intro y hy
    obtain ⟨i, hi, rfl⟩ := List.mem_map.1 hy
    have := hlt0 i hi
    exact wi_iff.2 (by omega)
  rw [hal] at hA
  have hlen : (IR (cN c)).length = c.length := by simp
  have hla : (IR (cN c))[((c.length : Int) - 1).toNat]? = some [DI ((c.getD (c.length - 1) 0 : Nat) : Int)] := by
    have := cN_get (getD_at (c := c) (k := c.length - 1) (by omega))
    rw [show ((c.length - 1 : Nat) : Int) = (c.length : Int) - 1 by omega] at this
    exact this
  have hmem : ∀ k, k < c.length → c.getD k 0 < xs.length := fun k hk => hlt0 _ (List.mem_of_getElem? (getD_at hk))
  have hrl := pl_row (n := 0) (hmem (c.length - 1) (by omega))
  have hst := nx_start hc h0
  rw [← hst] at hrl
  generalize plA xs (c.getD (c.length - 1) 0) = pl at *
  obtain ⟨f0, t0, d0, k0⟩ := pl
  simp only at hrl hst
  generalize c.getD (c.length - 1) 0 = la at *
  refine AC.of_body 0 Tryz.func82 rfl (fun l h => absurd rfl h) (fun C hC => ?_)
  have hD : ∀ l, ¬ C.D0 l := fun l h => (hC l).1 h rfl
  simp only [startFr, Tryz.ntmps82, List.length_cons, List.length_nil, Nat.reduceAdd, Nat.reduceSub, List.replicate_succ, List.replicate_zero, List.cons_append, List.nil_append]
  repeat' (first | ((first | apply Ba | (apply Bb; (· rfl); (· rfl)) | (apply Bc; (· exact nxE)) | (apply Bd; (· rfl); (· rfl); (· exact nxE))); (· first | exact Ok.lenD rfl rfl hlen | exact Kz rfl rfl (hA) (Ad (Ad (Ad An))) | exact Ok.pe)) | ((first | apply Ca | (apply Cb; (· exact nxE))); (· first | exact Ok.e0)) | refine Sx ?_ | (refine Sy (fun h => ?_) (fun h => ?_) <;> try (exfalso; omega; done)) | refine Sz (fun h => ?_) (fun h => ?_))
  refine AW.loop (X := {k : Nat // k ≤ c.length}) (fun k => ⟨[Oo, Oo, Bx 2 0, Oo, Oo, I (nxF xs c k.1), .own 1 ⟨1, []⟩ 0 (seF xs c (k.1 : Nat)).length, Oo, Oo, Oo, Oo, Oo, Oo, Oo, Oo, Oo, Oo, Oo, Oo, Oo, Oo, Oo, Oo, Oo, Oo, Oo, Oo, Oo, Oo, Oo, Oo, Oo, Oo, IL (cN c), I c.length, I (k.1 : Nat), Oo, Oo, Oo, Oo, Oo, Oo, Oo, Oo, Oo, Oo, Oo, Oo, Oo, Oo, Oo, Oo, Oo, Oo, Oo, Oo, Oo, Oo, Oo, Oo], heapL [(⟨0, []⟩, ⟨0, []⟩, ⟨2, [[I n, PL xs]]⟩), (⟨1, []⟩, ⟨1, []⟩, IO (seF xs c k.1))], 900⟩) (fun k => c.length - k.1) ⟨0, Nat.zero_le _⟩ ?_ (fun k => ?_)
  ·
    refine (Le.nil 6 1 rfl).trans ?_
    (apply Le.headZ [_, _] rfl)
    all_goals (try dsimp only [srcs])
    (case' hfr | hob => (repeat' (first | refine La ?_ ?_ | exact Lc | refine Lo ?_ | refine ⟨⟨_, rfl, ?_⟩, ?_⟩ | refine Lx ?_)))
    all_goals (first | (rfl) | exact Ld)
  obtain ⟨k, hk⟩ := k
  simp only
  by_cases hlt : k < c.length
  case neg =>
    repeat' (first | ((first | apply Ba | (apply Bb; (· rfl); (· rfl)) | (apply Bc; (· exact nxE)) | (apply Bd; (· rfl); (· rfl); (· exact nxE))); (· first | exact Ok.pe)) | ((first | apply Ca | (apply Cb; (· exact nxE))); (· first | exact Ok.e0)) | refine Sx ?_ | (refine Sy (fun h => ?_) (fun h => ?_) <;> try (exfalso; omega; done)) | refine Sz (fun h => ?_) (fun h => ?_))
    refine Ya ?_
    (apply Le.headZ (hs := []) [] rfl)
    all_goals (try dsimp only [srcs])
    (case' hfr => (repeat' (first | refine La ?_ ?_ | exact Lc | refine Lo ?_ | refine ⟨⟨_, rfl, ?_⟩, ?_⟩ | refine Lx ?_)))
    all_goals (first | exact Ld | exact trivial | (rfl))
  obtain ⟨e1, e2⟩ := nx_next hc hlt
  have hs := se_step (xs := xs) hlt
  have hno := se_no hc hlt
  have hse := se_len (xs := xs) hk
  have hrow := pl_row (n := 0) (hmem k hlt)
  have hcell := cN_get (getD_at hlt)
  have hC1 := containsInt_ac (seF xs c k) (plA xs (c.getD k 0)).f (by omega)
  rw [hno] at hC1
  rw [e1]
  have hser : (IR (seF xs c k)).length = k := by rw [IR_len, hse]
  clear hno hmem hal hlt0
  generalize plA xs (c.getD k 0) = p at *
  obtain ⟨pf, pt, pd, pk⟩ := p
  simp only at *
  generalize c.getD k 0 = j at *
  generalize seF xs c k = L at *
  have hN := hC1
  clear hC1
  repeat' (first | ((first | apply Ba | (apply Bb; (· rfl); (· rfl)) | (apply Bc; (· exact nxE)) | (apply Bd; (· rfl); (· rfl); (· exact nxE))); (· first | exact Ez rfl rfl (hN) (Sw (Sd Sn)) | exact Ok.append1 (row := [DI pf]) rfl rfl (by decide) rfl rfl (by simp; done) rfl rfl rfl (by rfl) (by omega) (by omega) | exact Ok.pe)) | ((first | apply Ca | (apply Cb; (· exact nxE))); (· first | exact Ok.append1 (row := [DI pf]) rfl rfl (by decide) rfl rfl (by simp; done) rfl rfl rfl (by rfl) (by omega) (by omega) | exact Ok.e0)) | refine Sx ?_ | (refine Sy (fun h => ?_) (fun h => ?_) <;> try (exfalso; omega; done)) | refine Sz (fun h => ?_) (fun h => ?_))
  refine ⟨⟨k + 1, by omega⟩, ?_, by simp only; omega⟩
  simp only
  rw [e2, hs]
  (apply Le.headZ [_, _] rfl)
  all_goals (try dsimp only [srcs])
  (case' hfr | hob => (repeat' (first | refine La ?_ ?_ | exact Lc | refine Lo ?_ | refine ⟨⟨_, rfl, ?_⟩, ?_⟩ | refine Lx ?_)))
  all_goals (first | ((first | rfl | (simp; done) | (rw [IR_app]; done))) | exact Ld)
theorem iCircuitRatio_ac (n : Nat) (xs : List Pl) (c : List Nat) (hg : isEG n xs = true) (hc : Circ xs c) (hcl : c.length ≤ 1000) (ht : 0 < sumT xs c) : AC Tryz.prog 20 [grD n xs, IL (cN c)] H0 (.tup [.agg [I (redR (sumD xs c) (sumT xs c)).1, I (redR (sumD xs c) (sumT xs c)).2], I 0]) H0 := by
  obtain ⟨m, hm, g1, g2, g3, hv⟩ := isEG_ok hg
  obtain rfl : n = m := by omega
  have hE := iIsEventGraph_ac n xs (by omega)
  rw [hg] at hE
  have hI := isCircuit_ac n xs c (by omega) hc hcl
  have hS := circuitSums_ac n n xs c (by omega) hv hc.wk.lt hcl
  have hb := sum_bnd (fun i hi => (okPl_at hv i hi).2.2) hc.wk.lt
  have hR := ratioOfZ_ac (sumD xs c) (sumT xs c) (by omega) (by omega)
  generalize redR (sumD xs c) (sumT xs c) = r at *
  generalize sumD xs c = d at *
  generalize sumT xs c = t at *
  refine AC.of_body 0 Tryz.func20 rfl (fun l h => absurd rfl h) (fun C hC => ?_)
  have hD : ∀ l, ¬ C.D0 l := fun l h => (hC l).1 h rfl
  simp only [startFr, Tryz.ntmps20, List.length_cons, List.length_nil, Nat.reduceAdd, Nat.reduceSub, List.replicate_succ, List.replicate_zero, List.cons_append, List.nil_append]
  repeat' (first | ((first | apply Ba | (apply Bb; (· rfl); (· rfl)) | (apply Bc; (· exact nxE)) | (apply Bd; (· rfl); (· rfl); (· exact nxE))); (· first | exact Kz rfl rfl (hE) (Aa (Ad (Ad An)) An) | exact Kz rfl rfl (hI) (Aa (Ad (Ad An)) (Ad An)) | exact Kz rfl rfl (hS) (Aa (Ad (Ad An)) (Ad An)) | exact Kz rfl rfl (hR) (Ad (Ad An)) | exact Ok.pe)) | ((first | apply Ca | (apply Cb; (· exact nxE))); (· first | exact Ok.e0)) | refine Sx ?_ | (refine Sy (fun h => ?_) (fun h => ?_) <;> try (exfalso; omega; done)) | refine Sz (fun h => ?_) (fun h => ?_))
  refine Yb ?_
  (apply Le.headZ (hs := []) [] rfl)
  all_goals (try dsimp only [srcs])
  (case' hfr => (repeat' (first | refine La ?_ ?_ | exact Lc | refine Lo ?_ | refine ⟨⟨_, rfl, ?_⟩, ?_⟩ | refine Lx ?_)))
  all_goals (first | exact Ld | exact trivial | (rfl))
end Go.Proofs.YtpgcmpbamlnkkaaGreat
end

section
namespace Go.Proofs.YtpgcmpbamlnkkaaGreat
set_option linter.unusedSimpArgs false
set_option linter.unusedVariables false
open Go Go.RowKit
attribute [local irreducible] AL AD AW OpOk Le AC thenQ blockQ EndQ

/-- A ratio as a cycle time is one. -/
structure RatOk (r : Int × Int) : Prop where
  n : 0 ≤ r.1 ∧ r.1 ≤ 1000000
  d : 1 ≤ r.2 ∧ r.2 ≤ 1000000
  g : Nat.gcd r.1.toNat r.2.toNat = 1
theorem ctR_rat {ev : Int} {xs : List Pl} (h : bcC ev xs = 0) : RatOk (ctR ev xs) := by
  obtain ⟨n, rfl, h1, h2, h3, h4, h5, h6, h8, h9, h10, h11⟩ := bc_star h
  rw [h8]
  have hg := (h5.isMax h2 h6).red
  refine ⟨by omega, by omega, ?_⟩
  obtain ⟨u, hu⟩ : ∃ u : Nat, (maxR xs).1 = u := ⟨(maxR xs).1.toNat, by omega⟩
  obtain ⟨v, hv⟩ : ∃ v : Nat, (maxR xs).2 = v := ⟨(maxR xs).2.toNat, by omega⟩
  rw [hu, hv] at hg ⊢
  simpa [Int.gcd] using hg
set_option maxHeartbeats 1000000 in
theorem iCycleTime_ac (ev : Int) (xs : List Pl) (hx : xs.length ≤ 100000000) : AC Tryz.prog 14 [grD ev xs] H0 (.tup [.agg [I (ctR ev xs).1, I (ctR ev xs).2], I (bcC ev xs)]) H0 := by
  have hE := iIsEventGraph_ac ev xs hx
  cases hg : isEG ev xs
  · rw [(bc_no hg).1, (bc_no hg).2]
    rw [hg] at hE
    refine AC.of_body 0 Tryz.func14 rfl (fun l h => absurd rfl h) (fun C hC => ?_)
    have hD : ∀ l, ¬ C.D0 l := fun l h => (hC l).1 h rfl
    simp only [startFr, Tryz.ntmps14, List.length_cons, List.length_nil, Nat.reduceAdd, Nat.reduceSub, List.replicate_succ, List.replicate_zero, List.cons_append, List.nil_append]
    repeat' (first | ((first | apply Ba | (apply Bb; (· rfl); (· rfl)) | (apply Bc; (· exact nxE)) | (apply Bd; (· rfl); (· rfl); (· exact nxE))); (· first | exact Kz rfl rfl (hE) (Aa (Ad (Ad An)) An) | exact Ok.pe)) | ((first | apply Ca | (apply Cb; (· exact nxE))); (· first | exact Ok.e0)) | refine Sx ?_ | (refine Sy (fun h => ?_) (fun h => ?_) <;> try (exfalso; omega; done)) | refine Sz (fun h => ?_) (fun h => ?_))
    refine Yb ?_
    (apply Le.headZ (hs := []) [] rfl)
    all_goals (try dsimp only [srcs])
    (case' hfr => (repeat' (first | refine La ?_ ?_ | exact Lc | refine Lo ?_ | refine ⟨⟨_, rfl, ?_⟩, ?_⟩ | refine Lx ?_)))
    all_goals (first | exact Ld | exact trivial | (rfl))
  · rw [hg] at hE
    obtain ⟨n, rfl, _⟩ := isEG_ok hg
    have hT := cycleTime_ac n xs hg
    refine AC.of_body 0 Tryz.func14 rfl (fun l h => absurd rfl h) (fun C hC => ?_)
    have hD : ∀ l, ¬ C.D0 l := fun l h => (hC l).1 h rfl
    simp only [startFr, Tryz.ntmps14, List.length_cons, List.length_nil, Nat.reduceAdd, Nat.reduceSub, List.replicate_succ, List.replicate_zero, List.cons_append, List.nil_append]
    repeat' (first | ((first | apply Ba | (apply Bb; (· rfl); (· rfl)) | (apply Bc; (· exact nxE)) | (apply Bd; (· rfl); (· rfl); (· exact nxE))); (· first | exact Kz rfl rfl (hE) (Aa (Ad (Ad An)) An) | exact Kz rfl rfl (hT) (Aa (Ad (Ad An)) An) | exact Ok.pe)) | ((first | apply Ca | (apply Cb; (· exact nxE))); (· first | exact Ok.e0)) | refine Sx ?_ | (refine Sy (fun h => ?_) (fun h => ?_) <;> try (exfalso; omega; done)) | refine Sz (fun h => ?_) (fun h => ?_))
    refine Yb ?_
    (apply Le.headZ (hs := []) [] rfl)
    all_goals (try dsimp only [srcs])
    (case' hfr => (repeat' (first | refine La ?_ ?_ | exact Lc | refine Lo ?_ | refine ⟨⟨_, rfl, ?_⟩, ?_⟩ | refine Lx ?_)))
    all_goals (first | exact Ld | exact trivial | (rfl))
end Go.Proofs.YtpgcmpbamlnkkaaGreat
end

section
namespace Go.Proofs.YtpgcmpbamlnkkaaGreat
set_option linter.unusedSimpArgs false
set_option linter.unusedVariables false
open Go Go.RowKit
attribute [local irreducible] AL AD AW OpOk Le AC thenQ blockQ EndQ

theorem fitR_rtG {a b : Int × Int} (ha : isRtG a = true) (hb : isRtG b = true) : fitR a b := by
  obtain ⟨a1, a2, _⟩ := isRtG_pos ha
  obtain ⟨b1, b2, _⟩ := isRtG_pos hb
  have h1 := mulB (q := b.2) (w := a.1) (Q := 1000000) (M := 1000000000000) (by omega) b2.2 (by omega) (by omega) (by decide)
  have h2 := mulB (q := a.2) (w := b.1) (Q := 1000000) (M := 1000000000000) (by omega) a2.2 (by omega) (by omega) (by decide)
  rw [Int.mul_comm b.2] at h1
  rw [Int.mul_comm a.2] at h2
  unfold fitR
  generalize a.1 * b.2 = x at *
  generalize b.1 * a.2 = y at *
  omega
theorem iCompareRatiosG_ac (a b : Int × Int) (ha : isRtG a = true) (hb : isRtG b = true) : AC Tryz.prog 19 [.agg [I a.1, I a.2], .agg [I b.1, I b.2]] H0 (.tup [I (crI a b), I 0]) H0 := by
  obtain ⟨p1, p2, _⟩ := isRtG_pos ha
  obtain ⟨q1, q2, _⟩ := isRtG_pos hb
  have h1 := iIsRatioG_ac a (by omega)
  have h2 := iIsRatioG_ac b (by omega)
  have h3 := compareRatiosZ_ac a b (fitR_rtG ha hb)
  rw [ha] at h1
  rw [hb] at h2
  obtain ⟨a1, a2⟩ := a
  obtain ⟨b1, b2⟩ := b
  generalize crI (a1, a2) (b1, b2) = c at *
  simp only at h1 h2 h3 ⊢
  refine AC.of_body 0 Tryz.func19 rfl (fun l h => absurd rfl h) (fun C hC => ?_)
  have hD : ∀ l, ¬ C.D0 l := fun l h => (hC l).1 h rfl
  simp only [startFr, Tryz.ntmps19, List.length_cons, List.length_nil, Nat.reduceAdd, Nat.reduceSub, List.replicate_succ, List.replicate_zero, List.cons_append, List.nil_append]
  repeat' (first | ((first | apply Ba | (apply Bb; (· rfl); (· rfl)) | (apply Bc; (· exact nxE)) | (apply Bd; (· rfl); (· rfl); (· exact nxE))); (· first | exact Kz rfl rfl (h1) (Aa (Ad (Ad An)) An) | exact Kz rfl rfl (h2) (Aa (Ad (Ad An)) An) | exact Kz rfl rfl (h3) (Aa (Ad (Ad An)) (Aa (Ad (Ad An)) An)) | exact Ok.pe)) | ((first | apply Ca | (apply Cb; (· exact nxE))); (· first | exact Ok.e0)) | refine Sx ?_ | (refine Sy (fun h => ?_) (fun h => ?_) <;> try (exfalso; omega; done)) | refine Sz (fun h => ?_) (fun h => ?_))
  refine Yb ?_
  (apply Le.headZ (hs := []) [] rfl)
  all_goals (try dsimp only [srcs])
  (case' hfr => (repeat' (first | refine La ?_ ?_ | exact Lc | refine Lo ?_ | refine ⟨⟨_, rfl, ?_⟩, ?_⟩ | refine Lx ?_)))
  all_goals (first | exact Ld | exact trivial | (rfl))
theorem isRtG_rat {r : Int × Int} (h : RatOk r) : isRtG r = true := by
  have h1 := h.n
  have h2 := h.d
  have h3 := h.g
  unfold isRtG
  rw [wi_iff.2 (by omega), wi_iff.2 (by omega), show r.1.natAbs = r.1.toNat by omega, h3]
  rfl
/-! ### The least potential -/
theorem apA_atT {f : Nat → Nat → Int} {v : Nat → Int} {i : Nat} : ∀ {k : Nat}, apA f v i k = BOT ∨ ∃ j, j < k ∧ apA f v i k = timesB (f i j) (v j)
  | 0 => .inl rfl
  | k + 1 => by
    simp only [apA]
    rcases apA_atT (f := f) (v := v) (i := i) (k := k) with e | ⟨j, hj, e⟩
    · by_cases h : timesB (f i k) (v k) ≤ apA f v i k
      · left; omega
      · right; exact ⟨k, by omega, by omega⟩
    · by_cases h : timesB (f i k) (v k) ≤ apA f v i k
      · right; exact ⟨j, by omega, by omega⟩
      · right; exact ⟨k, by omega, by omega⟩
theorem ptL_pot {n : Nat} {xs : List Pl} {r : Int × Int} (hst : StarM (wmT n xs r) n) (i j : Nat) (hi : i < n) (hj : j < n) (hW : entN (wmT n xs r) i j ≠ BOT) : entN (wmT n xs r) i j + (ptL n xs r).getD j 0 ≤ (ptL n xs r).getD i 0 := by
  have hs := hst.ok
  have hx : ∀ k, k < n → (ptL n xs r).getD k 0 = apA (entN (tabF n n (starF (entN (wmT n xs r)) n))) (fun _ => 0) k n := fun k hk => by
    unfold ptL
    rw [List.getD_eq_getElem?_getD, rowF_get hk]; rfl
  have hne : (ptL n xs r).getD j 0 ≠ BOT := by
    refine ptL_ne hst _ ?_
    have hl : (ptL n xs r).length = n := rowF_len
    rw [List.getD_eq_getElem?_getD, List.getElem?_eq_getElem (by omega)]
    exact List.getElem_mem _
  generalize wmT n xs r = T at *
  rw [hx j hj] at hne
  rw [hx i hi, hx j hj]
  rcases apA_atT (f := entN (tabF n n (starF (entN T) n))) (v := fun _ => 0) (i := j) (k := n) with e | ⟨m, hm, e⟩
  · exact absurd e hne
  · rw [e] at hne ⊢
    rw [tabF_ent hj hm, timesB_0] at hne ⊢
    have hge := apA_ge (f := entN (tabF n n (starF (entN T) n))) (v := fun _ => 0) (i := i) (j := m) (k := n) hm
    rw [tabF_ent hi hm, timesB_0] at hge
    have hsup : starF (entN T) n i m ≠ BOT ∧ entN T i j + starF (entN T) n j m ≤ starF (entN T) n i m := by
      rcases hs.some m j hm hj with e1 | ⟨e1, e2⟩ | ⟨c, c1, c2, c3⟩
      · exact absurd e1 hne
      · subst e1
        have := hs.all m i [] hm hi (by simp) hW
        simp only [wM] at this
        exact ⟨this.1, by omega⟩
      · have := hs.all m i (c ++ [j]) hm hi (fun x hx => by
          rcases List.mem_append.1 hx with hx | hx
          · exact c2 x hx
          · simp at hx; subst hx; exact hj) (WM.app.2 ⟨c1, hW⟩)
        rw [wM_app] at this
        simp only [wM] at this
        exact ⟨this.1, by omega⟩
    omega
theorem tp_facts {ev : Int} {xs : List Pl} {r : Int × Int} (h : tpC ev xs r ≠ 1) : ∃ n : Nat, ev = n ∧ 1 ≤ n ∧ n ≤ 10 ∧ xs.length ≤ 30 ∧ (∀ p ∈ xs, okPl n p) ∧ isEG n xs = true ∧ isRtG r = true ∧ (tpC n xs r = 5 ↔ ¬ NoPos (entN (wmT n xs r)) n) ∧ (tpC n xs r = 0 → (ptL n xs r).all isVal = true) := by
  by_cases h0 : isEG ev xs = true ∧ isRtG r = true
  case neg => exact absurd (tp_inv h0).1 h
  obtain ⟨hg, hq⟩ := h0
  obtain ⟨n, rfl, h1, h2, h3, hv⟩ := isEG_ok hg
  refine ⟨n, rfl, h1, h2, h3, hv, hg, hq, ?_, ?_⟩
  · by_cases hnp : NoPos (entN (wmT n xs r)) n
    · cases hb : (ptL n xs r).all isVal
      · rw [(tp_lim hg hq hnp hb).1]; simp [hnp]
      · rw [(tp_yes hg hq hnp hb).1]; simp [hnp]
    · rw [(tp_pos hg hq hnp).1]; simp [hnp]
  · intro h0
    by_cases hnp : NoPos (entN (wmT n xs r)) n
    · cases hb : (ptL n xs r).all isVal
      · rw [(tp_lim hg hq hnp hb).1] at h0; cases h0
      · rfl
    · rw [(tp_pos hg hq hnp).1] at h0; cases h0
theorem tp_law {ev : Int} {xs : List Pl} {r : Int × Int} (h0 : tpC ev xs r = 0) : tbB ev xs r (tpX ev xs r) = true := by
  obtain ⟨n, rfl, h1, h2, h3, hv, hg, hq, h5, h6⟩ := tp_facts (show tpC ev xs r ≠ 1 by omega)
  have hb := h6 h0
  have hnp : NoPos (entN (wmT n xs r)) n := Classical.byContradiction fun hn => by have := h5.2 hn; omega
  obtain ⟨b1, b2, _⟩ := isRtG_pos hq
  have hB := starB_wm (r := r) h2 (by omega) hv (by omega) (by omega)
  have hW := wm_okG (r := r) hv (by omega) (by omega)
  have hst := hB.m hnp
  rw [(tp_yes hg hq hnp hb).2]
  unfold tbB tbH
  rw [hg, hq, Int.toNat_natCast, decide_eq_true (show (ptL n xs r).length = n from rowF_len)]
  simp only [Bool.true_and]
  have hfin := isVal_fin (ptL_ne hst) hb
  rw [show finL (ptL n xs r) = true from List.all_eq_true.2 fun a ha => wi_iff.2 (hfin a ha), Bool.true_and, List.all_eq_true]
  intro p hp
  obtain ⟨⟨f1, f2⟩, ⟨t1, t2⟩, _⟩ := hv p hp
  obtain ⟨a1, a2⟩ := hW.all p hp
  have := ptL_pot hst p.t.toNat p.f.toNat (by omega) (by omega) a1
  unfold tbP
  rw [decide_eq_false (by omega)]
  rfl
theorem crI_pos {a b : Int × Int} : 0 < crI a b ↔ b.1 * a.2 < a.1 * b.2 := by
  unfold crI cmpI
  constructor
  · intro h
    split at h
    · omega
    · split at h
      · assumption
      · omega
  · intro h
    rw [if_neg (by omega), if_pos h]
    decide
theorem ct_law {ev : Int} {xs : List Pl} {r : Int × Int} (h1 : tpC ev xs r ≠ 1) (h2 : bcC ev xs = 0) : tpC ev xs r = 5 ↔ 0 < crI (ctR ev xs) r := by
  obtain ⟨n, rfl, g1, g2, g3, hv, hg, hq, h5, _⟩ := tp_facts h1
  obtain ⟨m, hm, _, _, _, _, k5, k6, k8, k9, k10, _⟩ := bc_star h2
  obtain rfl : n = m := by omega
  obtain ⟨b1, b2, _⟩ := isRtG_pos hq
  have hW := wm_okG (r := r) hv (by omega) (by omega)
  have hmx := k5.isMax g2 k6
  rw [h5, k8, crI_pos, wm_pos_iff hW hv, hmx.below (fun c hc => (k5.circ hc).2.2.1) (by omega)]
  omega
/-- The best circuit, as it is told. -/
theorem bc_circ {ev : Int} {xs : List Pl} (h : bcC ev xs = 0) : ∃ n : Nat, ev = n ∧ isEG n xs = true ∧ Circ xs (bcL ev xs) ∧ (bcL ev xs).length ≤ 1000 ∧ 0 < sumT xs (bcL ev xs) ∧ redR (sumD xs (bcL ev xs)) (sumT xs (bcL ev xs)) = ctR ev xs := by
  obtain ⟨n, rfl, h1, h2, h3, h4, h5, h6, h8, h9, h10, h11⟩ := bc_star h
  obtain ⟨c, e1, e2, e3⟩ := h5.best h2 h6
  have e : bcL n xs = c := by unfold bcL; rw [if_pos h, Int.toNat_natCast, e1]
  obtain ⟨g1, _, g3⟩ := h5.circ e2
  rw [e, h8]
  refine ⟨n, rfl, ?_, e2, by omega, g3.1, e3⟩
  cases hg : isEG n xs
  · have := (bc_no hg).1; omega
  · rfl
end Go.Proofs.YtpgcmpbamlnkkaaGreat
end

section
namespace Go.Proofs.YtpgcmpbamlnkkaaGreat
set_option linter.unusedSimpArgs false
set_option linter.unusedVariables false
open Go Go.RowKit
attribute [local irreducible] AL AD AW OpOk Le AC thenQ blockQ EndQ

section
variable {P : Program} {o : Oper} {A : Operand → AV} {H : Heap} {new : Nat}
end
def dr15 (code : List Int) (s : Src) : DrG :=
  if 20 < (dr11 code s).xs.length ∧ 2 < (dr11 code s).ev then ⟨(dr11 code s).ev, (dr11 code s).xs.take 20, (dr11 code s).s⟩ else dr11 code s
theorem dr15_ok {code : List Int} (hc : CodeOk code) {s : Src} (hs : SrcOk code s) : DrOk code (dr15 code s) := by
  have h := dr11_ok hc hs
  unfold dr15
  split
  · exact ⟨h.ev, fun p hp => h.xs p (List.mem_of_mem_take hp), by have := h.len; simp only [List.length_take]; omega, h.s⟩
  · exact h
set_option maxHeartbeats 1000000 in
theorem l15Draw_ac (code : List Int) (hc : CodeOk code) (s : Src) (hs : SrcOk code s) : AC Tryz.prog 85 [Bx 3 0] (srcH code s) (.agg [I (dr15 code s).ev, .own 4 ⟨1, []⟩ 0 (dr15 code s).xs.length]) (heapL [(⟨0, []⟩, ⟨0, []⟩, srcO code (dr15 code s).s), (⟨1, []⟩, ⟨1, []⟩, PO (dr15 code s).xs)]) := by
  have hG := l11Draw_ac code hc s hs
  have hok := dr11_ok hc hs
  unfold dr15
  generalize dr11 code s = g at *
  obtain ⟨ev, xs, s1⟩ := g
  obtain ⟨_, _, hl, _⟩ := hok
  simp only at *
  show AC _ _ _ (heapL [(⟨0, []⟩, ⟨0, []⟩, srcO code s)]) _ _
  by_cases hb : 20 < xs.length ∧ 2 < ev
  · have hb1 := hb.1
    have hb2 := hb.2
    simp only [if_pos hb]
    rw [List.length_take, show min 20 xs.length = 20 by omega]
    refine AC.of_body 1 Tryz.func85 rfl (fun l h => by simp [heapL, upd] at h; simp [h]) (fun C hC => ?_)
    simp only [startFr, Tryz.ntmps85, List.length_cons, List.length_nil, Nat.reduceAdd, Nat.reduceSub, List.replicate_succ, List.replicate_zero, List.cons_append, List.nil_append]
    have hD : ∀ l, C.D0 l → l = ⟨0, []⟩ := fun l h => by have := (hC l).1 h; simp [heapL, upd] at this; exact this
    repeat' (first | ((first | apply Ba | (apply Bb; (· rfl); (· rfl)) | (apply Bc; (· exact nxE)) | (apply Bd; (· rfl); (· rfl); (· exact nxE))); (· first | exact Ok.sliceToO (m := 20) rfl rfl rfl (by decide) rfl (by omega) | exact Gx hG rfl rfl rfl rfl | exact Ok.pe)) | ((first | apply Ca | (apply Cb; (· exact nxE))); (· first | exact Gx hG rfl rfl rfl rfl | exact Ok.e0)) | refine Sx ?_ | (refine Sy (fun h => ?_) (fun h => ?_) <;> try (exfalso; omega; done)) | refine Sz (fun h => ?_) (fun h => ?_))
    refine Ya ?_
    refine (Le.takeL ⟨3, [1]⟩ 20 rfl).trans ?_
    (apply Le.head [(⟨0, []⟩, ⟨0, []⟩, srcO code s1), (⟨1, []⟩, ⟨3, [1]⟩, PO (xs.take 20))])
    (case' hfr | hob => (repeat' (first | refine La ?_ ?_ | exact Lc | refine Lo ?_ | refine ⟨⟨_, rfl, ?_⟩, ?_⟩ | refine Lx ?_)))
    all_goals (first | exact Ld | ((simp [dobj, List.map_take]; done)))
  · simp only [if_neg hb]
    refine AC.of_body 1 Tryz.func85 rfl (fun l h => by simp [heapL, upd] at h; simp [h]) (fun C hC => ?_)
    simp only [startFr, Tryz.ntmps85, List.length_cons, List.length_nil, Nat.reduceAdd, Nat.reduceSub, List.replicate_succ, List.replicate_zero, List.cons_append, List.nil_append]
    have hD : ∀ l, C.D0 l → l = ⟨0, []⟩ := fun l h => by have := (hC l).1 h; simp [heapL, upd] at this; exact this
    repeat' (first | ((first | apply Ba | (apply Bb; (· rfl); (· rfl)) | (apply Bc; (· exact nxE)) | (apply Bd; (· rfl); (· rfl); (· exact nxE))); (· first | exact Gx hG rfl rfl rfl rfl | exact Ok.pe)) | ((first | apply Ca | (apply Cb; (· exact nxE))); (· first | exact Gx hG rfl rfl rfl rfl | exact Ok.e0)) | refine Sx ?_ | (refine Sy (fun h => ?_) (fun h => ?_) <;> try (exfalso; omega; done)) | refine Sz (fun h => ?_) (fun h => ?_))
    all_goals
      refine Ya ?_
      (apply Le.head [(⟨0, []⟩, ⟨0, []⟩, srcO code s1), (⟨1, []⟩, ⟨3, [1]⟩, PO xs)])
      (case' hfr | hob => (repeat' (first | refine La ?_ ?_ | exact Lc | refine Lo ?_ | refine ⟨⟨_, rfl, ?_⟩, ?_⟩ | refine Lx ?_)))
      all_goals (first | exact Ld | (rfl))
theorem l15DrawZ_ac (code : List Int) (hc : CodeOk code) (s : Src) (hs : SrcOk code s) : AC Tryz.prog 85 [Bx 3 0] (srcH code s) (grD (dr15 code s).ev (dr15 code s).xs) (srcH code (dr15 code s).s) :=
  (l15Draw_ac code hc s hs).frzS rfl (ARs.agg (.cons (.dd _) (.cons (AR.whole rfl (by simp) (List.length_map _)) .nil)))
end Go.Proofs.YtpgcmpbamlnkkaaGreat
end

section
namespace Go.Proofs.YtpgcmpbamlnkkaaGreat
set_option linter.unusedSimpArgs false
set_option linter.unusedVariables false
open Go Go.RowKit
attribute [local irreducible] AL AD AW OpOk Le AC thenQ blockQ EndQ

theorem ct_den {ev : Int} {xs : List Pl} (h : bcC ev xs = 0) : (0 ≤ (ctR ev xs).1 ∧ (ctR ev xs).1 ≤ 100000) ∧ (1 ≤ (ctR ev xs).2 ∧ (ctR ev xs).2 ≤ 50) := by
  obtain ⟨n, _, _, _, _, _, _, _, h8, h9, h10, _⟩ := bc_star h
  rw [h8]
  omega
theorem DrR.t {r : Int × Int} (h : DrR r) : DrT r := ⟨h.n, h.d⟩
set_option maxHeartbeats 4000000 in
theorem l15DrawRatio_ex (code : List Int) (hc : CodeOk code) (s : Src) (hs : SrcOk code s) : ∃ (ev : Int) (xs : List Pl) (r : Int × Int) (s' : Src), (0 ≤ ev ∧ ev ≤ 11) ∧ xs.length ≤ 40 ∧ DrT r ∧ SrcOk code s' ∧ AC Tryz.prog 56 [Bx 3 0] (srcH code s) (.tup [grD ev xs, .agg [I r.1, I r.2]]) (srcH code s') := by
  have D1 := l15DrawZ_ac code hc s hs
  have hok := dr15_ok hc hs
  generalize dr15 code s = g at *
  obtain ⟨ev, xs, s1⟩ := g
  obtain ⟨hev, _, hl, h1⟩ := hok
  simp only at hev hl h1 D1
  have hCy := sCycleTime_ac ev xs (by omega)
  have hden := ct_den (ev := ev) (xs := xs)
  generalize bcC ev xs = c at *
  generalize ctR ev xs = m at *
  obtain ⟨p, q⟩ := m
  simp only at hden hCy
  by_cases hc0 : c = 0
  case neg =>
    obtain ⟨r, s2, hr, h2, D2⟩ := l01DrawRatio_ex code hc s1 h1
    obtain ⟨x, y⟩ := r
    refine ⟨ev, xs, (x, y), s2, hev, hl, hr.t, h2, ?_⟩
    simp only at D2 ⊢
    show AC _ _ _ (heapL [(⟨0, []⟩, ⟨0, []⟩, srcO code s)]) _ _
    refine AC.of_body 1 Tryz.func56 rfl (fun l h => by simp [heapL, upd] at h; simp [h]) (fun C hC => ?_)
    simp only [startFr, Tryz.ntmps56, List.length_cons, List.length_nil, Nat.reduceAdd, Nat.reduceSub, List.replicate_succ, List.replicate_zero, List.cons_append, List.nil_append]
    have hD : ∀ l, C.D0 l → l = ⟨0, []⟩ := fun l h => by have := (hC l).1 h; simp [heapL, upd] at this; exact this
    repeat' (first | ((first | apply Ba | (apply Bb; (· rfl); (· rfl)) | (apply Bc; (· exact nxE)) | (apply Bd; (· rfl); (· rfl); (· exact nxE))); (· first | exact Kz rfl rfl (hCy) (Aa (Ad (Ad An)) An) | exact Zx (args := []) D1 rfl rfl rfl rfl .nil (fun _ => by simp [rn]) | exact Zx (args := []) D2 rfl rfl rfl rfl .nil (fun _ => by simp [rn]) | exact Ok.pe)) | ((first | apply Ca | (apply Cb; (· exact nxE))); (· first | exact Zx (args := []) D1 rfl rfl rfl rfl .nil (fun _ => by simp [rn]) | exact Zx (args := []) D2 rfl rfl rfl rfl .nil (fun _ => by simp [rn]) | exact Ok.e0)) | refine Sx ?_ | (refine Sy (fun h => ?_) (fun h => ?_) <;> try (exfalso; omega; done)) | refine Sz (fun h => ?_) (fun h => ?_))
    all_goals
      refine Yb ?_
      (apply Le.headZ (hs := [(⟨0, []⟩, ⟨0, []⟩, _)]) [⟨0, []⟩] rfl)
      all_goals (try dsimp only [srcs])
      (case' hfr | hob => (repeat' (first | refine La ?_ ?_ | exact Lc | refine Lo ?_ | refine ⟨⟨_, rfl, ?_⟩, ?_⟩ | refine Lx ?_)))
      all_goals (first | exact Ld | exact trivial | (rfl))
  have hden := hden hc0
  obtain ⟨a, s2, a1, a2, h2, q2, N2⟩ := next_ex hc h1 4
  by_cases ha : a = 0
  · obtain ⟨r, s3, hr, h3, D3⟩ := l01DrawRatio_ex code hc s2 h2
    obtain ⟨x, y⟩ := r
    refine ⟨ev, xs, (x, y), s3, hev, hl, hr.t, h3, ?_⟩
    simp only at D3 ⊢
    show AC _ _ _ (heapL [(⟨0, []⟩, ⟨0, []⟩, srcO code s)]) _ _
    refine AC.of_body 1 Tryz.func56 rfl (fun l h => by simp [heapL, upd] at h; simp [h]) (fun C hC => ?_)
    simp only [startFr, Tryz.ntmps56, List.length_cons, List.length_nil, Nat.reduceAdd, Nat.reduceSub, List.replicate_succ, List.replicate_zero, List.cons_append, List.nil_append]
    have hD : ∀ l, C.D0 l → l = ⟨0, []⟩ := fun l h => by have := (hC l).1 h; simp [heapL, upd] at this; exact this
    repeat' (first | ((first | apply Ba | (apply Bb; (· rfl); (· rfl)) | (apply Bc; (· exact nxE)) | (apply Bd; (· rfl); (· rfl); (· exact nxE))); (· first | exact Kz rfl rfl (hCy) (Aa (Ad (Ad An)) An) | exact Zx (args := []) D1 rfl rfl rfl rfl .nil (fun _ => by simp [rn]) | exact Zx (args := []) D3 rfl rfl rfl rfl .nil (fun _ => by simp [rn]) | exact Nx N2 rfl rfl rfl rfl rfl | exact Ok.pe)) | ((first | apply Ca | (apply Cb; (· exact nxE))); (· first | exact Zx (args := []) D1 rfl rfl rfl rfl .nil (fun _ => by simp [rn]) | exact Zx (args := []) D3 rfl rfl rfl rfl .nil (fun _ => by simp [rn]) | exact Nx N2 rfl rfl rfl rfl rfl | exact Ok.e0)) | refine Sx ?_ | (refine Sy (fun h => ?_) (fun h => ?_) <;> try (exfalso; omega; done)) | refine Sz (fun h => ?_) (fun h => ?_))
    all_goals
      refine Yb ?_
      (apply Le.headZ (hs := [(⟨0, []⟩, ⟨0, []⟩, _)]) [⟨0, []⟩] rfl)
      all_goals (try dsimp only [srcs])
      (case' hfr | hob => (repeat' (first | refine La ?_ ?_ | exact Lc | refine Lo ?_ | refine ⟨⟨_, rfl, ?_⟩, ?_⟩ | refine Lx ?_)))
      all_goals (first | exact Ld | exact trivial | (rfl))
  obtain ⟨b, s3, b1, b2, h3, q3, N3⟩ := next_ex hc h2 2
  by_cases hb : b = 0
  · refine ⟨ev, xs, (p, q), s3, hev, hl, ⟨by simp only; omega, by simp only; omega⟩, h3, ?_⟩
    show AC _ _ _ (heapL [(⟨0, []⟩, ⟨0, []⟩, srcO code s)]) _ _
    refine AC.of_body 1 Tryz.func56 rfl (fun l h => by simp [heapL, upd] at h; simp [h]) (fun C hC => ?_)
    simp only [startFr, Tryz.ntmps56, List.length_cons, List.length_nil, Nat.reduceAdd, Nat.reduceSub, List.replicate_succ, List.replicate_zero, List.cons_append, List.nil_append]
    have hD : ∀ l, C.D0 l → l = ⟨0, []⟩ := fun l h => by have := (hC l).1 h; simp [heapL, upd] at this; exact this
    repeat' (first | ((first | apply Ba | (apply Bb; (· rfl); (· rfl)) | (apply Bc; (· exact nxE)) | (apply Bd; (· rfl); (· rfl); (· exact nxE))); (· first | exact Kz rfl rfl (hCy) (Aa (Ad (Ad An)) An) | exact Zx (args := []) D1 rfl rfl rfl rfl .nil (fun _ => by simp [rn]) | exact Nx N2 rfl rfl rfl rfl rfl | exact Nx N3 rfl rfl rfl rfl rfl | exact Ok.pe)) | ((first | apply Ca | (apply Cb; (· exact nxE))); (· first | exact Zx (args := []) D1 rfl rfl rfl rfl .nil (fun _ => by simp [rn]) | exact Nx N2 rfl rfl rfl rfl rfl | exact Nx N3 rfl rfl rfl rfl rfl | exact Ok.e0)) | refine Sx ?_ | (refine Sy (fun h => ?_) (fun h => ?_) <;> try (exfalso; omega; done)) | refine Sz (fun h => ?_) (fun h => ?_))
    all_goals
      refine Yb ?_
      (apply Le.headZ (hs := [(⟨0, []⟩, ⟨0, []⟩, _)]) [⟨0, []⟩] rfl)
      all_goals (try dsimp only [srcs])
      (case' hfr | hob => (repeat' (first | refine La ?_ ?_ | exact Lc | refine Lo ?_ | refine ⟨⟨_, rfl, ?_⟩, ?_⟩ | refine Lx ?_)))
      all_goals (first | exact Ld | exact trivial | (rfl))
  obtain ⟨x, s4, x1, x2, h4, q4, N4⟩ := next_ex hc h3 5
  obtain ⟨y, s5, y1, y2, h5, q5, N5⟩ := next_ex hc h4 2
  have hR := l01RatioZ_ac (p + x - 1) (q + y) (by omega) (by omega)
  have hrb := redR_bnd (d := p + x - 1) (m := q + y) (B := 2000000) (by omega) (by omega)
  generalize redR (p + x - 1) (q + y) = r at *
  obtain ⟨u, v⟩ := r
  simp only at hrb hR
  refine ⟨ev, xs, (u, v), s5, hev, hl, ⟨by simp only; omega, by simp only; omega⟩, h5, ?_⟩
  show AC _ _ _ (heapL [(⟨0, []⟩, ⟨0, []⟩, srcO code s)]) _ _
  refine AC.of_body 1 Tryz.func56 rfl (fun l h => by simp [heapL, upd] at h; simp [h]) (fun C hC => ?_)
  simp only [startFr, Tryz.ntmps56, List.length_cons, List.length_nil, Nat.reduceAdd, Nat.reduceSub, List.replicate_succ, List.replicate_zero, List.cons_append, List.nil_append]
  have hD : ∀ l, C.D0 l → l = ⟨0, []⟩ := fun l h => by have := (hC l).1 h; simp [heapL, upd] at this; exact this
  repeat' (first | ((first | apply Ba | (apply Bb; (· rfl); (· rfl)) | (apply Bc; (· exact nxE)) | (apply Bd; (· rfl); (· rfl); (· exact nxE))); (· first | exact Kz rfl rfl (hCy) (Aa (Ad (Ad An)) An) | exact Kz rfl rfl (hR) (Ad (Ad An)) | exact Zx (args := []) D1 rfl rfl rfl rfl .nil (fun _ => by simp [rn]) | exact Nx N2 rfl rfl rfl rfl rfl | exact Nx N3 rfl rfl rfl rfl rfl | exact Nx N4 rfl rfl rfl rfl rfl | exact Nx N5 rfl rfl rfl rfl rfl | exact Ok.pe)) | ((first | apply Ca | (apply Cb; (· exact nxE))); (· first | exact Zx (args := []) D1 rfl rfl rfl rfl .nil (fun _ => by simp [rn]) | exact Nx N2 rfl rfl rfl rfl rfl | exact Nx N3 rfl rfl rfl rfl rfl | exact Nx N4 rfl rfl rfl rfl rfl | exact Nx N5 rfl rfl rfl rfl rfl | exact Ok.e0)) | refine Sx ?_ | (refine Sy (fun h => ?_) (fun h => ?_) <;> try (exfalso; omega; done)) | refine Sz (fun h => ?_) (fun h => ?_))
  all_goals
    refine Yb ?_
    (apply Le.headZ (hs := [(⟨0, []⟩, ⟨0, []⟩, _)]) [⟨0, []⟩] rfl)
    all_goals (try dsimp only [srcs])
    (case' hfr | hob => (repeat' (first | refine La ?_ ?_ | exact Lc | refine Lo ?_ | refine ⟨⟨_, rfl, ?_⟩, ?_⟩ | refine Lx ?_)))
    all_goals (first | exact Ld | exact trivial | (rfl))
theorem drawTimePotential_ex (code : List Int) (hc : CodeOk code) : ∃ (ev : Int) (xs : List Pl) (r : Int × Int), (0 ≤ ev ∧ ev ≤ 11) ∧ xs.length ≤ 40 ∧ DrT r ∧ AC Tryz.prog 8 [.d (BD code)] H0 (.tup [grD ev xs, .agg [I r.1, I r.2]]) H0 := by
  have hF := l01From_ac code hc
  obtain ⟨ev, xs, r, s1, hev, hl, hr, h1, D1⟩ := l15DrawRatio_ex code hc _ (src0_ok hc)
  refine ⟨ev, xs, r, hev, hl, hr, ?_⟩
  refine AC.of_body 0 Tryz.func8 rfl (fun l h => absurd rfl h) (fun C hC => ?_)
  have hD : ∀ l, ¬ C.D0 l := fun l h => (hC l).1 h rfl
  simp only [startFr, Tryz.ntmps8, List.length_cons, List.length_nil, Nat.reduceAdd, Nat.reduceSub, List.replicate_succ, List.replicate_zero, List.cons_append, List.nil_append]
  repeat' (first | ((first | apply Ba | (apply Bb; (· rfl); (· rfl)) | (apply Bc; (· exact nxE)) | (apply Bd; (· rfl); (· rfl); (· exact nxE))); (· first | exact Fx hF rfl rfl rfl | exact Zl (args := []) D1 rfl rfl rfl rfl .nil (fun _ => by simp [rn]) | exact Ok.pe)) | ((first | apply Ca | (apply Cb; (· exact nxE))); (· first | exact Fx hF rfl rfl rfl | exact Zl (args := []) D1 rfl rfl rfl rfl .nil (fun _ => by simp [rn]) | exact Ok.e0)) | refine Sx ?_ | (refine Sy (fun h => ?_) (fun h => ?_) <;> try (exfalso; omega; done)) | refine Sz (fun h => ?_) (fun h => ?_))
  refine Yb ?_
  (apply Le.headZ (hs := []) [] rfl)
  all_goals (try dsimp only [srcs])
  (case' hfr => (repeat' (first | refine La ?_ ?_ | exact Lc | refine Lo ?_ | refine ⟨⟨_, rfl, ?_⟩, ?_⟩ | refine Lx ?_)))
  all_goals (first | exact Ld | exact trivial | (rfl))
set_option maxHeartbeats 4000000 in
theorem drawIsTimePotential_ex (code : List Int) (hc : CodeOk code) : ∃ (ev : Int) (xs : List Pl) (r : Int × Int) (x : List Int), (0 ≤ ev ∧ ev ≤ 11) ∧ xs.length ≤ 40 ∧ DrT r ∧ x.length ≤ 1000 ∧ AC Tryz.prog 11 [.d (BD code)] H0 (.tup [grD ev xs, .agg [I r.1, I r.2], IL x]) H0 := by
  have hF := l01From_ac code hc
  obtain ⟨ev, xs, r, s1, hev, hl, hr, h1, D1⟩ := l15DrawRatio_ex code hc _ (src0_ok hc)
  have hP := sTimePotential_cs ev xs r (by omega) hr
  obtain ⟨n, rfl⟩ : ∃ n : Nat, ev = n := ⟨ev.toNat, by omega⟩
  generalize tpC n xs r = c at *
  generalize tpX n xs r = x at *
  obtain ⟨p, q⟩ := r
  simp only at D1 hP
  rcases hP with ⟨hc0, hP⟩ | ⟨hc0, m, hm, m1, m2, hxl, hxb, hP⟩
  · obtain ⟨y, s2, hy, h2, D2⟩ := l02DrawVector_ex code hc s1 h1 n (by omega)
    refine ⟨n, xs, (p, q), y, hev, hl, hr, by omega, ?_⟩
    simp only
    refine AC.of_body 0 Tryz.func11 rfl (fun l h => absurd rfl h) (fun C hC => ?_)
    have hD : ∀ l, ¬ C.D0 l := fun l h => (hC l).1 h rfl
    simp only [startFr, Tryz.ntmps11, List.length_cons, List.length_nil, Nat.reduceAdd, Nat.reduceSub, List.replicate_succ, List.replicate_zero, List.cons_append, List.nil_append]
    repeat' (first | ((first | apply Ba | (apply Bb; (· rfl); (· rfl)) | (apply Bc; (· exact nxE)) | (apply Bd; (· rfl); (· rfl); (· exact nxE))); (· first | exact Kz rfl rfl (hP) (Aa (Ad (Ad An)) (Aa (Ad (Ad An)) An)) | exact Fx hF rfl rfl rfl | exact Zl (args := []) D1 rfl rfl rfl rfl .nil (fun _ => by simp [rn]) | exact Zl (args := [I n]) D2 rfl rfl rfl rfl (.cons (.dd _) .nil) (fun _ => by simp [rn]) | exact Ok.pe)) | ((first | apply Ca | (apply Cb; (· exact nxE))); (· first | exact Fx hF rfl rfl rfl | exact Zl (args := []) D1 rfl rfl rfl rfl .nil (fun _ => by simp [rn]) | exact Zl (args := [I n]) D2 rfl rfl rfl rfl (.cons (.dd _) .nil) (fun _ => by simp [rn]) | exact Ok.e0)) | refine Sx ?_ | (refine Sy (fun h => ?_) (fun h => ?_) <;> try (exfalso; omega; done)) | refine Sz (fun h => ?_) (fun h => ?_))
    all_goals
      refine Yc ?_
      (apply Le.headZ (hs := []) [] rfl)
      all_goals (try dsimp only [srcs])
      (case' hfr => (repeat' (first | refine La ?_ ?_ | exact Lc | refine Lo ?_ | refine ⟨⟨_, rfl, ?_⟩, ?_⟩ | refine Lx ?_)))
      all_goals (first | exact Ld | exact trivial | (rfl))
  obtain rfl : m = n := by omega
  subst hc0
  subst hxl
  obtain ⟨a, s2, a1, a2, h2, q2, N2⟩ := next_ex hc h1 3
  have hxr : (IR x).length = x.length := IR_len
  by_cases ha : a = 0
  case neg =>
    refine ⟨x.length, xs, (p, q), x, hev, hl, hr, by omega, ?_⟩
    simp only
    refine AC.of_body 0 Tryz.func11 rfl (fun l h => absurd rfl h) (fun C hC => ?_)
    have hD : ∀ l, ¬ C.D0 l := fun l h => (hC l).1 h rfl
    simp only [startFr, Tryz.ntmps11, List.length_cons, List.length_nil, Nat.reduceAdd, Nat.reduceSub, List.replicate_succ, List.replicate_zero, List.cons_append, List.nil_append]
    repeat' (first | ((first | apply Ba | (apply Bb; (· rfl); (· rfl)) | (apply Bc; (· exact nxE)) | (apply Bd; (· rfl); (· rfl); (· exact nxE))); (· first | exact Fx hF rfl rfl rfl | exact Zl (args := []) D1 rfl rfl rfl rfl .nil (fun _ => by simp [rn]) | exact Eo rfl rfl (hP) (Sa (Sd (Sd Sn)) (Sa (Sd (Sd Sn)) Sn)) | exact Nl N2 rfl rfl rfl rfl rfl | exact Ok.pe)) | ((first | apply Ca | (apply Cb; (· exact nxE))); (· first | exact Fx hF rfl rfl rfl | exact Zl (args := []) D1 rfl rfl rfl rfl .nil (fun _ => by simp [rn]) | exact Eo rfl rfl (hP) (Sa (Sd (Sd Sn)) (Sa (Sd (Sd Sn)) Sn)) | exact Nl N2 rfl rfl rfl rfl rfl | exact Ok.e0)) | refine Sx ?_ | (refine Sy (fun h => ?_) (fun h => ?_) <;> try (exfalso; omega; done)) | refine Sz (fun h => ?_) (fun h => ?_))
    all_goals
      refine Yc ?_
      (apply Le.headZ (hs := []) [] rfl)
      all_goals (try dsimp only [srcs])
      (case' hfr => (repeat' (first | refine La ?_ ?_ | exact Lc | refine Lo ?_ | refine ⟨⟨_, rfl, ?_⟩, ?_⟩ | refine Lx ?_)))
      all_goals (first | exact Ld | exact trivial | (rfl))
  obtain ⟨b, s3, b1, b2, h3, q3, N3⟩ := next_ex hc h2 (x.length : Nat)
  obtain ⟨e, s4, e1, e2, h4, q4, N4⟩ := next_ex hc h3 5
  obtain ⟨k, rfl⟩ : ∃ k : Nat, b = k := ⟨b.toNat, by omega⟩
  have hk : k < x.length := by omega
  have hv := hxb _ (List.getElem_mem hk)
  have hcell : (IR x)[k]? = some [DI x[k]] := by simp [hk]
  refine ⟨x.length, xs, (p, q), x.set k (x[k] + e - 2), hev, hl, hr, by rw [List.length_set]; omega, ?_⟩
  have hset : (IR x).set k [DI (x[k] + e - 2)] = IR (x.set k (x[k] + e - 2)) := by simp [List.map_set]
  generalize x[k] = v at *
  simp only
  refine AC.of_body 0 Tryz.func11 rfl (fun l h => absurd rfl h) (fun C hC => ?_)
  have hD : ∀ l, ¬ C.D0 l := fun l h => (hC l).1 h rfl
  simp only [startFr, Tryz.ntmps11, List.length_cons, List.length_nil, Nat.reduceAdd, Nat.reduceSub, List.replicate_succ, List.replicate_zero, List.cons_append, List.nil_append]
  repeat' (first | ((first | apply Ba | (apply Bb; (· rfl); (· rfl)) | (apply Bc; (· exact nxE)) | (apply Bd; (· rfl); (· rfl); (· exact nxE))); (· first | exact Ok.ld1 rfl rfl rfl hcell | exact Fx hF rfl rfl rfl | exact Zl (args := []) D1 rfl rfl rfl rfl .nil (fun _ => by simp [rn]) | exact Eo rfl rfl (hP) (Sa (Sd (Sd Sn)) (Sa (Sd (Sd Sn)) Sn)) | exact Nl N2 rfl rfl rfl rfl rfl | exact Nl N3 rfl rfl rfl rfl rfl | exact Nl N4 rfl rfl rfl rfl rfl | exact Ok.st1 rfl rfl rfl (by rw [hxr]; omega) (by rw [hcell]; rfl) rfl rfl hset | exact Ok.pe)) | ((first | apply Ca | (apply Cb; (· exact nxE))); (· first | exact Fx hF rfl rfl rfl | exact Zl (args := []) D1 rfl rfl rfl rfl .nil (fun _ => by simp [rn]) | exact Eo rfl rfl (hP) (Sa (Sd (Sd Sn)) (Sa (Sd (Sd Sn)) Sn)) | exact Nl N2 rfl rfl rfl rfl rfl | exact Nl N3 rfl rfl rfl rfl rfl | exact Nl N4 rfl rfl rfl rfl rfl | exact Ok.st1 rfl rfl rfl (by rw [hxr]; omega) (by rw [hcell]; rfl) rfl rfl hset | exact Ok.e0)) | refine Sx ?_ | (refine Sy (fun h => ?_) (fun h => ?_) <;> try (exfalso; omega; done)) | refine Sz (fun h => ?_) (fun h => ?_))
  all_goals
    refine Yc ?_
    (apply Le.headZ (hs := []) [] rfl)
    all_goals (try dsimp only [srcs])
    (case' hfr => (repeat' (first | refine La ?_ ?_ | exact Lc | refine Lo ?_ | refine ⟨⟨_, rfl, ?_⟩, ?_⟩ | refine Lx ?_)))
    all_goals (first | exact Ld | exact trivial | (rfl))
end Go.Proofs.YtpgcmpbamlnkkaaGreat
end
