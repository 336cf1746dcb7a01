/-
  Walks in the abstract reading, part 10.
-/
import Derived.Test.YtdgodkpobomneaaKwU9
import Derived.Test.YtdgodkpobomneaaKwU4
section
namespace Go.Proofs.Ytdgodkpobomneaa
set_option linter.unusedSimpArgs false
set_option linter.unusedVariables false
open Go Go.RowKit
attribute [local irreducible] AL AD AW OpOk Le AC thenQ blockQ EndQ

theorem maxN_succ [Mode] (f : Nat → Int) (k : Nat) : maxN f (k + 1) = max (maxN f k) (f k) := rfl
theorem maxN_bnd [Mode] {f : Nat → Int} {B : Int} (hB : 0 ≤ B) : ∀ {k : Nat}, (∀ q, q < k → f q = BOT ∨ (-B ≤ f q ∧ f q ≤ B)) → -1000000000000000 ≤ maxN f k ∧ maxN f k ≤ max (-1000000000000000) B
  | 0, _ => by simp only [maxN]; unfold BOT; omega
  | k + 1, h => by
    have h1 := maxN_bnd hB (k := k) fun q hq => h q (by omega)
    have h2 := h k (by omega)
    rw [maxN_succ]
    unfold BOT at h2
    omega
set_option maxHeartbeats 2000000 in
theorem mulFn_ac [Mode] (a b : List (List Int)) (n : Nat) (ha : MatOk a n) (hb : MatOk b n) (i j : Nat) (hi : i < n) (hj : j < n) : AC Try.prog 125 [I i, I j, Bx 1 0, Bx 1 1] (heapL (hs2 (TD a) (TD b))) (I (mulF a b n i j)) (heapL (hs2 (TD a) (TD b))) := by
  have hn := ha.le
  obtain ⟨R, hR1, hR2, hR3⟩ := ha.sq.get hi hj
  have hRr := TR_get hR1
  have hRl : (IR R).length = n := by rw [IR_len, hR3]
  have hal : (mRows 1 (TR a)).length = n := by rw [mTR_len, ha.sq.l]
  have hent : ∀ q, q < n → (IR R)[((q : Nat) : Int).toNat]? = some [DI (entN a i q)] := fun q hq => by
    obtain ⟨S, s1, s2, s3⟩ := ha.sq.get hi hq
    obtain rfl : R = S := Option.some.inj (hR1.symm.trans s1)
    exact IR_get s2
  have hbnd : ∀ k, k ≤ n → -1000000000000000 ≤ maxN (prF a b i j) k ∧ maxN (prF a b i j) k ≤ max (-1000000000000000) 2000000 := fun k hk => maxN_bnd (by decide) fun q hq => by
    have e1 := ha.b q i
    have e2 := hb.b j q
    unfold prF timesB
    split
    · exact .inl rfl
    · rename_i hne
      have e1 := e1 (fun e => hne (.inl e))
      have e2 := e2 (fun e => hne (.inr e))
      right; omega
  unfold mulF
  refine AC.of_body 2 Try.func125 rfl (fun l h => by simp [heapL, upd] at h; (repeat' split at h) <;> simp_all) (fun C hC => ?_)
  simp only [startFr, Try.ntmps125, List.length_cons, List.length_nil, Nat.reduceAdd, Nat.reduceSub, List.replicate_succ, List.replicate_zero, List.cons_append, List.nil_append]
  have hD : ∀ l, C.D0 l → l = ⟨0, []⟩ ∨ l = ⟨1, []⟩ := fun l h => by have := (hC l).1 h; simp [heapL, upd] at this; (repeat' split at this) <;> simp_all
  repeat' (first | ((first | apply Ba | (apply Bb; (· rfl); (· rfl)) | (apply Bc; (· exact nxE)) | (apply Bd; (· rfl); (· rfl); (· exact nxE))); (· first | exact Ok.lenD rfl rfl hRl | exact Ok.pe)) | ((first | apply Ca | (apply Cb; (· exact nxE))); (· first | exact Ok.e0)) | refine Sx ?_ | (refine Sy (fun h => ?_) (fun h => ?_) <;> try (exfalso; omega; done)) | refine Sz (fun h => ?_) (fun h => ?_))
  refine AW.loop (X := {k : Nat // k ≤ n}) (fun k => ⟨[Oo, I j, Bx 1 0, Bx 1 1, Oo, Oo, Oo, I (maxN (prF a b i j) k.1), Oo, Oo, Oo, Oo, Oo, IL R, I n, I (k.1 : Nat), Oo, Oo, Oo, Oo, Oo, Oo, Oo, Oo, Oo, Oo, Oo, Oo, Oo, Oo, Oo, Oo, Oo], heapL [(⟨0, []⟩, ⟨0, []⟩, ⟨1, [[TL a]]⟩), (⟨1, []⟩, ⟨1, []⟩, ⟨1, [[TL b]]⟩)], 900⟩) (fun k => n - k.1) ⟨0, Nat.zero_le _⟩ ?_ (fun k => ?_)
  ·
    (apply Le.headZ [_, _] rfl)
    all_goals (try dsimp only [srcs])
    (case' hfr | hob => (repeat' (first | refine La ?_ ?_ | exact Lc | refine Lo ?_ | refine ⟨⟨_, rfl, ?_⟩, ?_⟩ | refine Lx ?_)))
    all_goals (first | (rfl) | exact Ld)
  obtain ⟨q, hq⟩ := k
  simp only
  by_cases hlt : q < n
  case neg =>
    obtain rfl : q = n := by omega
    repeat' (first | ((first | apply Ba | (apply Bb; (· rfl); (· rfl)) | (apply Bc; (· exact nxE)) | (apply Bd; (· rfl); (· rfl); (· exact nxE))); (· first | exact Ok.pe)) | ((first | apply Ca | (apply Cb; (· exact nxE))); (· first | exact Ok.e0)) | refine Sx ?_ | (refine Sy (fun h => ?_) (fun h => ?_) <;> try (exfalso; omega; done)) | refine Sz (fun h => ?_) (fun h => ?_))
    (refine end1p (by first | exact .inl rfl | exact .inr rfl) rfl (by first | exact rT rfl | exact rCA rfl rfl rfl rfl (by simp) | exact rCC rfl rfl rfl rfl rfl) ?_ (Le.head ([(⟨0, []⟩, ⟨0, []⟩, ⟨1, [[TL a]]⟩), (⟨1, []⟩, ⟨1, []⟩, ⟨1, [[TL b]]⟩)]) (by first | exact fun l h => absurd h (hD l) | (intro l h; rcases hD l h with rfl; simp [tauL]) | (intro l h; rcases hD l h with rfl | rfl <;> simp [tauL]; done) | (intro l h; rcases hD l h with rfl | rfl | rfl <;> simp [tauL])) ?_ ?_ (by simp) (by simp) (by simp [AllP]) (n' := 1000)); (· rfl)) <;> (repeat' (first | exact trivial | exact ARs.nil | refine ARs.cons ?_ ?_ | exact AR.dead _ | exact AR.dd _ | exact AR.i (by (try dsimp only); omega) | exact AR.ptr _ _ _ _ (by simp [heapL, upd]) | exact AR.own _ _ _ _ (by simp [heapL, upd]) | refine AR.ownE _ _ _ ?_ (by simp [heapL, upd]) | refine ⟨⟨_, rfl, ?_⟩, ?_⟩ | exact ObA.data | refine ObA.box ?_ | refine ObA.frE ?_ | refine ObA.dataE ?_ | refine ARs.agg ?_ | refine ARs.tup ?_ | exact AR.clo' ARs.nil ARs.nil | exact AR.clo' ARs.nil (hca _ _)))
  have hcell := hent q hlt
  obtain ⟨S, s1, s2, s3⟩ := hb.sq.get hlt hj
  have hSr := TR_get s1
  have hSf := IR_get s2
  have hSl : (IR S).length = n := by rw [IR_len, s3]
  have e1 := ha.b q i
  have e2 := hb.b j q
  have hT := times_ac (entN a i q) (entN b q j) (fun x y => by have := e1 x; have := e2 y; omega)
  have hm := maxN_succ (prF a b i j) q
  have hp : prF a b i j q = timesB (entN a i q) (entN b q j) := rfl
  have hb1 := hbnd q hq
  rw [hp] at hm
  clear hbnd hent e1 e2 hp
  have hMq : maxN (prF a b i j) (q + 1) = max (maxN (prF a b i j) q) (timesB (entN a i q) (entN b q j)) := hm
  generalize timesB (entN a i q) (entN b q j) = tv at *
  generalize entN a i q = u at *
  generalize entN b q j = v at *
  generalize hw : maxN (prF a b i j) q = w at *
  have hQ := hT
  clear hT hm
  repeat' (first | ((first | apply Ba | (apply Bb; (· rfl); (· rfl)) | (apply Bc; (· exact nxE)) | (apply Bd; (· rfl); (· rfl); (· exact nxE))); (· first | exact Kz rfl rfl (hQ) (Ad (Ad An)) | exact Ok.pe)) | ((first | apply Ca | (apply Cb; (· exact nxE))); (· first | exact Ok.e0)) | refine Sx ?_ | (refine Sy (fun h => ?_) (fun h => ?_) <;> try (exfalso; omega; done)) | refine Sz (fun h => ?_) (fun h => ?_))
  refine ⟨⟨q + 1, by omega⟩, ?_, by simp only; omega⟩
  simp only
  (apply Le.headZ [_, _] rfl)
  all_goals (try dsimp only [srcs])
  (case' hfr | hob => (repeat' (first | refine La ?_ ?_ | exact Lc | refine Lo ?_ | refine ⟨⟨_, rfl, ?_⟩, ?_⟩ | refine Lx ?_)))
  all_goals (first | ((first | exact hMq | exact hMq.symm)) | exact Ld)
set_option maxHeartbeats 2000000 in
theorem mbyMul_ac [Mode] (m n : Nat) (N : Nat) (hNm : m = N) (hNn : n = N) (a b : List (List Int)) (ha : MatOk a N) (hb : MatOk b N) (hm : m ≤ 1000) (hn : n ≤ 1000) : AC Try.prog 121 [I m, I n, .clo (.func 125) [] [Bx 1 0, Bx 1 1]] (heapL [(⟨0, []⟩, ⟨0, []⟩, ⟨1, [[TL a]]⟩), (⟨1, []⟩, ⟨1, []⟩, ⟨1, [[TL b]]⟩)]) (.own 1 ⟨2, []⟩ 0 m) (heapX [(⟨0, []⟩, ⟨0, []⟩, ⟨1, [[TL a]]⟩), (⟨1, []⟩, ⟨1, []⟩, ⟨1, [[TL b]]⟩)] [mi1 ⟨2, []⟩ (TR (tabF m n (mulF a b N)))]) := by
  refine AC.of_body 2 Try.func121 rfl (fun l h => by simp [heapL, upd] at h; (repeat' split at h) <;> simp_all) (fun C hC => ?_)
  simp only [startFr, Try.ntmps121, List.length_cons, List.length_nil, Nat.reduceAdd, Nat.reduceSub, List.replicate_succ, List.replicate_zero, List.cons_append, List.nil_append]
  have hD : ∀ l, C.D0 l → l = ⟨0, []⟩ ∨ l = ⟨1, []⟩ := fun l h => by have := (hC l).1 h; simp [heapL, upd] at this; (repeat' split at this) <;> simp_all
  repeat' (first | ((first | apply Ba | (apply Bb; (· rfl); (· rfl)) | (apply Bc; (· exact nxE)) | (apply Bd; (· rfl); (· rfl); (· exact nxE))); (· first | exact Ok.pe)) | ((first | apply Ca | (apply Cb; (· exact nxE))); (· first | exact Ok.e0)) | refine Sx ?_ | (refine Sy (fun h => ?_) (fun h => ?_) <;> try (exfalso; omega; done)) | refine Sz (fun h => ?_) (fun h => ?_))
  refine AW.loop (X := {k : Nat // k ≤ m}) (fun k => ⟨[Oo, I n, .clo (.func 125) [] [Bx 1 0, Bx 1 1], Oo, Oo, Oo, Oo, .own 1 ⟨2, []⟩ 0 m, Oo, Oo, Oo, Oo, Oo, I m, I (k.1 : Nat), Oo, Oo, Oo, Oo, Oo, Oo, Oo, Oo, Oo, Oo, Oo, Oo, Oo, Oo, Oo, Oo, Oo, Oo, Oo, Oo, Oo, Oo, Oo, Oo, Oo, Oo, Oo, Oo], heapX [(⟨0, []⟩, ⟨0, []⟩, ⟨1, [[TL a]]⟩), (⟨1, []⟩, ⟨1, []⟩, ⟨1, [[TL b]]⟩)] [{ l := ⟨2, []⟩, k := 1, R := TR (tabF k.1 n (mixF (mulF a b N) zz k.1 0)), nils := m - k.1, src := ⟨2, []⟩, base := ⟨2, []⟩ }], 900⟩) (fun k => m - k.1) ⟨0, Nat.zero_le _⟩ ?_ (fun k => ?_)
  ·
    (apply Le.headG [_, _] [{ l := ⟨2, []⟩, k := 1, R := [], nils := m, src := ⟨4, []⟩, base := ⟨4, []⟩ }] (fun _ => False))
    (case' hlen => rfl)
    (case' hms => rfl)
    all_goals (try dsimp only [srcs])
    (case' hfr | hob => (repeat' (first | refine La ?_ ?_ | exact Lc | refine Lo ?_ | refine ⟨⟨_, rfl, ?_⟩, ?_⟩ | refine Lx ?_)))
    (case' hok => first | exact ⟨MI.ok_make rfl, trivial⟩ | exact trivial)
    (case' hN => rfl)
    (case' hS => rfl)
    all_goals (first | exact Ld | (rfl))
  obtain ⟨i, hi⟩ := k
  simp only
  by_cases hlt : i < m
  ·
    have hti : (TR (tabF i n (mixF (mulF a b N) zz i 0))).length = i := by rw [TR_len, tabF_len]
    rw [show m - i = (m - (i + 1)) + 1 by omega]
    repeat' (first | ((first | apply Ba | (apply Bb; (· rfl); (· rfl)) | (apply Bc; (· exact nxE)) | (apply Bd; (· rfl); (· rfl); (· exact nxE))); (· first | exact OpOk.loadCell rfl rfl rfl rfl (set_at (by simp only [outer_len]; rw [hti]; omega)) rfl | exact Ok.stT rfl rfl rfl (by dsimp only; rw [hti]; omega) rfl | exact Ok.pe)) | ((first | apply Ca | (apply Cb; (· exact nxE))); (· first | exact Ok.stT rfl rfl rfl (by dsimp only; rw [hti]; omega) rfl | exact Ok.e0)) | refine Sx ?_ | (refine Sy (fun h => ?_) (fun h => ?_) <;> try (exfalso; omega; done)) | refine Sz (fun h => ?_) (fun h => ?_))
    refine AW.loop (X := {k : Nat // k ≤ n}) (fun k => ⟨[Oo, I n, .clo (.func 125) [] [Bx 1 0, Bx 1 1], Oo, Oo, Oo, Oo, .own 1 ⟨2, []⟩ 0 m, I i, Oo, Oo, Oo, Oo, I m, I i, Oo, Oo, Oo, Oo, Oo, Oo, Oo, Oo, Oo, Oo, Oo, I n, I (k.1 : Nat), Oo, Oo, Oo, Oo, Oo, Oo, Oo, Oo, Oo, Oo, Oo, Oo, Oo, Oo, Oo], heapX [(⟨0, []⟩, ⟨0, []⟩, ⟨1, [[TL a]]⟩), (⟨1, []⟩, ⟨1, []⟩, ⟨1, [[TL b]]⟩)] [{ l := ⟨2, []⟩, k := 1, R := TR (tabF (i + 1) n (mixF (mulF a b N) zz i k.1)), nils := m - (i + 1), src := ⟨2, []⟩, base := ⟨2, []⟩ }], 900⟩) (fun k => n - k.1) ⟨0, Nat.zero_le _⟩ ?_ (fun k => ?_)
    ·
      (apply Le.headG [_, _] [{ l := ⟨2, []⟩, k := 1, R := TR (tabF (i + 1) n (mixF (mulF a b N) zz i 0)), nils := m - (i + 1), src := ⟨2, []⟩, base := ⟨2, []⟩, cut := i, ext := some ⟨906, []⟩ }] (fun _ => False))
      (case' hlen => rfl)
      (case' hms => rfl)
      all_goals (try dsimp only [srcs])
      (case' hfr | hob => (repeat' (first | refine La ?_ ?_ | exact Lc | refine Lo ?_ | refine ⟨⟨_, rfl, ?_⟩, ?_⟩ | refine Lx ?_)))
      (case' hok => first | exact ⟨MI.ok_fill (r := List.replicate n [DI 0]) zz_snoc hti (by simp) rfl (Cg) rfl, trivial⟩ | exact trivial)
      (case' hN => rfl)
      (case' hS => rfl)
      all_goals (first | exact Ld | ((first | (simp [AllP, TR_len, tabF_len]; done) | (simp [AllP, TR_len, tabF_len]; omega))))
    obtain ⟨j, hj⟩ := k
    simp only
    by_cases hlt2 : j < n
    ·
      have hrw := TRF_get (n := n) (f := (mixF (mulF a b N) zz i j)) (show i < i + 1 by omega)
      have hlr : (IR (rowF n ((mixF (mulF a b N) zz i j) i))).length = n := by rw [IR_len, rowF_len]
      repeat' (first | ((first | apply Ba | (apply Bb; (· rfl); (· rfl)) | (apply Bc; (· exact nxE)) | (apply Bd; (· rfl); (· rfl); (· exact nxE))); (· first | exact Ok.ldTn rfl rfl rfl hrw hlr | exact OpOk.callS ([(⟨0, []⟩, ⟨0, []⟩, ⟨1, [[TL a]]⟩), (⟨1, []⟩, ⟨1, []⟩, ⟨1, [[TL b]]⟩)]) rfl rfl (mulFn_ac a b N ha hb i j (by omega) (by omega)) (by intro p hp; simp only [List.mem_cons, List.not_mem_nil, or_false] at hp; rcases hp with rfl | rfl <;> rfl) (by intro p hp r hr c hc; simp at hp; rcases hp with rfl | rfl <;> (simp at hr; subst hr; simp at hc; (try subst hc); (try rcases hc with rfl | rfl); exact .d _)) (.d _) (.cons (.dd _) (.cons (.dd _) (.cons (AR.ptr _ _ _ _ (by simp)) (.cons (AR.ptr _ _ _ _ (by simp)) .nil)))) | exact Ok.st1 rfl rfl (congrArg (Option.map (dobj 1)) hrw) (by simp [rowF_len]; omega) (by rw [IRF_get hlt2]; rfl) rfl rfl IR_set | exact Ok.pe)) | ((first | apply Ca | (apply Cb; (· exact nxE))); (· first | exact Ok.st1 rfl rfl (congrArg (Option.map (dobj 1)) hrw) (by simp [rowF_len]; omega) (by rw [IRF_get hlt2]; rfl) rfl rfl IR_set | exact Ok.e0)) | refine Sx ?_ | (refine Sy (fun h => ?_) (fun h => ?_) <;> try (exfalso; omega; done)) | refine Sz (fun h => ?_) (fun h => ?_))
      refine ⟨⟨j + 1, by omega⟩, ?_, by simp only; omega⟩
      (apply Le.headG [_, _] [{ l := ⟨2, []⟩, k := 1, R := TR (tabF (i + 1) n (mixF (mulF a b N) zz i (j + 1))), nils := m - (i + 1), src := ⟨2, []⟩, base := ⟨2, []⟩ }] (fun _ => False))
      (case' hlen => rfl)
      (case' hms => rfl)
      all_goals (try dsimp only [srcs])
      (case' hfr | hob => (repeat' (first | refine La ?_ ?_ | exact Lc | refine Lo ?_ | refine ⟨⟨_, rfl, ?_⟩, ?_⟩ | refine Lx ?_)))
      (case' hok => first | exact ⟨MI.ok_row (tabF_set (fun a b _ _ => mixF_set)) hrw (by simp) rfl (Cg), trivial⟩ | exact trivial)
      (case' hN => rfl)
      (case' hS => rfl)
      all_goals (first | exact Ld | (rfl))
    ·
      have hjn : j = n := by omega
      subst hjn
      rw [mixF_row]
      repeat' (first | ((first | apply Ba | (apply Bb; (· rfl); (· rfl)) | (apply Bc; (· exact nxE)) | (apply Bd; (· rfl); (· rfl); (· exact nxE))); (· first | exact Ok.pe)) | ((first | apply Ca | (apply Cb; (· exact nxE))); (· first | exact Ok.e0)) | refine Sx ?_ | (refine Sy (fun h => ?_) (fun h => ?_) <;> try (exfalso; omega; done)) | refine Sz (fun h => ?_) (fun h => ?_))
      refine ⟨⟨i + 1, by omega⟩, ?_, by simp only; omega⟩
      (apply Le.headG [_, _] [{ l := ⟨2, []⟩, k := 1, R := TR (tabF (i + 1) j (mixF (mulF a b N) zz (i + 1) 0)), nils := m - (i + 1), src := ⟨2, []⟩, base := ⟨2, []⟩ }] (fun _ => False))
      (case' hlen => rfl)
      (case' hms => rfl)
      all_goals (try dsimp only [srcs])
      (case' hfr | hob => (repeat' (first | refine La ?_ ?_ | exact Lc | refine Lo ?_ | refine ⟨⟨_, rfl, ?_⟩, ?_⟩ | refine Lx ?_)))
      (case' hok => first | exact ⟨MI.ok_same rfl (Cg), trivial⟩ | exact trivial)
      (case' hN => rfl)
      (case' hS => rfl)
      all_goals (first | exact Ld | (rfl))
  ·
    have him : i = m := by omega
    subst him
    rw [Nat.sub_self, mixF_all]
    repeat' (first | ((first | apply Ba | (apply Bb; (· rfl); (· rfl)) | (apply Bc; (· exact nxE)) | (apply Bd; (· rfl); (· rfl); (· exact nxE))); (· first | exact Ok.pe)) | ((first | apply Ca | (apply Cb; (· exact nxE))); (· first | exact Ok.e0)) | refine Sx ?_ | (refine Sy (fun h => ?_) (fun h => ?_) <;> try (exfalso; omega; done)) | refine Sz (fun h => ?_) (fun h => ?_))
    refine Ya ?_
    (apply Le.headG [⟨0, []⟩, ⟨1, []⟩] [mi1 ⟨2, []⟩ (TR (tabF i n (mulF a b N)))] (fun _ => False))
    (case' hlen => rfl)
    (case' hms => rfl)
    all_goals (try dsimp only [srcs])
    (case' hfr | hob => (repeat' (first | refine La ?_ ?_ | exact Lc | refine Lo ?_ | refine ⟨⟨_, rfl, ?_⟩, ?_⟩ | refine Lx ?_)))
    (case' hok => first | exact ⟨MI.ok_same rfl (Cg), trivial⟩ | exact trivial)
    (case' hN => rfl)
    (case' hS => rfl)
    all_goals (first | exact Ld | (rfl))
set_option maxHeartbeats 1000000 in
theorem multiplyD_ac [Mode] (a b : List (List Int)) (n : Nat) (ha : MatOk a n) (hb : MatOk b n) : AC Try.prog 68 [TL a, TL b] H0 (TL (tabF n n (mulF a b n))) H0 := by
  have hn := ha.le
  have h0 := ha.pos
  have hal : (mRows 1 (TR a)).length = n := by rw [mTR_len, ha.sq.l]
  obtain ⟨B0, hB1, hB2, hB3⟩ := hb.sq.get (show 0 < n by omega) (show 0 < n by omega)
  have hBr : (mRows 1 (TR b))[(0 : Int).toNat]? = some [.sl 1 (IR B0)] := TR_get hB1
  have hBl : (IR B0).length = n := by rw [IR_len, hB3]
  have hF := mbyMul_ac n n n rfl rfl a b ha hb (by omega) (by omega)
  have hO : AC Try.prog 68 [TL a, TL b] H0 (own1 1 n) (hpM 1 (TR (tabF n n (mulF a b n)))) := by
    refine AC.of_body 0 Try.func68 rfl (fun l h => absurd rfl h) (fun C hC => ?_)
    have hD : ∀ l, ¬ C.D0 l := fun l h => (hC l).1 h rfl
    simp only [startFr, Try.ntmps68, List.length_cons, List.length_nil, Nat.reduceAdd, Nat.reduceSub, List.replicate_succ, List.replicate_zero, List.cons_append, List.nil_append]
    repeat' (first | ((first | apply Ba | (apply Bb; (· rfl); (· rfl)) | (apply Bc; (· exact nxE)) | (apply Bd; (· rfl); (· rfl); (· exact nxE))); (· first | exact Ok.lenD rfl rfl hal | exact Ok.lenD rfl rfl hBl | exact OpOk.callSX (hs2 (TD a) (TD b)) [mi1 ⟨2, []⟩ (TR (tabF n n (mulF a b n)))] rfl rfl hF (by intro p hp; simp only [List.mem_cons, List.not_mem_nil, or_false] at hp; rcases hp with rfl | rfl <;> rfl) hs2_ok (by simp [Loc.cov]) (.cons (.dd _) (.cons (.dd _) (.cons (AR.clo' .nil (.cons (AR.ptr _ _ _ _ (by simp)) (.cons (AR.ptr _ _ _ _ (by simp)) .nil))) .nil))) (by simp [rn, emb]; rfl) | exact Ok.pe)) | ((first | apply Ca | (apply Cb; (· exact nxE))); (· first | exact OpOk.callSX (hs2 (TD a) (TD b)) [mi1 ⟨2, []⟩ (TR (tabF n n (mulF a b n)))] rfl rfl hF (by intro p hp; simp only [List.mem_cons, List.not_mem_nil, or_false] at hp; rcases hp with rfl | rfl <;> rfl) hs2_ok (by simp [Loc.cov]) (.cons (.dd _) (.cons (.dd _) (.cons (AR.clo' .nil (.cons (AR.ptr _ _ _ _ (by simp)) (.cons (AR.ptr _ _ _ _ (by simp)) .nil))) .nil))) (by simp [rn, emb]; rfl) | exact Ok.e0)) | refine Sx ?_ | (refine Sy (fun h => ?_) (fun h => ?_) <;> try (exfalso; omega; done)) | refine Sz (fun h => ?_) (fun h => ?_))
    refine Ya ?_
    (apply Le.headG [] [{ l := ⟨0, []⟩, k := 1, R := TR (tabF n n (mulF a b n)), src := ⟨10, [2]⟩, base := ⟨10, [2]⟩ }] (fun _ => False))
    (case' hlen => rfl)
    (case' hms => rfl)
    all_goals (try dsimp only [srcs])
    (case' hfr | hob => (repeat' (first | refine La ?_ ?_ | exact Lc | refine Lo ?_ | refine ⟨⟨_, rfl, ?_⟩, ?_⟩ | refine Lx ?_)))
    (case' hok => first | exact ⟨MI.ok_same rfl (Cg), trivial⟩ | exact trivial)
    (case' hN => rfl)
    (case' hS => rfl)
    all_goals (first | exact Ld | (rfl))
  exact hO.frzT (by rw [TR_len, tabF_len])
/-! ### The matrix of a word -/
theorem allM_ok [Mode] {t : List (List Int)} {n : Nat} (hs : Sq t n) (h1 : 1 ≤ n) (h2 : n ≤ 10) (h : allM t = true) : MatOk t n := ⟨hs, h1, h2, fun u v hne => by
  by_cases hv : v < n
  · by_cases hu : u < n
    · obtain ⟨R, r1, r2, r3⟩ := hs.get hv hu
      unfold allM at h
      rw [List.all_eq_true] at h
      have h3 := h R (List.mem_of_getElem? r1)
      rw [List.all_eq_true] at h3
      rcases isVal_iff.1 (h3 _ (List.mem_of_getElem? r2)) with e | e
      · exact absurd e hne
      · exact e
    · rw [entN_out ⟨hs.l, hs.r⟩ hv hu]; omega
  · rw [entN_out2 (n := n) ⟨hs.l, hs.r⟩ hv]; omega⟩
theorem unit_ok [Mode] {n : Nat} (h1 : 1 ≤ n) (h2 : n ≤ 10) : MatOk (tabF n n unitF) n := ⟨⟨tabF_len, tabF_rc.r⟩, h1, h2, fun u v hne => by
  by_cases hv : v < n
  · by_cases hu : u < n
    · rw [tabF_ent hv hu] at hne ⊢
      unfold unitF at hne ⊢
      split at hne
      · rename_i e; rw [if_pos e]; omega
      · exact absurd rfl hne
    · rw [entN_out (n := n) tabF_rc hv hu]; omega
  · rw [entN_out2 (m := n) (n := n) tabF_rc hv]; omega⟩
def wmR (ms : List (List (List Int))) (n : Nat) : List Nat → List (List Int) → Option (List (List Int))
  | [], t => some t
  | m :: w, t => if allM (tabF n n (mulF (ms.getD m []) t n)) = true then wmR ms n w (tabF n n (mulF (ms.getD m []) t n)) else none
def wmC (ms : List (List (List Int))) (w : List Int) : Int := if areMo ms = true then (if woB ms w = true then (match wmR ms (ms.headD []).length (w.map Int.toNat) (tabF (ms.headD []).length (ms.headD []).length unitF) with | none => 3 | some _ => 0) else 2) else 1
def wmL (ms : List (List (List Int))) (w : List Int) : List (List Int) := if areMo ms = true then (if woB ms w = true then (match wmR ms (ms.headD []).length (w.map Int.toNat) (tabF (ms.headD []).length (ms.headD []).length unitF) with | none => [] | some t => t) else []) else []
set_option maxHeartbeats 2000000 in
theorem iWordMatrix_ac [Mode] (ms : List (List (List Int))) (hm : MsOk ms) (w : List Int) (hw : w.length ≤ 1000000) : AC Try.prog 20 [QL ms, IL w] H0 (.tup [TL (wmL ms w), I (wmC ms w)]) H0 := by
  have hA := iAreModes_ac ms hm
  have hWo := isWord_ac ms w hm.n hw
  unfold wmL wmC
  cases ha : areMo ms
  · rw [ha] at hA
    rw [if_neg (by simp), if_neg (by simp)]
    refine AC.of_body 0 Try.func20 rfl (fun l h => absurd rfl h) (fun C hC => ?_)
    have hD : ∀ l, ¬ C.D0 l := fun l h => (hC l).1 h rfl
    simp only [startFr, Try.ntmps20, List.length_cons, List.length_nil, Nat.reduceAdd, Nat.reduceSub, List.replicate_succ, List.replicate_zero, List.cons_append, List.nil_append]
    repeat' (first | ((first | apply Ba | (apply Bb; (· rfl); (· rfl)) | (apply Bc; (· exact nxE)) | (apply Bd; (· rfl); (· rfl); (· exact nxE))); (· first | exact Kz rfl rfl (hA) (Ad An) | exact Ok.pe)) | ((first | apply Ca | (apply Cb; (· exact nxE))); (· first | exact Ok.e0)) | refine Sx ?_ | (refine Sy (fun h => ?_) (fun h => ?_) <;> try (exfalso; omega; done)) | refine Sz (fun h => ?_) (fun h => ?_))
    refine Yb ?_
    (apply Le.headZ (hs := []) [] rfl)
    all_goals (try dsimp only [srcs])
    (case' hfr => (repeat' (first | refine La ?_ ?_ | exact Lc | refine Lo ?_ | refine ⟨⟨_, rfl, ?_⟩, ?_⟩ | refine Lx ?_)))
    all_goals (first | exact Ld | exact trivial | (rfl))
  rw [ha] at hA
  rw [if_pos rfl, if_pos rfl]
  cases h2 : woB ms w
  · rw [h2] at hWo
    rw [if_neg (by simp), if_neg (by simp)]
    refine AC.of_body 0 Try.func20 rfl (fun l h => absurd rfl h) (fun C hC => ?_)
    have hD : ∀ l, ¬ C.D0 l := fun l h => (hC l).1 h rfl
    simp only [startFr, Try.ntmps20, List.length_cons, List.length_nil, Nat.reduceAdd, Nat.reduceSub, List.replicate_succ, List.replicate_zero, List.cons_append, List.nil_append]
    repeat' (first | ((first | apply Ba | (apply Bb; (· rfl); (· rfl)) | (apply Bc; (· exact nxE)) | (apply Bd; (· rfl); (· rfl); (· exact nxE))); (· first | exact Kz rfl rfl (hA) (Ad An) | exact Kz rfl rfl (hWo) (Ad (Ad An)) | exact Ok.pe)) | ((first | apply Ca | (apply Cb; (· exact nxE))); (· first | exact Ok.e0)) | refine Sx ?_ | (refine Sy (fun h => ?_) (fun h => ?_) <;> try (exfalso; omega; done)) | refine Sz (fun h => ?_) (fun h => ?_))
    refine Yb ?_
    (apply Le.headZ (hs := []) [] rfl)
    all_goals (try dsimp only [srcs])
    (case' hfr => (repeat' (first | refine La ?_ ?_ | exact Lc | refine Lo ?_ | refine ⟨⟨_, rfl, ?_⟩, ?_⟩ | refine Lx ?_)))
    all_goals (first | exact Ld | exact trivial | (rfl))
  rw [h2] at hWo
  rw [if_pos rfl, if_pos rfl]
  obtain ⟨t0, q, e, hq3, h00, hqs⟩ := areMo_ok ha
  obtain ⟨u, rfl, hu, hmem⟩ := woB_nat h2
  have hhd : (ms.headD []).length = t0.length := by rw [e]; rfl
  rw [cN_toNat, hhd]
  have hok : ∀ t ∈ ms, MatOk t t0.length := fun t ht => by
    rw [e] at ht
    rcases List.mem_cons.1 ht with rfl | ht
    · exact h00
    · exact hqs t ht
  have hg0 : (QR ms)[(0 : Int).toNat]? = some [TD t0] := by rw [e]; rfl
  have htl : (mRows 1 (TR t0)).length = t0.length := by rw [mTR_len]
  obtain ⟨n, hn⟩ : ∃ n, t0.length = n := ⟨_, rfl⟩
  have h1 := h00.pos
  have h10 := h00.le
  rw [hn] at hok h1 h10 htl ⊢
  have hU := (unitMatrix_ac n (by omega)).frzT (by rw [TR_len, tabF_len])
  have hur : (IR (cN u)).length = u.length := by simp
  clear e h00 hqs hn hhd
  refine AC.of_body 0 Try.func20 rfl (fun l h => absurd rfl h) (fun C hC => ?_)
  have hD : ∀ l, ¬ C.D0 l := fun l h => (hC l).1 h rfl
  simp only [startFr, Try.ntmps20, List.length_cons, List.length_nil, Nat.reduceAdd, Nat.reduceSub, List.replicate_succ, List.replicate_zero, List.cons_append, List.nil_append]
  repeat' (first | ((first | apply Ba | (apply Bb; (· rfl); (· rfl)) | (apply Bc; (· exact nxE)) | (apply Bd; (· rfl); (· rfl); (· exact nxE))); (· first | exact Kz rfl rfl (hA) (Ad An) | exact Kz rfl rfl (hWo) (Ad (Ad An)) | exact Ok.lenD rfl rfl htl | exact Kz rfl rfl (hU) (Ad An) | exact Ok.lenD rfl rfl hur | exact Ok.pe)) | ((first | apply Ca | (apply Cb; (· exact nxE))); (· first | exact Ok.e0)) | refine Sx ?_ | (refine Sy (fun h => ?_) (fun h => ?_) <;> try (exfalso; omega; done)) | refine Sz (fun h => ?_) (fun h => ?_))
  refine AW.loop (X := {s : Nat × List (List Int) // s.1 ≤ u.length ∧ MatOk s.2 n ∧ wmR ms n u (tabF n n unitF) = wmR ms n (u.drop s.1) s.2}) (fun s => ⟨[QL ms, Oo, Oo, Oo, Oo, Oo, TL s.1.2, Oo, Oo, Oo, Oo, Oo, Oo, Oo, Oo, Oo, Oo, Oo, Oo, Oo, Oo, Oo, Oo, IL (cN u), I u.length, I (s.1.1 : Nat), Oo, Oo, Oo, Oo, Oo, Oo, Oo, Oo, Oo, Oo, Oo, Oo, Oo, Oo, Oo, Oo, Oo, Oo, Oo], heapL [], 900⟩) (fun s => u.length - s.1.1) ⟨(0, tabF n n unitF), Nat.zero_le _, unit_ok h1 h10, rfl⟩ ?_ (fun s => ?_)
  ·
    (apply Le.headZ [] rfl)
    all_goals (try dsimp only [srcs])
    (case' hfr | hob => (repeat' (first | refine La ?_ ?_ | exact Lc | refine Lo ?_ | refine ⟨⟨_, rfl, ?_⟩, ?_⟩ | refine Lx ?_)))
    all_goals (first | (rfl) | exact Ld)
  obtain ⟨⟨k, t⟩, hk, ht, hR⟩ := s
  simp only at hk ht hR ⊢
  rw [hR]
  by_cases hlt : k < u.length
  case neg =>
    rw [List.drop_of_length_le (by omega)]
    simp only [wmR]
    repeat' (first | ((first | apply Ba | (apply Bb; (· rfl); (· rfl)) | (apply Bc; (· exact nxE)) | (apply Bd; (· rfl); (· rfl); (· exact nxE))); (· first | exact Ok.pe)) | ((first | apply Ca | (apply Cb; (· exact nxE))); (· first | exact Ok.e0)) | refine Sx ?_ | (refine Sy (fun h => ?_) (fun h => ?_) <;> try (exfalso; omega; done)) | refine Sz (fun h => ?_) (fun h => ?_))
    refine Yb ?_
    (apply Le.headZ (hs := []) [] rfl)
    all_goals (try dsimp only [srcs])
    (case' hfr => (repeat' (first | refine La ?_ ?_ | exact Lc | refine Lo ?_ | refine ⟨⟨_, rfl, ?_⟩, ?_⟩ | refine Lx ?_)))
    all_goals (first | exact Ld | exact trivial | (rfl))
  have hcell := cN_get (getD_atW hlt)
  have hmk : u.getD k 0 < ms.length := hmem _ (List.mem_of_getElem? (getD_atW hlt))
  have hdrop : u.drop k = u.getD k 0 :: u.drop (k + 1) := by
    rw [List.drop_eq_getElem_cons hlt, List.getD_eq_getElem?_getD, List.getElem?_eq_getElem hlt]; rfl
  have hget : ms[u.getD k 0]? = some (ms.getD (u.getD k 0) []) := getQ_atW hmk
  have hrow := QR_get hget
  have hMt := hok _ (List.mem_of_getElem? hget)
  rw [hdrop]
  simp only [wmR]
  rw [hdrop] at hR
  simp only [wmR] at hR
  generalize u.getD k 0 = m at *
  generalize ms.getD m [] = a at *
  have hP := multiplyD_ac a t n hMt ht
  have hps : Sq (tabF n n (mulF a t n)) n := ⟨tabF_len, tabF_rc.r⟩
  generalize tabF n n (mulF a t n) = z at *
  have hCk := checkedMatrix_ac z (by rw [hps.l]; omega) (fun r hr => by rw [hps.r r hr]; omega)
  cases hz : allM z
  · rw [hz] at hCk
    simp only [Bool.false_eq_true, if_false] at hCk ⊢
    repeat' (first | ((first | apply Ba | (apply Bb; (· rfl); (· rfl)) | (apply Bc; (· exact nxE)) | (apply Bd; (· rfl); (· rfl); (· exact nxE))); (· first | exact Kz rfl rfl (hP) (Ad (Ad An)) | exact Kz rfl rfl (hCk) (Ad An) | exact Ok.pe)) | ((first | apply Ca | (apply Cb; (· exact nxE))); (· first | exact Ok.e0)) | refine Sx ?_ | (refine Sy (fun h => ?_) (fun h => ?_) <;> try (exfalso; omega; done)) | refine Sz (fun h => ?_) (fun h => ?_))
    refine Yb ?_
    (apply Le.headZ (hs := []) [] rfl)
    all_goals (try dsimp only [srcs])
    (case' hfr => (repeat' (first | refine La ?_ ?_ | exact Lc | refine Lo ?_ | refine ⟨⟨_, rfl, ?_⟩, ?_⟩ | refine Lx ?_)))
    all_goals (first | exact Ld | exact trivial | (rfl))
  · rw [hz] at hCk
    rw [hz, if_pos rfl] at hR
    simp only [if_true] at hCk ⊢
    rw [← hR]
    repeat' (first | ((first | apply Ba | (apply Bb; (· rfl); (· rfl)) | (apply Bc; (· exact nxE)) | (apply Bd; (· rfl); (· rfl); (· exact nxE))); (· first | exact Kz rfl rfl (hP) (Ad (Ad An)) | exact Kz rfl rfl (hCk) (Ad An) | exact Ok.pe)) | ((first | apply Ca | (apply Cb; (· exact nxE))); (· first | exact Ok.e0)) | refine Sx ?_ | (refine Sy (fun h => ?_) (fun h => ?_) <;> try (exfalso; omega; done)) | refine Sz (fun h => ?_) (fun h => ?_))
    refine ⟨⟨(k + 1, z), by simp only; omega, allM_ok hps h1 h10 hz, hR⟩, ?_, by simp only; omega⟩
    (apply Le.headZ [] rfl)
    all_goals (try dsimp only [srcs])
    (case' hfr | hob => (repeat' (first | refine La ?_ ?_ | exact Lc | refine Lo ?_ | refine ⟨⟨_, rfl, ?_⟩, ?_⟩ | refine Lx ?_)))
    all_goals (first | (rfl) | exact Ld)
/-! ### A matrix applied to a vector; the greatest element -/
theorem iTimesVector_ac [Mode] (a : List (List Int)) (n : Nat) (ha : MatOk a n) (hv : allM a = true) (x : List Int) (hl : x.length = n) (hx : x.all isVal = true) : AC Try.prog 21 [TL a, IL x] H0 (.tup [IL (if (stepL a n x).all isVal = true then stepL a n x else []), I (if (stepL a n x).all isVal = true then 0 else 3)]) H0 := by
  have hn := ha.le
  have h1 := ha.pos
  have hM := iIsMatrix_ac a (by rw [ha.sq.l]; omega) (fun r hr => by rw [ha.sq.r r hr]; omega)
  rw [isMat_sq ha.sq h1 hn, hv] at hM
  have hV := iIsVector_ac x (by omega)
  rw [vec_all (by omega), hx] at hV
  obtain ⟨B0, hB1, hB2, hB3⟩ := ha.sq.get (show 0 < n by omega) (show 0 < n by omega)
  have hBr : (mRows 1 (TR a))[(0 : Int).toNat]? = some [.sl 1 (IR B0)] := TR_get hB1
  have hBl : (IR B0).length = n := by rw [IR_len, hB3]
  have hxl : (IR x).length = n := by rw [IR_len, hl]
  have hS := timesStep_ac a n ha x hl hx
  have hsl : (stepL a n x).length = n := stepL_len
  have hCk := checkedVector_ac (stepL a n x) (by omega)
  have hQ := hS
  clear hS
  generalize stepL a n x = z at *
  generalize (if z.all isVal = true then z else []) = z1 at *
  generalize (if z.all isVal = true then (0 : Int) else 3) = c at *
  refine AC.of_body 0 Try.func21 rfl (fun l h => absurd rfl h) (fun C hC => ?_)
  have hD : ∀ l, ¬ C.D0 l := fun l h => (hC l).1 h rfl
  simp only [startFr, Try.ntmps21, List.length_cons, List.length_nil, Nat.reduceAdd, Nat.reduceSub, List.replicate_succ, List.replicate_zero, List.cons_append, List.nil_append]
  repeat' (first | ((first | apply Ba | (apply Bb; (· rfl); (· rfl)) | (apply Bc; (· exact nxE)) | (apply Bd; (· rfl); (· rfl); (· exact nxE))); (· first | exact Kz rfl rfl (hM) (Ad An) | exact Kz rfl rfl (hV) (Ad An) | exact Ok.lenD rfl rfl hBl | exact Ok.lenD rfl rfl hxl | exact Kz rfl rfl (hQ) (Ad (Ad An)) | exact Kz rfl rfl (hCk) (Ad An) | exact Ok.pe)) | ((first | apply Ca | (apply Cb; (· exact nxE))); (· first | exact Ok.e0)) | refine Sx ?_ | (refine Sy (fun h => ?_) (fun h => ?_) <;> try (exfalso; omega; done)) | refine Sz (fun h => ?_) (fun h => ?_))
  refine Yb ?_
  (apply Le.headZ (hs := []) [] rfl)
  all_goals (try dsimp only [srcs])
  (case' hfr => (repeat' (first | refine La ?_ ?_ | exact Lc | refine Lo ?_ | refine ⟨⟨_, rfl, ?_⟩, ?_⟩ | refine Lx ?_)))
  all_goals (first | exact Ld | exact trivial | (rfl))
theorem iSumOf_ac [Mode] (x : List Int) (hx : x.length ≤ 100) (hv : x.all isVal = true) : AC Try.prog 22 [IL x] H0 (.tup [I (mxL x), I 0]) H0 := by
  have hA := areValues_ac x (by omega)
  rw [hv] at hA
  have hS := sumOf_ac x (by omega)
  have hxl : (IR x).length = x.length := IR_len
  have hQ := hS
  clear hS
  generalize mxL x = m at *
  refine AC.of_body 0 Try.func22 rfl (fun l h => absurd rfl h) (fun C hC => ?_)
  have hD : ∀ l, ¬ C.D0 l := fun l h => (hC l).1 h rfl
  simp only [startFr, Try.ntmps22, List.length_cons, List.length_nil, Nat.reduceAdd, Nat.reduceSub, List.replicate_succ, List.replicate_zero, List.cons_append, List.nil_append]
  repeat' (first | ((first | apply Ba | (apply Bb; (· rfl); (· rfl)) | (apply Bc; (· exact nxE)) | (apply Bd; (· rfl); (· rfl); (· exact nxE))); (· first | exact Ok.lenD rfl rfl hxl | exact Kz rfl rfl (hA) (Ad An) | exact Kz rfl rfl (hQ) (Ad An) | exact Ok.pe)) | ((first | apply Ca | (apply Cb; (· exact nxE))); (· first | exact Ok.e0)) | refine Sx ?_ | (refine Sy (fun h => ?_) (fun h => ?_) <;> try (exfalso; omega; done)) | refine Sz (fun h => ?_) (fun h => ?_))
  refine Yb ?_
  (apply Le.headZ (hs := []) [] rfl)
  all_goals (try dsimp only [srcs])
  (case' hfr => (repeat' (first | refine La ?_ ?_ | exact Lc | refine Lo ?_ | refine ⟨⟨_, rfl, ?_⟩, ?_⟩ | refine Lx ?_)))
  all_goals (first | exact Ld | exact trivial | (rfl))
end Go.Proofs.Ytdgodkpobomneaa
end

section
namespace Go.Proofs.Ytdgodkpobomneaa
set_option linter.unusedSimpArgs false
set_option linter.unusedVariables false
open Go Go.RowKit

theorem timesB_bot {b : Int} : timesB BOT b = BOT := by unfold timesB; rw [if_pos (.inl rfl)]
theorem timesB_bot' {a : Int} : timesB a BOT = BOT := by unfold timesB; rw [if_pos (.inr rfl)]
theorem timesB_val {a b : Int} (ha : a ≠ BOT) (hb : b ≠ BOT) : timesB a b = a + b := by unfold timesB; rw [if_neg (by rintro (h | h); exact ha h; exact hb h)]
/-- BOT, or a number of some size. -/
def bvB (B a : Int) : Prop := a = BOT ∨ (-B ≤ a ∧ a ≤ B)
theorem bvB.times {B C a b : Int} (ha : bvB B a) (hb : bvB C b) : bvB (B + C) (timesB a b) := by
  rcases ha with rfl | ha
  · exact .inl timesB_bot
  · rcases hb with rfl | hb
    · exact .inl timesB_bot'
    · by_cases h1 : a = BOT
      · subst h1; exact .inl timesB_bot
      · by_cases h2 : b = BOT
        · subst h2; exact .inl timesB_bot'
        · rw [timesB_val h1 h2]; right; omega
theorem maxN_le {f : Nat → Int} {c : Int} : ∀ {k : Nat}, maxN f k ≤ c ↔ BOT ≤ c ∧ ∀ q, q < k → f q ≤ c
  | 0 => by simp only [maxN]; exact ⟨fun h => ⟨h, fun q hq => by omega⟩, fun h => h.1⟩
  | k + 1 => by
    rw [maxN_succ]
    have ih := maxN_le (f := f) (c := c) (k := k)
    constructor
    · intro h
      have h1 := ih.1 (by omega)
      exact ⟨h1.1, fun q hq => by
        by_cases e : q = k
        · subst e; omega
        · exact h1.2 q (by omega)⟩
    · intro ⟨h1, h2⟩
      have := ih.2 ⟨h1, fun q hq => h2 q (by omega)⟩
      have := h2 k (by omega)
      omega
theorem maxN_botW {f : Nat → Int} {k : Nat} : BOT ≤ maxN f k := (maxN_le.1 (Int.le_refl _)).1
theorem maxN_geW {f : Nat → Int} {k q : Nat} (h : q < k) : f q ≤ maxN f k := (maxN_le.1 (Int.le_refl _)).2 q h
theorem maxN_atW {f : Nat → Int} : ∀ {k : Nat}, maxN f k = BOT ∨ ∃ q, q < k ∧ maxN f k = f q
  | 0 => .inl rfl
  | k + 1 => by
    rw [maxN_succ]
    rcases maxN_atW (f := f) (k := k) with e | ⟨q, hq, e⟩
    · by_cases h : f k ≤ maxN f k
      · left; omega
      · right; exact ⟨k, by omega, by omega⟩
    · by_cases h : f k ≤ maxN f k
      · right; exact ⟨q, by omega, by omega⟩
      · right; exact ⟨k, by omega, by omega⟩
theorem apA_maxW {f : Nat → Nat → Int} {v : Nat → Int} {i : Nat} : ∀ {k : Nat}, apA f v i k = maxN (fun j => timesB (f i j) (v j)) k
  | 0 => rfl
  | k + 1 => by rw [maxN_succ, ← apA_maxW (k := k)]; rfl
theorem maxN_bv {f : Nat → Int} {B : Int} {k : Nat} (h : ∀ q, q < k → bvB B (f q)) : bvB B (maxN f k) := by
  rcases maxN_atW (f := f) (k := k) with e | ⟨q, hq, e⟩
  · exact .inl e
  · rw [e]; exact h q hq
theorem timesB_mono {a b c : Int} {B : Int} (hB : B < 400000000000000) (ha : bvB B a) (hb : bvB B b) (hc : bvB B c) (h : a ≤ b) : timesB a c ≤ timesB b c := by
  rcases ha with rfl | ha
  · rw [timesB_bot]
    rcases hb.times hc with e | e
    · rw [e]; exact Int.le_refl _
    · unfold BOT; omega
  · by_cases h1 : b = BOT
    · subst h1; unfold BOT at h; omega
    · by_cases h2 : c = BOT
      · subst h2; rw [timesB_bot', timesB_bot']; exact Int.le_refl _
      · by_cases h3 : a = BOT
        · subst h3; unfold BOT at ha; omega
        · rw [timesB_val h3 h2, timesB_val h1 h2]; omega
theorem timesB_assoc {a b c : Int} {B : Int} (hB : B < 200000000000000) (ha : bvB B a) (hb : bvB B b) (hc : bvB B c) : timesB (timesB a b) c = timesB a (timesB b c) := by
  by_cases h1 : a = BOT
  · subst h1; rw [timesB_bot, timesB_bot, timesB_bot]
  · by_cases h2 : b = BOT
    · subst h2; rw [timesB_bot', timesB_bot, timesB_bot']
    · by_cases h3 : c = BOT
      · subst h3; rw [timesB_bot', timesB_bot', timesB_bot']
      · have ha := ha.resolve_left h1
        have hb := hb.resolve_left h2
        have hc := hc.resolve_left h3
        rw [timesB_val h1 h2, timesB_val h2 h3, timesB_val (by unfold BOT; omega) h3, timesB_val h1 (by unfold BOT; omega)]
        omega
/-- A greatest one, and another number on its right. -/
theorem timesB_maxN {f : Nat → Int} {c B d : Int} {k : Nat} (hB : B < 200000000000000) (hf : ∀ q, q < k → bvB B (f q)) (hc : bvB B c) : timesB (maxN f k) c ≤ d ↔ BOT ≤ d ∧ ∀ q, q < k → timesB (f q) c ≤ d := by
  have hm := maxN_bv hf
  constructor
  · intro h
    refine ⟨?_, fun q hq => Int.le_trans (timesB_mono (by omega) (hf q hq) hm hc (maxN_geW hq)) h⟩
    rcases hm.times hc with e | e
    · rw [e] at h; exact h
    · unfold BOT; omega
  · intro ⟨h1, h2⟩
    rcases maxN_atW (f := f) (k := k) with e | ⟨q, hq, e⟩
    · rw [e, timesB_bot]; exact h1
    · rw [e]; exact h2 q hq
theorem timesB_commW {a b : Int} : timesB a b = timesB b a := by
  by_cases h1 : a = BOT
  · subst h1; rw [timesB_bot, timesB_bot']
  · by_cases h2 : b = BOT
    · subst h2; rw [timesB_bot, timesB_bot']
    · rw [timesB_val h1 h2, timesB_val h2 h1, Int.add_comm]
theorem le_ext {a b : Int} (h : ∀ c, a ≤ c ↔ b ≤ c) : a = b := Int.le_antisymm ((h b).2 (Int.le_refl _)) ((h a).1 (Int.le_refl _))
theorem entN_bv {t : List (List Int)} {n : Nat} (h : MatOk t n) (i j : Nat) : bvB 1000000 (entN t i j) := by
  by_cases e : entN t i j = BOT
  · exact .inl e
  · exact .inr (h.b j i e)
/-- The product applied is one matrix applied behind the other. -/
theorem step_mul {M t : List (List Int)} {n : Nat} (hM : MatOk M n) (ht : MatOk t n) {y : List Int} (hy : y.all isVal = true) (hl : y.length = n) : stepL (tabF n n (mulF M t n)) n y = stepL M n (stepL t n y) := by
  have hyv : ∀ j, j < n → bvB 1000000 (y.getD j 0) := fun j hj => isVal_at hy hl hj
  have hsv : ∀ q, q < n → (stepL t n y).getD q 0 = maxN (fun j => timesB (entN t q j) (y.getD j 0)) n := fun q hq => by
    unfold stepL
    rw [List.getD_eq_getElem?_getD, rowF_get hq, Option.getD_some, apA_maxW]
  show rowF n _ = rowF n _
  refine rowF_congr fun i hi => ?_
  rw [apA_maxW, apA_maxW]
  refine le_ext fun c => ?_
  rw [maxN_le, maxN_le]
  have hleft : ∀ j, j < n → (timesB (entN (tabF n n (mulF M t n)) i j) (y.getD j 0) ≤ c ↔ BOT ≤ c ∧ ∀ q, q < n → timesB (timesB (entN M i q) (entN t q j)) (y.getD j 0) ≤ c) := fun j hj => by
    rw [tabF_ent hi hj]
    exact timesB_maxN (B := 2000000) (by decide) (fun q hq => (entN_bv hM i q).times (entN_bv ht q j)) (by rcases hyv j hj with e | e; exact .inl e; exact .inr (by omega))
  have hright : ∀ q, q < n → (timesB (entN M i q) ((stepL t n y).getD q 0) ≤ c ↔ BOT ≤ c ∧ ∀ j, j < n → timesB (timesB (entN t q j) (y.getD j 0)) (entN M i q) ≤ c) := fun q hq => by
    rw [hsv q hq, timesB_commW]
    exact timesB_maxN (B := 2000000) (by decide) (fun j hj => (entN_bv ht q j).times (hyv j hj)) (by rcases entN_bv hM i q with e | e; exact .inl e; exact .inr (by omega))
  have hterm : ∀ q j, q < n → j < n → timesB (timesB (entN M i q) (entN t q j)) (y.getD j 0) = timesB (timesB (entN t q j) (y.getD j 0)) (entN M i q) := fun q j hq hj => by
    rw [timesB_assoc (B := 1000000) (by decide) (entN_bv hM i q) (entN_bv ht q j) (hyv j hj), timesB_commW]
  constructor
  · rintro ⟨h1, h2⟩
    exact ⟨h1, fun q hq => (hright q hq).2 ⟨h1, fun j hj => by rw [← hterm q j hq hj]; exact ((hleft j hj).1 (h2 j hj)).2 q hq⟩⟩
  · rintro ⟨h1, h2⟩
    exact ⟨h1, fun j hj => (hleft j hj).2 ⟨h1, fun q hq => by rw [hterm q j hq hj]; exact ((hright q hq).1 (h2 q hq)).2 j hj⟩⟩
theorem step_unit {n : Nat} {y : List Int} (hy : y.all isVal = true) (hl : y.length = n) : stepL (tabF n n unitF) n y = y := by
  refine Eq.trans (rowF_congr (g := fun j => y.getD j 0) fun i hi => ?_) (rowF_selfD hl)
  rw [apA_maxW]
  have hyv : ∀ j, j < n → bvB 1000000 (y.getD j 0) := fun j hj => isVal_at hy hl hj
  refine le_ext fun c => ?_
  rw [maxN_le]
  have ht : ∀ j, j < n → timesB (entN (tabF n n unitF) i j) (y.getD j 0) = if i = j then y.getD j 0 else BOT := fun j hj => by
    rw [tabF_ent hi hj]
    unfold unitF
    by_cases e : i = j
    · rw [if_pos e, if_pos e, timesB_0']
    · rw [if_neg e, if_neg e, timesB_bot]
  constructor
  · rintro ⟨h1, h2⟩
    have := h2 i hi
    rw [ht i hi, if_pos rfl] at this
    exact this
  · intro h
    have hb : BOT ≤ y.getD i 0 := by rcases hyv i hi with e | e; rw [e]; exact Int.le_refl _; unfold BOT; omega
    refine ⟨Int.le_trans hb h, fun j hj => ?_⟩
    rw [ht j hj]
    split
    · rename_i e; subst e; exact h
    · exact Int.le_trans hb h
/-- The matrix of a word, applied to a vector. -/
theorem word_mul {ms : List (List (List Int))} {n : Nat} (hok : ∀ t ∈ ms, MatOk t n) {y : List Int} (hy : y.all isVal = true) (hl : y.length = n) : ∀ {u : List Nat} {t A : List (List Int)} {z : List Int}, (∀ m ∈ u, m < ms.length) → MatOk t n → wmR ms n u t = some A → afR ms n u (stepL t n y) = some z → stepL A n y = z
  | [], t, A, z, _, _, h1, h2 => by
    simp only [wmR, afR] at h1 h2
    rw [← Option.some.inj h1]
    exact Option.some.inj h2
  | m :: u, t, A, z, hu, ht, h1, h2 => by
    have hm := hu m (by simp)
    have hget : ms[m]? = some (ms.getD m []) := getQ_atW hm
    have hMt := hok _ (List.mem_of_getElem? hget)
    simp only [wmR, afR] at h1 h2
    split at h1
    · rename_i ha
      split at h2
      · have hps : Sq (tabF n n (mulF (ms.getD m []) t n)) n := ⟨tabF_len, tabF_rc.r⟩
        exact word_mul hok hy hl (fun a ha => hu a (by simp [ha])) (allM_ok hps ht.pos ht.le ha) h1 (by rw [step_mul hMt ht hy hl]; exact h2)
      · cases h2
    · cases h1
end Go.Proofs.Ytdgodkpobomneaa
end

section
namespace Go.Proofs.Ytdgodkpobomneaa
set_option linter.unusedSimpArgs false
set_option linter.unusedVariables false
open Go Go.RowKit
attribute [local irreducible] AL AD AW OpOk Le AC thenQ blockQ EndQ

def extW (M : Nat) (w : List Nat) : List (List Nat) := (List.range M).map fun m => w ++ [m]
def wds (M : Nat) : Nat → List (List Nat)
  | 0 => [[]]
  | k + 1 => (wds M k).flatMap (extW M)
def nxW (M : Nat) (W : List (List Nat)) (i m : Nat) : List (List Nat) := (W.take i).flatMap (extW M) ++ (List.range m).map fun a => W.getD i [] ++ [a]
theorem nxW_step [Mode] {M i m : Nat} {W : List (List Nat)} : nxW M W i (m + 1) = nxW M W i m ++ [W.getD i [] ++ [m]] := by
  unfold nxW
  rw [List.range_succ, List.map_append, List.append_assoc]
  rfl
theorem nxW_row [Mode] {M i : Nat} {W : List (List Nat)} (hi : i < W.length) : nxW M W i M = nxW M W (i + 1) 0 := by
  unfold nxW
  rw [List.take_succ_eq_append_getElem hi, List.flatMap_append, List.getD_eq_getElem?_getD, List.getElem?_eq_getElem hi]
  simp [extW]
theorem nxW_all [Mode] {M : Nat} {W : List (List Nat)} : nxW M W W.length 0 = W.flatMap (extW M) := by
  unfold nxW; simp
theorem extW_len [Mode] {M : Nat} {w : List Nat} : (extW M w).length = M := by simp [extW]
theorem flat_lenW [Mode] {M : Nat} : ∀ {W : List (List Nat)}, (W.flatMap (extW M)).length = W.length * M
  | [] => by simp
  | w :: W => by rw [List.flatMap_cons, List.length_append, flat_lenW (W := W), extW_len, List.length_cons, Nat.add_mul]; omega
theorem wds_len [Mode] {M : Nat} : ∀ {k : Nat}, (wds M k).length = M ^ k
  | 0 => rfl
  | k + 1 => by show ((wds M k).flatMap (extW M)).length = _; rw [flat_lenW, wds_len (k := k), Nat.pow_succ]
theorem wds_mem [Mode] {M : Nat} : ∀ {k : Nat} {w : List Nat}, w ∈ wds M k → w.length = k ∧ ∀ m ∈ w, m < M
  | 0, w, h => by
    have : w = [] := by simpa [wds] using h
    subst this; simp
  | k + 1, w, h => by
    obtain ⟨v, h1, h2⟩ := List.mem_flatMap.1 (show w ∈ (wds M k).flatMap (extW M) from h)
    obtain ⟨m, h3, rfl⟩ := List.mem_map.1 h2
    obtain ⟨g1, g2⟩ := wds_mem h1
    rw [List.mem_range] at h3
    refine ⟨by simp [g1], fun a ha => ?_⟩
    rcases List.mem_append.1 ha with ha | ha
    · exact g2 a ha
    · simp at ha; omega
theorem mem_wds [Mode] {M : Nat} : ∀ {k : Nat} {w : List Nat}, w.length = k → (∀ m ∈ w, m < M) → w ∈ wds M k
  | 0, w, h, _ => by
    have : w = [] := List.length_eq_zero_iff.1 h
    subst this; simp [wds]
  | k + 1, w, h, hm => by
    have hne : w ≠ [] := fun e => by subst e; cases h
    have e := List.dropLast_concat_getLast hne
    refine List.mem_flatMap.2 ⟨w.dropLast, mem_wds (by rw [List.length_dropLast]; omega) (fun m h2 => hm m (List.dropLast_subset _ h2)), ?_⟩
    refine List.mem_map.2 ⟨w.getLast hne, List.mem_range.2 (hm _ (List.getLast_mem hne)), e⟩
abbrev TW (W : List (List Nat)) : List (List (List D)) := TR (W.map cN)
theorem TW_app [Mode] {W : List (List Nat)} {w : List Nat} : TW (W ++ [w]) = TW W ++ [IR (cN w)] := by simp [TW]
theorem TW_app2 [Mode] {W : List (List Nat)} {w : List Nat} {m : Nat} : TW (W ++ [w ++ [m]]) = TW W ++ [IR (cN w) ++ [[DI (m : Int)]]] := by rw [TW_app, cN_snoc]
theorem TW_get [Mode] {W : List (List Nat)} {i : Nat} (hi : i < W.length) : (TW W)[i]? = some (IR (cN (W.getD i []))) := by
  simp [TW, List.getElem?_eq_getElem hi]
set_option maxHeartbeats 4000000 in
theorem l25Words_ac [Mode] (ms : List (List (List Int))) (N : Nat) (hm : ms.length ≤ 4) (hN : N ≤ 6) : AC Try.prog 74 [QL ms, I N] H0 (own1 1 (wds ms.length N).length) (hpM 1 (TW (wds ms.length N))) := by
  have hmr : (QR ms).length = ms.length := by simp
  obtain ⟨M, hM⟩ : ∃ M, ms.length = M := ⟨_, rfl⟩
  rw [hM] at hm hmr ⊢
  refine AC.of_body 0 Try.func74 rfl (fun l h => absurd rfl h) (fun C hC => ?_)
  have hD : ∀ l, ¬ C.D0 l := fun l h => (hC l).1 h rfl
  simp only [startFr, Try.ntmps74, List.length_cons, List.length_nil, Nat.reduceAdd, Nat.reduceSub, List.replicate_succ, List.replicate_zero, List.cons_append, List.nil_append]
  repeat' (first | ((first | apply Ba | (apply Bb; (· rfl); (· rfl)) | (apply Bc; (· exact nxE)) | (apply Bd; (· rfl); (· rfl); (· exact nxE))); (· first | exact Ok.pe)) | ((first | apply Ca | (apply Cb; (· exact nxE))); (· first | exact Ok.e0)) | refine Sx ?_ | (refine Sy (fun h => ?_) (fun h => ?_) <;> try (exfalso; omega; done)) | refine Sz (fun h => ?_) (fun h => ?_))
  refine AW.loop (X := {s : Nat // s ≤ N}) (fun s => ⟨[QL ms, I (s.1 : Nat), Oo, Oo, Oo, .own 1 ⟨0, []⟩ 0 (wds M (N - s.1)).length, Oo, Oo, Oo, Oo, Oo, Oo, Oo, Oo, Oo, Oo, Oo, Oo, Oo, Oo, Oo, Oo, Oo, Oo, Oo, Oo, Oo, Oo, Oo, Oo, Oo, Oo, Oo, Oo, Oo, Oo, Oo, Oo, Oo, Oo, Oo], heapX [] [mi1 ⟨0, []⟩ (TW (wds M (N - s.1)))], 900⟩) (fun s => s.1) ⟨N, Nat.le_refl _⟩ ?_ (fun s => ?_)
  ·
    simp only [Nat.sub_self]
    (apply Le.headG [] [{ l := ⟨0, []⟩, k := 1, R := TW [[]], src := ⟨2, []⟩, base := ⟨2, []⟩, cut := 0, ext := some ⟨1, []⟩ }] (fun _ => False))
    (case' hlen => rfl)
    (case' hms => rfl)
    all_goals (try dsimp only [srcs])
    (case' hfr | hob => (repeat' (first | refine La ?_ ?_ | exact Lc | refine Lo ?_ | refine ⟨⟨_, rfl, ?_⟩, ?_⟩ | refine Lx ?_)))
    (case' hok => first | exact ⟨MI.ok_app (R := []) (r := []) rfl rfl rfl rfl (fun i x hx => by simp at hx) rfl, trivial⟩ | exact trivial)
    (case' hN => rfl)
    (case' hS => rfl)
    all_goals (first | exact Ld | ((first | rfl | (simp [AllP]; done) | (simp [AllP]; omega))))
  obtain ⟨s, hs⟩ := s
  simp only
  cases s with
  | zero =>
    rw [Nat.sub_zero]
    generalize wds M N = W at *
    repeat' (first | ((first | apply Ba | (apply Bb; (· rfl); (· rfl)) | (apply Bc; (· exact nxE)) | (apply Bd; (· rfl); (· rfl); (· exact nxE))); (· first | exact Ok.pe)) | ((first | apply Ca | (apply Cb; (· exact nxE))); (· first | exact Ok.e0)) | refine Sx ?_ | (refine Sy (fun h => ?_) (fun h => ?_) <;> try (exfalso; omega; done)) | refine Sz (fun h => ?_) (fun h => ?_))
    refine Ya ?_
    (apply Le.headG [] [{ l := ⟨0, []⟩, k := 1, R := TW W, src := ⟨0, []⟩, base := ⟨0, []⟩ }] (fun _ => False))
    (case' hlen => rfl)
    (case' hms => rfl)
    all_goals (try dsimp only [srcs])
    (case' hfr | hob => (repeat' (first | refine La ?_ ?_ | exact Lc | refine Lo ?_ | refine ⟨⟨_, rfl, ?_⟩, ?_⟩ | refine Lx ?_)))
    (case' hok => first | exact ⟨MI.ok_same rfl (Cg), trivial⟩ | exact trivial)
    (case' hN => rfl)
    (case' hS => rfl)
    all_goals (first | exact Ld | (rfl))
  | succ s =>
    have hnext : wds M (N - s) = (wds M (N - (s + 1))).flatMap (extW M) := by rw [show N - s = (N - (s + 1)) + 1 by omega]; rfl
    have hwl : (wds M (N - (s + 1))).length ≤ 4096 := by
      rw [wds_len]
      exact Nat.le_trans (Nat.pow_le_pow_left hm _) (Nat.le_trans (Nat.pow_le_pow_right (by decide) (show N - (s + 1) ≤ 6 by omega)) (by decide))
    have hrl : ∀ i, i < (wds M (N - (s + 1))).length → ((wds M (N - (s + 1))).getD i []).length ≤ 6 := fun i hi => by
      have h1 : (wds M (N - (s + 1))).getD i [] ∈ wds M (N - (s + 1)) := by rw [List.getD_eq_getElem?_getD, List.getElem?_eq_getElem hi]; exact List.getElem_mem _
      have := (wds_mem h1).1
      omega
    generalize wds M (N - (s + 1)) = W at *
    repeat' (first | ((first | apply Ba | (apply Bb; (· rfl); (· rfl)) | (apply Bc; (· exact nxE)) | (apply Bd; (· rfl); (· rfl); (· exact nxE))); (· first | exact Ok.pe)) | ((first | apply Ca | (apply Cb; (· exact nxE))); (· first | exact Ok.e0)) | refine Sx ?_ | (refine Sy (fun h => ?_) (fun h => ?_) <;> try (exfalso; omega; done)) | refine Sz (fun h => ?_) (fun h => ?_))
    refine AW.loop (X := {k : Nat // k ≤ W.length}) (fun k => ⟨[QL ms, I ((s : Nat) + 1 : Int), Oo, Oo, Oo, .own 1 ⟨0, []⟩ 0 W.length, .own 1 ⟨1, []⟩ 0 (nxW M W k.1 0).length, I (k.1 : Nat), Oo, Oo, Oo, Oo, Oo, Oo, Oo, Oo, Oo, Oo, Oo, Oo, Oo, Oo, Oo, Oo, Oo, Oo, Oo, Oo, Oo, Oo, Oo, Oo, Oo, Oo, Oo, Oo, Oo, Oo, Oo, Oo, Oo], heapX [] [mi1 ⟨0, []⟩ (TW W), mi1 ⟨1, []⟩ (TW (nxW M W k.1 0))], 900⟩) (fun k => W.length - k.1) ⟨0, Nat.zero_le _⟩ ?_ (fun k => ?_)
    ·
      (apply Le.headG [] [mi1 ⟨0, []⟩ (TW W), { l := ⟨1, []⟩, k := 1, R := [], src := ⟨902, []⟩, base := ⟨902, []⟩ }] (fun _ => False))
      (case' hlen => rfl)
      (case' hms => rfl)
      all_goals (try dsimp only [srcs])
      (case' hfr | hob => (repeat' (first | refine La ?_ ?_ | exact Lc | refine Lo ?_ | refine ⟨⟨_, rfl, ?_⟩, ?_⟩ | refine Lx ?_)))
      (case' hok => first | exact ⟨MI.ok_same rfl (Cg), MI.ok_same rfl (fun i x hx => by simp at hx), trivial⟩ | exact trivial)
      (case' hN => rfl)
      (case' hS => rfl)
      all_goals (first | exact Ld | (rfl))
    obtain ⟨i, hi⟩ := k
    simp only
    by_cases hlt : i < W.length
    case neg =>
      obtain rfl : i = W.length := by omega
      rw [nxW_all, ← hnext]
      repeat' (first | ((first | apply Ba | (apply Bb; (· rfl); (· rfl)) | (apply Bc; (· exact nxE)) | (apply Bd; (· rfl); (· rfl); (· exact nxE))); (· first | exact Ok.pe)) | ((first | apply Ca | (apply Cb; (· exact nxE))); (· first | exact Ok.e0)) | refine Sx ?_ | (refine Sy (fun h => ?_) (fun h => ?_) <;> try (exfalso; omega; done)) | refine Sz (fun h => ?_) (fun h => ?_))
      refine ⟨⟨s, by omega⟩, ?_, by simp only; omega⟩
      simp only
      (apply Le.headG [] [{ l := ⟨0, []⟩, k := 1, R := TW (wds M (N - s)), src := ⟨1, []⟩, base := ⟨1, []⟩ }] (fun _ => False))
      (case' hlen => rfl)
      (case' hms => rfl)
      all_goals (try dsimp only [srcs])
      (case' hfr | hob => (repeat' (first | refine La ?_ ?_ | exact Lc | refine Lo ?_ | refine ⟨⟨_, rfl, ?_⟩, ?_⟩ | refine Lx ?_)))
      (case' hok => first | exact ⟨MI.ok_same rfl (Cg), trivial⟩ | exact trivial)
      (case' hN => rfl)
      (case' hS => rfl)
      all_goals (first | exact Ld | (rfl))
    have hrow := TW_get hlt
    have hr6 := hrl i hlt
    have hstep := fun m => nxW_step (M := M) (i := i) (m := m) (W := W)
    have hrn := nxW_row (M := M) hlt
    have hnl : ∀ m, m ≤ M → (nxW M W i m).length ≤ 40000 := fun m hm2 => by
      unfold nxW
      rw [List.length_append, flat_lenW, List.length_take, List.length_map, List.length_range]
      have : min i W.length * M ≤ 4096 * 4 := Nat.mul_le_mul (by omega) hm
      omega
    repeat' (first | ((first | apply Ba | (apply Bb; (· rfl); (· rfl)) | (apply Bc; (· exact nxE)) | (apply Bd; (· rfl); (· rfl); (· exact nxE))); (· first | exact Ok.pe)) | ((first | apply Ca | (apply Cb; (· exact nxE))); (· first | exact Ok.e0)) | refine Sx ?_ | (refine Sy (fun h => ?_) (fun h => ?_) <;> try (exfalso; omega; done)) | refine Sz (fun h => ?_) (fun h => ?_))
    refine AW.loop (X := {k : Nat // k ≤ M}) (fun k => ⟨[QL ms, I ((s : Nat) + 1 : Int), Oo, Oo, Oo, .own 1 ⟨0, []⟩ 0 W.length, .own 1 ⟨1, []⟩ 0 (nxW M W i k.1).length, I i, I (k.1 : Nat), Oo, Oo, Oo, Oo, Oo, Oo, Oo, Oo, Oo, Oo, Oo, Oo, Oo, Oo, Oo, Oo, Oo, Oo, Oo, Oo, Oo, Oo, Oo, Oo, Oo, Oo, Oo, Oo, Oo, Oo, Oo, Oo], heapX [] [mi1 ⟨0, []⟩ (TW W), mi1 ⟨1, []⟩ (TW (nxW M W i k.1))], 900⟩) (fun k => M - k.1) ⟨0, Nat.zero_le _⟩ ?_ (fun k => ?_)
    ·
      (apply Le.headG [] [mi1 ⟨0, []⟩ (TW W), mi1 ⟨1, []⟩ (TW (nxW M W i 0))] (fun _ => False))
      (case' hlen => rfl)
      (case' hms => rfl)
      all_goals (try dsimp only [srcs])
      (case' hfr | hob => (repeat' (first | refine La ?_ ?_ | exact Lc | refine Lo ?_ | refine ⟨⟨_, rfl, ?_⟩, ?_⟩ | refine Lx ?_)))
      (case' hok => first | exact ⟨MI.ok_same rfl (Cg), MI.ok_same rfl (Cg), trivial⟩ | exact trivial)
      (case' hN => rfl)
      (case' hS => rfl)
      all_goals (first | exact Ld | (rfl))
    obtain ⟨m, hm2⟩ := k
    simp only
    by_cases hlt2 : m < M
    case neg =>
      obtain rfl : m = M := by omega
      rw [hrn]
      repeat' (first | ((first | apply Ba | (apply Bb; (· rfl); (· rfl)) | (apply Bc; (· exact nxE)) | (apply Bd; (· rfl); (· rfl); (· exact nxE))); (· first | exact Ok.lenD rfl rfl hmr | exact Ok.pe)) | ((first | apply Ca | (apply Cb; (· exact nxE))); (· first | exact Ok.e0)) | refine Sx ?_ | (refine Sy (fun h => ?_) (fun h => ?_) <;> try (exfalso; omega; done)) | refine Sz (fun h => ?_) (fun h => ?_))
      refine ⟨⟨i + 1, by omega⟩, ?_, by simp only; omega⟩
      (apply Le.headG [] [mi1 ⟨0, []⟩ (TW W), mi1 ⟨1, []⟩ (TW (nxW m W (i + 1) 0))] (fun _ => False))
      (case' hlen => rfl)
      (case' hms => rfl)
      all_goals (try dsimp only [srcs])
      (case' hfr | hob => (repeat' (first | refine La ?_ ?_ | exact Lc | refine Lo ?_ | refine ⟨⟨_, rfl, ?_⟩, ?_⟩ | refine Lx ?_)))
      (case' hok => first | exact ⟨MI.ok_same rfl (Cg), MI.ok_same rfl (Cg), trivial⟩ | exact trivial)
      (case' hN => rfl)
      (case' hS => rfl)
      all_goals (first | exact Ld | (rfl))
    have hs1 := hstep m
    have hn2 := hnl m hm2
    clear hstep hnl hrn
    generalize nxW M W i m = Z at *
    generalize W.getD i [] = w at *
    have hO := l01Own_ac (cN w) (by simp; omega)
    have hrw : (IR (cN w)).length = (cN w).length := IR_len
    have hwl6 : (cN w).length ≤ 6 := by simpa [cN] using hr6
    have hZl : (TW Z).length = Z.length := by simp
    repeat' (first | ((first | apply Ba | (apply Bb; (· rfl); (· rfl)) | (apply Bc; (· exact nxE)) | (apply Bd; (· rfl); (· rfl); (· exact nxE))); (· first | exact Ok.lenD rfl rfl hmr | exact Ok.ldTn rfl rfl rfl hrow hrw | exact Eo rfl rfl hO (CA.w (congrArg (Option.map (dobj 1)) hrow) hrw Sn) | exact Ok.append1 (row := [DI m]) rfl rfl (by decide) rfl rfl hrw rfl rfl rfl (by rfl) (by omega) (by omega) | exact Ok.appendT rfl rfl (by decide) rfl rfl rfl (by rw [outer_len, hZl]; rfl) rfl rfl (by rfl) (by omega) (by omega) rfl | exact Ok.pe)) | ((first | apply Ca | (apply Cb; (· exact nxE))); (· first | exact Eo rfl rfl hO (CA.w (congrArg (Option.map (dobj 1)) hrow) hrw Sn) | exact Ok.append1 (row := [DI m]) rfl rfl (by decide) rfl rfl hrw rfl rfl rfl (by rfl) (by omega) (by omega) | exact Ok.appendT rfl rfl (by decide) rfl rfl rfl (by rw [outer_len, hZl]; rfl) rfl rfl (by rfl) (by omega) (by omega) rfl | exact Ok.e0)) | refine Sx ?_ | (refine Sy (fun h => ?_) (fun h => ?_) <;> try (exfalso; omega; done)) | refine Sz (fun h => ?_) (fun h => ?_))
    refine ⟨⟨m + 1, by omega⟩, ?_, by simp only; omega⟩
    simp only
    rw [hs1, show (Z ++ [w ++ [m]]).length = Z.length + 1 by simp]
    (apply Le.headG [] [mi1 ⟨0, []⟩ (TW W), { l := ⟨1, []⟩, k := 1, R := TW (Z ++ [w ++ [m]]), src := ⟨914, []⟩, base := ⟨1, []⟩, cut := Z.length, ext := some ⟨912, []⟩ }] (fun _ => False))
    (case' hlen => rfl)
    (case' hms => rfl)
    all_goals (try dsimp only [srcs])
    (case' hfr | hob => (repeat' (first | refine La ?_ ?_ | exact Lc | refine Lo ?_ | refine ⟨⟨_, rfl, ?_⟩, ?_⟩ | refine Lx ?_)))
    (case' hok => first | exact ⟨MI.ok_same rfl (Cg), MI.ok_app TW_app2 hZl (by simp) rfl (Cg) rfl, trivial⟩ | exact trivial)
    (case' hN => rfl)
    (case' hS => rfl)
    all_goals (first | exact Ld | ((first | rfl | (simp [AllP]; done) | (simp [AllP]; omega))))
end Go.Proofs.Ytdgodkpobomneaa
end
