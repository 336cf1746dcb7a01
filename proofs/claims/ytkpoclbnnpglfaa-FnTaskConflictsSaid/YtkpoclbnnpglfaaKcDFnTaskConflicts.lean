/-
  The law FnTaskConflicts, in the abstract reading.
-/
import Derived.Test.YtkpoclbnnpglfaaKcE97
import Derived.Test.YtkpoclbnnpglfaaKcU13
namespace Go.Proofs.Ytkpoclbnnpglfaa
set_option linter.unusedSimpArgs false
set_option linter.unusedVariables false
open Go Go.RowKit
attribute [local irreducible] AL AD AW OpOk Le AC thenQ blockQ EndQ

/-! ### The plain law -/
theorem erC_sq [Mode] {ws : List Wn} {bs : List Bn} (h : isTk ws bs = true) (hnp : NoPos (entN (tkT ws bs)) ws.length) : erC ws bs = 0 ∧ (∀ f t, f < ws.length → t < ws.length → ¬ sqP ws bs f t) ∨ erC ws bs = 4 ∧ ∃ f t, f < ws.length ∧ t < ws.length ∧ sqP ws bs f t := by
  have h3 := loF_rng (isTk_ok h).2.2.1
  by_cases hq : ∀ i, i < ws.length → eaF ws bs i ≤ hiF ws i
  · left
    refine ⟨by unfold erC; rw [if_pos h, if_pos ⟨hnp, hq⟩], fun f t hf ht hs => ?_⟩
    have h1 := hq t ht
    unfold eaF at h1
    rw [apA_max] at h1
    have h2 := maxN_ge (f := fun j => timesB (starF (entN (tkT ws bs)) ws.length t j) (loF ws j)) hf
    have h4 := h3 f
    have e : timesB (starF (entN (tkT ws bs)) ws.length t f) (loF ws f) = starF (entN (tkT ws bs)) ws.length t f + loF ws f := timesB_ne hs.1 (by unfold BOT; omega)
    have h5 := hs.2
    simp only [e] at h2
    omega
  · right
    refine ⟨by unfold erC; rw [if_pos h, if_neg fun h => hq h.2], ?_⟩
    apply Classical.byContradiction
    intro hn
    apply hq
    intro i hi
    unfold eaF
    rw [apA_max]
    rcases maxN_at (f := fun j => timesB (starF (entN (tkT ws bs)) ws.length i j) (loF ws j)) (n := ws.length) with e | ⟨j, hj, e⟩
    · rw [e]; have := (h3 i).2; unfold BOT; omega
    · rw [e]
      by_cases hb : timesB (starF (entN (tkT ws bs)) ws.length i j) (loF ws j) = BOT
      · simp only [hb]; have := (h3 i).2; unfold BOT; omega
      · obtain ⟨b1, b2, b3⟩ := timesB_ne_iff hb
        simp only [b3]
        apply Classical.byContradiction
        intro hgt
        exact hn ⟨j, i, hj, hi, b1, by omega⟩
/-- The greatest bond of an arc, bond by bond. -/
theorem bm_step [Mode] {n : Nat} {bs : List Bn} {i u v : Nat} {b : Bn} (hb : ∀ b ∈ bs, bdB n b) (hi : bs[i]? = some b) : entN ((bs.take (i + 1)).foldl bmS (botT n n)) v u = if b.t = (v : Nat) ∧ b.f = (u : Nat) then max (entN ((bs.take i).foldl bmS (botT n n)) v u) b.l else entN ((bs.take i).foldl bmS (botT n n)) v u := by
  rw [take_fold hi]
  obtain ⟨⟨g1, g2⟩, ⟨g3, g4⟩, g5, g6⟩ := hb b (List.mem_of_getElem? hi)
  have hsq : Sq ((bs.take i).foldl bmS (botT n n)) n := bm_sqF (Sq.bot n)
  generalize (bs.take i).foldl bmS (botT n n) = T at *
  show entN (setT T b.t.toNat b.f.toNat (max (entN T b.t.toNat b.f.toNat) b.l)) v u = _
  rw [entN_setT hsq (by omega) (by omega)]
  by_cases e : b.t = (v : Nat) ∧ b.f = (u : Nat)
  · obtain ⟨e1, e2⟩ := e
    have a1 : b.t.toNat = v := by omega
    have a2 : b.f.toNat = u := by omega
    rw [if_pos (show v = b.t.toNat ∧ u = b.f.toNat from ⟨a1.symm, a2.symm⟩), if_pos (show b.t = ((v : Nat) : Int) ∧ b.f = ((u : Nat) : Int) from ⟨e1, e2⟩), a1, a2]
  · rw [if_neg (show ¬ (v = b.t.toNat ∧ u = b.f.toNat) from fun h => e ⟨by omega, by omega⟩), if_neg e]
theorem bm_bndk [Mode] {n : Nat} {bs : List Bn} (hb : ∀ b ∈ bs, bdB n b) {u v : Nat} (hu : u < n) (hv : v < n) (i : Nat) : entN ((bs.take i).foldl bmS (botT n n)) v u = BOT ∨ (-1000000 ≤ entN ((bs.take i).foldl bmS (botT n n)) v u ∧ entN ((bs.take i).foldl bmS (botT n n)) v u ≤ 1000000) :=
  bm_bndF (Sq.bot n) (fun b hx => hb b (List.mem_of_mem_take hx)) (fun i j hi hj => .inl (entN_bot hi hj)) v u hv hu
abbrev moF (e : Int) : Int := if e = BOT then 0 else e
abbrev fdF (e : Int) : Bool := !(decide (e = BOT))
/-! ### The walks -/
set_option maxRecDepth 100000 in
set_option maxHeartbeats 4000000 in
theorem tcWalk0 [Mode] (code : List Int) (hbig : ¬ 4096 < (code.length : Int)) (ws : List Wn) (bs : List Bn) (y e : List Int) (hBig : AC Try.prog 5 [.d (BD code)] H0 (Bo (decide (4096 < (code.length : Int)))) H0) (bad one three : Int) (b : Bool)
    (hDr : AC Try.prog 6 [.d (BD code)] H0 (.tup [WNL ws, BNL bs]) H0) (hQ1 : AC Try.prog 7 [WNL ws, BNL bs] H0 (.tup [IL [], I bad]) H0) (hQ2 : AC Try.prog 8 [WNL ws, BNL bs] H0 (.tup [IL [], I bad]) H0)
    (hT1 : AC Try.prog 9 [WNL ws, BNL bs] H0 (.tup [IL y, I one]) H0) (hT2 : AC Try.prog 10 [WNL ws, BNL bs] H0 (.tup [IL y, I one]) H0) (hE : AC Try.prog 11 [WNL ws, BNL bs] H0 (.tup [IL e, I three]) H0)
    (hL0 : AC Try.prog 12 [IL [], IL []] H0 (Bo true) H0) (hL : AC Try.prog 12 [IL y, IL y] H0 (Bo true) H0) (hK1 : AC Try.prog 13 [WNL ws, BNL bs] H0 (Bo b) H0) (hK2 : AC Try.prog 14 [WNL ws, BNL bs] H0 (Bo b) H0)
    (hcase : (bad = 1 ∧ one = 1 ∧ three = 1) ∨ (bad = 5 ∧ one = 0 ∧ three = 4) ∨ (bad = 4 ∧ one = 4 ∧ three = 0)) : AC Try.prog 3 [.d (BD code)] H0 (Bo true) H0 := by
  rw [decide_eq_false hbig] at hBig
  rcases hcase with ⟨rfl, rfl, rfl⟩ | ⟨rfl, rfl, rfl⟩ | ⟨rfl, rfl, rfl⟩
  all_goals
    cases b
  all_goals
    refine AC.of_body 0 Try.func3 rfl (fun l h => absurd rfl h) (fun C hC => ?_)
    have hD : ∀ l, ¬ C.D0 l := fun l h => (hC l).1 h rfl
    simp only [startFr, Try.ntmps3, List.length_cons, List.length_nil, Nat.reduceAdd, Nat.reduceSub, List.replicate_succ, List.replicate_zero, List.cons_append, List.nil_append]
    repeat' (first | ((first | apply Ba | (apply Bb; (· rfl); (· rfl)) | (apply Bc; (· exact nxE)) | (apply Bd; (· rfl); (· rfl); (· exact nxE))); (· first | exact Kz rfl rfl (hBig) (Ad An) | exact Kz rfl rfl (hDr) (Ad An) | exact Kz rfl rfl (hQ1) (Ad (Ad An)) | exact Kz rfl rfl (hQ2) (Ad (Ad An)) | exact Kz rfl rfl (hT1) (Ad (Ad An)) | exact Kz rfl rfl (hT2) (Ad (Ad An)) | exact Kz rfl rfl (hE) (Ad (Ad An)) | exact Kz rfl rfl (hL0) (Ad (Ad An)) | exact Kz rfl rfl (hL) (Ad (Ad An)) | exact Kz rfl rfl (hK1) (Ad (Ad An)) | exact Kz rfl rfl (hK2) (Ad (Ad An)) | exact Ok.lenD rfl rfl WN_len | exact Ok.lenD rfl rfl BN_len | exact Ok.pe)) | ((first | apply Ca | (apply Cb; (· exact nxE))); (· first | exact Ok.e0)) | refine Sx ?_ | (refine Sy (fun h => ?_) (fun h => ?_) <;> try (exfalso; omega; done)) | refine Sz (fun h => ?_) (fun h => ?_))
    refine Ya ?_
    (apply Le.headZ (hs := []) [] rfl)
    all_goals (try dsimp only [srcs])
    (case' hfr => (repeat' (first | refine La ?_ ?_ | exact Lc | refine Lo ?_ | refine ⟨⟨_, rfl, ?_⟩, ?_⟩ | refine Lx ?_)))
    all_goals (first | exact Ld | exact trivial | (rfl))
set_option maxRecDepth 100000 in
set_option maxHeartbeats 8000000 in
theorem tcWalk1 [Mode] (code : List Int) (hbig : ¬ 4096 < (code.length : Int)) (ws : List Wn) (bs : List Bn) (e : List Int) (hBig : AC Try.prog 5 [.d (BD code)] H0 (Bo (decide (4096 < (code.length : Int)))) H0) (f z : Nat) (pth : List Nat)
    (hDr : AC Try.prog 6 [.d (BD code)] H0 (.tup [WNL ws, BNL bs]) H0) (hQ1 : AC Try.prog 7 [WNL ws, BNL bs] H0 (.tup [IL (cN (f :: pth)), I 0]) H0) (hQ2 : AC Try.prog 8 [WNL ws, BNL bs] H0 (.tup [IL (cN (f :: pth)), I 0]) H0)
    (hT1 : AC Try.prog 9 [WNL ws, BNL bs] H0 (.tup [IL [], I 4]) H0) (hT2 : AC Try.prog 10 [WNL ws, BNL bs] H0 (.tup [IL [], I 4]) H0) (hE : AC Try.prog 11 [WNL ws, BNL bs] H0 (.tup [IL e, I 4]) H0)
    (hL0 : AC Try.prog 12 [IL [], IL []] H0 (Bo true) H0) (hL : AC Try.prog 12 [IL (cN (f :: pth)), IL (cN (f :: pth))] H0 (Bo true) H0) (hK1 : AC Try.prog 13 [WNL ws, BNL bs] H0 (Bo true) H0) (hK2 : AC Try.prog 14 [WNL ws, BNL bs] H0 (Bo true) H0)
    (hn : ws.length ≤ 10) (hbl : bs.length ≤ 30) (hbb : ∀ b ∈ bs, bdB ws.length b) (hrg : ∀ i, (0 ≤ loF ws i ∧ loF ws i ≤ 1000000) ∧ (0 ≤ hiF ws i ∧ hiF ws i ≤ 1000000)) (hf : f < ws.length) (hpx : ∀ x ∈ pth, x < ws.length) (hpl : pth.length ≤ 10) (hp : kP (entN (bmT ws.length bs)) f pth) (hez : kE f pth = z) (hall : ∀ u v, entN (bmT ws.length bs) v u ≠ BOT → -1000000 ≤ entN (bmT ws.length bs) v u ∧ entN (bmT ws.length bs) v u ≤ 1000000)
    (hsq : hiF ws z < loF ws f + kW (entN (bmT ws.length bs)) f pth) : AC Try.prog 3 [.d (BD code)] H0 (Bo true) H0 := by
  rw [decide_eq_false hbig] at hBig
  have hlg : ∀ i, i < ws.length → ∃ w, ws[i]? = some w ∧ loF ws i = w.lo ∧ hiF ws i = w.hi := fun i hi => by
    obtain ⟨w, hw⟩ : ∃ w, ws[i]? = some w := ⟨ws[i], List.getElem?_eq_getElem hi⟩
    exact ⟨w, hw, loF_at hw, hiF_at hw⟩
  obtain ⟨w0, hw0, e1, e2⟩ := hlg f hf
  have hrow0 : (ws.map Wn.row)[((f : Nat) : Int).toNat]? = some [DI w0.lo, DI w0.hi] := row_get hw0
  have hxl : (IR (cN (f :: pth))).length = pth.length + 1 := by simp
  have hnd : ∀ k, k ≤ pth.length → kE f (pth.take k) < ws.length ∧ (IR (cN (f :: pth)))[((k : Nat) : Int).toNat]? = some [DI (kE f (pth.take k) : Nat)] := fun k hk => by
    refine ⟨kE_lt hf fun x hx => hpx x (List.mem_of_mem_take hx), ?_⟩
    rw [Int.toNat_natCast]
    have := kE_take (f := f) (r := pth) hk
    simp only [IR, cN, List.getElem?_map, this, Option.map_some]
  have hx0 := (hnd 0 (by omega)).2
  have hbnk := fun k => kW_bnd (M := 1000000) (W := entN (bmT ws.length bs)) (fun u v h => hall u v h) (l := pth.take k) (u := f)
  rw [e1] at hsq
  have hw0b := hrg f
  rw [e1] at hw0b
  refine AC.of_body 0 Try.func3 rfl (fun l h => absurd rfl h) (fun C hC => ?_)
  have hD : ∀ l, ¬ C.D0 l := fun l h => (hC l).1 h rfl
  simp only [startFr, Try.ntmps3, List.length_cons, List.length_nil, Nat.reduceAdd, Nat.reduceSub, List.replicate_succ, List.replicate_zero, List.cons_append, List.nil_append]
  repeat' (first | ((first | apply Ba | (apply Bb; (· rfl); (· rfl)) | (apply Bc; (· exact nxE)) | (apply Bd; (· rfl); (· rfl); (· exact nxE))); (· first | exact Kz rfl rfl (hBig) (Ad An) | exact Kz rfl rfl (hDr) (Ad An) | exact Kz rfl rfl (hQ1) (Ad (Ad An)) | exact Kz rfl rfl (hQ2) (Ad (Ad An)) | exact Kz rfl rfl (hT1) (Ad (Ad An)) | exact Kz rfl rfl (hT2) (Ad (Ad An)) | exact Kz rfl rfl (hE) (Ad (Ad An)) | exact Kz rfl rfl (hL) (Ad (Ad An)) | exact Kz rfl rfl (hL0) (Ad (Ad An)) | exact Kz rfl rfl (hK1) (Ad (Ad An)) | exact Kz rfl rfl (hK2) (Ad (Ad An)) | exact Ok.lenD rfl rfl WN_len | exact Ok.lenD rfl rfl BN_len | exact Ok.pe)) | ((first | apply Ca | (apply Cb; (· exact nxE))); (· first | exact Ok.e0)) | refine Sx ?_ | (refine Sy (fun h => ?_) (fun h => ?_) <;> try (exfalso; omega; done)) | refine Sz (fun h => ?_) (fun h => ?_))
  refine AW.loop (X := {k : Nat // k ≤ pth.length}) (fun k => ⟨[Oo, Oo, Oo, WNL ws, BNL bs, IL (cN (f :: pth)), Oo, IL (cN (f :: pth)), Oo, Oo, Oo, Oo, Oo, Oo, Oo, I (w0.lo + kW (entN (bmT ws.length bs)) f (pth.take (k.1 : Nat))), I ((k.1 : Nat) + 1), Oo, Oo, Oo, Oo, Oo, Oo, Oo, Oo, Oo, Oo, Oo, Oo, Oo, Oo, Oo, Oo, Oo, Oo, Oo, Oo, Oo, Oo, Oo, Oo, Oo, Oo, Oo, Oo, Oo, Oo, Oo, Oo, Oo, Oo, Oo, Oo, Oo, Oo, Oo, Oo, Oo, Oo, Oo, Oo, Oo, Oo, Oo, Oo, Oo, Oo, Oo, Oo, Oo, Oo, Oo, Oo, Oo, Oo, Oo, Oo, Oo, Oo, Oo, Oo, Oo, Oo, Oo, Oo, Oo, Oo, Oo, Oo, Oo, Oo, Oo, Oo, Oo, Oo, Oo, Oo, Oo, Oo, Oo, Oo, Oo, Oo, Oo, Oo, Oo, Oo, Oo, Oo, Oo, Oo, Oo, Oo, Oo, Oo, Oo, Oo, Oo, Oo, Oo, Oo, Oo, Oo, Oo, Oo, Oo, Oo, Oo, Oo, Oo, Oo, Oo, Oo, Oo, Oo, Oo, Oo, Oo, Oo, Oo, Oo, Oo, Oo, Oo, Oo, Oo, Oo, Oo, Oo, Oo, Oo, Oo, Oo, Oo, Oo, Oo, Oo, Oo, Oo, Oo, Oo, Oo, Oo, Oo, Oo, Oo, Oo, Oo, Oo, Oo, Oo, Oo, Oo, Oo, Oo, Oo, Oo, Oo, Oo, Oo, Oo, Oo, Oo, Oo, Oo, Oo, Oo], heapL [], 900⟩) (fun k => pth.length - k.1) ⟨0, Nat.zero_le _⟩ ?_ (fun k => ?_)
  ·
    have e0 : w0.lo + kW (entN (bmT ws.length bs)) f (pth.take 0) = w0.lo := by simp [kW]
    rw [e0]
    (apply Le.headZ [] rfl)
    all_goals (try dsimp only [srcs])
    (case' hfr | hob => (repeat' (first | refine La ?_ ?_ | exact Lc | refine Lo ?_ | refine ⟨⟨_, rfl, ?_⟩, ?_⟩ | refine Lx ?_)))
    all_goals (first | (rfl) | exact Ld)
  obtain ⟨c, hk⟩ := k
  simp only
  obtain ⟨u1, u2⟩ := hnd c (by omega)
  have hkl : ((pth.take c).length : Int) ≤ 10 := by have := List.length_take_le c pth; omega
  by_cases hlt : c < pth.length
  · obtain ⟨v, hv⟩ : ∃ v, pth[c]? = some v := ⟨pth[c], List.getElem?_eq_getElem hlt⟩
    obtain ⟨v1, v2⟩ := hnd (c + 1) (by omega)
    have hv' : kE f (pth.take (c + 1)) = v := by
      have ht : pth.take (c + 1) = pth.take c ++ [v] := by rw [List.take_add_one, hv]; rfl
      rw [ht, kE_app]; rfl
    obtain ⟨hW, hpk⟩ := kP_at hp hv
    have hkw := kW_take (W := entN (bmT ws.length bs)) (f := f) hv
    have hb1 := hbnk c hpk
    rw [hv'] at v1 v2
    have hWb := hall _ _ hW
    obtain ⟨u, hu⟩ : ∃ u, kE f (pth.take c) = u := ⟨_, rfl⟩
    rw [hu] at u1 u2 hW hkw hWb
    have hend : bmT ws.length bs = (bs.take bs.length).foldl bmS (botT ws.length ws.length) := by rw [List.take_length]; rfl
    have hst := fun i b (h : bs[i]? = some b) => bm_step (u := u) (v := v) hbb h
    have hbk := fun i => bm_bndk hbb u1 v1 i
    have he0 : entN ((bs.take 0).foldl bmS (botT ws.length ws.length)) v u = BOT := entN_bot v1 u1
    have heW : entN ((bs.take bs.length).foldl bmS (botT ws.length ws.length)) v u = entN (bmT ws.length bs) v u := by rw [← hend]
    obtain ⟨ef, hef⟩ : ∃ ef : Nat → Int, ∀ i, entN ((bs.take i).foldl bmS (botT ws.length ws.length)) v u = ef i := ⟨_, fun _ => rfl⟩
    simp only [hef] at hst hbk he0 heW
    generalize kW (entN (bmT ws.length bs)) f (pth.take c) = wk at *
    generalize entN (bmT ws.length bs) v u = wa at *
    clear hef hend
    repeat' (first | ((first | apply Ba | (apply Bb; (· rfl); (· rfl)) | (apply Bc; (· exact nxE)) | (apply Bd; (· rfl); (· rfl); (· exact nxE))); (· first | exact Ok.lenD rfl rfl hxl | exact Ok.lenD rfl rfl WN_len | exact Ok.lenD rfl rfl BN_len | exact Ok.pe)) | ((first | apply Ca | (apply Cb; (· exact nxE))); (· first | exact Ok.e0)) | refine Sx ?_ | (refine Sy (fun h => ?_) (fun h => ?_) <;> try (exfalso; omega; done)) | refine Sz (fun h => ?_) (fun h => ?_))
    refine AW.loop (X := {k : Nat // k ≤ bs.length}) (fun k => ⟨[Oo, Oo, Oo, WNL ws, BNL bs, IL (cN (f :: pth)), Oo, IL (cN (f :: pth)), Oo, Oo, Oo, Oo, Oo, Oo, Oo, I (w0.lo + wk), I (c + 1), I (moF (ef (k.1 : Nat))), Bo (fdF (ef (k.1 : Nat))), I (k.1 : Nat), Oo, Oo, Oo, Oo, Oo, Oo, Oo, Oo, Oo, Oo, Oo, Oo, Oo, Oo, Oo, Oo, Oo, Oo, Oo, Oo, Oo, Oo, Oo, Oo, Oo, Oo, Oo, Oo, Oo, Oo, Oo, Oo, Oo, Oo, Oo, Oo, Oo, Oo, Oo, Oo, Oo, Oo, Oo, Oo, Oo, Oo, Oo, Oo, Oo, Oo, Oo, Oo, Oo, Oo, Oo, Oo, Oo, Oo, Oo, Oo, Oo, Oo, Oo, Oo, Oo, Oo, Oo, Oo, Oo, Oo, Oo, Oo, Oo, Oo, Oo, Oo, Oo, Oo, Oo, Oo, Oo, Oo, Oo, Oo, Oo, Oo, Oo, Oo, Oo, Oo, Oo, Oo, Oo, Oo, Oo, Oo, Oo, Oo, Oo, Oo, Oo, Oo, Oo, Oo, Oo, Oo, Oo, Oo, Oo, Oo, Oo, Oo, Oo, Oo, Oo, Oo, Oo, Oo, Oo, Oo, Oo, Oo, Oo, Oo, Oo, Oo, Oo, Oo, Oo, Oo, Oo, Oo, Oo, Oo, Oo, Oo, Oo, Oo, Oo, Oo, Oo, Oo, Oo, Oo, Oo, Oo, Oo, Oo, Oo, Oo, Oo, Oo, Oo, Oo, Oo, Oo, Oo, Oo, Oo, Oo, Oo, Oo, Oo, Oo, Oo, Oo, Oo], heapL [], 900⟩) (fun k => bs.length - k.1) ⟨0, Nat.zero_le _⟩ ?_ (fun k => ?_)
    ·
      rw [he0]
      (apply Le.headZ [] rfl)
      all_goals (try dsimp only [srcs])
      (case' hfr | hob => (repeat' (first | refine La ?_ ?_ | exact Lc | refine Lo ?_ | refine ⟨⟨_, rfl, ?_⟩, ?_⟩ | refine Lx ?_)))
      all_goals (first | (rfl) | exact Ld)
    obtain ⟨i, hi⟩ := k
    simp only
    by_cases hli : i < bs.length
    · obtain ⟨b, hbi⟩ : ∃ b, bs[i]? = some b := ⟨bs[i], List.getElem?_eq_getElem hli⟩
      have hrow : (bs.map Bn.row)[((i : Nat) : Int).toNat]? = some [DI b.f, DI b.t, DI b.l] := row_get hbi
      obtain ⟨⟨a1, a2⟩, ⟨a3, a4⟩, a5, a6⟩ := hbb b (List.mem_of_getElem? hbi)
      have st := hst i b hbi
      have hk1 := hbk i
      have hu2 : (IR (cN (f :: pth)))[(((c : Nat) : Int) + 1 - 1).toNat]? = some [DI (u : Nat)] := by rw [show (((c : Nat) : Int) + 1 - 1) = ((c : Nat) : Int) by omega]; exact u2
      have hv2 : (IR (cN (f :: pth)))[(((c : Nat) : Int) + 1).toNat]? = some [DI (v : Nat)] := by rw [show (((c : Nat) : Int) + 1) = ((c + 1 : Nat) : Int) by omega]; exact v2
      by_cases hm : b.t = (v : Nat) ∧ b.f = (u : Nat)
      · rw [if_pos hm] at st
        obtain ⟨m1, m2⟩ := hm
        by_cases he : ef i = BOT
        · have st2 : ef (i + 1) = b.l := by rw [st, he]; unfold BOT; omega
          have q1 : moF (ef i) = 0 := if_pos he
          have q2 : fdF (ef i) = false := by simp [fdF, he]
          have q3 : moF (ef (i + 1)) = b.l := by rw [st2]; exact if_neg (by unfold BOT; omega)
          have q4 : fdF (ef (i + 1)) = true := by
            have : b.l ≠ BOT := by unfold BOT; omega
            simp [fdF, st2, this]
          rw [q1, q2]
          repeat' (first | ((first | apply Ba | (apply Bb; (· rfl); (· rfl)) | (apply Bc; (· exact nxE)) | (apply Bd; (· rfl); (· rfl); (· exact nxE))); (· first | exact Ok.lenD rfl rfl hxl | exact Ok.lenD rfl rfl WN_len | exact Ok.lenD rfl rfl BN_len | exact Ok.pe)) | ((first | apply Ca | (apply Cb; (· exact nxE))); (· first | exact Ok.e0)) | refine Sx ?_ | (refine Sy (fun h => ?_) (fun h => ?_) <;> try (exfalso; omega; done)) | refine Sz (fun h => ?_) (fun h => ?_))
          refine ⟨⟨i + 1, by omega⟩, ?_, by simp only; omega⟩
          rw [q3, q4]
          (apply Le.headZ [] rfl)
          all_goals (try dsimp only [srcs])
          (case' hfr | hob => (repeat' (first | refine La ?_ ?_ | exact Lc | refine Lo ?_ | refine ⟨⟨_, rfl, ?_⟩, ?_⟩ | refine Lx ?_)))
          all_goals (first | (rfl) | exact Ld)
        · have hk2 := hk1.resolve_left he
          have q1 : moF (ef i) = ef i := if_neg he
          have q2 : fdF (ef i) = true := by simp [fdF, he]
          have q4 : fdF (ef (i + 1)) = true := by
            have : ef (i + 1) ≠ BOT := by rw [st]; unfold BOT at he ⊢; omega
            simp [fdF, this]
          have q3 : moF (ef (i + 1)) = max (ef i) b.l := by rw [st]; exact if_neg (by unfold BOT at he ⊢; omega)
          rw [q1, q2]
          by_cases hgt : ef i < b.l
          · rw [show max (ef i) b.l = b.l by omega] at q3
            generalize ef i = x at *
            repeat' (first | ((first | apply Ba | (apply Bb; (· rfl); (· rfl)) | (apply Bc; (· exact nxE)) | (apply Bd; (· rfl); (· rfl); (· exact nxE))); (· first | exact Ok.lenD rfl rfl hxl | exact Ok.lenD rfl rfl WN_len | exact Ok.lenD rfl rfl BN_len | exact Ok.pe)) | ((first | apply Ca | (apply Cb; (· exact nxE))); (· first | exact Ok.e0)) | refine Sx ?_ | (refine Sy (fun h => ?_) (fun h => ?_) <;> try (exfalso; omega; done)) | refine Sz (fun h => ?_) (fun h => ?_))
            refine ⟨⟨i + 1, by omega⟩, ?_, by simp only; omega⟩
            rw [q3, q4]
            (apply Le.headZ [] rfl)
            all_goals (try dsimp only [srcs])
            (case' hfr | hob => (repeat' (first | refine La ?_ ?_ | exact Lc | refine Lo ?_ | refine ⟨⟨_, rfl, ?_⟩, ?_⟩ | refine Lx ?_)))
            all_goals (first | (rfl) | exact Ld)
          · rw [show max (ef i) b.l = ef i by omega] at q3
            generalize ef i = x at *
            repeat' (first | ((first | apply Ba | (apply Bb; (· rfl); (· rfl)) | (apply Bc; (· exact nxE)) | (apply Bd; (· rfl); (· rfl); (· exact nxE))); (· first | exact Ok.lenD rfl rfl hxl | exact Ok.lenD rfl rfl WN_len | exact Ok.lenD rfl rfl BN_len | exact Ok.pe)) | ((first | apply Ca | (apply Cb; (· exact nxE))); (· first | exact Ok.e0)) | refine Sx ?_ | (refine Sy (fun h => ?_) (fun h => ?_) <;> try (exfalso; omega; done)) | refine Sz (fun h => ?_) (fun h => ?_))
            refine ⟨⟨i + 1, by omega⟩, ?_, by simp only; omega⟩
            rw [q3, q4]
            (apply Le.headZ [] rfl)
            all_goals (try dsimp only [srcs])
            (case' hfr | hob => (repeat' (first | refine La ?_ ?_ | exact Lc | refine Lo ?_ | refine ⟨⟨_, rfl, ?_⟩, ?_⟩ | refine Lx ?_)))
            all_goals (first | (rfl) | exact Ld)
      · rw [if_neg hm] at st
        have st2 : ef (i + 1) = ef i := st
        by_cases m2 : b.f = (u : Nat)
        · have m1 : ¬ b.t = (v : Nat) := fun e => hm ⟨e, m2⟩
          generalize hmo : moF (ef i) = x
          generalize hfd : fdF (ef i) = y
          repeat' (first | ((first | apply Ba | (apply Bb; (· rfl); (· rfl)) | (apply Bc; (· exact nxE)) | (apply Bd; (· rfl); (· rfl); (· exact nxE))); (· first | exact Ok.lenD rfl rfl hxl | exact Ok.lenD rfl rfl WN_len | exact Ok.lenD rfl rfl BN_len | exact Ok.pe)) | ((first | apply Ca | (apply Cb; (· exact nxE))); (· first | exact Ok.e0)) | refine Sx ?_ | (refine Sy (fun h => ?_) (fun h => ?_) <;> try (exfalso; omega; done)) | refine Sz (fun h => ?_) (fun h => ?_))
          refine ⟨⟨i + 1, by omega⟩, ?_, by simp only; omega⟩
          rw [st2, hmo, hfd]
          (apply Le.headZ [] rfl)
          all_goals (try dsimp only [srcs])
          (case' hfr | hob => (repeat' (first | refine La ?_ ?_ | exact Lc | refine Lo ?_ | refine ⟨⟨_, rfl, ?_⟩, ?_⟩ | refine Lx ?_)))
          all_goals (first | (rfl) | exact Ld)
        · generalize hmo : moF (ef i) = x
          generalize hfd : fdF (ef i) = y
          repeat' (first | ((first | apply Ba | (apply Bb; (· rfl); (· rfl)) | (apply Bc; (· exact nxE)) | (apply Bd; (· rfl); (· rfl); (· exact nxE))); (· first | exact Ok.lenD rfl rfl hxl | exact Ok.lenD rfl rfl WN_len | exact Ok.lenD rfl rfl BN_len | exact Ok.pe)) | ((first | apply Ca | (apply Cb; (· exact nxE))); (· first | exact Ok.e0)) | refine Sx ?_ | (refine Sy (fun h => ?_) (fun h => ?_) <;> try (exfalso; omega; done)) | refine Sz (fun h => ?_) (fun h => ?_))
          refine ⟨⟨i + 1, by omega⟩, ?_, by simp only; omega⟩
          rw [st2, hmo, hfd]
          (apply Le.headZ [] rfl)
          all_goals (try dsimp only [srcs])
          (case' hfr | hob => (repeat' (first | refine La ?_ ?_ | exact Lc | refine Lo ?_ | refine ⟨⟨_, rfl, ?_⟩, ?_⟩ | refine Lx ?_)))
          all_goals (first | (rfl) | exact Ld)
    · obtain rfl : i = bs.length := by omega
      have q1 : moF (ef bs.length) = wa := by rw [heW]; exact if_neg hW
      have q2 : fdF (ef bs.length) = true := by simp [fdF, heW, hW]
      rw [q1, q2]
      repeat' (first | ((first | apply Ba | (apply Bb; (· rfl); (· rfl)) | (apply Bc; (· exact nxE)) | (apply Bd; (· rfl); (· rfl); (· exact nxE))); (· first | exact Ok.lenD rfl rfl hxl | exact Ok.lenD rfl rfl WN_len | exact Ok.lenD rfl rfl BN_len | exact Ok.pe)) | ((first | apply Ca | (apply Cb; (· exact nxE))); (· first | exact Ok.e0)) | refine Sx ?_ | (refine Sy (fun h => ?_) (fun h => ?_) <;> try (exfalso; omega; done)) | refine Sz (fun h => ?_) (fun h => ?_))
      refine ⟨⟨c + 1, by omega⟩, ?_, by simp only; omega⟩
      rw [hkw, Int.add_assoc w0.lo wk wa |>.symm]
      (apply Le.headZ [] rfl)
      all_goals (try dsimp only [srcs])
      (case' hfr | hob => (repeat' (first | refine La ?_ ?_ | exact Lc | refine Lo ?_ | refine ⟨⟨_, rfl, ?_⟩, ?_⟩ | refine Lx ?_)))
      all_goals (first | (rfl) | exact Ld)
  · obtain rfl : c = pth.length := by omega
    rw [List.take_length] at u1 u2 ⊢
    rw [hez] at u1 u2
    obtain ⟨wz, hwz, e3, e4⟩ := hlg z u1
    have hrowz : (ws.map Wn.row)[((z : Nat) : Int).toNat]? = some [DI wz.lo, DI wz.hi] := row_get hwz
    rw [e4] at hsq
    have hu2 : (IR (cN (f :: pth)))[(((pth.length : Nat) : Int) + 1 - 1).toNat]? = some [DI (z : Nat)] := by rw [show (((pth.length : Nat) : Int) + 1 - 1) = ((pth.length : Nat) : Int) by omega]; exact u2
    have hu3 : (IR (cN (f :: pth)))[(((pth.length + 1 : Nat) : Int) - 1).toNat]? = some [DI (z : Nat)] := by rw [show (((pth.length + 1 : Nat) : Int) - 1) = ((pth.length : Nat) : Int) by omega]; exact u2
    generalize kW (entN (bmT ws.length bs)) f pth = wk at *
    have hfin : decide (wz.hi < w0.lo + wk) = true := decide_eq_true hsq
    repeat' (first | ((first | apply Ba | (apply Bb; (· rfl); (· rfl)) | (apply Bc; (· exact nxE)) | (apply Bd; (· rfl); (· rfl); (· exact nxE))); (· first | exact Ok.lenD rfl rfl hxl | exact Ok.lenD rfl rfl WN_len | exact Ok.lenD rfl rfl BN_len | exact Ok.pe)) | ((first | apply Ca | (apply Cb; (· exact nxE))); (· first | exact Ok.e0)) | refine Sx ?_ | (refine Sy (fun h => ?_) (fun h => ?_) <;> try (exfalso; omega; done)) | refine Sz (fun h => ?_) (fun h => ?_))
    refine Ya ?_
    (apply Le.headZ (hs := []) [] rfl)
    all_goals (try dsimp only [srcs])
    (case' hfr => (repeat' (first | refine La ?_ ?_ | exact Lc | refine Lo ?_ | refine ⟨⟨_, rfl, ?_⟩, ?_⟩ | refine Lx ?_)))
    all_goals (first | exact Ld | exact trivial | (first | rfl | (rw [hfin]; done) | (simp only [hfin]; done)))
set_option maxRecDepth 100000 in
theorem lawFnTaskConflicts_ac [Mode] (code : List Int) (hl : code.length ≤ 9223372036854775807) (hb : ∀ b ∈ code, 0 ≤ b ∧ b ≤ 255) : AC Try.prog 3 [.d (BD code)] H0 (Bo true) H0 := by
  have hBig := big_ac code hl
  by_cases hbig : 4096 < (code.length : Int)
  ·
    rw [decide_eq_true hbig] at hBig
    refine AC.of_body 0 Try.func3 rfl (fun l h => absurd rfl h) (fun C hC => ?_)
    have hD : ∀ l, ¬ C.D0 l := fun l h => (hC l).1 h rfl
    simp only [startFr, Try.ntmps3, List.length_cons, List.length_nil, Nat.reduceAdd, Nat.reduceSub, List.replicate_succ, List.replicate_zero, List.cons_append, List.nil_append]
    repeat' (first | ((first | apply Ba | (apply Bb; (· rfl); (· rfl)) | (apply Bc; (· exact nxE)) | (apply Bd; (· rfl); (· rfl); (· exact nxE))); (· first | exact Kz rfl rfl (hBig) (Ad An) | exact Ok.lenD rfl rfl WN_len | exact Ok.lenD rfl rfl BN_len | exact Ok.pe)) | ((first | apply Ca | (apply Cb; (· exact nxE))); (· first | exact Ok.e0)) | refine Sx ?_ | (refine Sy (fun h => ?_) (fun h => ?_) <;> try (exfalso; omega; done)) | refine Sz (fun h => ?_) (fun h => ?_))
    refine Ya ?_
    (apply Le.headZ (hs := []) [] rfl)
    all_goals (try dsimp only [srcs])
    (case' hfr => (repeat' (first | refine La ?_ ?_ | exact Lc | refine Lo ?_ | refine ⟨⟨_, rfl, ?_⟩, ?_⟩ | refine Lx ?_)))
    all_goals (first | exact Ld | exact trivial | (rfl))
  have hc : CodeOk code := ⟨by omega, hb⟩
  obtain ⟨ws, bs, hw, hbl, hDr⟩ := drawFindSqueeze_ex code hc
  have hT1 := iFindTour_ac ws bs (by omega) (by omega)
  have hT2 := sFindTour_ac ws bs (by omega) (by omega)
  obtain ⟨e, hE⟩ := iEarliestTimes_ex ws bs (by omega) (by omega)
  have hK1 := iIsTask_ac ws bs (by omega) (by omega)
  have hK2 := sIsTask_ac ws bs (by omega) (by omega)
  have hL0 := likeInts_refl [] (by simp)
  cases h : isTk ws bs with
  | false =>
    have a1 : ftL ws bs = [] := by unfold ftL; rw [if_neg (by rw [h]; simp)]
    have a2 : ftC ws bs = 1 := by unfold ftC; rw [if_neg (by rw [h]; simp)]
    have a3 : erC ws bs = 1 := by unfold erC; rw [if_neg (by rw [h]; simp)]
    rw [a1, a2] at hT1 hT2
    rw [a3] at hE
    exact tcWalk0 code hbig ws bs _ e hBig 1 1 1 _ hDr (iFindSqueeze_inv ws bs (by omega) (by omega) h) (sFindSqueeze_inv ws bs (by omega) (by omega) h) hT1 hT2 hE hL0 hL0 hK1 hK2 (.inl ⟨rfl, rfl, rfl⟩)
  | true =>
  have hok := tkT_ok h
  obtain ⟨h1, h2, h3, h4⟩ := isTk_ok h
  have b1 : ftL ws bs = tourL (tkT ws bs) ws.length := by unfold ftL; rw [if_pos h]
  have b2 : ftC ws bs = tourC (tkT ws bs) ws.length := by unfold ftC; rw [if_pos h]
  by_cases hnp : NoPos (entN (tkT ws bs)) ws.length
  case neg =>
    have a1 : tourL (tkT ws bs) ws.length ≠ [] := fun e => hnp (over_np.1 e)
    have a2 : tourC (tkT ws bs) ws.length = 0 := by unfold tourC; rw [if_neg a1]
    have a3 : erC ws bs = 4 := by unfold erC; rw [if_pos h, if_neg fun e => hnp e.1]
    have hlen : (cN (ftL ws bs)).length ≤ 100000000 := by
      rw [b1]
      obtain ⟨f, r, e1, e2⟩ := overF_w a1
      have := e2.len
      unfold tourL
      rw [e1]; simp; omega
    have hL := likeInts_refl (cN (ftL ws bs)) hlen
    rw [b2, a2] at hT1 hT2
    rw [a3] at hE
    exact tcWalk0 code hbig ws bs _ e hBig 5 0 4 _ hDr (iFindSqueeze_tour ws bs (by omega) (by omega) h hnp) (sFindSqueeze_tour ws bs (by omega) (by omega) h hnp) hT1 hT2 hE hL0 hL hK1 hK2 (.inr (.inl ⟨rfl, rfl, rfl⟩))
  have a1 : tourL (tkT ws bs) ws.length = [] := over_np.2 hnp
  have a2 : tourC (tkT ws bs) ws.length = 4 := by unfold tourC; rw [if_pos a1]
  rw [b1, b2, a1, a2] at hT1 hT2
  rcases sq_cases ws bs with hno | ⟨f, z, hf, hz, hs, hn1, hn2⟩
  · rcases erC_sq h hnp with ⟨c1, c2⟩ | ⟨c1, f, t, c2, c3, c4⟩
    · rw [c1] at hE
      exact tcWalk0 code hbig ws bs _ e hBig 4 4 0 _ hDr (iFindSqueeze_no ws bs (by omega) (by omega) h hnp hno) (sFindSqueeze_no ws bs (by omega) (by omega) h hnp hno) hT1 hT2 hE hL0 hL0 hK1 hK2 (.inr (.inr ⟨rfl, rfl, rfl⟩))
    · exact absurd c4 (hno f t c2 c3)
  rcases erC_sq h hnp with ⟨c1, c2⟩ | ⟨c1, _⟩
  · exact absurd hs (c2 f z hf hz)
  rw [c1] at hE
  have hst := (hok.sb.m hnp).ok
  obtain ⟨kk, k1, k2, k3⟩ := hwF_star hok.all hst hnp h1.2 hf hz hs.1
  obtain ⟨p1, p2, p3, p4⟩ := hpT_ok (W := entN (tkT ws bs)) (n := ws.length) (z := z) (k := kk) (u := f) (by rw [k2]; exact hs.1)
  have pl := hpT_len (W := entN (tkT ws bs)) (n := ws.length) (z := z) (k := kk) (u := f)
  rw [h] at hK1 hK2
  refine tcWalk1 code hbig ws bs e hBig f z _ hDr (iFindSqueeze_yes ws bs (by omega) (by omega) h hnp f z kk hf hz hs hn1 hn2 k1 k2 k3) (sFindSqueeze_yes ws bs (by omega) (by omega) h hnp f z kk hf hz hs hn1 hn2 k1 k2 k3) hT1 hT2 hE hL0 (likeInts_refl _ (by simp; omega)) hK1 hK2 h1.2 h2 h4 (loF_rng h3) hf p1 (by omega) p2 p3 hok.all ?_
  have e5 : kW (entN (bmT ws.length bs)) f (hpT (entN (tkT ws bs)) ws.length z kk f) = starF (entN (tkT ws bs)) ws.length z f := p4.trans k2
  rw [e5]
  exact hs.2
end Go.Proofs.Ytkpoclbnnpglfaa
