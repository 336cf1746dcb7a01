/-
  Walks in the abstract reading, part 11.
-/
import Derived.Test.YtpgcmpbamlnkkaaGreatKcU10
import Derived.Test.YtpgcmpbamlnkkaaGreatKcU8
import Derived.Test.YtpgcmpbamlnkkaaGreatKcU6
import Derived.Test.YtpgcmpbamlnkkaaGreatKcU9
import Derived.Test.YtpgcmpbamlnkkaaGreatKcA3
section
namespace Go.Proofs.YtpgcmpbamlnkkaaGreat
set_option linter.unusedSimpArgs false
set_option linter.unusedVariables false
open Go Go.RowKit
attribute [local irreducible] AL AD AW OpOk Le AC thenQ blockQ EndQ

abbrev mixB (g : Nat → Bool) (K : Nat) : Nat → Bool := fun b => if b < K then g b else false
theorem mixB_0 {g : Nat → Bool} {n : Nat} : dobj 1 (List.replicate n [D.v (.bool false)]) = dobj 1 (boR n (mixB g 0)) := by
  rw [boR_0]; congr 1
theorem mixB_set {g : Nat → Bool} {n K : Nat} {v : Bool} (h : g K = v) : (boR n (mixB g K)).set K [D.v (.bool v)] = boR n (mixB g (K + 1)) := by
  rw [boR_set]
  refine boR_congr fun b _ => ?_
  by_cases e : b = K
  · subst e; simp [h]
  · simp only [if_neg e, mixB]
    by_cases e2 : b < K
    · rw [if_pos e2, if_pos (by omega)]
    · rw [if_neg e2, if_neg (by omega)]
theorem mixB_all {g : Nat → Bool} {n : Nat} : boR n (mixB g n) = boR n g := boR_congr fun b hb => by simp [hb]
set_option maxHeartbeats 8000000 in
theorem bestCircuit_ac (n : Nat) (xs : List Pl) (u1 u2 : Int) (h0 : 0 < n) (hn : n ≤ 10) (hx : xs.length ≤ 30) (hv : ∀ p ∈ xs, okPl n p) (h1 : 0 ≤ u1 ∧ u1 ≤ 100000) (h2 : 0 < u2 ∧ u2 ≤ 50) (hst : StarM (wmT n xs (u1, u2)) n) (cr : Nat → Bool) (hcr : cr = crB xs (u1, u2) (starF (entN (wmT n xs (u1, u2))) n)) (hB : bestC xs cr n ≠ []) :
    AC Tryz.prog 71 [grD n xs, .agg [I u1, I u2]] H0 (own1 1 (bestC xs cr n).length) (hp1 (IO (cN (bestC xs cr n)))) := by
  have hW := (weightMatrix_ac n xs u1 u2 (by omega) (by omega) hv h1 ⟨by omega, h2.2⟩).frzT (by rw [TR_len]; exact hst.rc.l)
  have hS := (starOf_ac (wmT n xs (u1, u2)) n hst).frzT2 (by rw [TR_len, tabF_len])
  have hsb := fun {i j} => hst.starB (i := i) (j := j)
  have hpw := plW_le hv h1 (show 0 ≤ u2 ∧ u2 ≤ 50 by omega)
  have hgo := fun l h1 h2 h3 => goOn_ac n xs cr hn (by omega) hv n l h1 h2 h3
  have hci : ∀ i, cr i = (!decide (starF (entN (wmT n xs (u1, u2))) n (plA xs i).f.toNat (plA xs i).t.toNat = BOT) && decide (pw u1 u2 (plA xs i) + starF (entN (wmT n xs (u1, u2))) n (plA xs i).f.toNat (plA xs i).t.toNat = 0)) := fun i => by rw [hcr]; rfl
  have hWl : (mRows 1 (TR (wmT n xs (u1, u2)))).length = n := by rw [mTR_len]; exact hst.rc.l
  generalize starF (entN (wmT n xs (u1, u2))) n = s at *
  generalize wmT n xs (u1, u2) = wm at *
  clear hcr hst
  obtain ⟨B, hBe⟩ : ∃ B, bestC xs cr n = B := ⟨_, rfl⟩
  rw [hBe] at hB ⊢
  unfold bestC at hBe
  generalize hF : (fun i => if cr i = false then [] else if (plA xs i).t = (plA xs i).f then [i] else if (plA xs i).t < (plA xs i).f then [] else goC xs cr n [i]) = F at hBe
  rw [show List.range' 0 xs.length = List.range' 0 (xs.length - 0) by simp] at hBe
  have hPW := fun i hi => placeWeight_ac (plA xs i) u1 u2 (by have := hpw i hi; omega) (by have := hpw i hi; omega)
  have hz := mixB_0 (n := xs.length) (g := cr)
  refine AC.of_body 0 Tryz.func71 rfl (fun l h => absurd rfl h) (fun C hC => ?_)
  have hD : ∀ l, ¬ C.D0 l := fun l h => (hC l).1 h rfl
  simp only [startFr, Tryz.ntmps71, List.length_cons, List.length_nil, Nat.reduceAdd, Nat.reduceSub, List.replicate_succ, List.replicate_zero, List.cons_append, List.nil_append]
  repeat' (first | ((first | apply Ba | (apply Bb; (· rfl); (· rfl)) | (apply Bc; (· exact nxE)) | (apply Bd; (· rfl); (· rfl); (· exact nxE))); (· first | exact Kz rfl rfl (hW) (Aa (Ad (Ad An)) (Aa (Ad (Ad An)) An)) | exact Kz rfl rfl (hS) (Ad An) | exact OpOk.nilCheck rfl rfl | exact Ok.pe)) | ((first | apply Ca | (apply Cb; (· exact nxE))); (· first | exact Ok.e0)) | refine Sx ?_ | (refine Sy (fun h => ?_) (fun h => ?_) <;> try (exfalso; omega; done)) | refine Sz (fun h => ?_) (fun h => ?_))
  refine AW.loop (X := {k : Nat // k ≤ xs.length}) (fun k => ⟨[Oo, Oo, Bx 2 0, Bx 2 1, Oo, TL (tabF n n s), Oo, .own 1 ⟨2, []⟩ 0 xs.length, Oo, Oo, Oo, Oo, Oo, Oo, Oo, Oo, Oo, Oo, Oo, Oo, Oo, Oo, Oo, Oo, Oo, Oo, PL xs, I xs.length, I (k.1 : Nat), Oo, Oo, Oo, Oo, Oo, Oo, Oo, Oo, Oo, Oo, Oo, Oo, Oo, Oo, Oo, Oo, Oo, Oo, Oo, Oo, Oo, Oo, Oo, Oo, Oo, Oo, Oo, Oo, Oo, Oo, Oo, Oo, Oo, Oo, Oo, Oo, Oo, Oo, Oo, Oo, Oo, Oo, Oo, Oo, Oo, Oo, Oo, Oo, Oo, Oo, Oo, Oo, Oo, Oo, Oo, Oo, Oo, Oo, Oo, Oo, Oo, Oo, Oo, Oo, Oo, Oo, Oo, Oo, Oo, Oo, Oo, Oo, Oo, Oo, Oo, Oo, Oo, Oo], heapL [(⟨0, []⟩, ⟨0, []⟩, ⟨2, [[I n, PL xs]]⟩), (⟨1, []⟩, ⟨1, []⟩, ⟨2, [[I u1, I u2]]⟩), (⟨2, []⟩, ⟨2, []⟩, dobj 1 (boR xs.length (mixB cr k.1)))], 900⟩) (fun k => xs.length - k.1) ⟨0, Nat.zero_le _⟩ ?_ (fun k => ?_)
  ·
    (apply Le.headZ [_, _, _] rfl)
    all_goals (try dsimp only [srcs])
    (case' hfr | hob => (repeat' (first | refine La ?_ ?_ | exact Lc | refine Lo ?_ | refine ⟨⟨_, rfl, ?_⟩, ?_⟩ | refine Lx ?_)))
    all_goals (first | ((first | exact hz | (rw [hz]; done))) | exact Ld)
  obtain ⟨k, hk⟩ := k
  simp only
  by_cases hlt : k < xs.length
  · have hrow := pl_row (n := 0) hlt
    have hpwk := hpw k hlt
    have hPW := hPW k hlt
    have hck := hci k
    obtain ⟨⟨g1, g2⟩, ⟨g3, g4⟩, ⟨g5, g6⟩, _⟩ := okPl_at hv k hlt
    have hpwb : -1000000 ≤ pw u1 u2 (plA xs k) ∧ pw u1 u2 (plA xs k) ≤ 1000000 := by unfold pw; omega
    clear hF
    generalize hw : pw u1 u2 (plA xs k) = w at *
    generalize plA xs k = p at *
    obtain ⟨pf, pt, pd, pk⟩ := p
    obtain ⟨a, rfl⟩ : ∃ f : Nat, pf = f := ⟨pf.toNat, by simp at g1; omega⟩
    obtain ⟨t, rfl⟩ : ∃ t : Nat, pt = t := ⟨pt.toNat, by simp at g3; omega⟩
    simp only [Int.toNat_natCast] at hrow g2 g4 g5 g6 hpwk hck
    obtain ⟨rr, hr1, hr2, hr3⟩ := (tabF_rc (m := n) (n := n) (f := s)).get (show a < n by omega) (show t < n by omega)
    rw [tabF_ent (by omega) (by omega)] at hr2
    have hr1' := TR_get hr1
    have hrf := IR_get hr2
    have hrl : (IR rr).length = n := by rw [IR_len, hr3]
    have hb := hsb (i := a) (j := t) (by omega) (by omega)
    have hc0 := boR_get (g := mixB cr k) hlt
    by_cases hbot : s a t = BOT
    · rw [decide_eq_true hbot] at hck
      have hset := mixB_set (n := xs.length) (K := k) (g := cr) (v := false) hck
      rw [hbot] at hrf
      unfold BOT at hrf
      repeat' (first | ((first | apply Ba | (apply Bb; (· rfl); (· rfl)) | (apply Bc; (· exact nxE)) | (apply Bd; (· rfl); (· rfl); (· exact nxE))); (· first | exact OpOk.nilCheck rfl rfl | exact Ok.st1 rfl rfl rfl (by rw [boR_len]; omega) (by rw [hc0]; rfl) rfl rfl hset | exact Ok.pe)) | ((first | apply Ca | (apply Cb; (· exact nxE))); (· first | exact Ok.st1 rfl rfl rfl (by rw [boR_len]; omega) (by rw [hc0]; rfl) rfl rfl hset | exact Ok.e0)) | refine Sx ?_ | (refine Sy (fun h => ?_) (fun h => ?_) <;> try (exfalso; omega; done)) | refine Sz (fun h => ?_) (fun h => ?_))
      refine ⟨⟨k + 1, by omega⟩, ?_, by simp only; omega⟩
      (apply Le.headZ [_, _, _] rfl)
      all_goals (try dsimp only [srcs])
      (case' hfr | hob => (repeat' (first | refine La ?_ ?_ | exact Lc | refine Lo ?_ | refine ⟨⟨_, rfl, ?_⟩, ?_⟩ | refine Lx ?_)))
      all_goals (first | (rfl) | exact Ld)
    · rw [decide_eq_false hbot] at hck
      simp only [Bool.not_false, Bool.true_and] at hck
      have hb2 := hb.resolve_left hbot
      have hset := mixB_set (n := xs.length) (K := k) (g := cr) hck
      unfold BOT at hbot
      repeat' (first | ((first | apply Ba | (apply Bb; (· rfl); (· rfl)) | (apply Bc; (· exact nxE)) | (apply Bd; (· rfl); (· rfl); (· exact nxE))); (· first | exact Kz rfl rfl (hPW) (Aa (Ad (Ad (Ad (Ad An)))) (Aa (Ad (Ad An)) An)) | exact OpOk.nilCheck rfl rfl | exact Ok.st1 rfl rfl rfl (by rw [boR_len]; omega) (by rw [hc0]; rfl) rfl rfl hset | exact Ok.pe)) | ((first | apply Ca | (apply Cb; (· exact nxE))); (· first | exact Ok.st1 rfl rfl rfl (by rw [boR_len]; omega) (by rw [hc0]; rfl) rfl rfl hset | exact Ok.e0)) | refine Sx ?_ | (refine Sy (fun h => ?_) (fun h => ?_) <;> try (exfalso; omega; done)) | refine Sz (fun h => ?_) (fun h => ?_))
      all_goals
        refine ⟨⟨k + 1, by omega⟩, ?_, by simp only; omega⟩
        (apply Le.headZ [_, _, _] rfl)
        all_goals (try dsimp only [srcs])
        (case' hfr | hob => (repeat' (first | refine La ?_ ?_ | exact Lc | refine Lo ?_ | refine ⟨⟨_, rfl, ?_⟩, ?_⟩ | refine Lx ?_)))
        all_goals (first | (rfl) | exact Ld)
  obtain rfl : k = xs.length := by omega
  rw [mixB_all]
  clear hW hS hsb hci hPW hz hlt hk
  have hbl : (boR xs.length cr).length = xs.length := boR_len
  repeat' (first | ((first | apply Ba | (apply Bb; (· rfl); (· rfl)) | (apply Bc; (· exact nxE)) | (apply Bd; (· rfl); (· rfl); (· exact nxE))); (· first | exact OpOk.nilCheck rfl rfl | exact Ok.pe)) | ((first | apply Ca | (apply Cb; (· exact nxE))); (· first | exact Ok.e0)) | refine Sx ?_ | (refine Sy (fun h => ?_) (fun h => ?_) <;> try (exfalso; omega; done)) | refine Sz (fun h => ?_) (fun h => ?_))
  refine AW.loop (X := {k : Nat // k ≤ xs.length ∧ B = tryAll F (List.range' k (xs.length - k))}) (fun k => ⟨[Oo, Oo, Bx 2 0, Oo, Oo, Oo, Oo, .d (.sl 1 (boR xs.length cr)), Oo, Oo, Oo, Oo, Oo, Oo, Oo, Oo, Oo, Oo, Oo, Oo, Oo, Oo, Oo, Oo, Oo, Oo, Oo, Oo, Oo, Oo, Oo, Oo, Oo, Oo, Oo, Oo, Oo, Oo, Oo, Oo, Oo, Oo, Oo, Oo, Oo, Oo, Oo, Oo, Oo, Oo, Oo, Oo, Oo, Oo, Oo, Oo, Oo, PL xs, I xs.length, I (k.1 : Nat), Oo, Oo, Oo, Oo, Oo, Oo, Oo, Oo, Oo, Oo, Oo, Oo, Oo, Oo, Oo, Oo, Oo, Oo, Oo, Oo, Oo, Oo, Oo, Oo, Oo, Oo, Oo, Oo, Oo, Oo, Oo, Oo, Oo, Oo, Oo, Oo, Oo, Oo, Oo, Oo, Oo, Oo, Oo, Oo, Oo, Oo, Oo], heapL [(⟨0, []⟩, ⟨0, []⟩, ⟨2, [[I n, PL xs]]⟩)], 900⟩) (fun k => xs.length - k.1) ⟨0, Nat.zero_le _, hBe.symm⟩ ?_ (fun k => ?_)
  ·
    (apply Le.headZ [_] rfl)
    all_goals (try dsimp only [srcs])
    (case' hfr | hob => (repeat' (first | refine La ?_ ?_ | exact Lc | refine Lo ?_ | refine ⟨⟨_, rfl, ?_⟩, ?_⟩ | refine Lx ?_)))
    all_goals (first | (rfl) | exact Ld)
  obtain ⟨k, hk, hinv⟩ := k
  simp only
  by_cases hlt : k < xs.length
  case neg =>
    obtain rfl : k = xs.length := by omega
    rw [Nat.sub_self] at hinv
    exact absurd hinv hB
  have hrow := pl_row (n := 0) hlt
  have hcr := boR_get (g := cr) hlt
  obtain ⟨⟨g1, g2⟩, ⟨g3, g4⟩, _⟩ := okPl_at hv k hlt
  have hFk : F k = if cr k = false then [] else if (plA xs k).t = (plA xs k).f then [k] else if (plA xs k).t < (plA xs k).f then [] else goC xs cr n [k] := by rw [← hF]
  have hvis : ∀ e, visB xs [k] e = (decide ((plA xs k).f = e) || decide ((plA xs k).t = e)) := fun e => by simp [visB]
  have hp1 : ¬ (plA xs k).t < (plA xs k).f → PathC xs [k] := fun h => PathC.one hlt h
  have hgo := fun h1 h2 h3 => hgo [k] h1 h2 h3
  rw [show firstF xs [k] = (plA xs k).f from rfl, show lastT xs [k] = (plA xs k).t from rfl] at hgo
  generalize plA xs k = p at *
  obtain ⟨pf, pt, pd, pk⟩ := p
  obtain ⟨a, rfl⟩ : ∃ f : Nat, pf = f := ⟨pf.toNat, by simp at g1; omega⟩
  obtain ⟨t, rfl⟩ : ∃ t : Nat, pt = t := ⟨pt.toNat, by simp at g3; omega⟩
  simp only at hrow g2 g4 hFk hvis hp1 hgo
  rcases Bool.eq_false_or_eq_true (cr k) with hc1 | hc1
  case inr =>
    rw [hc1] at hcr
    rw [if_pos hc1] at hFk
    rw [tryAll_no hlt hFk] at hinv
    repeat' (first | ((first | apply Ba | (apply Bb; (· rfl); (· rfl)) | (apply Bc; (· exact nxE)) | (apply Bd; (· rfl); (· rfl); (· exact nxE))); (· first | exact OpOk.nilCheck rfl rfl | exact Ok.pe)) | ((first | apply Ca | (apply Cb; (· exact nxE))); (· first | exact Ok.e0)) | refine Sx ?_ | (refine Sy (fun h => ?_) (fun h => ?_) <;> try (exfalso; omega; done)) | refine Sz (fun h => ?_) (fun h => ?_))
    refine ⟨⟨k + 1, by omega, hinv⟩, ?_, by simp only; omega⟩
    (apply Le.headZ [_] rfl)
    all_goals (try dsimp only [srcs])
    (case' hfr | hob => (repeat' (first | refine La ?_ ?_ | exact Lc | refine Lo ?_ | refine ⟨⟨_, rfl, ?_⟩, ?_⟩ | refine Lx ?_)))
    all_goals (first | (rfl) | exact Ld)
  rw [hc1] at hcr
  rw [if_neg (by rw [hc1]; decide)] at hFk
  by_cases he : (t : Int) = (a : Int)
  · rw [if_pos he] at hFk
    have hB1 : B = [k] := by rw [hinv, tryAll_yes hlt (by rw [hFk]; simp), hFk]
    rw [hB1]
    repeat' (first | ((first | apply Ba | (apply Bb; (· rfl); (· rfl)) | (apply Bc; (· exact nxE)) | (apply Bd; (· rfl); (· rfl); (· exact nxE))); (· first | exact OpOk.nilCheck rfl rfl | exact Ok.pe)) | ((first | apply Ca | (apply Cb; (· exact nxE))); (· first | exact Ok.e0)) | refine Sx ?_ | (refine Sy (fun h => ?_) (fun h => ?_) <;> try (exfalso; omega; done)) | refine Sz (fun h => ?_) (fun h => ?_))
    refine Ya ?_
    (apply Le.head [(⟨0, []⟩, _, _)])
    (case' hfr | hob => (repeat' (first | refine La ?_ ?_ | exact Lc | refine Lo ?_ | refine ⟨⟨_, rfl, ?_⟩, ?_⟩ | refine Lx ?_)))
    all_goals (first | exact Ld | (rfl))
  rw [if_neg he] at hFk
  by_cases hlt2 : (t : Int) < (a : Int)
  · rw [if_pos hlt2] at hFk
    rw [tryAll_no hlt hFk] at hinv
    repeat' (first | ((first | apply Ba | (apply Bb; (· rfl); (· rfl)) | (apply Bc; (· exact nxE)) | (apply Bd; (· rfl); (· rfl); (· exact nxE))); (· first | exact OpOk.nilCheck rfl rfl | exact Ok.pe)) | ((first | apply Ca | (apply Cb; (· exact nxE))); (· first | exact Ok.e0)) | refine Sx ?_ | (refine Sy (fun h => ?_) (fun h => ?_) <;> try (exfalso; omega; done)) | refine Sz (fun h => ?_) (fun h => ?_))
    refine ⟨⟨k + 1, by omega, hinv⟩, ?_, by simp only; omega⟩
    (apply Le.headZ [_] rfl)
    all_goals (try dsimp only [srcs])
    (case' hfr | hob => (repeat' (first | refine La ?_ ?_ | exact Lc | refine Lo ?_ | refine ⟨⟨_, rfl, ?_⟩, ?_⟩ | refine Lx ?_)))
    all_goals (first | (rfl) | exact Ld)
  rw [if_neg hlt2] at hFk
  have hG := hgo (hp1 hlt2) he (by simp)
  have hrep : List.replicate n [D.v (.bool false)] = boR n fun _ => false := by simp [boR, List.map_const']
  have hset1 : (List.replicate n [D.v (.bool false)]).set a [D.v (.bool true)] = boR n (fun e => if e = a then true else false) := by rw [hrep, boR_set]
  have hget1 : (List.replicate n [D.v (.bool false)])[a]? = some [D.v (.bool false)] := by rw [hrep]; exact boR_get (show a < n by omega)
  have hget2 := boR_get (g := fun e => if e = a then true else false) (show t < n by omega)
  have hset2 : (boR n fun e => if e = a then true else false).set t [D.v (.bool true)] = boR n (seenV xs [k]) := by
    rw [boR_set]
    refine boR_congr fun e _ => ?_
    simp only [seenV, hvis]
    by_cases e1 : e = t
    · subst e1; simp
    · rw [if_neg e1]
      by_cases e2 : e = a
      · subst e2; simp
      · rw [if_neg e2, decide_eq_false (by omega), decide_eq_false (by omega)]; rfl
  by_cases hg : goC xs cr n [k] = []
  · rw [if_pos hg, hg, decide_eq_false (by simp)] at hG
    rw [hg] at hFk
    rw [tryAll_no hlt hFk] at hinv
    unfold goH goHF IO at hG
    generalize seenV xs [k] = sv at *
    repeat' (first | ((first | apply Ba | (apply Bb; (· rfl); (· rfl)) | (apply Bc; (· exact nxE)) | (apply Bd; (· rfl); (· rfl); (· exact nxE))); (· first | exact Ok.ld1 rfl rfl rfl hget1 | exact OpOk.nilCheck rfl rfl | exact Ok.st1 rfl rfl rfl (by rw [List.length_replicate]; omega) (congrArg (Option.map List.length) hget1) rfl rfl hset1 | exact Ok.st1 rfl rfl rfl (by rw [boR_len]; omega) (by rw [hget2]; rfl) rfl rfl hset2 | exact OpOk.callB3 (b := ⟨930, []⟩) (p := ⟨925, []⟩) (q := ⟨928, []⟩) (x' := .own 1 ⟨928, []⟩ 0 n) rfl rfl hG rfl rfl rfl (by decide) (by decide) (by decide) rfl (fun g => congrArg some (rnO_dobj _ _ _)) (by simp [Go.Proofs.YtpgcmpbamlnkkaaGreat.rn, emb, thr]) (.cons (AR.ptr _ _ _ _ (by simp)) (.cons (.dd _) (.cons (.dd _) .nil))) | exact Ok.pe)) | ((first | apply Ca | (apply Cb; (· exact nxE))); (· first | exact Ok.st1 rfl rfl rfl (by rw [List.length_replicate]; omega) (congrArg (Option.map List.length) hget1) rfl rfl hset1 | exact Ok.st1 rfl rfl rfl (by rw [boR_len]; omega) (by rw [hget2]; rfl) rfl rfl hset2 | exact OpOk.callB3 (b := ⟨930, []⟩) (p := ⟨925, []⟩) (q := ⟨928, []⟩) (x' := .own 1 ⟨928, []⟩ 0 n) rfl rfl hG rfl rfl rfl (by decide) (by decide) (by decide) rfl (fun g => congrArg some (rnO_dobj _ _ _)) (by simp [Go.Proofs.YtpgcmpbamlnkkaaGreat.rn, emb, thr]) (.cons (AR.ptr _ _ _ _ (by simp)) (.cons (.dd _) (.cons (.dd _) .nil))) | exact Ok.e0)) | refine Sx ?_ | (refine Sy (fun h => ?_) (fun h => ?_) <;> try (exfalso; omega; done)) | refine Sz (fun h => ?_) (fun h => ?_))
    refine ⟨⟨k + 1, by omega, hinv⟩, ?_, by simp only; omega⟩
    (apply Le.headZ [_] rfl)
    all_goals (try dsimp only [srcs])
    (case' hfr | hob => (repeat' (first | refine La ?_ ?_ | exact Lc | refine Lo ?_ | refine ⟨⟨_, rfl, ?_⟩, ?_⟩ | refine Lx ?_)))
    all_goals (first | (rfl) | exact Ld)
  · have hB1 : B = goC xs cr n [k] := by rw [hinv, tryAll_yes hlt (by rw [hFk]; exact hg), hFk]
    rw [if_neg hg, decide_eq_true hg] at hG
    rw [hB1]
    generalize goC xs cr n [k] = c at *
    unfold goH goHT IO at hG
    generalize seenV xs [k] = sv at *
    repeat' (first | ((first | apply Ba | (apply Bb; (· rfl); (· rfl)) | (apply Bc; (· exact nxE)) | (apply Bd; (· rfl); (· rfl); (· exact nxE))); (· first | exact Ok.ld1 rfl rfl rfl hget1 | exact OpOk.nilCheck rfl rfl | exact Ok.st1 rfl rfl rfl (by rw [List.length_replicate]; omega) (congrArg (Option.map List.length) hget1) rfl rfl hset1 | exact Ok.st1 rfl rfl rfl (by rw [boR_len]; omega) (by rw [hget2]; rfl) rfl rfl hset2 | exact OpOk.callB3 (b := ⟨930, []⟩) (p := ⟨925, []⟩) (q := ⟨928, []⟩) (x' := .dead) rfl rfl hG rfl rfl rfl (by decide) (by decide) (by decide) rfl (fun _ => rfl) (by simp [Go.Proofs.YtpgcmpbamlnkkaaGreat.rn, emb, thr]) (.cons (AR.ptr _ _ _ _ (by simp)) (.cons (.dd _) (.cons (.dd _) .nil))) | exact Ok.pe)) | ((first | apply Ca | (apply Cb; (· exact nxE))); (· first | exact Ok.st1 rfl rfl rfl (by rw [List.length_replicate]; omega) (congrArg (Option.map List.length) hget1) rfl rfl hset1 | exact Ok.st1 rfl rfl rfl (by rw [boR_len]; omega) (by rw [hget2]; rfl) rfl rfl hset2 | exact OpOk.callB3 (b := ⟨930, []⟩) (p := ⟨925, []⟩) (q := ⟨928, []⟩) (x' := .dead) rfl rfl hG rfl rfl rfl (by decide) (by decide) (by decide) rfl (fun _ => rfl) (by simp [Go.Proofs.YtpgcmpbamlnkkaaGreat.rn, emb, thr]) (.cons (AR.ptr _ _ _ _ (by simp)) (.cons (.dd _) (.cons (.dd _) .nil))) | exact Ok.e0)) | refine Sx ?_ | (refine Sy (fun h => ?_) (fun h => ?_) <;> try (exfalso; omega; done)) | refine Sz (fun h => ?_) (fun h => ?_))
    refine Ya ?_
    (apply Le.head [(⟨0, []⟩, _, _)])
    (case' hfr | hob => (repeat' (first | refine La ?_ ?_ | exact Lc | refine Lo ?_ | refine ⟨⟨_, rfl, ?_⟩, ?_⟩ | refine Lx ?_)))
    all_goals (first | exact Ld | (rfl))
theorem crOk_max {n : Nat} {xs : List Pl} {r : Int × Int} (hn : n ≤ 10) (h0 : 0 < n) (hv : ∀ p ∈ xs, okPl n p) (hr : MaxR xs r) (h1 : 0 ≤ r.1 ∧ r.1 ≤ 100000) (h2 : 0 ≤ r.2 ∧ r.2 ≤ 50) : CrOk xs n r (starF (entN (wmT n xs r)) n) := by
  have hb := wm_bnd hv h1 h2
  have hw : WmOk n xs r (wmT n xs r) := wm_ok (M := 500000) (by decide) xs (fun p hp => ⟨hv p hp, (hb p hp).1⟩)
  have hst := starM_wm hn h0 hv hr h1 h2
  exact ⟨hv, hr, hw, hst.np, hst.ok⟩
set_option maxHeartbeats 2000000 in
theorem iBestCircuit_ac (ev : Int) (xs : List Pl) (hx : xs.length ≤ 100000000) : AC Tryz.prog 12 [grD ev xs] H0 (.tup [own1 1 (bcL ev xs).length, I (bcC ev xs)]) (hp1 (IO (cN (bcL ev xs)))) := by
  have hE := iIsEventGraph_ac ev xs hx
  unfold bcL
  cases hg : isEG ev xs
  · rw [(bc_no hg).1, if_neg (by decide)]
    rw [hg] at hE
    refine AC.of_body 0 Tryz.func12 rfl (fun l h => absurd rfl h) (fun C hC => ?_)
    have hD : ∀ l, ¬ C.D0 l := fun l h => (hC l).1 h rfl
    simp only [startFr, Tryz.ntmps12, List.length_cons, List.length_nil, Nat.reduceAdd, Nat.reduceSub, List.replicate_succ, List.replicate_zero, List.cons_append, List.nil_append]
    repeat' (first | ((first | apply Ba | (apply Bb; (· rfl); (· rfl)) | (apply Bc; (· exact nxE)) | (apply Bd; (· rfl); (· rfl); (· exact nxE))); (· first | exact Kz rfl rfl (hE) (Aa (Ad (Ad An)) An) | exact OpOk.nilCheck rfl rfl | exact Ok.pe)) | ((first | apply Ca | (apply Cb; (· exact nxE))); (· first | exact Ok.e0)) | refine Sx ?_ | (refine Sy (fun h => ?_) (fun h => ?_) <;> try (exfalso; omega; done)) | refine Sz (fun h => ?_) (fun h => ?_))
    exact end2nil (.inl rfl) rfl (rT rfl) (rT rfl) hD
  · rw [hg] at hE
    obtain ⟨n, rfl, _⟩ := isEG_ok hg
    have hT := cycleTime_ac n xs hg
    by_cases hc : bcC n xs = 0
    · rw [if_pos hc]
      rw [hc] at hT ⊢
      obtain ⟨n', hev, h1, h2, h3, h4, h5, h6, h8, h9, h10, h11⟩ := bc_star hc
      obtain rfl : n = n' := by omega
      rw [h8] at hT
      have hmx := h5.isMax h2 h6
      obtain ⟨c, e1, e2, _⟩ := h5.best h2 h6
      rw [Int.toNat_natCast]
      have hcr := crOk_max h2 h1 h4 hmx h9 ⟨by omega, h10.2⟩
      have hbe := hcr.best h1
      have hne : bestC xs (crB xs (maxR xs) (starF (entN (wmT n xs (maxR xs))) n)) n ≠ [] := by rw [← hbe, e1]; exact e2.ne
      rw [hbe]
      have hbl : (bestC xs (crB xs (maxR xs) (starF (entN (wmT n xs (maxR xs))) n)) n).length ≤ n := by
        rw [← hbe, e1]; exact e2.len fun i hi => (okPl_at h4 i hi).1
      have hB := bestCircuit_ac n xs (maxR xs).1 (maxR xs).2 h1 h2 h3 h4 h9 h10 h11 _ rfl hne
      generalize bestC xs (crB xs (maxR xs) (starF (entN (wmT n xs (maxR xs))) n)) n = b at *
      generalize maxR xs = r at *
      have hB' : AC Tryz.prog 71 [grD n xs, .agg [I r.1, I r.2]] H0 (own1 1 b.length) (hp1 (IO (cN b))) := hB
      refine AC.of_body 0 Tryz.func12 rfl (fun l h => absurd rfl h) (fun C hC => ?_)
      have hD : ∀ l, ¬ C.D0 l := fun l h => (hC l).1 h rfl
      simp only [startFr, Tryz.ntmps12, List.length_cons, List.length_nil, Nat.reduceAdd, Nat.reduceSub, List.replicate_succ, List.replicate_zero, List.cons_append, List.nil_append]
      repeat' (first | ((first | apply Ba | (apply Bb; (· rfl); (· rfl)) | (apply Bc; (· exact nxE)) | (apply Bd; (· rfl); (· rfl); (· exact nxE))); (· first | exact Kz rfl rfl (hE) (Aa (Ad (Ad An)) An) | exact Kz rfl rfl (hT) (Aa (Ad (Ad An)) An) | exact OpOk.nilCheck rfl rfl | exact Eo rfl rfl (hB') (Sa (Sd (Sd Sn)) (Sa (Sd (Sd Sn)) Sn)) | exact Ok.pe)) | ((first | apply Ca | (apply Cb; (· exact nxE))); (· first | exact Eo rfl rfl (hB') (Sa (Sd (Sd Sn)) (Sa (Sd (Sd Sn)) Sn)) | exact Ok.e0)) | refine Sx ?_ | (refine Sy (fun h => ?_) (fun h => ?_) <;> try (exfalso; omega; done)) | refine Sz (fun h => ?_) (fun h => ?_))
      refine Yb ?_
      (apply Le.head [(⟨0, []⟩, _, _)])
      (case' hfr | hob => (repeat' (first | refine La ?_ ?_ | exact Lc | refine Lo ?_ | refine ⟨⟨_, rfl, ?_⟩, ?_⟩ | refine Lx ?_)))
      all_goals (first | exact Ld | (rfl))
    · rw [if_neg hc]
      generalize ctR n xs = r at *
      generalize bcC n xs = bc at *
      refine AC.of_body 0 Tryz.func12 rfl (fun l h => absurd rfl h) (fun C hC => ?_)
      have hD : ∀ l, ¬ C.D0 l := fun l h => (hC l).1 h rfl
      simp only [startFr, Tryz.ntmps12, List.length_cons, List.length_nil, Nat.reduceAdd, Nat.reduceSub, List.replicate_succ, List.replicate_zero, List.cons_append, List.nil_append]
      repeat' (first | ((first | apply Ba | (apply Bb; (· rfl); (· rfl)) | (apply Bc; (· exact nxE)) | (apply Bd; (· rfl); (· rfl); (· exact nxE))); (· first | exact Kz rfl rfl (hE) (Aa (Ad (Ad An)) An) | exact Kz rfl rfl (hT) (Aa (Ad (Ad An)) An) | exact OpOk.nilCheck rfl rfl | exact Ok.pe)) | ((first | apply Ca | (apply Cb; (· exact nxE))); (· first | exact Ok.e0)) | refine Sx ?_ | (refine Sy (fun h => ?_) (fun h => ?_) <;> try (exfalso; omega; done)) | refine Sz (fun h => ?_) (fun h => ?_))
      exact end2nil (.inl rfl) rfl (rT rfl) (rT rfl) hD
theorem bcL_len {ev : Int} {xs : List Pl} : (bcL ev xs).length ≤ 1000 := by
  unfold bcL
  split
  · rename_i h
    obtain ⟨n, rfl, h1, h2, h3, h4, h5, h6, _⟩ := bc_star h
    obtain ⟨c, e1, e2, _⟩ := h5.best h2 h6
    rw [Int.toNat_natCast, e1]
    have := e2.len (n := n) fun i hi => (okPl_at h4 i hi).1
    omega
  · simp
end Go.Proofs.YtpgcmpbamlnkkaaGreat
end

section
namespace Go.Proofs.YtpgcmpbamlnkkaaGreat
set_option linter.unusedSimpArgs false
set_option linter.unusedVariables false
open Go Go.RowKit
attribute [local irreducible] AL AD AW OpOk Le AC thenQ blockQ EndQ

/-- The greatest of a row's first k products. -/
def apA (f : Nat → Nat → Int) (v : Nat → Int) (i : Nat) : Nat → Int
  | 0 => BOT
  | k + 1 => max (apA f v i k) (timesB (f i k) (v k))
/-- What the entries and the vector must be for the machine's sums. -/
structure ApOk (f : Nat → Nat → Int) (v : Nat → Int) (m n : Nat) : Prop where
  f : ∀ i j, i < m → j < n → f i j = BOT ∨ (-1000000000000000000 ≤ f i j ∧ f i j ≤ 1000000000000000000)
  v : ∀ j, j < n → v j = BOT ∨ (-1000000000000000000 ≤ v j ∧ v j ≤ 1000000000000000000)
set_option maxHeartbeats 4000000 in
theorem timesVector_ac (t : List (List Int)) (m n : Nat) (v : Nat → Int) (ht : Rc t m n) (hm : m ≤ 1000000) (hn : n ≤ 1000000) (ho : ApOk (entN t) v m n) : AC Tryz.prog 117 [TL t, IL (rowF n v)] H0 (own1 1 m) (hp1 (IO (rowF m fun i => apA (entN t) v i n))) := by
  obtain rfl := ht.l
  have hz := mgF_0 (n := t.length) (f := fun i => apA (entN t) v i n)
  have hvl : (IR (rowF n v)).length = n := by rw [IR_len, rowF_len]
  have hvl2 : (rowF n v).length = n := rowF_len
  refine AC.of_body 0 Tryz.func117 rfl (fun l h => absurd rfl h) (fun C hC => ?_)
  have hD : ∀ l, ¬ C.D0 l := fun l h => (hC l).1 h rfl
  simp only [startFr, Tryz.ntmps117, List.length_cons, List.length_nil, Nat.reduceAdd, Nat.reduceSub, List.replicate_succ, List.replicate_zero, List.cons_append, List.nil_append]
  repeat' (first | ((first | apply Ba | (apply Bb; (· rfl); (· rfl)) | (apply Bc; (· exact nxE)) | (apply Bd; (· rfl); (· rfl); (· exact nxE))); (· first | exact Ok.pe)) | ((first | apply Ca | (apply Cb; (· exact nxE))); (· first | exact Ok.e0)) | refine Sx ?_ | (refine Sy (fun h => ?_) (fun h => ?_) <;> try (exfalso; omega; done)) | refine Sz (fun h => ?_) (fun h => ?_))
  refine AW.loop (X := {k : Nat // k ≤ t.length}) (fun k => ⟨[Oo, IL (rowF n v), Oo, Oo, Oo, .own 1 ⟨0, []⟩ 0 t.length, Oo, Oo, Oo, Oo, Oo, Oo, Oo, TL t, I t.length, I (k.1 : Nat), Oo, Oo, Oo, Oo, Oo, Oo, Oo, Oo, Oo, Oo, Oo, Oo, Oo, Oo, Oo, Oo, Oo, Oo, Oo, Oo, Oo, Oo, Oo, Oo, Oo, Oo, Oo, Oo, Oo, Oo, Oo], heapL [(⟨0, []⟩, ⟨0, []⟩, IO (rowF t.length (mixR (fun i => apA (entN t) v i n) (fun _ => 0) k.1)))], 900⟩) (fun k => t.length - k.1) ⟨0, Nat.zero_le _⟩ ?_ (fun k => ?_)
  ·
    (apply Le.headZ [_] rfl)
    all_goals (try dsimp only [srcs])
    (case' hfr | hob => (repeat' (first | refine La ?_ ?_ | exact Lc | refine Lo ?_ | refine ⟨⟨_, rfl, ?_⟩, ?_⟩ | refine Lx ?_)))
    all_goals (first | ((first | exact hz | (rw [hz]; done))) | exact Ld)
  obtain ⟨i, hi⟩ := k
  simp only
  by_cases hlt : i < t.length
  ·
    obtain ⟨r, hr1⟩ : ∃ r, t[i]? = some r := ⟨t[i], by simp⟩
    have hrl0 := ht.r r (List.mem_of_getElem? hr1)
    have hr1' := TR_get hr1
    have hrl : (IR r).length = n := by rw [IR_len, hrl0]
    have hc0 := IRF_get (g := mixR (fun i => apA (entN t) v i n) (fun _ => 0) i) hlt
    have hs1 : (IR (rowF t.length (mixR (fun i => apA (entN t) v i n) (fun _ => 0) i))).set i [DI (-1000000000000000)] = IR (rowF t.length (fun b => if b = i then apA (entN t) v i 0 else mixR (fun i => apA (entN t) v i n) (fun _ => 0) i b)) := by rw [IR_set, rowF_set]; rfl
    repeat' (first | ((first | apply Ba | (apply Bb; (· rfl); (· rfl)) | (apply Bc; (· exact nxE)) | (apply Bd; (· rfl); (· rfl); (· exact nxE))); (· first | exact Ok.st1 rfl rfl rfl (by simp [rowF_len]; omega) (by rw [hc0]; rfl) rfl rfl hs1 | exact Ok.pe)) | ((first | apply Ca | (apply Cb; (· exact nxE))); (· first | exact Ok.st1 rfl rfl rfl (by simp [rowF_len]; omega) (by rw [hc0]; rfl) rfl rfl hs1 | exact Ok.e0)) | refine Sx ?_ | (refine Sy (fun h => ?_) (fun h => ?_) <;> try (exfalso; omega; done)) | refine Sz (fun h => ?_) (fun h => ?_))
    refine AW.loop (X := {k : Nat // k ≤ n}) (fun k => ⟨[Oo, IL (rowF n v), Oo, Oo, Oo, .own 1 ⟨0, []⟩ 0 t.length, I i, Oo, Oo, Oo, Oo, Oo, Oo, TL t, I t.length, I i, Oo, Oo, Oo, Oo, Oo, Oo, Oo, IL r, I n, I (k.1 : Nat), Oo, Oo, Oo, Oo, Oo, Oo, Oo, Oo, Oo, Oo, Oo, Oo, Oo, Oo, Oo, Oo, Oo, Oo, Oo, Oo, Oo], heapL [(⟨0, []⟩, ⟨0, []⟩, IO (rowF t.length (fun b => if b = i then apA (entN t) v i k.1 else mixR (fun i => apA (entN t) v i n) (fun _ => 0) i b)))], 900⟩) (fun k => n - k.1) ⟨0, Nat.zero_le _⟩ ?_ (fun k => ?_)
    ·
      (apply Le.headZ [_] rfl)
      all_goals (try dsimp only [srcs])
      (case' hfr | hob => (repeat' (first | refine La ?_ ?_ | exact Lc | refine Lo ?_ | refine ⟨⟨_, rfl, ?_⟩, ?_⟩ | refine Lx ?_)))
      all_goals (first | (rfl) | exact Ld)
    obtain ⟨j, hj⟩ := k
    simp only
    by_cases hlt2 : j < n
    ·
      obtain ⟨r', hr1b, hr2, _⟩ := ht.get hlt hlt2
      rw [hr1] at hr1b; cases hr1b
      have hrj := IR_get hr2
      have hvj : (IR (rowF n v))[((j : Nat) : Int).toNat]? = some [DI (v j)] := IRF_get hlt2
      have hT := times_ac (entN t i j) (v j) (fun e1 e2 => by
        have h1 := (ho.f i j hlt hlt2).resolve_left e1
        have h2 := (ho.v j hlt2).resolve_left e2
        omega)
      have hcj := IRF_get (g := fun b => if b = i then apA (entN t) v i j else mixR (fun i => apA (entN t) v i n) (fun _ => 0) i b) hlt
      simp only [if_true] at hcj
      have hs2 : (IR (rowF t.length (fun b => if b = i then apA (entN t) v i j else mixR (fun i => apA (entN t) v i n) (fun _ => 0) i b))).set i [DI (max (apA (entN t) v i j) (timesB (entN t i j) (v j)))] = IR (rowF t.length (fun b => if b = i then apA (entN t) v i (j + 1) else mixR (fun i => apA (entN t) v i n) (fun _ => 0) i b)) := by
        rw [IR_set, rowF_set]
        congr 1
        refine rowF_congr fun b _ => ?_
        by_cases e : b = i <;> simp [e, apA]
      repeat' (first | ((first | apply Ba | (apply Bb; (· rfl); (· rfl)) | (apply Bc; (· exact nxE)) | (apply Bd; (· rfl); (· rfl); (· exact nxE))); (· first | exact Ok.ld1 rfl rfl rfl hcj | exact Kz rfl rfl (hT) (Ad (Ad An)) | exact Ok.st1 rfl rfl rfl (by simp [rowF_len]; omega) (by rw [hcj]; rfl) rfl rfl hs2 | exact Ok.pe)) | ((first | apply Ca | (apply Cb; (· exact nxE))); (· first | exact Ok.st1 rfl rfl rfl (by simp [rowF_len]; omega) (by rw [hcj]; rfl) rfl rfl hs2 | exact Ok.e0)) | refine Sx ?_ | (refine Sy (fun h => ?_) (fun h => ?_) <;> try (exfalso; omega; done)) | refine Sz (fun h => ?_) (fun h => ?_))
      refine ⟨⟨j + 1, by omega⟩, ?_, by simp only; omega⟩
      (apply Le.headZ [_] rfl)
      all_goals (try dsimp only [srcs])
      (case' hfr | hob => (repeat' (first | refine La ?_ ?_ | exact Lc | refine Lo ?_ | refine ⟨⟨_, rfl, ?_⟩, ?_⟩ | refine Lx ?_)))
      all_goals (first | (rfl) | exact Ld)
    ·
      obtain rfl : j = n := by omega
      have hnx : rowF t.length (fun b => if b = i then apA (entN t) v i j else mixR (fun i => apA (entN t) v i j) (fun _ => 0) i b) = rowF t.length (mixR (fun i => apA (entN t) v i j) (fun _ => 0) (i + 1)) := by
        rw [← mixR_set, rowF_set]
      rw [hnx]
      repeat' (first | ((first | apply Ba | (apply Bb; (· rfl); (· rfl)) | (apply Bc; (· exact nxE)) | (apply Bd; (· rfl); (· rfl); (· exact nxE))); (· first | exact Ok.pe)) | ((first | apply Ca | (apply Cb; (· exact nxE))); (· first | exact Ok.e0)) | refine Sx ?_ | (refine Sy (fun h => ?_) (fun h => ?_) <;> try (exfalso; omega; done)) | refine Sz (fun h => ?_) (fun h => ?_))
      refine ⟨⟨i + 1, by omega⟩, ?_, by simp only; omega⟩
      (apply Le.headZ [_] rfl)
      all_goals (try dsimp only [srcs])
      (case' hfr | hob => (repeat' (first | refine La ?_ ?_ | exact Lc | refine Lo ?_ | refine ⟨⟨_, rfl, ?_⟩, ?_⟩ | refine Lx ?_)))
      all_goals (first | (rfl) | exact Ld)
  ·
    have him : i = t.length := by omega
    subst him
    rw [mixR_all]
    repeat' (first | ((first | apply Ba | (apply Bb; (· rfl); (· rfl)) | (apply Bc; (· exact nxE)) | (apply Bd; (· rfl); (· rfl); (· exact nxE))); (· first | exact Ok.pe)) | ((first | apply Ca | (apply Cb; (· exact nxE))); (· first | exact Ok.e0)) | refine Sx ?_ | (refine Sy (fun h => ?_) (fun h => ?_) <;> try (exfalso; omega; done)) | refine Sz (fun h => ?_) (fun h => ?_))
    refine Ya ?_
    (apply Le.head [(⟨0, []⟩, _, _)])
    (case' hfr | hob => (repeat' (first | refine La ?_ ?_ | exact Lc | refine Lo ?_ | refine ⟨⟨_, rfl, ?_⟩, ?_⟩ | refine Lx ?_)))
    all_goals (first | exact Ld | (rfl))
set_option maxHeartbeats 4000000 in
theorem l02Apply_ac (t : List (List Int)) (m n : Nat) (v : Nat → Int) (ht : Rc t m n) (hm : m ≤ 1000000) (hn : n ≤ 1000000) (ho : ApOk (entN t) v m n) : AC Tryz.prog 66 [TL t, IL (rowF n v)] H0 (own1 1 m) (hp1 (IO (rowF m fun i => apA (entN t) v i n))) := by
  obtain rfl := ht.l
  have hvl : (IR (rowF n v)).length = n := by rw [IR_len, rowF_len]
  have hvl2 : (rowF n v).length = n := rowF_len
  have htl : (mRows 1 (TR t)).length = t.length := by rw [mTR_len]
  refine AC.of_body 0 Tryz.func66 rfl (fun l h => absurd rfl h) (fun C hC => ?_)
  have hD : ∀ l, ¬ C.D0 l := fun l h => (hC l).1 h rfl
  simp only [startFr, Tryz.ntmps66, List.length_cons, List.length_nil, Nat.reduceAdd, Nat.reduceSub, List.replicate_succ, List.replicate_zero, List.cons_append, List.nil_append]
  repeat' (first | ((first | apply Ba | (apply Bb; (· rfl); (· rfl)) | (apply Bc; (· exact nxE)) | (apply Bd; (· rfl); (· rfl); (· exact nxE))); (· first | exact Ok.pe)) | ((first | apply Ca | (apply Cb; (· exact nxE))); (· first | exact Ok.e0)) | refine Sx ?_ | (refine Sy (fun h => ?_) (fun h => ?_) <;> try (exfalso; omega; done)) | refine Sz (fun h => ?_) (fun h => ?_))
  refine AW.loop (X := {k : Nat // k ≤ t.length}) (fun k => ⟨[TL t, IL (rowF n v), Oo, Oo, Oo, .own 1 ⟨0, []⟩ 0 (k.1 : Nat), I (k.1 : Nat), Oo, Oo, Oo, Oo, Oo, Oo, Oo, Oo, Oo, Oo, Oo, Oo, Oo, Oo, Oo, Oo, Oo, Oo, Oo, Oo, Oo, Oo, Oo, Oo, Oo, Oo, Oo, Oo, Oo, Oo, Oo, Oo, Oo, Oo], heapL [(⟨0, []⟩, ⟨0, []⟩, IO (rowF k.1 (fun i => apA (entN t) v i n)))], 900⟩) (fun k => t.length - k.1) ⟨0, Nat.zero_le _⟩ ?_ (fun k => ?_)
  ·
    (apply Le.headZ [_] rfl)
    all_goals (try dsimp only [srcs])
    (case' hfr | hob => (repeat' (first | refine La ?_ ?_ | exact Lc | refine Lo ?_ | refine ⟨⟨_, rfl, ?_⟩, ?_⟩ | refine Lx ?_)))
    all_goals (first | (rfl) | exact Ld)
  obtain ⟨i, hi⟩ := k
  simp only
  by_cases hlt : i < t.length
  ·
    obtain ⟨r, hr1⟩ : ∃ r, t[i]? = some r := ⟨t[i], by simp⟩
    have hrl0 := ht.r r (List.mem_of_getElem? hr1)
    have hr1' := TR_get hr1
    have hrl : (IR r).length = n := by rw [IR_len, hrl0]
    have hol : (IR (rowF i fun i => apA (entN t) v i n)).length = i := by rw [IR_len, rowF_len]
    repeat' (first | ((first | apply Ba | (apply Bb; (· rfl); (· rfl)) | (apply Bc; (· exact nxE)) | (apply Bd; (· rfl); (· rfl); (· exact nxE))); (· first | exact Ok.pe)) | ((first | apply Ca | (apply Cb; (· exact nxE))); (· first | exact Ok.e0)) | refine Sx ?_ | (refine Sy (fun h => ?_) (fun h => ?_) <;> try (exfalso; omega; done)) | refine Sz (fun h => ?_) (fun h => ?_))
    refine AW.loop (X := {k : Nat // k ≤ n}) (fun k => ⟨[TL t, IL (rowF n v), Oo, Oo, Oo, .own 1 ⟨0, []⟩ 0 i, I i, I (apA (entN t) v i (k.1 : Nat)), I (k.1 : Nat), Oo, Oo, Oo, Oo, Oo, Oo, Oo, Oo, Oo, Oo, Oo, Oo, Oo, Oo, Oo, Oo, Oo, Oo, Oo, Oo, Oo, Oo, Oo, Oo, Oo, Oo, Oo, Oo, Oo, Oo, Oo, Oo], heapL [(⟨0, []⟩, ⟨0, []⟩, IO (rowF i (fun i => apA (entN t) v i n)))], 900⟩) (fun k => n - k.1) ⟨0, Nat.zero_le _⟩ ?_ (fun k => ?_)
    ·
      (apply Le.headZ [_] rfl)
      all_goals (try dsimp only [srcs])
      (case' hfr | hob => (repeat' (first | refine La ?_ ?_ | exact Lc | refine Lo ?_ | refine ⟨⟨_, rfl, ?_⟩, ?_⟩ | refine Lx ?_)))
      all_goals (first | (rfl) | exact Ld)
    obtain ⟨j, hj⟩ := k
    simp only
    by_cases hlt2 : j < n
    ·
      obtain ⟨r', hr1b, hr2, _⟩ := ht.get hlt hlt2
      rw [hr1] at hr1b; cases hr1b
      have hrj := IR_get hr2
      have hvj : (IR (rowF n v))[((j : Nat) : Int).toNat]? = some [DI (v j)] := IRF_get hlt2
      have hT := l01Times_ac (entN t i j) (v j) (fun e1 e2 => by
        have h1 := (ho.f i j hlt hlt2).resolve_left e1
        have h2 := (ho.v j hlt2).resolve_left e2
        omega)
      repeat' (first | ((first | apply Ba | (apply Bb; (· rfl); (· rfl)) | (apply Bc; (· exact nxE)) | (apply Bd; (· rfl); (· rfl); (· exact nxE))); (· first | exact Kz rfl rfl (hT) (Ad (Ad An)) | exact Ok.pe)) | ((first | apply Ca | (apply Cb; (· exact nxE))); (· first | exact Ok.e0)) | refine Sx ?_ | (refine Sy (fun h => ?_) (fun h => ?_) <;> try (exfalso; omega; done)) | refine Sz (fun h => ?_) (fun h => ?_))
      refine ⟨⟨j + 1, by omega⟩, ?_, by simp only; omega⟩
      (apply Le.headZ [_] rfl)
      all_goals (try dsimp only [srcs])
      (case' hfr | hob => (repeat' (first | refine La ?_ ?_ | exact Lc | refine Lo ?_ | refine ⟨⟨_, rfl, ?_⟩, ?_⟩ | refine Lx ?_)))
      all_goals (first | (rfl) | exact Ld)
    ·
      obtain rfl : j = n := by omega
      repeat' (first | ((first | apply Ba | (apply Bb; (· rfl); (· rfl)) | (apply Bc; (· exact nxE)) | (apply Bd; (· rfl); (· rfl); (· exact nxE))); (· first | exact Ok.append1 (row := [DI (apA (entN t) v i j)]) rfl rfl (by decide) rfl rfl hol rfl rfl rfl (by rfl) (by omega) (by omega) | exact Ok.pe)) | ((first | apply Ca | (apply Cb; (· exact nxE))); (· first | exact Ok.append1 (row := [DI (apA (entN t) v i j)]) rfl rfl (by decide) rfl rfl hol rfl rfl rfl (by rfl) (by omega) (by omega) | exact Ok.e0)) | refine Sx ?_ | (refine Sy (fun h => ?_) (fun h => ?_) <;> try (exfalso; omega; done)) | refine Sz (fun h => ?_) (fun h => ?_))
      refine ⟨⟨i + 1, by omega⟩, ?_, by simp only; omega⟩
      (apply Le.headZ [_] rfl)
      all_goals (try dsimp only [srcs])
      (case' hfr | hob => (repeat' (first | refine La ?_ ?_ | exact Lc | refine Lo ?_ | refine ⟨⟨_, rfl, ?_⟩, ?_⟩ | refine Lx ?_)))
      all_goals (first | ((first | (rw [rowF_succ]; simp; done) | (rw [rowF_succ]; rw [IR_app]; done))) | exact Ld)
  ·
    have him : i = t.length := by omega
    subst him
    repeat' (first | ((first | apply Ba | (apply Bb; (· rfl); (· rfl)) | (apply Bc; (· exact nxE)) | (apply Bd; (· rfl); (· rfl); (· exact nxE))); (· first | exact Ok.pe)) | ((first | apply Ca | (apply Cb; (· exact nxE))); (· first | exact Ok.e0)) | refine Sx ?_ | (refine Sy (fun h => ?_) (fun h => ?_) <;> try (exfalso; omega; done)) | refine Sz (fun h => ?_) (fun h => ?_))
    refine Ya ?_
    (apply Le.head [(⟨0, []⟩, _, _)])
    (case' hfr | hob => (repeat' (first | refine La ?_ ?_ | exact Lc | refine Lo ?_ | refine ⟨⟨_, rfl, ?_⟩, ?_⟩ | refine Lx ?_)))
    all_goals (first | exact Ld | (rfl))
end Go.Proofs.YtpgcmpbamlnkkaaGreat
end

section
namespace Go.Proofs.YtpgcmpbamlnkkaaGreat
set_option linter.unusedSimpArgs false
set_option linter.unusedVariables false
open Go Go.RowKit
attribute [local irreducible] AL AD AW OpOk Le AC thenQ blockQ EndQ

section
variable {W : Nat → Nat → Int} {n : Nat} (hb : ∀ k v, k ≤ n → v < n → W k v = BOT ∨ (-10000000 ≤ W k v ∧ W k v ≤ 10000000)) (hn : n ≤ 10)
include hb hn
end
end Go.Proofs.YtpgcmpbamlnkkaaGreat
end

section
namespace Go.Proofs.YtpgcmpbamlnkkaaGreat
set_option linter.unusedSimpArgs false
set_option linter.unusedVariables false
open Go Go.RowKit
attribute [local irreducible] AL AD AW OpOk Le AC thenQ blockQ EndQ

end Go.Proofs.YtpgcmpbamlnkkaaGreat
end

section
namespace Go.Proofs.YtpgcmpbamlnkkaaGreat
set_option linter.unusedSimpArgs false
set_option linter.unusedVariables false
open Go Go.RowKit
attribute [local irreducible] AL AD AW OpOk Le AC thenQ blockQ EndQ

structure RtZ (r : Int × Int) : Prop where
  n : -1000000000000 ≤ r.1 ∧ r.1 ≤ 1000000000000
  d : 1 ≤ r.2 ∧ r.2 ≤ 1000000
  g : Nat.gcd r.1.natAbs r.2.toNat = 1
end Go.Proofs.YtpgcmpbamlnkkaaGreat
end

section
namespace Go.Proofs.YtpgcmpbamlnkkaaGreat
set_option linter.unusedSimpArgs false
set_option linter.unusedVariables false
open Go Go.RowKit
attribute [local irreducible] AL AD AW OpOk Le AC thenQ blockQ EndQ

/-- Which ratios are valid. -/
def isRtG (r : Int × Int) : Bool := wi r.1 (-1000000) 1000000 && (wi r.2 1 1000000 && (Nat.gcd r.1.natAbs r.2.toNat == 1))
structure DrR (r : Int × Int) : Prop where
  n : -2000000 ≤ r.1 ∧ r.1 ≤ 2000000
  d : -1 ≤ r.2 ∧ r.2 ≤ 1000000
  s : isRtG r = true → r.2 ≤ 10
theorem redR_small {a b : Int} (hb : 1 ≤ b ∧ b ≤ 1000000) (ha : -1000000 ≤ a ∧ a ≤ 1000000) : (-1000000 ≤ (redR a b).1 ∧ (redR a b).1 ≤ 1000000) ∧ (0 < (redR a b).2 ∧ (redR a b).2 ≤ b) := redR_bnd (by omega) ha
theorem gcd2 {x y : Int} (hy : 1 ≤ y) : Nat.gcd (2 * x).natAbs (2 * y).toNat ≠ 1 := fun h => by
  have h1 : 2 ∣ Nat.gcd (2 * x).natAbs (2 * y).toNat := Nat.dvd_gcd (by rw [Int.natAbs_mul]; exact Nat.dvd_mul_right _ _) (by rw [show (2 * y).toNat = 2 * y.toNat by omega]; exact Nat.dvd_mul_right _ _)
  rw [h] at h1
  omega
set_option maxHeartbeats 2000000 in
theorem l01DrawRatio_ex (code : List Int) (hc : CodeOk code) (s : Src) (hs : SrcOk code s) : ∃ (r : Int × Int) (s' : Src), DrR r ∧ SrcOk code s' ∧ AC Tryz.prog 136 [Bx 3 0] (srcH code s) (.agg [I r.1, I r.2]) (srcH code s') := by
  obtain ⟨a, s1, a1, a2, h1, q1, N1⟩ := next_ex hc hs 80
  obtain ⟨b, s2, b1, b2, h2, q2, N2⟩ := next_ex hc h1 9
  have hR := l01RatioZ_ac (a - 40) (1 + b) (by omega) (by omega)
  obtain ⟨r1, r2⟩ := redR_small (a := a - 40) (b := 1 + b) (by omega) (by omega)
  generalize redR (a - 40) (1 + b) = r at *
  obtain ⟨x, y⟩ := r
  simp only at r1 r2 hR
  obtain ⟨z, s3, z1, z2, h3, q3, N3⟩ := next_ex hc h2 24
  by_cases c0 : z = 0
  · refine ⟨(2 * x, 2 * y), s3, ⟨by simp only; omega, by simp only; omega, fun h => ?_⟩, h3, ?_⟩
    · unfold isRtG at h
      rw [Bool.and_eq_true, Bool.and_eq_true, beq_iff_eq] at h
      exact absurd h.2.2 (gcd2 (by omega))
    · show AC _ _ _ (heapL [(⟨0, []⟩, ⟨0, []⟩, srcO code s)]) _ _
      refine AC.of_body 1 Tryz.func136 rfl (fun l h => by simp [heapL, upd] at h; simp [h]) (fun C hC => ?_)
      simp only [startFr, Tryz.ntmps136, List.length_cons, List.length_nil, Nat.reduceAdd, Nat.reduceSub, List.replicate_succ, List.replicate_zero, List.cons_append, List.nil_append]
      have hD : ∀ l, C.D0 l → l = ⟨0, []⟩ := fun l h => by have := (hC l).1 h; simp [heapL, upd] at this; exact this
      repeat' (first | ((first | apply Ba | (apply Bb; (· rfl); (· rfl)) | (apply Bc; (· exact nxE)) | (apply Bd; (· rfl); (· rfl); (· exact nxE))); (· first | exact Kz rfl rfl (hR) (Ad (Ad An)) | exact Nx N1 rfl rfl rfl rfl rfl | exact Nx N2 rfl rfl rfl rfl rfl | exact Nx N3 rfl rfl rfl rfl rfl | exact Ok.pe)) | ((first | apply Ca | (apply Cb; (· exact nxE))); (· first | exact Nx N1 rfl rfl rfl rfl rfl | exact Nx N2 rfl rfl rfl rfl rfl | exact Nx N3 rfl rfl rfl rfl rfl | exact Ok.e0)) | refine Sx ?_ | (refine Sy (fun h => ?_) (fun h => ?_) <;> try (exfalso; omega; done)) | refine Sz (fun h => ?_) (fun h => ?_))
      all_goals
        refine Ya ?_
        (apply Le.headZ (hs := [(⟨0, []⟩, ⟨0, []⟩, _)]) [⟨0, []⟩] rfl)
        all_goals (try dsimp only [srcs])
        (case' hfr | hob => (repeat' (first | refine La ?_ ?_ | refine ARs.agg ?_ | refine ARs.tup ?_ | (first | exact AR.i (by first | rfl | omega)) | refine La ?_ ?_ | exact Lc | refine Lo ?_ | refine ⟨⟨_, rfl, ?_⟩, ?_⟩ | refine Lx ?_)))
        all_goals (first | exact Ld | exact trivial | (first | exact AR.i (by first | rfl | omega)))
  by_cases c1 : z = 1
  · obtain ⟨u, s4, hu, h4, p4, q4, K4⟩ := pick_ex hc h3 [1000000, 1000001, -1000000] 3 rfl
    obtain ⟨v, s5, hv, h5, p5, q5, K5⟩ := pick_ex hc h4 [1, 1000000, 0, -1] 4 rfl
    refine ⟨(u, v), s5, ?_, h5, ?_⟩
    · simp at hu hv
      refine ⟨by simp only; omega, by simp only; omega, ?_⟩
      rcases hu with rfl | rfl | rfl <;> rcases hv with rfl | rfl | rfl | rfl <;> decide
    · show AC _ _ _ (heapL [(⟨0, []⟩, ⟨0, []⟩, srcO code s)]) _ _
      refine AC.of_body 1 Tryz.func136 rfl (fun l h => by simp [heapL, upd] at h; simp [h]) (fun C hC => ?_)
      simp only [startFr, Tryz.ntmps136, List.length_cons, List.length_nil, Nat.reduceAdd, Nat.reduceSub, List.replicate_succ, List.replicate_zero, List.cons_append, List.nil_append]
      have hD : ∀ l, C.D0 l → l = ⟨0, []⟩ := fun l h => by have := (hC l).1 h; simp [heapL, upd] at this; exact this
      repeat' (first | ((first | apply Ba | (apply Bb; (· rfl); (· rfl)) | (apply Bc; (· exact nxE)) | (apply Bd; (· rfl); (· rfl); (· exact nxE))); (· first | exact Kz rfl rfl (hR) (Ad (Ad An)) | exact Nx N1 rfl rfl rfl rfl rfl | exact Nx N2 rfl rfl rfl rfl rfl | exact Nx N3 rfl rfl rfl rfl rfl | exact Kx K4 rfl rfl rfl rfl rfl rfl (by decide) | exact Kx K5 rfl rfl rfl rfl rfl rfl (by decide) | exact Ok.bs3 rfl rfl rfl rfl rfl | exact Ok.bs4 rfl rfl rfl rfl rfl rfl | exact Ok.pe)) | ((first | apply Ca | (apply Cb; (· exact nxE))); (· first | exact Nx N1 rfl rfl rfl rfl rfl | exact Nx N2 rfl rfl rfl rfl rfl | exact Nx N3 rfl rfl rfl rfl rfl | exact Kx K4 rfl rfl rfl rfl rfl rfl (by decide) | exact Kx K5 rfl rfl rfl rfl rfl rfl (by decide) | exact Ok.bs3 rfl rfl rfl rfl rfl | exact Ok.bs4 rfl rfl rfl rfl rfl rfl | exact Ok.e0)) | refine Sx ?_ | (refine Sy (fun h => ?_) (fun h => ?_) <;> try (exfalso; omega; done)) | refine Sz (fun h => ?_) (fun h => ?_))
      all_goals
        refine Ya ?_
        (apply Le.headZ (hs := [(⟨0, []⟩, ⟨0, []⟩, _)]) [⟨0, []⟩] rfl)
        all_goals (try dsimp only [srcs])
        (case' hfr | hob => (repeat' (first | refine La ?_ ?_ | exact Lc | refine Lo ?_ | refine ⟨⟨_, rfl, ?_⟩, ?_⟩ | refine Lx ?_)))
        all_goals (first | exact Ld | exact trivial | (rfl))
  · refine ⟨(x, y), s3, ⟨by simp only; omega, by simp only; omega, fun _ => by simp only; omega⟩, h3, ?_⟩
    show AC _ _ _ (heapL [(⟨0, []⟩, ⟨0, []⟩, srcO code s)]) _ _
    refine AC.of_body 1 Tryz.func136 rfl (fun l h => by simp [heapL, upd] at h; simp [h]) (fun C hC => ?_)
    simp only [startFr, Tryz.ntmps136, List.length_cons, List.length_nil, Nat.reduceAdd, Nat.reduceSub, List.replicate_succ, List.replicate_zero, List.cons_append, List.nil_append]
    have hD : ∀ l, C.D0 l → l = ⟨0, []⟩ := fun l h => by have := (hC l).1 h; simp [heapL, upd] at this; exact this
    repeat' (first | ((first | apply Ba | (apply Bb; (· rfl); (· rfl)) | (apply Bc; (· exact nxE)) | (apply Bd; (· rfl); (· rfl); (· exact nxE))); (· first | exact Kz rfl rfl (hR) (Ad (Ad An)) | exact Nx N1 rfl rfl rfl rfl rfl | exact Nx N2 rfl rfl rfl rfl rfl | exact Nx N3 rfl rfl rfl rfl rfl | exact Ok.pe)) | ((first | apply Ca | (apply Cb; (· exact nxE))); (· first | exact Nx N1 rfl rfl rfl rfl rfl | exact Nx N2 rfl rfl rfl rfl rfl | exact Nx N3 rfl rfl rfl rfl rfl | exact Ok.e0)) | refine Sx ?_ | (refine Sy (fun h => ?_) (fun h => ?_) <;> try (exfalso; omega; done)) | refine Sz (fun h => ?_) (fun h => ?_))
    all_goals
      refine Ya ?_
      (apply Le.headZ (hs := [(⟨0, []⟩, ⟨0, []⟩, _)]) [⟨0, []⟩] rfl)
      all_goals (try dsimp only [srcs])
      (case' hfr | hob => (repeat' (first | refine La ?_ ?_ | exact Lc | refine Lo ?_ | refine ⟨⟨_, rfl, ?_⟩, ?_⟩ | refine Lx ?_)))
      all_goals (first | exact Ld | exact trivial | (rfl))
/-! ### Vectors -/
def dvF (code : List Int) (q : QS) : QS := ((nxt code (nxt code q.1 31).2 8).2, q.2 ++ [if (nxt code (nxt code q.1 31).2 8).1 = 0 then -1000000000000000 else (nxt code q.1 31).1 - 15])
theorem dvF_ok {code : List Int} (hc : CodeOk code) {s : Src} (hs : SrcOk code s) (n : Nat) : SrcOk code (itr (dvF code) n (s, [])).1 ∧ (itr (dvF code) n (s, [])).2.length = n :=
  itr_ok (p := fun k (q : QS) => SrcOk code q.1 ∧ q.2.length = k) ⟨hs, rfl⟩ (fun k x h => ⟨(nxt_ok hc (nxt_ok hc h.1 31).2.2 8).2.2, by simp [dvF, h.2]⟩) n
set_option maxHeartbeats 4000000 in
theorem l02DrawVector_ex (code : List Int) (hc : CodeOk code) (s : Src) (hs : SrcOk code s) (n : Nat) (hn : n ≤ 1000) : ∃ (x : List Int) (s' : Src), x.length ≤ n + 1 ∧ SrcOk code s' ∧ AC Tryz.prog 68 [Bx 3 0, I n] (srcH code s) (IL x) (srcH code s') := by
  obtain ⟨hA, hAl⟩ := dvF_ok hc hs n
  generalize hqA : itr (dvF code) n (s, []) = qA at hA hAl
  obtain ⟨s2, xs⟩ := qA
  simp only at hA hAl
  obtain ⟨y, s3, y1, y2, h3, q3, N3⟩ := next_ex hc hA 60
  obtain ⟨v, s4, hv, h4, V4⟩ := l01DrawValue_ex code hc s3 h3
  refine ⟨if y = 0 then xs ++ [v] else if y = 1 then [] else xs, if y = 0 then s4 else s3, ?_, by split <;> assumption, ?_⟩
  · (repeat' split) <;> (first | (simp; done) | (simp; omega) | omega)
  have hyl : (IR xs).length = n := by rw [IR_len, hAl]
  show AC _ _ _ (heapL [(⟨0, []⟩, ⟨0, []⟩, srcO code s)]) _ _
  refine AC.of_body 1 Tryz.func68 rfl (fun l h => by simp [heapL, upd] at h; simp [h]) (fun C hC => ?_)
  simp only [startFr, Tryz.ntmps68, List.length_cons, List.length_nil, Nat.reduceAdd, Nat.reduceSub, List.replicate_succ, List.replicate_zero, List.cons_append, List.nil_append]
  have hD : ∀ l, C.D0 l → l = ⟨0, []⟩ := fun l h => by have := (hC l).1 h; simp [heapL, upd] at this; exact this
  repeat' (first | ((first | apply Ba | (apply Bb; (· rfl); (· rfl)) | (apply Bc; (· exact nxE)) | (apply Bd; (· rfl); (· rfl); (· exact nxE))); (· first | exact Ok.pe)) | ((first | apply Ca | (apply Cb; (· exact nxE))); (· first | exact Ok.e0)) | refine Sx ?_ | (refine Sy (fun h => ?_) (fun h => ?_) <;> try (exfalso; omega; done)) | refine Sz (fun h => ?_) (fun h => ?_))
  refine AW.loop (X := {k : Nat // k ≤ n}) (fun k => ⟨[Bx 3 0, I ((n : Int) - (k.1 : Nat)), Oo, Oo, Oo, .own 1 ⟨1, []⟩ 0 (itr (dvF code) (k.1 : Nat) (s, [])).2.length, Oo, Oo, Oo, Oo, Oo, Oo, Oo, Oo, Oo, Oo, Oo, Oo, Oo, Oo, Oo, Oo, Oo, Oo, Oo, Oo, Oo, Oo, Oo, Oo, Oo, Oo, Oo, Oo, Oo, Oo, Oo], heapL [(⟨0, []⟩, ⟨0, []⟩, srcO code (itr (dvF code) k.1 (s, [])).1), (⟨1, []⟩, ⟨1, []⟩, IO (itr (dvF code) k.1 (s, [])).2)], 900⟩) (fun k => n - k.1) ⟨0, Nat.zero_le _⟩ ?_ (fun k => ?_)
  ·
    (apply Le.headZ [_, _] rfl)
    all_goals (try dsimp only [srcs])
    (case' hfr | hob => (repeat' (first | refine La ?_ ?_ | exact Lc | refine Lo ?_ | refine ⟨⟨_, rfl, ?_⟩, ?_⟩ | refine Lx ?_)))
    all_goals (first | (rfl) | exact Ld)
  obtain ⟨w, hw⟩ := k
  simp only
  by_cases hlt : w < n
  · obtain ⟨i1, i2⟩ := dvF_ok hc hs w
    have hst : itr (dvF code) (w + 1) (s, []) = dvF code (itr (dvF code) w (s, [])) := rfl
    generalize itr (dvF code) w (s, []) = q at i1 i2 hst ⊢
    obtain ⟨s5, ys⟩ := q
    simp only at i1 i2 ⊢
    obtain ⟨a, s6, a1, a2, h6, q6, N6⟩ := next_ex hc i1 31
    obtain ⟨b, s7, b1, b2, h7, q7, N7⟩ := next_ex hc h6 8
    have hst := hst.trans (show dvF code (s5, ys) = (s7, ys ++ [if b = 0 then -1000000000000000 else a - 15]) by unfold dvF; simp only [q6, q7])
    have hyl : (IR ys).length = ys.length := IR_len
    by_cases hb : b = 0
    · rw [if_pos hb] at hst
      have hix : 0 + (((ys.length + 1 : Nat) : Int) - 1).toNat = ys.length := by omega
      have hlr : (dobj 1 (IR ys ++ [[DI (a - 15)]])).rows[0 + (((ys.length + 1 : Nat) : Int) - 1).toNat]? = some [I (a - 15)] := by rw [hix]; simp [dobj]
      have hls : (dobj 1 (IR ys ++ [[DI (a - 15)]])).rows.set (0 + (((ys.length + 1 : Nat) : Int) - 1).toNat) ([I (a - 15)].set 0 (I (-1000000000000000))) = (dobj 1 (IR (ys ++ [-1000000000000000]))).rows := by rw [hix]; simp [dobj]
      repeat' (first | ((first | apply Ba | (apply Bb; (· rfl); (· rfl)) | (apply Bc; (· exact nxE)) | (apply Bd; (· rfl); (· rfl); (· exact nxE))); (· first | exact Nx N6 rfl rfl rfl rfl rfl | exact Nx N7 rfl rfl rfl rfl rfl | exact Ok.append1 (row := [DI (a - 15)]) rfl rfl (by decide) rfl rfl hyl rfl rfl rfl (by rfl) (by omega) (by omega) | exact Ok.storeC rfl rfl rfl rfl hlr (by simp) rfl rfl rfl hls | exact Ok.pe)) | ((first | apply Ca | (apply Cb; (· exact nxE))); (· first | exact Nx N6 rfl rfl rfl rfl rfl | exact Nx N7 rfl rfl rfl rfl rfl | exact Ok.append1 (row := [DI (a - 15)]) rfl rfl (by decide) rfl rfl hyl rfl rfl rfl (by rfl) (by omega) (by omega) | exact Ok.storeC rfl rfl rfl rfl hlr (by simp) rfl rfl rfl hls | exact Ok.e0)) | refine Sx ?_ | (refine Sy (fun h => ?_) (fun h => ?_) <;> try (exfalso; omega; done)) | refine Sz (fun h => ?_) (fun h => ?_))
      refine ⟨⟨w + 1, by omega⟩, ?_, by simp only; omega⟩
      simp only [hst]
      (apply Le.headZ [_, _] rfl)
      all_goals (try dsimp only [srcs])
      (case' hfr | hob => (repeat' (first | refine La ?_ ?_ | exact Lc | refine Lo ?_ | refine ⟨⟨_, rfl, ?_⟩, ?_⟩ | refine Lx ?_)))
      all_goals (first | ((simp; done)) | exact Ld)
    · rw [if_neg hb] at hst
      repeat' (first | ((first | apply Ba | (apply Bb; (· rfl); (· rfl)) | (apply Bc; (· exact nxE)) | (apply Bd; (· rfl); (· rfl); (· exact nxE))); (· first | exact Nx N6 rfl rfl rfl rfl rfl | exact Nx N7 rfl rfl rfl rfl rfl | exact Ok.append1 (row := [DI (a - 15)]) rfl rfl (by decide) rfl rfl hyl rfl rfl rfl (by rfl) (by omega) (by omega) | exact Ok.pe)) | ((first | apply Ca | (apply Cb; (· exact nxE))); (· first | exact Nx N6 rfl rfl rfl rfl rfl | exact Nx N7 rfl rfl rfl rfl rfl | exact Ok.append1 (row := [DI (a - 15)]) rfl rfl (by decide) rfl rfl hyl rfl rfl rfl (by rfl) (by omega) (by omega) | exact Ok.e0)) | refine Sx ?_ | (refine Sy (fun h => ?_) (fun h => ?_) <;> try (exfalso; omega; done)) | refine Sz (fun h => ?_) (fun h => ?_))
      refine ⟨⟨w + 1, by omega⟩, ?_, by simp only; omega⟩
      simp only [hst]
      (apply Le.headZ [_, _] rfl)
      all_goals (try dsimp only [srcs])
      (case' hfr | hob => (repeat' (first | refine La ?_ ?_ | exact Lc | refine Lo ?_ | refine ⟨⟨_, rfl, ?_⟩, ?_⟩ | refine Lx ?_)))
      all_goals (first | ((simp; done)) | exact Ld)
  obtain rfl : w = n := by omega
  rw [hqA]
  simp only
  have hyl2 : (IR xs).length = xs.length := IR_len
  by_cases c0 : y = 0
  · simp only [if_pos c0]
    repeat' (first | ((first | apply Ba | (apply Bb; (· rfl); (· rfl)) | (apply Bc; (· exact nxE)) | (apply Bd; (· rfl); (· rfl); (· exact nxE))); (· first | exact Nx N3 rfl rfl rfl rfl rfl | exact Zx (args := []) V4 rfl rfl rfl rfl .nil (fun _ => by simp [rn]) | exact Ok.append1 (row := [DI v]) rfl rfl (by decide) rfl rfl hyl2 rfl rfl rfl (by rfl) (by omega) (by omega) | exact Ok.pe)) | ((first | apply Ca | (apply Cb; (· exact nxE))); (· first | exact Nx N3 rfl rfl rfl rfl rfl | exact Zx (args := []) V4 rfl rfl rfl rfl .nil (fun _ => by simp [rn]) | exact Ok.append1 (row := [DI v]) rfl rfl (by decide) rfl rfl hyl2 rfl rfl rfl (by rfl) (by omega) (by omega) | exact Ok.e0)) | refine Sx ?_ | (refine Sy (fun h => ?_) (fun h => ?_) <;> try (exfalso; omega; done)) | refine Sz (fun h => ?_) (fun h => ?_))
    refine Ya ?_
    (apply Le.headZ (hs := [(⟨0, []⟩, ⟨0, []⟩, _)]) [⟨0, []⟩] rfl)
    all_goals (try dsimp only [srcs])
    (case' hfr | hob => (repeat' (first | refine La ?_ ?_ | refine ARs.agg ?_ | refine ARs.tup ?_ | (exact AR.whole (rows := IR (xs ++ [v])) (by simp; rfl) (by simp) (by simp)) | refine La ?_ ?_ | exact Lc | refine Lo ?_ | refine ⟨⟨_, rfl, ?_⟩, ?_⟩ | refine Lx ?_)))
    all_goals (first | exact Ld | exact trivial | (exact AR.whole (rows := IR (xs ++ [v])) (by simp; rfl) (by simp) (by simp)))
  · simp only [if_neg c0]
    by_cases c1 : y = 1
    · simp only [if_pos c1]
      repeat' (first | ((first | apply Ba | (apply Bb; (· rfl); (· rfl)) | (apply Bc; (· exact nxE)) | (apply Bd; (· rfl); (· rfl); (· exact nxE))); (· first | exact Nx N3 rfl rfl rfl rfl rfl | exact Ok.pe)) | ((first | apply Ca | (apply Cb; (· exact nxE))); (· first | exact Nx N3 rfl rfl rfl rfl rfl | exact Ok.e0)) | refine Sx ?_ | (refine Sy (fun h => ?_) (fun h => ?_) <;> try (exfalso; omega; done)) | refine Sz (fun h => ?_) (fun h => ?_))
      refine Ya ?_
      (apply Le.headZ (hs := [(⟨0, []⟩, ⟨0, []⟩, _)]) [⟨0, []⟩] rfl)
      all_goals (try dsimp only [srcs])
      (case' hfr | hob => (repeat' (first | refine La ?_ ?_ | exact Lc | refine Lo ?_ | refine ⟨⟨_, rfl, ?_⟩, ?_⟩ | refine Lx ?_)))
      all_goals (first | exact Ld | exact trivial | (rfl))
    · simp only [if_neg c1]
      repeat' (first | ((first | apply Ba | (apply Bb; (· rfl); (· rfl)) | (apply Bc; (· exact nxE)) | (apply Bd; (· rfl); (· rfl); (· exact nxE))); (· first | exact Nx N3 rfl rfl rfl rfl rfl | exact Ok.pe)) | ((first | apply Ca | (apply Cb; (· exact nxE))); (· first | exact Nx N3 rfl rfl rfl rfl rfl | exact Ok.e0)) | refine Sx ?_ | (refine Sy (fun h => ?_) (fun h => ?_) <;> try (exfalso; omega; done)) | refine Sz (fun h => ?_) (fun h => ?_))
      refine Ya ?_
      (apply Le.headZ (hs := [(⟨0, []⟩, ⟨0, []⟩, _)]) [⟨0, []⟩] rfl)
      all_goals (try dsimp only [srcs])
      (case' hfr | hob => (repeat' (first | refine La ?_ ?_ | refine ARs.agg ?_ | refine ARs.tup ?_ | (exact AR.whole rfl (by simp) (by simp)) | refine La ?_ ?_ | exact Lc | refine Lo ?_ | refine ⟨⟨_, rfl, ?_⟩, ?_⟩ | refine Lx ?_)))
      all_goals (first | exact Ld | exact trivial | (exact AR.whole rfl (by simp) (by simp)))
end Go.Proofs.YtpgcmpbamlnkkaaGreat
end

section
namespace Go.Proofs.YtpgcmpbamlnkkaaGreat
set_option linter.unusedSimpArgs false
set_option linter.unusedVariables false
open Go Go.RowKit
attribute [local irreducible] AL AD AW OpOk Le AC thenQ blockQ EndQ

end Go.Proofs.YtpgcmpbamlnkkaaGreat
end

section
namespace Go.Proofs.YtpgcmpbamlnkkaaGreat
set_option linter.unusedSimpArgs false
set_option linter.unusedVariables false
open Go Go.RowKit
attribute [local irreducible] AL AD AW OpOk Le AC thenQ blockQ EndQ

noncomputable def ptL (n : Nat) (xs : List Pl) (r : Int × Int) : List Int := rowF n fun i => apA (entN (tabF n n (starF (entN (wmT n xs r)) n))) (fun _ => 0) i n
theorem apA_ge {f : Nat → Nat → Int} {v : Nat → Int} {i j : Nat} : ∀ {k : Nat}, j < k → timesB (f i j) (v j) ≤ apA f v i k
  | k + 1, h => by
    simp only [apA]
    by_cases e : j = k
    · subst e; omega
    · have := apA_ge (f := f) (v := v) (i := i) (j := j) (k := k) (by omega); omega
theorem ptL_ne {n : Nat} {xs : List Pl} {r : Int × Int} (hst : StarM (wmT n xs r) n) : ∀ a ∈ ptL n xs r, a ≠ BOT := by
  intro a ha
  obtain ⟨i, hi, rfl⟩ := List.mem_map.1 ha
  rw [List.mem_range] at hi
  have := apA_ge (f := entN (tabF n n (starF (entN (wmT n xs r)) n))) (v := fun _ => 0) (i := i) (j := i) (k := n) hi
  rw [tabF_ent hi hi, star_dia0 hst.np hst.ok.some hst.ok.dia hi] at this
  unfold timesB BOT at this
  unfold BOT
  simp at this
  omega
theorem ptL_ok {n : Nat} {xs : List Pl} {r : Int × Int} (hst : StarM (wmT n xs r) n) : ((ptL n xs r).all fun a => isVal a && !decide (a = BOT)) = (ptL n xs r).all isVal := by
  rw [Bool.eq_iff_iff]
  simp only [List.all_eq_true]
  refine ⟨fun h a ha => ?_, fun h a ha => ?_⟩
  · have := h a ha; simp at this; exact this.1
  · rw [h a ha, decide_eq_false (ptL_ne hst a ha)]; rfl
theorem apOk_star {n : Nat} {xs : List Pl} {r : Int × Int} (hst : StarM (wmT n xs r) n) : ApOk (entN (tabF n n (starF (entN (wmT n xs r)) n))) (fun _ => 0) n n := ⟨fun i j hi hj => by
  rw [tabF_ent hi hj]
  rcases hst.starB hi hj with h | h
  · exact .inl h
  · exact .inr (by omega), fun j _ => .inr (by omega)⟩
theorem zeroRow {n : Nat} : IR (rowF n fun _ => 0) = List.replicate n [DI 0] := by simp [rowF, List.map_const']
end Go.Proofs.YtpgcmpbamlnkkaaGreat
end

section
namespace Go.Proofs.YtpgcmpbamlnkkaaGreat
set_option linter.unusedSimpArgs false
set_option linter.unusedVariables false
open Go Go.RowKit
attribute [local irreducible] AL AD AW OpOk Le AC thenQ blockQ EndQ

end Go.Proofs.YtpgcmpbamlnkkaaGreat
end
