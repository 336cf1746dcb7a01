/-
  Walks in the abstract reading, part 11.
-/
import Derived.Test.YtkpoclbnnpglfaaKcU7
import Derived.Test.YtkpoclbnnpglfaaKcU9
import Derived.Test.YtkpoclbnnpglfaaKcU10
section
namespace Go.Proofs.Ytkpoclbnnpglfaa
set_option linter.unusedSimpArgs false
set_option linter.unusedVariables false
open Go Go.RowKit
attribute [local irreducible] AL AD AW OpOk Le AC thenQ blockQ EndQ

set_option maxHeartbeats 8000000 in
theorem goOnW_ac [Mode] (T : List (List Int)) (n : Nat) (hT : Sq T n) (hn : n ≤ 1000) (F : FuncId) [FnBody Try.prog F] (hW : ∀ (l : List Int) (w : Int), AC Try.prog F [IL l, I w] H0 (Bo (decide (0 < w))) H0) (hb : ∀ i j, i < n → j < n → entN T i j = BOT ∨ (-1000000 ≤ entN T i j ∧ entN T i j ≤ 1000000)) : ∀ (k : Nat) (l : List Nat) (w : Int), PathN n l → k + l.length = n + 1 → (-1000000 * (l.length : Int) ≤ w ∧ w ≤ 1000000 * (l.length : Int)) →
    AC Try.prog 120 [Bx 4 0, I w] (cyH T F n l) (Bo (decide (growF (entN T) n 0 k l w ≠ []))) (if growF (entN T) n 0 k l w = [] then cyHF T F n l else cyHT T F (growF (entN T) n 0 k l w)) := by
  intro m
  induction m with
  | zero =>
    intro l w hp hk hw
    have := nodup_le n l hp.nd hp.lt
    omega
  | succ m ih =>
    intro l w hp hk hw
    have hln := nodup_le n l hp.nd hp.lt
    have hlen : 0 < l.length := List.length_pos_iff.2 hp.ne
    have hfi := hp.lt _ (hdN_mem hp.ne)
    have hla := hp.lt _ (lsN_mem hp.ne)
    have htl : (mRows 1 (TR T)).length = n := by simp [hT.l]
    have hsg : ∀ i j, i < n → j < n → ∃ r, (mRows 1 (TR T))[((i : Nat) : Int).toNat]? = some [.sl 1 (IR r)] ∧ (IR r)[((j : Nat) : Int).toNat]? = some [DI (entN T i j)] ∧ (IR r).length = n := fun i j hi hj => by
      obtain ⟨r, h1, h2, h3⟩ := hT.get hi hj
      exact ⟨r, TR_get h1, IR_get h2, by rw [IR_len, h3]⟩
    have h0g : l[0]? = some (hdN l) := by
      cases l with
      | nil => exact absurd rfl hp.ne
      | cons x l => rfl
    have hng : l[l.length - 1]? = some (lsN l) := by
      unfold lsN
      rw [List.getLastD_eq_getLast?, List.getLast?_eq_getElem?]
      rw [List.getElem?_eq_getElem (show l.length - 1 < l.length by omega)]
      rfl
    have hfst : (dobj 1 (IR (cN l))).rows[0 + (0 : Int).toNat]? = some [I (hdN l : Nat)] := cNr_get h0g
    have hlst : (dobj 1 (IR (cN l))).rows[0 + ((l.length : Int) - 1).toNat]? = some [I (lsN l : Nat)] := by
      rw [show ((l.length : Int) - 1).toNat = l.length - 1 by omega]; exact cNr_get hng
    have hapl : (IR (cN l)).length = l.length := by simp
    have hpl : (dobj 1 (IR (cN l))).rows.length = l.length := by simp [dobj]
    obtain ⟨G, hG⟩ : ∃ G, growF (entN T) n 0 (m + 1) l w = G := ⟨_, rfl⟩
    rw [hG]
    unfold growF at hG
    generalize hFF : (fun v => if entN T v (lsN l) = BOT ∨ v ∈ l then [] else growF (entN T) n 0 m (l ++ [v]) (w + entN T v (lsN l))) = Fv at hG
    have hFj0 : ∀ v, Fv v = if entN T v (lsN l) = BOT ∨ v ∈ l then [] else growF (entN T) n 0 m (l ++ [v]) (w + entN T v (lsN l)) := fun v => by rw [← hFF]
    clear hFF
    obtain ⟨r0, e1, e2, e3⟩ := hsg (hdN l) (lsN l) hfi hla
    have hx0b := hb _ _ hfi hla
    have hwb : -1000000000 ≤ w ∧ w ≤ 1000000000 := by omega
    unfold BOT at hx0b
    have hhd : ∀ v, hdN (l ++ [v]) = hdN l := fun v => hdN_app hp.ne
    generalize hfe : hdN l = fi at *
    generalize hle : lsN l = la at *
    have hwc := hW (cN l) (w + entN T fi la)
    by_cases hpos : entN T fi la ≠ BOT ∧ 0 < w + entN T fi la
    case pos =>
      rw [if_pos hpos] at hG
      obtain ⟨harc, hpo⟩ := hpos
      rw [decide_eq_true hpo] at hwc
      rw [← hG, if_neg hp.ne, decide_eq_true hp.ne, cyHT_eq]
      generalize entN T fi la = x at *
      unfold BOT at harc
      refine AC.of_body 3 Try.func120 rfl (fun l h => by simp [upd] at h; (repeat' split at h) <;> simp_all) (fun C hC => ?_)
      simp only [startFr, Try.ntmps120, List.length_cons, List.length_nil, Nat.reduceAdd, Nat.reduceSub, List.replicate_succ, List.replicate_zero, List.cons_append, List.nil_append]
      have hD : ∀ l, C.D0 l → l = ⟨0, []⟩ ∨ l = ⟨1, []⟩ ∨ l = ⟨2, []⟩ := fun l h => by have := (hC l).1 h; simp [upd] at this; (repeat' split at this) <;> simp_all
      repeat' (first | ((first | apply Ba | (apply Bb; (· rfl); (· rfl)) | (apply Bc; (· exact nxE)) | (apply Bd; (· rfl); (· rfl); (· exact nxE))); (· first | exact OpOk.loadCell rfl rfl rfl rfl hfst rfl | exact OpOk.loadCell rfl rfl rfl rfl hlst rfl | exact Ez rfl rfl (hwc) (Sw (Sd Sn)) | exact OpOk.nilCheck rfl rfl | exact Ok.pe)) | ((first | apply Ca | (apply Cb; (· exact nxE))); (· first | exact Ok.e0)) | refine Sx ?_ | (refine Sy (fun h => ?_) (fun h => ?_) <;> try (exfalso; omega; done)) | refine Sz (fun h => ?_) (fun h => ?_))
      (refine end1p (by first | exact .inl rfl | exact .inr rfl) rfl (by first | exact rT rfl | exact rCA rfl rfl rfl rfl (by simp) | exact rCC rfl rfl rfl rfl rfl) ?_ (Le.head ([(⟨0, []⟩, ⟨0, []⟩, ⟨4, [[TL T, .clo (.func F) [] [], .own 1 ⟨3, []⟩ 0 l.length, .dead]]⟩), (⟨3, []⟩, ⟨1, []⟩, IO (cN l))]) (by first | exact fun l h => absurd h (hD l) | (intro l h; rcases hD l h with rfl; simp [tauL]) | (intro l h; rcases hD l h with rfl | rfl <;> simp [tauL]; done) | (intro l h; rcases hD l h with rfl | rfl | rfl <;> simp [tauL])) ?_ ?_ (by simp) (by simp) (by simp [AllP]) (n' := 1000)); (· rfl)) <;> (repeat' (first | exact trivial | exact ARs.nil | refine ARs.cons ?_ ?_ | exact AR.dead _ | exact AR.dd _ | exact AR.i (by (try dsimp only); omega) | exact AR.ptr _ _ _ _ (by simp [heapL, upd]) | exact AR.own _ _ _ _ (by simp [heapL, upd]) | refine AR.ownE _ _ _ ?_ (by simp [heapL, upd]) | refine ⟨⟨_, rfl, ?_⟩, ?_⟩ | exact ObA.data | refine ObA.box ?_ | refine ObA.frE ?_ | refine ObA.dataE ?_ | refine ARs.agg ?_ | refine ARs.tup ?_ | exact AR.clo' ARs.nil ARs.nil | exact AR.clo' ARs.nil (hca _ _)))
    rw [if_neg hpos] at hG
    have hside : entN T fi la = -1000000000000000 ∨ (¬ entN T fi la = -1000000000000000 ∧ ¬ 0 < w + entN T fi la) := by
      unfold BOT at hpos
      by_cases h : entN T fi la = -1000000000000000
      · exact .inl h
      · exact .inr ⟨h, fun h2 => hpos ⟨h, h2⟩⟩
    clear hpos
    generalize entN T fi la = x0 at *
    rcases hside with rfl | ⟨hx1, hx2⟩
    all_goals
      (try rw [decide_eq_false hx2] at hwc)
      refine AC.of_body 3 Try.func120 rfl (fun l h => by simp [upd] at h; (repeat' split at h) <;> simp_all) (fun C hC => ?_)
      simp only [startFr, Try.ntmps120, List.length_cons, List.length_nil, Nat.reduceAdd, Nat.reduceSub, List.replicate_succ, List.replicate_zero, List.cons_append, List.nil_append]
      have hD : ∀ l, C.D0 l → l = ⟨0, []⟩ ∨ l = ⟨1, []⟩ ∨ l = ⟨2, []⟩ := fun l h => by have := (hC l).1 h; simp [upd] at this; (repeat' split at this) <;> simp_all
      repeat' (first | ((first | apply Ba | (apply Bb; (· rfl); (· rfl)) | (apply Bc; (· exact nxE)) | (apply Bd; (· rfl); (· rfl); (· exact nxE))); (· first | exact OpOk.loadCell rfl rfl rfl rfl hfst rfl | exact OpOk.loadCell rfl rfl rfl rfl hlst rfl | exact Ez rfl rfl (hwc) (Sw (Sd Sn)) | exact OpOk.nilCheck rfl rfl | exact Ok.pe)) | ((first | apply Ca | (apply Cb; (· exact nxE))); (· first | exact Ok.e0)) | refine Sx ?_ | (refine Sy (fun h => ?_) (fun h => ?_) <;> try (exfalso; omega; done)) | refine Sz (fun h => ?_) (fun h => ?_))
      refine AW.loop (X := {k : Nat // k ≤ n - (fi + 1) ∧ G = tryAll Fv (List.range' (fi + 1 + k) (n - (fi + 1 + k)))}) (fun k => ⟨[Bx 4 0, I w, Oo, Oo, Oo, Oo, I la, Oo, I (fi + 1 + (k.1 : Nat) : Nat), Oo, Oo, Oo, Oo, Oo, Oo, Oo, Oo, Oo, Oo, Oo, Oo, Oo, Oo, Oo, Oo, Oo, Oo, Oo, Oo, Oo, Oo, Oo, Oo, Oo, Oo, Oo, Oo, Oo, Oo, Oo, Oo, Oo, Oo, Oo, Oo, Oo, Oo, Oo, Oo, Oo, Oo, Oo, Oo, Oo, Oo, Oo, Oo, Oo, Oo, Oo, Oo, Oo, Oo, Oo, Oo, Oo, Oo, Oo, Oo, Oo, Oo, Oo, Oo, Oo, Oo, Oo, Oo, Oo, Oo, Oo, Oo, Oo, Oo, Oo, Oo, Oo, Oo, Oo, Oo, Oo, Oo, Oo, Oo, Oo, Oo, Oo, Oo, Oo, Oo, Oo, Oo, Oo, Oo, Oo, Oo, Oo, Oo, Oo, Oo, Oo, Oo, Oo, Oo, Oo, Oo, Oo, Oo, Oo, Oo, Oo, Oo, Oo, Oo, Oo, Oo, Oo, Oo], heapL [(⟨0, []⟩, ⟨0, []⟩, ⟨4, [[TL T, .clo (.func F) [] [], .own 1 ⟨3, []⟩ 0 l.length, .own 1 ⟨2, []⟩ 0 n]]⟩), (⟨3, []⟩, ⟨3, []⟩, IO (cN l)), (⟨2, []⟩, ⟨2, []⟩, dobj 1 (boR n (usV l)))], 900⟩) (fun k => n - (fi + 1) - k.1) ⟨0, Nat.zero_le _, hG.symm⟩ ?_ (fun k => ?_)
      ·
        (apply Le.headZ [_, _, _] rfl)
        all_goals (try dsimp only [srcs])
        (case' hfr | hob => (repeat' (first | refine La ?_ ?_ | exact Lc | refine Lo ?_ | refine ⟨⟨_, rfl, ?_⟩, ?_⟩ | refine Lx ?_)))
        all_goals (first | (rfl) | exact Ld)
      obtain ⟨j0, hj, hinv⟩ := k
      simp only
      obtain ⟨j, hjj⟩ : ∃ j, fi + 1 + j0 = j := ⟨_, rfl⟩
      rw [hjj] at hinv ⊢
      by_cases hlt : j < n
      case neg =>
        have hG0 : G = [] := by rw [hinv, show n - j = 0 by omega]; rfl
        rw [hG0]
        rw [if_pos rfl, decide_eq_false (by simp)]
        repeat' (first | ((first | apply Ba | (apply Bb; (· rfl); (· rfl)) | (apply Bc; (· exact nxE)) | (apply Bd; (· rfl); (· rfl); (· exact nxE))); (· first | exact Ok.lenD rfl rfl htl | exact OpOk.nilCheck rfl rfl | exact Ok.pe)) | ((first | apply Ca | (apply Cb; (· exact nxE))); (· first | exact Ok.e0)) | refine Sx ?_ | (refine Sy (fun h => ?_) (fun h => ?_) <;> try (exfalso; omega; done)) | refine Sz (fun h => ?_) (fun h => ?_))
        (refine end1p (by first | exact .inl rfl | exact .inr rfl) rfl (by first | exact rT rfl | exact rCA rfl rfl rfl rfl (by simp) | exact rCC rfl rfl rfl rfl rfl) ?_ (Le.head ([(⟨0, []⟩, ⟨0, []⟩, ⟨4, [[TL T, .clo (.func F) [] [], .own 1 ⟨3, []⟩ 0 l.length, .own 1 ⟨2, []⟩ 0 n]]⟩), (⟨3, []⟩, ⟨3, []⟩, IO (cN l)), (⟨2, []⟩, ⟨2, []⟩, dobj 1 (boR n (usV l)))]) (by first | exact fun l h => absurd h (hD l) | (intro l h; rcases hD l h with rfl; simp [tauL]) | (intro l h; rcases hD l h with rfl | rfl <;> simp [tauL]; done) | (intro l h; rcases hD l h with rfl | rfl | rfl <;> simp [tauL])) ?_ ?_ (by simp) (by simp) (by simp [AllP]) (n' := 1000)); (· rfl)) <;> (repeat' (first | exact trivial | exact ARs.nil | refine ARs.cons ?_ ?_ | exact AR.dead _ | exact AR.dd _ | exact AR.i (by (try dsimp only); omega) | exact AR.ptr _ _ _ _ (by simp [heapL, upd]) | exact AR.own _ _ _ _ (by simp [heapL, upd]) | refine AR.ownE _ _ _ ?_ (by simp [heapL, upd]) | refine ⟨⟨_, rfl, ?_⟩, ?_⟩ | exact ObA.data | refine ObA.box ?_ | refine ObA.frE ?_ | refine ObA.dataE ?_ | refine ARs.agg ?_ | refine ARs.tup ?_ | exact AR.clo' ARs.nil ARs.nil | exact AR.clo' ARs.nil (hca _ _)))
      obtain ⟨r, q1, q2, q3⟩ := hsg j la hlt hla
      have hFj := hFj0 j
      have hus := boR_get (g := usV l) hlt
      have hmem := hp.mem (v := j) (by rw [hfe]; omega)
      have hskipEnd : Fv j = [] → G = tryAll Fv (List.range' (j + 1) (n - (j + 1))) := fun h => by rw [hinv, tryAll_no hlt h]
      have hnext : ∀ h : G = tryAll Fv (List.range' (j + 1) (n - (j + 1))), G = tryAll Fv (List.range' (fi + 1 + (j0 + 1)) (n - (fi + 1 + (j0 + 1)))) := fun h => by rw [show fi + 1 + (j0 + 1) = j + 1 by omega]; exact h
      by_cases hx : entN T j la = BOT
      · have hnx := hnext (hskipEnd (by rw [hFj, if_pos (.inl hx)]))
        rw [hx] at q2
        unfold BOT at q2
        repeat' (first | ((first | apply Ba | (apply Bb; (· rfl); (· rfl)) | (apply Bc; (· exact nxE)) | (apply Bd; (· rfl); (· rfl); (· exact nxE))); (· first | exact Ok.lenD rfl rfl htl | exact OpOk.nilCheck rfl rfl | exact Ok.pe)) | ((first | apply Ca | (apply Cb; (· exact nxE))); (· first | exact Ok.e0)) | refine Sx ?_ | (refine Sy (fun h => ?_) (fun h => ?_) <;> try (exfalso; omega; done)) | refine Sz (fun h => ?_) (fun h => ?_))
        refine ⟨⟨j0 + 1, by omega, hnx⟩, ?_, by simp only; omega⟩
        (apply Le.headZ [_, _, _] rfl)
        all_goals (try dsimp only [srcs])
        (case' hfr | hob => (repeat' (first | refine La ?_ ?_ | exact Lc | refine Lo ?_ | refine ⟨⟨_, rfl, ?_⟩, ?_⟩ | refine Lx ?_)))
        all_goals (first | (rfl) | exact Ld)
      by_cases hv : j ∈ l
      · have hnx := hnext (hskipEnd (by rw [hFj, if_pos (.inr hv)]))
        rw [show usV l j = true from decide_eq_true (hmem.1 hv)] at hus
        generalize entN T j la = x at *
        unfold BOT at hx
        repeat' (first | ((first | apply Ba | (apply Bb; (· rfl); (· rfl)) | (apply Bc; (· exact nxE)) | (apply Bd; (· rfl); (· rfl); (· exact nxE))); (· first | exact Ok.lenD rfl rfl htl | exact Ok.ld1 rfl rfl rfl hus | exact OpOk.nilCheck rfl rfl | exact Ok.pe)) | ((first | apply Ca | (apply Cb; (· exact nxE))); (· first | exact Ok.e0)) | refine Sx ?_ | (refine Sy (fun h => ?_) (fun h => ?_) <;> try (exfalso; omega; done)) | refine Sz (fun h => ?_) (fun h => ?_))
        refine ⟨⟨j0 + 1, by omega, hnx⟩, ?_, by simp only; omega⟩
        (apply Le.headZ [_, _, _] rfl)
        all_goals (try dsimp only [srcs])
        (case' hfr | hob => (repeat' (first | refine La ?_ ?_ | exact Lc | refine Lo ?_ | refine ⟨⟨_, rfl, ?_⟩, ?_⟩ | refine Lx ?_)))
        all_goals (first | (rfl) | exact Ld)
      have hvt : j ∉ l.tail := fun h => hv (hmem.2 h)
      rw [show usV l j = false from decide_eq_false hvt] at hus
      rw [if_neg (by rintro (h | h); exact hx h; exact hv h)] at hFj
      have hset1 : (boR n (usV l)).set j [D.v (.bool true)] = boR n (usV (l ++ [j])) := by
        rw [boR_set]
        refine boR_congr fun e _ => ?_
        simp only [usV, List.tail_append_of_ne_nil hp.ne, List.mem_append, List.mem_singleton]
        by_cases e1 : e = j
        · simp [e1]
        · simp [e1]
      have hget2 := boR_get (g := usV (l ++ [j])) hlt
      have hset2 : (boR n (usV (l ++ [j]))).set j [D.v (.bool false)] = boR n (usV l) := by
        rw [boR_set]
        refine boR_congr fun e _ => ?_
        simp only [usV, List.tail_append_of_ne_nil hp.ne, List.mem_append, List.mem_singleton]
        by_cases e1 : e = j
        · subst e1; simp [hvt]
        · simp [e1]
      have hll : (l ++ [j]).length = l.length + 1 := by simp
      have hxb := (hb j la hlt hla).resolve_left hx
      have hIH := ih (l ++ [j]) (w + entN T j la) (hp.snoc hlt (by rw [hfe]; omega) hv) (by rw [hll]; omega) (by rw [hll]; push_cast; omega)
      by_cases hg : growF (entN T) n 0 m (l ++ [j]) (w + entN T j la) = []
      · have hnx := hnext (hskipEnd (by rw [hFj, hg]))
        rw [if_pos hg, hg, decide_eq_false (by simp)] at hIH
        unfold cyH cyHF IO at hIH
        rw [cN_snoc, hll] at hIH
        generalize usV (l ++ [j]) = sv at *
        generalize entN T j la = x at *
        unfold BOT at hx
        repeat' (first | ((first | apply Ba | (apply Bb; (· rfl); (· rfl)) | (apply Bc; (· exact nxE)) | (apply Bd; (· rfl); (· rfl); (· exact nxE))); (· first | exact Ok.lenD rfl rfl htl | exact Ok.ld1 rfl rfl rfl hus | exact Ok.sliceToO rfl rfl rfl (by omega) rfl (by omega) | exact OpOk.nilCheck rfl rfl | exact Ok.append1 (row := [DI (j : Nat)]) rfl rfl (by decide) rfl rfl hapl rfl rfl rfl (by rfl) (by omega) (by omega) | exact Ok.st1 rfl rfl rfl (by rw [boR_len]; omega) (by rw [hus]; rfl) rfl rfl hset1 | exact Ok.st1 rfl rfl rfl (by rw [boR_len]; omega) (by rw [hget2]; rfl) rfl rfl hset2 | exact OpOk.callB3a (b := ⟨0, []⟩) (p := ⟨943, []⟩) (q := ⟨2, []⟩) (x' := .own 1 ⟨2, []⟩ 0 n) rfl rfl hIH rfl rfl rfl (by decide) (by decide) (by decide) rfl (fun g => congrArg some (rnO_dobj _ _ _)) (by simp [Go.Proofs.Ytkpoclbnnpglfaa.rn, emb, thr]) (.cons (AR.ptr _ _ _ _ (by simp)) (.cons (.dd _) .nil)) cyD_ar cyD_rn | exact Ok.storeC rfl rfl rfl rfl rfl (by simp; done) (by conv => lhs; whnf) (by rfl) (by rfl) rfl | exact Ok.pe)) | ((first | apply Ca | (apply Cb; (· exact nxE))); (· first | exact Ok.append1 (row := [DI (j : Nat)]) rfl rfl (by decide) rfl rfl hapl rfl rfl rfl (by rfl) (by omega) (by omega) | exact Ok.st1 rfl rfl rfl (by rw [boR_len]; omega) (by rw [hus]; rfl) rfl rfl hset1 | exact Ok.st1 rfl rfl rfl (by rw [boR_len]; omega) (by rw [hget2]; rfl) rfl rfl hset2 | exact OpOk.callB3a (b := ⟨0, []⟩) (p := ⟨943, []⟩) (q := ⟨2, []⟩) (x' := .own 1 ⟨2, []⟩ 0 n) rfl rfl hIH rfl rfl rfl (by decide) (by decide) (by decide) rfl (fun g => congrArg some (rnO_dobj _ _ _)) (by simp [Go.Proofs.Ytkpoclbnnpglfaa.rn, emb, thr]) (.cons (AR.ptr _ _ _ _ (by simp)) (.cons (.dd _) .nil)) cyD_ar cyD_rn | exact Ok.storeC rfl rfl rfl rfl rfl (by simp; done) (by conv => lhs; whnf) (by rfl) (by rfl) rfl | exact Ok.e0)) | refine Sx ?_ | (refine Sy (fun h => ?_) (fun h => ?_) <;> try (exfalso; omega; done)) | refine Sz (fun h => ?_) (fun h => ?_))
        refine ⟨⟨j0 + 1, by omega, hnx⟩, ?_, by simp only; omega⟩
        refine (Le.takeL ⟨951, [3]⟩ l.length rfl).trans ?_
        (apply Le.headZ [_, _, _] rfl)
        all_goals (try dsimp only [srcs])
        (case' hfr | hob => (repeat' (first | refine La ?_ ?_ | exact Lc | refine Lo ?_ | refine ⟨⟨_, rfl, ?_⟩, ?_⟩ | refine Lx ?_)))
        all_goals (first | ((first | rfl | (simp [dobj]; done))) | exact Ld)
      · have hG1 : G = growF (entN T) n 0 m (l ++ [j]) (w + entN T j la) := by rw [hinv, tryAll_yes hlt (by rw [hFj]; exact hg), hFj]
        rw [if_neg hg, decide_eq_true hg] at hIH
        rw [hG1, if_neg hg, decide_eq_true hg, cyHT_eq]
        generalize growF (entN T) n 0 m (l ++ [j]) (w + entN T j la) = c at *
        unfold cyH cyHT IO at hIH
        rw [cN_snoc, hll] at hIH
        generalize usV (l ++ [j]) = sv at *
        generalize entN T j la = x at *
        unfold BOT at hx
        repeat' (first | ((first | apply Ba | (apply Bb; (· rfl); (· rfl)) | (apply Bc; (· exact nxE)) | (apply Bd; (· rfl); (· rfl); (· exact nxE))); (· first | exact Ok.lenD rfl rfl htl | exact Ok.ld1 rfl rfl rfl hus | exact OpOk.nilCheck rfl rfl | exact Ok.append1 (row := [DI (j : Nat)]) rfl rfl (by decide) rfl rfl hapl rfl rfl rfl (by rfl) (by omega) (by omega) | exact Ok.st1 rfl rfl rfl (by rw [boR_len]; omega) (by rw [hus]; rfl) rfl rfl hset1 | exact OpOk.callB3a (b := ⟨0, []⟩) (p := ⟨943, []⟩) (q := ⟨2, []⟩) (x' := .dead) rfl rfl hIH rfl rfl rfl (by decide) (by decide) (by decide) rfl (fun _ => rfl) (by simp [Go.Proofs.Ytkpoclbnnpglfaa.rn]) (.cons (AR.ptr _ _ _ _ (by simp)) (.cons (.dd _) .nil)) cyD_ar cyD_rn | exact Ok.pe)) | ((first | apply Ca | (apply Cb; (· exact nxE))); (· first | exact Ok.append1 (row := [DI (j : Nat)]) rfl rfl (by decide) rfl rfl hapl rfl rfl rfl (by rfl) (by omega) (by omega) | exact Ok.st1 rfl rfl rfl (by rw [boR_len]; omega) (by rw [hus]; rfl) rfl rfl hset1 | exact OpOk.callB3a (b := ⟨0, []⟩) (p := ⟨943, []⟩) (q := ⟨2, []⟩) (x' := .dead) rfl rfl hIH rfl rfl rfl (by decide) (by decide) (by decide) rfl (fun _ => rfl) (by simp [Go.Proofs.Ytkpoclbnnpglfaa.rn]) (.cons (AR.ptr _ _ _ _ (by simp)) (.cons (.dd _) .nil)) cyD_ar cyD_rn | exact Ok.e0)) | refine Sx ?_ | (refine Sy (fun h => ?_) (fun h => ?_) <;> try (exfalso; omega; done)) | refine Sz (fun h => ?_) (fun h => ?_))
        (refine end1p (by first | exact .inl rfl | exact .inr rfl) rfl (by first | exact rT rfl | exact rCA rfl rfl rfl rfl (by simp) | exact rCC rfl rfl rfl rfl rfl) ?_ (Le.head ([(⟨0, []⟩, ⟨0, []⟩, ⟨4, [[TL T, .clo (.func F) [] [], .own 1 ⟨3, []⟩ 0 c.length, .dead]]⟩), (⟨3, []⟩, ⟨951, [3]⟩, IO (cN c))]) (by first | exact fun l h => absurd h (hD l) | (intro l h; rcases hD l h with rfl; simp [tauL]) | (intro l h; rcases hD l h with rfl | rfl <;> simp [tauL]; done) | (intro l h; rcases hD l h with rfl | rfl | rfl <;> simp [tauL])) ?_ ?_ (by simp) (by simp) (by simp [AllP]) (n' := 1000)); (· rfl)) <;> (repeat' (first | exact trivial | exact ARs.nil | refine ARs.cons ?_ ?_ | exact AR.dead _ | exact AR.dd _ | exact AR.i (by (try dsimp only); omega) | exact AR.ptr _ _ _ _ (by simp [heapL, upd]) | exact AR.own _ _ _ _ (by simp [heapL, upd]) | refine AR.ownE _ _ _ ?_ (by simp [heapL, upd]) | refine ⟨⟨_, rfl, ?_⟩, ?_⟩ | exact ObA.data | refine ObA.box ?_ | refine ObA.frE ?_ | refine ObA.dataE ?_ | refine ARs.agg ?_ | refine ARs.tup ?_ | exact AR.clo' ARs.nil ARs.nil | exact AR.clo' ARs.nil (hca _ _)))
set_option maxHeartbeats 4000000 in
theorem firstCycleW_ac [Mode] (T : List (List Int)) (n : Nat) (hT : Sq T n) (hn : n ≤ 1000) (F : FuncId) [FnBody Try.prog F] (hW : ∀ (l : List Int) (w : Int), AC Try.prog F [IL l, I w] H0 (Bo (decide (0 < w))) H0) (hb : ∀ i j, i < n → j < n → entN T i j = BOT ∨ (-1000000 ≤ entN T i j ∧ entN T i j ≤ 1000000)) :
    AC Try.prog 85 [TL T, .clo (.func F) [] []] H0 (if overF (entN T) n 0 = [] then nilS else own1 1 (overF (entN T) n 0).length) (if overF (entN T) n 0 = [] then H0 else hp1 (IO (cN (overF (entN T) n 0)))) := by
  have htl : (mRows 1 (TR T)).length = n := by simp [hT.l]
  obtain ⟨G, hG⟩ : ∃ G, overF (entN T) n 0 = G := ⟨_, rfl⟩
  rw [hG]
  unfold overF at hG
  generalize hFF : (fun v => growF (entN T) n 0 n [v] 0) = Fv at hG
  have hFj0 : ∀ v, Fv v = growF (entN T) n 0 n [v] 0 := fun v => by rw [← hFF]
  clear hFF
  rw [show List.range' 0 n = List.range' 0 (n - 0) by simp] at hG
  refine AC.of_body 0 Try.func85 rfl (fun l h => absurd rfl h) (fun C hC => ?_)
  have hD : ∀ l, ¬ C.D0 l := fun l h => (hC l).1 h rfl
  simp only [startFr, Try.ntmps85, List.length_cons, List.length_nil, Nat.reduceAdd, Nat.reduceSub, List.replicate_succ, List.replicate_zero, List.cons_append, List.nil_append]
  repeat' (first | ((first | apply Ba | (apply Bb; (· rfl); (· rfl)) | (apply Bc; (· exact nxE)) | (apply Bd; (· rfl); (· rfl); (· exact nxE))); (· first | exact Ok.lenD rfl rfl htl | exact OpOk.nilCheck rfl rfl | exact Ok.pe)) | ((first | apply Ca | (apply Cb; (· exact nxE))); (· first | exact Ok.e0)) | refine Sx ?_ | (refine Sy (fun h => ?_) (fun h => ?_) <;> try (exfalso; omega; done)) | refine Sz (fun h => ?_) (fun h => ?_))
  refine AW.loop (X := {k : Nat // k ≤ n ∧ G = tryAll Fv (List.range' k (n - k))}) (fun k => ⟨[TL T, .clo (.func F) [] [], Oo, Oo, Oo, Oo, Oo, Oo, I n, I (k.1 : Nat), Oo, Oo, Oo, Oo, Oo, Oo, Oo, Oo, Oo, Oo, Oo, Oo, Oo, Oo], heapL [], 900⟩) (fun k => n - k.1) ⟨0, Nat.zero_le _, hG.symm⟩ ?_ (fun k => ?_)
  ·
    (apply Le.headZ [] rfl)
    all_goals (try dsimp only [srcs])
    (case' hfr | hob => (repeat' (first | refine La ?_ ?_ | exact Lc | refine Lo ?_ | refine ⟨⟨_, rfl, ?_⟩, ?_⟩ | refine Lx ?_)))
    all_goals (first | (rfl) | exact Ld)
  obtain ⟨j, hj, hinv⟩ := k
  simp only
  by_cases hlt : j < n
  case neg =>
    have hG0 : G = [] := by rw [hinv, show n - j = 0 by omega]; rfl
    rw [if_pos hG0, if_pos hG0]
    repeat' (first | ((first | apply Ba | (apply Bb; (· rfl); (· rfl)) | (apply Bc; (· exact nxE)) | (apply Bd; (· rfl); (· rfl); (· exact nxE))); (· first | exact OpOk.nilCheck rfl rfl | exact Ok.pe)) | ((first | apply Ca | (apply Cb; (· exact nxE))); (· first | exact Ok.e0)) | refine Sx ?_ | (refine Sy (fun h => ?_) (fun h => ?_) <;> try (exfalso; omega; done)) | refine Sz (fun h => ?_) (fun h => ?_))
    (refine end1p (by first | exact .inl rfl | exact .inr rfl) rfl (by first | exact rT rfl | exact rCA rfl rfl rfl rfl (by simp) | exact rCC rfl rfl rfl rfl rfl) ?_ (Le.head ([]) (by first | exact fun l h => absurd h (hD l) | (intro l h; rcases hD l h with rfl; simp [tauL]) | (intro l h; rcases hD l h with rfl | rfl <;> simp [tauL]; done) | (intro l h; rcases hD l h with rfl | rfl | rfl <;> simp [tauL])) ?_ ?_ (by simp) (by simp) (by simp [AllP]) (n' := 1000)); (· rfl)) <;> (repeat' (first | exact trivial | exact ARs.nil | refine ARs.cons ?_ ?_ | exact AR.dead _ | exact AR.dd _ | exact AR.i (by (try dsimp only); omega) | exact AR.ptr _ _ _ _ (by simp [heapL, upd]) | exact AR.own _ _ _ _ (by simp [heapL, upd]) | refine AR.ownE _ _ _ ?_ (by simp [heapL, upd]) | refine ⟨⟨_, rfl, ?_⟩, ?_⟩ | exact ObA.data | refine ObA.box ?_ | refine ObA.frE ?_ | refine ObA.dataE ?_ | refine ARs.agg ?_ | refine ARs.tup ?_ | exact AR.clo' ARs.nil ARs.nil | exact AR.clo' ARs.nil (hca _ _)))
  have hIH := goOnW_ac T n hT hn F hW hb n [j] 0 ⟨by simp, by simp [hlt], by simp, by simp⟩ rfl (by simp)
  have hus : usV [j] = fun _ => false := by funext e; simp [usV]
  by_cases hg : growF (entN T) n 0 n [j] 0 = []
  · have hnx : G = tryAll Fv (List.range' (j + 1) (n - (j + 1))) := by rw [hinv, tryAll_no hlt (by rw [hFj0, hg])]
    rw [if_pos hg, hg, decide_eq_false (by simp)] at hIH
    unfold cyH cyHF IO at hIH
    rw [hus] at hIH
    repeat' (first | ((first | apply Ba | (apply Bb; (· rfl); (· rfl)) | (apply Bc; (· exact nxE)) | (apply Bd; (· rfl); (· rfl); (· exact nxE))); (· first | exact Ok.lenD rfl rfl htl | exact OpOk.nilCheck rfl rfl | exact OpOk.callB3a (b := ⟨911, []⟩) (p := ⟨906, []⟩) (q := ⟨909, []⟩) (x' := .own 1 ⟨909, []⟩ 0 n) rfl rfl hIH rfl rfl (congrArg some boR_0) (by decide) (by decide) (by decide) rfl (fun g => congrArg some (rnO_dobj _ _ _)) (by simp [Go.Proofs.Ytkpoclbnnpglfaa.rn, emb, thr]) (.cons (AR.ptr _ _ _ _ (by simp)) (.cons (.dd _) .nil)) cyD_ar cyD_rn | exact Ok.pe)) | ((first | apply Ca | (apply Cb; (· exact nxE))); (· first | exact OpOk.callB3a (b := ⟨911, []⟩) (p := ⟨906, []⟩) (q := ⟨909, []⟩) (x' := .own 1 ⟨909, []⟩ 0 n) rfl rfl hIH rfl rfl (congrArg some boR_0) (by decide) (by decide) (by decide) rfl (fun g => congrArg some (rnO_dobj _ _ _)) (by simp [Go.Proofs.Ytkpoclbnnpglfaa.rn, emb, thr]) (.cons (AR.ptr _ _ _ _ (by simp)) (.cons (.dd _) .nil)) cyD_ar cyD_rn | exact Ok.e0)) | refine Sx ?_ | (refine Sy (fun h => ?_) (fun h => ?_) <;> try (exfalso; omega; done)) | refine Sz (fun h => ?_) (fun h => ?_))
    refine ⟨⟨j + 1, by omega, hnx⟩, ?_, by simp only; omega⟩
    (apply Le.headZ [] rfl)
    all_goals (try dsimp only [srcs])
    (case' hfr | hob => (repeat' (first | refine La ?_ ?_ | exact Lc | refine Lo ?_ | refine ⟨⟨_, rfl, ?_⟩, ?_⟩ | refine Lx ?_)))
    all_goals (first | (rfl) | exact Ld)
  · have hG1 : G = growF (entN T) n 0 n [j] 0 := by rw [hinv, tryAll_yes hlt (by rw [hFj0]; exact hg), hFj0]
    rw [if_neg hg, decide_eq_true hg] at hIH
    rw [hG1, if_neg hg, if_neg hg]
    generalize growF (entN T) n 0 n [j] 0 = c at *
    unfold cyH cyHT IO at hIH
    rw [hus] at hIH
    repeat' (first | ((first | apply Ba | (apply Bb; (· rfl); (· rfl)) | (apply Bc; (· exact nxE)) | (apply Bd; (· rfl); (· rfl); (· exact nxE))); (· first | exact Ok.lenD rfl rfl htl | exact OpOk.nilCheck rfl rfl | exact OpOk.callB3a (b := ⟨911, []⟩) (p := ⟨906, []⟩) (q := ⟨909, []⟩) (x' := .dead) rfl rfl hIH rfl rfl (congrArg some boR_0) (by decide) (by decide) (by decide) rfl (fun _ => rfl) (by simp [Go.Proofs.Ytkpoclbnnpglfaa.rn]) (.cons (AR.ptr _ _ _ _ (by simp)) (.cons (.dd _) .nil)) cyD_ar cyD_rn | exact Ok.pe)) | ((first | apply Ca | (apply Cb; (· exact nxE))); (· first | exact OpOk.callB3a (b := ⟨911, []⟩) (p := ⟨906, []⟩) (q := ⟨909, []⟩) (x' := .dead) rfl rfl hIH rfl rfl (congrArg some boR_0) (by decide) (by decide) (by decide) rfl (fun _ => rfl) (by simp [Go.Proofs.Ytkpoclbnnpglfaa.rn]) (.cons (AR.ptr _ _ _ _ (by simp)) (.cons (.dd _) .nil)) cyD_ar cyD_rn | exact Ok.e0)) | refine Sx ?_ | (refine Sy (fun h => ?_) (fun h => ?_) <;> try (exfalso; omega; done)) | refine Sz (fun h => ?_) (fun h => ?_))
    refine Ya ?_
    (apply Le.head [(⟨0, []⟩, _, _)])
    (case' hfr | hob => (repeat' (first | refine La ?_ ?_ | exact Lc | refine Lo ?_ | refine ⟨⟨_, rfl, ?_⟩, ?_⟩ | refine Lx ?_)))
    all_goals (first | exact Ld | (rfl))
end Go.Proofs.Ytkpoclbnnpglfaa
end

section
namespace Go.Proofs.Ytkpoclbnnpglfaa
set_option linter.unusedSimpArgs false
set_option linter.unusedVariables false
open Go Go.RowKit
attribute [local irreducible] AL AD AW OpOk Le AC thenQ blockQ EndQ

theorem posFn_ac [Mode] (l : List Int) (w : Int) : AC Try.prog 86 [IL l, I w] H0 (Bo (decide (0 < w))) H0 := by
  refine AC.of_body 0 Try.func86 rfl (fun l h => absurd rfl h) (fun C hC => ?_)
  have hD : ∀ l, ¬ C.D0 l := fun l h => (hC l).1 h rfl
  simp only [startFr, Try.ntmps86, List.length_cons, List.length_nil, Nat.reduceAdd, Nat.reduceSub, List.replicate_succ, List.replicate_zero, List.cons_append, List.nil_append]
  repeat' (first | ((first | apply Ba | (apply Bb; (· rfl); (· rfl)) | (apply Bc; (· exact nxE)) | (apply Bd; (· rfl); (· rfl); (· exact nxE))); (· first | exact Ok.lenD rfl rfl WN_len | exact Ok.lenD rfl rfl BN_len | exact Ok.pe)) | ((first | apply Ca | (apply Cb; (· exact nxE))); (· first | exact Ok.e0)) | refine Sx ?_ | (refine Sy (fun h => ?_) (fun h => ?_) <;> try (exfalso; omega; done)) | refine Sz (fun h => ?_) (fun h => ?_))
  refine Ya ?_
  (apply Le.headZ (hs := []) [] rfl)
  all_goals (try dsimp only [srcs])
  (case' hfr => (repeat' (first | refine La ?_ ?_ | exact Lc | refine Lo ?_ | refine ⟨⟨_, rfl, ?_⟩, ?_⟩ | refine Lx ?_)))
  all_goals (first | exact Ld | exact trivial | (rfl))
def tourL (t : List (List Int)) (n : Nat) : List Nat := overF (entN t) n 0
def tourC (t : List (List Int)) (n : Nat) : Int := if tourL t n = [] then 4 else 0
set_option maxHeartbeats 2000000 in
theorem positiveCycle_ac [Mode] (t : List (List Int)) (n : Nat) (h : BmOk t n) : AC Try.prog 35 [TL t] H0 (.tup [IL (cN (tourL t n)), I (tourC t n)]) H0 := by
  have hQ := iIsSquare_ac t (by have := h.sq.l; have := h.nn; omega) (fun r hr => by have := h.sq.r r hr; have := h.nn; omega)
  rw [h.isSq] at hQ
  by_cases hnp : NoPos (entN t) n
  · have e : tourL t n = [] := over_np.2 hnp
    have hS := (starOf_ac t n (h.sb.m hnp)).frzT2 (by rw [TR_len, tabF_len])
    unfold tourC
    rw [e, if_pos rfl]
    generalize tabF n n (starF (entN t) n) = st at *
    refine AC.of_body 0 Try.func35 rfl (fun l h => absurd rfl h) (fun C hC => ?_)
    have hD : ∀ l, ¬ C.D0 l := fun l h => (hC l).1 h rfl
    simp only [startFr, Try.ntmps35, List.length_cons, List.length_nil, Nat.reduceAdd, Nat.reduceSub, List.replicate_succ, List.replicate_zero, List.cons_append, List.nil_append]
    repeat' (first | ((first | apply Ba | (apply Bb; (· rfl); (· rfl)) | (apply Bc; (· exact nxE)) | (apply Bd; (· rfl); (· rfl); (· exact nxE))); (· first | exact Kz rfl rfl (hQ) (Ad An) | exact Kz rfl rfl (hS) (Ad An) | exact Ok.lenD rfl rfl WN_len | exact Ok.lenD rfl rfl BN_len | exact Ok.pe)) | ((first | apply Ca | (apply Cb; (· exact nxE))); (· first | exact Ok.e0)) | refine Sx ?_ | (refine Sy (fun h => ?_) (fun h => ?_) <;> try (exfalso; omega; done)) | refine Sz (fun h => ?_) (fun h => ?_))
    refine Yb ?_
    (apply Le.headZ (hs := []) [] rfl)
    all_goals (try dsimp only [srcs])
    (case' hfr => (repeat' (first | refine La ?_ ?_ | exact Lc | refine Lo ?_ | refine ⟨⟨_, rfl, ?_⟩, ?_⟩ | refine Lx ?_)))
    all_goals (first | exact Ld | exact trivial | (rfl))
  · have e : tourL t n ≠ [] := fun h => hnp (over_np.1 h)
    have hS := starOf_no t n h.sb hnp
    have hF := firstCycleW_ac t n h.sq (by have := h.nn; omega) 86 posFn_ac h.bnd
    rw [if_neg (show overF (entN t) n 0 ≠ [] from e), if_neg (show overF (entN t) n 0 ≠ [] from e)] at hF
    have hF' : AC Try.prog 85 [TL t, .clo (.func 86) [] []] H0 (IL (cN (tourL t n))) H0 := hF.frz (AR.whole rfl trivial (by rw [IR_len]; simp [tourL]))
    unfold tourC
    rw [if_neg e]
    generalize tourL t n = c at *
    refine AC.of_body 0 Try.func35 rfl (fun l h => absurd rfl h) (fun C hC => ?_)
    have hD : ∀ l, ¬ C.D0 l := fun l h => (hC l).1 h rfl
    simp only [startFr, Try.ntmps35, List.length_cons, List.length_nil, Nat.reduceAdd, Nat.reduceSub, List.replicate_succ, List.replicate_zero, List.cons_append, List.nil_append]
    repeat' (first | ((first | apply Ba | (apply Bb; (· rfl); (· rfl)) | (apply Bc; (· exact nxE)) | (apply Bd; (· rfl); (· rfl); (· exact nxE))); (· first | exact Kz rfl rfl (hQ) (Ad An) | exact Kz rfl rfl (hS) (Ad An) | exact Kz rfl rfl hF' (.cons (.dd _) (.cons (AR.clo' ARs.nil ARs.nil) .nil)) | exact Ok.lenD rfl rfl WN_len | exact Ok.lenD rfl rfl BN_len | exact Ok.pe)) | ((first | apply Ca | (apply Cb; (· exact nxE))); (· first | exact Ok.e0)) | refine Sx ?_ | (refine Sy (fun h => ?_) (fun h => ?_) <;> try (exfalso; omega; done)) | refine Sz (fun h => ?_) (fun h => ?_))
    refine Yb ?_
    (apply Le.headZ (hs := []) [] rfl)
    all_goals (try dsimp only [srcs])
    (case' hfr => (repeat' (first | refine La ?_ ?_ | exact Lc | refine Lo ?_ | refine ⟨⟨_, rfl, ?_⟩, ?_⟩ | refine Lx ?_)))
    all_goals (first | exact Ld | exact trivial | (rfl))
/-! ### Tours -/
def tkT (ws : List Wn) (bs : List Bn) : List (List Int) := bmT ws.length bs
theorem tkT_ok [Mode] {ws : List Wn} {bs : List Bn} (h : isTk ws bs = true) : BmOk (tkT ws bs) ws.length := by
  obtain ⟨h1, h2, h3, h4⟩ := isTk_ok h
  exact bmT_ok h1.1 h1.2 h4
def ftL (ws : List Wn) (bs : List Bn) : List Nat := if isTk ws bs = true then tourL (tkT ws bs) ws.length else []
def ftC (ws : List Wn) (bs : List Bn) : Int := if isTk ws bs = true then tourC (tkT ws bs) ws.length else 1
set_option maxHeartbeats 2000000 in
theorem iFindTour_ac [Mode] (ws : List Wn) (bs : List Bn) (hw : ws.length ≤ 1000) (hb : bs.length ≤ 1000) : AC Try.prog 9 [WNL ws, BNL bs] H0 (.tup [IL (cN (ftL ws bs)), I (ftC ws bs)]) H0 := by
  have hI := iIsTask_ac ws bs (by omega) (by omega)
  unfold ftL ftC
  cases h : isTk ws bs with
  | false =>
    rw [h] at hI
    rw [if_neg (by simp), if_neg (by simp)]
    refine AC.of_body 0 Try.func9 rfl (fun l h => absurd rfl h) (fun C hC => ?_)
    have hD : ∀ l, ¬ C.D0 l := fun l h => (hC l).1 h rfl
    simp only [startFr, Try.ntmps9, List.length_cons, List.length_nil, Nat.reduceAdd, Nat.reduceSub, List.replicate_succ, List.replicate_zero, List.cons_append, List.nil_append]
    repeat' (first | ((first | apply Ba | (apply Bb; (· rfl); (· rfl)) | (apply Bc; (· exact nxE)) | (apply Bd; (· rfl); (· rfl); (· exact nxE))); (· first | exact Kz rfl rfl (hI) (Ad (Ad An)) | exact Ok.lenD rfl rfl WN_len | exact Ok.lenD rfl rfl BN_len | exact Ok.pe)) | ((first | apply Ca | (apply Cb; (· exact nxE))); (· first | exact Ok.e0)) | refine Sx ?_ | (refine Sy (fun h => ?_) (fun h => ?_) <;> try (exfalso; omega; done)) | refine Sz (fun h => ?_) (fun h => ?_))
    refine Yb ?_
    (apply Le.headZ (hs := []) [] rfl)
    all_goals (try dsimp only [srcs])
    (case' hfr => (repeat' (first | refine La ?_ ?_ | exact Lc | refine Lo ?_ | refine ⟨⟨_, rfl, ?_⟩, ?_⟩ | refine Lx ?_)))
    all_goals (first | exact Ld | exact trivial | (rfl))
  | true =>
    rw [h] at hI
    rw [if_pos rfl, if_pos rfl]
    obtain ⟨h1, h2, h3, h4⟩ := isTk_ok h
    have hok := tkT_ok h
    have hM := (bondMatrix_ac ws.length ws bs rfl h1.2 (by omega) h4).frzT (by rw [TR_len]; exact hok.sq.l)
    have hP := positiveCycle_ac (tkT ws bs) ws.length hok
    unfold tkT at *
    generalize bmT ws.length bs = t at *
    generalize tourL t ws.length = c at *
    generalize tourC t ws.length = e at *
    refine AC.of_body 0 Try.func9 rfl (fun l h => absurd rfl h) (fun C hC => ?_)
    have hD : ∀ l, ¬ C.D0 l := fun l h => (hC l).1 h rfl
    simp only [startFr, Try.ntmps9, List.length_cons, List.length_nil, Nat.reduceAdd, Nat.reduceSub, List.replicate_succ, List.replicate_zero, List.cons_append, List.nil_append]
    repeat' (first | ((first | apply Ba | (apply Bb; (· rfl); (· rfl)) | (apply Bc; (· exact nxE)) | (apply Bd; (· rfl); (· rfl); (· exact nxE))); (· first | exact Kz rfl rfl (hI) (Ad (Ad An)) | exact Kz rfl rfl (hM) (Ad (Ad An)) | exact Kz rfl rfl (hP) (Ad An) | exact Ok.lenD rfl rfl WN_len | exact Ok.lenD rfl rfl BN_len | exact Ok.pe)) | ((first | apply Ca | (apply Cb; (· exact nxE))); (· first | exact Ok.e0)) | refine Sx ?_ | (refine Sy (fun h => ?_) (fun h => ?_) <;> try (exfalso; omega; done)) | refine Sz (fun h => ?_) (fun h => ?_))
    refine Yb ?_
    (apply Le.headZ (hs := []) [] rfl)
    all_goals (try dsimp only [srcs])
    (case' hfr => (repeat' (first | refine La ?_ ?_ | exact Lc | refine Lo ?_ | refine ⟨⟨_, rfl, ?_⟩, ?_⟩ | refine Lx ?_)))
    all_goals (first | exact Ld | exact trivial | (rfl))
set_option maxHeartbeats 2000000 in
theorem sFindTour_ac [Mode] (ws : List Wn) (bs : List Bn) (hw : ws.length ≤ 1000) (hb : bs.length ≤ 1000) : AC Try.prog 10 [WNL ws, BNL bs] H0 (.tup [IL (cN (ftL ws bs)), I (ftC ws bs)]) H0 := by
  have hI := sIsTask_ac ws bs (by omega) (by omega)
  unfold ftL ftC
  cases h : isTk ws bs with
  | false =>
    rw [h] at hI
    rw [if_neg (by simp), if_neg (by simp)]
    refine AC.of_body 0 Try.func10 rfl (fun l h => absurd rfl h) (fun C hC => ?_)
    have hD : ∀ l, ¬ C.D0 l := fun l h => (hC l).1 h rfl
    simp only [startFr, Try.ntmps10, List.length_cons, List.length_nil, Nat.reduceAdd, Nat.reduceSub, List.replicate_succ, List.replicate_zero, List.cons_append, List.nil_append]
    repeat' (first | ((first | apply Ba | (apply Bb; (· rfl); (· rfl)) | (apply Bc; (· exact nxE)) | (apply Bd; (· rfl); (· rfl); (· exact nxE))); (· first | exact Kz rfl rfl (hI) (Ad (Ad An)) | exact Ok.lenD rfl rfl WN_len | exact Ok.lenD rfl rfl BN_len | exact Ok.pe)) | ((first | apply Ca | (apply Cb; (· exact nxE))); (· first | exact Ok.e0)) | refine Sx ?_ | (refine Sy (fun h => ?_) (fun h => ?_) <;> try (exfalso; omega; done)) | refine Sz (fun h => ?_) (fun h => ?_))
    refine Yb ?_
    (apply Le.headZ (hs := []) [] rfl)
    all_goals (try dsimp only [srcs])
    (case' hfr => (repeat' (first | refine La ?_ ?_ | exact Lc | refine Lo ?_ | refine ⟨⟨_, rfl, ?_⟩, ?_⟩ | refine Lx ?_)))
    all_goals (first | exact Ld | exact trivial | (rfl))
  | true =>
    rw [h] at hI
    rw [if_pos rfl, if_pos rfl]
    obtain ⟨h1, h2, h3, h4⟩ := isTk_ok h
    have hok := tkT_ok h
    have hM := (l23Matrix_ac ws.length bs h1.2 (by omega) h4).frzT (by rw [TR_len]; exact hok.sq.l)
    have hP := l03Over_ac (tkT ws bs) ws.length hok.sq (by omega) hok.big 0
    unfold tkT tourC tourL at *
    have hcl : (IR (cN (overF (entN (bmT ws.length bs)) ws.length 0))).length = (overF (entN (bmT ws.length bs)) ws.length 0).length := by simp
    generalize bmT ws.length bs = t at *
    generalize overF (entN t) ws.length 0 = c at *
    by_cases h0 : c = []
    · subst h0
      rw [if_pos rfl]
      refine AC.of_body 0 Try.func10 rfl (fun l h => absurd rfl h) (fun C hC => ?_)
      have hD : ∀ l, ¬ C.D0 l := fun l h => (hC l).1 h rfl
      simp only [startFr, Try.ntmps10, List.length_cons, List.length_nil, Nat.reduceAdd, Nat.reduceSub, List.replicate_succ, List.replicate_zero, List.cons_append, List.nil_append]
      repeat' (first | ((first | apply Ba | (apply Bb; (· rfl); (· rfl)) | (apply Bc; (· exact nxE)) | (apply Bd; (· rfl); (· rfl); (· exact nxE))); (· first | exact Kz rfl rfl (hI) (Ad (Ad An)) | exact Kz rfl rfl (hM) (Ad (Ad An)) | exact Kz rfl rfl (hP) (Ad (Ad An)) | exact Ok.lenD rfl rfl WN_len | exact Ok.lenD rfl rfl BN_len | exact Ok.pe)) | ((first | apply Ca | (apply Cb; (· exact nxE))); (· first | exact Ok.e0)) | refine Sx ?_ | (refine Sy (fun h => ?_) (fun h => ?_) <;> try (exfalso; omega; done)) | refine Sz (fun h => ?_) (fun h => ?_))
      refine Yb ?_
      (apply Le.headZ (hs := []) [] rfl)
      all_goals (try dsimp only [srcs])
      (case' hfr => (repeat' (first | refine La ?_ ?_ | exact Lc | refine Lo ?_ | refine ⟨⟨_, rfl, ?_⟩, ?_⟩ | refine Lx ?_)))
      all_goals (first | exact Ld | exact trivial | (rfl))
    · rw [if_neg h0]
      have hcp : 0 < c.length := List.length_pos_iff.2 h0
      refine AC.of_body 0 Try.func10 rfl (fun l h => absurd rfl h) (fun C hC => ?_)
      have hD : ∀ l, ¬ C.D0 l := fun l h => (hC l).1 h rfl
      simp only [startFr, Try.ntmps10, List.length_cons, List.length_nil, Nat.reduceAdd, Nat.reduceSub, List.replicate_succ, List.replicate_zero, List.cons_append, List.nil_append]
      repeat' (first | ((first | apply Ba | (apply Bb; (· rfl); (· rfl)) | (apply Bc; (· exact nxE)) | (apply Bd; (· rfl); (· rfl); (· exact nxE))); (· first | exact Kz rfl rfl (hI) (Ad (Ad An)) | exact Kz rfl rfl (hM) (Ad (Ad An)) | exact Kz rfl rfl (hP) (Ad (Ad An)) | exact Ok.lenD rfl rfl hcl | exact Ok.lenD rfl rfl WN_len | exact Ok.lenD rfl rfl BN_len | exact Ok.pe)) | ((first | apply Ca | (apply Cb; (· exact nxE))); (· first | exact Ok.e0)) | refine Sx ?_ | (refine Sy (fun h => ?_) (fun h => ?_) <;> try (exfalso; omega; done)) | refine Sz (fun h => ?_) (fun h => ?_))
      all_goals
        refine Yb ?_
        (apply Le.headZ (hs := []) [] rfl)
        all_goals (try dsimp only [srcs])
        (case' hfr => (repeat' (first | refine La ?_ ?_ | exact Lc | refine Lo ?_ | refine ⟨⟨_, rfl, ?_⟩, ?_⟩ | refine Lx ?_)))
        all_goals (first | exact Ld | exact trivial | (rfl))
end Go.Proofs.Ytkpoclbnnpglfaa
end

section
namespace Go.Proofs.Ytkpoclbnnpglfaa
set_option linter.unusedSimpArgs false
set_option linter.unusedVariables false
open Go Go.RowKit
def loF (ws : List Wn) (i : Nat) : Int := ((ws[i]?).map Wn.lo).getD 0
def hiF (ws : List Wn) (i : Nat) : Int := ((ws[i]?).map Wn.hi).getD 0
theorem loF_at [Mode] {ws : List Wn} {i : Nat} {w : Wn} (h : ws[i]? = some w) : loF ws i = w.lo := by simp [loF, h]
theorem hiF_at [Mode] {ws : List Wn} {i : Nat} {w : Wn} (h : ws[i]? = some w) : hiF ws i = w.hi := by simp [hiF, h]
attribute [local irreducible] AL AD AW OpOk Le AC thenQ blockQ EndQ

theorem loF_rng [Mode] {ws : List Wn} (hw : ∀ w ∈ ws, 0 ≤ w.lo ∧ w.lo ≤ w.hi ∧ w.hi ≤ 1000000) (i : Nat) : (0 ≤ loF ws i ∧ loF ws i ≤ 1000000) ∧ (0 ≤ hiF ws i ∧ hiF ws i ≤ 1000000) := by
  cases h : ws[i]? with
  | none => simp [loF, hiF, h]
  | some w =>
    have := hw w (List.mem_of_getElem? h)
    rw [loF_at h, hiF_at h]; omega
/-- The least solution, as far as there is one. -/
noncomputable def eaF (ws : List Wn) (bs : List Bn) (i : Nat) : Int := apA (starF (entN (tkT ws bs)) ws.length) (loF ws) i ws.length
noncomputable def erC (ws : List Wn) (bs : List Bn) : Int := open Classical in if isTk ws bs = true then (if NoPos (entN (tkT ws bs)) ws.length ∧ ∀ i, i < ws.length → eaF ws bs i ≤ hiF ws i then 0 else 4) else 1
theorem eaRow_ac [Mode] (t : List (List Int)) (n : Nat) (h : BmOk t n) (hnp : NoPos (entN t) n) (v : Nat → Int) (hv : ∀ j, -1000000 ≤ v j ∧ v j ≤ 1000000) : AC Try.prog 78 [TL (tabF n n (starF (entN t) n)), IL (rowF n v)] H0 (own1 1 n) (hp1 (IO (rowF n fun i => apA (starF (entN t) n) v i n))) := by
  have hn := h.nn
  have hst := h.sb.m hnp
  have hT := timesVector_ac (tabF n n (starF (entN t) n)) n n v tabF_rc (by omega) (by omega) ⟨fun i j hi hj => by
    rw [tabF_ent hi hj, hst.star hi hj]
    rcases hst.cells (Nat.le_refl n) hi hj with e | e
    · exact .inl e
    · right; omega, fun j _ => .inr (by have := hv j; omega)⟩
  have e : (rowF n fun i => apA (entN (tabF n n (starF (entN t) n))) v i n) = rowF n fun i => apA (starF (entN t) n) v i n := rowF_congr fun i hi => by
    rw [apA_max, apA_max]
    exact maxN_congr fun j hj => by rw [tabF_ent hi hj]
  rw [e] at hT
  exact hT
theorem laRow_ac [Mode] (t : List (List Int)) (n : Nat) (h : BmOk t n) (hnp : NoPos (entN t) n) (v : Nat → Int) (hv : ∀ j, -1000000 ≤ v j ∧ v j ≤ 1000000) : AC Try.prog 78 [TL (tabF n n (tuF (starF (entN t) n))), IL (rowF n v)] H0 (own1 1 n) (hp1 (IO (rowF n fun i => apA (tuF (starF (entN t) n)) v i n))) := by
  have hn := h.nn
  have hst := h.sb.m hnp
  have hT := timesVector_ac (tabF n n (tuF (starF (entN t) n))) n n v tabF_rc (by omega) (by omega) ⟨fun i j hi hj => by
    rw [tabF_ent hi hj]
    show starF (entN t) n j i = BOT ∨ _ ≤ starF (entN t) n j i ∧ starF (entN t) n j i ≤ _
    rw [hst.star hj hi]
    rcases hst.cells (Nat.le_refl n) hj hi with e | e
    · exact .inl e
    · right; omega, fun j _ => .inr (by have := hv j; omega)⟩
  have e : (rowF n fun i => apA (entN (tabF n n (tuF (starF (entN t) n)))) v i n) = rowF n fun i => apA (tuF (starF (entN t) n)) v i n := rowF_congr fun i hi => by
    rw [apA_max, apA_max]
    exact maxN_congr fun j hj => by rw [tabF_ent hi hj]
  rw [e] at hT
  exact hT
theorem apA_sm [Mode] {t : List (List Int)} {n : Nat} (h : BmOk t n) (hnp : NoPos (entN t) n) {v : Nat → Int} (hv : ∀ j, -1000000 ≤ v j ∧ v j ≤ 1000000) {i : Nat} (hi : i < n) : (BOT ≤ apA (starF (entN t) n) v i n ∧ apA (starF (entN t) n) v i n ≤ 400000000000000) ∧ (BOT ≤ apA (tuF (starF (entN t) n)) v i n ∧ apA (tuF (starF (entN t) n)) v i n ≤ 400000000000000) := by
  have hst := h.sb.m hnp
  have a := apA_bnd (f := starF (entN t) n) (v := v) (i := i) (M := 102400000000000) (by decide) (k := n) (fun j hj => by
    rw [hst.star hi hj]
    rcases hst.cells (Nat.le_refl n) hi hj with e | e
    · exact .inl e
    · right; omega) (fun j _ => .inr (by have := hv j; omega))
  have b := apA_bnd (f := tuF (starF (entN t) n)) (v := v) (i := i) (M := 102400000000000) (by decide) (k := n) (fun j hj => by
    show starF (entN t) n j i = BOT ∨ _ ≤ starF (entN t) n j i ∧ starF (entN t) n j i ≤ _
    rw [hst.star hj hi]
    rcases hst.cells (Nat.le_refl n) hj hi with e | e
    · exact .inl e
    · right; omega) (fun j _ => .inr (by have := hv j; omega))
  have e : BOT ≤ (0 : Int) := by decide
  omega
/-- The rows while the loop goes: the first k numbers of the late row negated. -/
abbrev ngF (g : Nat → Int) (k : Nat) : Nat → Int := fun b => if b < k then -(g b) else g b
theorem ngF_set [Mode] {g : Nat → Int} {n k : Nat} : (rowF n (ngF g k)).set k (-(g k)) = rowF n (ngF g (k + 1)) := by
  rw [rowF_set]
  refine rowF_congr fun j _ => ?_
  by_cases e : j = k
  · subst e; simp [ngF]
  · rw [if_neg e]
    by_cases h : j < k
    · simp [ngF, h, show j < k + 1 by omega]
    · simp [ngF, h, show ¬ j < k + 1 by omega]
set_option maxHeartbeats 8000000 in
theorem solveTask_ex [Mode] (ws : List Wn) (bs : List Bn) (hw : ws.length ≤ 1000) (hb : bs.length ≤ 1000) : ∃ x y : List Int, AC Try.prog 37 [WNL ws, BNL bs] H0 (.tup [IL x, IL y, I (erC ws bs)]) H0 := by
  have hI := iIsTask_ac ws bs (by omega) (by omega)
  cases h : isTk ws bs with
  | false =>
    rw [h] at hI
    have e : erC ws bs = 1 := by unfold erC; rw [h]; exact if_neg (by simp)
    rw [e]
    refine ⟨[], [], ?_⟩
    refine AC.of_body 0 Try.func37 rfl (fun l h => absurd rfl h) (fun C hC => ?_)
    have hD : ∀ l, ¬ C.D0 l := fun l h => (hC l).1 h rfl
    simp only [startFr, Try.ntmps37, List.length_cons, List.length_nil, Nat.reduceAdd, Nat.reduceSub, List.replicate_succ, List.replicate_zero, List.cons_append, List.nil_append]
    repeat' (first | ((first | apply Ba | (apply Bb; (· rfl); (· rfl)) | (apply Bc; (· exact nxE)) | (apply Bd; (· rfl); (· rfl); (· exact nxE))); (· first | exact Kz rfl rfl (hI) (Ad (Ad An)) | exact Ok.lenD rfl rfl WN_len | exact Ok.lenD rfl rfl BN_len | exact Ok.pe)) | ((first | apply Ca | (apply Cb; (· exact nxE))); (· first | exact Ok.e0)) | refine Sx ?_ | (refine Sy (fun h => ?_) (fun h => ?_) <;> try (exfalso; omega; done)) | refine Sz (fun h => ?_) (fun h => ?_))
    refine Yc ?_
    (apply Le.headZ (hs := []) [] rfl)
    all_goals (try dsimp only [srcs])
    (case' hfr => (repeat' (first | refine La ?_ ?_ | exact Lc | refine Lo ?_ | refine ⟨⟨_, rfl, ?_⟩, ?_⟩ | refine Lx ?_)))
    all_goals (first | exact Ld | exact trivial | (rfl))
  | true =>
  rw [h] at hI
  obtain ⟨h1, h2, h3, h4⟩ := isTk_ok h
  have hok := tkT_ok h
  have hM := (bondMatrix_ac ws.length ws bs rfl h1.2 (by omega) h4).frzT (by rw [TR_len]; exact hok.sq.l)
  by_cases hnp : NoPos (entN (tkT ws bs)) ws.length
  case neg =>
    have e : erC ws bs = 4 := by unfold erC; rw [if_pos h, if_neg fun h => hnp h.1]
    rw [e]
    have hS := starOf_no (tkT ws bs) ws.length hok.sb hnp
    unfold tkT at hS
    generalize bmT ws.length bs = t at *
    refine ⟨[], [], ?_⟩
    refine AC.of_body 0 Try.func37 rfl (fun l h => absurd rfl h) (fun C hC => ?_)
    have hD : ∀ l, ¬ C.D0 l := fun l h => (hC l).1 h rfl
    simp only [startFr, Try.ntmps37, List.length_cons, List.length_nil, Nat.reduceAdd, Nat.reduceSub, List.replicate_succ, List.replicate_zero, List.cons_append, List.nil_append]
    repeat' (first | ((first | apply Ba | (apply Bb; (· rfl); (· rfl)) | (apply Bc; (· exact nxE)) | (apply Bd; (· rfl); (· rfl); (· exact nxE))); (· first | exact Kz rfl rfl (hI) (Ad (Ad An)) | exact Kz rfl rfl (hM) (Ad (Ad An)) | exact Kz rfl rfl (hS) (Ad An) | exact Ok.lenD rfl rfl WN_len | exact Ok.lenD rfl rfl BN_len | exact Ok.pe)) | ((first | apply Ca | (apply Cb; (· exact nxE))); (· first | exact Ok.e0)) | refine Sx ?_ | (refine Sy (fun h => ?_) (fun h => ?_) <;> try (exfalso; omega; done)) | refine Sz (fun h => ?_) (fun h => ?_))
    refine Yc ?_
    (apply Le.headZ (hs := []) [] rfl)
    all_goals (try dsimp only [srcs])
    (case' hfr => (repeat' (first | refine La ?_ ?_ | exact Lc | refine Lo ?_ | refine ⟨⟨_, rfl, ?_⟩, ?_⟩ | refine Lx ?_)))
    all_goals (first | exact Ld | exact trivial | (rfl))
  have hrg := loF_rng h3
  have hS := (starOf_ac (tkT ws bs) ws.length (hok.sb.m hnp)).frzT2 (by rw [TR_len, tabF_len])
  have hTu := (transposed_ac (starF (entN (tkT ws bs)) ws.length) ws.length hok.n0 (by omega)).frzT (by rw [TR_len, tabF_len])
  have hE := eaRow_ac (tkT ws bs) ws.length hok hnp (loF ws) (fun j => by have := hrg j; omega)
  have hL := laRow_ac (tkT ws bs) ws.length hok hnp (fun j => -(hiF ws j)) (fun j => by have := hrg j; omega)
  have hsm := fun i (hi : i < ws.length) => (apA_sm hok hnp (v := loF ws) (fun j => by have := hrg j; omega) hi).1
  have hsl := fun i (hi : i < ws.length) => (apA_sm hok hnp (v := fun j => -(hiF ws j)) (fun j => by have := hrg j; omega) hi).2
  have hec : erC ws bs = if ∀ i, i < ws.length → eaF ws bs i ≤ hiF ws i then 0 else 4 := by
    unfold erC
    rw [if_pos h]
    by_cases hq : ∀ i, i < ws.length → eaF ws bs i ≤ hiF ws i
    · rw [if_pos ⟨hnp, hq⟩, if_pos hq]
    · rw [if_neg fun h => hq h.2, if_neg hq]
  have heF : ∀ i, eaF ws bs i = apA (starF (entN (tkT ws bs)) ws.length) (loF ws) i ws.length := fun _ => rfl
  have hwl : (ws.map Wn.row).length = ws.length := WN_len
  have hlg : ∀ i, i < ws.length → ∃ w, ws[i]? = some w ∧ loF ws i = w.lo ∧ hiF ws i = w.hi := fun i hi => by
    obtain ⟨w, hw⟩ : ∃ w, ws[i]? = some w := ⟨ws[i], List.getElem?_eq_getElem hi⟩
    exact ⟨w, hw, loF_at hw, hiF_at hw⟩
  unfold tkT at *
  generalize bmT ws.length bs = t at *
  generalize hst0 : starF (entN t) ws.length = st0 at *
  generalize hea : (fun i => apA st0 (loF ws) i ws.length) = ea at *
  generalize hla : (fun i => apA (tuF st0) (fun j => -(hiF ws j)) i ws.length) = la at *
  have heE : ∀ i, eaF ws bs i = ea i := fun i => by rw [heF, ← hea]
  have hsme : ∀ i, i < ws.length → BOT ≤ ea i ∧ ea i ≤ 400000000000000 := fun i hi => by rw [← hea]; exact hsm i hi
  have hsml : ∀ i, i < ws.length → BOT ≤ la i ∧ la i ≤ 400000000000000 := fun i hi => by rw [← hla]; exact hsl i hi
  simp only [heE] at hec
  generalize tabF ws.length ws.length (tuF st0) = tt at *
  generalize tabF ws.length ws.length st0 = tst at *
  clear hok hsm hsl heF heE hst0 hea hla h3 h4 h
  unfold BOT at hsme hsml
  have hcase : (∀ i, i < ws.length → ea i ≤ hiF ws i) ∨ ∃ j, j < ws.length ∧ hiF ws j < ea j ∧ ∀ i, i < j → ea i ≤ hiF ws i := by
    by_cases hq : ∀ i, i < ws.length → ea i ≤ hiF ws i
    · exact .inl hq
    · obtain ⟨j, hj⟩ := Classical.not_forall.1 hq
      obtain ⟨i, h5, h6, h7⟩ := least_of (P := fun j => j < ws.length ∧ hiF ws j < ea j) j (by omega)
      exact .inr ⟨i, h6.1, h6.2, fun k hk => by have := h7 k hk; omega⟩
  rcases hcase with hq | ⟨jb, hjb, hb1, hb2⟩
  · rw [if_pos hq] at hec
    rw [hec]
    refine ⟨rowF ws.length ea, rowF ws.length (ngF la ws.length), ?_⟩
    refine AC.frz (res := .tup [.own 1 ⟨0, []⟩ 0 ws.length, .own 1 ⟨1, []⟩ 0 ws.length, I 0]) (H' := hp2 (IO (rowF ws.length ea)) (IO (rowF ws.length (ngF la ws.length)))) ?_ (ARs.tup (.cons (AR.whole rfl trivial (by rw [IR_len, rowF_len])) (.cons (AR.whole rfl trivial (by rw [IR_len, rowF_len])) (.cons (.dd _) .nil))))
    refine AC.of_body 0 Try.func37 rfl (fun l h => absurd rfl h) (fun C hC => ?_)
    have hD : ∀ l, ¬ C.D0 l := fun l h => (hC l).1 h rfl
    simp only [startFr, Try.ntmps37, List.length_cons, List.length_nil, Nat.reduceAdd, Nat.reduceSub, List.replicate_succ, List.replicate_zero, List.cons_append, List.nil_append]
    repeat' (first | ((first | apply Ba | (apply Bb; (· rfl); (· rfl)) | (apply Bc; (· exact nxE)) | (apply Bd; (· rfl); (· rfl); (· exact nxE))); (· first | exact Kz rfl rfl (hI) (Ad (Ad An)) | exact Kz rfl rfl (hM) (Ad (Ad An)) | exact Kz rfl rfl (hS) (Ad An) | exact Ok.lenD rfl rfl WN_len | exact Ok.lenD rfl rfl BN_len | exact Ok.pe)) | ((first | apply Ca | (apply Cb; (· exact nxE))); (· first | exact Ok.e0)) | refine Sx ?_ | (refine Sy (fun h => ?_) (fun h => ?_) <;> try (exfalso; omega; done)) | refine Sz (fun h => ?_) (fun h => ?_))
    refine AW.loop (X := {k : Nat // k ≤ ws.length}) (fun k => ⟨[WNL ws, Oo, Oo, Oo, Oo, Oo, Oo, TL tst, Oo, .own 1 ⟨0, []⟩ 0 (k.1 : Nat), .own 1 ⟨1, []⟩ 0 (k.1 : Nat), Oo, Oo, Oo, Oo, Oo, Oo, Oo, Oo, Oo, Oo, Oo, Oo, Oo, Oo, Oo, Oo, Oo, Oo, Oo, WNL ws, I ws.length, I (k.1 : Nat), Oo, Oo, Oo, Oo, Oo, Oo, Oo, Oo, Oo, Oo, Oo, Oo, Oo, Oo, Oo, Oo, Oo, Oo, Oo, Oo, Oo, Oo, Oo, Oo, Oo, Oo, Oo, Oo, Oo, Oo, Oo, Oo, Oo, Oo, Oo, Oo, Oo, Oo, Oo, Oo, Oo, Oo, Oo, Oo, Oo, Oo, Oo], heapL [(⟨0, []⟩, ⟨0, []⟩, IO (rowF k.1 (loF ws))), (⟨1, []⟩, ⟨1, []⟩, IO (rowF k.1 fun j => -(hiF ws j)))], 900⟩) (fun k => ws.length - k.1) ⟨0, Nat.zero_le _⟩ ?_ (fun k => ?_)
    ·
      refine (Le.nil 9 1 rfl).trans ((Le.nil 10 1 rfl).trans ?_)
      (apply Le.headZ [_, _] rfl)
      all_goals (try dsimp only [srcs])
      (case' hfr | hob => (repeat' (first | refine La ?_ ?_ | exact Lc | refine Lo ?_ | refine ⟨⟨_, rfl, ?_⟩, ?_⟩ | refine Lx ?_)))
      all_goals (first | (rfl) | exact Ld)
    obtain ⟨k, hk⟩ := k
    simp only
    by_cases hlt : k < ws.length
    · obtain ⟨w, hwk, e1, e2⟩ := hlg k hlt
      have hrow : (ws.map Wn.row)[((k : Nat) : Int).toNat]? = some [DI w.lo, DI w.hi] := row_get hwk
      have hr := hrg k
      rw [e1, e2] at hr
      have a1 : (IR (rowF k (loF ws))).length = k := by rw [IR_len, rowF_len]
      have a2 : (IR (rowF k fun j => -(hiF ws j))).length = k := by rw [IR_len, rowF_len]
      have s1 := rowF_next (g := loF ws) (k := k) e1
      have s2 := rowF_next (g := fun j => -(hiF ws j)) (k := k) (v := -w.hi) (by simp only [e2])
      repeat' (first | ((first | apply Ba | (apply Bb; (· rfl); (· rfl)) | (apply Bc; (· exact nxE)) | (apply Bd; (· rfl); (· rfl); (· exact nxE))); (· first | exact Ok.lenD rfl rfl WN_len | exact Ok.lenD rfl rfl BN_len | exact Ok.append1 (row := [DI w.lo]) rfl rfl (by decide) rfl rfl a1 rfl rfl rfl (by rfl) (by omega) (by omega) | exact Ok.append1 (row := [DI (-w.hi)]) rfl rfl (by decide) rfl rfl a2 rfl rfl rfl (by rfl) (by omega) (by omega) | exact Ok.pe)) | ((first | apply Ca | (apply Cb; (· exact nxE))); (· first | exact Ok.append1 (row := [DI w.lo]) rfl rfl (by decide) rfl rfl a1 rfl rfl rfl (by rfl) (by omega) (by omega) | exact Ok.append1 (row := [DI (-w.hi)]) rfl rfl (by decide) rfl rfl a2 rfl rfl rfl (by rfl) (by omega) (by omega) | exact Ok.e0)) | refine Sx ?_ | (refine Sy (fun h => ?_) (fun h => ?_) <;> try (exfalso; omega; done)) | refine Sz (fun h => ?_) (fun h => ?_))
      refine ⟨⟨k + 1, by omega⟩, ?_, by simp only; omega⟩
      rw [s1, s2]
      (apply Le.headZ [_, _] rfl)
      all_goals (try dsimp only [srcs])
      (case' hfr | hob => (repeat' (first | refine La ?_ ?_ | exact Lc | refine Lo ?_ | refine ⟨⟨_, rfl, ?_⟩, ?_⟩ | refine Lx ?_)))
      all_goals (first | ((first | rfl | (simp; done))) | exact Ld)
    obtain rfl : k = ws.length := by omega
    repeat' (first | ((first | apply Ba | (apply Bb; (· rfl); (· rfl)) | (apply Bc; (· exact nxE)) | (apply Bd; (· rfl); (· rfl); (· exact nxE))); (· first | exact Kz rfl rfl (hTu) (Ad An) | exact Ok.lenD rfl rfl WN_len | exact Ok.lenD rfl rfl BN_len | exact Eo rfl rfl (hE) (Sd (Sw Sn)) | exact Eo rfl rfl (hL) (Sd (Sw Sn)) | exact Ok.pe)) | ((first | apply Ca | (apply Cb; (· exact nxE))); (· first | exact Eo rfl rfl (hE) (Sd (Sw Sn)) | exact Eo rfl rfl (hL) (Sd (Sw Sn)) | exact Ok.e0)) | refine Sx ?_ | (refine Sy (fun h => ?_) (fun h => ?_) <;> try (exfalso; omega; done)) | refine Sz (fun h => ?_) (fun h => ?_))
    refine AW.loop (X := {k : Nat // k ≤ ws.length}) (fun k => ⟨[Oo, Oo, Oo, Oo, Oo, Oo, Oo, Oo, Oo, Oo, Oo, Oo, Oo, .own 1 ⟨0, []⟩ 0 ws.length, .own 1 ⟨1, []⟩ 0 ws.length, Oo, Oo, Oo, Oo, Oo, Oo, Oo, Oo, Oo, Oo, Oo, Oo, Oo, Oo, Oo, Oo, Oo, Oo, Oo, Oo, Oo, Oo, Oo, Oo, Oo, Oo, Oo, Oo, Oo, Oo, Oo, Oo, Oo, Oo, Oo, Oo, Oo, Oo, Oo, Oo, WNL ws, I ws.length, I (k.1 : Nat), Oo, Oo, Oo, Oo, Oo, Oo, Oo, Oo, Oo, Oo, Oo, Oo, Oo, Oo, Oo, Oo, Oo, Oo, Oo, Oo, Oo, Oo], heapL [(⟨0, []⟩, ⟨0, []⟩, IO (rowF ws.length ea)), (⟨1, []⟩, ⟨1, []⟩, IO (rowF ws.length (ngF la k.1)))], 900⟩) (fun k => ws.length - k.1) ⟨0, Nat.zero_le _⟩ ?_ (fun k => ?_)
    ·
      (apply Le.headZ [_, _] rfl)
      all_goals (try dsimp only [srcs])
      (case' hfr | hob => (repeat' (first | refine La ?_ ?_ | exact Lc | refine Lo ?_ | refine ⟨⟨_, rfl, ?_⟩, ?_⟩ | refine Lx ?_)))
      all_goals (first | ((first | rfl | (simp [ngF]; done))) | exact Ld)
    obtain ⟨k, hk2⟩ := k
    simp only
    by_cases hlt : k < ws.length
    · obtain ⟨w, hwk, e1, e2⟩ := hlg k hlt
      have hrow : (ws.map Wn.row)[((k : Nat) : Int).toNat]? = some [DI w.lo, DI w.hi] := row_get hwk
      have b1 := hsme k hlt
      have b2 := hsml k hlt
      have b3 := hq k hlt
      rw [e2] at b3
      have hgl : (IR (rowF ws.length (ngF la k)))[k]? = some [DI (la k)] := by rw [IRF_get hlt]; simp [ngF]
      have hge : (IR (rowF ws.length ea))[k]? = some [DI (ea k)] := IRF_get hlt
      have hset : (IR (rowF ws.length (ngF la k))).set k [DI (-(la k))] = IR (rowF ws.length (ngF la (k + 1))) := by rw [IR_set, ngF_set]
      repeat' (first | ((first | apply Ba | (apply Bb; (· rfl); (· rfl)) | (apply Bc; (· exact nxE)) | (apply Bd; (· rfl); (· rfl); (· exact nxE))); (· first | exact Ok.ld1 rfl rfl rfl hgl | exact Ok.ld1 rfl rfl rfl hge | exact Ok.lenD rfl rfl WN_len | exact Ok.lenD rfl rfl BN_len | exact Ok.st1 rfl rfl rfl (by rw [IR_len, rowF_len]; omega) (by rw [hgl]; rfl) rfl rfl hset | exact Ok.pe)) | ((first | apply Ca | (apply Cb; (· exact nxE))); (· first | exact Ok.st1 rfl rfl rfl (by rw [IR_len, rowF_len]; omega) (by rw [hgl]; rfl) rfl rfl hset | exact Ok.e0)) | refine Sx ?_ | (refine Sy (fun h => ?_) (fun h => ?_) <;> try (exfalso; omega; done)) | refine Sz (fun h => ?_) (fun h => ?_))
      refine ⟨⟨k + 1, by omega⟩, ?_, by simp only; omega⟩
      (apply Le.headZ [_, _] rfl)
      all_goals (try dsimp only [srcs])
      (case' hfr | hob => (repeat' (first | refine La ?_ ?_ | exact Lc | refine Lo ?_ | refine ⟨⟨_, rfl, ?_⟩, ?_⟩ | refine Lx ?_)))
      all_goals (first | (rfl) | exact Ld)
    obtain rfl : k = ws.length := by omega
    repeat' (first | ((first | apply Ba | (apply Bb; (· rfl); (· rfl)) | (apply Bc; (· exact nxE)) | (apply Bd; (· rfl); (· rfl); (· exact nxE))); (· first | exact Ok.lenD rfl rfl WN_len | exact Ok.lenD rfl rfl BN_len | exact Ok.pe)) | ((first | apply Ca | (apply Cb; (· exact nxE))); (· first | exact Ok.e0)) | refine Sx ?_ | (refine Sy (fun h => ?_) (fun h => ?_) <;> try (exfalso; omega; done)) | refine Sz (fun h => ?_) (fun h => ?_))
    refine Yc ?_
    (apply Le.head [(⟨0, []⟩, _, _), (⟨1, []⟩, _, _)])
    (case' hfr | hob => (repeat' (first | refine La ?_ ?_ | exact Lc | refine Lo ?_ | refine ⟨⟨_, rfl, ?_⟩, ?_⟩ | refine Lx ?_)))
    all_goals (first | exact Ld | (rfl))
  · rw [if_neg (fun hq => by have := hq jb hjb; omega)] at hec
    rw [hec]
    refine ⟨[], [], ?_⟩
    refine AC.of_body 0 Try.func37 rfl (fun l h => absurd rfl h) (fun C hC => ?_)
    have hD : ∀ l, ¬ C.D0 l := fun l h => (hC l).1 h rfl
    simp only [startFr, Try.ntmps37, List.length_cons, List.length_nil, Nat.reduceAdd, Nat.reduceSub, List.replicate_succ, List.replicate_zero, List.cons_append, List.nil_append]
    repeat' (first | ((first | apply Ba | (apply Bb; (· rfl); (· rfl)) | (apply Bc; (· exact nxE)) | (apply Bd; (· rfl); (· rfl); (· exact nxE))); (· first | exact Kz rfl rfl (hI) (Ad (Ad An)) | exact Kz rfl rfl (hM) (Ad (Ad An)) | exact Kz rfl rfl (hS) (Ad An) | exact Ok.lenD rfl rfl WN_len | exact Ok.lenD rfl rfl BN_len | exact Ok.pe)) | ((first | apply Ca | (apply Cb; (· exact nxE))); (· first | exact Ok.e0)) | refine Sx ?_ | (refine Sy (fun h => ?_) (fun h => ?_) <;> try (exfalso; omega; done)) | refine Sz (fun h => ?_) (fun h => ?_))
    refine AW.loop (X := {k : Nat // k ≤ ws.length}) (fun k => ⟨[WNL ws, Oo, Oo, Oo, Oo, Oo, Oo, TL tst, Oo, .own 1 ⟨0, []⟩ 0 (k.1 : Nat), .own 1 ⟨1, []⟩ 0 (k.1 : Nat), Oo, Oo, Oo, Oo, Oo, Oo, Oo, Oo, Oo, Oo, Oo, Oo, Oo, Oo, Oo, Oo, Oo, Oo, Oo, WNL ws, I ws.length, I (k.1 : Nat), Oo, Oo, Oo, Oo, Oo, Oo, Oo, Oo, Oo, Oo, Oo, Oo, Oo, Oo, Oo, Oo, Oo, Oo, Oo, Oo, Oo, Oo, Oo, Oo, Oo, Oo, Oo, Oo, Oo, Oo, Oo, Oo, Oo, Oo, Oo, Oo, Oo, Oo, Oo, Oo, Oo, Oo, Oo, Oo, Oo, Oo, Oo], heapL [(⟨0, []⟩, ⟨0, []⟩, IO (rowF k.1 (loF ws))), (⟨1, []⟩, ⟨1, []⟩, IO (rowF k.1 fun j => -(hiF ws j)))], 900⟩) (fun k => ws.length - k.1) ⟨0, Nat.zero_le _⟩ ?_ (fun k => ?_)
    ·
      refine (Le.nil 9 1 rfl).trans ((Le.nil 10 1 rfl).trans ?_)
      (apply Le.headZ [_, _] rfl)
      all_goals (try dsimp only [srcs])
      (case' hfr | hob => (repeat' (first | refine La ?_ ?_ | exact Lc | refine Lo ?_ | refine ⟨⟨_, rfl, ?_⟩, ?_⟩ | refine Lx ?_)))
      all_goals (first | (rfl) | exact Ld)
    obtain ⟨k, hk⟩ := k
    simp only
    by_cases hlt : k < ws.length
    · obtain ⟨w, hwk, e1, e2⟩ := hlg k hlt
      have hrow : (ws.map Wn.row)[((k : Nat) : Int).toNat]? = some [DI w.lo, DI w.hi] := row_get hwk
      have hr := hrg k
      rw [e1, e2] at hr
      have a1 : (IR (rowF k (loF ws))).length = k := by rw [IR_len, rowF_len]
      have a2 : (IR (rowF k fun j => -(hiF ws j))).length = k := by rw [IR_len, rowF_len]
      have s1 := rowF_next (g := loF ws) (k := k) e1
      have s2 := rowF_next (g := fun j => -(hiF ws j)) (k := k) (v := -w.hi) (by simp only [e2])
      repeat' (first | ((first | apply Ba | (apply Bb; (· rfl); (· rfl)) | (apply Bc; (· exact nxE)) | (apply Bd; (· rfl); (· rfl); (· exact nxE))); (· first | exact Ok.lenD rfl rfl WN_len | exact Ok.lenD rfl rfl BN_len | exact Ok.append1 (row := [DI w.lo]) rfl rfl (by decide) rfl rfl a1 rfl rfl rfl (by rfl) (by omega) (by omega) | exact Ok.append1 (row := [DI (-w.hi)]) rfl rfl (by decide) rfl rfl a2 rfl rfl rfl (by rfl) (by omega) (by omega) | exact Ok.pe)) | ((first | apply Ca | (apply Cb; (· exact nxE))); (· first | exact Ok.append1 (row := [DI w.lo]) rfl rfl (by decide) rfl rfl a1 rfl rfl rfl (by rfl) (by omega) (by omega) | exact Ok.append1 (row := [DI (-w.hi)]) rfl rfl (by decide) rfl rfl a2 rfl rfl rfl (by rfl) (by omega) (by omega) | exact Ok.e0)) | refine Sx ?_ | (refine Sy (fun h => ?_) (fun h => ?_) <;> try (exfalso; omega; done)) | refine Sz (fun h => ?_) (fun h => ?_))
      refine ⟨⟨k + 1, by omega⟩, ?_, by simp only; omega⟩
      rw [s1, s2]
      (apply Le.headZ [_, _] rfl)
      all_goals (try dsimp only [srcs])
      (case' hfr | hob => (repeat' (first | refine La ?_ ?_ | exact Lc | refine Lo ?_ | refine ⟨⟨_, rfl, ?_⟩, ?_⟩ | refine Lx ?_)))
      all_goals (first | ((first | rfl | (simp; done))) | exact Ld)
    obtain rfl : k = ws.length := by omega
    repeat' (first | ((first | apply Ba | (apply Bb; (· rfl); (· rfl)) | (apply Bc; (· exact nxE)) | (apply Bd; (· rfl); (· rfl); (· exact nxE))); (· first | exact Kz rfl rfl (hTu) (Ad An) | exact Ok.lenD rfl rfl WN_len | exact Ok.lenD rfl rfl BN_len | exact Eo rfl rfl (hE) (Sd (Sw Sn)) | exact Eo rfl rfl (hL) (Sd (Sw Sn)) | exact Ok.pe)) | ((first | apply Ca | (apply Cb; (· exact nxE))); (· first | exact Eo rfl rfl (hE) (Sd (Sw Sn)) | exact Eo rfl rfl (hL) (Sd (Sw Sn)) | exact Ok.e0)) | refine Sx ?_ | (refine Sy (fun h => ?_) (fun h => ?_) <;> try (exfalso; omega; done)) | refine Sz (fun h => ?_) (fun h => ?_))
    refine AW.loop (X := {k : Nat // k ≤ jb}) (fun k => ⟨[Oo, Oo, Oo, Oo, Oo, Oo, Oo, Oo, Oo, Oo, Oo, Oo, Oo, .own 1 ⟨0, []⟩ 0 ws.length, .own 1 ⟨1, []⟩ 0 ws.length, Oo, Oo, Oo, Oo, Oo, Oo, Oo, Oo, Oo, Oo, Oo, Oo, Oo, Oo, Oo, Oo, Oo, Oo, Oo, Oo, Oo, Oo, Oo, Oo, Oo, Oo, Oo, Oo, Oo, Oo, Oo, Oo, Oo, Oo, Oo, Oo, Oo, Oo, Oo, Oo, WNL ws, I ws.length, I (k.1 : Nat), Oo, Oo, Oo, Oo, Oo, Oo, Oo, Oo, Oo, Oo, Oo, Oo, Oo, Oo, Oo, Oo, Oo, Oo, Oo, Oo, Oo, Oo], heapL [(⟨0, []⟩, ⟨0, []⟩, IO (rowF ws.length ea)), (⟨1, []⟩, ⟨1, []⟩, IO (rowF ws.length (ngF la k.1)))], 900⟩) (fun k => jb - k.1) ⟨0, Nat.zero_le _⟩ ?_ (fun k => ?_)
    ·
      (apply Le.headZ [_, _] rfl)
      all_goals (try dsimp only [srcs])
      (case' hfr | hob => (repeat' (first | refine La ?_ ?_ | exact Lc | refine Lo ?_ | refine ⟨⟨_, rfl, ?_⟩, ?_⟩ | refine Lx ?_)))
      all_goals (first | ((first | rfl | (simp [ngF]; done))) | exact Ld)
    obtain ⟨k, hk2⟩ := k
    simp only
    have hkn : k < ws.length := by omega
    obtain ⟨w, hwk, e1, e2⟩ := hlg k hkn
    have hrow : (ws.map Wn.row)[((k : Nat) : Int).toNat]? = some [DI w.lo, DI w.hi] := row_get hwk
    have b1 := hsme k hkn
    have b2 := hsml k hkn
    have hgl : (IR (rowF ws.length (ngF la k)))[k]? = some [DI (la k)] := by rw [IRF_get hkn]; simp [ngF]
    have hge : (IR (rowF ws.length ea))[k]? = some [DI (ea k)] := IRF_get hkn
    have hset : (IR (rowF ws.length (ngF la k))).set k [DI (-(la k))] = IR (rowF ws.length (ngF la (k + 1))) := by rw [IR_set, ngF_set]
    by_cases hlt : k < jb
    · have b3 := hb2 k hlt
      rw [e2] at b3
      repeat' (first | ((first | apply Ba | (apply Bb; (· rfl); (· rfl)) | (apply Bc; (· exact nxE)) | (apply Bd; (· rfl); (· rfl); (· exact nxE))); (· first | exact Ok.ld1 rfl rfl rfl hgl | exact Ok.ld1 rfl rfl rfl hge | exact Ok.lenD rfl rfl WN_len | exact Ok.lenD rfl rfl BN_len | exact Ok.st1 rfl rfl rfl (by rw [IR_len, rowF_len]; omega) (by rw [hgl]; rfl) rfl rfl hset | exact Ok.pe)) | ((first | apply Ca | (apply Cb; (· exact nxE))); (· first | exact Ok.st1 rfl rfl rfl (by rw [IR_len, rowF_len]; omega) (by rw [hgl]; rfl) rfl rfl hset | exact Ok.e0)) | refine Sx ?_ | (refine Sy (fun h => ?_) (fun h => ?_) <;> try (exfalso; omega; done)) | refine Sz (fun h => ?_) (fun h => ?_))
      refine ⟨⟨k + 1, by omega⟩, ?_, by simp only; omega⟩
      (apply Le.headZ [_, _] rfl)
      all_goals (try dsimp only [srcs])
      (case' hfr | hob => (repeat' (first | refine La ?_ ?_ | exact Lc | refine Lo ?_ | refine ⟨⟨_, rfl, ?_⟩, ?_⟩ | refine Lx ?_)))
      all_goals (first | (rfl) | exact Ld)
    obtain rfl : jb = k := by omega
    rw [e2] at hb1
    repeat' (first | ((first | apply Ba | (apply Bb; (· rfl); (· rfl)) | (apply Bc; (· exact nxE)) | (apply Bd; (· rfl); (· rfl); (· exact nxE))); (· first | exact Ok.ld1 rfl rfl rfl hgl | exact Ok.ld1 rfl rfl rfl hge | exact Ok.lenD rfl rfl WN_len | exact Ok.lenD rfl rfl BN_len | exact Ok.st1 rfl rfl rfl (by rw [IR_len, rowF_len]; omega) (by rw [hgl]; rfl) rfl rfl hset | exact Ok.pe)) | ((first | apply Ca | (apply Cb; (· exact nxE))); (· first | exact Ok.st1 rfl rfl rfl (by rw [IR_len, rowF_len]; omega) (by rw [hgl]; rfl) rfl rfl hset | exact Ok.e0)) | refine Sx ?_ | (refine Sy (fun h => ?_) (fun h => ?_) <;> try (exfalso; omega; done)) | refine Sz (fun h => ?_) (fun h => ?_))
    refine Yc ?_
    (apply Le.headZ (hs := []) [] rfl)
    all_goals (try dsimp only [srcs])
    (case' hfr => (repeat' (first | refine La ?_ ?_ | exact Lc | refine Lo ?_ | refine ⟨⟨_, rfl, ?_⟩, ?_⟩ | refine Lx ?_)))
    all_goals (first | exact Ld | exact trivial | (rfl))
set_option maxHeartbeats 2000000 in
theorem iEarliestTimes_ex [Mode] (ws : List Wn) (bs : List Bn) (hw : ws.length ≤ 1000) (hb : bs.length ≤ 1000) : ∃ x : List Int, AC Try.prog 11 [WNL ws, BNL bs] H0 (.tup [IL x, I (erC ws bs)]) H0 := by
  obtain ⟨x, y, hS⟩ := solveTask_ex ws bs hw hb
  refine ⟨x, ?_⟩
  refine AC.of_body 0 Try.func11 rfl (fun l h => absurd rfl h) (fun C hC => ?_)
  have hD : ∀ l, ¬ C.D0 l := fun l h => (hC l).1 h rfl
  simp only [startFr, Try.ntmps11, List.length_cons, List.length_nil, Nat.reduceAdd, Nat.reduceSub, List.replicate_succ, List.replicate_zero, List.cons_append, List.nil_append]
  repeat' (first | ((first | apply Ba | (apply Bb; (· rfl); (· rfl)) | (apply Bc; (· exact nxE)) | (apply Bd; (· rfl); (· rfl); (· exact nxE))); (· first | exact Kz rfl rfl (hS) (Ad (Ad An)) | exact Ok.lenD rfl rfl WN_len | exact Ok.lenD rfl rfl BN_len | exact Ok.pe)) | ((first | apply Ca | (apply Cb; (· exact nxE))); (· first | exact Ok.e0)) | refine Sx ?_ | (refine Sy (fun h => ?_) (fun h => ?_) <;> try (exfalso; omega; done)) | refine Sz (fun h => ?_) (fun h => ?_))
  refine Yb ?_
  (apply Le.headZ (hs := []) [] rfl)
  all_goals (try dsimp only [srcs])
  (case' hfr => (repeat' (first | refine La ?_ ?_ | exact Lc | refine Lo ?_ | refine ⟨⟨_, rfl, ?_⟩, ?_⟩ | refine Lx ?_)))
  all_goals (first | exact Ld | exact trivial | (rfl))
end Go.Proofs.Ytkpoclbnnpglfaa
end
