/-
  Walks in the abstract reading: a trace recovered, by the reference.
-/
import Derived.Test.YtofakjlamoigcaaGreatDoorKsU4
namespace Go.Proofs.YtofakjlamoigcaaGreatDoor
set_option linter.unusedSimpArgs false
set_option linter.unusedVariables false
open Go Go.RowKit
attribute [local irreducible] AL AD AW OpOk Le AC thenQ blockQ EndQ

theorem spl_ge [Mode] {c : UInt8} {l : List UInt8} : 1 ≤ (spl c l).length := by
  have := spl_ne (c := c) (l := l)
  exact List.length_pos_iff.2 this
/-- What the reference finds at the rest of a text. -/
theorem rec_rest [Mode] {s r : List UInt8} {fs : List Fi} (h : RecOf s fs r) (hlt : fs.length < 500) {a b x y z : List UInt8} {n0 n1 n2 : Int} (hr : r = a ++ 10 :: b) (hw : spl 32 a = [x, y, z]) (hx : sgN x = (n0, true)) (hy : sgN y = (n1, true)) (hz : sgN z = (n2, true))
    (n : Int) (hf : wrF ⟨n0, n, n1⟩ = true) : n2 ≠ nxI (chA 1 fs) ⟨n0, n, n1⟩ := by
  intro he
  have hbd := nxI_bd (chA_bd (c := 1) (by decide) (by decide) h.wr).1 hf
  obtain ⟨⟨h2, h3⟩, h4, h5⟩ := wrF_iff.1 hf
  simp only at h2 h3 h4 h5
  have key : ∀ {w : List UInt8} {m : Int}, sgN w = (m, true) → 0 ≤ m → w = dec m.toNat := by
    intro w m hw hm
    rcases sgN_some (by rw [hw]) with ⟨q, _, e1, e2⟩ | e
    · rw [hw] at e2
      simp only at e2
      rw [e2, Int.toNat_natCast]; exact e1
    · rw [hw] at e; simp only at e; omega
  have ex := key hx h2
  have ey := key hy h4
  have ez := key hz (by omega)
  refine h.stop hlt ⟨n0, n, n1⟩ hf b ?_
  rw [hr, spl_three hw, ex, ey, ez, he]
  simp [trN, trL]
set_option maxRecDepth 4000 in
set_option maxHeartbeats 8000000 in
theorem l28Recover_ac [Mode] (s : List UInt8) (fs : List Fi) (r : List UInt8) (h : RecOf s fs r) (hs : s.length ≤ 2000000) : AC Tryz.prog 44 [Str s] H0 (.tup [own1 3 fs.length, I ((trT 1 fs).length : Nat)]) (hp1 (FO fs)) := by
  have hSp := split_frz s 10 (by omega)
  have hln : spl 10 s = lnS 1 fs ++ spl 10 r := by rw [h.txt, spl_trT]
  rw [hln] at hSp
  have hlt0 : (stR (lnS 1 fs ++ spl 10 r)).length = fs.length + (spl 10 r).length := by rw [stR_len, List.length_append, lnS_len]
  have hsp1 := spl_ge (c := 10) (l := r)
  have hfl := h.len
  have hspl : (spl 10 r).length ≤ 2000001 := by
    have h1 : (spl 10 s).length = fs.length + (spl 10 r).length := by rw [hln, List.length_append, lnS_len]
    have h2 := stS_len 10 s (s.length + 1)
    rw [stS_end] at h2
    omega
  have hlenS : (trT 1 fs).length + r.length = s.length := by rw [h.txt, List.length_append]
  refine AC.of_body 0 Tryz.func44 rfl (fun l h => absurd rfl h) (fun C hC => ?_)
  have hD : ∀ l, ¬ C.D0 l := fun l h => (hC l).1 h rfl
  simp only [startFr, Tryz.ntmps44, List.length_cons, List.length_nil, Nat.reduceAdd, Nat.reduceSub, List.replicate_succ, List.replicate_zero, List.cons_append, List.nil_append]
  repeat' (first | ((first | apply Ba | (apply Bb; (· rfl); (· rfl)) | (apply Bc; (· exact nxE)) | (apply Bd; (· rfl); (· rfl); (· exact nxE))); (· first | exact Kz rfl rfl (hSp) (Ad (Ad An)) | exact Ok.seqS rfl rfl rfl | exact Ok.sneS rfl rfl rfl | exact Ok.slen rfl rfl | exact OpOk.indexD rfl rfl rfl (by decide) rfl (by exact Nat.zero_lt_one) | exact Ok.pe)) | ((first | apply Ca | (apply Cb; (· exact nxE))); (· first | exact Ok.e0)) | refine Sx ?_ | (refine Sy (fun h => ?_) (fun h => ?_) <;> try (exfalso; omega; done)) | refine Sz (fun h => ?_) (fun h => ?_))
  refine AW.loop (X := {k : Nat // k ≤ fs.length}) (fun k => ⟨[Oo, Oo, Oo, Oo, SL (lnS 1 fs ++ spl 10 r), I (chA 1 (fs.take (k.1 : Nat))), I ((trT 1 (fs.take (k.1 : Nat))).length : Nat), .own 3 ⟨0, []⟩ 0 (fs.take (k.1 : Nat)).length, I (k.1 : Nat), Oo, Oo, Oo, Oo, Oo, Oo, Oo, Oo, Oo, Oo, Oo, Oo, Oo, Oo, Oo, Oo, Oo, Oo, Oo, Oo, Oo, Oo, Oo, Oo, Oo, Oo, Oo, Oo, Oo, Oo, Oo, Oo, Oo, Oo, Oo, Oo, Oo, Oo, Oo, Oo, Oo, Oo, Oo, Oo, Oo, Oo, Oo, Oo, Oo, Oo, Oo, Oo, Oo, Oo, Oo, Oo, Oo, Oo, Oo, Oo, Oo, Oo, Oo, Oo, Oo, Oo, Oo, Oo, Oo, Oo, Oo, Oo, Oo, Oo, Oo, Oo], heapL [(⟨0, []⟩, ⟨0, []⟩, FO (fs.take k.1))], 900⟩) (fun k => fs.length - k.1) ⟨0, Nat.zero_le _⟩ ?_ (fun k => ?_)
  ·
    (apply Le.headZ [_] rfl)
    all_goals (try dsimp only [srcs])
    (case' hfr | hob => (repeat' (first | refine La ?_ ?_ | exact Lc | refine Lo ?_ | refine ⟨⟨_, rfl, ?_⟩, ?_⟩ | refine Lx ?_)))
    all_goals (first | (rfl) | exact Ld)
  obtain ⟨k, hk⟩ := k
  simp only
  have hTL : (fs.take k).length = k := by rw [List.length_take]; omega
  by_cases hlt : k < fs.length
  · obtain ⟨f, hf⟩ : ∃ f, fs[k]? = some f := ⟨fs[k], List.getElem?_eq_getElem hlt⟩
    have hfw := List.all_eq_true.1 h.wr f (List.mem_of_getElem? hf)
    have hwk := wrA_all (k := k) h.wr
    have hbd := chA_bd (c := 1) (by decide) (by decide) hwk
    have hnb := nxI_bd hbd.1 hfw
    obtain ⟨⟨h2, h3⟩, h4, h5⟩ := wrF_iff.1 hfw
    have htk : fs.take (k + 1) = fs.take k ++ [f] := by rw [List.take_add_one, hf]; rfl
    have hs1 : (trT 1 (fs.take (k + 1))).length = (trT 1 (fs.take k)).length + ((trL (chA 1 (fs.take k)) f).length + 1) := by rw [htk, trT_snoc, List.length_append]; simp [trN]
    have hs2 : chA 1 (fs.take (k + 1)) = nxI (chA 1 (fs.take k)) f := by rw [htk, chA_snoc]
    have hT := trT_len (c := 1) (by decide) hwk
    have hNl := trN_len hbd.1 hfw
    have hLl : (trL (chA 1 (fs.take k)) f).length ≤ 60 := by simp only [trN, List.length_append, List.length_cons, List.length_nil] at hNl; omega
    have hget : (lnS 1 fs ++ spl 10 r)[k]? = some (trL (chA 1 (fs.take k)) f) := by rw [List.getElem?_append_left (by rw [lnS_len]; exact hlt)]; exact lnS_get hf
    have hrow := stR_getI hget
    have hW := split_frz (trL (chA 1 (fs.take k)) f) 32 (by omega)
    rw [spl_trL] at hW
    have hN := num3 f.e.toNat f.t.toNat (nxI (chA 1 (fs.take k)) f).toNat (by omega) (by omega) (by omega)
    rw [Int.toNat_of_nonneg h2, Int.toNat_of_nonneg h4, Int.toNat_of_nonneg hnb.1] at hN
    have hC := l14Count_ac (fs.take k) f.e (by omega)
    have hcl := cnt_le (fs.take k) f.e
    have hfn := h.num k f hf
    have hWr := l28Writable_ac f
    rw [hfw] at hWr
    have hNx := l28Next_ac (chA 1 (fs.take k)) f hbd.1 hbd.2 hfw
    have hol : ((fs.take k).map Fi.row).length = (fs.take k).length := FL_len
    generalize hch : chA 1 (fs.take k) = ch at *
    generalize trL ch f = l0 at *
    generalize nxI ch f = nx at *
    obtain ⟨fe, fn, ft⟩ := f
    simp only at *
    subst hfn
    have hCn := hC
    clear hC
    generalize cnt (fs.take k) fe = q at *
    repeat' (first | ((first | apply Ba | (apply Bb; (· rfl); (· rfl)) | (apply Bc; (· exact nxE)) | (apply Bd; (· rfl); (· rfl); (· exact nxE))); (· first | exact Ok.lenD rfl rfl hlt0 | exact Kz rfl rfl (hW) (Ad (Ad An)) | exact Kz rfl rfl (hN) (Ad An) | exact Ez rfl rfl (hCn) (Sw (Sd Sn)) | exact Kz rfl rfl (hWr) (Aa (Ad (Ad (Ad An))) An) | exact Kz rfl rfl (hNx) (Ad (Aa (Ad (Ad (Ad An))) An)) | exact Ok.seqS rfl rfl rfl | exact Ok.sneS rfl rfl rfl | exact Ok.slen rfl rfl | exact OpOk.indexD rfl rfl rfl (by decide) rfl (by exact Nat.zero_lt_one) | exact Ok.append1 (row := Fi.row ⟨fe, (q : Int) + 1, ft⟩) rfl rfl (by decide) rfl rfl hol rfl rfl rfl (by rfl) (by omega) (by omega) | exact Ok.pe)) | ((first | apply Ca | (apply Cb; (· exact nxE))); (· first | exact Ok.append1 (row := Fi.row ⟨fe, (q : Int) + 1, ft⟩) rfl rfl (by decide) rfl rfl hol rfl rfl rfl (by rfl) (by omega) (by omega) | exact Ok.e0)) | refine Sx ?_ | (refine Sy (fun h => ?_) (fun h => ?_) <;> try (exfalso; omega; done)) | refine Sz (fun h => ?_) (fun h => ?_))
    refine ⟨⟨k + 1, by omega⟩, ?_, by simp only; omega⟩
    (apply Le.headZ [_] rfl)
    all_goals (try dsimp only [srcs])
    (case' hfr | hob => (repeat' (first | refine La ?_ ?_ | exact Lc | refine Lo ?_ | refine ⟨⟨_, rfl, ?_⟩, ?_⟩ | refine Lx ?_)))
    all_goals (first | ((first | (rw [hs2]; done) | (rw [hs1]; omega) | (rw [htk, List.length_append, List.length_singleton]; done) | (rw [htk, List.map_append]; rfl) | (rw [htk]; simp; done))) | exact Ld)
  · obtain rfl : k = fs.length := by omega
    rw [List.take_length] at hTL ⊢
    have hT := trT_len (c := 1) (by decide) h.wr
    have hbd := chA_bd (c := 1) (by decide) (by decide) h.wr
    have hol : (fs.map Fi.row).length = fs.length := FL_len
    by_cases h500 : fs.length < 500
    case neg =>
      repeat' (first | ((first | apply Ba | (apply Bb; (· rfl); (· rfl)) | (apply Bc; (· exact nxE)) | (apply Bd; (· rfl); (· rfl); (· exact nxE))); (· first | exact Ok.lenD rfl rfl hlt0 | exact Ok.seqS rfl rfl rfl | exact Ok.sneS rfl rfl rfl | exact Ok.slen rfl rfl | exact OpOk.indexD rfl rfl rfl (by decide) rfl (by exact Nat.zero_lt_one) | exact Ok.pe)) | ((first | apply Ca | (apply Cb; (· exact nxE))); (· first | exact Ok.e0)) | refine Sx ?_ | (refine Sy (fun h => ?_) (fun h => ?_) <;> try (exfalso; omega; done)) | refine Sz (fun h => ?_) (fun h => ?_))
      all_goals
        refine Yb ?_
        (apply Le.head [(⟨0, []⟩, _, _)])
        (case' hfr | hob => (repeat' (first | refine La ?_ ?_ | exact Lc | refine Lo ?_ | refine ⟨⟨_, rfl, ?_⟩, ?_⟩ | refine Lx ?_)))
        all_goals (first | exact Ld | (rfl))
    rcases first_byte 10 r with h1 | ⟨a, b, rfl, h1⟩
    · have hl1 : (spl 10 r).length = 1 := by rw [spl_no h1]; rfl
      repeat' (first | ((first | apply Ba | (apply Bb; (· rfl); (· rfl)) | (apply Bc; (· exact nxE)) | (apply Bd; (· rfl); (· rfl); (· exact nxE))); (· first | exact Ok.lenD rfl rfl hlt0 | exact Ok.seqS rfl rfl rfl | exact Ok.sneS rfl rfl rfl | exact Ok.slen rfl rfl | exact OpOk.indexD rfl rfl rfl (by decide) rfl (by exact Nat.zero_lt_one) | exact Ok.pe)) | ((first | apply Ca | (apply Cb; (· exact nxE))); (· first | exact Ok.e0)) | refine Sx ?_ | (refine Sy (fun h => ?_) (fun h => ?_) <;> try (exfalso; omega; done)) | refine Sz (fun h => ?_) (fun h => ?_))
      all_goals
        refine Yb ?_
        (apply Le.head [(⟨0, []⟩, _, _)])
        (case' hfr | hob => (repeat' (first | refine La ?_ ?_ | exact Lc | refine Lo ?_ | refine ⟨⟨_, rfl, ?_⟩, ?_⟩ | refine Lx ?_)))
        all_goals (first | exact Ld | (rfl))
    have hal : a.length ≤ 1999999 := by simp only [List.length_append, List.length_cons] at hlenS; omega
    have hget : (lnS 1 fs ++ spl 10 (a ++ 10 :: b))[fs.length]? = some a := by
      rw [List.getElem?_append_right (by rw [lnS_len]; exact Nat.le_refl _), lnS_len, Nat.sub_self, spl_at h1]; rfl
    have hrow := stR_getI hget
    have hl2 : (spl 10 (a ++ 10 :: b)).length = 1 + (spl 10 b).length := by rw [spl_at h1, List.length_cons]; omega
    have hb1 := spl_ge (c := 10) (l := b)
    have hW := split_frz a 32 (by omega)
    have hwl : (spl 32 a).length ≤ 2000000 := by
      have h2 := stS_len 32 a (a.length + 1)
      rw [stS_end] at h2
      omega
    have hwe : ∀ w ∈ spl 32 a, w.length ≤ 100000000 := fun w hw => by have := spl_mem_len hw; omega
    generalize hws : spl 32 a = ws at *
    generalize spl 10 (a ++ 10 :: b) = ls at *
    rcases words_or ws with hall | ⟨j, v, hj1, hj2, hj3⟩
    case inr =>
      have hN := l01Numbers_no ws j v (by omega) hwe hj1 hj2 hj3
      repeat' (first | ((first | apply Ba | (apply Bb; (· rfl); (· rfl)) | (apply Bc; (· exact nxE)) | (apply Bd; (· rfl); (· rfl); (· exact nxE))); (· first | exact Ok.lenD rfl rfl hlt0 | exact Kz rfl rfl (hW) (Ad (Ad An)) | exact Kz rfl rfl (hN) (Ad An) | exact Ok.seqS rfl rfl rfl | exact Ok.sneS rfl rfl rfl | exact Ok.slen rfl rfl | exact OpOk.indexD rfl rfl rfl (by decide) rfl (by exact Nat.zero_lt_one) | exact Ok.pe)) | ((first | apply Ca | (apply Cb; (· exact nxE))); (· first | exact Ok.e0)) | refine Sx ?_ | (refine Sy (fun h => ?_) (fun h => ?_) <;> try (exfalso; omega; done)) | refine Sz (fun h => ?_) (fun h => ?_))
      all_goals
        refine Yb ?_
        (apply Le.head [(⟨0, []⟩, _, _)])
        (case' hfr | hob => (repeat' (first | refine La ?_ ?_ | exact Lc | refine Lo ?_ | refine ⟨⟨_, rfl, ?_⟩, ?_⟩ | refine Lx ?_)))
        all_goals (first | exact Ld | (rfl))
    have hN := numbers_frz (by omega) hwe hall rfl
    have hnl : (IR (ws.map fun w => (sgN w).1)).length = ws.length := by rw [IR_len, List.length_map]
    by_cases h3 : ws.length = 3
    case neg =>
      repeat' (first | ((first | apply Ba | (apply Bb; (· rfl); (· rfl)) | (apply Bc; (· exact nxE)) | (apply Bd; (· rfl); (· rfl); (· exact nxE))); (· first | exact Ok.lenD rfl rfl hlt0 | exact Ok.lenD rfl rfl hnl | exact Kz rfl rfl (hW) (Ad (Ad An)) | exact Kz rfl rfl (hN) (Ad An) | exact Ok.seqS rfl rfl rfl | exact Ok.sneS rfl rfl rfl | exact Ok.slen rfl rfl | exact OpOk.indexD rfl rfl rfl (by decide) rfl (by exact Nat.zero_lt_one) | exact Ok.pe)) | ((first | apply Ca | (apply Cb; (· exact nxE))); (· first | exact Ok.e0)) | refine Sx ?_ | (refine Sy (fun h => ?_) (fun h => ?_) <;> try (exfalso; omega; done)) | refine Sz (fun h => ?_) (fun h => ?_))
      all_goals
        refine Yb ?_
        (apply Le.head [(⟨0, []⟩, _, _)])
        (case' hfr | hob => (repeat' (first | refine La ?_ ?_ | exact Lc | refine Lo ?_ | refine ⟨⟨_, rfl, ?_⟩, ?_⟩ | refine Lx ?_)))
        all_goals (first | exact Ld | (rfl))
    match ws, h3 with
    | [x, y, z], _ =>
      obtain ⟨n0, hx⟩ : ∃ n0, sgN x = (n0, true) := ⟨(sgN x).1, by rw [← hall x (by simp)]⟩
      obtain ⟨n1, hy⟩ : ∃ n1, sgN y = (n1, true) := ⟨(sgN y).1, by rw [← hall y (by simp)]⟩
      obtain ⟨n2, hz⟩ : ∃ n2, sgN z = (n2, true) := ⟨(sgN z).1, by rw [← hall z (by simp)]⟩
      simp only [List.map_cons, List.map_nil, hx, hy, hz] at hN
      have hCn := l14Count_ac fs n0 (by omega)
      have hcl := cnt_le fs n0
      have hRest := fun n => rec_rest h h500 (a := a) (b := b) rfl hws hx hy hz n
      generalize cnt fs n0 = q at *
      have hWr := l28Writable_ac ⟨n0, (q : Int) + 1, n1⟩
      cases hfw : wrF ⟨n0, (q : Int) + 1, n1⟩ with
      | false =>
        rw [hfw] at hWr
        clear hRest
        repeat' (first | ((first | apply Ba | (apply Bb; (· rfl); (· rfl)) | (apply Bc; (· exact nxE)) | (apply Bd; (· rfl); (· rfl); (· exact nxE))); (· first | exact Ok.lenD rfl rfl hlt0 | exact Kz rfl rfl (hW) (Ad (Ad An)) | exact Kz rfl rfl (hN) (Ad An) | exact Ez rfl rfl (hCn) (Sw (Sd Sn)) | exact Kz rfl rfl (hWr) (Aa (Ad (Ad (Ad An))) An) | exact Ok.seqS rfl rfl rfl | exact Ok.sneS rfl rfl rfl | exact Ok.slen rfl rfl | exact OpOk.indexD rfl rfl rfl (by decide) rfl (by exact Nat.zero_lt_one) | exact Ok.pe)) | ((first | apply Ca | (apply Cb; (· exact nxE))); (· first | exact Ok.e0)) | refine Sx ?_ | (refine Sy (fun h => ?_) (fun h => ?_) <;> try (exfalso; omega; done)) | refine Sz (fun h => ?_) (fun h => ?_))
        all_goals
          refine Yb ?_
          (apply Le.head [(⟨0, []⟩, _, _)])
          (case' hfr | hob => (repeat' (first | refine La ?_ ?_ | exact Lc | refine Lo ?_ | refine ⟨⟨_, rfl, ?_⟩, ?_⟩ | refine Lx ?_)))
          all_goals (first | exact Ld | (rfl))
      | true =>
        rw [hfw] at hWr
        have hNx := l28Next_ac (chA 1 fs) ⟨n0, (q : Int) + 1, n1⟩ hbd.1 hbd.2 hfw
        have hne := hRest _ hfw
        clear hRest
        generalize nxI (chA 1 fs) ⟨n0, (q : Int) + 1, n1⟩ = nx at *
        generalize chA 1 fs = ch at *
        repeat' (first | ((first | apply Ba | (apply Bb; (· rfl); (· rfl)) | (apply Bc; (· exact nxE)) | (apply Bd; (· rfl); (· rfl); (· exact nxE))); (· first | exact Ok.lenD rfl rfl hlt0 | exact Kz rfl rfl (hW) (Ad (Ad An)) | exact Kz rfl rfl (hN) (Ad An) | exact Ez rfl rfl (hCn) (Sw (Sd Sn)) | exact Kz rfl rfl (hWr) (Aa (Ad (Ad (Ad An))) An) | exact Kz rfl rfl (hNx) (Ad (Aa (Ad (Ad (Ad An))) An)) | exact Ok.seqS rfl rfl rfl | exact Ok.sneS rfl rfl rfl | exact Ok.slen rfl rfl | exact OpOk.indexD rfl rfl rfl (by decide) rfl (by exact Nat.zero_lt_one) | exact Ok.pe)) | ((first | apply Ca | (apply Cb; (· exact nxE))); (· first | exact Ok.e0)) | refine Sx ?_ | (refine Sy (fun h => ?_) (fun h => ?_) <;> try (exfalso; omega; done)) | refine Sz (fun h => ?_) (fun h => ?_))
        all_goals
          refine Yb ?_
          (apply Le.head [(⟨0, []⟩, _, _)])
          (case' hfr | hob => (repeat' (first | refine La ?_ ?_ | exact Lc | refine Lo ?_ | refine ⟨⟨_, rfl, ?_⟩, ?_⟩ | refine Lx ?_)))
          all_goals (first | exact Ld | (rfl))
end Go.Proofs.YtofakjlamoigcaaGreatDoor
