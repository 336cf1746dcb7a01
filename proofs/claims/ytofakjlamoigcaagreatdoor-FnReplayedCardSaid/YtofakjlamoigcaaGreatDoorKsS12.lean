/-
  Walks in the abstract reading: a trace recovered, by the program.
-/
import Derived.Test.YtofakjlamoigcaaGreatDoorKsS11
namespace Go.Proofs.YtofakjlamoigcaaGreatDoor
set_option linter.unusedSimpArgs false
set_option linter.unusedVariables false
open Go Go.RowKit
attribute [local irreducible] AL AD AW OpOk Le AC thenQ blockQ EndQ

section
variable {P : Program} {o : Oper} {A : Operand → AV} {H : Heap} {new : Nat} {t t' : TypeId} {x y : Operand} {a b : List UInt8}
theorem Ok.sneNe [Mode] (ho : o.op = .binOp .neq t x y t') (hx : A x = Str a) (hy : A y = Str b) (h : a ≠ b) : OpOk P o A [] H new (Bo true) [] := by
  have := Ok.sneS (P := P) (H := H) (new := new) ho hx hy
  rwa [decide_eq_true h] at this
end
/-- The counts of all events. -/
def cnts (fs : List Fi) : List Int := (List.range 10).map fun e : Nat => ((cnt fs (e : Int) : Nat) : Int)
theorem cnts_len [Mode] (fs : List Fi) : (cnts fs).length = 10 := by simp [cnts]
theorem cnts_get [Mode] {fs : List Fi} {e : Nat} (h : e < 10) : (cnts fs)[e]? = some (cnt fs e : Int) := by simp [cnts, h]
theorem cnts_set [Mode] {fs : List Fi} {e : Nat} {n t : Int} (h : e < 10) : (cnts fs).set e ((cnt fs e : Int) + 1) = cnts (fs ++ [⟨e, n, t⟩]) := by
  apply List.ext_getElem?
  intro j
  rw [List.getElem?_set]
  by_cases hj : e = j
  · subst hj
    rw [if_pos rfl, if_pos (by rw [cnts_len]; exact h), cnts_get h, cnt_snoc]
    simp
  · rw [if_neg hj]
    by_cases hlt : j < 10
    · rw [cnts_get hlt, cnts_get hlt, cnt_snoc, if_neg (by simp; omega)]; rfl
    · rw [List.getElem?_eq_none (by rw [cnts_len]; omega), List.getElem?_eq_none (by rw [cnts_len]; omega)]
theorem IO_get [Mode] {xs : List Int} {e : Nat} {v : Int} (h : xs[e]? = some v) : (IO xs).rows[0 + ((e : Nat) : Int).toNat]? = some [I v] := by
  rw [Nat.zero_add, Int.toNat_natCast]
  simp [dobj, IR, h]
theorem IO_set [Mode] {xs ys : List Int} {e : Nat} {v : Int} (h : xs.set e v = ys) : (IO xs).rows.set (0 + ((e : Nat) : Int).toNat) [I v] = (IO ys).rows := by
  rw [Nat.zero_add, Int.toNat_natCast, ← h]
  simp [dobj, IR, List.map_set]
theorem isplit_frz [Mode] [HasLen] (l : List UInt8) (c : UInt8) (hl : l.length ≤ 100000000) : AC Tryz.prog 66 [Str l, Str [c]] H0 (SL (spl c l)) H0 :=
  (iSplit_ac l c hl).frz (AR.whole rfl trivial (stR_len _))
set_option maxRecDepth 4000 in
set_option maxHeartbeats 8000000 in
theorem recoverTrace_ac [Mode] [HasTab] [HasErr] [HasLen] (s : List UInt8) (fs : List Fi) (r : List UInt8) (h : RecOf s fs r) (hs : s.length ≤ 2000000) : AC Tryz.prog 43 [Str s] H0 (.tup [own1 3 fs.length, I ((trT 1 fs).length : Nat)]) (hp1 (FO fs)) := by
  have hfl := h.len
  have hlenS : (trT 1 fs).length + r.length = s.length := by rw [h.txt, List.length_append]
  refine AC.of_body 0 Tryz.func43 rfl (fun l h => absurd rfl h) (fun C hC => ?_)
  have hD : ∀ l, ¬ C.D0 l := fun l h => (hC l).1 h rfl
  simp only [startFr, Tryz.ntmps43, List.length_cons, List.length_nil, Nat.reduceAdd, Nat.reduceSub, List.replicate_succ, List.replicate_zero, List.cons_append, List.nil_append]
  repeat' (first | ((first | apply Ba | (apply Bb; (· rfl); (· rfl)) | (apply Bc; (· exact nxE)) | (apply Bd; (· rfl); (· rfl); (· exact nxE))); (· first | exact Ok.sneSame rfl rfl rfl | exact Ok.seqS rfl rfl rfl | exact Ok.slen rfl rfl | exact OpOk.indexD rfl rfl rfl (by decide) rfl (by exact Nat.zero_lt_one) | exact Ok.makeN (n := 10) rfl rfl rfl (by decide) (by decide) | exact Ok.pe)) | ((first | apply Ca | (apply Cb; (· exact nxE))); (· first | exact Ok.makeN (n := 10) rfl rfl rfl (by decide) (by decide) | exact Ok.e0)) | refine Sx ?_ | (refine Sy (fun h => ?_) (fun h => ?_) <;> try (exfalso; omega; done)) | refine Sz (fun h => ?_) (fun h => ?_))
  refine AW.loop (X := {k : Nat // k ≤ fs.length}) (fun k => ⟨[Str s, Oo, Oo, Oo, .own 3 ⟨0, []⟩ 0 (fs.take (k.1 : Nat)).length, .own 1 ⟨1, []⟩ 0 10, I (chA 1 (fs.take (k.1 : Nat))), I ((trT 1 (fs.take (k.1 : Nat))).length : Nat), Oo, Oo, Oo, Oo, Oo, Oo, Oo, Oo, Oo, Oo, Oo, Oo, Oo, Oo, Oo, Oo, Oo, Oo, Oo, Oo, Oo, Oo, Oo, Oo, Oo, Oo, Oo, Oo, Oo, Oo, Oo, Oo, Oo, Oo, Oo, Oo, Oo, Oo, Oo, Oo, Oo, Oo, Oo, Oo, Oo, Oo, Oo, Oo, Oo, Oo, Oo, Oo, Oo, Oo, Oo, Oo, Oo, Oo, Oo, Oo, Oo, Oo, Oo, Oo, Oo, Oo, Oo, Oo, Oo, Oo, Oo, Oo, Oo, Oo, Oo, Oo, Oo, Oo, Oo, Oo, Oo, Oo, Oo, Oo, Oo, Oo, Oo, Oo, Oo, Oo, Oo, Oo, Oo], heapL [(⟨0, []⟩, ⟨0, []⟩, FO (fs.take k.1)), (⟨1, []⟩, ⟨1, []⟩, IO (cnts (fs.take k.1)))], 900⟩) (fun k => fs.length - k.1) ⟨0, Nat.zero_le _⟩ ?_ (fun k => ?_)
  ·
    refine (Le.nil 4 3 rfl).trans ?_
    simp only [List.set_cons_succ, List.set_cons_zero]
    (apply Le.headZ [_, _] rfl)
    all_goals (try dsimp only [srcs])
    (case' hfr | hob => (repeat' (first | refine La ?_ ?_ | exact Lc | refine Lo ?_ | refine ⟨⟨_, rfl, ?_⟩, ?_⟩ | refine Lx ?_)))
    all_goals (first | (rfl) | exact Ld)
  obtain ⟨k, hk⟩ := k
  simp only
  have hTL : (fs.take k).length = k := by rw [List.length_take]; omega
  by_cases hlt : k < fs.length
  · obtain ⟨f, hf⟩ : ∃ f, fs[k]? = some f := ⟨fs[k], List.getElem?_eq_getElem hlt⟩
    have hfw := List.all_eq_true.1 h.wr f (List.mem_of_getElem? hf)
    have hwk := wrA_all (k := k) h.wr
    have hbd := chA_bd (c := 1) (by decide) (by decide) hwk
    have hnb := nxI_bd hbd.1 hfw
    obtain ⟨⟨h2, h3⟩, h4, h5⟩ := wrF_iff.1 hfw
    have htk : fs.take (k + 1) = fs.take k ++ [f] := by rw [List.take_add_one, hf]; rfl
    have hs1 : (trT 1 (fs.take (k + 1))).length = (trT 1 (fs.take k)).length + (trN (chA 1 (fs.take k)) f).length := by rw [htk, trT_snoc, List.length_append]
    have hs2 : chA 1 (fs.take (k + 1)) = nxI (chA 1 (fs.take k)) f := by rw [htk, chA_snoc]
    have hT := trT_len (c := 1) (by decide) hwk
    have hNl := trN_len hbd.1 hfw
    have hrest : s.drop (trT 1 (fs.take k)).length = trL (chA 1 (fs.take k)) f ++ 10 :: (trT (nxI (chA 1 (fs.take k)) f) (fs.drop (k + 1)) ++ r) := by
      have hle : (trT 1 (fs.take k)).length ≤ (trT 1 fs).length := by
        have := trT_drop (c := 1) (fs := fs) (k := k)
        have h9 := congrArg List.length this
        have hdr : fs.drop k = f :: fs.drop (k + 1) := by obtain ⟨hk', rfl⟩ := List.getElem?_eq_some_iff.1 hf; exact List.drop_eq_getElem_cons hk'
        rw [hdr, trT, List.length_drop, List.length_append, trN, List.length_append, List.length_singleton] at h9
        omega
      have hdr : fs.drop k = f :: fs.drop (k + 1) := by obtain ⟨hk', rfl⟩ := List.getElem?_eq_some_iff.1 hf; exact List.drop_eq_getElem_cons hk'
      rw [h.txt, List.drop_append_of_le_length hle, trT_drop, hdr, trT, trN]
      simp
    have hsl : (trT 1 (fs.take k)).length ≤ s.length := by
      have h9 := congrArg List.length hrest
      rw [List.length_drop, List.length_append, List.length_cons] at h9
      omega
    have hC := cut_ac (s.drop (trT 1 (fs.take k)).length) [10] (by rw [List.length_drop]; omega)
    rw [show Lib.cut (s.drop (trT 1 (fs.take k)).length) [10] = (trL (chA 1 (fs.take k)) f, trT (nxI (chA 1 (fs.take k)) f) (fs.drop (k + 1)) ++ r, true) from by rw [hrest, cut_at (trL_no10 _ _)]] at hC
    have hW := isplit_frz (trL (chA 1 (fs.take k)) f) 32 (by simp only [trN, List.length_append, List.length_cons, List.length_nil] at hNl; omega)
    rw [spl_trL] at hW
    have hR1 := readNumber_ac (dec f.e.toNat) (by have := dec_len f.e.toNat (by omega); omega)
    have hR2 := readNumber_ac (dec f.t.toNat) (by have := dec_len f.t.toNat (by omega); omega)
    rw [rdN_dec (by omega), Int.toNat_of_nonneg h2] at hR1
    rw [rdN_dec (by omega), Int.toNat_of_nonneg h4] at hR2
    have hIW := isWritable_ac [⟨f.e, 0, f.t⟩] (by simp)
    have hwr1 : wrA [⟨f.e, 0, f.t⟩] = true := by
      have : wrF ⟨f.e, 0, f.t⟩ = true := hfw
      simp [wrA, this]
    rw [hwr1] at hIW
    have hLn := traceLine_ac (chA 1 (fs.take k)) ⟨f.e, 0, f.t⟩ hbd.1 hbd.2 hfw
    have e1 : trN (chA 1 (fs.take k)) ⟨f.e, 0, f.t⟩ = trL (chA 1 (fs.take k)) f ++ [10] := rfl
    have e2 : nxI (chA 1 (fs.take k)) ⟨f.e, 0, f.t⟩ = nxI (chA 1 (fs.take k)) f := rfl
    rw [e1, e2] at hLn
    have hcl := cnt_le (fs.take k) f.e
    have hfn := h.num k f hf
    have hol : ((fs.take k).map Fi.row).length = (fs.take k).length := FL_len
    have hNt : trN (chA 1 (fs.take k)) f = trL (chA 1 (fs.take k)) f ++ [10] := rfl
    rw [hNt, List.length_append, List.length_singleton] at hNl hs1
    generalize trT (nxI (chA 1 (fs.take k)) f) (fs.drop (k + 1)) ++ r = rest at *
    generalize hch : chA 1 (fs.take k) = ch at *
    clear hrest e1 e2 hNt
    generalize trL ch f = l0 at *
    generalize nxI ch f = nx at *
    obtain ⟨fe, fn, ft⟩ := f
    simp only at *
    obtain ⟨e, rfl⟩ : ∃ e : Nat, fe = e := ⟨fe.toNat, by omega⟩
    subst hfn
    have hg1 := IO_get (cnts_get (fs := fs.take k) (e := e) (by omega))
    have hst := IO_set (cnts_set (fs := fs.take k) (e := e) (n := (cnt (fs.take k) e : Int) + 1) (t := ft) (by omega))
    have hg2 : (IO (cnts (fs.take (k + 1)))).rows[0 + ((e : Nat) : Int).toNat]? = some [I ((cnt (fs.take k) e : Int) + 1)] := by
      rw [htk, ← hst, List.getElem?_set, if_pos rfl, if_pos (List.getElem?_eq_some_iff.1 hg1).1]
    rw [← htk] at hst
    have hl10 : (l0 ++ [10]).length = l0.length + 1 := by simp
    generalize trT 1 (fs.take k) = tx at *
    generalize cnt (fs.take k) e = q at *
    generalize hc0 : cnts (fs.take k) = c0 at *
    generalize hc1 : cnts (fs.take (k + 1)) = c1 at *
    repeat' (first | ((first | apply Ba | (apply Bb; (· rfl); (· rfl)) | (apply Bc; (· exact nxE)) | (apply Bd; (· rfl); (· rfl); (· exact nxE))); (· first | exact Ok.sFrom (a := s) (j := tx.length) rfl rfl rfl rfl (by omega) | exact Kz rfl rfl (hC) (Ad (Ad An)) | exact Kz rfl rfl (hW) (Ad (Ad An)) | exact Kz rfl rfl (hR1) (Ad An) | exact Kz rfl rfl (hR2) (Ad An) | exact Ez rfl rfl (hIW) (Sw Sn) | exact Kz rfl rfl (hLn) (Aa (Ad (Ad (Ad An))) (Ad An)) | exact Ok.sjoin (a := l0) (b := [10]) rfl rfl rfl (by simp only [List.length_cons, List.length_nil]; omega) | exact OpOk.loadCell rfl rfl rfl rfl hg1 rfl | exact OpOk.loadCell rfl rfl rfl rfl hg2 rfl | exact Ok.sneSame rfl rfl rfl | exact Ok.seqS rfl rfl rfl | exact Ok.slen rfl rfl | exact OpOk.indexD rfl rfl rfl (by decide) rfl (by exact Nat.zero_lt_one) | exact Ok.storeC rfl rfl rfl rfl hg1 (by exact Nat.zero_lt_one) rfl rfl rfl hst | exact Ok.append1 (row := Fi.row ⟨e, (q : Int) + 1, ft⟩) rfl rfl (by decide) rfl rfl hol rfl rfl rfl (by rfl) (by omega) (by omega) | exact Ok.pe)) | ((first | apply Ca | (apply Cb; (· exact nxE))); (· first | exact Ok.storeC rfl rfl rfl rfl hg1 (by exact Nat.zero_lt_one) rfl rfl rfl hst | exact Ok.append1 (row := Fi.row ⟨e, (q : Int) + 1, ft⟩) rfl rfl (by decide) rfl rfl hol rfl rfl rfl (by rfl) (by omega) (by omega) | exact Ok.e0)) | refine Sx ?_ | (refine Sy (fun h => ?_) (fun h => ?_) <;> try (exfalso; omega; done)) | refine Sz (fun h => ?_) (fun h => ?_))
    refine ⟨⟨k + 1, by omega⟩, ?_, by simp only; omega⟩
    (apply Le.headZ [_, _] rfl)
    all_goals (try dsimp only [srcs])
    (case' hfr | hob => (repeat' (first | refine La ?_ ?_ | exact Lc | refine Lo ?_ | refine ⟨⟨_, rfl, ?_⟩, ?_⟩ | refine Lx ?_)))
    all_goals (first | ((first | (rw [hs2]; done) | (rw [hs1]; omega) | (rw [hc1]; rfl) | (rw [htk, List.length_append, List.length_singleton]; done) | (rw [htk, List.map_append]; rfl) | (rw [htk]; simp; done))) | exact Ld)
  · obtain rfl : k = fs.length := by omega
    rw [List.take_length] at hTL ⊢
    have hT := trT_len (c := 1) (by decide) h.wr
    have hbd := chA_bd (c := 1) (by decide) (by decide) h.wr
    have hol : (fs.map Fi.row).length = fs.length := FL_len
    generalize hc0 : cnts fs = c0 at *
    by_cases h500 : fs.length < 500
    case neg =>
      repeat' (first | ((first | apply Ba | (apply Bb; (· rfl); (· rfl)) | (apply Bc; (· exact nxE)) | (apply Bd; (· rfl); (· rfl); (· exact nxE))); (· first | exact Ok.lenD rfl rfl hTL | exact Ok.sneSame rfl rfl rfl | exact Ok.seqS rfl rfl rfl | exact Ok.slen rfl rfl | exact OpOk.indexD rfl rfl rfl (by decide) rfl (by exact Nat.zero_lt_one) | exact Ok.pe)) | ((first | apply Ca | (apply Cb; (· exact nxE))); (· first | exact Ok.e0)) | refine Sx ?_ | (refine Sy (fun h => ?_) (fun h => ?_) <;> try (exfalso; omega; done)) | refine Sz (fun h => ?_) (fun h => ?_))
      all_goals
        refine Yb ?_
        (apply Le.head [(⟨0, []⟩, _, _)])
        (case' hfr | hob => (repeat' (first | refine La ?_ ?_ | exact Lc | refine Lo ?_ | refine ⟨⟨_, rfl, ?_⟩, ?_⟩ | refine Lx ?_)))
        all_goals (first | exact Ld | (rfl))
    have hdr : s.drop (trT 1 fs).length = r := by rw [h.txt, List.drop_left]
    have hsl : (trT 1 fs).length ≤ s.length := by omega
    have hC := cut_ac (s.drop (trT 1 fs).length) [10] (by rw [hdr]; omega)
    rcases first_byte 10 r with h1 | ⟨a, b, rfl, h1⟩
    · rw [show Lib.cut (s.drop (trT 1 fs).length) [10] = (r, [], false) from by rw [hdr]; exact cut_no h1] at hC
      have hW := isplit_frz r 32 (by omega)
      generalize spl 32 r = ws at *
      generalize trT 1 fs = tx at *
      repeat' (first | ((first | apply Ba | (apply Bb; (· rfl); (· rfl)) | (apply Bc; (· exact nxE)) | (apply Bd; (· rfl); (· rfl); (· exact nxE))); (· first | exact Ok.sFrom (a := s) (j := tx.length) rfl rfl rfl rfl (by omega) | exact Kz rfl rfl (hC) (Ad (Ad An)) | exact Kz rfl rfl (hW) (Ad (Ad An)) | exact Ok.sneSame rfl rfl rfl | exact Ok.seqS rfl rfl rfl | exact Ok.slen rfl rfl | exact OpOk.indexD rfl rfl rfl (by decide) rfl (by exact Nat.zero_lt_one) | exact Ok.pe)) | ((first | apply Ca | (apply Cb; (· exact nxE))); (· first | exact Ok.e0)) | refine Sx ?_ | (refine Sy (fun h => ?_) (fun h => ?_) <;> try (exfalso; omega; done)) | refine Sz (fun h => ?_) (fun h => ?_))
      all_goals
        refine Yb ?_
        (apply Le.head [(⟨0, []⟩, _, _)])
        (case' hfr | hob => (repeat' (first | refine La ?_ ?_ | exact Lc | refine Lo ?_ | refine ⟨⟨_, rfl, ?_⟩, ?_⟩ | refine Lx ?_)))
        all_goals (first | exact Ld | (rfl))
    have hal : a.length ≤ 1999999 := by simp only [List.length_append, List.length_cons] at hlenS; omega
    rw [show Lib.cut (s.drop (trT 1 fs).length) [10] = (a, b, true) from by rw [hdr, cut_at h1]] at hC
    have hW := isplit_frz a 32 (by omega)
    have hwe : ∀ w ∈ spl 32 a, w.length ≤ 100000000 := fun w hw => by have := spl_mem_len hw; omega
    by_cases h3 : (spl 32 a).length = 3
    case neg =>
      generalize spl 32 a = ws at *
      generalize trT 1 fs = tx at *
      have hwn : (stR ws).length = ws.length := stR_len ws
      repeat' (first | ((first | apply Ba | (apply Bb; (· rfl); (· rfl)) | (apply Bc; (· exact nxE)) | (apply Bd; (· rfl); (· rfl); (· exact nxE))); (· first | exact Ok.sFrom (a := s) (j := tx.length) rfl rfl rfl rfl (by omega) | exact Kz rfl rfl (hC) (Ad (Ad An)) | exact Kz rfl rfl (hW) (Ad (Ad An)) | exact Ok.sneSame rfl rfl rfl | exact Ok.seqS rfl rfl rfl | exact Ok.slen rfl rfl | exact OpOk.indexD rfl rfl rfl (by decide) rfl (by exact Nat.zero_lt_one) | exact Ok.pe)) | ((first | apply Ca | (apply Cb; (· exact nxE))); (· first | exact Ok.e0)) | refine Sx ?_ | (refine Sy (fun h => ?_) (fun h => ?_) <;> try (exfalso; omega; done)) | refine Sz (fun h => ?_) (fun h => ?_))
      all_goals
        refine Yb ?_
        (apply Le.head [(⟨0, []⟩, _, _)])
        (case' hfr | hob => (repeat' (first | refine La ?_ ?_ | exact Lc | refine Lo ?_ | refine ⟨⟨_, rfl, ?_⟩, ?_⟩ | refine Lx ?_)))
        all_goals (first | exact Ld | (rfl))
    obtain ⟨x, y, z, hx⟩ : ∃ x y z, spl 32 a = [x, y, z] := by
      generalize spl 32 a = ws at h3
      match ws, h3 with
      | [x, y, z], _ => exact ⟨x, y, z, rfl⟩
    rw [hx] at hW hwe
    have hR1 := readNumber_ac x (hwe x (by simp))
    have hR2 := readNumber_ac y (hwe y (by simp))
    obtain ⟨⟨n0, b0⟩, hn0⟩ : ∃ v, rdN x = v := ⟨_, rfl⟩
    obtain ⟨⟨n1, b1⟩, hn1⟩ : ∃ v, rdN y = v := ⟨_, rfl⟩
    rw [hn0] at hR1
    rw [hn1] at hR2
    simp only at hR1 hR2
    have hIW := isWritable_ac [⟨n0, 0, n1⟩] (by simp)
    have hwr1 : wrA [⟨n0, 0, n1⟩] = wrF ⟨n0, 0, n1⟩ := by simp [wrA]
    rw [hwr1] at hIW
    cases hfw : wrF ⟨n0, 0, n1⟩ with
    | false =>
      rw [hfw] at hIW
      generalize trT 1 fs = tx at *
      cases b0 <;> cases b1
      all_goals
        repeat' (first | ((first | apply Ba | (apply Bb; (· rfl); (· rfl)) | (apply Bc; (· exact nxE)) | (apply Bd; (· rfl); (· rfl); (· exact nxE))); (· first | exact Ok.sFrom (a := s) (j := tx.length) rfl rfl rfl rfl (by omega) | exact Kz rfl rfl (hC) (Ad (Ad An)) | exact Kz rfl rfl (hW) (Ad (Ad An)) | exact Kz rfl rfl (hR1) (Ad An) | exact Kz rfl rfl (hR2) (Ad An) | exact Ez rfl rfl (hIW) (Sw Sn) | exact Ok.sneSame rfl rfl rfl | exact Ok.seqS rfl rfl rfl | exact Ok.slen rfl rfl | exact OpOk.indexD rfl rfl rfl (by decide) rfl (by exact Nat.zero_lt_one) | exact Ok.pe)) | ((first | apply Ca | (apply Cb; (· exact nxE))); (· first | exact Ok.e0)) | refine Sx ?_ | (refine Sy (fun h => ?_) (fun h => ?_) <;> try (exfalso; omega; done)) | refine Sz (fun h => ?_) (fun h => ?_))
      all_goals
        refine Yb ?_
        (apply Le.head [(⟨0, []⟩, _, _)])
        (case' hfr | hob => (repeat' (first | refine La ?_ ?_ | exact Lc | refine Lo ?_ | refine ⟨⟨_, rfl, ?_⟩, ?_⟩ | refine Lx ?_)))
        all_goals (first | exact Ld | (rfl))
    | true =>
      rw [hfw] at hIW
      have hLn := traceLine_ac (chA 1 fs) ⟨n0, 0, n1⟩ hbd.1 hbd.2 hfw
      have hne : trN (chA 1 fs) ⟨n0, 0, n1⟩ ≠ a ++ [10] := fun he => h.stop h500 _ hfw b (by rw [he]; simp)
      have hNl := trN_len hbd.1 hfw
      generalize trT 1 fs = tx at *
      generalize trN (chA 1 fs) ⟨n0, 0, n1⟩ = l0 at *
      generalize nxI (chA 1 fs) ⟨n0, 0, n1⟩ = nx at *
      generalize chA 1 fs = ch at *
      cases b0 <;> cases b1
      all_goals
        repeat' (first | ((first | apply Ba | (apply Bb; (· rfl); (· rfl)) | (apply Bc; (· exact nxE)) | (apply Bd; (· rfl); (· rfl); (· exact nxE))); (· first | exact Ok.sFrom (a := s) (j := tx.length) rfl rfl rfl rfl (by omega) | exact Kz rfl rfl (hC) (Ad (Ad An)) | exact Kz rfl rfl (hW) (Ad (Ad An)) | exact Kz rfl rfl (hR1) (Ad An) | exact Kz rfl rfl (hR2) (Ad An) | exact Ez rfl rfl (hIW) (Sw Sn) | exact Kz rfl rfl (hLn) (Aa (Ad (Ad (Ad An))) (Ad An)) | exact Ok.sjoin (a := a) (b := [10]) rfl rfl rfl (by simp only [List.length_cons, List.length_nil]; omega) | exact Ok.sneNe rfl rfl rfl hne | exact Ok.sneSame rfl rfl rfl | exact Ok.seqS rfl rfl rfl | exact Ok.slen rfl rfl | exact OpOk.indexD rfl rfl rfl (by decide) rfl (by exact Nat.zero_lt_one) | exact Ok.pe)) | ((first | apply Ca | (apply Cb; (· exact nxE))); (· first | exact Ok.e0)) | refine Sx ?_ | (refine Sy (fun h => ?_) (fun h => ?_) <;> try (exfalso; omega; done)) | refine Sz (fun h => ?_) (fun h => ?_))
      all_goals
        refine Yb ?_
        (apply Le.head [(⟨0, []⟩, _, _)])
        (case' hfr | hob => (repeat' (first | refine La ?_ ?_ | exact Lc | refine Lo ?_ | refine ⟨⟨_, rfl, ?_⟩, ?_⟩ | refine Lx ?_)))
        all_goals (first | exact Ld | (rfl))
end Go.Proofs.YtofakjlamoigcaaGreatDoor
