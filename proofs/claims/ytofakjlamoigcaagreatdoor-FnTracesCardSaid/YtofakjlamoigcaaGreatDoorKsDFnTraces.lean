/-
  The law FnTraces, in the abstract reading.
-/
import Derived.Test.YtofakjlamoigcaaGreatDoorKsU9
namespace Go.Proofs.YtofakjlamoigcaaGreatDoor
set_option linter.unusedSimpArgs false
set_option linter.unusedVariables false
open Go Go.RowKit
attribute [local irreducible] AL AD AW OpOk Le AC thenQ blockQ EndQ

set_option maxRecDepth 100000 in
set_option maxHeartbeats 8000000 in
theorem traces_bad [Mode] [HasTab] [HasErr] [HasLen] (code : List Int) (fs gs : List Fi) (T s : List UInt8) (c b cs : Int) (hb : b ≠ 0) (hgs : gs.length ≤ 1000)
    (hBig : AC Tryz.prog 6 [.d (BD code)] H0 (Bo false) H0)
    (hG1 : AC Tryz.prog 7 [.d (BD code)] H0 (FL fs) H0)
    (hG2 : AC Tryz.prog 12 [.d (BD code)] H0 (Str s) H0)
    (hI1 : AC Tryz.prog 8 [FL fs] H0 (.tup [Str T, I b]) H0)
    (hS1 : AC Tryz.prog 9 [FL fs] H0 (.tup [Str T, I b]) H0)
    (hI2 : AC Tryz.prog 10 [FL fs] H0 (.tup [I c, I b]) H0)
    (hS2 : AC Tryz.prog 11 [FL fs] H0 (.tup [I c, I b]) H0)
    (hI3 : AC Tryz.prog 13 [Str s] H0 (.tup [FL gs, I cs]) H0)
    (hS3 : AC Tryz.prog 14 [Str s] H0 (.tup [FL gs, I cs]) H0)
    (hL : AC Tryz.prog 15 [FL gs, FL gs] H0 (Bo true) H0) : AC Tryz.prog 3 [.d (BD code)] H0 (Bo true) H0 := by
  refine AC.of_body 0 Tryz.func3 rfl (fun l h => absurd rfl h) (fun C hC => ?_)
  have hD : ∀ l, ¬ C.D0 l := fun l h => (hC l).1 h rfl
  simp only [startFr, Tryz.ntmps3, List.length_cons, List.length_nil, Nat.reduceAdd, Nat.reduceSub, List.replicate_succ, List.replicate_zero, List.cons_append, List.nil_append]
  repeat' (first | ((first | apply Ba | (apply Bb; (· rfl); (· rfl)) | (apply Bc; (· exact nxE)) | (apply Bd; (· rfl); (· rfl); (· exact nxE))); (· first | exact Kz rfl rfl (hBig) (Ad An) | exact Kz rfl rfl (hG1) (Ad An) | exact Kz rfl rfl (hG2) (Ad An) | exact Kz rfl rfl (hI1) (Ad An) | exact Kz rfl rfl (hS1) (Ad An) | exact Kz rfl rfl (hI2) (Ad An) | exact Kz rfl rfl (hS2) (Ad An) | exact Kz rfl rfl (hI3) (Ad An) | exact Kz rfl rfl (hS3) (Ad An) | exact Kz rfl rfl (hL) (Ad (Ad An)) | exact Ok.slen rfl rfl | exact Ok.sneSame rfl rfl rfl | exact Ok.pe)) | ((first | apply Ca | (apply Cb; (· exact nxE))); (· first | exact Ok.e0)) | refine Sx ?_ | (refine Sy (fun h => ?_) (fun h => ?_) <;> try (exfalso; omega; done)) | refine Sz (fun h => ?_) (fun h => ?_))
  all_goals
    refine Ya ?_
    (apply Le.headZ (hs := []) [] rfl)
    all_goals (try dsimp only [srcs])
    (case' hfr => (repeat' (first | refine La ?_ ?_ | exact Lc | refine Lo ?_ | refine ⟨⟨_, rfl, ?_⟩, ?_⟩ | refine Lx ?_)))
    all_goals (first | exact Ld | exact trivial | (rfl))
set_option maxRecDepth 100000 in
set_option maxHeartbeats 16000000 in
theorem traces_ok [Mode] [HasTab] [HasErr] [HasLen] (code : List Int) (fs gs R : List Fi) (T s : List UInt8) (c cs : Int) (cut : Nat) (h1 i2 h2 : Int) (hfs : fs.length ≤ 502) (hTl : T.length ≤ 10000) (hcut : cut ≤ T.length) (hgs : gs.length ≤ 1000) (hc : 0 ≤ c ∧ c < 9973)
    (hRl : R.length = fs.length) (hRg : ∀ (k : Nat) f, fs[k]? = some f → ∃ n, R[k]? = some ⟨f.e, n, f.t⟩) (hLs : nls (T.take cut) ≤ fs.length)
    (hBig : AC Tryz.prog 6 [.d (BD code)] H0 (Bo false) H0)
    (hG1 : AC Tryz.prog 7 [.d (BD code)] H0 (FL fs) H0)
    (hG2 : AC Tryz.prog 12 [.d (BD code)] H0 (Str s) H0)
    (hI1 : AC Tryz.prog 8 [FL fs] H0 (.tup [Str T, I 0]) H0)
    (hS1 : AC Tryz.prog 9 [FL fs] H0 (.tup [Str T, I 0]) H0)
    (hI2 : AC Tryz.prog 10 [FL fs] H0 (.tup [I c, I 0]) H0)
    (hS2 : AC Tryz.prog 11 [FL fs] H0 (.tup [I c, I 0]) H0)
    (hI3 : AC Tryz.prog 13 [Str s] H0 (.tup [FL gs, I cs]) H0)
    (hS3 : AC Tryz.prog 14 [Str s] H0 (.tup [FL gs, I cs]) H0)
    (hL : AC Tryz.prog 15 [FL gs, FL gs] H0 (Bo true) H0)
    (hRo : AC Tryz.prog 16 [.d (BD code), U 2801] H0 (Bx 3 0) (hp1 (diO code 0 h1)))
    (hBe : AC Tryz.prog 17 [Bx 3 0, I ((T.length : Int) + 1)] (hp1 (diO code 0 h1)) (I cut) (hp1 (diO code i2 h2)))
    (hA : AC Tryz.prog 13 [Str T] H0 (.tup [FL R, I 0]) H0)
    (hB : AC Tryz.prog 13 [Str (T.take cut)] H0 (.tup [FL (R.take (nls (T.take cut))), I 0]) H0)
    (hL2 : AC Tryz.prog 15 [FL (R.take (nls (T.take cut))), FL (R.take (nls (T.take cut)))] H0 (Bo true) H0) : AC Tryz.prog 3 [.d (BD code)] H0 (Bo true) H0 := by
  have hfl : (fs.map Fi.row).length = fs.length := FL_len
  have hRl2 : (R.map Fi.row).length = fs.length := by rw [FL_len, hRl]
  refine AC.of_body 0 Tryz.func3 rfl (fun l h => absurd rfl h) (fun C hC => ?_)
  have hD : ∀ l, ¬ C.D0 l := fun l h => (hC l).1 h rfl
  simp only [startFr, Tryz.ntmps3, List.length_cons, List.length_nil, Nat.reduceAdd, Nat.reduceSub, List.replicate_succ, List.replicate_zero, List.cons_append, List.nil_append]
  repeat' (first | ((first | apply Ba | (apply Bb; (· rfl); (· rfl)) | (apply Bc; (· exact nxE)) | (apply Bd; (· rfl); (· rfl); (· exact nxE))); (· first | exact Kz rfl rfl (hBig) (Ad An) | exact Kz rfl rfl (hG1) (Ad An) | exact Kz rfl rfl (hG2) (Ad An) | exact Kz rfl rfl (hI1) (Ad An) | exact Kz rfl rfl (hS1) (Ad An) | exact Kz rfl rfl (hI2) (Ad An) | exact Kz rfl rfl (hS2) (Ad An) | exact Kz rfl rfl (hI3) (Ad An) | exact Kz rfl rfl (hS3) (Ad An) | exact Kz rfl rfl (hL) (Ad (Ad An)) | exact Ok.slen rfl rfl | exact Ok.sneSame rfl rfl rfl | exact Fo hRo rfl rfl rfl ⟨_, rfl⟩ rfl | exact Ol hBe rfl rfl rfl rfl rfl | exact Ok.pe)) | ((first | apply Ca | (apply Cb; (· exact nxE))); (· first | exact Fo hRo rfl rfl rfl ⟨_, rfl⟩ rfl | exact Ol hBe rfl rfl rfl rfl rfl | exact Ok.e0)) | refine Sx ?_ | (refine Sy (fun h => ?_) (fun h => ?_) <;> try (exfalso; omega; done)) | refine Sz (fun h => ?_) (fun h => ?_))
  refine AW.loop (X := {k : Nat // k ≤ cut}) (fun k => ⟨[Oo, Oo, Oo, FL fs, Str T, Oo, Oo, Oo, I c, Oo, Oo, Oo, Oo, Oo, Oo, Oo, Oo, I cut, I (nls (T.take (k.1 : Nat)) : Nat), I (k.1 : Nat), Oo, Oo, Oo, Oo, Oo, Oo, Oo, Oo, Oo, Oo, Oo, Oo, Oo, Oo, Oo, Oo, Oo, Oo, Oo, Oo, Oo, Oo, Oo, Oo, Oo, Oo, Oo, Oo, Oo, Oo, Oo, Oo, Oo, Oo, Oo, Oo, Oo, Oo, Oo, Oo, Oo, Oo, Oo, Oo, Oo, Oo, Oo, Oo, Oo, Oo, Oo, Oo, Oo, Oo, Oo, Oo, Oo, Oo, Oo, Oo, Oo, Oo, Oo, Oo, Oo, Oo, Oo, Oo, Oo, Oo, Oo, Oo, Oo, Oo, Oo, Oo, Oo, Oo, Oo, Oo, Oo, Oo, Oo, Oo, Oo, Oo, Oo, Oo, Oo, Oo, Oo, Oo, Oo, Oo, Oo, Oo, Oo, Oo, Oo, Oo, Oo, Oo, Oo, Oo, Oo, Oo, Oo, Oo, Oo, Oo, Oo, Oo, Oo, Oo, Oo, Oo, Oo, Oo, Oo, Oo, Oo, Oo, Oo, Oo, Oo, Oo, Oo, Oo, Oo, Oo, Oo, Oo, Oo, Oo, Oo, Oo, Oo, Oo, Oo, Oo, Oo, Oo, Oo, Oo, Oo, Oo, Oo, Oo, Oo, Oo, Oo, Oo, Oo, Oo, Oo, Oo, Oo, Oo, Oo, Oo, Oo, Oo, Oo], heapL [], 900⟩) (fun k => cut - k.1) ⟨0, Nat.zero_le _⟩ ?_ (fun k => ?_)
  ·
    (apply Le.headZ [] rfl)
    all_goals (try dsimp only [srcs])
    (case' hfr | hob => (repeat' (first | refine La ?_ ?_ | exact Lc | refine Lo ?_ | refine ⟨⟨_, rfl, ?_⟩, ?_⟩ | refine Lx ?_)))
    all_goals (first | (rfl) | exact Ld)
  obtain ⟨k, hk⟩ := k
  simp only
  by_cases hlt : k < cut
  · obtain ⟨x, hx⟩ : ∃ x, T[k]? = some x := ⟨T[k]'(by omega), List.getElem?_eq_getElem (by omega)⟩
    have hxI : T[((k : Nat) : Int).toNat]? = some x := by rw [Int.toNat_natCast]; exact hx
    have hst : nls (T.take (k + 1)) = nls (T.take k) + if x = 10 then 1 else 0 := by rw [List.take_add_one, hx]; exact nls_snoc _ _
    have hnl : nls (T.take k) ≤ 10000 := by
      have h9 : nls (T.take k) ≤ (T.take k).length := List.countP_le_length
      rw [List.length_take] at h9; omega
    by_cases h10 : x = 10
    · rw [if_pos h10] at hst
      have hstI : ((nls (T.take (k + 1)) : Nat) : Int) = (nls (T.take k) : Int) + 1 := by omega
      subst h10
      repeat' (first | ((first | apply Ba | (apply Bb; (· rfl); (· rfl)) | (apply Bc; (· exact nxE)) | (apply Bd; (· rfl); (· rfl); (· exact nxE))); (· first | exact Ok.sidx (c := 10) rfl rfl rfl (by omega) hxI | exact Ok.slen rfl rfl | exact Ok.sneSame rfl rfl rfl | exact Ok.pe)) | ((first | apply Ca | (apply Cb; (· exact nxE))); (· first | exact Ok.e0)) | refine Sx ?_ | (refine Sy (fun h => ?_) (fun h => ?_) <;> try (exfalso; omega; done)) | refine Sz (fun h => ?_) (fun h => ?_))
      refine ⟨⟨k + 1, by omega⟩, ?_, by simp only; omega⟩
      (apply Le.headZ [] rfl)
      all_goals (try dsimp only [srcs])
      (case' hfr | hob => (repeat' (first | refine La ?_ ?_ | exact Lc | refine Lo ?_ | refine ⟨⟨_, rfl, ?_⟩, ?_⟩ | refine Lx ?_)))
      all_goals (first | ((rw [hstI]; done)) | exact Ld)
    · rw [if_neg h10, Nat.add_zero] at hst
      have hn2 : ¬((x.toNat : Int) = 10) := fun e => h10 (UInt8.toNat_inj.1 (by simpa using (by omega : x.toNat = 10)))
      repeat' (first | ((first | apply Ba | (apply Bb; (· rfl); (· rfl)) | (apply Bc; (· exact nxE)) | (apply Bd; (· rfl); (· rfl); (· exact nxE))); (· first | exact Ok.sidx (c := x) rfl rfl rfl (by omega) hxI | exact Ok.slen rfl rfl | exact Ok.sneSame rfl rfl rfl | exact Ok.pe)) | ((first | apply Ca | (apply Cb; (· exact nxE))); (· first | exact Ok.e0)) | refine Sx ?_ | (refine Sy (fun h => ?_) (fun h => ?_) <;> try (exfalso; omega; done)) | refine Sz (fun h => ?_) (fun h => ?_))
      refine ⟨⟨k + 1, by omega⟩, ?_, by simp only; omega⟩
      (apply Le.headZ [] rfl)
      all_goals (try dsimp only [srcs])
      (case' hfr | hob => (repeat' (first | refine La ?_ ?_ | exact Lc | refine Lo ?_ | refine ⟨⟨_, rfl, ?_⟩, ?_⟩ | refine Lx ?_)))
      all_goals (first | ((rw [hst]; done)) | exact Ld)
  obtain rfl : k = cut := by omega
  have hLl : (R.take (nls (T.take k))).length ≤ 1000 := by rw [List.length_take]; omega
  generalize hLg : nls (T.take k) = L at *
  generalize hTg : T.take k = T2 at *
  repeat' (first | ((first | apply Ba | (apply Bb; (· rfl); (· rfl)) | (apply Bc; (· exact nxE)) | (apply Bd; (· rfl); (· rfl); (· exact nxE))); (· first | exact Kz rfl rfl (hA) (Ad An) | exact Ok.sToR (j := k) hTg (by omega) rfl rfl rfl rfl | exact Kz rfl rfl (hB) (Ad An) | exact Ok.lenD rfl rfl hfl | exact Ok.lenD rfl rfl hRl2 | exact Ok.sliceTk (row := Fi.row) (m := L) rfl rfl rfl rfl (by omega) | exact Kz rfl rfl (hL2) (Ad (Ad An)) | exact Ok.slen rfl rfl | exact Ok.sneSame rfl rfl rfl | exact Ok.pe)) | ((first | apply Ca | (apply Cb; (· exact nxE))); (· first | exact Ok.e0)) | refine Sx ?_ | (refine Sy (fun h => ?_) (fun h => ?_) <;> try (exfalso; omega; done)) | refine Sz (fun h => ?_) (fun h => ?_))
  refine AW.loop (X := {k : Nat // k ≤ fs.length}) (fun k => ⟨[Oo, Oo, Oo, FL fs, Oo, Oo, Oo, Oo, I c, Oo, Oo, Oo, Oo, Oo, Oo, Oo, Oo, Oo, Oo, Oo, FL R, Oo, Oo, Oo, I (k.1 : Nat), Oo, Oo, Oo, Oo, Oo, Oo, Oo, Oo, Oo, Oo, Oo, Oo, Oo, Oo, Oo, Oo, Oo, Oo, Oo, Oo, Oo, Oo, Oo, Oo, Oo, Oo, Oo, Oo, Oo, Oo, Oo, Oo, Oo, Oo, Oo, Oo, Oo, Oo, Oo, Oo, Oo, Oo, Oo, Oo, Oo, Oo, Oo, Oo, Oo, Oo, Oo, Oo, Oo, Oo, Oo, Oo, Oo, Oo, Oo, Oo, Oo, Oo, Oo, Oo, Oo, Oo, Oo, Oo, Oo, Oo, Oo, Oo, Oo, Oo, Oo, Oo, Oo, Oo, Oo, Oo, Oo, Oo, Oo, Oo, Oo, Oo, Oo, Oo, Oo, Oo, Oo, Oo, Oo, Oo, Oo, Oo, Oo, Oo, Oo, Oo, Oo, Oo, Oo, Oo, Oo, Oo, Oo, Oo, Oo, Oo, Oo, Oo, Oo, Oo, Oo, Oo, Oo, Oo, Oo, Oo, Oo, Oo, Oo, Oo, Oo, Oo, Oo, Oo, Oo, Oo, Oo, Oo, Oo, Oo, Oo, Oo, Oo, Oo, Oo, Oo, Oo, Oo, Oo, Oo, Oo, Oo, Oo, Oo, Oo, Oo, Oo, Oo, Oo, Oo, Oo, Oo, Oo, Oo], heapL [], 900⟩) (fun k => fs.length - k.1) ⟨0, Nat.zero_le _⟩ ?_ (fun k => ?_)
  ·
    (apply Le.headZ [] rfl)
    all_goals (try dsimp only [srcs])
    (case' hfr | hob => (repeat' (first | refine La ?_ ?_ | exact Lc | refine Lo ?_ | refine ⟨⟨_, rfl, ?_⟩, ?_⟩ | refine Lx ?_)))
    all_goals (first | (rfl) | exact Ld)
  obtain ⟨j, hj⟩ := k
  simp only
  by_cases hjl : j < fs.length
  · obtain ⟨f, hf⟩ : ∃ f, fs[j]? = some f := ⟨fs[j], List.getElem?_eq_getElem hjl⟩
    obtain ⟨n, hg⟩ := hRg j f hf
    have hrow : (fs.map Fi.row)[((j : Nat) : Int).toNat]? = some [DI f.e, DI f.n, DI f.t] := row_get hf
    have hrow2 : (R.map Fi.row)[((j : Nat) : Int).toNat]? = some [DI f.e, DI n, DI f.t] := row_get (row := Fi.row) hg
    repeat' (first | ((first | apply Ba | (apply Bb; (· rfl); (· rfl)) | (apply Bc; (· exact nxE)) | (apply Bd; (· rfl); (· rfl); (· exact nxE))); (· first | exact Ok.lenD rfl rfl hRl2 | exact Ok.slen rfl rfl | exact Ok.sneSame rfl rfl rfl | exact Ok.pe)) | ((first | apply Ca | (apply Cb; (· exact nxE))); (· first | exact Ok.e0)) | refine Sx ?_ | (refine Sy (fun h => ?_) (fun h => ?_) <;> try (exfalso; omega; done)) | refine Sz (fun h => ?_) (fun h => ?_))
    refine ⟨⟨j + 1, by omega⟩, ?_, by simp only; omega⟩
    (apply Le.headZ [] rfl)
    all_goals (try dsimp only [srcs])
    (case' hfr | hob => (repeat' (first | refine La ?_ ?_ | exact Lc | refine Lo ?_ | refine ⟨⟨_, rfl, ?_⟩, ?_⟩ | refine Lx ?_)))
    all_goals (first | (rfl) | exact Ld)
  · obtain rfl : j = fs.length := by omega
    repeat' (first | ((first | apply Ba | (apply Bb; (· rfl); (· rfl)) | (apply Bc; (· exact nxE)) | (apply Bd; (· rfl); (· rfl); (· exact nxE))); (· first | exact Ok.lenD rfl rfl hRl2 | exact Ok.slen rfl rfl | exact Ok.sneSame rfl rfl rfl | exact Ok.pe)) | ((first | apply Ca | (apply Cb; (· exact nxE))); (· first | exact Ok.e0)) | refine Sx ?_ | (refine Sy (fun h => ?_) (fun h => ?_) <;> try (exfalso; omega; done)) | refine Sz (fun h => ?_) (fun h => ?_))
    all_goals
      refine Ya ?_
      (apply Le.headZ (hs := []) [] rfl)
      all_goals (try dsimp only [srcs])
      (case' hfr => (repeat' (first | refine La ?_ ?_ | exact Lc | refine Lo ?_ | refine ⟨⟨_, rfl, ?_⟩, ?_⟩ | refine Lx ?_)))
      all_goals (first | exact Ld | exact trivial | (exact (decide_eq_true hc.2).symm))
set_option maxHeartbeats 1000000 in
set_option maxRecDepth 100000 in
theorem lawFnTraces_ac [Mode] [HasTab] [HasErr] [HasLen] (code : List Int) (hl : code.length ≤ 9223372036854775807) (hb : ∀ b ∈ code, 0 ≤ b ∧ b ≤ 255) : AC Tryz.prog 3 [.d (BD code)] H0 (Bo true) H0 := by
  have hBig := big_ac code hl
  by_cases hbig : 4096 < (code.length : Int)
  ·
    refine AC.of_body 0 Tryz.func3 rfl (fun l h => absurd rfl h) (fun C hC => ?_)
    have hD : ∀ l, ¬ C.D0 l := fun l h => (hC l).1 h rfl
    simp only [startFr, Tryz.ntmps3, List.length_cons, List.length_nil, Nat.reduceAdd, Nat.reduceSub, List.replicate_succ, List.replicate_zero, List.cons_append, List.nil_append]
    repeat' (first | ((first | apply Ba | (apply Bb; (· rfl); (· rfl)) | (apply Bc; (· exact nxE)) | (apply Bd; (· rfl); (· rfl); (· exact nxE))); (· first | exact Kz rfl rfl (hBig) (Ad An) | exact Ok.slen rfl rfl | exact Ok.sneSame rfl rfl rfl | exact Ok.pe)) | ((first | apply Ca | (apply Cb; (· exact nxE))); (· first | exact Ok.e0)) | refine Sx ?_ | (refine Sy (fun h => ?_) (fun h => ?_) <;> try (exfalso; omega; done)) | refine Sz (fun h => ?_) (fun h => ?_))
    refine Ya ?_
    (apply Le.headZ (hs := []) [] rfl)
    all_goals (try dsimp only [srcs])
    (case' hfr => (repeat' (first | refine La ?_ ?_ | exact Lc | refine Lo ?_ | refine ⟨⟨_, rfl, ?_⟩, ?_⟩ | refine Lx ?_)))
    all_goals (first | exact Ld | exact trivial | (rfl))
  have hc : CodeOk code := ⟨by omega, hb⟩
  rw [decide_eq_false hbig] at hBig
  obtain ⟨fs, hfs, hG1⟩ := drawTraceText_ex code hc
  obtain ⟨s, hsl, hG2⟩ := drawRecoverTrace_ex code hc
  obtain ⟨gs, r, hr⟩ := rec_ex s
  have hgl := hr.len
  have hI1 := iTraceText_ac fs (by omega)
  have hS1 := sTraceText_ac fs (by omega)
  have hI2 := iChainAfter_ac fs (by omega)
  have hS2 := sChainAfter_ac fs (by omega)
  have hI3 := iRecoverTrace_frz s gs r hr (by omega)
  have hS3 := sRecoverTrace_ac s gs r hr (by omega)
  have hgl2 : (rtL s gs).length ≤ 1000 := by
    unfold rtL
    split
    · simp
    · omega
  have hL := likeRuns9_refl (rtL s gs) (by omega)
  cases hw : wrA fs with
  | false =>
    have e : wrC fs = 2 := by unfold wrC; rw [hw]; rfl
    rw [e] at hI1 hS1 hI2 hS2
    exact traces_bad code fs _ _ s _ 2 _ (by decide) hgl2 hBig hG1 hG2 hI1 hS1 hI2 hS2 hI3 hS3 hL
  | true =>
    have e : wrC fs = 0 := by unfold wrC; rw [hw]; rfl
    have e2 : ttT fs = trT 1 fs := by unfold ttT; rw [hw]; rfl
    have e3 : caC fs = chA 1 fs := by unfold caC; rw [hw]; rfl
    rw [e, e2] at hI1 hS1
    rw [e, e3] at hI2 hS2
    have hTl := trace_short hw
    obtain ⟨q0, i2, h2, q1, q2, hBe⟩ := below_ex code hc (rollT code code.length) (((trT 1 fs).length : Int) + 1) (by omega)
    obtain ⟨q, rfl⟩ : ∃ q : Nat, q0 = q := ⟨q0.toNat, by omega⟩
    obtain ⟨r2, hLs, hcr⟩ := rec_cut hw q
    have hA := iRecoverTrace_frz (trT 1 fs) (rnm fs) [] (rec_trace hw) (by omega)
    have hB := iRecoverTrace_frz ((trT 1 fs).take q) _ r2 hcr (by rw [List.length_take]; omega)
    rw [rtL, rtC, if_neg (by omega), if_neg (by omega)] at hA
    rw [rtL, rtC, if_neg (by rw [List.length_take]; omega), if_neg (by rw [List.length_take]; omega)] at hB
    have hcb := chA_bd (c := 1) (by decide) (by decide) (wrA_iff.1 hw).1
    exact traces_ok code fs _ (rnm fs) (trT 1 fs) s (chA 1 fs) _ q _ i2 h2 hfs hTl (by omega) hgl2 hcb (rnm_len fs) (fun k f hf => ⟨_, rnm_get hf⟩) hLs hBig hG1 hG2 hI1 hS1 hI2 hS2 hI3 hS3 hL (rollT_ac code hc) hBe hA hB (likeRuns9_refl _ (by rw [List.length_take, rnm_len]; omega))
end Go.Proofs.YtofakjlamoigcaaGreatDoor
