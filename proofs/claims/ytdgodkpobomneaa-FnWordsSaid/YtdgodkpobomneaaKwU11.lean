/-
  Walks in the abstract reading, part 11.
-/
import Derived.Test.YtdgodkpobomneaaKwU10
import Derived.Test.YtdgodkpobomneaaKwU5
import Derived.Test.YtdgodkpobomneaaKwA3
section
namespace Go.Proofs.Ytdgodkpobomneaa
set_option linter.unusedSimpArgs false
set_option linter.unusedVariables false
open Go Go.RowKit
attribute [local irreducible] AL AD AW OpOk Le AC thenQ blockQ EndQ

theorem sSumOf_ac [Mode] (x : List Int) (hx : x.length ≤ 100) (hv : x.all isVal = true) : AC Try.prog 107 [IL x] H0 (.tup [I (mxL x), I 0]) H0 := by
  have hA := l01AllF_ac x (by omega)
  rw [hv] at hA
  have hxr : (IR x).length = x.length := IR_len
  refine AC.of_body 0 Try.func107 rfl (fun l h => absurd rfl h) (fun C hC => ?_)
  have hD : ∀ l, ¬ C.D0 l := fun l h => (hC l).1 h rfl
  simp only [startFr, Try.ntmps107, List.length_cons, List.length_nil, Nat.reduceAdd, Nat.reduceSub, List.replicate_succ, List.replicate_zero, List.cons_append, List.nil_append]
  repeat' (first | ((first | apply Ba | (apply Bb; (· rfl); (· rfl)) | (apply Bc; (· exact nxE)) | (apply Bd; (· rfl); (· rfl); (· exact nxE))); (· first | exact Ok.lenD rfl rfl hxr | exact Kz rfl rfl (hA) (Ad (Ad An)) | exact Ok.pe)) | ((first | apply Ca | (apply Cb; (· exact nxE))); (· first | exact Ok.e0)) | refine Sx ?_ | (refine Sy (fun h => ?_) (fun h => ?_) <;> try (exfalso; omega; done)) | refine Sz (fun h => ?_) (fun h => ?_))
  refine AW.loop (X := {k : Nat // k ≤ x.length}) (fun k => ⟨[IL x, Oo, Oo, Oo, I (mxL (x.take k.1)), I (k.1 : Nat), Oo, Oo, Oo, Oo, Oo, Oo, Oo, Oo, Oo, Oo, Oo, Oo, Oo, Oo, Oo, Oo, Oo, Oo, Oo], heapL [], 900⟩) (fun k => x.length - k.1) ⟨0, Nat.zero_le _⟩ ?_ (fun k => ?_)
  ·
    (apply Le.headZ [] rfl)
    all_goals (try dsimp only [srcs])
    (case' hfr | hob => (repeat' (first | refine La ?_ ?_ | exact Lc | refine Lo ?_ | refine ⟨⟨_, rfl, ?_⟩, ?_⟩ | refine Lx ?_)))
    all_goals (first | (rfl) | exact Ld)
  obtain ⟨k, hk⟩ := k
  simp only
  by_cases hlt : k < x.length
  · obtain ⟨a, ha⟩ : ∃ a, x[k]? = some a := ⟨x[k], by simp⟩
    have hrow := IR_get ha
    have hm := mxL_take ha
    generalize mxL (x.take k) = w at *
    repeat' (first | ((first | apply Ba | (apply Bb; (· rfl); (· rfl)) | (apply Bc; (· exact nxE)) | (apply Bd; (· rfl); (· rfl); (· exact nxE))); (· first | exact Ok.lenD rfl rfl hxr | exact Ok.pe)) | ((first | apply Ca | (apply Cb; (· exact nxE))); (· first | exact Ok.e0)) | refine Sx ?_ | (refine Sy (fun h => ?_) (fun h => ?_) <;> try (exfalso; omega; done)) | refine Sz (fun h => ?_) (fun h => ?_))
    refine ⟨⟨k + 1, by omega⟩, ?_, by simp only; omega⟩
    (apply Le.headZ [] rfl)
    all_goals (try dsimp only [srcs])
    (case' hfr | hob => (repeat' (first | refine La ?_ ?_ | exact Lc | refine Lo ?_ | refine ⟨⟨_, rfl, ?_⟩, ?_⟩ | refine Lx ?_)))
    all_goals (first | ((first | exact hm | exact hm.symm)) | exact Ld)
  · obtain rfl : k = x.length := by omega
    rw [List.take_length]
    generalize mxL x = w at *
    repeat' (first | ((first | apply Ba | (apply Bb; (· rfl); (· rfl)) | (apply Bc; (· exact nxE)) | (apply Bd; (· rfl); (· rfl); (· exact nxE))); (· first | exact Ok.lenD rfl rfl hxr | exact Ok.pe)) | ((first | apply Ca | (apply Cb; (· exact nxE))); (· first | exact Ok.e0)) | refine Sx ?_ | (refine Sy (fun h => ?_) (fun h => ?_) <;> try (exfalso; omega; done)) | refine Sz (fun h => ?_) (fun h => ?_))
    refine Yb ?_
    (apply Le.headZ (hs := []) [] rfl)
    all_goals (try dsimp only [srcs])
    (case' hfr => (repeat' (first | refine La ?_ ?_ | exact Lc | refine Lo ?_ | refine ⟨⟨_, rfl, ?_⟩, ?_⟩ | refine Lx ?_)))
    all_goals (first | exact Ld | exact trivial | (rfl))
/-! ### The best word -/
/-- One word more. -/
def bwS (most : Bool) (st : Option (List Nat × Int)) (w : List Nat) (h : Int) : Option (List Nat × Int) :=
  match st with
  | none => some (w, h)
  | some (b, g) => if (most = true ∧ h > g) ∨ (most = false ∧ h < g) then some (w, h) else some (b, g)
def bwF (most : Bool) (f : List Nat → Int) (W : List (List Nat)) : Option (List Nat × Int) := W.foldl (fun st w => bwS most st w (f w)) none
theorem bwF_take [Mode] {most : Bool} {f : List Nat → Int} {W : List (List Nat)} {i : Nat} (hi : i < W.length) : bwF most f (W.take (i + 1)) = bwS most (bwF most f (W.take i)) (W.getD i []) (f (W.getD i [])) := by
  unfold bwF
  rw [List.take_succ_eq_append_getElem hi, List.foldl_append, List.getD_eq_getElem?_getD, List.getElem?_eq_getElem hi]
  rfl
theorem bwF_some [Mode] {most : Bool} {f : List Nat → Int} : ∀ {W : List (List Nat)} {i : Nat}, 0 < i → i ≤ W.length → ∃ b h, bwF most f (W.take i) = some (b, h)
  | W, 0, h, _ => absurd h (Nat.lt_irrefl 0)
  | W, i + 1, _, hi => by
    rw [bwF_take hi]
    cases bwF most f (W.take i) with
    | none => exact ⟨_, _, rfl⟩
    | some p =>
      obtain ⟨b, g⟩ := p
      unfold bwS
      simp only
      split
      · exact ⟨_, _, rfl⟩
      · exact ⟨_, _, rfl⟩
def afH (ms : List (List (List Int))) (n : Nat) (x : List Int) (w : List Nat) : Int := match afR ms n w x with | none => 0 | some y => mxL y
def hwAll (ms : List (List (List Int))) (n : Nat) (x : List Int) (W : List (List Nat)) : Bool := W.all fun w => (afR ms n w x).isSome
def hwC (ms : List (List (List Int))) (x : List Int) (k : Int) : Int := if inC (moC ms x) (wi k 0 6) = 0 then (if hwAll ms (ms.headD []).length x (wds ms.length k.toNat) = true then 0 else 3) else inC (moC ms x) (wi k 0 6)
def hwP (ms : List (List (List Int))) (x : List Int) (k : Int) (most : Bool) : List Nat × Int := if hwC ms x k = 0 then (bwF most (afH ms (ms.headD []).length x) (wds ms.length k.toNat)).getD ([], 0) else ([], 0)
theorem afR_val [Mode] {ms : List (List (List Int))} {n : Nat} : ∀ {u : List Nat} {x z : List Int}, x.length = n → x.all isVal = true → afR ms n u x = some z → z.length = n ∧ z.all isVal = true
  | [], x, z, hl, hv, h => by
    simp only [afR] at h
    obtain rfl := Option.some.inj h
    exact ⟨hl, hv⟩
  | m :: u, x, z, hl, hv, h => by
    simp only [afR] at h
    split at h
    · exact afR_val stepL_len (by assumption) h
    · cases h
abbrev bw13 : Option (List Nat × Int) → AV
  | none => .dead
  | some (b, _) => IL (cN b)
abbrev bw14 : Option (List Nat × Int) → AV
  | none => I 0
  | some (_, h) => I h
set_option maxHeartbeats 8000000 in
theorem l25Best_ac [Mode] (ms : List (List (List Int))) (hm : MsOk ms) (x : List Int) (hx : x.length ≤ 1000000) (k : Int) (most : Bool) : AC Try.prog 45 [QL ms, IL x, I k, Bo most] H0 (.tup [IL (cN (hwP ms x k most).1), I (hwP ms x k most).2, I (hwC ms x k)]) H0 := by
  have hIn := l01In_ac k 0 6
  have hCo := l25Code_ac ms hm x hx (wi k 0 6)
  by_cases h0 : inC (moC ms x) (wi k 0 6) = 0
  case neg =>
    have e1 : hwC ms x k = inC (moC ms x) (wi k 0 6) := by unfold hwC; rw [if_neg h0]
    have e2 : hwP ms x k most = ([], 0) := by unfold hwP; rw [e1, if_neg h0]
    rw [e1, e2, show cN [] = ([] : List Int) from rfl]
    simp only
    generalize inC (moC ms x) (wi k 0 6) = c at *
    generalize wi k 0 6 = b at *
    refine AC.of_body 0 Try.func45 rfl (fun l h => absurd rfl h) (fun C hC => ?_)
    have hD : ∀ l, ¬ C.D0 l := fun l h => (hC l).1 h rfl
    simp only [startFr, Try.ntmps45, List.length_cons, List.length_nil, Nat.reduceAdd, Nat.reduceSub, List.replicate_succ, List.replicate_zero, List.cons_append, List.nil_append]
    repeat' (first | ((first | apply Ba | (apply Bb; (· rfl); (· rfl)) | (apply Bc; (· exact nxE)) | (apply Bd; (· rfl); (· rfl); (· exact nxE))); (· first | exact Kz rfl rfl (hIn) (Ad (Ad (Ad An))) | exact Kz rfl rfl (hCo) (Ad (Ad (Ad An))) | exact Ok.pe)) | ((first | apply Ca | (apply Cb; (· exact nxE))); (· first | exact Ok.e0)) | refine Sx ?_ | (refine Sy (fun h => ?_) (fun h => ?_) <;> try (exfalso; omega; done)) | refine Sz (fun h => ?_) (fun h => ?_))
    refine Yc ?_
    (apply Le.headZ (hs := []) [] rfl)
    all_goals (try dsimp only [srcs])
    (case' hfr => (repeat' (first | refine La ?_ ?_ | exact Lc | refine Lo ?_ | refine ⟨⟨_, rfl, ?_⟩, ?_⟩ | refine Lx ?_)))
    all_goals (first | exact Ld | exact trivial | (rfl))
  obtain ⟨h1, h2⟩ := inC_ok h0
  obtain ⟨n, ho, t0, q, e, hq3, h00, hqs⟩ := moC_ok h1
  rw [h0] at hCo
  rw [h2] at hCo hIn
  have hk6 := wi_iff.1 h2
  obtain ⟨N, rfl⟩ : ∃ N : Nat, k = N := ⟨k.toNat, by omega⟩
  have hn2 := ho.n2
  have hhd : (ms.headD []).length = n := by rw [e]; exact h00.sq.l
  have hWd := (l25Words_ac ms N ho.m.2 (by omega)).frzT (by simp)
  have hwCe : hwC ms x N = (if hwAll ms n x (wds ms.length N) = true then 0 else 3) := by
    unfold hwC; rw [if_pos h0, hhd, Int.toNat_natCast]
  have hwPe : hwP ms x N most = if hwC ms x N = 0 then (bwF most (afH ms n x) (wds ms.length N)).getD ([], 0) else ([], 0) := by
    show (if _ then _ else _) = _
    rw [hhd, Int.toNat_natCast]
  have hwne : 0 < (wds ms.length N).length := by
    rw [wds_len]
    exact Nat.pow_pos (by have := ho.m.1; omega)
  have hAf : ∀ w ∈ wds ms.length N, AC Try.prog 16 [QL ms, IL x, IL (cN w)] H0 (.tup [IL (match afR ms n w x with | none => [] | some y => y), I (match afR ms n w x with | none => 3 | some _ => 0)]) H0 := fun w hw => by
    obtain ⟨g1, g2⟩ := wds_mem hw
    have hWo : woB ms (cN w) = true := by
      unfold woB
      rw [Bool.and_eq_true, List.all_eq_true]
      refine ⟨fun a ha => ?_, decide_eq_true (by simp; omega)⟩
      obtain ⟨m, hm2, rfl⟩ := List.mem_map.1 ha
      have := g2 m hm2
      exact wi_iff.2 (by omega)
    have hA := sAfterWord_ac ms hm x hx (cN w) (by simp; omega)
    have e0 : inC (moC ms x) true = 0 := by unfold inC; rw [if_pos h1]; rfl
    unfold afL afC at hA
    rw [hWo, e0, if_pos rfl, if_pos rfl, hhd, cN_toNat] at hA
    exact hA
  have hwl : (wds ms.length N).length ≤ 4096 := by
    rw [wds_len]
    exact Nat.le_trans (Nat.pow_le_pow_left ho.m.2 _) (Nat.le_trans (Nat.pow_le_pow_right (by decide) (show N ≤ 6 by omega)) (by decide))
  have hval := fun (w : List Nat) (z : List Int) => afR_val (ms := ms) (n := n) (u := w) (z := z) ho.l ho.v
  rw [hwPe, hwCe]
  clear hwPe hwCe
  generalize wds ms.length N = W at *
  have hWr : (mRows 1 (TW W)).length = W.length := by simp
  refine AC.of_body 0 Try.func45 rfl (fun l h => absurd rfl h) (fun C hC => ?_)
  have hD : ∀ l, ¬ C.D0 l := fun l h => (hC l).1 h rfl
  simp only [startFr, Try.ntmps45, List.length_cons, List.length_nil, Nat.reduceAdd, Nat.reduceSub, List.replicate_succ, List.replicate_zero, List.cons_append, List.nil_append]
  repeat' (first | ((first | apply Ba | (apply Bb; (· rfl); (· rfl)) | (apply Bc; (· exact nxE)) | (apply Bd; (· rfl); (· rfl); (· exact nxE))); (· first | exact Kz rfl rfl (hIn) (Ad (Ad (Ad An))) | exact Kz rfl rfl (hCo) (Ad (Ad (Ad An))) | exact Kz rfl rfl (hWd) (Ad (Ad An)) | exact Ok.pe)) | ((first | apply Ca | (apply Cb; (· exact nxE))); (· first | exact Ok.e0)) | refine Sx ?_ | (refine Sy (fun h => ?_) (fun h => ?_) <;> try (exfalso; omega; done)) | refine Sz (fun h => ?_) (fun h => ?_))
  refine AW.loop (X := {i : Nat // i ≤ W.length ∧ hwAll ms n x W = (W.drop i).all fun w => (afR ms n w x).isSome}) (fun i => ⟨[QL ms, IL x, Oo, Bo most, Oo, Oo, Oo, Oo, Oo, Oo, Oo, Oo, TL (W.map cN), bw13 (bwF most (afH ms n x) (W.take i.1)), bw14 (bwF most (afH ms n x) (W.take i.1)), I (i.1 : Nat), Oo, Oo, Oo, Oo, Oo, Oo, Oo, Oo, Oo, Oo, Oo, Oo, Oo, Oo, Oo, Oo, Oo, Oo, Oo, Oo, Oo, Oo, Oo, Oo, Oo, Oo, Oo, Oo, Oo, Oo, Oo, Oo, Oo, Oo, Oo, Oo, Oo, Oo, Oo, Oo, Oo, Oo, Oo, Oo, Oo, Oo, Oo, Oo, Oo, Oo, Oo, Oo, Oo, Oo, Oo, Oo, Oo, Oo, Oo, Oo, Oo, Oo, Oo, Oo, Oo, Oo], heapL [], 900⟩) (fun i => W.length - i.1) ⟨0, Nat.zero_le _, rfl⟩ ?_ (fun i => ?_)
  ·
    simp only [List.take_zero, bwF, List.foldl_nil]
    (apply Le.headZ [] rfl)
    all_goals (try dsimp only [srcs])
    (case' hfr | hob => (repeat' (first | refine La ?_ ?_ | exact Lc | refine Lo ?_ | refine ⟨⟨_, rfl, ?_⟩, ?_⟩ | refine Lx ?_)))
    all_goals (first | (rfl) | exact Ld)
  obtain ⟨i, hi, hall⟩ := i
  simp only
  by_cases hlt : i < W.length
  case neg =>
    obtain rfl : i = W.length := by omega
    rw [List.drop_length, List.all_nil] at hall
    rw [hall, if_pos rfl, if_pos rfl]
    obtain ⟨b, h, hb⟩ := bwF_some (most := most) (f := afH ms n x) (W := W) hwne (Nat.le_refl _)
    rw [List.take_length] at hb ⊢
    rw [hb]
    simp only [Option.getD_some]
    repeat' (first | ((first | apply Ba | (apply Bb; (· rfl); (· rfl)) | (apply Bc; (· exact nxE)) | (apply Bd; (· rfl); (· rfl); (· exact nxE))); (· first | exact Ok.lenD rfl rfl hWr | exact Ok.pe)) | ((first | apply Ca | (apply Cb; (· exact nxE))); (· first | exact Ok.e0)) | refine Sx ?_ | (refine Sy (fun h => ?_) (fun h => ?_) <;> try (exfalso; omega; done)) | refine Sz (fun h => ?_) (fun h => ?_))
    refine Yc ?_
    (apply Le.headZ (hs := []) [] rfl)
    all_goals (try dsimp only [srcs])
    (case' hfr => (repeat' (first | refine La ?_ ?_ | exact Lc | refine Lo ?_ | refine ⟨⟨_, rfl, ?_⟩, ?_⟩ | refine Lx ?_)))
    all_goals (first | exact Ld | exact trivial | (rfl))
  have hmem : W.getD i [] ∈ W := by rw [List.getD_eq_getElem?_getD, List.getElem?_eq_getElem hlt]; exact List.getElem_mem _
  have hdrop : W.drop i = W.getD i [] :: W.drop (i + 1) := by
    rw [List.drop_eq_getElem_cons hlt, List.getD_eq_getElem?_getD, List.getElem?_eq_getElem hlt]; rfl
  have hA := hAf _ hmem
  have hrow : (mRows 1 (TW W))[((i : Nat) : Int).toNat]? = some [.sl 1 (IR (cN (W.getD i [])))] := TR_get (by simp [List.getElem?_eq_getElem hlt])
  have htk := bwF_take (most := most) (f := afH ms n x) hlt
  have hval := hval (W.getD i [])
  rw [hdrop, List.all_cons] at hall
  clear hAf hdrop hmem
  cases hr : afR ms n (W.getD i []) x with
  | none =>
    rw [hr] at hA hall
    simp only [Option.isSome_none, Bool.false_and] at hall
    rw [hall, if_neg (by decide), if_neg (by decide), show cN [] = ([] : List Int) from rfl]
    simp only at hA ⊢
    generalize W.getD i [] = w at *
    cases bwF most (afH ms n x) (W.take i) with
    | none =>
      (try simp only)
      repeat' (first | ((first | apply Ba | (apply Bb; (· rfl); (· rfl)) | (apply Bc; (· exact nxE)) | (apply Bd; (· rfl); (· rfl); (· exact nxE))); (· first | exact Ok.lenD rfl rfl hWr | exact Kz rfl rfl (hA) (Ad (Ad (Ad An))) | exact Ok.pe)) | ((first | apply Ca | (apply Cb; (· exact nxE))); (· first | exact Ok.e0)) | refine Sx ?_ | (refine Sy (fun h => ?_) (fun h => ?_) <;> try (exfalso; omega; done)) | refine Sz (fun h => ?_) (fun h => ?_))
      refine Yc ?_
      (apply Le.headZ (hs := []) [] rfl)
      all_goals (try dsimp only [srcs])
      (case' hfr => (repeat' (first | refine La ?_ ?_ | exact Lc | refine Lo ?_ | refine ⟨⟨_, rfl, ?_⟩, ?_⟩ | refine Lx ?_)))
      all_goals (first | exact Ld | exact trivial | (rfl))
    | some p =>
      obtain ⟨b, g⟩ := p
      (try simp only)
      repeat' (first | ((first | apply Ba | (apply Bb; (· rfl); (· rfl)) | (apply Bc; (· exact nxE)) | (apply Bd; (· rfl); (· rfl); (· exact nxE))); (· first | exact Ok.lenD rfl rfl hWr | exact Kz rfl rfl (hA) (Ad (Ad (Ad An))) | exact Ok.pe)) | ((first | apply Ca | (apply Cb; (· exact nxE))); (· first | exact Ok.e0)) | refine Sx ?_ | (refine Sy (fun h => ?_) (fun h => ?_) <;> try (exfalso; omega; done)) | refine Sz (fun h => ?_) (fun h => ?_))
      refine Yc ?_
      (apply Le.headZ (hs := []) [] rfl)
      all_goals (try dsimp only [srcs])
      (case' hfr => (repeat' (first | refine La ?_ ?_ | exact Lc | refine Lo ?_ | refine ⟨⟨_, rfl, ?_⟩, ?_⟩ | refine Lx ?_)))
      all_goals (first | exact Ld | exact trivial | (rfl))
  | some y =>
    have hfw : afH ms n x (W.getD i []) = mxL y := by unfold afH; rw [hr]
    rw [hr] at hA hall
    rw [hfw] at htk
    simp only [Option.isSome_some, Bool.true_and] at hall
    simp only at hA
    clear hfw
    obtain ⟨hyl, hyv⟩ := hval y hr
    have hS := sSumOf_ac y (by omega) hyv
    have hQ := hS
    clear hS hval
    generalize W.getD i [] = w at *
    generalize mxL y = g at *
    have hst : bwF most (afH ms n x) (W.take (i + 1)) = bwS most (bwF most (afH ms n x) (W.take i)) w g := htk
    clear htk
    cases hp : bwF most (afH ms n x) (W.take i) with
    | none =>
      have hi0 : i = 0 := Nat.eq_zero_of_not_pos fun h => by
        obtain ⟨b, h2, e⟩ := bwF_some (most := most) (f := afH ms n x) (W := W) h hi
        rw [hp] at e; cases e
      have hst2 : bwF most (afH ms n x) (W.take (i + 1)) = some (w, g) := by rw [hst, hp]; rfl
      clear hst
      subst hi0
      (try simp only)
      repeat' (first | ((first | apply Ba | (apply Bb; (· rfl); (· rfl)) | (apply Bc; (· exact nxE)) | (apply Bd; (· rfl); (· rfl); (· exact nxE))); (· first | exact Ok.lenD rfl rfl hWr | exact Kz rfl rfl (hA) (Ad (Ad (Ad An))) | exact Kz rfl rfl (hQ) (Ad An) | exact Ok.pe)) | ((first | apply Ca | (apply Cb; (· exact nxE))); (· first | exact Ok.e0)) | refine Sx ?_ | (refine Sy (fun h => ?_) (fun h => ?_) <;> try (exfalso; omega; done)) | refine Sz (fun h => ?_) (fun h => ?_))
      all_goals
        refine ⟨⟨0 + 1, by omega, hall⟩, ?_, by simp only; omega⟩
        simp only
        rw [hst2]
        (apply Le.headZ [] rfl)
        all_goals (try dsimp only [srcs])
        (case' hfr | hob => (repeat' (first | refine La ?_ ?_ | exact Lc | refine Lo ?_ | refine ⟨⟨_, rfl, ?_⟩, ?_⟩ | refine Lx ?_)))
        all_goals (first | (rfl) | exact Ld)
    | some p =>
      obtain ⟨b, g0⟩ := p
      have hi0 : 0 < i := Nat.pos_of_ne_zero fun h => by
        subst h
        simp [bwF] at hp
      (try simp only)
      by_cases hc : (most = true ∧ g > g0) ∨ (most = false ∧ g < g0)
      · have hst2 : bwF most (afH ms n x) (W.take (i + 1)) = some (w, g) := by rw [hst, hp]; unfold bwS; simp only; rw [if_pos hc]
        clear hst
        rcases hc with ⟨rfl, hc⟩ | ⟨rfl, hc⟩
        all_goals
          repeat' (first | ((first | apply Ba | (apply Bb; (· rfl); (· rfl)) | (apply Bc; (· exact nxE)) | (apply Bd; (· rfl); (· rfl); (· exact nxE))); (· first | exact Ok.lenD rfl rfl hWr | exact Kz rfl rfl (hA) (Ad (Ad (Ad An))) | exact Kz rfl rfl (hQ) (Ad An) | exact Ok.pe)) | ((first | apply Ca | (apply Cb; (· exact nxE))); (· first | exact Ok.e0)) | refine Sx ?_ | (refine Sy (fun h => ?_) (fun h => ?_) <;> try (exfalso; omega; done)) | refine Sz (fun h => ?_) (fun h => ?_))
          refine ⟨⟨i + 1, by omega, hall⟩, ?_, by simp only; omega⟩
          simp only
          rw [hst2]
          (apply Le.headZ [] rfl)
          all_goals (try dsimp only [srcs])
          (case' hfr | hob => (repeat' (first | refine La ?_ ?_ | exact Lc | refine Lo ?_ | refine ⟨⟨_, rfl, ?_⟩, ?_⟩ | refine Lx ?_)))
          all_goals (first | (rfl) | exact Ld)
      · have hst2 : bwF most (afH ms n x) (W.take (i + 1)) = some (b, g0) := by rw [hst, hp]; unfold bwS; simp only; rw [if_neg hc]
        clear hst
        cases most
        · have hc2 : ¬ g < g0 := fun h => hc (.inr ⟨rfl, h⟩)
          clear hc
          repeat' (first | ((first | apply Ba | (apply Bb; (· rfl); (· rfl)) | (apply Bc; (· exact nxE)) | (apply Bd; (· rfl); (· rfl); (· exact nxE))); (· first | exact Ok.lenD rfl rfl hWr | exact Kz rfl rfl (hA) (Ad (Ad (Ad An))) | exact Kz rfl rfl (hQ) (Ad An) | exact Ok.pe)) | ((first | apply Ca | (apply Cb; (· exact nxE))); (· first | exact Ok.e0)) | refine Sx ?_ | (refine Sy (fun h => ?_) (fun h => ?_) <;> try (exfalso; omega; done)) | refine Sz (fun h => ?_) (fun h => ?_))
          refine ⟨⟨i + 1, by omega, hall⟩, ?_, by simp only; omega⟩
          simp only
          rw [hst2]
          (apply Le.headZ [] rfl)
          all_goals (try dsimp only [srcs])
          (case' hfr | hob => (repeat' (first | refine La ?_ ?_ | exact Lc | refine Lo ?_ | refine ⟨⟨_, rfl, ?_⟩, ?_⟩ | refine Lx ?_)))
          all_goals (first | (rfl) | exact Ld)
        · have hc2 : ¬ g > g0 := fun h => hc (.inl ⟨rfl, h⟩)
          clear hc
          repeat' (first | ((first | apply Ba | (apply Bb; (· rfl); (· rfl)) | (apply Bc; (· exact nxE)) | (apply Bd; (· rfl); (· rfl); (· exact nxE))); (· first | exact Ok.lenD rfl rfl hWr | exact Kz rfl rfl (hA) (Ad (Ad (Ad An))) | exact Kz rfl rfl (hQ) (Ad An) | exact Ok.pe)) | ((first | apply Ca | (apply Cb; (· exact nxE))); (· first | exact Ok.e0)) | refine Sx ?_ | (refine Sy (fun h => ?_) (fun h => ?_) <;> try (exfalso; omega; done)) | refine Sz (fun h => ?_) (fun h => ?_))
          refine ⟨⟨i + 1, by omega, hall⟩, ?_, by simp only; omega⟩
          simp only
          rw [hst2]
          (apply Le.headZ [] rfl)
          all_goals (try dsimp only [srcs])
          (case' hfr | hob => (repeat' (first | refine La ?_ ?_ | exact Lc | refine Lo ?_ | refine ⟨⟨_, rfl, ?_⟩, ?_⟩ | refine Lx ?_)))
          all_goals (first | (rfl) | exact Ld)
end Go.Proofs.Ytdgodkpobomneaa
end

section
namespace Go.Proofs.Ytdgodkpobomneaa
set_option linter.unusedSimpArgs false
set_option linter.unusedVariables false
open Go Go.RowKit
attribute [local irreducible] AL AD AW OpOk Le AC thenQ blockQ EndQ

abbrev StW := List Nat × Int × Bool
/-- The best word so far, with one more looked at. -/
def upB (sg : Int) (w : List Nat) (tot : Int) (st : StW) : StW := if st.2.2 = false ∨ sg * st.2.1 < sg * tot then (w, tot, true) else st
def goL (F : Nat → StW → Bool × List Nat × StW) : List Nat → List Nat → StW → Bool × List Nat × StW
  | [], l, st => (true, l, st)
  | m :: q, l, st => if (F m st).1 = true then goL F q l (F m st).2.2 else F m st
def goP (ms : List (List (List Int))) (n : Nat) (sg : Int) : Nat → List Int → List Nat → StW → Bool × List Nat × StW
  | 0, x, l, st => (true, l, upB sg l (mxL x) st)
  | k + 1, x, l, st => goL (fun m s => if (stepL (ms.getD m []) n x).all isVal = true then goP ms n sg k (stepL (ms.getD m []) n x) (l ++ [m]) s else (false, l, s)) (List.range' 0 ms.length) l st
theorem goL_word [Mode] {F : Nat → StW → Bool × List Nat × StW} : ∀ {q : List Nat} {l : List Nat} {st : StW}, (goL F q l st).1 = true → (goL F q l st).2.1 = l
  | [], _, _, _ => rfl
  | m :: q, l, st, h => by
    unfold goL at h ⊢
    by_cases e : (F m st).1 = true
    · rw [if_pos e] at h ⊢
      exact goL_word h
    · rw [if_neg e] at h
      exact absurd h e
theorem goP_word [Mode] {ms : List (List (List Int))} {n : Nat} {sg : Int} : ∀ {k : Nat} {x : List Int} {l : List Nat} {st : StW}, (goP ms n sg k x l st).1 = true → (goP ms n sg k x l st).2.1 = l
  | 0, _, _, _, _ => rfl
  | _ + 1, _, _, _, h => goL_word h
def hOk (st : StW) : Prop := -1000000000000000 ≤ st.2.1 ∧ st.2.1 ≤ 1000000000000000
theorem goL_bnd [Mode] {F : Nat → StW → Bool × List Nat × StW} (hF : ∀ m st, hOk st → hOk (F m st).2.2) : ∀ {q : List Nat} {l : List Nat} {st : StW}, hOk st → hOk (goL F q l st).2.2
  | [], _, _, h => h
  | m :: q, l, st, h => by
    unfold goL
    by_cases e : (F m st).1 = true
    · rw [if_pos e]; exact goL_bnd hF (hF m st h)
    · rw [if_neg e]; exact hF m st h
theorem mxL_bndW [Mode] {x : List Int} (h : x.all isVal = true) : -1000000000000000 ≤ mxL x ∧ mxL x ≤ 1000000 := by
  have hg : ∀ (q : List Int) (c : Int), (-1000000000000000 ≤ c ∧ c ≤ 1000000) → q.all isVal = true → -1000000000000000 ≤ q.foldl max c ∧ q.foldl max c ≤ 1000000 := by
    intro q
    induction q with
    | nil => intro c hc _; exact hc
    | cons a q ih =>
      intro c hc h
      simp only [List.all_cons, Bool.and_eq_true] at h
      rw [List.foldl_cons]
      refine ih _ ?_ h.2
      have ha : a = -1000000000000000 ∨ (-1000000 ≤ a ∧ a ≤ 1000000) := by
        have h1 := h.1
        unfold isVal at h1
        rw [Bool.or_eq_true, decide_eq_true_eq, wi_iff] at h1
        exact h1
      omega
  exact hg x _ (by decide) h
theorem upB_bnd [Mode] {sg : Int} {w : List Nat} {tot : Int} {st : StW} (ht : -1000000000000000 ≤ tot ∧ tot ≤ 1000000) (h : hOk st) : hOk (upB sg w tot st) := by
  unfold upB
  split
  · exact ⟨ht.1, by simp only; omega⟩
  · exact h
theorem goP_bnd [Mode] {ms : List (List (List Int))} {n : Nat} {sg : Int} : ∀ {k : Nat} {x : List Int} {l : List Nat} {st : StW}, x.all isVal = true → hOk st → hOk (goP ms n sg k x l st).2.2
  | 0, _, _, _, hv, h => upB_bnd (mxL_bndW hv) h
  | k + 1, x, l, _, _, h => goL_bnd (fun m s hs => by
      split
      · exact goP_bnd ‹_› hs
      · exact hs) h
abbrev gsD (ms : List (List (List Int))) (sg : Int) : List AV := [QL ms, I sg]
abbrev gsE (st : StW) : List AV := [I st.2.1, Bo st.2.2]
abbrev gsH (ms : List (List (List Int))) (sg : Int) (l : List Nat) (st : StW) : Heap :=
  upd (upd (upd H0 ⟨2, []⟩ (some (IO (cN st.1)))) ⟨1, []⟩ (some (IO (cN l)))) ⟨0, []⟩ (some ⟨6, [gsD ms sg ++ .own 1 ⟨1, []⟩ 0 l.length :: .own 1 ⟨2, []⟩ 0 st.1.length :: gsE st]⟩)
abbrev gsR (ms : List (List (List Int))) (sg : Int) (l : List Nat) (st : StW) : Heap :=
  upd (upd (upd H0 ⟨4, []⟩ (some (IO (cN st.1)))) ⟨3, []⟩ (some (IO (cN l)))) ⟨0, []⟩ (some ⟨6, [gsD ms sg ++ .own 1 ⟨3, []⟩ 0 l.length :: .own 1 ⟨4, []⟩ 0 st.1.length :: gsE st]⟩)
set_option maxHeartbeats 8000000 in
theorem goOn0_ac [Mode] (ms : List (List (List Int))) (sg : Int) (hsg : sg = 1 ∨ sg = -1) (x : List Int) (hx : x.length ≤ 100) (hv : x.all isVal = true) (l : List Nat) (hl : l.length ≤ 6) (b : List Nat) (ht : Int) (fd : Bool) (hh : -1000000000000000 ≤ ht ∧ ht ≤ 1000000000000000) :
    AC Try.prog 106 [Bx 6 0, IL x, I 0] (gsH ms sg l (b, ht, fd)) (Bo true) (gsR ms sg l (upB sg l (mxL x) (b, ht, fd))) := by
  have hS := sumOf_ac x (by omega)
  have hK := cloneInt_ac (cN l) (by simp; omega)
  have hb := mxL_bndW hv
  have hur : (IR (cN l)).length = l.length := by simp
  have hcl : (cN l).length = l.length := by simp
  rw [hcl] at hK
  generalize mxL x = tot at *
  change AC _ _ _ (upd (upd (upd H0 ⟨2, []⟩ (some (IO (cN b)))) ⟨1, []⟩ (some (IO (cN l)))) ⟨0, []⟩ (some ⟨6, [[QL ms, I sg, .own 1 ⟨1, []⟩ 0 l.length, .own 1 ⟨2, []⟩ 0 b.length, I ht, Bo fd]]⟩)) _ _
  by_cases hup : fd = false ∨ sg * ht < sg * tot
  · have hu : upB sg l tot (b, ht, fd) = (l, tot, true) := if_pos hup
    rw [hu]
    cases fd
    · rcases hsg with rfl | rfl
      all_goals
        refine AC.of_body 3 Try.func106 rfl (fun l h => by simp [upd] at h; (repeat' split at h) <;> simp_all) (fun C hC => ?_)
        simp only [startFr, Try.ntmps106, List.length_cons, List.length_nil, Nat.reduceAdd, Nat.reduceSub, List.replicate_succ, List.replicate_zero, List.cons_append, List.nil_append]
        have hD : ∀ l, C.D0 l → l = ⟨0, []⟩ ∨ l = ⟨1, []⟩ ∨ l = ⟨2, []⟩ := fun l h => by have := (hC l).1 h; simp [upd] at this; (repeat' split at this) <;> simp_all
        repeat' (first | ((first | apply Ba | (apply Bb; (· rfl); (· rfl)) | (apply Bc; (· exact nxE)) | (apply Bd; (· rfl); (· rfl); (· exact nxE))); (· first | exact Kz rfl rfl (hS) (Ad An) | exact OpOk.nilCheck rfl rfl | exact Eo rfl rfl (hK) (Sw Sn) | exact Ok.pe)) | ((first | apply Ca | (apply Cb; (· exact nxE))); (· first | exact Eo rfl rfl (hK) (Sw Sn) | exact Ok.e0)) | refine Sx ?_ | (refine Sy (fun h => ?_) (fun h => ?_) <;> try (exfalso; omega; done)) | refine Sz (fun h => ?_) (fun h => ?_))
        (refine end1p (by first | exact .inl rfl | exact .inr rfl) rfl (by first | exact rT rfl | exact rCA rfl rfl rfl rfl (by simp) | exact rCC rfl rfl rfl rfl rfl) ?_ (Le.head ([(⟨0, []⟩, ⟨0, []⟩, ⟨6, [[QL ms, I _, .own 1 ⟨3, []⟩ 0 l.length, .own 1 ⟨4, []⟩ 0 l.length, I tot, Bo true]]⟩), (⟨3, []⟩, ⟨1, []⟩, IO (cN l)), (⟨4, []⟩, ⟨39, [0]⟩, IO (cN l))]) (by first | exact fun l h => absurd h (hD l) | (intro l h; rcases hD l h with rfl; simp [tauL]) | (intro l h; rcases hD l h with rfl | rfl <;> simp [tauL]; done) | (intro l h; rcases hD l h with rfl | rfl | rfl <;> simp [tauL])) ?_ ?_ (by simp) (by simp) (by simp [AllP]) (n' := 1000)); (· rfl)) <;> (repeat' (first | exact trivial | exact ARs.nil | refine ARs.cons ?_ ?_ | exact AR.dead _ | exact AR.dd _ | exact AR.i (by (try dsimp only); omega) | exact AR.ptr _ _ _ _ (by simp [heapL, upd]) | exact AR.own _ _ _ _ (by simp [heapL, upd]) | refine AR.ownE _ _ _ ?_ (by simp [heapL, upd]) | refine ⟨⟨_, rfl, ?_⟩, ?_⟩ | exact ObA.data | refine ObA.box ?_ | refine ObA.frE ?_ | refine ObA.dataE ?_ | refine ARs.agg ?_ | refine ARs.tup ?_ | exact AR.clo' ARs.nil ARs.nil | exact AR.clo' ARs.nil (hca _ _)))
    · have hup := hup.resolve_left (by decide)
      rcases hsg with rfl | rfl
      all_goals
        refine AC.of_body 3 Try.func106 rfl (fun l h => by simp [upd] at h; (repeat' split at h) <;> simp_all) (fun C hC => ?_)
        simp only [startFr, Try.ntmps106, List.length_cons, List.length_nil, Nat.reduceAdd, Nat.reduceSub, List.replicate_succ, List.replicate_zero, List.cons_append, List.nil_append]
        have hD : ∀ l, C.D0 l → l = ⟨0, []⟩ ∨ l = ⟨1, []⟩ ∨ l = ⟨2, []⟩ := fun l h => by have := (hC l).1 h; simp [upd] at this; (repeat' split at this) <;> simp_all
        repeat' (first | ((first | apply Ba | (apply Bb; (· rfl); (· rfl)) | (apply Bc; (· exact nxE)) | (apply Bd; (· rfl); (· rfl); (· exact nxE))); (· first | exact Kz rfl rfl (hS) (Ad An) | exact OpOk.nilCheck rfl rfl | exact Eo rfl rfl (hK) (Sw Sn) | exact Ok.pe)) | ((first | apply Ca | (apply Cb; (· exact nxE))); (· first | exact Eo rfl rfl (hK) (Sw Sn) | exact Ok.e0)) | refine Sx ?_ | (refine Sy (fun h => ?_) (fun h => ?_) <;> try (exfalso; omega; done)) | refine Sz (fun h => ?_) (fun h => ?_))
        (refine end1p (by first | exact .inl rfl | exact .inr rfl) rfl (by first | exact rT rfl | exact rCA rfl rfl rfl rfl (by simp) | exact rCC rfl rfl rfl rfl rfl) ?_ (Le.head ([(⟨0, []⟩, ⟨0, []⟩, ⟨6, [[QL ms, I _, .own 1 ⟨3, []⟩ 0 l.length, .own 1 ⟨4, []⟩ 0 l.length, I tot, Bo true]]⟩), (⟨3, []⟩, ⟨1, []⟩, IO (cN l)), (⟨4, []⟩, ⟨39, [0]⟩, IO (cN l))]) (by first | exact fun l h => absurd h (hD l) | (intro l h; rcases hD l h with rfl; simp [tauL]) | (intro l h; rcases hD l h with rfl | rfl <;> simp [tauL]; done) | (intro l h; rcases hD l h with rfl | rfl | rfl <;> simp [tauL])) ?_ ?_ (by simp) (by simp) (by simp [AllP]) (n' := 1000)); (· rfl)) <;> (repeat' (first | exact trivial | exact ARs.nil | refine ARs.cons ?_ ?_ | exact AR.dead _ | exact AR.dd _ | exact AR.i (by (try dsimp only); omega) | exact AR.ptr _ _ _ _ (by simp [heapL, upd]) | exact AR.own _ _ _ _ (by simp [heapL, upd]) | refine AR.ownE _ _ _ ?_ (by simp [heapL, upd]) | refine ⟨⟨_, rfl, ?_⟩, ?_⟩ | exact ObA.data | refine ObA.box ?_ | refine ObA.frE ?_ | refine ObA.dataE ?_ | refine ARs.agg ?_ | refine ARs.tup ?_ | exact AR.clo' ARs.nil ARs.nil | exact AR.clo' ARs.nil (hca _ _)))
  · have hu : upB sg l tot (b, ht, fd) = (b, ht, fd) := if_neg hup
    rw [hu]
    cases fd
    · exact absurd (.inl rfl) hup
    have hup : ¬ sg * ht < sg * tot := fun h => hup (.inr h)
    rcases hsg with rfl | rfl
    all_goals
      refine AC.of_body 3 Try.func106 rfl (fun l h => by simp [upd] at h; (repeat' split at h) <;> simp_all) (fun C hC => ?_)
      simp only [startFr, Try.ntmps106, List.length_cons, List.length_nil, Nat.reduceAdd, Nat.reduceSub, List.replicate_succ, List.replicate_zero, List.cons_append, List.nil_append]
      have hD : ∀ l, C.D0 l → l = ⟨0, []⟩ ∨ l = ⟨1, []⟩ ∨ l = ⟨2, []⟩ := fun l h => by have := (hC l).1 h; simp [upd] at this; (repeat' split at this) <;> simp_all
      repeat' (first | ((first | apply Ba | (apply Bb; (· rfl); (· rfl)) | (apply Bc; (· exact nxE)) | (apply Bd; (· rfl); (· rfl); (· exact nxE))); (· first | exact Kz rfl rfl (hS) (Ad An) | exact OpOk.nilCheck rfl rfl | exact Ok.pe)) | ((first | apply Ca | (apply Cb; (· exact nxE))); (· first | exact Ok.e0)) | refine Sx ?_ | (refine Sy (fun h => ?_) (fun h => ?_) <;> try (exfalso; omega; done)) | refine Sz (fun h => ?_) (fun h => ?_))
      (refine end1p (by first | exact .inl rfl | exact .inr rfl) rfl (by first | exact rT rfl | exact rCA rfl rfl rfl rfl (by simp) | exact rCC rfl rfl rfl rfl rfl) ?_ (Le.head ([(⟨0, []⟩, ⟨0, []⟩, ⟨6, [[QL ms, I _, .own 1 ⟨3, []⟩ 0 l.length, .own 1 ⟨4, []⟩ 0 b.length, I ht, Bo true]]⟩), (⟨3, []⟩, ⟨1, []⟩, IO (cN l)), (⟨4, []⟩, ⟨2, []⟩, IO (cN b))]) (by first | exact fun l h => absurd h (hD l) | (intro l h; rcases hD l h with rfl; simp [tauL]) | (intro l h; rcases hD l h with rfl | rfl <;> simp [tauL]; done) | (intro l h; rcases hD l h with rfl | rfl | rfl <;> simp [tauL])) ?_ ?_ (by simp) (by simp) (by simp [AllP]) (n' := 1000)); (· rfl)) <;> (repeat' (first | exact trivial | exact ARs.nil | refine ARs.cons ?_ ?_ | exact AR.dead _ | exact AR.dd _ | exact AR.i (by (try dsimp only); omega) | exact AR.ptr _ _ _ _ (by simp [heapL, upd]) | exact AR.own _ _ _ _ (by simp [heapL, upd]) | refine AR.ownE _ _ _ ?_ (by simp [heapL, upd]) | refine ⟨⟨_, rfl, ?_⟩, ?_⟩ | exact ObA.data | refine ObA.box ?_ | refine ObA.frE ?_ | refine ObA.dataE ?_ | refine ARs.agg ?_ | refine ARs.tup ?_ | exact AR.clo' ARs.nil ARs.nil | exact AR.clo' ARs.nil (hca _ _)))
theorem gsD_ar [Mode] {ms : List (List (List Int))} {sg : Int} : ∀ c ∈ ([QL ms, I sg] : List AV), ∀ H lent τ L, AR H lent τ L c c := fun c hc H lent τ L => by
  simp only [List.mem_cons, List.not_mem_nil, or_false] at hc
  rcases hc with rfl | rfl <;> exact .dd _
theorem gsD_rn [Mode] {ms : List (List (List Int))} {sg : Int} : ∀ c ∈ ([QL ms, I sg] : List AV), ∀ g, rn g c = c := fun c hc g => by
  simp only [List.mem_cons, List.not_mem_nil, or_false] at hc
  rcases hc with rfl | rfl <;> simp [rn]
theorem gsE_ar [Mode] {h : Int} {f : Bool} : ∀ c ∈ ([I h, Bo f] : List AV), ∀ H lent τ L, AR H lent τ L c c := fun c hc H lent τ L => by
  simp only [List.mem_cons, List.not_mem_nil, or_false] at hc
  rcases hc with rfl | rfl <;> exact .dd _
theorem gsE_rn [Mode] {h : Int} {f : Bool} : ∀ c ∈ ([I h, Bo f] : List AV), ∀ g, rn g c = c := fun c hc g => by
  simp only [List.mem_cons, List.not_mem_nil, or_false] at hc
  rcases hc with rfl | rfl <;> simp [rn]
theorem goL_step [Mode] {F : Nat → StW → Bool × List Nat × StW} {l : List Nat} {st : StW} {c M : Nat} (h : c < M) : goL F (List.range' c (M - c)) l st = if (F c st).1 = true then goL F (List.range' (c + 1) (M - (c + 1))) l (F c st).2.2 else F c st := by
  rw [show M - c = (M - (c + 1)) + 1 by omega, List.range'_succ]; rfl
set_option maxHeartbeats 8000000 in
theorem goOn_ac [Mode] (ms : List (List (List Int))) (n : Nat) (hn : n ≤ 100) (sg : Int) (hsg : sg = 1 ∨ sg = -1) (hms : ms.length ≤ 4) (hok : ∀ t ∈ ms, MatOk t n) : ∀ (k : Nat) (x : List Int) (l : List Nat) (st : StW), x.length = n → x.all isVal = true → l.length + k ≤ 6 → hOk st →
    AC Try.prog 106 [Bx 6 0, IL x, I k] (gsH ms sg l st) (Bo (goP ms n sg k x l st).1) (gsR ms sg (goP ms n sg k x l st).2.1 (goP ms n sg k x l st).2.2) := by
  intro m
  induction m with
  | zero =>
    intro x l st hxl hxv hlk hst
    obtain ⟨b, ht, fd⟩ := st
    exact goOn0_ac ms sg hsg x (by omega) hxv l (by omega) b ht fd hst
  | succ m ih =>
    intro x l st hxl hxv hlk hst
    obtain ⟨b, ht, fd⟩ := st
    obtain ⟨G, hG⟩ : ∃ G, goP ms n sg (m + 1) x l (b, ht, fd) = G := ⟨_, rfl⟩
    rw [hG]
    unfold goP at hG
    generalize hF : (fun (m_1 : Nat) (s : StW) => if (stepL (ms.getD m_1 []) n x).all isVal = true then goP ms n sg m (stepL (ms.getD m_1 []) n x) (l ++ [m_1]) s else (false, l, s)) = F at hG
    have hFj : ∀ v s, F v s = if (stepL (ms.getD v []) n x).all isVal = true then goP ms n sg m (stepL (ms.getD v []) n x) (l ++ [v]) s else (false, l, s) := fun v s => by rw [← hF]
    clear hF
    obtain ⟨G1, G2, Gb, Gh, Gf⟩ := G
    change AC _ _ _ (upd (upd (upd H0 ⟨2, []⟩ (some (IO (cN b)))) ⟨1, []⟩ (some (IO (cN l)))) ⟨0, []⟩ (some ⟨6, [[QL ms, I sg, .own 1 ⟨1, []⟩ 0 l.length, .own 1 ⟨2, []⟩ 0 b.length, I ht, Bo fd]]⟩)) (Bo G1) _
    have hur : (IR (cN l)).length = l.length := by simp
    have hpl : (dobj 1 (IR (cN l))).rows.length = l.length := by simp [dobj]
    generalize hle : ((m + 1 : Nat) : Int) = le at *
    have hle2 : (m : Int) = le - 1 := by omega
    have hle0 : 1 ≤ le := by omega
    refine AC.of_body 3 Try.func106 rfl (fun l h => by simp [upd] at h; (repeat' split at h) <;> simp_all) (fun C hC => ?_)
    simp only [startFr, Try.ntmps106, List.length_cons, List.length_nil, Nat.reduceAdd, Nat.reduceSub, List.replicate_succ, List.replicate_zero, List.cons_append, List.nil_append]
    have hD : ∀ l, C.D0 l → l = ⟨0, []⟩ ∨ l = ⟨1, []⟩ ∨ l = ⟨2, []⟩ := fun l h => by have := (hC l).1 h; simp [upd] at this; (repeat' split at this) <;> simp_all
    repeat' (first | ((first | apply Ba | (apply Bb; (· rfl); (· rfl)) | (apply Bc; (· exact nxE)) | (apply Bd; (· rfl); (· rfl); (· exact nxE))); (· first | exact OpOk.nilCheck rfl rfl | exact Ok.pe)) | ((first | apply Ca | (apply Cb; (· exact nxE))); (· first | exact Ok.e0)) | refine Sx ?_ | (refine Sy (fun h => ?_) (fun h => ?_) <;> try (exfalso; omega; done)) | refine Sz (fun h => ?_) (fun h => ?_))
    refine AW.loop (X := {s : Nat × StW // s.1 ≤ ms.length ∧ hOk s.2 ∧ goL F (List.range' s.1 (ms.length - s.1)) l s.2 = (G1, G2, Gb, Gh, Gf)}) (fun s => ⟨[Bx 6 0, IL x, I le, Oo, Oo, Oo, Oo, Oo, Oo, Oo, Oo, Oo, Oo, Oo, Oo, Oo, Oo, Oo, Oo, Oo, Oo, Oo, Oo, Oo, Oo, Oo, Oo, Oo, Oo, Oo, Oo, Oo, Oo, Oo, Oo, Oo, Oo, Oo, Oo, Oo, Oo, Oo, Oo, Oo, Oo, Oo, Oo, Oo, Oo, Oo, Oo, Oo, Oo, Oo, Oo, Oo, QL ms, I ms.length, I (s.1.1 : Nat), Oo, Oo, Oo, Oo, Oo, Oo, Oo, Oo, Oo, Oo, Oo, Oo, Oo, Oo, Oo, Oo, Oo, Oo, Oo, Oo, Oo, Oo, Oo, Oo, Oo, Oo, Oo, Oo, Oo, Oo, Oo, Oo, Oo, Oo, Oo, Oo, Oo, Oo, Oo, Oo, Oo], heapL [(⟨0, []⟩, ⟨0, []⟩, ⟨6, [[QL ms, I sg, .own 1 ⟨3, []⟩ 0 l.length, .own 1 ⟨4, []⟩ 0 s.1.2.1.length, I s.1.2.2.1, Bo s.1.2.2.2]]⟩), (⟨3, []⟩, ⟨3, []⟩, IO (cN l)), (⟨4, []⟩, ⟨4, []⟩, IO (cN s.1.2.1))], 900⟩) (fun s => ms.length - s.1.1) ⟨(0, b, ht, fd), Nat.zero_le _, hst, by simpa using hG⟩ ?_ (fun s => ?_)
    ·
      (apply Le.headZ [_, _, _] rfl)
      all_goals (try dsimp only [srcs])
      (case' hfr | hob => (repeat' (first | refine La ?_ ?_ | exact Lc | refine Lo ?_ | refine ⟨⟨_, rfl, ?_⟩, ?_⟩ | refine Lx ?_)))
      all_goals (first | (rfl) | exact Ld)
    obtain ⟨⟨c, b, ht, fd⟩, hc, hst, hinv⟩ := s
    simp only at hc hst hinv ⊢
    by_cases hlt : c < ms.length
    case neg =>
      rw [show ms.length - c = 0 by omega] at hinv
      cases hinv
      repeat' (first | ((first | apply Ba | (apply Bb; (· rfl); (· rfl)) | (apply Bc; (· exact nxE)) | (apply Bd; (· rfl); (· rfl); (· exact nxE))); (· first | exact OpOk.nilCheck rfl rfl | exact Ok.pe)) | ((first | apply Ca | (apply Cb; (· exact nxE))); (· first | exact Ok.e0)) | refine Sx ?_ | (refine Sy (fun h => ?_) (fun h => ?_) <;> try (exfalso; omega; done)) | refine Sz (fun h => ?_) (fun h => ?_))
      (refine end1p (by first | exact .inl rfl | exact .inr rfl) rfl (by first | exact rT rfl | exact rCA rfl rfl rfl rfl (by simp) | exact rCC rfl rfl rfl rfl rfl) ?_ (Le.head ([(⟨0, []⟩, ⟨0, []⟩, ⟨6, [[QL ms, I sg, .own 1 ⟨3, []⟩ 0 l.length, .own 1 ⟨4, []⟩ 0 Gb.length, I Gh, Bo Gf]]⟩), (⟨3, []⟩, ⟨3, []⟩, IO (cN l)), (⟨4, []⟩, ⟨4, []⟩, IO (cN Gb))]) (by first | exact fun l h => absurd h (hD l) | (intro l h; rcases hD l h with rfl; simp [tauL]) | (intro l h; rcases hD l h with rfl | rfl <;> simp [tauL]; done) | (intro l h; rcases hD l h with rfl | rfl | rfl <;> simp [tauL])) ?_ ?_ (by simp) (by simp) (by simp [AllP]) (n' := 1000)); (· rfl)) <;> (repeat' (first | exact trivial | exact ARs.nil | refine ARs.cons ?_ ?_ | exact AR.dead _ | exact AR.dd _ | exact AR.i (by (try dsimp only); omega) | exact AR.ptr _ _ _ _ (by simp [heapL, upd]) | exact AR.own _ _ _ _ (by simp [heapL, upd]) | refine AR.ownE _ _ _ ?_ (by simp [heapL, upd]) | refine ⟨⟨_, rfl, ?_⟩, ?_⟩ | exact ObA.data | refine ObA.box ?_ | refine ObA.frE ?_ | refine ObA.dataE ?_ | refine ARs.agg ?_ | refine ARs.tup ?_ | exact AR.clo' ARs.nil ARs.nil | exact AR.clo' ARs.nil (hca _ _)))
    rw [goL_step hlt] at hinv
    have hFc := hFj c (b, ht, fd)
    have hget : ms[c]? = some (ms.getD c []) := getQ_atW hlt
    have hrow := QR_get hget
    have hMt := hok _ (List.mem_of_getElem? hget)
    generalize ms.getD c [] = t at *
    have hS := timesStep_ac t n hMt x hxl hxv
    have hV := areValues_ac (stepL t n x) (by rw [stepL_len]; omega)
    have hsl : (stepL t n x).length = n := stepL_len
    have hQ := hS
    clear hS
    generalize stepL t n x = z at *
    cases hz : z.all isVal
    · rw [hz] at hV hFc
      rw [if_neg (by simp)] at hFc
      rw [hFc, if_neg (by simp)] at hinv
      cases hinv
      repeat' (first | ((first | apply Ba | (apply Bb; (· rfl); (· rfl)) | (apply Bc; (· exact nxE)) | (apply Bd; (· rfl); (· rfl); (· exact nxE))); (· first | exact Kz rfl rfl (hQ) (Ad (Ad An)) | exact Kz rfl rfl (hV) (Ad An) | exact OpOk.nilCheck rfl rfl | exact Ok.pe)) | ((first | apply Ca | (apply Cb; (· exact nxE))); (· first | exact Ok.e0)) | refine Sx ?_ | (refine Sy (fun h => ?_) (fun h => ?_) <;> try (exfalso; omega; done)) | refine Sz (fun h => ?_) (fun h => ?_))
      (refine end1p (by first | exact .inl rfl | exact .inr rfl) rfl (by first | exact rT rfl | exact rCA rfl rfl rfl rfl (by simp) | exact rCC rfl rfl rfl rfl rfl) ?_ (Le.head ([(⟨0, []⟩, ⟨0, []⟩, ⟨6, [[QL ms, I sg, .own 1 ⟨3, []⟩ 0 l.length, .own 1 ⟨4, []⟩ 0 Gb.length, I Gh, Bo Gf]]⟩), (⟨3, []⟩, ⟨3, []⟩, IO (cN l)), (⟨4, []⟩, ⟨4, []⟩, IO (cN Gb))]) (by first | exact fun l h => absurd h (hD l) | (intro l h; rcases hD l h with rfl; simp [tauL]) | (intro l h; rcases hD l h with rfl | rfl <;> simp [tauL]; done) | (intro l h; rcases hD l h with rfl | rfl | rfl <;> simp [tauL])) ?_ ?_ (by simp) (by simp) (by simp [AllP]) (n' := 1000)); (· rfl)) <;> (repeat' (first | exact trivial | exact ARs.nil | refine ARs.cons ?_ ?_ | exact AR.dead _ | exact AR.dd _ | exact AR.i (by (try dsimp only); omega) | exact AR.ptr _ _ _ _ (by simp [heapL, upd]) | exact AR.own _ _ _ _ (by simp [heapL, upd]) | refine AR.ownE _ _ _ ?_ (by simp [heapL, upd]) | refine ⟨⟨_, rfl, ?_⟩, ?_⟩ | exact ObA.data | refine ObA.box ?_ | refine ObA.frE ?_ | refine ObA.dataE ?_ | refine ARs.agg ?_ | refine ARs.tup ?_ | exact AR.clo' ARs.nil ARs.nil | exact AR.clo' ARs.nil (hca _ _)))
    · rw [hz] at hV hFc
      rw [if_pos rfl] at hFc
      have hIH := ih z (l ++ [c]) (b, ht, fd) hsl hz (by simp; omega) hst
      have hRw := goP_word (ms := ms) (n := n) (sg := sg) (k := m) (x := z) (l := l ++ [c]) (st := (b, ht, fd))
      have hRb := goP_bnd (ms := ms) (n := n) (sg := sg) (k := m) (x := z) (l := l ++ [c]) (st := (b, ht, fd)) hz hst
      rw [hFc] at hinv
      clear hFc
      generalize goP ms n sg m z (l ++ [c]) (b, ht, fd) = R at *
      obtain ⟨r1, r2, rb, rh, rf⟩ := R
      simp only at hIH hinv hRw hRb
      rw [hle2] at hIH
      cases r1
      · rw [if_neg (by simp)] at hinv
        cases hinv
        unfold gsH gsR gsD gsE IO at hIH
        rw [cN_snoc, show (l ++ [c]).length = l.length + 1 by simp] at hIH
        repeat' (first | ((first | apply Ba | (apply Bb; (· rfl); (· rfl)) | (apply Bc; (· exact nxE)) | (apply Bd; (· rfl); (· rfl); (· exact nxE))); (· first | exact Kz rfl rfl (hQ) (Ad (Ad An)) | exact Kz rfl rfl (hV) (Ad An) | exact OpOk.nilCheck rfl rfl | exact Ok.append1 (row := [DI (c : Nat)]) rfl rfl (by decide) rfl rfl hur rfl rfl rfl (by rfl) (by omega) (by omega) | exact OpOk.callB5 (b := ⟨0, []⟩) (p := ⟨920, []⟩) (q := ⟨4, []⟩) (ds := [QL ms, I sg]) (es := [I ht, Bo fd]) (ds' := [QL ms, I sg]) (es' := [I Gh, Bo Gf]) rfl rfl hIH rfl rfl rfl (by decide) (by decide) (by decide) rfl (.cons (AR.ptr _ _ _ _ (by simp)) (.cons (.dd _) (.cons (.dd _) .nil))) gsD_ar gsD_rn gsE_ar gsE_rn | exact Ok.pe)) | ((first | apply Ca | (apply Cb; (· exact nxE))); (· first | exact Ok.append1 (row := [DI (c : Nat)]) rfl rfl (by decide) rfl rfl hur rfl rfl rfl (by rfl) (by omega) (by omega) | exact OpOk.callB5 (b := ⟨0, []⟩) (p := ⟨920, []⟩) (q := ⟨4, []⟩) (ds := [QL ms, I sg]) (es := [I ht, Bo fd]) (ds' := [QL ms, I sg]) (es' := [I Gh, Bo Gf]) rfl rfl hIH rfl rfl rfl (by decide) (by decide) (by decide) rfl (.cons (AR.ptr _ _ _ _ (by simp)) (.cons (.dd _) (.cons (.dd _) .nil))) gsD_ar gsD_rn gsE_ar gsE_rn | exact Ok.e0)) | refine Sx ?_ | (refine Sy (fun h => ?_) (fun h => ?_) <;> try (exfalso; omega; done)) | refine Sz (fun h => ?_) (fun h => ?_))
        (refine end1p (by first | exact .inl rfl | exact .inr rfl) rfl (by first | exact rT rfl | exact rCA rfl rfl rfl rfl (by simp) | exact rCC rfl rfl rfl rfl rfl) ?_ (Le.head ([(⟨0, []⟩, ⟨0, []⟩, ⟨6, [[QL ms, I sg, .own 1 ⟨3, []⟩ 0 G2.length, .own 1 ⟨4, []⟩ 0 Gb.length, I Gh, Bo Gf]]⟩), (⟨3, []⟩, ⟨928, [3]⟩, IO (cN G2)), (⟨4, []⟩, ⟨928, [4]⟩, IO (cN Gb))]) (by first | exact fun l h => absurd h (hD l) | (intro l h; rcases hD l h with rfl; simp [tauL]) | (intro l h; rcases hD l h with rfl | rfl <;> simp [tauL]; done) | (intro l h; rcases hD l h with rfl | rfl | rfl <;> simp [tauL])) ?_ ?_ (by simp) (by simp) (by simp [AllP]) (n' := 1000)); (· rfl)) <;> (repeat' (first | exact trivial | exact ARs.nil | refine ARs.cons ?_ ?_ | exact AR.dead _ | exact AR.dd _ | exact AR.i (by (try dsimp only); omega) | exact AR.ptr _ _ _ _ (by simp [heapL, upd]) | exact AR.own _ _ _ _ (by simp [heapL, upd]) | refine AR.ownE _ _ _ ?_ (by simp [heapL, upd]) | refine ⟨⟨_, rfl, ?_⟩, ?_⟩ | exact ObA.data | refine ObA.box ?_ | refine ObA.frE ?_ | refine ObA.dataE ?_ | refine ARs.agg ?_ | refine ARs.tup ?_ | exact AR.clo' ARs.nil ARs.nil | exact AR.clo' ARs.nil (hca _ _)))
      · obtain rfl := hRw rfl
        rw [if_pos rfl] at hinv
        unfold gsH gsR gsD gsE IO at hIH
        rw [cN_snoc, show (l ++ [c]).length = l.length + 1 by simp] at hIH
        repeat' (first | ((first | apply Ba | (apply Bb; (· rfl); (· rfl)) | (apply Bc; (· exact nxE)) | (apply Bd; (· rfl); (· rfl); (· exact nxE))); (· first | exact Kz rfl rfl (hQ) (Ad (Ad An)) | exact Kz rfl rfl (hV) (Ad An) | exact Ok.sliceToO rfl rfl rfl (by omega) rfl (by omega) | exact OpOk.nilCheck rfl rfl | exact Ok.append1 (row := [DI (c : Nat)]) rfl rfl (by decide) rfl rfl hur rfl rfl rfl (by rfl) (by omega) (by omega) | exact OpOk.callB5 (b := ⟨0, []⟩) (p := ⟨920, []⟩) (q := ⟨4, []⟩) (ds := [QL ms, I sg]) (es := [I ht, Bo fd]) (ds' := [QL ms, I sg]) (es' := [I rh, Bo rf]) rfl rfl hIH rfl rfl rfl (by decide) (by decide) (by decide) rfl (.cons (AR.ptr _ _ _ _ (by simp)) (.cons (.dd _) (.cons (.dd _) .nil))) gsD_ar gsD_rn gsE_ar gsE_rn | exact Ok.storeC rfl rfl rfl rfl rfl (by simp; done) (by conv => lhs; whnf) (by rfl) (by rfl) rfl | exact Ok.pe)) | ((first | apply Ca | (apply Cb; (· exact nxE))); (· first | exact Ok.append1 (row := [DI (c : Nat)]) rfl rfl (by decide) rfl rfl hur rfl rfl rfl (by rfl) (by omega) (by omega) | exact OpOk.callB5 (b := ⟨0, []⟩) (p := ⟨920, []⟩) (q := ⟨4, []⟩) (ds := [QL ms, I sg]) (es := [I ht, Bo fd]) (ds' := [QL ms, I sg]) (es' := [I rh, Bo rf]) rfl rfl hIH rfl rfl rfl (by decide) (by decide) (by decide) rfl (.cons (AR.ptr _ _ _ _ (by simp)) (.cons (.dd _) (.cons (.dd _) .nil))) gsD_ar gsD_rn gsE_ar gsE_rn | exact Ok.storeC rfl rfl rfl rfl rfl (by simp; done) (by conv => lhs; whnf) (by rfl) (by rfl) rfl | exact Ok.e0)) | refine Sx ?_ | (refine Sy (fun h => ?_) (fun h => ?_) <;> try (exfalso; omega; done)) | refine Sz (fun h => ?_) (fun h => ?_))
        refine ⟨⟨(c + 1, rb, rh, rf), by simp only; omega, hRb, hinv⟩, ?_, by simp only; omega⟩
        refine (Le.takeL ⟨928, [3]⟩ l.length rfl).trans ?_
        (apply Le.headZ [_, _, _] rfl)
        all_goals (try dsimp only [srcs])
        (case' hfr | hob => (repeat' (first | refine La ?_ ?_ | exact Lc | refine Lo ?_ | refine ⟨⟨_, rfl, ?_⟩, ?_⟩ | refine Lx ?_)))
        all_goals (first | ((first | rfl | (simp [dobj]; done))) | exact Ld)
end Go.Proofs.Ytdgodkpobomneaa
end

section
namespace Go.Proofs.Ytdgodkpobomneaa
set_option linter.unusedSimpArgs false
set_option linter.unusedVariables false
open Go Go.RowKit
attribute [local irreducible] AL AD AW OpOk Le AC thenQ blockQ EndQ

/-! ### Words, the first letter first -/
theorem flat_extW [Mode] {M m : Nat} : ∀ {W : List (List Nat)}, (W.map (m :: ·)).flatMap (extW M) = (W.flatMap (extW M)).map (m :: ·)
  | [] => rfl
  | w :: W => by
    rw [List.map_cons, List.flatMap_cons, List.flatMap_cons, List.map_append, flat_extW]
    congr 1
    simp [extW]
theorem flat_flat [Mode] {f g : Nat → List (List Nat)} {M : Nat} (h : ∀ m, (f m).flatMap (extW M) = g m) : ∀ {q : List Nat}, (q.flatMap f).flatMap (extW M) = q.flatMap g
  | [] => rfl
  | m :: q => by
    rw [List.flatMap_cons, List.flatMap_append, flat_flat h, h, List.flatMap_cons]
theorem wds_head [Mode] {M : Nat} : ∀ {k : Nat}, wds M (k + 1) = (List.range M).flatMap fun m => (wds M k).map (m :: ·)
  | 0 => by
    simp only [wds, List.flatMap_cons, List.flatMap_nil, List.append_nil, extW, List.nil_append, List.map_cons, List.map_nil]
    generalize List.range M = q
    induction q with
    | nil => rfl
    | cons a q ih => rw [List.map_cons, ih, List.flatMap_cons]; rfl
  | k + 1 => by
    refine (congrArg (List.flatMap (extW M)) (wds_head (k := k))).trans ?_
    exact flat_flat fun m => flat_extW
/-! ### The search's answer -/
theorem goL_fold [Mode] {F : Nat → StW → Bool × List Nat × StW} {A : Nat → Bool} {g : Nat → StW → StW} (hF : ∀ m s, (F m s).1 = A m ∧ ((F m s).1 = true → (F m s).2.2 = g m s)) : ∀ {q l : List Nat} {st : StW}, (goL F q l st).1 = q.all A ∧ ((goL F q l st).1 = true → (goL F q l st).2.2 = q.foldl (fun s m => g m s) st)
  | [], _, _ => ⟨rfl, fun _ => rfl⟩
  | m :: q, l, st => by
    obtain ⟨h1, h2⟩ := hF m st
    unfold goL
    rw [List.all_cons, List.foldl_cons]
    by_cases e : (F m st).1 = true
    · rw [if_pos e, ← h1, e, Bool.true_and, ← h2 e]
      exact goL_fold hF
    · rw [if_neg e, ← h1]
      rw [Bool.not_eq_true] at e
      rw [e]
      exact ⟨rfl, fun h => absurd h (by simp)⟩
theorem foldl_flatW [Mode] {α β : Type} {f : β → α → β} {g : Nat → List α} : ∀ {q : List Nat} {b : β}, (q.flatMap g).foldl f b = q.foldl (fun s m => (g m).foldl f s) b
  | [], _ => rfl
  | m :: q, b => by rw [List.flatMap_cons, List.foldl_append, List.foldl_cons]; exact foldl_flatW
theorem all_flatW [Mode] {α : Type} {p : α → Bool} {g : Nat → List α} : ∀ {q : List Nat}, (q.flatMap g).all p = q.all fun m => (g m).all p
  | [] => rfl
  | m :: q => by rw [List.flatMap_cons, List.all_append, List.all_cons, all_flatW]
theorem wds_ne [Mode] {M k : Nat} (h : 0 < M) : ∃ w q, wds M k = w :: q := by
  cases e : wds M k with
  | nil =>
    have h1 : (wds M k).length = M ^ k := wds_len
    rw [e] at h1
    have := Nat.pow_pos (n := k) h
    simp at h1
    omega
  | cons w q => exact ⟨w, q, rfl⟩
theorem goP_fold [Mode] {ms : List (List (List Int))} {n : Nat} {sg : Int} (hm : 0 < ms.length) : ∀ {k : Nat} {x : List Int} {l : List Nat} {st : StW},
    (goP ms n sg k x l st).1 = (wds ms.length k).all (fun w => (afR ms n w x).isSome) ∧ ((goP ms n sg k x l st).1 = true → (goP ms n sg k x l st).2.2 = (wds ms.length k).foldl (fun s w => upB sg (l ++ w) (afH ms n x w) s) st)
  | 0, x, l, st => by
    simp [goP, wds, afR, afH]
  | k + 1, x, l, st => by
    have h := goL_fold (F := fun m s => if (stepL (ms.getD m []) n x).all isVal = true then goP ms n sg k (stepL (ms.getD m []) n x) (l ++ [m]) s else (false, l, s))
      (A := fun m => ((wds ms.length k).map (m :: ·)).all fun w => (afR ms n w x).isSome)
      (g := fun m s => ((wds ms.length k).map (m :: ·)).foldl (fun s w => upB sg (l ++ w) (afH ms n x w) s) s) (fun m s => by
        by_cases e : (stepL (ms.getD m []) n x).all isVal = true
        · obtain ⟨g1, g2⟩ := goP_fold (sg := sg) hm (k := k) (x := stepL (ms.getD m []) n x) (l := l ++ [m]) (st := s)
          have ea : ∀ w, afR ms n (m :: w) x = afR ms n w (stepL (ms.getD m []) n x) := fun w => by simp only [afR]; rw [if_pos e]
          have eh : ∀ w, afH ms n x (m :: w) = afH ms n (stepL (ms.getD m []) n x) w := fun w => by unfold afH; rw [ea]
          rw [if_pos e]
          refine ⟨g1.trans ?_, fun h => (g2 h).trans ?_⟩
          · rw [List.all_map]
            refine congrArg (List.all _) (funext fun w => ?_)
            show _ = (afR ms n (m :: w) x).isSome
            rw [ea]
          · rw [List.foldl_map]
            congr 1
            funext s w
            rw [eh, List.append_assoc]; rfl
        · have ea : ∀ w, afR ms n (m :: w) x = none := fun w => by simp only [afR]; rw [if_neg e]
          rw [if_neg e]
          obtain ⟨w, q, hw⟩ := wds_ne (k := k) hm
          refine ⟨?_, fun h => absurd h (by simp)⟩
          simp only [hw, List.map_cons, List.all_cons, ea]
          rfl) (q := List.range' 0 ms.length) (l := l) (st := st)
    rw [wds_head, all_flatW, foldl_flatW, List.range_eq_range']
    exact h
/-! ### The search's state and the reference's -/
def toS : Option (List Nat × Int) → StW
  | none => ([], 0, false)
  | some (w, h) => (w, h, true)
def sgM (most : Bool) : Int := if most = true then 1 else -1
theorem upB_toS [Mode] {most : Bool} {w : List Nat} {t : Int} {o : Option (List Nat × Int)} : upB (sgM most) w t (toS o) = toS (bwS most o w t) := by
  cases o with
  | none => simp [upB, toS, bwS]
  | some p =>
    obtain ⟨b, g⟩ := p
    have e1 : bwS most (some (b, g)) w t = if (most = true ∧ t > g) ∨ (most = false ∧ t < g) then some (w, t) else some (b, g) := rfl
    have e2 : upB (sgM most) w t (toS (some (b, g))) = if true = false ∨ sgM most * g < sgM most * t then (w, t, true) else (b, g, true) := rfl
    rw [e1, e2]
    cases most
    · rw [show sgM false = -1 from rfl]
      by_cases h : t < g
      · rw [if_pos (Or.inr (by omega)), if_pos (Or.inr ⟨rfl, h⟩)]; rfl
      · rw [if_neg (by rintro (h1 | h1); cases h1; omega), if_neg (by rintro (⟨h1, _⟩ | ⟨_, h1⟩); cases h1; omega)]; rfl
    · rw [show sgM true = 1 from rfl]
      by_cases h : t > g
      · rw [if_pos (Or.inr (by omega)), if_pos (Or.inl ⟨rfl, h⟩)]; rfl
      · rw [if_neg (by rintro (h1 | h1); cases h1; omega), if_neg (by rintro (⟨_, h1⟩ | ⟨h1, _⟩); omega; cases h1)]; rfl
theorem fold_toS [Mode] {most : Bool} {f : List Nat → Int} : ∀ {W : List (List Nat)} {o : Option (List Nat × Int)}, W.foldl (fun s w => upB (sgM most) ([] ++ w) (f w) s) (toS o) = toS (W.foldl (fun s w => bwS most s w (f w)) o)
  | [], _ => rfl
  | w :: W, o => by
    rw [List.foldl_cons, List.foldl_cons, List.nil_append, upB_toS]
    exact fold_toS
theorem goP_best [Mode] {ms : List (List (List Int))} {n : Nat} {most : Bool} (hm : 0 < ms.length) {k : Nat} {x : List Int} (h : hwAll ms n x (wds ms.length k) = true) : ∃ b g, bwF most (afH ms n x) (wds ms.length k) = some (b, g) ∧ goP ms n (sgM most) k x [] (toS none) = (true, [], b, g, true) := by
  obtain ⟨h1, h2⟩ := goP_fold (sg := sgM most) (n := n) hm (k := k) (x := x) (l := []) (st := toS none)
  have h3 := goP_word (ms := ms) (n := n) (sg := sgM most) (k := k) (x := x) (l := []) (st := toS none)
  have h4 : (goP ms n (sgM most) k x [] (toS none)).1 = true := h1.trans h
  obtain ⟨w, q, hw⟩ := wds_ne (k := k) hm
  obtain ⟨b, g, hb⟩ := bwF_some (most := most) (f := afH ms n x) (W := wds ms.length k) (i := (wds ms.length k).length) (by rw [hw]; simp) (Nat.le_refl _)
  rw [List.take_length] at hb
  refine ⟨b, g, hb, ?_⟩
  have h5 := (h2 h4).trans fold_toS
  have h6 : (goP ms n (sgM most) k x [] (toS none)).2.2 = (b, g, true) := h5.trans (congrArg toS hb)
  generalize goP ms n (sgM most) k x [] (toS none) = R at *
  obtain ⟨r1, r2, r3⟩ := R
  simp only at h3 h4 h6
  rw [h4, h3 h4, h6]
theorem goP_fails [Mode] {ms : List (List (List Int))} {n : Nat} {sg : Int} (hm : 0 < ms.length) {k : Nat} {x : List Int} {l : List Nat} {st : StW} (h : ¬ hwAll ms n x (wds ms.length k) = true) : (goP ms n sg k x l st).1 = false := by
  rw [(goP_fold (sg := sg) (n := n) hm (k := k) (x := x) (l := l) (st := st)).1]
  exact Bool.not_eq_true _ ▸ h
theorem frzI3 [Mode] {P : Program} {f : FuncId} {args : List AV} {n : Nat} {d e : D} {xs : List Int} (hc : AC P f args H0 (.tup [own1 1 n, .d d, .d e]) (hp1 (IO xs))) (hn : xs.length = n) : AC P f args H0 (.tup [IL xs, .d d, .d e]) H0 :=
  hc.frz (ARs.tup (.cons (AR.whole rfl trivial (by rw [IR_len]; exact hn)) (.cons (.dd _) (.cons (.dd _) .nil))))
set_option maxHeartbeats 4000000 in
theorem iBestWord_ac [Mode] (ms : List (List (List Int))) (hm : MsOk ms) (x : List Int) (hx : x.length ≤ 1000000) (k : Int) (most : Bool) : AC Try.prog 44 [QL ms, IL x, I k, I (sgM most)] H0 (.tup [IL (cN (hwP ms x k most).1), I (hwP ms x k most).2, I (hwC ms x k)]) H0 := by
  have hIn := within_ac k 0 6
  have hCo := checkModes_ac ms hm x hx
  by_cases h0 : inC (moC ms x) (wi k 0 6) = 0
  case neg =>
    have e1 : hwC ms x k = inC (moC ms x) (wi k 0 6) := by unfold hwC; rw [if_neg h0]
    have e2 : hwP ms x k most = ([], 0) := by unfold hwP; rw [e1, if_neg h0]
    rw [e1, e2, show cN [] = ([] : List Int) from rfl]
    simp only
    unfold inC at h0 ⊢
    generalize moC ms x = c at *
    generalize wi k 0 6 = b at *
    generalize sgM most = sg at *
    by_cases hc : c = 0
    · rw [if_pos hc] at h0 ⊢
      subst hc
      cases b
      case true => exact absurd rfl h0
      change AC _ _ _ _ (.tup [IL [], I 0, I 2]) _
      refine AC.of_body 0 Try.func44 rfl (fun l h => absurd rfl h) (fun C hC => ?_)
      have hD : ∀ l, ¬ C.D0 l := fun l h => (hC l).1 h rfl
      simp only [startFr, Try.ntmps44, List.length_cons, List.length_nil, Nat.reduceAdd, Nat.reduceSub, List.replicate_succ, List.replicate_zero, List.cons_append, List.nil_append]
      repeat' (first | ((first | apply Ba | (apply Bb; (· rfl); (· rfl)) | (apply Bc; (· exact nxE)) | (apply Bd; (· rfl); (· rfl); (· exact nxE))); (· first | exact Kz rfl rfl (hCo) (Ad (Ad An)) | exact Kz rfl rfl (hIn) (Ad (Ad (Ad An))) | exact OpOk.nilCheck rfl rfl | exact Ok.pe)) | ((first | apply Ca | (apply Cb; (· exact nxE))); (· first | exact Ok.e0)) | refine Sx ?_ | (refine Sy (fun h => ?_) (fun h => ?_) <;> try (exfalso; omega; done)) | refine Sz (fun h => ?_) (fun h => ?_))
      refine Yc ?_
      (apply Le.headZ (hs := []) [] rfl)
      all_goals (try dsimp only [srcs])
      (case' hfr => (repeat' (first | refine La ?_ ?_ | exact Lc | refine Lo ?_ | refine ⟨⟨_, rfl, ?_⟩, ?_⟩ | refine Lx ?_)))
      all_goals (first | exact Ld | exact trivial | (rfl))
    · rw [if_neg hc]
      refine AC.of_body 0 Try.func44 rfl (fun l h => absurd rfl h) (fun C hC => ?_)
      have hD : ∀ l, ¬ C.D0 l := fun l h => (hC l).1 h rfl
      simp only [startFr, Try.ntmps44, List.length_cons, List.length_nil, Nat.reduceAdd, Nat.reduceSub, List.replicate_succ, List.replicate_zero, List.cons_append, List.nil_append]
      repeat' (first | ((first | apply Ba | (apply Bb; (· rfl); (· rfl)) | (apply Bc; (· exact nxE)) | (apply Bd; (· rfl); (· rfl); (· exact nxE))); (· first | exact Kz rfl rfl (hCo) (Ad (Ad An)) | exact Kz rfl rfl (hIn) (Ad (Ad (Ad An))) | exact OpOk.nilCheck rfl rfl | exact Ok.pe)) | ((first | apply Ca | (apply Cb; (· exact nxE))); (· first | exact Ok.e0)) | refine Sx ?_ | (refine Sy (fun h => ?_) (fun h => ?_) <;> try (exfalso; omega; done)) | refine Sz (fun h => ?_) (fun h => ?_))
      refine Yc ?_
      (apply Le.headZ (hs := []) [] rfl)
      all_goals (try dsimp only [srcs])
      (case' hfr => (repeat' (first | refine La ?_ ?_ | exact Lc | refine Lo ?_ | refine ⟨⟨_, rfl, ?_⟩, ?_⟩ | refine Lx ?_)))
      all_goals (first | exact Ld | exact trivial | (rfl))
  obtain ⟨h1, h2⟩ := inC_ok h0
  obtain ⟨n, ho, t0, q, e, hq3, h00, hqs⟩ := moC_ok h1
  rw [h1] at hCo
  rw [h2] at hIn
  have hk6 := wi_iff.1 h2
  obtain ⟨N, rfl⟩ : ∃ N : Nat, k = N := ⟨k.toNat, by omega⟩
  have hn2 := ho.n2
  have hhd : (ms.headD []).length = n := by rw [e]; exact h00.sq.l
  have hG := goOn_ac ms n (by omega) (sgM most) (by cases most; exact .inr rfl; exact .inl rfl) ho.m.2 ho.ok N x [] (toS none) ho.l ho.v (by simp; omega) ⟨by decide, by decide⟩
  have hwCe : hwC ms x N = (if hwAll ms n x (wds ms.length N) = true then 0 else 3) := by
    unfold hwC; rw [if_pos h0, hhd, Int.toNat_natCast]
  have hwPe : hwP ms x N most = if hwC ms x N = 0 then (bwF most (afH ms n x) (wds ms.length N)).getD ([], 0) else ([], 0) := by
    show (if _ then _ else _) = _
    rw [hhd, Int.toNat_natCast]
  rw [hwPe, hwCe]
  by_cases hal : hwAll ms n x (wds ms.length N) = true
  · obtain ⟨b, g, hb, hgo⟩ := goP_best (most := most) (n := n) ho.m.1 hal
    rw [if_pos hal, if_pos rfl, hb]
    rw [hgo] at hG
    simp only [Option.getD_some]
    generalize sgM most = sg at *
    refine frzI3 (n := b.length) ?_ (by simp)
    clear hwCe hwPe hb hgo
    refine AC.of_body 0 Try.func44 rfl (fun l h => absurd rfl h) (fun C hC => ?_)
    have hD : ∀ l, ¬ C.D0 l := fun l h => (hC l).1 h rfl
    simp only [startFr, Try.ntmps44, List.length_cons, List.length_nil, Nat.reduceAdd, Nat.reduceSub, List.replicate_succ, List.replicate_zero, List.cons_append, List.nil_append]
    repeat' (first | ((first | apply Ba | (apply Bb; (· rfl); (· rfl)) | (apply Bc; (· exact nxE)) | (apply Bd; (· rfl); (· rfl); (· exact nxE))); (· first | exact Kz rfl rfl (hCo) (Ad (Ad An)) | exact Kz rfl rfl (hIn) (Ad (Ad (Ad An))) | exact OpOk.nilCheck rfl rfl | exact Ok.pe)) | ((first | apply Ca | (apply Cb; (· exact nxE))); (· first | exact Ok.e0)) | refine Sx ?_ | (refine Sy (fun h => ?_) (fun h => ?_) <;> try (exfalso; omega; done)) | refine Sz (fun h => ?_) (fun h => ?_))
    refine AL.le ?_ ((Le.nilB (l := ⟨15, []⟩) (cs := [QL ms, I sg, .d (.v (.slice none 0 0)), .d (.v (.slice none 0 0)), I 0, Bo false]) (cs' := [QL ms, I sg, .own 1 ⟨19, []⟩ 0 0, .d (.v (.slice none 0 0)), I 0, Bo false]) 1 rfl rfl (fun j c c' h1 h2 => by rcases j with _ | _ | _ | _ | _ | _ | j <;> simp_all)).trans (Le.nilB (l := ⟨15, []⟩) (cs := [QL ms, I sg, .own 1 ⟨19, []⟩ 0 0, .d (.v (.slice none 0 0)), I 0, Bo false]) (cs' := [QL ms, I sg, .own 1 ⟨19, []⟩ 0 0, .own 1 ⟨20, []⟩ 0 0, I 0, Bo false]) 1 rfl rfl (fun j c c' h1 h2 => by rcases j with _ | _ | _ | _ | _ | _ | j <;> simp_all)))
    repeat' (first | ((first | apply Ba | (apply Bb; (· rfl); (· rfl)) | (apply Bc; (· exact nxE)) | (apply Bd; (· rfl); (· rfl); (· exact nxE))); (· first | exact OpOk.nilCheck rfl rfl | exact OpOk.callB5 (b := ⟨15, []⟩) (p := ⟨19, []⟩) (q := ⟨20, []⟩) (ds := [QL ms, I sg]) (es := [I 0, Bo false]) (ds' := [QL ms, I sg]) (es' := [I g, Bo true]) rfl rfl hG rfl rfl rfl (by decide) (by decide) (by decide) rfl (.cons (AR.ptr _ _ _ _ (by simp)) (.cons (.dd _) (.cons (.dd _) .nil))) gsD_ar gsD_rn gsE_ar gsE_rn | exact Ok.pe)) | ((first | apply Ca | (apply Cb; (· exact nxE))); (· first | exact OpOk.callB5 (b := ⟨15, []⟩) (p := ⟨19, []⟩) (q := ⟨20, []⟩) (ds := [QL ms, I sg]) (es := [I 0, Bo false]) (ds' := [QL ms, I sg]) (es' := [I g, Bo true]) rfl rfl hG rfl rfl rfl (by decide) (by decide) (by decide) rfl (.cons (AR.ptr _ _ _ _ (by simp)) (.cons (.dd _) (.cons (.dd _) .nil))) gsD_ar gsD_rn gsE_ar gsE_rn | exact Ok.e0)) | refine Sx ?_ | (refine Sy (fun h => ?_) (fun h => ?_) <;> try (exfalso; omega; done)) | refine Sz (fun h => ?_) (fun h => ?_))
    refine Yc ?_
    (apply Le.head [(⟨0, []⟩, _, _)])
    (case' hfr | hob => (repeat' (first | refine La ?_ ?_ | exact Lc | refine Lo ?_ | refine ⟨⟨_, rfl, ?_⟩, ?_⟩ | refine Lx ?_)))
    all_goals (first | exact Ld | (rfl))
  · have hgo := goP_fails (sg := sgM most) (n := n) (l := []) (st := toS none) ho.m.1 hal
    rw [if_neg hal, if_neg (by decide)]
    simp only
    rw [show cN [] = ([] : List Int) from rfl]
    generalize sgM most = sg at *
    generalize goP ms n sg N x [] (toS none) = R at *
    obtain ⟨r1, r2, rb, rh, rf⟩ := R
    simp only at hgo hG
    subst hgo
    clear hwCe hwPe
    refine AC.of_body 0 Try.func44 rfl (fun l h => absurd rfl h) (fun C hC => ?_)
    have hD : ∀ l, ¬ C.D0 l := fun l h => (hC l).1 h rfl
    simp only [startFr, Try.ntmps44, List.length_cons, List.length_nil, Nat.reduceAdd, Nat.reduceSub, List.replicate_succ, List.replicate_zero, List.cons_append, List.nil_append]
    repeat' (first | ((first | apply Ba | (apply Bb; (· rfl); (· rfl)) | (apply Bc; (· exact nxE)) | (apply Bd; (· rfl); (· rfl); (· exact nxE))); (· first | exact Kz rfl rfl (hCo) (Ad (Ad An)) | exact Kz rfl rfl (hIn) (Ad (Ad (Ad An))) | exact OpOk.nilCheck rfl rfl | exact Ok.pe)) | ((first | apply Ca | (apply Cb; (· exact nxE))); (· first | exact Ok.e0)) | refine Sx ?_ | (refine Sy (fun h => ?_) (fun h => ?_) <;> try (exfalso; omega; done)) | refine Sz (fun h => ?_) (fun h => ?_))
    refine AL.le ?_ ((Le.nilB (l := ⟨15, []⟩) (cs := [QL ms, I sg, .d (.v (.slice none 0 0)), .d (.v (.slice none 0 0)), I 0, Bo false]) (cs' := [QL ms, I sg, .own 1 ⟨19, []⟩ 0 0, .d (.v (.slice none 0 0)), I 0, Bo false]) 1 rfl rfl (fun j c c' h1 h2 => by rcases j with _ | _ | _ | _ | _ | _ | j <;> simp_all)).trans (Le.nilB (l := ⟨15, []⟩) (cs := [QL ms, I sg, .own 1 ⟨19, []⟩ 0 0, .d (.v (.slice none 0 0)), I 0, Bo false]) (cs' := [QL ms, I sg, .own 1 ⟨19, []⟩ 0 0, .own 1 ⟨20, []⟩ 0 0, I 0, Bo false]) 1 rfl rfl (fun j c c' h1 h2 => by rcases j with _ | _ | _ | _ | _ | _ | j <;> simp_all)))
    repeat' (first | ((first | apply Ba | (apply Bb; (· rfl); (· rfl)) | (apply Bc; (· exact nxE)) | (apply Bd; (· rfl); (· rfl); (· exact nxE))); (· first | exact OpOk.nilCheck rfl rfl | exact OpOk.callB5 (b := ⟨15, []⟩) (p := ⟨19, []⟩) (q := ⟨20, []⟩) (ds := [QL ms, I sg]) (es := [I 0, Bo false]) (ds' := [QL ms, I sg]) (es' := [I rh, Bo rf]) rfl rfl hG rfl rfl rfl (by decide) (by decide) (by decide) rfl (.cons (AR.ptr _ _ _ _ (by simp)) (.cons (.dd _) (.cons (.dd _) .nil))) gsD_ar gsD_rn gsE_ar gsE_rn | exact Ok.pe)) | ((first | apply Ca | (apply Cb; (· exact nxE))); (· first | exact OpOk.callB5 (b := ⟨15, []⟩) (p := ⟨19, []⟩) (q := ⟨20, []⟩) (ds := [QL ms, I sg]) (es := [I 0, Bo false]) (ds' := [QL ms, I sg]) (es' := [I rh, Bo rf]) rfl rfl hG rfl rfl rfl (by decide) (by decide) (by decide) rfl (.cons (AR.ptr _ _ _ _ (by simp)) (.cons (.dd _) (.cons (.dd _) .nil))) gsD_ar gsD_rn gsE_ar gsE_rn | exact Ok.e0)) | refine Sx ?_ | (refine Sy (fun h => ?_) (fun h => ?_) <;> try (exfalso; omega; done)) | refine Sz (fun h => ?_) (fun h => ?_))
    refine Yc ?_
    (apply Le.headZ (hs := []) [] rfl)
    all_goals (try dsimp only [srcs])
    (case' hfr => (repeat' (first | refine La ?_ ?_ | exact Lc | refine Lo ?_ | refine ⟨⟨_, rfl, ?_⟩, ?_⟩ | refine Lx ?_)))
    all_goals (first | exact Ld | exact trivial | (rfl))
end Go.Proofs.Ytdgodkpobomneaa
end
