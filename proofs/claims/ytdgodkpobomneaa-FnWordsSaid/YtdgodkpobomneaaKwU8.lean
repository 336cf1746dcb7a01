/-
  Walks in the abstract reading, part 8.
-/
import Derived.Test.YtdgodkpobomneaaKwU7
import Derived.Test.YtdgodkpobomneaaKwA3
import Derived.Test.YtdgodkpobomneaaKwU4
import Derived.Test.YtdgodkpobomneaaKwU6
import Derived.Test.YtdgodkpobomneaaKwU5
section
namespace Go.Proofs.Ytdgodkpobomneaa
set_option linter.unusedSimpArgs false
set_option linter.unusedVariables false
open Go Go.RowKit
attribute [local irreducible] AL AD AW OpOk Le AC thenQ blockQ EndQ

section
variable {P : Program} {o : Oper} {A : Operand → AV} {H : Heap} {new : Nat}
theorem Ok.bs7I [Mode] {t e : TypeId} {k b : Nat} {z : Value} {x1 x2 x3 x4 x5 x6 x7 : Operand} {n1 n2 n3 n4 n5 n6 n7 : Int} (ho : o.op = .buildSlice t 7 #[(0, x1), (1, x2), (2, x3), (3, x4), (4, x5), (5, x6), (6, x7)]) [h : TySlice P t e k b z] (h1 : A x1 = I n1) (h2 : A x2 = I n2) (h3 : A x3 = I n3) (h4 : A x4 = I n4) (h5 : A x5 = I n5) (h6 : A x6 = I n6) (h7 : A x7 = I n7) (hk : k = 1) :
    OpOk P o A [] H new (.own k ⟨new, []⟩ 0 7) [.one ⟨new, []⟩ (some (IO [n1, n2, n3, n4, n5, n6, n7]))] := by
  subst hk
  have := OpOk.buildSlice (P := P) (H := H) (new := new) (A := A) [x1, x2, x3, x4, x5, x6, x7] ho rfl rfl (by decide) (by intro p hp; simp at hp; rcases hp with rfl | rfl | rfl | rfl | rfl | rfl | rfl <;> simp only [h1, h2, h3, h4, h5, h6, h7] <;> rfl) (by intro p hp; simp at hp; rcases hp with rfl | rfl | rfl | rfl | rfl | rfl | rfl <;> simp only [h1, h2, h3, h4, h5, h6, h7] <;> rfl)
  simpa [h1, h2, h3, h4, h5, h6, h7, AV.cells, dobj] using this
end
section
variable {H : Heap} {lent : Loc → Prop} {τ : Loc → Loc} {L : Loc → Prop}
/-- A table whose rows lie anywhere. -/
theorem AR.tabG [Mode] {m : MI} {n : Nat} (h : m.ok H) (h0 : m.nils = 0) (hn : m.R.length = n) (hl : lent m.src) (hr : ∀ i, i < n → lent (m.row i)) : AR H lent τ L (.d (.sl 1 (mRows m.k m.R))) (.own 1 m.src 0 n) := by
  obtain ⟨ho, hw⟩ := h
  refine .d (.own 1 m.src 0 n _ _ ho hl rfl (by rw [outer_len]; omega) (by simp [mRows, hn]) (fun i q q' hq hq' => ?_) (fun i q q' hq hq' j c c' hc hc' => ?_))
  all_goals
    rw [Nat.zero_add] at hq'
    simp only [mRows, List.getElem?_map, Option.map_eq_some_iff] at hq
    obtain ⟨x, hx, rfl⟩ := hq
    rw [outer_lt hx] at hq'
    obtain rfl := Option.some.inj hq'
  · rfl
  · cases j with
    | succ j => simp at hc
    | zero =>
      simp at hc hc'; subst hc; subst hc'
      have := DRel.dobj (H := H) (lent := lent) (off := 0) (n := x.length) (hw i x hx) (hr i (by rw [← hn]; exact (List.getElem?_eq_some_iff.1 hx).1)) (by omega)
      rwa [List.drop_zero, List.take_of_length_le (Nat.le_refl _)] at this
/-- A table of two rows. -/
theorem AR.two [Mode] {l a b : Loc} {ra rb : List (List D)} {na nb : Nat} (ho : H l = some ⟨1, [[.own 1 a 0 na], [.own 1 b 0 nb]]⟩) (ha : H a = some (dobj 1 ra)) (hb : H b = some (dobj 1 rb)) (hna : ra.length = na) (hnb : rb.length = nb) (h1 : lent l) (h2 : lent a) (h3 : lent b) : AR H lent τ L (.d (.sl 1 [[.sl 1 ra], [.sl 1 rb]])) (.own 1 l 0 2) := by
  subst hna; subst hnb
  have ka := DRel.dobj (H := H) (lent := lent) (off := 0) (n := ra.length) ha h2 (by omega)
  have kb := DRel.dobj (H := H) (lent := lent) (off := 0) (n := rb.length) hb h3 (by omega)
  rw [List.drop_zero, List.take_of_length_le (Nat.le_refl _)] at ka kb
  refine .d (.own 1 l 0 2 _ _ ho h1 rfl (by simp) (by simp) (fun i q q' hq hq' => ?_) (fun i q q' hq hq' j c c' hc hc' => ?_))
  all_goals
    rw [Nat.zero_add] at hq'
    match i with
    | 0 =>
      simp at hq hq'; subst hq; subst hq'
      first
        | rfl
        | (cases j with
           | succ j => simp at hc
           | zero => simp at hc hc'; subst hc; subst hc'; exact ka)
    | 1 =>
      simp at hq hq'; subst hq; subst hq'
      first
        | rfl
        | (cases j with
           | succ j => simp at hc
           | zero => simp at hc hc'; subst hc; subst hc'; exact kb)
    | i + 2 => simp at hq
end
theorem l01DrawValue_ex [Mode] (code : List Int) (hc : CodeOk code) (s : Src) (hs : SrcOk code s) : ∃ (v : Int) (s' : Src), (-9223372036854775808 ≤ v ∧ v ≤ 9223372036854775807) ∧ SrcOk code s' ∧ AC Try.prog 149 [Bx 3 0] (srcH code s) (I v) (srcH code s') := by
  obtain ⟨a, s1, a1, a2, h1, q1, N1⟩ := next_ex hc hs 24
  by_cases c0 : a ≤ 2
  · refine ⟨-1000000000000000, s1, by omega, h1, ?_⟩
    show AC _ _ _ (heapL [(⟨0, []⟩, ⟨0, []⟩, srcO code s)]) _ _
    refine AC.of_body 1 Try.func149 rfl (fun l h => by simp [heapL, upd] at h; simp [h]) (fun C hC => ?_)
    simp only [startFr, Try.ntmps149, List.length_cons, List.length_nil, Nat.reduceAdd, Nat.reduceSub, List.replicate_succ, List.replicate_zero, List.cons_append, List.nil_append]
    have hD : ∀ l, C.D0 l → l = ⟨0, []⟩ := fun l h => by have := (hC l).1 h; simp [heapL, upd] at this; exact this
    repeat' (first | ((first | apply Ba | (apply Bb; (· rfl); (· rfl)) | (apply Bc; (· exact nxE)) | (apply Bd; (· rfl); (· rfl); (· exact nxE))); (· first | exact Nx N1 rfl rfl rfl rfl rfl | exact Ok.pe)) | ((first | apply Ca | (apply Cb; (· exact nxE))); (· first | exact Nx N1 rfl rfl rfl rfl rfl | exact Ok.e0)) | refine Sx ?_ | (refine Sy (fun h => ?_) (fun h => ?_) <;> try (exfalso; omega; done)) | refine Sz (fun h => ?_) (fun h => ?_))
    all_goals
      refine Ya ?_
      (apply Le.headZ (hs := [(⟨0, []⟩, ⟨0, []⟩, _)]) [⟨0, []⟩] rfl)
      all_goals (try dsimp only [srcs])
      (case' hfr | hob => (repeat' (first | refine La ?_ ?_ | exact Lc | refine Lo ?_ | refine ⟨⟨_, rfl, ?_⟩, ?_⟩ | refine Lx ?_)))
      all_goals (first | exact Ld | exact trivial | (rfl))
  by_cases c3 : a = 3
  · obtain ⟨b, s2, hb, h2, p2, q2, K2⟩ := pick_ex hc h1 [1000000, 1000001, -1000000, -1000001, -999999999999999, -1000000000000001, 9223372036854775807] 7 rfl
    refine ⟨b, s2, by simp at hb; omega, h2, ?_⟩
    show AC _ _ _ (heapL [(⟨0, []⟩, ⟨0, []⟩, srcO code s)]) _ _
    refine AC.of_body 1 Try.func149 rfl (fun l h => by simp [heapL, upd] at h; simp [h]) (fun C hC => ?_)
    simp only [startFr, Try.ntmps149, List.length_cons, List.length_nil, Nat.reduceAdd, Nat.reduceSub, List.replicate_succ, List.replicate_zero, List.cons_append, List.nil_append]
    have hD : ∀ l, C.D0 l → l = ⟨0, []⟩ := fun l h => by have := (hC l).1 h; simp [heapL, upd] at this; exact this
    repeat' (first | ((first | apply Ba | (apply Bb; (· rfl); (· rfl)) | (apply Bc; (· exact nxE)) | (apply Bd; (· rfl); (· rfl); (· exact nxE))); (· first | exact Nx N1 rfl rfl rfl rfl rfl | exact Kx K2 rfl rfl rfl rfl rfl rfl (by decide) | exact Ok.bs7I rfl rfl rfl rfl rfl rfl rfl rfl rfl | exact Ok.pe)) | ((first | apply Ca | (apply Cb; (· exact nxE))); (· first | exact Nx N1 rfl rfl rfl rfl rfl | exact Kx K2 rfl rfl rfl rfl rfl rfl (by decide) | exact Ok.bs7I rfl rfl rfl rfl rfl rfl rfl rfl rfl | exact Ok.e0)) | refine Sx ?_ | (refine Sy (fun h => ?_) (fun h => ?_) <;> try (exfalso; omega; done)) | refine Sz (fun h => ?_) (fun h => ?_))
    all_goals
      refine Ya ?_
      (apply Le.headZ (hs := [(⟨0, []⟩, ⟨0, []⟩, _)]) [⟨0, []⟩] rfl)
      all_goals (try dsimp only [srcs])
      (case' hfr | hob => (repeat' (first | refine La ?_ ?_ | exact Lc | refine Lo ?_ | refine ⟨⟨_, rfl, ?_⟩, ?_⟩ | refine Lx ?_)))
      all_goals (first | exact Ld | exact trivial | (rfl))
  by_cases c4 : a = 4
  · obtain ⟨b, s2, b1, b2, h2, q2, N2⟩ := next_ex hc h1 2000
    refine ⟨(b - 1000) * 701, s2, by omega, h2, ?_⟩
    show AC _ _ _ (heapL [(⟨0, []⟩, ⟨0, []⟩, srcO code s)]) _ _
    refine AC.of_body 1 Try.func149 rfl (fun l h => by simp [heapL, upd] at h; simp [h]) (fun C hC => ?_)
    simp only [startFr, Try.ntmps149, List.length_cons, List.length_nil, Nat.reduceAdd, Nat.reduceSub, List.replicate_succ, List.replicate_zero, List.cons_append, List.nil_append]
    have hD : ∀ l, C.D0 l → l = ⟨0, []⟩ := fun l h => by have := (hC l).1 h; simp [heapL, upd] at this; exact this
    repeat' (first | ((first | apply Ba | (apply Bb; (· rfl); (· rfl)) | (apply Bc; (· exact nxE)) | (apply Bd; (· rfl); (· rfl); (· exact nxE))); (· first | exact Nx N1 rfl rfl rfl rfl rfl | exact Nx N2 rfl rfl rfl rfl rfl | exact Ok.pe)) | ((first | apply Ca | (apply Cb; (· exact nxE))); (· first | exact Nx N1 rfl rfl rfl rfl rfl | exact Nx N2 rfl rfl rfl rfl rfl | exact Ok.e0)) | refine Sx ?_ | (refine Sy (fun h => ?_) (fun h => ?_) <;> try (exfalso; omega; done)) | refine Sz (fun h => ?_) (fun h => ?_))
    all_goals
      refine Ya ?_
      (apply Le.headZ (hs := [(⟨0, []⟩, ⟨0, []⟩, _)]) [⟨0, []⟩] rfl)
      all_goals (try dsimp only [srcs])
      (case' hfr | hob => (repeat' (first | refine La ?_ ?_ | exact Lc | refine Lo ?_ | refine ⟨⟨_, rfl, ?_⟩, ?_⟩ | refine Lx ?_)))
      all_goals (first | exact Ld | exact trivial | (rfl))
  · obtain ⟨b, s2, b1, b2, h2, q2, N2⟩ := next_ex hc h1 41
    refine ⟨b - 20, s2, by omega, h2, ?_⟩
    show AC _ _ _ (heapL [(⟨0, []⟩, ⟨0, []⟩, srcO code s)]) _ _
    refine AC.of_body 1 Try.func149 rfl (fun l h => by simp [heapL, upd] at h; simp [h]) (fun C hC => ?_)
    simp only [startFr, Try.ntmps149, List.length_cons, List.length_nil, Nat.reduceAdd, Nat.reduceSub, List.replicate_succ, List.replicate_zero, List.cons_append, List.nil_append]
    have hD : ∀ l, C.D0 l → l = ⟨0, []⟩ := fun l h => by have := (hC l).1 h; simp [heapL, upd] at this; exact this
    repeat' (first | ((first | apply Ba | (apply Bb; (· rfl); (· rfl)) | (apply Bc; (· exact nxE)) | (apply Bd; (· rfl); (· rfl); (· exact nxE))); (· first | exact Nx N1 rfl rfl rfl rfl rfl | exact Nx N2 rfl rfl rfl rfl rfl | exact Ok.pe)) | ((first | apply Ca | (apply Cb; (· exact nxE))); (· first | exact Nx N1 rfl rfl rfl rfl rfl | exact Nx N2 rfl rfl rfl rfl rfl | exact Ok.e0)) | refine Sx ?_ | (refine Sy (fun h => ?_) (fun h => ?_) <;> try (exfalso; omega; done)) | refine Sz (fun h => ?_) (fun h => ?_))
    all_goals
      refine Ya ?_
      (apply Le.headZ (hs := [(⟨0, []⟩, ⟨0, []⟩, _)]) [⟨0, []⟩] rfl)
      all_goals (try dsimp only [srcs])
      (case' hfr | hob => (repeat' (first | refine La ?_ ?_ | exact Lc | refine Lo ?_ | refine ⟨⟨_, rfl, ?_⟩, ?_⟩ | refine Lx ?_)))
      all_goals (first | exact Ld | exact trivial | (rfl))
/-! ### Matrices -/
def mzC (code : List Int) (many : Int) (i k : Nat) (q : QF) : QF :=
  if 0 < (nxt code q.1 many).1 then ((nxt code (nxt code q.1 many).2 26).2, fun a b => if a = i ∧ b = k then (nxt code (nxt code q.1 many).2 26).1 - 10 else q.2 a b) else ((nxt code q.1 many).2, q.2)
def mzR (code : List Int) (many : Int) (i : Nat) (q : QF) : Nat → QF
  | 0 => q
  | k + 1 => mzC code many i k (mzR code many i q k)
def mzA (code : List Int) (many : Int) (n : Nat) (q : QF) : Nat → QF
  | 0 => q
  | i + 1 => mzR code many i (mzA code many n q i) n
theorem mzC_ok [Mode] {code : List Int} (hc : CodeOk code) {many : Int} {i k : Nat} {q : QF} (h : SrcOk code q.1) : SrcOk code (mzC code many i k q).1 := by
  obtain ⟨_, _, a3⟩ := nxt_ok hc h many
  obtain ⟨_, _, b3⟩ := nxt_ok hc a3 26
  unfold mzC; split <;> assumption
theorem mzR_ok [Mode] {code : List Int} (hc : CodeOk code) {many : Int} {i : Nat} {q : QF} (h : SrcOk code q.1) : ∀ k, SrcOk code (mzR code many i q k).1
  | 0 => h
  | k + 1 => mzC_ok hc (mzR_ok hc h k)
theorem mzA_ok [Mode] {code : List Int} (hc : CodeOk code) {many : Int} {n : Nat} {q : QF} (h : SrcOk code q.1) : ∀ i, SrcOk code (mzA code many n q i).1
  | 0 => h
  | i + 1 => mzR_ok hc (mzA_ok hc h i) n
theorem botF_tabR [Mode] {m n : Nat} : tabF m n (fun _ _ => BOT) = botT m n := by
  unfold tabF rowF botT
  simp [List.map_const']
set_option maxHeartbeats 8000000 in
theorem l02DrawSize_ex [Mode] (code : List Int) (hc : CodeOk code) (s : Src) (hs : SrcOk code s) (m n : Nat) (hm : 1 ≤ m ∧ m ≤ 10) (hn : 1 ≤ n ∧ n ≤ 10) : ∃ (T : List (List Int)) (s' : Src), TabOk T ∧ T.length ≤ m + 1 ∧ SrcOk code s' ∧ AC Try.prog 131 [Bx 3 0, I m, I n] (srcH code s) (TL T) (srcH code s') := by
  have hB := l02Bottom_ac m n (by omega) (by omega)
  rw [← botF_tabR] at hB
  obtain ⟨many, s1, hmany, h1, p1, q1, K1⟩ := pick_ex hc hs [2, 3, 5] 3 rfl
  have hA := mzA_ok hc (many := many) (n := n) (q := (s1, fun _ _ => BOT)) h1 m
  generalize hqA : mzA code many n (s1, fun _ _ => BOT) m = qA at hA
  obtain ⟨s2, F⟩ := qA
  simp only at hA
  obtain ⟨y, s3, y1, y2, h3, q3, N3⟩ := next_ex hc hA 60
  obtain ⟨v, s4, hv, h4, V4⟩ := l01DrawValue_ex code hc s3 h3
  have hrw := TRF_get (n := n) (f := F) (show 0 < m by omega)
  have hrl : (IR (rowF n (F 0))).length = n := by rw [IR_len, rowF_len]
  have htF : (TR (tabF m n F)).length = m := by rw [TR_len, tabF_len]
  have hcell : (IR (rowF n (F 0)))[0]? = some [DI (F 0 0)] := IRF_get (by omega)
  refine ⟨if y = 0 then tabF m n (fun a b => if a = 0 ∧ b = 0 then v else F a b) else if y = 1 then tabF m n F ++ [[]] else if y = 2 then [] else tabF m n F, if y = 0 then s4 else s3, ?_, ?_, by split <;> assumption, ?_⟩
  · split
    · exact tabF_ok (by omega) (by omega)
    · split
      · refine ⟨by simp [tabF_len]; omega, fun r hr => ?_⟩
        rcases List.mem_append.1 hr with hr | hr
        · rw [tabF_row2 r hr]; omega
        · simp at hr; subst hr; simp
      · split
        · exact ⟨by simp, fun r hr => by simp at hr⟩
        · exact tabF_ok (by omega) (by omega)
  · (repeat' split) <;> simp [tabF_len]
  show AC _ _ _ (heapL [(⟨0, []⟩, ⟨0, []⟩, srcO code s)]) _ _
  refine AC.of_body 1 Try.func131 rfl (fun l h => by simp [heapL, upd] at h; simp [h]) (fun C hC => ?_)
  simp only [startFr, Try.ntmps131, List.length_cons, List.length_nil, Nat.reduceAdd, Nat.reduceSub, List.replicate_succ, List.replicate_zero, List.cons_append, List.nil_append]
  have hD : ∀ l, C.D0 l → l = ⟨0, []⟩ := fun l h => by have := (hC l).1 h; simp [heapL, upd] at this; exact this
  repeat' (first | ((first | apply Ba | (apply Bb; (· rfl); (· rfl)) | (apply Bc; (· exact nxE)) | (apply Bd; (· rfl); (· rfl); (· exact nxE))); (· first | exact Tb rfl rfl (hB) (Sd (Sd Sn)) | exact Kx K1 rfl rfl rfl rfl rfl rfl (by decide) | exact Ok.bs3 rfl rfl rfl rfl rfl | exact Ok.pe)) | ((first | apply Ca | (apply Cb; (· exact nxE))); (· first | exact Tb rfl rfl (hB) (Sd (Sd Sn)) | exact Kx K1 rfl rfl rfl rfl rfl rfl (by decide) | exact Ok.bs3 rfl rfl rfl rfl rfl | exact Ok.e0)) | refine Sx ?_ | (refine Sy (fun h => ?_) (fun h => ?_) <;> try (exfalso; omega; done)) | refine Sz (fun h => ?_) (fun h => ?_))
  refine AW.loop (X := {k : Nat // k ≤ m}) (fun k => ⟨[Bx 3 0, I m, I n, Oo, Oo, Oo, Oo, .own 1 ⟨1, []⟩ 0 m, I many, I (k.1 : Nat), Oo, Oo, Oo, Oo, Oo, Oo, Oo, Oo, Oo, Oo, Oo, Oo, Oo, Oo, Oo, Oo, Oo, Oo, Oo, Oo, Oo, Oo, Oo, Oo, Oo, Oo, Oo, Oo, Oo, Oo, Oo, Oo, Oo, Oo, Oo, Oo, Oo, Oo, Oo, Oo, Oo, Oo, Oo, Oo, Oo, Oo, Oo, Oo, Oo], heapX [(⟨0, []⟩, ⟨0, []⟩, srcO code (mzA code many n (s1, fun _ _ => BOT) k.1).1)] [mi1 ⟨1, []⟩ (TR (tabF m n (mzA code many n (s1, fun _ _ => BOT) k.1).2))], 900⟩) (fun k => m - k.1) ⟨0, Nat.zero_le _⟩ ?_ (fun k => ?_)
  ·
    (apply Le.headG [_] [{ l := ⟨1, []⟩, k := 1, R := TR (tabF m n (fun _ _ => BOT)), src := ⟨4, [0]⟩, base := ⟨4, [0]⟩ }] (fun _ => False))
    (case' hlen => rfl)
    (case' hms => rfl)
    all_goals (try dsimp only [srcs])
    (case' hfr | hob => (repeat' (first | refine La ?_ ?_ | exact Lc | refine Lo ?_ | refine ⟨⟨_, rfl, ?_⟩, ?_⟩ | refine Lx ?_)))
    (case' hok => first | exact ⟨MI.ok_same rfl (fun u x hx => congrArg (Option.map (dobj 1)) hx), trivial⟩ | exact trivial)
    (case' hN => rfl)
    (case' hS => rfl)
    all_goals (first | exact Ld | (rfl))
  obtain ⟨w, hw⟩ := k
  simp only
  by_cases hlt2 : w < m
  · have hI := mzA_ok hc (many := many) (n := n) (q := (s1, fun _ _ => BOT)) h1 w
    have hstA : mzA code many n (s1, fun _ _ => BOT) (w + 1) = mzR code many w (mzA code many n (s1, fun _ _ => BOT) w) n := rfl
    generalize mzA code many n (s1, fun _ _ => BOT) w = q at hI hstA ⊢
    repeat' (first | ((first | apply Ba | (apply Bb; (· rfl); (· rfl)) | (apply Bc; (· exact nxE)) | (apply Bd; (· rfl); (· rfl); (· exact nxE))); (· first | exact Ok.pe)) | ((first | apply Ca | (apply Cb; (· exact nxE))); (· first | exact Ok.e0)) | refine Sx ?_ | (refine Sy (fun h => ?_) (fun h => ?_) <;> try (exfalso; omega; done)) | refine Sz (fun h => ?_) (fun h => ?_))
    refine AW.loop (X := {k : Nat // k ≤ n}) (fun k => ⟨[Bx 3 0, I m, I n, Oo, Oo, Oo, Oo, .own 1 ⟨1, []⟩ 0 m, I many, I w, I (k.1 : Nat), Oo, Oo, Oo, Oo, Oo, Oo, Oo, Oo, Oo, Oo, Oo, Oo, Oo, Oo, Oo, Oo, Oo, Oo, Oo, Oo, Oo, Oo, Oo, Oo, Oo, Oo, Oo, Oo, Oo, Oo, Oo, Oo, Oo, Oo, Oo, Oo, Oo, Oo, Oo, Oo, Oo, Oo, Oo, Oo, Oo, Oo, Oo, Oo], heapX [(⟨0, []⟩, ⟨0, []⟩, srcO code (mzR code many w q k.1).1)] [mi1 ⟨1, []⟩ (TR (tabF m n (mzR code many w q k.1).2))], 900⟩) (fun k => n - k.1) ⟨0, Nat.zero_le _⟩ ?_ (fun k => ?_)
    ·
      (apply Le.headG [_] [mi1 ⟨1, []⟩ (TR (tabF m n q.2))] (fun _ => False))
      (case' hlen => rfl)
      (case' hms => rfl)
      all_goals (try dsimp only [srcs])
      (case' hfr | hob => (repeat' (first | refine La ?_ ?_ | exact Lc | refine Lo ?_ | refine ⟨⟨_, rfl, ?_⟩, ?_⟩ | refine Lx ?_)))
      (case' hok => first | exact ⟨MI.ok_same rfl (fun u x hx => congrArg (Option.map (dobj 1)) hx), trivial⟩ | exact trivial)
      (case' hN => rfl)
      (case' hS => rfl)
      all_goals (first | exact Ld | (rfl))
    obtain ⟨e, he⟩ := k
    simp only
    have hJ := mzR_ok hc (many := many) (i := w) hI e
    by_cases hlt3 : e < n
    · have hstR : mzR code many w q (e + 1) = mzC code many w e (mzR code many w q e) := rfl
      generalize mzR code many w q e = r at hJ hstR ⊢
      obtain ⟨s10, G⟩ := r
      simp only at hJ ⊢
      obtain ⟨a, s11, a1, a2, h11, q11, N11⟩ := next_ex hc hJ many
      obtain ⟨b, s12, b1, b2, h12, q12, N12⟩ := next_ex hc h11 26
      have hstC := hstR.trans (show mzC code many w e (s10, G) = if 0 < a then (s12, fun x y => if x = w ∧ y = e then b - 10 else G x y) else (s11, G) by unfold mzC; simp only [q11, q12])
      have hrw := TRF_get (n := n) (f := G) hlt2
      have hrl : (IR (rowF n (G w))).length = n := by rw [IR_len, rowF_len]
      have hcell : (IR (rowF n (G w)))[e]? = some [DI (G w e)] := IRF_get hlt3
      have htF : (TR (tabF m n G)).length = m := by rw [TR_len, tabF_len]
      by_cases ha : 0 < a
      · rw [if_pos ha] at hstC
        repeat' (first | ((first | apply Ba | (apply Bb; (· rfl); (· rfl)) | (apply Bc; (· exact nxE)) | (apply Bd; (· rfl); (· rfl); (· exact nxE))); (· first | exact Ok.ldTn rfl rfl rfl hrw hrl | exact Nx N11 rfl rfl rfl rfl rfl | exact Nx N12 rfl rfl rfl rfl rfl | exact Ok.st1 rfl rfl (congrArg (Option.map (dobj 1)) hrw) (by rw [hrl]; exact hlt3) (by rw [hcell]; rfl) rfl rfl IR_set | exact Ok.pe)) | ((first | apply Ca | (apply Cb; (· exact nxE))); (· first | exact Nx N11 rfl rfl rfl rfl rfl | exact Nx N12 rfl rfl rfl rfl rfl | exact Ok.st1 rfl rfl (congrArg (Option.map (dobj 1)) hrw) (by rw [hrl]; exact hlt3) (by rw [hcell]; rfl) rfl rfl IR_set | exact Ok.e0)) | refine Sx ?_ | (refine Sy (fun h => ?_) (fun h => ?_) <;> try (exfalso; omega; done)) | refine Sz (fun h => ?_) (fun h => ?_))
        refine ⟨⟨e + 1, by omega⟩, ?_, by simp only; omega⟩
        simp only [hstC]
        (apply Le.headG [_] [mi1 ⟨1, []⟩ (TR (tabF m n (fun x y => if x = w ∧ y = e then b - 10 else G x y)))] (fun _ => False))
        (case' hlen => rfl)
        (case' hms => rfl)
        all_goals (try dsimp only [srcs])
        (case' hfr | hob => (repeat' (first | refine La ?_ ?_ | exact Lc | refine Lo ?_ | refine ⟨⟨_, rfl, ?_⟩, ?_⟩ | refine Lx ?_)))
        (case' hok => first | exact ⟨MI.ok_row (tabF_set (fun a b _ _ => rfl)) hrw (by simp) rfl (fun u x hx => congrArg (Option.map (dobj 1)) hx), trivial⟩ | exact trivial)
        (case' hN => rfl)
        (case' hS => rfl)
        all_goals (first | exact Ld | (rfl))
      · rw [if_neg ha] at hstC
        repeat' (first | ((first | apply Ba | (apply Bb; (· rfl); (· rfl)) | (apply Bc; (· exact nxE)) | (apply Bd; (· rfl); (· rfl); (· exact nxE))); (· first | exact Nx N11 rfl rfl rfl rfl rfl | exact Nx N12 rfl rfl rfl rfl rfl | exact Ok.pe)) | ((first | apply Ca | (apply Cb; (· exact nxE))); (· first | exact Nx N11 rfl rfl rfl rfl rfl | exact Nx N12 rfl rfl rfl rfl rfl | exact Ok.e0)) | refine Sx ?_ | (refine Sy (fun h => ?_) (fun h => ?_) <;> try (exfalso; omega; done)) | refine Sz (fun h => ?_) (fun h => ?_))
        refine ⟨⟨e + 1, by omega⟩, ?_, by simp only; omega⟩
        simp only [hstC]
        (apply Le.headG [_] [mi1 ⟨1, []⟩ (TR (tabF m n G))] (fun _ => False))
        (case' hlen => rfl)
        (case' hms => rfl)
        all_goals (try dsimp only [srcs])
        (case' hfr | hob => (repeat' (first | refine La ?_ ?_ | exact Lc | refine Lo ?_ | refine ⟨⟨_, rfl, ?_⟩, ?_⟩ | refine Lx ?_)))
        (case' hok => first | exact ⟨MI.ok_same rfl (fun u x hx => congrArg (Option.map (dobj 1)) hx), trivial⟩ | exact trivial)
        (case' hN => rfl)
        (case' hS => rfl)
        all_goals (first | exact Ld | (rfl))
    · obtain rfl : e = n := by omega
      rw [← hstA]
      repeat' (first | ((first | apply Ba | (apply Bb; (· rfl); (· rfl)) | (apply Bc; (· exact nxE)) | (apply Bd; (· rfl); (· rfl); (· exact nxE))); (· first | exact Ok.pe)) | ((first | apply Ca | (apply Cb; (· exact nxE))); (· first | exact Ok.e0)) | refine Sx ?_ | (refine Sy (fun h => ?_) (fun h => ?_) <;> try (exfalso; omega; done)) | refine Sz (fun h => ?_) (fun h => ?_))
      refine ⟨⟨w + 1, by omega⟩, ?_, by simp only; omega⟩
      (apply Le.headG [_] [mi1 ⟨1, []⟩ (TR (tabF m e (mzA code many e (s1, fun _ _ => BOT) (w + 1)).2))] (fun _ => False))
      (case' hlen => rfl)
      (case' hms => rfl)
      all_goals (try dsimp only [srcs])
      (case' hfr | hob => (repeat' (first | refine La ?_ ?_ | exact Lc | refine Lo ?_ | refine ⟨⟨_, rfl, ?_⟩, ?_⟩ | refine Lx ?_)))
      (case' hok => first | exact ⟨MI.ok_same rfl (fun u x hx => congrArg (Option.map (dobj 1)) hx), trivial⟩ | exact trivial)
      (case' hN => rfl)
      (case' hS => rfl)
      all_goals (first | exact Ld | (rfl))
  obtain rfl : w = m := by omega
  rw [hqA]
  simp only
  by_cases c0 : y = 0
  · simp only [if_pos c0]
    repeat' (first | ((first | apply Ba | (apply Bb; (· rfl); (· rfl)) | (apply Bc; (· exact nxE)) | (apply Bd; (· rfl); (· rfl); (· exact nxE))); (· first | exact Ok.ldTj (i := 0) rfl rfl rfl hrw hrl rfl | exact Nx N3 rfl rfl rfl rfl rfl | exact Zx (args := []) V4 rfl rfl rfl rfl .nil (fun _ => by simp [rn]) | exact Ok.st1 (i := 0) rfl rfl (congrArg (Option.map (dobj 1)) hrw) (by rw [hrl]; omega) (by rw [hcell]; rfl) rfl rfl IR_set | exact Ok.pe)) | ((first | apply Ca | (apply Cb; (· exact nxE))); (· first | exact Nx N3 rfl rfl rfl rfl rfl | exact Zx (args := []) V4 rfl rfl rfl rfl .nil (fun _ => by simp [rn]) | exact Ok.st1 (i := 0) rfl rfl (congrArg (Option.map (dobj 1)) hrw) (by rw [hrl]; omega) (by rw [hcell]; rfl) rfl rfl IR_set | exact Ok.e0)) | refine Sx ?_ | (refine Sy (fun h => ?_) (fun h => ?_) <;> try (exfalso; omega; done)) | refine Sz (fun h => ?_) (fun h => ?_))
    refine Ya ?_
    (apply Le.headZ (hs := [(⟨0, []⟩, ⟨0, []⟩, _)]) [⟨0, []⟩] rfl)
    all_goals (try dsimp only [srcs])
    (case' hfr | hob => (repeat' (first | refine La ?_ ?_ | refine ARs.agg ?_ | refine ARs.tup ?_ | (exact AR.tabM (l := ⟨1, []⟩) (MI.ok_set (H' := H0) (i := 0) (r := IR ((rowF n (F 0)).set 0 v)) (tabF_set (fun a b _ _ => rfl)) (fun x hx => by rw [hrw] at hx; cases hx; simp) rfl (fun j x hx hne => upd_at hne (congrArg (Option.map (dobj 1)) hx)) (fun _ => rfl)) (by rw [TR_len, tabF_len]) (by decide) (by intro j; simp [Loc.at, relo])) | refine La ?_ ?_ | exact Lc | refine Lo ?_ | refine ⟨⟨_, rfl, ?_⟩, ?_⟩ | refine Lx ?_)))
    all_goals (first | exact Ld | exact trivial | (exact AR.tabM (l := ⟨1, []⟩) (MI.ok_set (H' := H0) (i := 0) (r := IR ((rowF n (F 0)).set 0 v)) (tabF_set (fun a b _ _ => rfl)) (fun x hx => by rw [hrw] at hx; cases hx; simp) rfl (fun j x hx hne => upd_at hne (congrArg (Option.map (dobj 1)) hx)) (fun _ => rfl)) (by rw [TR_len, tabF_len]) (by decide) (by intro j; simp [Loc.at, relo])))
  · simp only [if_neg c0]
    by_cases c1 : y = 1
    · simp only [if_pos c1]
      repeat' (first | ((first | apply Ba | (apply Bb; (· rfl); (· rfl)) | (apply Bc; (· exact nxE)) | (apply Bd; (· rfl); (· rfl); (· exact nxE))); (· first | exact Nx N3 rfl rfl rfl rfl rfl | exact Ok.appendT rfl rfl (by decide) rfl rfl rfl (by simp [outer_len, tabF_len]; done) rfl rfl (by rfl) (by omega) (by omega) rfl | exact Ok.pe)) | ((first | apply Ca | (apply Cb; (· exact nxE))); (· first | exact Nx N3 rfl rfl rfl rfl rfl | exact Ok.appendT rfl rfl (by decide) rfl rfl rfl (by simp [outer_len, tabF_len]; done) rfl rfl (by rfl) (by omega) (by omega) rfl | exact Ok.e0)) | refine Sx ?_ | (refine Sy (fun h => ?_) (fun h => ?_) <;> try (exfalso; omega; done)) | refine Sz (fun h => ?_) (fun h => ?_))
      refine Ya ?_
      (apply Le.headZ (hs := [(⟨0, []⟩, ⟨0, []⟩, _)]) [⟨0, []⟩] rfl)
      all_goals (try dsimp only [srcs])
      (case' hfr | hob => (repeat' (first | refine La ?_ ?_ | refine ARs.agg ?_ | refine ARs.tup ?_ | (exact AR.tabG (m := { l := ⟨1, []⟩, k := 1, R := TR (tabF w n F ++ [[]]), src := ⟨912, []⟩, base := ⟨1, []⟩, cut := w, ext := some ⟨910, []⟩ }) (MI.ok_app (r := []) (by simp) htF rfl rfl (Cg) rfl) rfl (by simp [tabF_len]) (by dsimp only; decide) (by intro j _; simp only [MI.row]; split <;> simp [Loc.at])) | refine La ?_ ?_ | exact Lc | refine Lo ?_ | refine ⟨⟨_, rfl, ?_⟩, ?_⟩ | refine Lx ?_)))
      all_goals (first | exact Ld | exact trivial | (exact AR.tabG (m := { l := ⟨1, []⟩, k := 1, R := TR (tabF w n F ++ [[]]), src := ⟨912, []⟩, base := ⟨1, []⟩, cut := w, ext := some ⟨910, []⟩ }) (MI.ok_app (r := []) (by simp) htF rfl rfl (Cg) rfl) rfl (by simp [tabF_len]) (by dsimp only; decide) (by intro j _; simp only [MI.row]; split <;> simp [Loc.at])))
    · simp only [if_neg c1]
      by_cases c2 : y = 2
      · simp only [if_pos c2]
        repeat' (first | ((first | apply Ba | (apply Bb; (· rfl); (· rfl)) | (apply Bc; (· exact nxE)) | (apply Bd; (· rfl); (· rfl); (· exact nxE))); (· first | exact Nx N3 rfl rfl rfl rfl rfl | exact Ok.pe)) | ((first | apply Ca | (apply Cb; (· exact nxE))); (· first | exact Nx N3 rfl rfl rfl rfl rfl | exact Ok.e0)) | refine Sx ?_ | (refine Sy (fun h => ?_) (fun h => ?_) <;> try (exfalso; omega; done)) | refine Sz (fun h => ?_) (fun h => ?_))
        refine Ya ?_
        (apply Le.headZ (hs := [(⟨0, []⟩, ⟨0, []⟩, _)]) [⟨0, []⟩] rfl)
        all_goals (try dsimp only [srcs])
        (case' hfr | hob => (repeat' (first | refine La ?_ ?_ | exact Lc | refine Lo ?_ | refine ⟨⟨_, rfl, ?_⟩, ?_⟩ | refine Lx ?_)))
        all_goals (first | exact Ld | exact trivial | (rfl))
      · simp only [if_neg c2]
        repeat' (first | ((first | apply Ba | (apply Bb; (· rfl); (· rfl)) | (apply Bc; (· exact nxE)) | (apply Bd; (· rfl); (· rfl); (· exact nxE))); (· first | exact Nx N3 rfl rfl rfl rfl rfl | exact Ok.pe)) | ((first | apply Ca | (apply Cb; (· exact nxE))); (· first | exact Nx N3 rfl rfl rfl rfl rfl | exact Ok.e0)) | refine Sx ?_ | (refine Sy (fun h => ?_) (fun h => ?_) <;> try (exfalso; omega; done)) | refine Sz (fun h => ?_) (fun h => ?_))
        refine Ya ?_
        (apply Le.headZ (hs := [(⟨0, []⟩, ⟨0, []⟩, _)]) [⟨0, []⟩] rfl)
        all_goals (try dsimp only [srcs])
        (case' hfr | hob => (repeat' (first | refine La ?_ ?_ | refine ARs.agg ?_ | refine ARs.tup ?_ | (exact AR.tab ⟨rfl, fun u x hx => congrArg (Option.map (dobj 1)) hx⟩ htF (by decide) (by intro j; simp [Loc.at, relo])) | refine La ?_ ?_ | exact Lc | refine Lo ?_ | refine ⟨⟨_, rfl, ?_⟩, ?_⟩ | refine Lx ?_)))
        all_goals (first | exact Ld | exact trivial | (exact AR.tab ⟨rfl, fun u x hx => congrArg (Option.map (dobj 1)) hx⟩ htF (by decide) (by intro j; simp [Loc.at, relo])))
end Go.Proofs.Ytdgodkpobomneaa
end

section
namespace Go.Proofs.Ytdgodkpobomneaa
set_option linter.unusedSimpArgs false
set_option linter.unusedVariables false
open Go Go.RowKit
attribute [local irreducible] AL AD AW OpOk Le AC thenQ blockQ EndQ

/-- Which ratios are valid. -/
def isRtG (r : Int × Int) : Bool := wi r.1 (-1000000) 1000000 && (wi r.2 1 1000000 && (Nat.gcd r.1.natAbs r.2.toNat == 1))
structure DrR (r : Int × Int) : Prop where
  n : -2000000 ≤ r.1 ∧ r.1 ≤ 2000000
  d : -1 ≤ r.2 ∧ r.2 ≤ 1000000
  s : isRtG r = true → r.2 ≤ 10
def dvF (code : List Int) (q : QS) : QS := ((nxt code (nxt code q.1 31).2 8).2, q.2 ++ [if (nxt code (nxt code q.1 31).2 8).1 = 0 then -1000000000000000 else (nxt code q.1 31).1 - 15])
theorem dvF_ok [Mode] {code : List Int} (hc : CodeOk code) {s : Src} (hs : SrcOk code s) (n : Nat) : SrcOk code (itr (dvF code) n (s, [])).1 ∧ (itr (dvF code) n (s, [])).2.length = n :=
  itr_ok (p := fun k (q : QS) => SrcOk code q.1 ∧ q.2.length = k) ⟨hs, rfl⟩ (fun k x h => ⟨(nxt_ok hc (nxt_ok hc h.1 31).2.2 8).2.2, by simp [dvF, h.2]⟩) n
set_option maxHeartbeats 4000000 in
theorem l02DrawVector_ex [Mode] (code : List Int) (hc : CodeOk code) (s : Src) (hs : SrcOk code s) (n : Nat) (hn : n ≤ 1000) : ∃ (x : List Int) (s' : Src), x.length ≤ n + 1 ∧ SrcOk code s' ∧ AC Try.prog 117 [Bx 3 0, I n] (srcH code s) (IL x) (srcH code s') := by
  obtain ⟨hA, hAl⟩ := dvF_ok hc hs n
  generalize hqA : itr (dvF code) n (s, []) = qA at hA hAl
  obtain ⟨s2, xs⟩ := qA
  simp only at hA hAl
  obtain ⟨y, s3, y1, y2, h3, q3, N3⟩ := next_ex hc hA 60
  obtain ⟨v, s4, hv, h4, V4⟩ := l01DrawValue_ex code hc s3 h3
  refine ⟨if y = 0 then xs ++ [v] else if y = 1 then [] else xs, if y = 0 then s4 else s3, ?_, by split <;> assumption, ?_⟩
  · (repeat' split) <;> (first | (simp; done) | (simp; omega) | omega)
  have hyl : (IR xs).length = n := by rw [IR_len, hAl]
  show AC _ _ _ (heapL [(⟨0, []⟩, ⟨0, []⟩, srcO code s)]) _ _
  refine AC.of_body 1 Try.func117 rfl (fun l h => by simp [heapL, upd] at h; simp [h]) (fun C hC => ?_)
  simp only [startFr, Try.ntmps117, List.length_cons, List.length_nil, Nat.reduceAdd, Nat.reduceSub, List.replicate_succ, List.replicate_zero, List.cons_append, List.nil_append]
  have hD : ∀ l, C.D0 l → l = ⟨0, []⟩ := fun l h => by have := (hC l).1 h; simp [heapL, upd] at this; exact this
  repeat' (first | ((first | apply Ba | (apply Bb; (· rfl); (· rfl)) | (apply Bc; (· exact nxE)) | (apply Bd; (· rfl); (· rfl); (· exact nxE))); (· first | exact Ok.pe)) | ((first | apply Ca | (apply Cb; (· exact nxE))); (· first | exact Ok.e0)) | refine Sx ?_ | (refine Sy (fun h => ?_) (fun h => ?_) <;> try (exfalso; omega; done)) | refine Sz (fun h => ?_) (fun h => ?_))
  refine AW.loop (X := {k : Nat // k ≤ n}) (fun k => ⟨[Bx 3 0, I ((n : Int) - (k.1 : Nat)), Oo, Oo, Oo, .own 1 ⟨1, []⟩ 0 (itr (dvF code) (k.1 : Nat) (s, [])).2.length, Oo, Oo, Oo, Oo, Oo, Oo, Oo, Oo, Oo, Oo, Oo, Oo, Oo, Oo, Oo, Oo, Oo, Oo, Oo, Oo, Oo, Oo, Oo, Oo, Oo, Oo, Oo, Oo, Oo, Oo, Oo], heapL [(⟨0, []⟩, ⟨0, []⟩, srcO code (itr (dvF code) k.1 (s, [])).1), (⟨1, []⟩, ⟨1, []⟩, IO (itr (dvF code) k.1 (s, [])).2)], 900⟩) (fun k => n - k.1) ⟨0, Nat.zero_le _⟩ ?_ (fun k => ?_)
  ·
    (apply Le.headZ [_, _] rfl)
    all_goals (try dsimp only [srcs])
    (case' hfr | hob => (repeat' (first | refine La ?_ ?_ | exact Lc | refine Lo ?_ | refine ⟨⟨_, rfl, ?_⟩, ?_⟩ | refine Lx ?_)))
    all_goals (first | (rfl) | exact Ld)
  obtain ⟨w, hw⟩ := k
  simp only
  by_cases hlt : w < n
  · obtain ⟨i1, i2⟩ := dvF_ok hc hs w
    have hst : itr (dvF code) (w + 1) (s, []) = dvF code (itr (dvF code) w (s, [])) := rfl
    generalize itr (dvF code) w (s, []) = q at i1 i2 hst ⊢
    obtain ⟨s5, ys⟩ := q
    simp only at i1 i2 ⊢
    obtain ⟨a, s6, a1, a2, h6, q6, N6⟩ := next_ex hc i1 31
    obtain ⟨b, s7, b1, b2, h7, q7, N7⟩ := next_ex hc h6 8
    have hst := hst.trans (show dvF code (s5, ys) = (s7, ys ++ [if b = 0 then -1000000000000000 else a - 15]) by unfold dvF; simp only [q6, q7])
    have hyl : (IR ys).length = ys.length := IR_len
    by_cases hb : b = 0
    · rw [if_pos hb] at hst
      have hix : 0 + (((ys.length + 1 : Nat) : Int) - 1).toNat = ys.length := by omega
      have hlr : (dobj 1 (IR ys ++ [[DI (a - 15)]])).rows[0 + (((ys.length + 1 : Nat) : Int) - 1).toNat]? = some [I (a - 15)] := by rw [hix]; simp [dobj]
      have hls : (dobj 1 (IR ys ++ [[DI (a - 15)]])).rows.set (0 + (((ys.length + 1 : Nat) : Int) - 1).toNat) ([I (a - 15)].set 0 (I (-1000000000000000))) = (dobj 1 (IR (ys ++ [-1000000000000000]))).rows := by rw [hix]; simp [dobj]
      repeat' (first | ((first | apply Ba | (apply Bb; (· rfl); (· rfl)) | (apply Bc; (· exact nxE)) | (apply Bd; (· rfl); (· rfl); (· exact nxE))); (· first | exact Nx N6 rfl rfl rfl rfl rfl | exact Nx N7 rfl rfl rfl rfl rfl | exact Ok.append1 (row := [DI (a - 15)]) rfl rfl (by decide) rfl rfl hyl rfl rfl rfl (by rfl) (by omega) (by omega) | exact Ok.storeC rfl rfl rfl rfl hlr (by simp) rfl rfl rfl hls | exact Ok.pe)) | ((first | apply Ca | (apply Cb; (· exact nxE))); (· first | exact Nx N6 rfl rfl rfl rfl rfl | exact Nx N7 rfl rfl rfl rfl rfl | exact Ok.append1 (row := [DI (a - 15)]) rfl rfl (by decide) rfl rfl hyl rfl rfl rfl (by rfl) (by omega) (by omega) | exact Ok.storeC rfl rfl rfl rfl hlr (by simp) rfl rfl rfl hls | exact Ok.e0)) | refine Sx ?_ | (refine Sy (fun h => ?_) (fun h => ?_) <;> try (exfalso; omega; done)) | refine Sz (fun h => ?_) (fun h => ?_))
      refine ⟨⟨w + 1, by omega⟩, ?_, by simp only; omega⟩
      simp only [hst]
      (apply Le.headZ [_, _] rfl)
      all_goals (try dsimp only [srcs])
      (case' hfr | hob => (repeat' (first | refine La ?_ ?_ | exact Lc | refine Lo ?_ | refine ⟨⟨_, rfl, ?_⟩, ?_⟩ | refine Lx ?_)))
      all_goals (first | ((simp; done)) | exact Ld)
    · rw [if_neg hb] at hst
      repeat' (first | ((first | apply Ba | (apply Bb; (· rfl); (· rfl)) | (apply Bc; (· exact nxE)) | (apply Bd; (· rfl); (· rfl); (· exact nxE))); (· first | exact Nx N6 rfl rfl rfl rfl rfl | exact Nx N7 rfl rfl rfl rfl rfl | exact Ok.append1 (row := [DI (a - 15)]) rfl rfl (by decide) rfl rfl hyl rfl rfl rfl (by rfl) (by omega) (by omega) | exact Ok.pe)) | ((first | apply Ca | (apply Cb; (· exact nxE))); (· first | exact Nx N6 rfl rfl rfl rfl rfl | exact Nx N7 rfl rfl rfl rfl rfl | exact Ok.append1 (row := [DI (a - 15)]) rfl rfl (by decide) rfl rfl hyl rfl rfl rfl (by rfl) (by omega) (by omega) | exact Ok.e0)) | refine Sx ?_ | (refine Sy (fun h => ?_) (fun h => ?_) <;> try (exfalso; omega; done)) | refine Sz (fun h => ?_) (fun h => ?_))
      refine ⟨⟨w + 1, by omega⟩, ?_, by simp only; omega⟩
      simp only [hst]
      (apply Le.headZ [_, _] rfl)
      all_goals (try dsimp only [srcs])
      (case' hfr | hob => (repeat' (first | refine La ?_ ?_ | exact Lc | refine Lo ?_ | refine ⟨⟨_, rfl, ?_⟩, ?_⟩ | refine Lx ?_)))
      all_goals (first | ((simp; done)) | exact Ld)
  obtain rfl : w = n := by omega
  rw [hqA]
  simp only
  have hyl2 : (IR xs).length = xs.length := IR_len
  by_cases c0 : y = 0
  · simp only [if_pos c0]
    repeat' (first | ((first | apply Ba | (apply Bb; (· rfl); (· rfl)) | (apply Bc; (· exact nxE)) | (apply Bd; (· rfl); (· rfl); (· exact nxE))); (· first | exact Nx N3 rfl rfl rfl rfl rfl | exact Zx (args := []) V4 rfl rfl rfl rfl .nil (fun _ => by simp [rn]) | exact Ok.append1 (row := [DI v]) rfl rfl (by decide) rfl rfl hyl2 rfl rfl rfl (by rfl) (by omega) (by omega) | exact Ok.pe)) | ((first | apply Ca | (apply Cb; (· exact nxE))); (· first | exact Nx N3 rfl rfl rfl rfl rfl | exact Zx (args := []) V4 rfl rfl rfl rfl .nil (fun _ => by simp [rn]) | exact Ok.append1 (row := [DI v]) rfl rfl (by decide) rfl rfl hyl2 rfl rfl rfl (by rfl) (by omega) (by omega) | exact Ok.e0)) | refine Sx ?_ | (refine Sy (fun h => ?_) (fun h => ?_) <;> try (exfalso; omega; done)) | refine Sz (fun h => ?_) (fun h => ?_))
    refine Ya ?_
    (apply Le.headZ (hs := [(⟨0, []⟩, ⟨0, []⟩, _)]) [⟨0, []⟩] rfl)
    all_goals (try dsimp only [srcs])
    (case' hfr | hob => (repeat' (first | refine La ?_ ?_ | refine ARs.agg ?_ | refine ARs.tup ?_ | (exact AR.whole (rows := IR (xs ++ [v])) (by simp; rfl) (by simp) (by simp)) | refine La ?_ ?_ | exact Lc | refine Lo ?_ | refine ⟨⟨_, rfl, ?_⟩, ?_⟩ | refine Lx ?_)))
    all_goals (first | exact Ld | exact trivial | (exact AR.whole (rows := IR (xs ++ [v])) (by simp; rfl) (by simp) (by simp)))
  · simp only [if_neg c0]
    by_cases c1 : y = 1
    · simp only [if_pos c1]
      repeat' (first | ((first | apply Ba | (apply Bb; (· rfl); (· rfl)) | (apply Bc; (· exact nxE)) | (apply Bd; (· rfl); (· rfl); (· exact nxE))); (· first | exact Nx N3 rfl rfl rfl rfl rfl | exact Ok.pe)) | ((first | apply Ca | (apply Cb; (· exact nxE))); (· first | exact Nx N3 rfl rfl rfl rfl rfl | exact Ok.e0)) | refine Sx ?_ | (refine Sy (fun h => ?_) (fun h => ?_) <;> try (exfalso; omega; done)) | refine Sz (fun h => ?_) (fun h => ?_))
      refine Ya ?_
      (apply Le.headZ (hs := [(⟨0, []⟩, ⟨0, []⟩, _)]) [⟨0, []⟩] rfl)
      all_goals (try dsimp only [srcs])
      (case' hfr | hob => (repeat' (first | refine La ?_ ?_ | exact Lc | refine Lo ?_ | refine ⟨⟨_, rfl, ?_⟩, ?_⟩ | refine Lx ?_)))
      all_goals (first | exact Ld | exact trivial | (rfl))
    · simp only [if_neg c1]
      repeat' (first | ((first | apply Ba | (apply Bb; (· rfl); (· rfl)) | (apply Bc; (· exact nxE)) | (apply Bd; (· rfl); (· rfl); (· exact nxE))); (· first | exact Nx N3 rfl rfl rfl rfl rfl | exact Ok.pe)) | ((first | apply Ca | (apply Cb; (· exact nxE))); (· first | exact Nx N3 rfl rfl rfl rfl rfl | exact Ok.e0)) | refine Sx ?_ | (refine Sy (fun h => ?_) (fun h => ?_) <;> try (exfalso; omega; done)) | refine Sz (fun h => ?_) (fun h => ?_))
      refine Ya ?_
      (apply Le.headZ (hs := [(⟨0, []⟩, ⟨0, []⟩, _)]) [⟨0, []⟩] rfl)
      all_goals (try dsimp only [srcs])
      (case' hfr | hob => (repeat' (first | refine La ?_ ?_ | refine ARs.agg ?_ | refine ARs.tup ?_ | (exact AR.whole rfl (by simp) (by simp)) | refine La ?_ ?_ | exact Lc | refine Lo ?_ | refine ⟨⟨_, rfl, ?_⟩, ?_⟩ | refine Lx ?_)))
      all_goals (first | exact Ld | exact trivial | (exact AR.whole rfl (by simp) (by simp)))
end Go.Proofs.Ytdgodkpobomneaa
end

section
namespace Go.Proofs.Ytdgodkpobomneaa
set_option linter.unusedSimpArgs false
set_option linter.unusedVariables false
open Go Go.RowKit
attribute [local irreducible] AL AD AW OpOk Le AC thenQ blockQ EndQ

end Go.Proofs.Ytdgodkpobomneaa
end

section
namespace Go.Proofs.Ytdgodkpobomneaa
set_option linter.unusedSimpArgs false
set_option linter.unusedVariables false
open Go Go.RowKit
attribute [local irreducible] AL AD AW OpOk Le AC thenQ blockQ EndQ

end Go.Proofs.Ytdgodkpobomneaa
end

section
namespace Go.Proofs.Ytdgodkpobomneaa
set_option linter.unusedSimpArgs false
set_option linter.unusedVariables false
open Go Go.RowKit
attribute [local irreducible] AL AD AW OpOk Le AC thenQ blockQ EndQ

end Go.Proofs.Ytdgodkpobomneaa
end

section
namespace Go.Proofs.Ytdgodkpobomneaa
set_option linter.unusedSimpArgs false
set_option linter.unusedVariables false
open Go Go.RowKit
attribute [local irreducible] AL AD AW OpOk Le AC thenQ blockQ EndQ

/-! ### Potentials -/
end Go.Proofs.Ytdgodkpobomneaa
end

section
namespace Go.Proofs.Ytdgodkpobomneaa
set_option linter.unusedSimpArgs false
set_option linter.unusedVariables false
open Go Go.RowKit
attribute [local irreducible] AL AD AW OpOk Le AC thenQ blockQ EndQ

end Go.Proofs.Ytdgodkpobomneaa
end

section
namespace Go.Proofs.Ytdgodkpobomneaa
set_option linter.unusedSimpArgs false
set_option linter.unusedVariables false
open Go Go.RowKit
attribute [local irreducible] AL AD AW OpOk Le AC thenQ blockQ EndQ

theorem iIsVector_ac [Mode] (x : List Int) (hx : x.length ≤ 100000000) : AC Try.prog 70 [IL x] H0 (Bo (isVec x)) H0 := by
  have hW := within_ac x.length 1 10
  have hA := areValues_ac x hx
  have hl : (IR x).length = x.length := IR_len
  unfold isVec
  cases hw : wi (x.length : Int) 1 10
  · rw [hw] at hW
    rw [Bool.false_and]
    refine AC.of_body 0 Try.func70 rfl (fun l h => absurd rfl h) (fun C hC => ?_)
    have hD : ∀ l, ¬ C.D0 l := fun l h => (hC l).1 h rfl
    simp only [startFr, Try.ntmps70, List.length_cons, List.length_nil, Nat.reduceAdd, Nat.reduceSub, List.replicate_succ, List.replicate_zero, List.cons_append, List.nil_append]
    repeat' (first | ((first | apply Ba | (apply Bb; (· rfl); (· rfl)) | (apply Bc; (· exact nxE)) | (apply Bd; (· rfl); (· rfl); (· exact nxE))); (· first | exact Ok.lenD rfl rfl hl | exact Kz rfl rfl (hW) (Ad (Ad (Ad An))) | exact Ok.pe)) | ((first | apply Ca | (apply Cb; (· exact nxE))); (· first | exact Ok.e0)) | refine Sx ?_ | (refine Sy (fun h => ?_) (fun h => ?_) <;> try (exfalso; omega; done)) | refine Sz (fun h => ?_) (fun h => ?_))
    refine Ya ?_
    (apply Le.headZ (hs := []) [] rfl)
    all_goals (try dsimp only [srcs])
    (case' hfr => (repeat' (first | refine La ?_ ?_ | exact Lc | refine Lo ?_ | refine ⟨⟨_, rfl, ?_⟩, ?_⟩ | refine Lx ?_)))
    all_goals (first | exact Ld | exact trivial | (rfl))
  · rw [hw] at hW
    rw [Bool.true_and]
    refine AC.of_body 0 Try.func70 rfl (fun l h => absurd rfl h) (fun C hC => ?_)
    have hD : ∀ l, ¬ C.D0 l := fun l h => (hC l).1 h rfl
    simp only [startFr, Try.ntmps70, List.length_cons, List.length_nil, Nat.reduceAdd, Nat.reduceSub, List.replicate_succ, List.replicate_zero, List.cons_append, List.nil_append]
    repeat' (first | ((first | apply Ba | (apply Bb; (· rfl); (· rfl)) | (apply Bc; (· exact nxE)) | (apply Bd; (· rfl); (· rfl); (· exact nxE))); (· first | exact Ok.lenD rfl rfl hl | exact Kz rfl rfl (hW) (Ad (Ad (Ad An))) | exact Kz rfl rfl (hA) (Ad An) | exact Ok.pe)) | ((first | apply Ca | (apply Cb; (· exact nxE))); (· first | exact Ok.e0)) | refine Sx ?_ | (refine Sy (fun h => ?_) (fun h => ?_) <;> try (exfalso; omega; done)) | refine Sz (fun h => ?_) (fun h => ?_))
    refine Ya ?_
    (apply Le.headZ (hs := []) [] rfl)
    all_goals (try dsimp only [srcs])
    (case' hfr => (repeat' (first | refine La ?_ ?_ | exact Lc | refine Lo ?_ | refine ⟨⟨_, rfl, ?_⟩, ?_⟩ | refine Lx ?_)))
    all_goals (first | exact Ld | exact trivial | (rfl))
/-- The greatest element. -/
def mxL (x : List Int) : Int := x.foldl max (-1000000000000000)
theorem mxL_take [Mode] {x : List Int} {k : Nat} {v : Int} (h : x[k]? = some v) : mxL (x.take (k + 1)) = max (mxL (x.take k)) v := by
  obtain ⟨hk, rfl⟩ := List.getElem?_eq_some_iff.1 h
  unfold mxL
  rw [List.take_succ_eq_append_getElem hk, List.foldl_append]; rfl
theorem sumOf_ac [Mode] (x : List Int) (hx : x.length ≤ 100000000) : AC Try.prog 72 [IL x] H0 (I (mxL x)) H0 := by
  have hl : (IR x).length = x.length := IR_len
  refine AC.of_body 0 Try.func72 rfl (fun l h => absurd rfl h) (fun C hC => ?_)
  have hD : ∀ l, ¬ C.D0 l := fun l h => (hC l).1 h rfl
  simp only [startFr, Try.ntmps72, List.length_cons, List.length_nil, Nat.reduceAdd, Nat.reduceSub, List.replicate_succ, List.replicate_zero, List.cons_append, List.nil_append]
  repeat' (first | ((first | apply Ba | (apply Bb; (· rfl); (· rfl)) | (apply Bc; (· exact nxE)) | (apply Bd; (· rfl); (· rfl); (· exact nxE))); (· first | exact Ok.lenD rfl rfl hl | exact Ok.pe)) | ((first | apply Ca | (apply Cb; (· exact nxE))); (· first | exact Ok.e0)) | refine Sx ?_ | (refine Sy (fun h => ?_) (fun h => ?_) <;> try (exfalso; omega; done)) | refine Sz (fun h => ?_) (fun h => ?_))
  refine AW.loop (X := {k : Nat // k ≤ x.length}) (fun k => ⟨[Oo, Oo, Oo, I (mxL (x.take k.1)), Oo, Oo, IL x, I x.length, I (k.1 : Nat), Oo, Oo, Oo, Oo, Oo, Oo, Oo, Oo], heapL [], 900⟩) (fun k => x.length - k.1) ⟨0, Nat.zero_le _⟩ ?_ (fun k => ?_)
  ·
    (apply Le.headZ [] rfl)
    all_goals (try dsimp only [srcs])
    (case' hfr | hob => (repeat' (first | refine La ?_ ?_ | exact Lc | refine Lo ?_ | refine ⟨⟨_, rfl, ?_⟩, ?_⟩ | refine Lx ?_)))
    all_goals (first | (rfl) | exact Ld)
  obtain ⟨k, hk⟩ := k
  simp only
  by_cases hlt : k < x.length
  · obtain ⟨v, hv⟩ : ∃ v, x[k]? = some v := ⟨x[k], by simp⟩
    have hrow := IR_get hv
    have hm := mxL_take hv
    repeat' (first | ((first | apply Ba | (apply Bb; (· rfl); (· rfl)) | (apply Bc; (· exact nxE)) | (apply Bd; (· rfl); (· rfl); (· exact nxE))); (· first | exact Ok.pe)) | ((first | apply Ca | (apply Cb; (· exact nxE))); (· first | exact Ok.e0)) | refine Sx ?_ | (refine Sy (fun h => ?_) (fun h => ?_) <;> try (exfalso; omega; done)) | refine Sz (fun h => ?_) (fun h => ?_))
    refine ⟨⟨k + 1, by omega⟩, ?_, by simp only; omega⟩
    simp only [hm]
    (apply Le.headZ [] rfl)
    all_goals (try dsimp only [srcs])
    (case' hfr | hob => (repeat' (first | refine La ?_ ?_ | exact Lc | refine Lo ?_ | refine ⟨⟨_, rfl, ?_⟩, ?_⟩ | refine Lx ?_)))
    all_goals (first | (rfl) | exact Ld)
  · obtain rfl : k = x.length := by omega
    rw [List.take_length]
    repeat' (first | ((first | apply Ba | (apply Bb; (· rfl); (· rfl)) | (apply Bc; (· exact nxE)) | (apply Bd; (· rfl); (· rfl); (· exact nxE))); (· first | exact Ok.pe)) | ((first | apply Ca | (apply Cb; (· exact nxE))); (· first | exact Ok.e0)) | refine Sx ?_ | (refine Sy (fun h => ?_) (fun h => ?_) <;> try (exfalso; omega; done)) | refine Sz (fun h => ?_) (fun h => ?_))
    refine Ya ?_
    (apply Le.headZ (hs := []) [] rfl)
    all_goals (try dsimp only [srcs])
    (case' hfr => (repeat' (first | refine La ?_ ?_ | exact Lc | refine Lo ?_ | refine ⟨⟨_, rfl, ?_⟩, ?_⟩ | refine Lx ?_)))
    all_goals (first | exact Ld | exact trivial | (rfl))
end Go.Proofs.Ytdgodkpobomneaa
end
