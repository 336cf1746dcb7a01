/-
  Walks in the abstract reading: runs drawn.
-/
import Derived.Test.YtofakjlamoigcaaGreatDoorKsU4
import Derived.Test.YtofakjlamoigcaaGreatDoorKsU7
import Derived.Test.YtofakjlamoigcaaGreatDoorKsA3
namespace Go.Proofs.YtofakjlamoigcaaGreatDoor
set_option linter.unusedSimpArgs false
set_option linter.unusedVariables false
open Go Go.RowKit
theorem rdT_le [Mode] {fs : List Fi} {B : Int} (hB : 0 ≤ B) (h : ∀ f ∈ fs, 0 ≤ f.t ∧ f.t ≤ B) {n : Nat} (e : Int) (xs : List Pl) (hv : ∀ p ∈ xs, okPl n p) : 0 ≤ rdT fs e xs ∧ rdT fs e xs ≤ B + 10000 := by
  have hg : ∀ (a : Int) (i : Nat), 0 ≤ ((tms fs a)[i]?).getD 0 ∧ ((tms fs a)[i]?).getD 0 ≤ B := fun a i => by
    cases hx : (tms fs a)[i]? with
    | none => simpa using hB
    | some t =>
      obtain ⟨f, hf, rfl⟩ := tms_mem (List.mem_of_getElem? hx)
      exact h f hf
  suffices key : ∀ (xs : List Pl) (t : Int), (∀ p ∈ xs, okPl n p) → 0 ≤ t ∧ t ≤ B + 10000 → 0 ≤ xs.foldl (rxP fs e) t ∧ xs.foldl (rxP fs e) t ≤ B + 10000 from key xs 0 hv (by omega)
  intro xs
  induction xs with
  | nil => exact fun t _ h => h
  | cons p ps ih =>
    intro t hv ht
    refine ih _ (fun q hq => hv q (List.mem_cons_of_mem _ hq)) ?_
    have hp := (hv p (by simp)).2.2.1
    unfold rxP
    split
    · exact ht
    · have := hg p.f ((cnt fs e : Int) + 1 - p.k - 1).toNat
      omega
theorem rdR_le [Mode] {fs : List Fi} {B : Int} (hB : 0 ≤ B) (h : ∀ f ∈ fs, 0 ≤ f.t ∧ f.t ≤ B) {n : Nat} (e : Int) (xs : List Pl) (hv : ∀ p ∈ xs, okPl n p) : 0 ≤ (rdR xs fs e).1 ∧ (rdR xs fs e).1 ≤ B + 10000 := by
  unfold rdR
  split
  · exact rdT_le hB h e xs hv
  · exact ⟨Int.le_refl 0, by show (0 : Int) ≤ _; omega⟩
/-- A long run of one event. -/
def lgF (n : Nat) : List Fi := (List.range n).map fun k : Nat => ⟨0, (k : Int) + 1, (k : Int) + 1⟩
theorem lgF_len [Mode] (n : Nat) : (lgF n).length = n := by simp [lgF]
theorem lgF_succ [Mode] (n : Nat) : lgF (n + 1) = lgF n ++ [⟨0, (n : Int) + 1, (n : Int) + 1⟩] := by simp [lgF, List.range_succ]
/-- A run while it is drawn: the source, the firings, the time of the last one. -/
abbrev QR := Src × List Fi × Int
def dR (code : List Int) (n : Int) (xs : List Pl) (q : QR) : QR :=
  let e := nxt code q.1 n
  let r := rdR xs q.2.1 e.1
  let z := nxt code e.2 8
  let t := max q.2.2 (r.1 + max 0 (z.1 - 4))
  if r.2 = true then (z.2, q.2.1 ++ [⟨e.1, (cnt q.2.1 e.1 : Int) + 1, t⟩], t) else (e.2, q.2)
structure DrawnR (code : List Int) (n k : Nat) (q : QR) : Prop where
  s : SrcOk code q.1
  len : q.2.1.length ≤ k
  no : NumOk q.2.1
  tm : ∀ f ∈ q.2.1, 0 ≤ f.t ∧ f.t ≤ q.2.2
  now : 0 ≤ q.2.2 ∧ q.2.2 ≤ 10003 * (k : Int)
theorem dR_ok [Mode] {code : List Int} (hc : CodeOk code) {n : Nat} (hn : 1 ≤ n) {xs : List Pl} (hv : ∀ p ∈ xs, okPl n p) {k : Nat} {q : QR} (h : DrawnR code n k q) : DrawnR code n (k + 1) (dR code n xs q) := by
  obtain ⟨h1, h2, h3, h4, h5⟩ := h
  obtain ⟨e1, e2, e3⟩ := nxt_ok hc h1 n
  obtain ⟨z1, z2, z3⟩ := nxt_ok hc e3 8
  have hr := rdR_le h5.1 h4 (nxt code q.1 n).1 xs hv
  unfold dR
  simp only
  split
  · refine ⟨z3, by simp; omega, h3.snoc (by rfl), fun f hf => ?_, ?_⟩
    · simp only [List.mem_append, List.mem_singleton] at hf
      rcases hf with hf | rfl
      · have := h4 f hf
        simp only; omega
      · simp only; omega
    · simp only; omega
  · exact ⟨e3, by simp only; omega, h3, h4, by simp only; omega⟩
theorem dR_it [Mode] {code : List Int} (hc : CodeOk code) {n : Nat} (hn : 1 ≤ n) {xs : List Pl} (hv : ∀ p ∈ xs, okPl n p) {s : Src} (hs : SrcOk code s) : ∀ k, DrawnR code n k (itr (dR code n xs) k (s, [], 0))
  | 0 => ⟨hs, by simp [itr], fun i f hf => by simp [itr] at hf, fun f hf => by simp [itr] at hf, by simp [itr]⟩
  | k + 1 => dR_ok hc hn hv (dR_it hc hn hv hs k)
theorem ownFi_row [Mode] {xs : List Fi} {k : Nat} {f : Fi} (h : xs[k]? = some f) : (FO xs).rows[0 + ((k : Nat) : Int).toNat]? = some [I f.e, I f.n, I f.t] := by
  rw [Nat.zero_add, Int.toNat_natCast]
  simp [dobj, h, Fi.row]
theorem ownFi_set [Mode] {xs : List Fi} {k : Nat} {f : Fi} : (FO xs).rows.set (0 + ((k : Nat) : Int).toNat) [I f.e, I f.n, I f.t] = (FO (xs.set k f)).rows := by
  rw [Nat.zero_add, Int.toNat_natCast]
  simp [dobj, List.map_set, Fi.row]
theorem ownFi_rowI [Mode] {xs : List Fi} {i : Int} {k : Nat} {f : Fi} (hi : i = k) (h : xs[k]? = some f) : (FO xs).rows[0 + i.toNat]? = some [I f.e, I f.n, I f.t] := by
  subst hi; exact ownFi_row h
theorem ownFi_setI [Mode] {xs : List Fi} {i : Int} {k : Nat} {f : Fi} (hi : i = k) : (FO xs).rows.set (0 + i.toNat) [I f.e, I f.n, I f.t] = (FO (xs.set k f)).rows := by
  subst hi; exact ownFi_set
/-- What is done to one firing of a run drawn. -/
def TailR [Mode] (code : List Int) (n : Int) (s3 : Src) (fs : List Fi) (fs2 : List Fi) (s6 : Src) : Prop :=
  (fs = [] ∧ fs2 = [] ∧ s6 = s3) ∨ ∃ (j : Nat) (f g : Fi) (z : Int) (s4 s5 : Src), fs[j]? = some f ∧ fs[fs.length - 1]? = some g ∧
    AC Tryz.prog 53 [Bx 3 0, I fs.length] (srcH code s3) (I j) (srcH code s4) ∧ AC Tryz.prog 53 [Bx 3 0, I 16] (srcH code s4) (I z) (srcH code s5) ∧
    ((z = 0 ∧ fs2 = fs.set j ⟨f.e, f.n, f.t - 1⟩ ∧ s6 = s5) ∨
     (z = 1 ∧ ∃ b, fs2 = fs.set j ⟨f.e, b, f.t⟩ ∧ AC Tryz.prog 54 [Bx 3 0, .own 1 ⟨1, []⟩ 0 2] (upd (upd H0 ⟨1, []⟩ (some (IO [0, f.n + 1]))) ⟨0, []⟩ (some (srcO code s5))) (I b) (srcH code s6)) ∨
     (z = 2 ∧ ∃ b, fs2 = fs.set j ⟨b, f.n, f.t⟩ ∧ AC Tryz.prog 54 [Bx 3 0, .own 1 ⟨1, []⟩ 0 3] (upd (upd H0 ⟨1, []⟩ (some (IO [-1, n, 0]))) ⟨0, []⟩ (some (srcO code s5))) (I b) (srcH code s6)) ∨
     (z = 3 ∧ ∃ b, fs2 = fs.set (fs.length - 1) ⟨g.e, g.n, b⟩ ∧ AC Tryz.prog 54 [Bx 3 0, .own 1 ⟨1, []⟩ 0 3] (upd (upd H0 ⟨1, []⟩ (some (IO [1000000, 1000001, 9223372036854775807]))) ⟨0, []⟩ (some (srcO code s5))) (I b) (srcH code s6)) ∨
     ((z ≠ 0 ∧ z ≠ 1 ∧ z ≠ 2 ∧ z ≠ 3) ∧ fs2 = fs ∧ s6 = s5))
theorem tailR_ex [Mode] {code : List Int} (hc : CodeOk code) {s3 : Src} (h3 : SrcOk code s3) (n : Int) (fs : List Fi) : ∃ fs2 s6, SrcOk code s6 ∧ fs2.length = fs.length ∧ TailR code n s3 fs fs2 s6 := by
  cases hfs : fs with
  | nil => exact ⟨[], s3, h3, rfl, .inl ⟨rfl, rfl, rfl⟩⟩
  | cons a l =>
    have hl : fs.length = l.length + 1 := by rw [hfs]; rfl
    rw [← hfs]
    obtain ⟨j0, s4, j1, j2, h4, q4, N4⟩ := next_ex hc h3 (fs.length : Int)
    obtain ⟨j, rfl⟩ : ∃ j : Nat, j0 = j := ⟨j0.toNat, by omega⟩
    have hj : j < fs.length := by omega
    obtain ⟨f, hf⟩ : ∃ f, fs[j]? = some f := ⟨fs[j], List.getElem?_eq_getElem hj⟩
    obtain ⟨g, hg⟩ : ∃ g, fs[fs.length - 1]? = some g := ⟨fs[fs.length - 1]'(by omega), List.getElem?_eq_getElem (by omega)⟩
    obtain ⟨z, s5, z1, z2, h5, q5, N5⟩ := next_ex hc h4 16
    obtain ⟨b0, s60, _, h60, _, _, K0⟩ := pick_ex hc h5 [0, f.n + 1] 2 rfl
    obtain ⟨b1, s61, _, h61, _, _, K1⟩ := pick_ex hc h5 [-1, n, 0] 3 rfl
    obtain ⟨b2, s62, _, h62, _, _, K2⟩ := pick_ex hc h5 [1000000, 1000001, 9223372036854775807] 3 rfl
    by_cases c0 : z = 0
    · exact ⟨_, s5, h5, by simp, .inr ⟨j, f, g, z, s4, s5, hf, hg, N4, N5, .inl ⟨c0, rfl, rfl⟩⟩⟩
    by_cases c1 : z = 1
    · exact ⟨_, s60, h60, by simp, .inr ⟨j, f, g, z, s4, s5, hf, hg, N4, N5, .inr (.inl ⟨c1, b0, rfl, K0⟩)⟩⟩
    by_cases c2 : z = 2
    · exact ⟨_, s61, h61, by simp, .inr ⟨j, f, g, z, s4, s5, hf, hg, N4, N5, .inr (.inr (.inl ⟨c2, b1, rfl, K1⟩))⟩⟩
    by_cases c3 : z = 3
    · exact ⟨_, s62, h62, by simp, .inr ⟨j, f, g, z, s4, s5, hf, hg, N4, N5, .inr (.inr (.inr (.inl ⟨c3, b2, rfl, K2⟩)))⟩⟩
    · exact ⟨fs, s5, h5, rfl, .inr ⟨j, f, g, z, s4, s5, hf, hg, N4, N5, .inr (.inr (.inr (.inr ⟨⟨c0, c1, c2, c3⟩, rfl, rfl⟩)))⟩⟩
attribute [local irreducible] AL AD AW OpOk Le AC thenQ blockQ EndQ

theorem l14Long_ac [Mode] (n : Nat) (hn : n ≤ 1000) : AC Tryz.prog 83 [I n] H0 (FL (lgF n)) H0 := by
  refine AC.frz (res := own1 3 (lgF n).length) (H' := hp1 (FO (lgF n))) ?_ (AR.whole rfl trivial FL_len)
  refine AC.of_body 0 Tryz.func83 rfl (fun l h => absurd rfl h) (fun C hC => ?_)
  have hD : ∀ l, ¬ C.D0 l := fun l h => (hC l).1 h rfl
  simp only [startFr, Tryz.ntmps83, List.length_cons, List.length_nil, Nat.reduceAdd, Nat.reduceSub, List.replicate_succ, List.replicate_zero, List.cons_append, List.nil_append]
  repeat' (first | ((first | apply Ba | (apply Bb; (· rfl); (· rfl)) | (apply Bc; (· exact nxE)) | (apply Bd; (· rfl); (· rfl); (· exact nxE))); (· first | exact Ok.slen rfl rfl | exact Ok.pe)) | ((first | apply Ca | (apply Cb; (· exact nxE))); (· first | exact Ok.e0)) | refine Sx ?_ | (refine Sy (fun h => ?_) (fun h => ?_) <;> try (exfalso; omega; done)) | refine Sz (fun h => ?_) (fun h => ?_))
  refine AW.loop (X := {k : Nat // k ≤ n}) (fun k => ⟨[I n, Oo, Oo, .own 3 ⟨0, []⟩ 0 (lgF (k.1 : Nat)).length, I ((k.1 : Nat) + 1), Oo, Oo, Oo, Oo, Oo, Oo, Oo, Oo, Oo, Oo, Oo, Oo, Oo], heapL [(⟨0, []⟩, ⟨0, []⟩, FO (lgF k.1))], 900⟩) (fun k => n - k.1) ⟨0, Nat.zero_le _⟩ ?_ (fun k => ?_)
  ·
    (apply Le.headZ [_] rfl)
    all_goals (try dsimp only [srcs])
    (case' hfr | hob => (repeat' (first | refine La ?_ ?_ | exact Lc | refine Lo ?_ | refine ⟨⟨_, rfl, ?_⟩, ?_⟩ | refine Lx ?_)))
    all_goals (first | (rfl) | exact Ld)
  obtain ⟨k, hk⟩ := k
  simp only
  by_cases hlt : k < n
  · have hst := lgF_succ k
    have hol : ((lgF k).map Fi.row).length = (lgF k).length := FL_len
    have hll := lgF_len k
    repeat' (first | ((first | apply Ba | (apply Bb; (· rfl); (· rfl)) | (apply Bc; (· exact nxE)) | (apply Bd; (· rfl); (· rfl); (· exact nxE))); (· first | exact Ok.slen rfl rfl | exact Ok.append1 (row := [DI 0, DI ((k : Int) + 1), DI ((k : Int) + 1)]) rfl rfl (by decide) rfl rfl hol rfl rfl rfl (by rfl) (by omega) (by omega) | exact Ok.pe)) | ((first | apply Ca | (apply Cb; (· exact nxE))); (· first | exact Ok.append1 (row := [DI 0, DI ((k : Int) + 1), DI ((k : Int) + 1)]) rfl rfl (by decide) rfl rfl hol rfl rfl rfl (by rfl) (by omega) (by omega) | exact Ok.e0)) | refine Sx ?_ | (refine Sy (fun h => ?_) (fun h => ?_) <;> try (exfalso; omega; done)) | refine Sz (fun h => ?_) (fun h => ?_))
    refine ⟨⟨k + 1, by omega⟩, ?_, by simp only; omega⟩
    (apply Le.headZ [_] rfl)
    all_goals (try dsimp only [srcs])
    (case' hfr | hob => (repeat' (first | refine La ?_ ?_ | exact Lc | refine Lo ?_ | refine ⟨⟨_, rfl, ?_⟩, ?_⟩ | refine Lx ?_)))
    all_goals (first | ((first | (rw [hst, List.length_append]; rfl) | (rw [hst, List.map_append]; rfl) | (simp; done))) | exact Ld)
  · obtain rfl : k = n := by omega
    repeat' (first | ((first | apply Ba | (apply Bb; (· rfl); (· rfl)) | (apply Bc; (· exact nxE)) | (apply Bd; (· rfl); (· rfl); (· exact nxE))); (· first | exact Ok.slen rfl rfl | exact Ok.pe)) | ((first | apply Ca | (apply Cb; (· exact nxE))); (· first | exact Ok.e0)) | refine Sx ?_ | (refine Sy (fun h => ?_) (fun h => ?_) <;> try (exfalso; omega; done)) | refine Sz (fun h => ?_) (fun h => ?_))
    refine Ya ?_
    (apply Le.head [(⟨0, []⟩, _, _)])
    (case' hfr | hob => (repeat' (first | refine La ?_ ?_ | exact Lc | refine Lo ?_ | refine ⟨⟨_, rfl, ?_⟩, ?_⟩ | refine Lx ?_)))
    all_goals (first | exact Ld | (rfl))
set_option maxRecDepth 4000 in
set_option maxHeartbeats 16000000 in
theorem l14Draw_long [Mode] (code : List Int) (hc : CodeOk code) (s s1 s2 s3 s6 s7 s8 : Src) (n m : Nat) (xs : List Pl) (fs fs2 : List Fi) (now : Int) (c : Nat) (hn1 : 1 ≤ n) (hn2 : n ≤ 10) (hx : xs.length ≤ 30) (hv : ∀ p ∈ xs, okPl n p) (hm : m ≤ 15)
    (hG : AC Tryz.prog 81 [Bx 3 0] (srcH code s) (grD n xs) (srcH code s1)) (hE : AC Tryz.prog 46 [grD n xs] H0 (Bo true) H0)
    (N2 : AC Tryz.prog 53 [Bx 3 0, I 16] (srcH code s1) (I m) (srcH code s2)) (hall : ∀ k, DrawnR code n k (itr (dR code n xs) k (s2, [], 0))) (hqm : itr (dR code n xs) m (s2, [], 0) = (s3, fs, now)) (i2 : fs.length ≤ m) (i3 : NumOk fs) (i4 : ∀ f ∈ fs, 0 ≤ f.t ∧ f.t ≤ now) (i5 : 0 ≤ now ∧ now ≤ 10003 * (m : Int)) (hT : TailR code n s3 fs fs2 s6)
    (N7 : AC Tryz.prog 53 [Bx 3 0, I 60] (srcH code s6) (I 0) (srcH code s7)) (hcn : c ≤ 1000)
    (K7 : AC Tryz.prog 54 [Bx 3 0, .own 1 ⟨1, []⟩ 0 4] (upd (upd H0 ⟨1, []⟩ (some (IO [50, 51, 500, 501]))) ⟨0, []⟩ (some (srcO code s7))) (I c) (srcH code s8)) :
    AC Tryz.prog 56 [Bx 3 0] (heapL [(⟨0, []⟩, ⟨0, []⟩, srcO code s)]) (.tup [grD 1 [], FL (lgF c)]) (srcH code s8) := by
  have hLg := l14Long_ac c hcn
  refine AC.of_body 1 Tryz.func56 rfl (fun l h => by simp [heapL, upd] at h; simp [h]) (fun C hC => ?_)
  simp only [startFr, Tryz.ntmps56, List.length_cons, List.length_nil, Nat.reduceAdd, Nat.reduceSub, List.replicate_succ, List.replicate_zero, List.cons_append, List.nil_append]
  have hD : ∀ l, C.D0 l → l = ⟨0, []⟩ := fun l h => by have := (hC l).1 h; simp [heapL, upd] at this; exact this
  repeat' (first | ((first | apply Ba | (apply Bb; (· rfl); (· rfl)) | (apply Bc; (· exact nxE)) | (apply Bd; (· rfl); (· rfl); (· exact nxE))); (· first | exact Kz rfl rfl (hE) (Aa (Ad (Ad An)) An) | exact Ok.slen rfl rfl | exact Zx (args := []) hG rfl rfl rfl rfl .nil (fun _ => by simp [rn]) | exact Nx N2 rfl rfl rfl rfl rfl | exact Ok.pe)) | ((first | apply Ca | (apply Cb; (· exact nxE))); (· first | exact Zx (args := []) hG rfl rfl rfl rfl .nil (fun _ => by simp [rn]) | exact Nx N2 rfl rfl rfl rfl rfl | exact Ok.e0)) | refine Sx ?_ | (refine Sy (fun h => ?_) (fun h => ?_) <;> try (exfalso; omega; done)) | refine Sz (fun h => ?_) (fun h => ?_))
  refine AW.loop (X := {k : Nat // k ≤ m}) (fun k => ⟨[Bx 3 0, Oo, Bx 2 1, Oo, Bx 2 2, .own 3 ⟨3, []⟩ 0 (itr (dR code n xs) (k.1 : Nat) (s2, [], 0)).2.1.length, I (itr (dR code n xs) (k.1 : Nat) (s2, [], 0)).2.2, I ((m : Int) - (k.1 : Nat)), Oo, Oo, Oo, Oo, Oo, Oo, Oo, Oo, Oo, Oo, Oo, Oo, Oo, Oo, Oo, Oo, Oo, Oo, Oo, Oo, Oo, Oo, Oo, Oo, Oo, Oo, Oo, Oo, Oo, Oo, Oo, Oo, Oo, Oo, Oo, Oo, Oo, Oo, Oo, Oo, Oo, Oo, Oo, Oo, Oo, Oo, Oo, Oo, Oo, Oo, Oo, Oo, Oo, Oo, Oo, Oo, Oo, Oo, Oo, Oo, Oo, Oo, Oo, Oo, Oo, Oo, Oo, Oo, Oo, Oo, Oo, Oo, Oo, Oo, Oo, Oo, Oo, Oo, Oo, Oo, Oo, Oo, Oo, Oo, Oo, Oo, Oo, Oo, Oo, Oo, Oo, Oo, Oo, Oo, Oo, Oo, Oo, Oo, Oo, Oo, Oo, Oo, Oo, Oo, Oo, Oo, Oo, Oo, Oo, Oo, Oo, Oo, Oo, Oo, Oo, Oo, Oo, Oo], heapL [(⟨0, []⟩, ⟨0, []⟩, srcO code (itr (dR code n xs) k.1 (s2, [], 0)).1), (⟨1, []⟩, ⟨1, []⟩, ⟨2, [[I 0, nilS]]⟩), (⟨2, []⟩, ⟨2, []⟩, ⟨2, [[I n, PL xs]]⟩), (⟨3, []⟩, ⟨3, []⟩, FO (itr (dR code n xs) k.1 (s2, [], 0)).2.1)], 900⟩) (fun k => m - k.1) ⟨0, Nat.zero_le _⟩ ?_ (fun k => ?_)
  ·
    (apply Le.headZ [_, _, _, _] rfl)
    all_goals (try dsimp only [srcs])
    (case' hfr | hob => (repeat' (first | refine La ?_ ?_ | exact Lc | refine Lo ?_ | refine ⟨⟨_, rfl, ?_⟩, ?_⟩ | refine Lx ?_)))
    all_goals (first | (first | rfl | (simp [itr]; done)) | exact Ld)
  obtain ⟨k, hk⟩ := k
  simp only
  by_cases hlt : k < m
  · have hM := hall k
    have hstep : itr (dR code n xs) (k + 1) (s2, [], 0) = dR code n xs (itr (dR code n xs) k (s2, [], 0)) := rfl
    generalize itr (dR code n xs) k (s2, [], 0) = q at hM hstep ⊢
    obtain ⟨s3, fs, now⟩ := q
    obtain ⟨i1, i2, i3, i4, i5⟩ := hM
    simp only at i1 i2 i3 i4 i5
    obtain ⟨e, s4, e1, e2, h4, q4, N4⟩ := next_ex hc i1 n
    obtain ⟨z, s5, z1, z2, h5, q5, N5⟩ := next_ex hc h4 8
    have hR := l14Ready_ac n n xs fs e hv (by omega) i3 (fun f hf => by have := i4 f hf; omega) (by omega)
    have hCn := l14Count_ac fs e (by omega)
    have hcl := cnt_le fs e
    have hrd := rdR_le i5.1 i4 e xs hv
    have hst2 : itr (dR code n xs) (k + 1) (s2, [], 0) = if (rdR xs fs e).2 = true then (s5, fs ++ [⟨e, (cnt fs e : Int) + 1, max now ((rdR xs fs e).1 + max 0 (z - 4))⟩], max now ((rdR xs fs e).1 + max 0 (z - 4))) else (s4, fs, now) := by
      rw [hstep]; unfold dR; simp only [q4, q5]
    clear hstep
    have hol : (fs.map Fi.row).length = fs.length := FL_len
    generalize rdR xs fs e = r at *
    generalize cnt fs e = cn at *
    obtain ⟨rt, rb⟩ := r
    simp only at hrd hR hst2
    cases rb with
    | false =>
      rw [if_neg (by decide)] at hst2
      repeat' (first | ((first | apply Ba | (apply Bb; (· rfl); (· rfl)) | (apply Bc; (· exact nxE)) | (apply Bd; (· rfl); (· rfl); (· exact nxE))); (· first | exact Ez rfl rfl (hR) (Sa (Sd (Sd Sn)) (Sw (Sd Sn))) | exact Ok.slen rfl rfl | exact Nl N4 rfl rfl rfl rfl rfl | exact Ok.pe)) | ((first | apply Ca | (apply Cb; (· exact nxE))); (· first | exact Nl N4 rfl rfl rfl rfl rfl | exact Ok.e0)) | refine Sx ?_ | (refine Sy (fun h => ?_) (fun h => ?_) <;> try (exfalso; omega; done)) | refine Sz (fun h => ?_) (fun h => ?_))
      refine ⟨⟨k + 1, by omega⟩, ?_, by simp only; omega⟩
      simp only [hst2]
      (apply Le.headZ [_, _, _, _] rfl)
      all_goals (try dsimp only [srcs])
      (case' hfr | hob => (repeat' (first | refine La ?_ ?_ | exact Lc | refine Lo ?_ | refine ⟨⟨_, rfl, ?_⟩, ?_⟩ | refine Lx ?_)))
      all_goals (first | (rfl) | exact Ld)
    | true =>
      rw [if_pos rfl] at hst2
      repeat' (first | ((first | apply Ba | (apply Bb; (· rfl); (· rfl)) | (apply Bc; (· exact nxE)) | (apply Bd; (· rfl); (· rfl); (· exact nxE))); (· first | exact Ez rfl rfl (hR) (Sa (Sd (Sd Sn)) (Sw (Sd Sn))) | exact Ez rfl rfl (hCn) (Sw (Sd Sn)) | exact Ok.slen rfl rfl | exact Nl N4 rfl rfl rfl rfl rfl | exact Nl N5 rfl rfl rfl rfl rfl | exact Ok.append1 (row := [DI e, DI ((cn : Int) + 1), DI (max now (rt + max 0 (z - 4)))]) rfl rfl (by decide) rfl rfl hol rfl rfl rfl (by rfl) (by omega) (by omega) | exact Ok.pe)) | ((first | apply Ca | (apply Cb; (· exact nxE))); (· first | exact Nl N4 rfl rfl rfl rfl rfl | exact Nl N5 rfl rfl rfl rfl rfl | exact Ok.append1 (row := [DI e, DI ((cn : Int) + 1), DI (max now (rt + max 0 (z - 4)))]) rfl rfl (by decide) rfl rfl hol rfl rfl rfl (by rfl) (by omega) (by omega) | exact Ok.e0)) | refine Sx ?_ | (refine Sy (fun h => ?_) (fun h => ?_) <;> try (exfalso; omega; done)) | refine Sz (fun h => ?_) (fun h => ?_))
      refine ⟨⟨k + 1, by omega⟩, ?_, by simp only; omega⟩
      simp only [hst2]
      (apply Le.headZ [_, _, _, _] rfl)
      all_goals (try dsimp only [srcs])
      (case' hfr | hob => (repeat' (first | refine La ?_ ?_ | exact Lc | refine Lo ?_ | refine ⟨⟨_, rfl, ?_⟩, ?_⟩ | refine Lx ?_)))
      all_goals (first | (first | (rw [List.length_append]; rfl) | (rw [List.map_append]; rfl) | (simp; done)) | exact Ld)
  obtain rfl : k = m := by omega
  rw [hqm]
  simp only
  have hfl : (fs.map Fi.row).length = fs.length := FL_len
  have hfl2 : (FO fs).rows.length = fs.length := by simp [dobj]
  rcases hT with ⟨rfl, rfl, rfl⟩ | ⟨j, f, g, z, s4, s5, hf, hg', N4, N5, hz⟩
  ·
    repeat' (first | ((first | apply Ba | (apply Bb; (· rfl); (· rfl)) | (apply Bc; (· exact nxE)) | (apply Bd; (· rfl); (· rfl); (· exact nxE))); (· first | exact Kz rfl rfl (hLg) (Ad An) | exact Ok.slen rfl rfl | exact Nl N7 rfl rfl rfl rfl rfl | exact Kl K7 rfl rfl rfl rfl rfl rfl (by decide) | exact Ok.bs4 rfl rfl rfl rfl rfl rfl | exact Ok.pe)) | ((first | apply Ca | (apply Cb; (· exact nxE))); (· first | exact Nl N7 rfl rfl rfl rfl rfl | exact Kl K7 rfl rfl rfl rfl rfl rfl (by decide) | exact Ok.bs4 rfl rfl rfl rfl rfl rfl | exact Ok.e0)) | refine Sx ?_ | (refine Sy (fun h => ?_) (fun h => ?_) <;> try (exfalso; omega; done)) | refine Sz (fun h => ?_) (fun h => ?_))
    all_goals
      refine Yb ?_
      (apply Le.headZ (hs := [(⟨0, []⟩, ⟨0, []⟩, _)]) [⟨0, []⟩] rfl)
      all_goals (try dsimp only [srcs])
      (case' hfr | hob => (repeat' (first | refine La ?_ ?_ | refine ARs.agg ?_ | refine ARs.tup ?_ | (first | exact AR.whole rfl (by simp) rfl | exact AR.whole rfl (by simp) FL_len) | refine La ?_ ?_ | exact Lc | refine Lo ?_ | refine ⟨⟨_, rfl, ?_⟩, ?_⟩ | refine Lx ?_)))
      all_goals (first | exact Ld | exact trivial | (first | exact AR.whole rfl (by simp) rfl | exact AR.whole rfl (by simp) FL_len))
  have hjl := (List.getElem?_eq_some_iff.1 hf).1
  have hfn := i3 j f hf
  have hft := i4 f (List.mem_of_getElem? hf)
  have hcl := cnt_le (fs.take j) f.e
  have htl := List.length_take_le j fs
  have hrf := ownFi_row hf
  have hrg := ownFi_rowI (i := ((fs.length : Nat) : Int) - 1) (k := fs.length - 1) (by omega) hg'
  have hbn : 0 ≤ f.n ∧ f.n ≤ 1000 := by omega
  rcases hz with ⟨rfl, rfl, rfl⟩ | ⟨rfl, b, rfl, K0⟩ | ⟨rfl, b, rfl, K0⟩ | ⟨rfl, b, rfl, K0⟩ | ⟨hzz, hfe, hse⟩
  ·
    have hsl : ((FO fs).rows.length = fs.length) := hfl2
    repeat' (first | ((first | apply Ba | (apply Bb; (· rfl); (· rfl)) | (apply Bc; (· exact nxE)) | (apply Bd; (· rfl); (· rfl); (· exact nxE))); (· first | exact OpOk.loadCell rfl rfl rfl rfl hrf rfl | exact Kz rfl rfl (hLg) (Ad An) | exact Ok.slen rfl rfl | exact Nl N4 rfl rfl rfl rfl rfl | exact Nl N5 rfl rfl rfl rfl rfl | exact Ok.storeC rfl rfl rfl rfl hrf (by simp only [List.length_cons, List.length_nil, Nat.reduceAdd, Nat.reduceLT]) (by conv => lhs; whnf) (by rfl) (by rfl) (ownFi_set (f := ⟨f.e, f.n, f.t - 1⟩)) | exact Nl N7 rfl rfl rfl rfl rfl | exact Kl K7 rfl rfl rfl rfl rfl rfl (by decide) | exact Ok.bs4 rfl rfl rfl rfl rfl rfl | exact Ok.pe)) | ((first | apply Ca | (apply Cb; (· exact nxE))); (· first | exact Nl N4 rfl rfl rfl rfl rfl | exact Nl N5 rfl rfl rfl rfl rfl | exact Ok.storeC rfl rfl rfl rfl hrf (by simp only [List.length_cons, List.length_nil, Nat.reduceAdd, Nat.reduceLT]) (by conv => lhs; whnf) (by rfl) (by rfl) (ownFi_set (f := ⟨f.e, f.n, f.t - 1⟩)) | exact Nl N7 rfl rfl rfl rfl rfl | exact Kl K7 rfl rfl rfl rfl rfl rfl (by decide) | exact Ok.bs4 rfl rfl rfl rfl rfl rfl | exact Ok.e0)) | refine Sx ?_ | (refine Sy (fun h => ?_) (fun h => ?_) <;> try (exfalso; omega; done)) | refine Sz (fun h => ?_) (fun h => ?_))
    all_goals
      refine Yb ?_
      (apply Le.headZ (hs := [(⟨0, []⟩, ⟨0, []⟩, _)]) [⟨0, []⟩] rfl)
      all_goals (try dsimp only [srcs])
      (case' hfr | hob => (repeat' (first | refine La ?_ ?_ | refine ARs.agg ?_ | refine ARs.tup ?_ | (first | exact AR.whole rfl (by simp) rfl | exact AR.whole rfl (by simp) FL_len) | refine La ?_ ?_ | exact Lc | refine Lo ?_ | refine ⟨⟨_, rfl, ?_⟩, ?_⟩ | refine Lx ?_)))
      all_goals (first | exact Ld | exact trivial | (first | exact AR.whole rfl (by simp) rfl | exact AR.whole rfl (by simp) FL_len))
  ·
    have hsl : ((FO fs).rows.length = fs.length) := hfl2
    repeat' (first | ((first | apply Ba | (apply Bb; (· rfl); (· rfl)) | (apply Bc; (· exact nxE)) | (apply Bd; (· rfl); (· rfl); (· exact nxE))); (· first | exact OpOk.loadCell rfl rfl rfl rfl hrf rfl | exact Kz rfl rfl (hLg) (Ad An) | exact Ok.slen rfl rfl | exact Nl N4 rfl rfl rfl rfl rfl | exact Nl N5 rfl rfl rfl rfl rfl | exact Kl K0 rfl rfl rfl rfl rfl rfl (by decide) | exact Ok.storeC rfl rfl rfl rfl hrf (by simp only [List.length_cons, List.length_nil, Nat.reduceAdd, Nat.reduceLT]) (by conv => lhs; whnf) (by rfl) (by rfl) (ownFi_set (f := ⟨f.e, b, f.t⟩)) | exact Ok.bs2I rfl rfl rfl rfl | exact Nl N7 rfl rfl rfl rfl rfl | exact Kl K7 rfl rfl rfl rfl rfl rfl (by decide) | exact Ok.bs4 rfl rfl rfl rfl rfl rfl | exact Ok.pe)) | ((first | apply Ca | (apply Cb; (· exact nxE))); (· first | exact Nl N4 rfl rfl rfl rfl rfl | exact Nl N5 rfl rfl rfl rfl rfl | exact Kl K0 rfl rfl rfl rfl rfl rfl (by decide) | exact Ok.storeC rfl rfl rfl rfl hrf (by simp only [List.length_cons, List.length_nil, Nat.reduceAdd, Nat.reduceLT]) (by conv => lhs; whnf) (by rfl) (by rfl) (ownFi_set (f := ⟨f.e, b, f.t⟩)) | exact Ok.bs2I rfl rfl rfl rfl | exact Nl N7 rfl rfl rfl rfl rfl | exact Kl K7 rfl rfl rfl rfl rfl rfl (by decide) | exact Ok.bs4 rfl rfl rfl rfl rfl rfl | exact Ok.e0)) | refine Sx ?_ | (refine Sy (fun h => ?_) (fun h => ?_) <;> try (exfalso; omega; done)) | refine Sz (fun h => ?_) (fun h => ?_))
    all_goals
      refine Yb ?_
      (apply Le.headZ (hs := [(⟨0, []⟩, ⟨0, []⟩, _)]) [⟨0, []⟩] rfl)
      all_goals (try dsimp only [srcs])
      (case' hfr | hob => (repeat' (first | refine La ?_ ?_ | refine ARs.agg ?_ | refine ARs.tup ?_ | (first | exact AR.whole rfl (by simp) rfl | exact AR.whole rfl (by simp) FL_len) | refine La ?_ ?_ | exact Lc | refine Lo ?_ | refine ⟨⟨_, rfl, ?_⟩, ?_⟩ | refine Lx ?_)))
      all_goals (first | exact Ld | exact trivial | (first | exact AR.whole rfl (by simp) rfl | exact AR.whole rfl (by simp) FL_len))
  ·
    have hsl : ((FO fs).rows.length = fs.length) := hfl2
    repeat' (first | ((first | apply Ba | (apply Bb; (· rfl); (· rfl)) | (apply Bc; (· exact nxE)) | (apply Bd; (· rfl); (· rfl); (· exact nxE))); (· first | exact Kz rfl rfl (hLg) (Ad An) | exact Ok.slen rfl rfl | exact Nl N4 rfl rfl rfl rfl rfl | exact Nl N5 rfl rfl rfl rfl rfl | exact Kl K0 rfl rfl rfl rfl rfl rfl (by decide) | exact Ok.storeC rfl rfl rfl rfl hrf (by simp only [List.length_cons, List.length_nil, Nat.reduceAdd, Nat.reduceLT]) (by conv => lhs; whnf) (by rfl) (by rfl) (ownFi_set (f := ⟨b, f.n, f.t⟩)) | exact Ok.bs3 rfl rfl rfl rfl rfl | exact Nl N7 rfl rfl rfl rfl rfl | exact Kl K7 rfl rfl rfl rfl rfl rfl (by decide) | exact Ok.bs4 rfl rfl rfl rfl rfl rfl | exact Ok.pe)) | ((first | apply Ca | (apply Cb; (· exact nxE))); (· first | exact Nl N4 rfl rfl rfl rfl rfl | exact Nl N5 rfl rfl rfl rfl rfl | exact Kl K0 rfl rfl rfl rfl rfl rfl (by decide) | exact Ok.storeC rfl rfl rfl rfl hrf (by simp only [List.length_cons, List.length_nil, Nat.reduceAdd, Nat.reduceLT]) (by conv => lhs; whnf) (by rfl) (by rfl) (ownFi_set (f := ⟨b, f.n, f.t⟩)) | exact Ok.bs3 rfl rfl rfl rfl rfl | exact Nl N7 rfl rfl rfl rfl rfl | exact Kl K7 rfl rfl rfl rfl rfl rfl (by decide) | exact Ok.bs4 rfl rfl rfl rfl rfl rfl | exact Ok.e0)) | refine Sx ?_ | (refine Sy (fun h => ?_) (fun h => ?_) <;> try (exfalso; omega; done)) | refine Sz (fun h => ?_) (fun h => ?_))
    all_goals
      refine Yb ?_
      (apply Le.headZ (hs := [(⟨0, []⟩, ⟨0, []⟩, _)]) [⟨0, []⟩] rfl)
      all_goals (try dsimp only [srcs])
      (case' hfr | hob => (repeat' (first | refine La ?_ ?_ | refine ARs.agg ?_ | refine ARs.tup ?_ | (first | exact AR.whole rfl (by simp) rfl | exact AR.whole rfl (by simp) FL_len) | refine La ?_ ?_ | exact Lc | refine Lo ?_ | refine ⟨⟨_, rfl, ?_⟩, ?_⟩ | refine Lx ?_)))
      all_goals (first | exact Ld | exact trivial | (first | exact AR.whole rfl (by simp) rfl | exact AR.whole rfl (by simp) FL_len))
  ·
    have hsl : ((FO fs).rows.length = fs.length) := hfl2
    repeat' (first | ((first | apply Ba | (apply Bb; (· rfl); (· rfl)) | (apply Bc; (· exact nxE)) | (apply Bd; (· rfl); (· rfl); (· exact nxE))); (· first | exact Kz rfl rfl (hLg) (Ad An) | exact Ok.slen rfl rfl | exact Nl N4 rfl rfl rfl rfl rfl | exact Nl N5 rfl rfl rfl rfl rfl | exact Kl K0 rfl rfl rfl rfl rfl rfl (by decide) | exact Ok.storeC rfl rfl rfl rfl hrg (by simp only [List.length_cons, List.length_nil, Nat.reduceAdd, Nat.reduceLT]) (by conv => lhs; whnf) (by rfl) (by rfl) (ownFi_setI (i := ((fs.length : Nat) : Int) - 1) (k := fs.length - 1) (f := ⟨g.e, g.n, b⟩) (by omega)) | exact Ok.bs3 rfl rfl rfl rfl rfl | exact Nl N7 rfl rfl rfl rfl rfl | exact Kl K7 rfl rfl rfl rfl rfl rfl (by decide) | exact Ok.bs4 rfl rfl rfl rfl rfl rfl | exact Ok.pe)) | ((first | apply Ca | (apply Cb; (· exact nxE))); (· first | exact Nl N4 rfl rfl rfl rfl rfl | exact Nl N5 rfl rfl rfl rfl rfl | exact Kl K0 rfl rfl rfl rfl rfl rfl (by decide) | exact Ok.storeC rfl rfl rfl rfl hrg (by simp only [List.length_cons, List.length_nil, Nat.reduceAdd, Nat.reduceLT]) (by conv => lhs; whnf) (by rfl) (by rfl) (ownFi_setI (i := ((fs.length : Nat) : Int) - 1) (k := fs.length - 1) (f := ⟨g.e, g.n, b⟩) (by omega)) | exact Ok.bs3 rfl rfl rfl rfl rfl | exact Nl N7 rfl rfl rfl rfl rfl | exact Kl K7 rfl rfl rfl rfl rfl rfl (by decide) | exact Ok.bs4 rfl rfl rfl rfl rfl rfl | exact Ok.e0)) | refine Sx ?_ | (refine Sy (fun h => ?_) (fun h => ?_) <;> try (exfalso; omega; done)) | refine Sz (fun h => ?_) (fun h => ?_))
    all_goals
      refine Yb ?_
      (apply Le.headZ (hs := [(⟨0, []⟩, ⟨0, []⟩, _)]) [⟨0, []⟩] rfl)
      all_goals (try dsimp only [srcs])
      (case' hfr | hob => (repeat' (first | refine La ?_ ?_ | refine ARs.agg ?_ | refine ARs.tup ?_ | (first | exact AR.whole rfl (by simp) rfl | exact AR.whole rfl (by simp) FL_len) | refine La ?_ ?_ | exact Lc | refine Lo ?_ | refine ⟨⟨_, rfl, ?_⟩, ?_⟩ | refine Lx ?_)))
      all_goals (first | exact Ld | exact trivial | (first | exact AR.whole rfl (by simp) rfl | exact AR.whole rfl (by simp) FL_len))
  ·
    have hfe := hfe.symm
    subst hfe
    subst hse
    have hsl : ((FO fs).rows.length = fs.length) := hfl2
    repeat' (first | ((first | apply Ba | (apply Bb; (· rfl); (· rfl)) | (apply Bc; (· exact nxE)) | (apply Bd; (· rfl); (· rfl); (· exact nxE))); (· first | exact Kz rfl rfl (hLg) (Ad An) | exact Ok.slen rfl rfl | exact Nl N4 rfl rfl rfl rfl rfl | exact Nl N5 rfl rfl rfl rfl rfl | exact Nl N7 rfl rfl rfl rfl rfl | exact Kl K7 rfl rfl rfl rfl rfl rfl (by decide) | exact Ok.bs4 rfl rfl rfl rfl rfl rfl | exact Ok.pe)) | ((first | apply Ca | (apply Cb; (· exact nxE))); (· first | exact Nl N4 rfl rfl rfl rfl rfl | exact Nl N5 rfl rfl rfl rfl rfl | exact Nl N7 rfl rfl rfl rfl rfl | exact Kl K7 rfl rfl rfl rfl rfl rfl (by decide) | exact Ok.bs4 rfl rfl rfl rfl rfl rfl | exact Ok.e0)) | refine Sx ?_ | (refine Sy (fun h => ?_) (fun h => ?_) <;> try (exfalso; omega; done)) | refine Sz (fun h => ?_) (fun h => ?_))
    all_goals
      refine Yb ?_
      (apply Le.headZ (hs := [(⟨0, []⟩, ⟨0, []⟩, _)]) [⟨0, []⟩] rfl)
      all_goals (try dsimp only [srcs])
      (case' hfr | hob => (repeat' (first | refine La ?_ ?_ | refine ARs.agg ?_ | refine ARs.tup ?_ | (first | exact AR.whole rfl (by simp) rfl | exact AR.whole rfl (by simp) FL_len) | refine La ?_ ?_ | exact Lc | refine Lo ?_ | refine ⟨⟨_, rfl, ?_⟩, ?_⟩ | refine Lx ?_)))
      all_goals (first | exact Ld | exact trivial | (first | exact AR.whole rfl (by simp) rfl | exact AR.whole rfl (by simp) FL_len))
set_option maxRecDepth 4000 in
set_option maxHeartbeats 16000000 in
theorem l14Draw_run [Mode] (code : List Int) (hc : CodeOk code) (s s1 s2 s3 s6 s7 : Src) (n m : Nat) (xs : List Pl) (fs fs2 : List Fi) (now : Int) (y : Int) (hn1 : 1 ≤ n) (hn2 : n ≤ 10) (hx : xs.length ≤ 30) (hv : ∀ p ∈ xs, okPl n p) (hm : m ≤ 15)
    (hG : AC Tryz.prog 81 [Bx 3 0] (srcH code s) (grD n xs) (srcH code s1)) (hE : AC Tryz.prog 46 [grD n xs] H0 (Bo true) H0)
    (N2 : AC Tryz.prog 53 [Bx 3 0, I 16] (srcH code s1) (I m) (srcH code s2)) (hall : ∀ k, DrawnR code n k (itr (dR code n xs) k (s2, [], 0))) (hqm : itr (dR code n xs) m (s2, [], 0) = (s3, fs, now)) (i2 : fs.length ≤ m) (i3 : NumOk fs) (i4 : ∀ f ∈ fs, 0 ≤ f.t ∧ f.t ≤ now) (i5 : 0 ≤ now ∧ now ≤ 10003 * (m : Int)) (hT : TailR code n s3 fs fs2 s6)
    (N7 : AC Tryz.prog 53 [Bx 3 0, I 60] (srcH code s6) (I y) (srcH code s7)) (hy : y ≠ 0) :
    AC Tryz.prog 56 [Bx 3 0] (heapL [(⟨0, []⟩, ⟨0, []⟩, srcO code s)]) (.tup [grD n xs, FL fs2]) (srcH code s7) := by
  refine AC.of_body 1 Tryz.func56 rfl (fun l h => by simp [heapL, upd] at h; simp [h]) (fun C hC => ?_)
  simp only [startFr, Tryz.ntmps56, List.length_cons, List.length_nil, Nat.reduceAdd, Nat.reduceSub, List.replicate_succ, List.replicate_zero, List.cons_append, List.nil_append]
  have hD : ∀ l, C.D0 l → l = ⟨0, []⟩ := fun l h => by have := (hC l).1 h; simp [heapL, upd] at this; exact this
  repeat' (first | ((first | apply Ba | (apply Bb; (· rfl); (· rfl)) | (apply Bc; (· exact nxE)) | (apply Bd; (· rfl); (· rfl); (· exact nxE))); (· first | exact Kz rfl rfl (hE) (Aa (Ad (Ad An)) An) | exact Ok.slen rfl rfl | exact Zx (args := []) hG rfl rfl rfl rfl .nil (fun _ => by simp [rn]) | exact Nx N2 rfl rfl rfl rfl rfl | exact Ok.pe)) | ((first | apply Ca | (apply Cb; (· exact nxE))); (· first | exact Zx (args := []) hG rfl rfl rfl rfl .nil (fun _ => by simp [rn]) | exact Nx N2 rfl rfl rfl rfl rfl | exact Ok.e0)) | refine Sx ?_ | (refine Sy (fun h => ?_) (fun h => ?_) <;> try (exfalso; omega; done)) | refine Sz (fun h => ?_) (fun h => ?_))
  refine AW.loop (X := {k : Nat // k ≤ m}) (fun k => ⟨[Bx 3 0, Oo, Bx 2 1, Oo, Bx 2 2, .own 3 ⟨3, []⟩ 0 (itr (dR code n xs) (k.1 : Nat) (s2, [], 0)).2.1.length, I (itr (dR code n xs) (k.1 : Nat) (s2, [], 0)).2.2, I ((m : Int) - (k.1 : Nat)), Oo, Oo, Oo, Oo, Oo, Oo, Oo, Oo, Oo, Oo, Oo, Oo, Oo, Oo, Oo, Oo, Oo, Oo, Oo, Oo, Oo, Oo, Oo, Oo, Oo, Oo, Oo, Oo, Oo, Oo, Oo, Oo, Oo, Oo, Oo, Oo, Oo, Oo, Oo, Oo, Oo, Oo, Oo, Oo, Oo, Oo, Oo, Oo, Oo, Oo, Oo, Oo, Oo, Oo, Oo, Oo, Oo, Oo, Oo, Oo, Oo, Oo, Oo, Oo, Oo, Oo, Oo, Oo, Oo, Oo, Oo, Oo, Oo, Oo, Oo, Oo, Oo, Oo, Oo, Oo, Oo, Oo, Oo, Oo, Oo, Oo, Oo, Oo, Oo, Oo, Oo, Oo, Oo, Oo, Oo, Oo, Oo, Oo, Oo, Oo, Oo, Oo, Oo, Oo, Oo, Oo, Oo, Oo, Oo, Oo, Oo, Oo, Oo, Oo, Oo, Oo, Oo, Oo], heapL [(⟨0, []⟩, ⟨0, []⟩, srcO code (itr (dR code n xs) k.1 (s2, [], 0)).1), (⟨1, []⟩, ⟨1, []⟩, ⟨2, [[I 0, nilS]]⟩), (⟨2, []⟩, ⟨2, []⟩, ⟨2, [[I n, PL xs]]⟩), (⟨3, []⟩, ⟨3, []⟩, FO (itr (dR code n xs) k.1 (s2, [], 0)).2.1)], 900⟩) (fun k => m - k.1) ⟨0, Nat.zero_le _⟩ ?_ (fun k => ?_)
  ·
    (apply Le.headZ [_, _, _, _] rfl)
    all_goals (try dsimp only [srcs])
    (case' hfr | hob => (repeat' (first | refine La ?_ ?_ | exact Lc | refine Lo ?_ | refine ⟨⟨_, rfl, ?_⟩, ?_⟩ | refine Lx ?_)))
    all_goals (first | (first | rfl | (simp [itr]; done)) | exact Ld)
  obtain ⟨k, hk⟩ := k
  simp only
  by_cases hlt : k < m
  · have hM := hall k
    have hstep : itr (dR code n xs) (k + 1) (s2, [], 0) = dR code n xs (itr (dR code n xs) k (s2, [], 0)) := rfl
    generalize itr (dR code n xs) k (s2, [], 0) = q at hM hstep ⊢
    obtain ⟨s3, fs, now⟩ := q
    obtain ⟨i1, i2, i3, i4, i5⟩ := hM
    simp only at i1 i2 i3 i4 i5
    obtain ⟨e, s4, e1, e2, h4, q4, N4⟩ := next_ex hc i1 n
    obtain ⟨z, s5, z1, z2, h5, q5, N5⟩ := next_ex hc h4 8
    have hR := l14Ready_ac n n xs fs e hv (by omega) i3 (fun f hf => by have := i4 f hf; omega) (by omega)
    have hCn := l14Count_ac fs e (by omega)
    have hcl := cnt_le fs e
    have hrd := rdR_le i5.1 i4 e xs hv
    have hst2 : itr (dR code n xs) (k + 1) (s2, [], 0) = if (rdR xs fs e).2 = true then (s5, fs ++ [⟨e, (cnt fs e : Int) + 1, max now ((rdR xs fs e).1 + max 0 (z - 4))⟩], max now ((rdR xs fs e).1 + max 0 (z - 4))) else (s4, fs, now) := by
      rw [hstep]; unfold dR; simp only [q4, q5]
    clear hstep
    have hol : (fs.map Fi.row).length = fs.length := FL_len
    generalize rdR xs fs e = r at *
    generalize cnt fs e = cn at *
    obtain ⟨rt, rb⟩ := r
    simp only at hrd hR hst2
    cases rb with
    | false =>
      rw [if_neg (by decide)] at hst2
      repeat' (first | ((first | apply Ba | (apply Bb; (· rfl); (· rfl)) | (apply Bc; (· exact nxE)) | (apply Bd; (· rfl); (· rfl); (· exact nxE))); (· first | exact Ez rfl rfl (hR) (Sa (Sd (Sd Sn)) (Sw (Sd Sn))) | exact Ok.slen rfl rfl | exact Nl N4 rfl rfl rfl rfl rfl | exact Ok.pe)) | ((first | apply Ca | (apply Cb; (· exact nxE))); (· first | exact Nl N4 rfl rfl rfl rfl rfl | exact Ok.e0)) | refine Sx ?_ | (refine Sy (fun h => ?_) (fun h => ?_) <;> try (exfalso; omega; done)) | refine Sz (fun h => ?_) (fun h => ?_))
      refine ⟨⟨k + 1, by omega⟩, ?_, by simp only; omega⟩
      simp only [hst2]
      (apply Le.headZ [_, _, _, _] rfl)
      all_goals (try dsimp only [srcs])
      (case' hfr | hob => (repeat' (first | refine La ?_ ?_ | exact Lc | refine Lo ?_ | refine ⟨⟨_, rfl, ?_⟩, ?_⟩ | refine Lx ?_)))
      all_goals (first | (rfl) | exact Ld)
    | true =>
      rw [if_pos rfl] at hst2
      repeat' (first | ((first | apply Ba | (apply Bb; (· rfl); (· rfl)) | (apply Bc; (· exact nxE)) | (apply Bd; (· rfl); (· rfl); (· exact nxE))); (· first | exact Ez rfl rfl (hR) (Sa (Sd (Sd Sn)) (Sw (Sd Sn))) | exact Ez rfl rfl (hCn) (Sw (Sd Sn)) | exact Ok.slen rfl rfl | exact Nl N4 rfl rfl rfl rfl rfl | exact Nl N5 rfl rfl rfl rfl rfl | exact Ok.append1 (row := [DI e, DI ((cn : Int) + 1), DI (max now (rt + max 0 (z - 4)))]) rfl rfl (by decide) rfl rfl hol rfl rfl rfl (by rfl) (by omega) (by omega) | exact Ok.pe)) | ((first | apply Ca | (apply Cb; (· exact nxE))); (· first | exact Nl N4 rfl rfl rfl rfl rfl | exact Nl N5 rfl rfl rfl rfl rfl | exact Ok.append1 (row := [DI e, DI ((cn : Int) + 1), DI (max now (rt + max 0 (z - 4)))]) rfl rfl (by decide) rfl rfl hol rfl rfl rfl (by rfl) (by omega) (by omega) | exact Ok.e0)) | refine Sx ?_ | (refine Sy (fun h => ?_) (fun h => ?_) <;> try (exfalso; omega; done)) | refine Sz (fun h => ?_) (fun h => ?_))
      refine ⟨⟨k + 1, by omega⟩, ?_, by simp only; omega⟩
      simp only [hst2]
      (apply Le.headZ [_, _, _, _] rfl)
      all_goals (try dsimp only [srcs])
      (case' hfr | hob => (repeat' (first | refine La ?_ ?_ | exact Lc | refine Lo ?_ | refine ⟨⟨_, rfl, ?_⟩, ?_⟩ | refine Lx ?_)))
      all_goals (first | (first | (rw [List.length_append]; rfl) | (rw [List.map_append]; rfl) | (simp; done)) | exact Ld)
  obtain rfl : k = m := by omega
  rw [hqm]
  simp only
  have hfl : (fs.map Fi.row).length = fs.length := FL_len
  have hfl2 : (FO fs).rows.length = fs.length := by simp [dobj]
  rcases hT with ⟨rfl, rfl, rfl⟩ | ⟨j, f, g, z, s4, s5, hf, hg', N4, N5, hz⟩
  ·
    repeat' (first | ((first | apply Ba | (apply Bb; (· rfl); (· rfl)) | (apply Bc; (· exact nxE)) | (apply Bd; (· rfl); (· rfl); (· exact nxE))); (· first | exact Ok.slen rfl rfl | exact Nl N7 rfl rfl rfl rfl rfl | exact Ok.pe)) | ((first | apply Ca | (apply Cb; (· exact nxE))); (· first | exact Nl N7 rfl rfl rfl rfl rfl | exact Ok.e0)) | refine Sx ?_ | (refine Sy (fun h => ?_) (fun h => ?_) <;> try (exfalso; omega; done)) | refine Sz (fun h => ?_) (fun h => ?_))
    all_goals
      refine Yb ?_
      (apply Le.headZ (hs := [(⟨0, []⟩, ⟨0, []⟩, _)]) [⟨0, []⟩] rfl)
      all_goals (try dsimp only [srcs])
      (case' hfr | hob => (repeat' (first | refine La ?_ ?_ | refine ARs.agg ?_ | refine ARs.tup ?_ | (first | exact AR.whole rfl (by simp) (by first | rfl | exact hfl | (simp; done))) | refine La ?_ ?_ | exact Lc | refine Lo ?_ | refine ⟨⟨_, rfl, ?_⟩, ?_⟩ | refine Lx ?_)))
      all_goals (first | exact Ld | exact trivial | (first | exact AR.whole rfl (by simp) (by first | rfl | exact hfl | (simp; done))))
  have hjl := (List.getElem?_eq_some_iff.1 hf).1
  have hfn := i3 j f hf
  have hft := i4 f (List.mem_of_getElem? hf)
  have hcl := cnt_le (fs.take j) f.e
  have htl := List.length_take_le j fs
  have hrf := ownFi_row hf
  have hrg := ownFi_rowI (i := ((fs.length : Nat) : Int) - 1) (k := fs.length - 1) (by omega) hg'
  have hbn : 0 ≤ f.n ∧ f.n ≤ 1000 := by omega
  rcases hz with ⟨rfl, rfl, rfl⟩ | ⟨rfl, b, rfl, K0⟩ | ⟨rfl, b, rfl, K0⟩ | ⟨rfl, b, rfl, K0⟩ | ⟨hzz, hfe, hse⟩
  ·
    have hsl : ((FO fs).rows.length = fs.length) := hfl2
    repeat' (first | ((first | apply Ba | (apply Bb; (· rfl); (· rfl)) | (apply Bc; (· exact nxE)) | (apply Bd; (· rfl); (· rfl); (· exact nxE))); (· first | exact OpOk.loadCell rfl rfl rfl rfl hrf rfl | exact Ok.slen rfl rfl | exact Nl N4 rfl rfl rfl rfl rfl | exact Nl N5 rfl rfl rfl rfl rfl | exact Ok.storeC rfl rfl rfl rfl hrf (by simp only [List.length_cons, List.length_nil, Nat.reduceAdd, Nat.reduceLT]) (by conv => lhs; whnf) (by rfl) (by rfl) (ownFi_set (f := ⟨f.e, f.n, f.t - 1⟩)) | exact Nl N7 rfl rfl rfl rfl rfl | exact Ok.pe)) | ((first | apply Ca | (apply Cb; (· exact nxE))); (· first | exact Nl N4 rfl rfl rfl rfl rfl | exact Nl N5 rfl rfl rfl rfl rfl | exact Ok.storeC rfl rfl rfl rfl hrf (by simp only [List.length_cons, List.length_nil, Nat.reduceAdd, Nat.reduceLT]) (by conv => lhs; whnf) (by rfl) (by rfl) (ownFi_set (f := ⟨f.e, f.n, f.t - 1⟩)) | exact Nl N7 rfl rfl rfl rfl rfl | exact Ok.e0)) | refine Sx ?_ | (refine Sy (fun h => ?_) (fun h => ?_) <;> try (exfalso; omega; done)) | refine Sz (fun h => ?_) (fun h => ?_))
    all_goals
      refine Yb ?_
      (apply Le.headZ (hs := [(⟨0, []⟩, ⟨0, []⟩, _)]) [⟨0, []⟩] rfl)
      all_goals (try dsimp only [srcs])
      (case' hfr | hob => (repeat' (first | refine La ?_ ?_ | refine ARs.agg ?_ | refine ARs.tup ?_ | (first | exact AR.whole rfl (by simp) (by first | rfl | exact hfl | (simp; done))) | refine La ?_ ?_ | exact Lc | refine Lo ?_ | refine ⟨⟨_, rfl, ?_⟩, ?_⟩ | refine Lx ?_)))
      all_goals (first | exact Ld | exact trivial | (first | exact AR.whole rfl (by simp) (by first | rfl | exact hfl | (simp; done))))
  ·
    have hsl : ((FO fs).rows.length = fs.length) := hfl2
    repeat' (first | ((first | apply Ba | (apply Bb; (· rfl); (· rfl)) | (apply Bc; (· exact nxE)) | (apply Bd; (· rfl); (· rfl); (· exact nxE))); (· first | exact OpOk.loadCell rfl rfl rfl rfl hrf rfl | exact Ok.slen rfl rfl | exact Nl N4 rfl rfl rfl rfl rfl | exact Nl N5 rfl rfl rfl rfl rfl | exact Kl K0 rfl rfl rfl rfl rfl rfl (by decide) | exact Ok.storeC rfl rfl rfl rfl hrf (by simp only [List.length_cons, List.length_nil, Nat.reduceAdd, Nat.reduceLT]) (by conv => lhs; whnf) (by rfl) (by rfl) (ownFi_set (f := ⟨f.e, b, f.t⟩)) | exact Ok.bs2I rfl rfl rfl rfl | exact Nl N7 rfl rfl rfl rfl rfl | exact Ok.pe)) | ((first | apply Ca | (apply Cb; (· exact nxE))); (· first | exact Nl N4 rfl rfl rfl rfl rfl | exact Nl N5 rfl rfl rfl rfl rfl | exact Kl K0 rfl rfl rfl rfl rfl rfl (by decide) | exact Ok.storeC rfl rfl rfl rfl hrf (by simp only [List.length_cons, List.length_nil, Nat.reduceAdd, Nat.reduceLT]) (by conv => lhs; whnf) (by rfl) (by rfl) (ownFi_set (f := ⟨f.e, b, f.t⟩)) | exact Ok.bs2I rfl rfl rfl rfl | exact Nl N7 rfl rfl rfl rfl rfl | exact Ok.e0)) | refine Sx ?_ | (refine Sy (fun h => ?_) (fun h => ?_) <;> try (exfalso; omega; done)) | refine Sz (fun h => ?_) (fun h => ?_))
    all_goals
      refine Yb ?_
      (apply Le.headZ (hs := [(⟨0, []⟩, ⟨0, []⟩, _)]) [⟨0, []⟩] rfl)
      all_goals (try dsimp only [srcs])
      (case' hfr | hob => (repeat' (first | refine La ?_ ?_ | refine ARs.agg ?_ | refine ARs.tup ?_ | (first | exact AR.whole rfl (by simp) (by first | rfl | exact hfl | (simp; done))) | refine La ?_ ?_ | exact Lc | refine Lo ?_ | refine ⟨⟨_, rfl, ?_⟩, ?_⟩ | refine Lx ?_)))
      all_goals (first | exact Ld | exact trivial | (first | exact AR.whole rfl (by simp) (by first | rfl | exact hfl | (simp; done))))
  ·
    have hsl : ((FO fs).rows.length = fs.length) := hfl2
    repeat' (first | ((first | apply Ba | (apply Bb; (· rfl); (· rfl)) | (apply Bc; (· exact nxE)) | (apply Bd; (· rfl); (· rfl); (· exact nxE))); (· first | exact Ok.slen rfl rfl | exact Nl N4 rfl rfl rfl rfl rfl | exact Nl N5 rfl rfl rfl rfl rfl | exact Kl K0 rfl rfl rfl rfl rfl rfl (by decide) | exact Ok.storeC rfl rfl rfl rfl hrf (by simp only [List.length_cons, List.length_nil, Nat.reduceAdd, Nat.reduceLT]) (by conv => lhs; whnf) (by rfl) (by rfl) (ownFi_set (f := ⟨b, f.n, f.t⟩)) | exact Ok.bs3 rfl rfl rfl rfl rfl | exact Nl N7 rfl rfl rfl rfl rfl | exact Ok.pe)) | ((first | apply Ca | (apply Cb; (· exact nxE))); (· first | exact Nl N4 rfl rfl rfl rfl rfl | exact Nl N5 rfl rfl rfl rfl rfl | exact Kl K0 rfl rfl rfl rfl rfl rfl (by decide) | exact Ok.storeC rfl rfl rfl rfl hrf (by simp only [List.length_cons, List.length_nil, Nat.reduceAdd, Nat.reduceLT]) (by conv => lhs; whnf) (by rfl) (by rfl) (ownFi_set (f := ⟨b, f.n, f.t⟩)) | exact Ok.bs3 rfl rfl rfl rfl rfl | exact Nl N7 rfl rfl rfl rfl rfl | exact Ok.e0)) | refine Sx ?_ | (refine Sy (fun h => ?_) (fun h => ?_) <;> try (exfalso; omega; done)) | refine Sz (fun h => ?_) (fun h => ?_))
    all_goals
      refine Yb ?_
      (apply Le.headZ (hs := [(⟨0, []⟩, ⟨0, []⟩, _)]) [⟨0, []⟩] rfl)
      all_goals (try dsimp only [srcs])
      (case' hfr | hob => (repeat' (first | refine La ?_ ?_ | refine ARs.agg ?_ | refine ARs.tup ?_ | (first | exact AR.whole rfl (by simp) (by first | rfl | exact hfl | (simp; done))) | refine La ?_ ?_ | exact Lc | refine Lo ?_ | refine ⟨⟨_, rfl, ?_⟩, ?_⟩ | refine Lx ?_)))
      all_goals (first | exact Ld | exact trivial | (first | exact AR.whole rfl (by simp) (by first | rfl | exact hfl | (simp; done))))
  ·
    have hsl : ((FO fs).rows.length = fs.length) := hfl2
    repeat' (first | ((first | apply Ba | (apply Bb; (· rfl); (· rfl)) | (apply Bc; (· exact nxE)) | (apply Bd; (· rfl); (· rfl); (· exact nxE))); (· first | exact Ok.slen rfl rfl | exact Nl N4 rfl rfl rfl rfl rfl | exact Nl N5 rfl rfl rfl rfl rfl | exact Kl K0 rfl rfl rfl rfl rfl rfl (by decide) | exact Ok.storeC rfl rfl rfl rfl hrg (by simp only [List.length_cons, List.length_nil, Nat.reduceAdd, Nat.reduceLT]) (by conv => lhs; whnf) (by rfl) (by rfl) (ownFi_setI (i := ((fs.length : Nat) : Int) - 1) (k := fs.length - 1) (f := ⟨g.e, g.n, b⟩) (by omega)) | exact Ok.bs3 rfl rfl rfl rfl rfl | exact Nl N7 rfl rfl rfl rfl rfl | exact Ok.pe)) | ((first | apply Ca | (apply Cb; (· exact nxE))); (· first | exact Nl N4 rfl rfl rfl rfl rfl | exact Nl N5 rfl rfl rfl rfl rfl | exact Kl K0 rfl rfl rfl rfl rfl rfl (by decide) | exact Ok.storeC rfl rfl rfl rfl hrg (by simp only [List.length_cons, List.length_nil, Nat.reduceAdd, Nat.reduceLT]) (by conv => lhs; whnf) (by rfl) (by rfl) (ownFi_setI (i := ((fs.length : Nat) : Int) - 1) (k := fs.length - 1) (f := ⟨g.e, g.n, b⟩) (by omega)) | exact Ok.bs3 rfl rfl rfl rfl rfl | exact Nl N7 rfl rfl rfl rfl rfl | exact Ok.e0)) | refine Sx ?_ | (refine Sy (fun h => ?_) (fun h => ?_) <;> try (exfalso; omega; done)) | refine Sz (fun h => ?_) (fun h => ?_))
    all_goals
      refine Yb ?_
      (apply Le.headZ (hs := [(⟨0, []⟩, ⟨0, []⟩, _)]) [⟨0, []⟩] rfl)
      all_goals (try dsimp only [srcs])
      (case' hfr | hob => (repeat' (first | refine La ?_ ?_ | refine ARs.agg ?_ | refine ARs.tup ?_ | (first | exact AR.whole rfl (by simp) (by first | rfl | exact hfl | (simp; done))) | refine La ?_ ?_ | exact Lc | refine Lo ?_ | refine ⟨⟨_, rfl, ?_⟩, ?_⟩ | refine Lx ?_)))
      all_goals (first | exact Ld | exact trivial | (first | exact AR.whole rfl (by simp) (by first | rfl | exact hfl | (simp; done))))
  ·
    have hfe := hfe.symm
    subst hfe
    subst hse
    have hsl : ((FO fs).rows.length = fs.length) := hfl2
    repeat' (first | ((first | apply Ba | (apply Bb; (· rfl); (· rfl)) | (apply Bc; (· exact nxE)) | (apply Bd; (· rfl); (· rfl); (· exact nxE))); (· first | exact Ok.slen rfl rfl | exact Nl N4 rfl rfl rfl rfl rfl | exact Nl N5 rfl rfl rfl rfl rfl | exact Nl N7 rfl rfl rfl rfl rfl | exact Ok.pe)) | ((first | apply Ca | (apply Cb; (· exact nxE))); (· first | exact Nl N4 rfl rfl rfl rfl rfl | exact Nl N5 rfl rfl rfl rfl rfl | exact Nl N7 rfl rfl rfl rfl rfl | exact Ok.e0)) | refine Sx ?_ | (refine Sy (fun h => ?_) (fun h => ?_) <;> try (exfalso; omega; done)) | refine Sz (fun h => ?_) (fun h => ?_))
    all_goals
      refine Yb ?_
      (apply Le.headZ (hs := [(⟨0, []⟩, ⟨0, []⟩, _)]) [⟨0, []⟩] rfl)
      all_goals (try dsimp only [srcs])
      (case' hfr | hob => (repeat' (first | refine La ?_ ?_ | refine ARs.agg ?_ | refine ARs.tup ?_ | (first | exact AR.whole rfl (by simp) (by first | rfl | exact hfl | (simp; done))) | refine La ?_ ?_ | exact Lc | refine Lo ?_ | refine ⟨⟨_, rfl, ?_⟩, ?_⟩ | refine Lx ?_)))
      all_goals (first | exact Ld | exact trivial | (first | exact AR.whole rfl (by simp) (by first | rfl | exact hfl | (simp; done))))
theorem l14Draw_ex [Mode] (code : List Int) (hc : CodeOk code) (s : Src) (hs : SrcOk code s) : ∃ (ev : Int) (xs : List Pl) (fs : List Fi) (s' : Src), SrcOk code s' ∧ xs.length ≤ 100 ∧ fs.length ≤ 501 ∧ AC Tryz.prog 56 [Bx 3 0] (srcH code s) (.tup [grD ev xs, FL fs]) (srcH code s') := by
  have hG := l11DrawZ_ac code hc s hs
  have hok := dr11_ok hc hs
  generalize dr11 code s = g at *
  obtain ⟨ev, xs, s1⟩ := g
  obtain ⟨_, _, hxl, hs1⟩ := hok
  simp only at hxl hs1 hG
  have hE := sIsEventGraph_ac ev xs (by omega)
  show ∃ (ev : Int) (xs : List Pl) (fs : List Fi) (s' : Src), SrcOk code s' ∧ xs.length ≤ 100 ∧ fs.length ≤ 501 ∧ AC _ _ _ (heapL [(⟨0, []⟩, ⟨0, []⟩, srcO code s)]) _ _
  cases hg : isEG ev xs with
  | false =>
    rw [hg] at hE
    refine ⟨ev, xs, [], s1, hs1, by omega, by simp, ?_⟩
    refine AC.of_body 1 Tryz.func56 rfl (fun l h => by simp [heapL, upd] at h; simp [h]) (fun C hC => ?_)
    simp only [startFr, Tryz.ntmps56, List.length_cons, List.length_nil, Nat.reduceAdd, Nat.reduceSub, List.replicate_succ, List.replicate_zero, List.cons_append, List.nil_append]
    have hD : ∀ l, C.D0 l → l = ⟨0, []⟩ := fun l h => by have := (hC l).1 h; simp [heapL, upd] at this; exact this
    repeat' (first | ((first | apply Ba | (apply Bb; (· rfl); (· rfl)) | (apply Bc; (· exact nxE)) | (apply Bd; (· rfl); (· rfl); (· exact nxE))); (· first | exact Kz rfl rfl (hE) (Aa (Ad (Ad An)) An) | exact Ok.slen rfl rfl | exact Zx (args := []) hG rfl rfl rfl rfl .nil (fun _ => by simp [rn]) | exact Ok.pe)) | ((first | apply Ca | (apply Cb; (· exact nxE))); (· first | exact Zx (args := []) hG rfl rfl rfl rfl .nil (fun _ => by simp [rn]) | exact Ok.e0)) | refine Sx ?_ | (refine Sy (fun h => ?_) (fun h => ?_) <;> try (exfalso; omega; done)) | refine Sz (fun h => ?_) (fun h => ?_))
    all_goals
      refine Yb ?_
      (apply Le.headZ (hs := [(⟨0, []⟩, ⟨0, []⟩, _)]) [⟨0, []⟩] rfl)
      all_goals (try dsimp only [srcs])
      (case' hfr | hob => (repeat' (first | refine La ?_ ?_ | refine ARs.agg ?_ | refine ARs.tup ?_ | (exact AR.whole rfl (by simp) rfl) | refine La ?_ ?_ | exact Lc | refine Lo ?_ | refine ⟨⟨_, rfl, ?_⟩, ?_⟩ | refine Lx ?_)))
      all_goals (first | exact Ld | exact trivial | (exact AR.whole rfl (by simp) rfl))
  | true =>
    rw [hg] at hE
    obtain ⟨n, rfl, hn1, hn2, hx3, hv⟩ := isEG_okR hg
    obtain ⟨m0, s2, m1, m2, h2, q2, N2⟩ := next_ex hc hs1 16
    obtain ⟨m, rfl⟩ : ∃ m : Nat, m0 = m := ⟨m0.toNat, by omega⟩
    have hall := dR_it hc hn1 hv h2
    have hM := hall m
    generalize hqm : itr (dR code n xs) m (s2, [], 0) = qm at hM
    obtain ⟨s3, fs, now⟩ := qm
    obtain ⟨i1, i2, i3, i4, i5⟩ := hM
    simp only at i1 i2 i3 i4 i5
    obtain ⟨fs2, s6, h6, hl6, hT⟩ := tailR_ex hc i1 n fs
    obtain ⟨y, s7, y1, y2, h7, q7, N7⟩ := next_ex hc h6 60
    by_cases hy : y = 0
    · subst hy
      obtain ⟨c0, s8, hmem, h8, _, _, K7⟩ := pick_ex hc h7 [50, 51, 500, 501] 4 rfl
      obtain ⟨c, rfl, hc5⟩ : ∃ c : Nat, c0 = c ∧ c ≤ 501 := by
        simp only [List.mem_cons, List.not_mem_nil, or_false] at hmem
        exact ⟨c0.toNat, by omega, by omega⟩
      exact ⟨1, [], lgF c, s8, h8, by simp, by rw [lgF_len]; omega, l14Draw_long code hc s s1 s2 s3 s6 s7 s8 n m xs fs fs2 now c hn1 hn2 hx3 hv (by omega) hG hE N2 hall hqm i2 i3 i4 i5 hT N7 (by omega) K7⟩
    · exact ⟨n, xs, fs2, s7, h7, by omega, by omega, l14Draw_run code hc s s1 s2 s3 s6 s7 n m xs fs fs2 now y hn1 hn2 hx3 hv (by omega) hG hE N2 hall hqm i2 i3 i4 i5 hT N7 hy⟩
end Go.Proofs.YtofakjlamoigcaaGreatDoor
