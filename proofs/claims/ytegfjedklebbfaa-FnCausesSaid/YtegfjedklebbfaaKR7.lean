/-
  Walks in the abstract reading: the draw of an observation.
-/
import Derived.Test.YtegfjedklebbfaaKU8
import Derived.Test.YtegfjedklebbfaaKR6
namespace Go.Proofs.Ytegfjedklebbfaa
set_option linter.unusedSimpArgs false
set_option linter.unusedVariables false
open Go Go.RowKit
attribute [local irreducible] AL AD AW OpOk Le AC thenQ blockQ EndQ

abbrev QS := Src × List Int
def dS (code : List Int) (q : QS) : QS := ((nxt code (nxt code q.1 20).2 3).2, q.2 ++ [pick code (nxt code q.1 20).2 [0, 0, (nxt code q.1 20).1]])
theorem dS_ok {code : List Int} (hc : CodeOk code) {s : Src} (hs : SrcOk code s) (n : Nat) : SrcOk code (itr (dS code) n (s, [])).1 ∧ (itr (dS code) n (s, [])).2.length = n :=
  itr_ok (p := fun k (q : QS) => SrcOk code q.1 ∧ q.2.length = k) ⟨hs, rfl⟩ (fun k x h => ⟨(nxt_ok hc (nxt_ok hc h.1 20).2.2 3).2.2, by simp [dS, h.2]⟩) n
abbrev QF := Src × (Nat → Nat → Int)
def dC (code : List Int) (k e : Nat) (q : QF) : QF :=
  if (nxt code q.1 12).1 = 0 then ((nxt code (nxt code q.1 12).2 8).2, fun a b => if a = k ∧ b = e then q.2 k e + (nxt code (nxt code q.1 12).2 8).1 else q.2 a b) else ((nxt code q.1 12).2, q.2)
def dR (code : List Int) (k : Nat) (q : QF) : Nat → QF
  | 0 => q
  | e + 1 => dC code k e (dR code k q e)
def dA (code : List Int) (n : Nat) (q : QF) : Nat → QF
  | 0 => q
  | k + 1 => dR code k (dA code n q k) n
theorem dC_ok {code : List Int} (hc : CodeOk code) {k e : Nat} {q : QF} {B : Int} (h : SrcOk code q.1) (hb : bndF q.2 B) : SrcOk code (dC code k e q).1 ∧ bndF (dC code k e q).2 (B + 10) := by
  obtain ⟨a1, a2, a3⟩ := nxt_ok hc h 12
  obtain ⟨b1, b2, b3⟩ := nxt_ok hc a3 8
  unfold dC
  split
  · refine ⟨b3, fun a b => ?_⟩
    have := hb a b
    have := hb k e
    simp only
    split <;> omega
  · exact ⟨a3, fun a b => by have := hb a b; simp only; omega⟩
theorem dR_ok {code : List Int} (hc : CodeOk code) {k : Nat} {q : QF} {B : Int} (h : SrcOk code q.1) (hb : bndF q.2 B) : ∀ e, SrcOk code (dR code k q e).1 ∧ bndF (dR code k q e).2 (B + 10 * (e : Int))
  | 0 => ⟨h, by simpa [dR] using hb⟩
  | e + 1 => by
    have ih := dR_ok hc (k := k) h hb e
    have := dC_ok hc (k := k) (e := e) ih.1 ih.2
    refine ⟨this.1, fun a b => ?_⟩
    have := this.2 a b
    simp only [dR]
    omega
theorem dA_ok {code : List Int} (hc : CodeOk code) {n : Nat} (hn : n ≤ 10) {q : QF} {B : Int} (h : SrcOk code q.1) (hb : bndF q.2 B) : ∀ k, SrcOk code (dA code n q k).1 ∧ bndF (dA code n q k).2 (B + 100 * (k : Int))
  | 0 => ⟨h, by simpa [dA] using hb⟩
  | k + 1 => by
    have ih := dA_ok hc hn h hb k
    have := dR_ok hc (k := k) ih.1 ih.2 n
    refine ⟨this.1, fun a b => ?_⟩
    have := this.2 a b
    simp only [dA]
    omega
structure TabOk (T : List (List Int)) : Prop where
  l : T.length ≤ 100
  r : ∀ r ∈ T, r.length ≤ 100
/-- The last change of a drawn table. -/
def fin26 (code : List Int) (n v : Nat) (F : Nat → Nat → Int) (s : Src) : Src × List (List Int) :=
  if 0 < v ∧ 0 < n then
    if (nxt code s 30).1 = 0 then ((nxt code (nxt code s 30).2 3).2, tabF v n (fun a b => if a = 0 ∧ b = 0 then pick code (nxt code s 30).2 [-1, 1000000, 1000001] else F a b))
    else if (nxt code s 30).1 = 1 then ((nxt code s 30).2, (rowF n (F 0) ++ [0]) :: (tabF v n F).tail)
    else ((nxt code s 30).2, tabF v n F)
  else (s, tabF v n F)
theorem tabF_ok {n v : Nat} {F : Nat → Nat → Int} (hn : n ≤ 11) (hv : v ≤ 50) : TabOk (tabF v n F) := ⟨by rw [tabF_len]; omega, fun r hr => by rw [tabF_row2 r hr]; omega⟩
theorem fin26_ok {code : List Int} (hc : CodeOk code) {n v : Nat} {F : Nat → Nat → Int} {s : Src} (hs : SrcOk code s) (hn : n ≤ 11) (hv : v ≤ 50) : SrcOk code (fin26 code n v F s).1 ∧ TabOk (fin26 code n v F s).2 := by
  obtain ⟨_, _, h1⟩ := nxt_ok hc hs 30
  obtain ⟨_, _, h2⟩ := nxt_ok hc h1 3
  unfold fin26
  split
  · split
    · exact ⟨h2, tabF_ok hn hv⟩
    · split
      · refine ⟨h1, ⟨by simp [tabF_len]; omega, fun r hr => ?_⟩⟩
        rcases List.mem_cons.1 hr with rfl | hr
        · simp [rowF_len]; omega
        · rw [tabF_row2 r (List.mem_of_mem_tail hr)]; omega
      · exact ⟨h1, tabF_ok hn hv⟩
  · exact ⟨hs, tabF_ok hn hv⟩
def rpV (n : Nat) (xs : List Pl) (t : List (List Int)) : Nat := if rpC n xs t = 0 then t.length else 0
def rpF (n : Nat) (xs : List Pl) (t : List (List Int)) : Nat → Nat → Int := repAll t.length n xs ((ordR n xs).getD []) (entN t) t.length
theorem rp_tab {n : Nat} {xs : List Pl} {t : List (List Int)} : rpOut n xs t = tabF (rpV n xs t) n (rpF n xs t) := by
  unfold rpOut rpV
  split
  · unfold rpTab rpF; rw [Int.toNat_natCast]
  · rfl
section
variable {H : Heap} {lent : Loc → Prop} {τ : Loc → Loc} {L : Loc → Prop}
theorem AR.tabM {l src : Loc} {k n : Nat} {R : List (List (List D))} (h : MI.ok { l := l, k := k, R := R, src := src, base := src } H) (hn : R.length = n) (hl : lent src) (hr : ∀ i, lent (src.at i)) : AR H lent τ L (.d (.sl 1 (mRows k R))) (.own 1 src 0 n) :=
  AR.tab ⟨h.1, h.2⟩ hn hl hr
/-- A table whose first row lies elsewhere. -/
theorem AR.tabA {l e : Loc} {R R' : List (List (List D))} {r : List (List D)} {m n : Nat} (ho : H l = some ⟨1, (outer l.at 1 R 0).rows.set 0 [.own 1 e 0 m]⟩) (he : H e = some (dobj 1 r)) (hm : r.length = m) (hr : ∀ i x, 0 < i → R[i]? = some x → H (l.at i) = some (dobj 1 x)) (hR : R' = r :: R.tail) (h0 : 0 < R.length) (hn : R.length = n)
    (h1 : lent l) (h2 : lent e) (h3 : ∀ i, lent (l.at i)) : AR H lent τ L (.d (.sl 1 (mRows 1 R'))) (.own 1 l 0 n) := by
  subst hR; subst hm; subst hn
  obtain ⟨r0, R1, rfl⟩ : ∃ r0 R1, R = r0 :: R1 := by cases R with | nil => simp at h0 | cons a b => exact ⟨a, b, rfl⟩
  have h00 : ∀ r', ((outer l.at 1 (r0 :: R1) 0).rows.set 0 [.own 1 e 0 r.length])[0]? = some r' → r' = [.own 1 e 0 r.length] := fun r' h => by
    rw [List.getElem?_set] at h
    simp [outer] at h
    exact h.symm
  have hss : ∀ i x r', R1[i]? = some x → ((outer l.at 1 (r0 :: R1) 0).rows.set 0 [.own 1 e 0 r.length])[i + 1]? = some r' → r' = [.own 1 (l.at (i + 1)) 0 x.length] := fun i x r' hx h => by
    rw [List.getElem?_set, if_neg (by omega), outer_lt (R := r0 :: R1) (x := x) (by simpa using hx)] at h
    cases h; rfl
  refine .d (.own 1 l 0 _ _ _ ho h1 rfl (by simp [outer_len]) (by simp) (fun i q q' hq hq' => ?_) (fun i q q' hq hq' j c c' hc hc' => ?_))
  all_goals
    rw [Nat.zero_add] at hq'
    cases i with
    | zero =>
      simp at hq; subst hq
      obtain rfl := h00 q' hq'
      first
        | rfl
        | (cases j with
           | succ j => simp at hc
           | zero =>
             simp at hc hc'; subst hc; subst hc'
             have := DRel.dobj (H := H) (lent := lent) (off := 0) (n := r.length) he h2 (by omega)
             rwa [List.drop_zero, List.take_of_length_le (Nat.le_refl _)] at this)
    | succ i =>
      simp only [List.tail_cons, List.map_cons, List.getElem?_cons_succ, List.getElem?_map] at hq
      cases hx : R1[i]? with
      | none => rw [hx] at hq; simp at hq
      | some y =>
        rw [hx] at hq
        simp at hq; subst hq
        obtain rfl := hss i y q' hx hq'
        first
          | rfl
          | (cases j with
             | succ j => simp at hc
             | zero =>
               simp at hc hc'; subst hc; subst hc'
               have := DRel.dobj (H := H) (lent := lent) (off := 0) (n := y.length) (hr (i + 1) y (by omega) (by simpa using hx)) (h3 _) (by omega)
               rwa [List.drop_zero, List.take_of_length_le (Nat.le_refl _)] at this)
end
set_option maxHeartbeats 8000000 in
theorem l26Draw_ex (code : List Int) (hc : CodeOk code) (s : Src) (hs : SrcOk code s) : ∃ (g : DrG) (T : List (List Int)), DrOk code g ∧ TabOk T ∧ AC Try.prog 140 [Bx 3 0] (srcH code s) (.tup [grD g.ev g.xs, TL T]) (srcH code g.s) := by
  have hG := l13Draw_ac code hc s hs
  obtain ⟨hok, hm1, hm2⟩ := dr13_ok hc hs
  generalize dr13 code s = gm at *
  obtain ⟨⟨ev, xs, s1⟩, m⟩ := gm
  obtain ⟨hev, hxs, hxl, hs1⟩ := hok
  simp only at *
  obtain ⟨n, rfl⟩ : ∃ n : Nat, ev = n := ⟨ev.toNat, by omega⟩
  have hS := dS_ok hc hs1 n
  generalize hq : itr (dS code) n (s1, []) = q at hS
  obtain ⟨s2, st⟩ := q
  obtain ⟨hs2, hst⟩ := hS
  simp only at hs2 hst
  have hmx : max 0 (min m 7) = ((min m.toNat 7 : Nat) : Int) := by omega
  obtain ⟨c, T0, hT0, hST⟩ := startedTimes_ex n xs ((min m.toNat 7 : Nat) : Int) st (by omega) (by omega)
  generalize hmv : min m.toNat 7 = v at *
  have hxl' : xs.length ≤ 100000000 := by omega
  have hstl : (IR st).length = n := by rw [IR_len, hst]
  by_cases hc0 : c = 0
  case neg =>
    refine ⟨⟨n, xs, s2⟩, [List.replicate (min 12 n) 0], ⟨hev, hxs, hxl, hs2⟩, ⟨by simp, fun r hr => by simp at hr; subst hr; simp; omega⟩, ?_⟩
    have hmk : max 0 (min 12 (n : Int)) = ((min 12 n : Nat) : Int) := by omega
    show AC _ _ _ (heapL [(⟨0, []⟩, ⟨0, []⟩, srcO code s)]) _ _
    refine AC.of_body 1 Try.func140 rfl (fun l h => by simp [heapL, upd] at h; simp [h]) (fun C hC => ?_)
    simp only [startFr, Try.ntmps140, List.length_cons, List.length_nil, Nat.reduceAdd, Nat.reduceSub, List.replicate_succ, List.replicate_zero, List.cons_append, List.nil_append]
    have hD : ∀ l, C.D0 l → l = ⟨0, []⟩ := fun l h => by have := (hC l).1 h; simp [heapL, upd] at this; exact this
    repeat' (first | refine Qa ?_ | ((first | apply Ba | (apply Bb; (· rfl); (· rfl)) | (apply Bc; (· exact nxE)) | (apply Bd; (· rfl); (· rfl); (· exact nxE))); (· first | exact Ok.assign rfl (congrArg (fun z : Int => I z) hmx) | exact Zx (args := []) hG rfl rfl rfl rfl .nil (fun _ => by simp [rn]) | exact Ok.pe); (first | refine Na ?_ | refine Nb ?_)) | ((first | apply Ca | (apply Cb; (· exact nxE))); (· first | exact Zx (args := []) hG rfl rfl rfl rfl .nil (fun _ => by simp [rn]) | exact Ok.e0); (first | refine Nc ?_ | refine Nd ?_)) | refine Oa ?_ | refine Ob ?_ | ((first | refine Ga (fun h => ?_) (fun h => ?_) | refine AD.gsplit rfl rfl (fun h => ?_) (fun h => ?_)) <;> try (exfalso; omega; done)) | (first | refine AL.gsplitB rfl rfl (fun h => ?_) (fun h => ?_) | refine AD.gsplitB rfl rfl (fun h => ?_) (fun h => ?_)) | refine Fa ?_ | refine Qb ?_ | refine Qc ?_ | refine Qd ?_ | refine Fb ?_ | refine Qe ?_ | refine Wa ?_ | refine Wb ?_ | (refine AW.ite rfl (fun h => ?_) (fun h => ?_) <;> try (exfalso; omega; done)) | refine AW.cond _ rfl (fun h => ?_) (fun h => ?_) | refine Qf ?_ | refine Qg ?_ | refine Qh ?_ | refine Qi ?_ | refine Xa ?_ | refine Xb ?_ | refine Xc ?_ | refine Xd ?_ | refine Fc ?_)
    refine AW.loop (X := {k : Nat // k ≤ n}) (fun k => ⟨[Bx 3 0, Oo, Bx 2 1, Oo, Bx 2 2, I v, .own 1 ⟨3, []⟩ 0 (itr (dS code) (k.1 : Nat) (s1, [])).2.length, I (k.1 : Nat), Oo, Oo, Oo, Oo, Oo, Oo, Oo, Oo, Oo, Oo, Oo, Oo, Oo, Oo, Oo, Oo, Oo, Oo, Oo, Oo, Oo, Oo, Oo, Oo, Oo, Oo, Oo, Oo, Oo, Oo, Oo, Oo, Oo, Oo, Oo, Oo, Oo, Oo, Oo, Oo, Oo, Oo, Oo, Oo, Oo, Oo, Oo, Oo, Oo, Oo, Oo, Oo, Oo, Oo, Oo, Oo, Oo, Oo, Oo, Oo, Oo, Oo, Oo, Oo, Oo, Oo, Oo, Oo, Oo, Oo, Oo, Oo, Oo, Oo, Oo, Oo, Oo, Oo, Oo, Oo, Oo, Oo, Oo, Oo, Oo, Oo, Oo, Oo, Oo, Oo, Oo, Oo, Oo, Oo, Oo, Oo, Oo, Oo, Oo, Oo, Oo, Oo, Oo, Oo, Oo, Oo, Oo, Oo, Oo, Oo, Oo, Oo, Oo, Oo, Oo, Oo, Oo, Oo], heapL [(⟨0, []⟩, ⟨0, []⟩, srcO code (itr (dS code) k.1 (s1, [])).1), (⟨1, []⟩, ⟨1, []⟩, ⟨2, [[I 0, nilS]]⟩), (⟨2, []⟩, ⟨2, []⟩, ⟨2, [[I n, PL xs]]⟩), (⟨3, []⟩, ⟨3, []⟩, IO (itr (dS code) k.1 (s1, [])).2)], 900⟩) (fun k => n - k.1) ⟨0, Nat.zero_le _⟩ ?_ (fun k => ?_)
    ·
      (apply Le.headZ [_, _, _, _] rfl)
      all_goals (try dsimp only [srcs])
      (case' hfr | hob => (repeat' (first | refine La ?_ ?_ | exact Lc | refine Lo ?_ | refine ⟨⟨_, rfl, ?_⟩, ?_⟩ | refine ObA.box ?_ | refine ObA.frE ?_ | refine ObA.dataE ?_ | refine ARs.agg ?_ | refine ARs.tup ?_ | refine AR.b ?_ | refine AR.iE ?_ | refine AR.e ?_ | refine AR.clo' ARs.nil ?_)))
      all_goals (first | (rfl) | exact Ld)
    obtain ⟨i, hi⟩ := k
    simp only
    by_cases hlt : i < n
    · have hI := dS_ok hc hs1 i
      have hstp : itr (dS code) (i + 1) (s1, []) = dS code (itr (dS code) i (s1, [])) := rfl
      generalize itr (dS code) i (s1, []) = q at *
      obtain ⟨s3, ys⟩ := q
      obtain ⟨i1, i2⟩ := hI
      simp only at i1 i2 ⊢
      obtain ⟨a, s4, a1, a2, h4, q4, N4⟩ := next_ex hc i1 20
      obtain ⟨b, s5, _, h5, p5, q5, K5⟩ := pick_ex hc h4 [0, 0, a] 3 rfl
      have hyl : (IR ys).length = ys.length := IR_len
      have hstp := hstp.trans (show dS code (s3, ys) = (s5, ys ++ [b]) by unfold dS; simp only [q4, q5, p5])
      repeat' (first | refine Qa ?_ | ((first | apply Ba | (apply Bb; (· rfl); (· rfl)) | (apply Bc; (· exact nxE)) | (apply Bd; (· rfl); (· rfl); (· exact nxE))); (· first | exact Nx N4 rfl rfl rfl rfl rfl | exact Kx K5 rfl rfl rfl rfl rfl rfl (by decide) | exact Ok.bs3 rfl rfl rfl rfl rfl | exact Ok.append1 (row := [DI b]) rfl rfl (by decide) rfl rfl hyl rfl rfl rfl (by rfl) (by omega) (by omega) | exact Ok.pe); (first | refine Na ?_ | refine Nb ?_)) | ((first | apply Ca | (apply Cb; (· exact nxE))); (· first | exact Nx N4 rfl rfl rfl rfl rfl | exact Kx K5 rfl rfl rfl rfl rfl rfl (by decide) | exact Ok.bs3 rfl rfl rfl rfl rfl | exact Ok.append1 (row := [DI b]) rfl rfl (by decide) rfl rfl hyl rfl rfl rfl (by rfl) (by omega) (by omega) | exact Ok.e0); (first | refine Nc ?_ | refine Nd ?_)) | refine Oa ?_ | refine Ob ?_ | ((first | refine Ga (fun h => ?_) (fun h => ?_) | refine AD.gsplit rfl rfl (fun h => ?_) (fun h => ?_)) <;> try (exfalso; omega; done)) | (first | refine AL.gsplitB rfl rfl (fun h => ?_) (fun h => ?_) | refine AD.gsplitB rfl rfl (fun h => ?_) (fun h => ?_)) | refine Fa ?_ | refine Qb ?_ | refine Qc ?_ | refine Qd ?_ | refine Fb ?_ | refine Qe ?_ | refine Wa ?_ | refine Wb ?_ | (refine AW.ite rfl (fun h => ?_) (fun h => ?_) <;> try (exfalso; omega; done)) | refine AW.cond _ rfl (fun h => ?_) (fun h => ?_) | refine Qf ?_ | refine Qg ?_ | refine Qh ?_ | refine Qi ?_ | refine Xa ?_ | refine Xb ?_ | refine Xc ?_ | refine Xd ?_ | refine Fc ?_)
      refine ⟨⟨i + 1, by omega⟩, ?_, by simp only; omega⟩
      simp only [hstp]
      (apply Le.headZ [_, _, _, _] rfl)
      all_goals (try dsimp only [srcs])
      (case' hfr | hob => (repeat' (first | refine La ?_ ?_ | exact Lc | refine Lo ?_ | refine ⟨⟨_, rfl, ?_⟩, ?_⟩ | refine ObA.box ?_ | refine ObA.frE ?_ | refine ObA.dataE ?_ | refine ARs.agg ?_ | refine ARs.tup ?_ | refine AR.b ?_ | refine AR.iE ?_ | refine AR.e ?_ | refine AR.clo' ARs.nil ?_)))
      all_goals (first | ((simp; done)) | exact Ld)
    obtain rfl : i = n := by omega
    rw [hq]
    simp only
    repeat' (first | refine Qa ?_ | ((first | apply Ba | (apply Bb; (· rfl); (· rfl)) | (apply Bc; (· exact nxE)) | (apply Bd; (· rfl); (· rfl); (· exact nxE))); (· first | exact Tb rfl rfl (hST) (Sa (Sd (Sd Sn)) (Sd (Sw Sn))) | exact Ok.makeN rfl (congrArg (fun z : Int => I z) hmk) (congrArg (fun z : Int => I z) hmk) (by omega) (by omega) | exact Ok.pe); (first | refine Na ?_ | refine Nb ?_)) | ((first | apply Ca | (apply Cb; (· exact nxE))); (· first | exact Tb rfl rfl (hST) (Sa (Sd (Sd Sn)) (Sd (Sw Sn))) | exact Ok.makeN rfl (congrArg (fun z : Int => I z) hmk) (congrArg (fun z : Int => I z) hmk) (by omega) (by omega) | exact Ok.e0); (first | refine Nc ?_ | refine Nd ?_)) | refine Oa ?_ | refine Ob ?_ | ((first | refine Ga (fun h => ?_) (fun h => ?_) | refine AD.gsplit rfl rfl (fun h => ?_) (fun h => ?_)) <;> try (exfalso; omega; done)) | (first | refine AL.gsplitB rfl rfl (fun h => ?_) (fun h => ?_) | refine AD.gsplitB rfl rfl (fun h => ?_) (fun h => ?_)) | refine Fa ?_ | refine Qb ?_ | refine Qc ?_ | refine Qd ?_ | refine Fb ?_ | refine Qe ?_ | refine Wa ?_ | refine Wb ?_ | (refine AW.ite rfl (fun h => ?_) (fun h => ?_) <;> try (exfalso; omega; done)) | refine AW.cond _ rfl (fun h => ?_) (fun h => ?_) | refine Qf ?_ | refine Qg ?_ | refine Qh ?_ | refine Qi ?_ | refine Xa ?_ | refine Xb ?_ | refine Xc ?_ | refine Xd ?_ | refine Fc ?_)
    refine Yb ?_
    (apply Le.headZ (hs := [(⟨0, []⟩, ⟨0, []⟩, _)]) [⟨0, []⟩] rfl)
    all_goals (try dsimp only [srcs])
    (case' hfr | hob => (repeat' (first | refine La ?_ ?_ | refine ARs.agg ?_ | refine ARs.tup ?_ | (exact AR.mix (R := []) (x := IR (List.replicate (min 12 i) 0)) rfl (show some (dobj 1 (List.replicate (min 12 i) [DI 0])) = some (dobj 1 (IR (List.replicate (min 12 i) 0))) by rw [show IR (List.replicate (min 12 i) 0) = List.replicate (min 12 i) [DI 0] by simp]) (by simp) rfl (by simp) (by simp)) | refine La ?_ ?_ | exact Lc | refine Lo ?_ | refine ⟨⟨_, rfl, ?_⟩, ?_⟩ | refine ObA.box ?_ | refine ObA.frE ?_ | refine ObA.dataE ?_ | refine ARs.agg ?_ | refine ARs.tup ?_ | refine AR.b ?_ | refine AR.iE ?_ | refine AR.e ?_ | refine AR.clo' ARs.nil ?_)))
    all_goals (first | exact Ld | exact trivial | (exact AR.mix (R := []) (x := IR (List.replicate (min 12 i) 0)) rfl (show some (dobj 1 (List.replicate (min 12 i) [DI 0])) = some (dobj 1 (IR (List.replicate (min 12 i) 0))) by rw [show IR (List.replicate (min 12 i) 0) = List.replicate (min 12 i) [DI 0] by simp]) (by simp) rfl (by simp) (by simp)))
  obtain ⟨n', k', F, hn', h10, hk', h50, rfl, hbF⟩ := hT0 hc0
  obtain rfl : n' = n := by omega
  obtain rfl : k' = v := by omega
  subst hc0
  rw [tabF_len] at hST
  have hA := dA_ok hc h10 (q := (s2, F)) (B := 1000000000) hs2 hbF k'
  generalize hqA : dA code n' (s2, F) k' = qA at hA
  obtain ⟨s6, F2⟩ := qA
  obtain ⟨hs6, hb6⟩ := hA
  simp only at hs6 hb6
  obtain ⟨z, s7, z1, z2, h7, q7, N7⟩ := next_ex hc hs6 3
  have hR := sRepairTableO_ac n' xs (tabF k' n' F2) hxl' (by rw [tabF_len]; omega) (fun r hr => by rw [tabF_row2 r hr]; omega)
  rw [rp_tab, tabF_len] at hR
  have hvr : rpV n' xs (tabF k' n' F2) ≤ k' := by unfold rpV; split <;> simp [tabF_len]
  generalize rpV n' xs (tabF k' n' F2) = v3 at hR hvr
  generalize rpF n' xs (tabF k' n' F2) = F3 at hR
  generalize rpC n' xs (tabF k' n' F2) = c3 at hR
  have hf1 := fin26_ok hc (F := F2) h7 (by omega : n' ≤ 11) h50
  have hf2 := fin26_ok hc (F := F3) h7 (by omega : n' ≤ 11) (by omega : v3 ≤ 50)
  have hal : (TR (tabF k' n' F2)).length = k' := by rw [TR_len, tabF_len]
  refine ⟨⟨n', xs, if 0 < z then (fin26 code n' v3 F3 s7).1 else (fin26 code n' k' F2 s7).1⟩, if 0 < z then (fin26 code n' v3 F3 s7).2 else (fin26 code n' k' F2 s7).2, ⟨hev, hxs, hxl, by split <;> first | exact hf2.1 | exact hf1.1⟩, by split <;> first | exact hf2.2 | exact hf1.2, ?_⟩
  show AC _ _ _ (heapL [(⟨0, []⟩, ⟨0, []⟩, srcO code s)]) _ _
  refine AC.of_body 1 Try.func140 rfl (fun l h => by simp [heapL, upd] at h; simp [h]) (fun C hC => ?_)
  simp only [startFr, Try.ntmps140, List.length_cons, List.length_nil, Nat.reduceAdd, Nat.reduceSub, List.replicate_succ, List.replicate_zero, List.cons_append, List.nil_append]
  have hD : ∀ l, C.D0 l → l = ⟨0, []⟩ := fun l h => by have := (hC l).1 h; simp [heapL, upd] at this; exact this
  repeat' (first | refine Qa ?_ | ((first | apply Ba | (apply Bb; (· rfl); (· rfl)) | (apply Bc; (· exact nxE)) | (apply Bd; (· rfl); (· rfl); (· exact nxE))); (· first | exact Ok.assign rfl (congrArg (fun z : Int => I z) hmx) | exact Zx (args := []) hG rfl rfl rfl rfl .nil (fun _ => by simp [rn]) | exact Ok.pe); (first | refine Na ?_ | refine Nb ?_)) | ((first | apply Ca | (apply Cb; (· exact nxE))); (· first | exact Zx (args := []) hG rfl rfl rfl rfl .nil (fun _ => by simp [rn]) | exact Ok.e0); (first | refine Nc ?_ | refine Nd ?_)) | refine Oa ?_ | refine Ob ?_ | ((first | refine Ga (fun h => ?_) (fun h => ?_) | refine AD.gsplit rfl rfl (fun h => ?_) (fun h => ?_)) <;> try (exfalso; omega; done)) | (first | refine AL.gsplitB rfl rfl (fun h => ?_) (fun h => ?_) | refine AD.gsplitB rfl rfl (fun h => ?_) (fun h => ?_)) | refine Fa ?_ | refine Qb ?_ | refine Qc ?_ | refine Qd ?_ | refine Fb ?_ | refine Qe ?_ | refine Wa ?_ | refine Wb ?_ | (refine AW.ite rfl (fun h => ?_) (fun h => ?_) <;> try (exfalso; omega; done)) | refine AW.cond _ rfl (fun h => ?_) (fun h => ?_) | refine Qf ?_ | refine Qg ?_ | refine Qh ?_ | refine Qi ?_ | refine Xa ?_ | refine Xb ?_ | refine Xc ?_ | refine Xd ?_ | refine Fc ?_)
  refine AW.loop (X := {k : Nat // k ≤ n'}) (fun k => ⟨[Bx 3 0, Oo, Bx 2 1, Oo, Bx 2 2, I k', .own 1 ⟨3, []⟩ 0 (itr (dS code) (k.1 : Nat) (s1, [])).2.length, I (k.1 : Nat), Oo, Oo, Oo, Oo, Oo, Oo, Oo, Oo, Oo, Oo, Oo, Oo, Oo, Oo, Oo, Oo, Oo, Oo, Oo, Oo, Oo, Oo, Oo, Oo, Oo, Oo, Oo, Oo, Oo, Oo, Oo, Oo, Oo, Oo, Oo, Oo, Oo, Oo, Oo, Oo, Oo, Oo, Oo, Oo, Oo, Oo, Oo, Oo, Oo, Oo, Oo, Oo, Oo, Oo, Oo, Oo, Oo, Oo, Oo, Oo, Oo, Oo, Oo, Oo, Oo, Oo, Oo, Oo, Oo, Oo, Oo, Oo, Oo, Oo, Oo, Oo, Oo, Oo, Oo, Oo, Oo, Oo, Oo, Oo, Oo, Oo, Oo, Oo, Oo, Oo, Oo, Oo, Oo, Oo, Oo, Oo, Oo, Oo, Oo, Oo, Oo, Oo, Oo, Oo, Oo, Oo, Oo, Oo, Oo, Oo, Oo, Oo, Oo, Oo, Oo, Oo, Oo, Oo], heapL [(⟨0, []⟩, ⟨0, []⟩, srcO code (itr (dS code) k.1 (s1, [])).1), (⟨1, []⟩, ⟨1, []⟩, ⟨2, [[I 0, nilS]]⟩), (⟨2, []⟩, ⟨2, []⟩, ⟨2, [[I n', PL xs]]⟩), (⟨3, []⟩, ⟨3, []⟩, IO (itr (dS code) k.1 (s1, [])).2)], 900⟩) (fun k => n' - k.1) ⟨0, Nat.zero_le _⟩ ?_ (fun k => ?_)
  ·
    (apply Le.headZ [_, _, _, _] rfl)
    all_goals (try dsimp only [srcs])
    (case' hfr | hob => (repeat' (first | refine La ?_ ?_ | exact Lc | refine Lo ?_ | refine ⟨⟨_, rfl, ?_⟩, ?_⟩ | refine ObA.box ?_ | refine ObA.frE ?_ | refine ObA.dataE ?_ | refine ARs.agg ?_ | refine ARs.tup ?_ | refine AR.b ?_ | refine AR.iE ?_ | refine AR.e ?_ | refine AR.clo' ARs.nil ?_)))
    all_goals (first | (rfl) | exact Ld)
  obtain ⟨i, hi⟩ := k
  simp only
  by_cases hlt : i < n'
  · have hI := dS_ok hc hs1 i
    have hstp : itr (dS code) (i + 1) (s1, []) = dS code (itr (dS code) i (s1, [])) := rfl
    generalize itr (dS code) i (s1, []) = q at *
    obtain ⟨s3, ys⟩ := q
    obtain ⟨i1, i2⟩ := hI
    simp only at i1 i2 ⊢
    obtain ⟨a, s4, a1, a2, h4, q4, N4⟩ := next_ex hc i1 20
    obtain ⟨b, s5, _, h5, p5, q5, K5⟩ := pick_ex hc h4 [0, 0, a] 3 rfl
    have hyl : (IR ys).length = ys.length := IR_len
    have hstp := hstp.trans (show dS code (s3, ys) = (s5, ys ++ [b]) by unfold dS; simp only [q4, q5, p5])
    repeat' (first | refine Qa ?_ | ((first | apply Ba | (apply Bb; (· rfl); (· rfl)) | (apply Bc; (· exact nxE)) | (apply Bd; (· rfl); (· rfl); (· exact nxE))); (· first | exact Nx N4 rfl rfl rfl rfl rfl | exact Kx K5 rfl rfl rfl rfl rfl rfl (by decide) | exact Ok.bs3 rfl rfl rfl rfl rfl | exact Ok.append1 (row := [DI b]) rfl rfl (by decide) rfl rfl hyl rfl rfl rfl (by rfl) (by omega) (by omega) | exact Ok.pe); (first | refine Na ?_ | refine Nb ?_)) | ((first | apply Ca | (apply Cb; (· exact nxE))); (· first | exact Nx N4 rfl rfl rfl rfl rfl | exact Kx K5 rfl rfl rfl rfl rfl rfl (by decide) | exact Ok.bs3 rfl rfl rfl rfl rfl | exact Ok.append1 (row := [DI b]) rfl rfl (by decide) rfl rfl hyl rfl rfl rfl (by rfl) (by omega) (by omega) | exact Ok.e0); (first | refine Nc ?_ | refine Nd ?_)) | refine Oa ?_ | refine Ob ?_ | ((first | refine Ga (fun h => ?_) (fun h => ?_) | refine AD.gsplit rfl rfl (fun h => ?_) (fun h => ?_)) <;> try (exfalso; omega; done)) | (first | refine AL.gsplitB rfl rfl (fun h => ?_) (fun h => ?_) | refine AD.gsplitB rfl rfl (fun h => ?_) (fun h => ?_)) | refine Fa ?_ | refine Qb ?_ | refine Qc ?_ | refine Qd ?_ | refine Fb ?_ | refine Qe ?_ | refine Wa ?_ | refine Wb ?_ | (refine AW.ite rfl (fun h => ?_) (fun h => ?_) <;> try (exfalso; omega; done)) | refine AW.cond _ rfl (fun h => ?_) (fun h => ?_) | refine Qf ?_ | refine Qg ?_ | refine Qh ?_ | refine Qi ?_ | refine Xa ?_ | refine Xb ?_ | refine Xc ?_ | refine Xd ?_ | refine Fc ?_)
    refine ⟨⟨i + 1, by omega⟩, ?_, by simp only; omega⟩
    simp only [hstp]
    (apply Le.headZ [_, _, _, _] rfl)
    all_goals (try dsimp only [srcs])
    (case' hfr | hob => (repeat' (first | refine La ?_ ?_ | exact Lc | refine Lo ?_ | refine ⟨⟨_, rfl, ?_⟩, ?_⟩ | refine ObA.box ?_ | refine ObA.frE ?_ | refine ObA.dataE ?_ | refine ARs.agg ?_ | refine ARs.tup ?_ | refine AR.b ?_ | refine AR.iE ?_ | refine AR.e ?_ | refine AR.clo' ARs.nil ?_)))
    all_goals (first | ((simp; done)) | exact Ld)
  obtain rfl : i = n' := by omega
  rw [hq]
  simp only
  repeat' (first | refine Qa ?_ | ((first | apply Ba | (apply Bb; (· rfl); (· rfl)) | (apply Bc; (· exact nxE)) | (apply Bd; (· rfl); (· rfl); (· exact nxE))); (· first | exact Tb rfl rfl (hST) (Sa (Sd (Sd Sn)) (Sd (Sw Sn))) | exact Ok.pe); (first | refine Na ?_ | refine Nb ?_)) | ((first | apply Ca | (apply Cb; (· exact nxE))); (· first | exact Tb rfl rfl (hST) (Sa (Sd (Sd Sn)) (Sd (Sw Sn))) | exact Ok.e0); (first | refine Nc ?_ | refine Nd ?_)) | refine Oa ?_ | refine Ob ?_ | ((first | refine Ga (fun h => ?_) (fun h => ?_) | refine AD.gsplit rfl rfl (fun h => ?_) (fun h => ?_)) <;> try (exfalso; omega; done)) | (first | refine AL.gsplitB rfl rfl (fun h => ?_) (fun h => ?_) | refine AD.gsplitB rfl rfl (fun h => ?_) (fun h => ?_)) | refine Fa ?_ | refine Qb ?_ | refine Qc ?_ | refine Qd ?_ | refine Fb ?_ | refine Qe ?_ | refine Wa ?_ | refine Wb ?_ | (refine AW.ite rfl (fun h => ?_) (fun h => ?_) <;> try (exfalso; omega; done)) | refine AW.cond _ rfl (fun h => ?_) (fun h => ?_) | refine Qf ?_ | refine Qg ?_ | refine Qh ?_ | refine Qi ?_ | refine Xa ?_ | refine Xb ?_ | refine Xc ?_ | refine Xd ?_ | refine Fc ?_)
  refine AW.loop (X := {k : Nat // k ≤ k'}) (fun k => ⟨[Bx 3 0, Oo, Bx 2 1, Oo, Bx 2 2, Oo, Oo, Oo, .own 1 ⟨3, []⟩ 0 k', Oo, I (k.1 : Nat), Oo, Oo, Oo, Oo, Oo, Oo, Oo, Oo, Oo, Oo, Oo, Oo, Oo, Oo, Oo, Oo, Oo, Oo, Oo, Oo, Oo, Oo, Oo, Oo, Oo, Oo, Oo, Oo, Oo, Oo, Oo, Oo, Oo, Oo, Oo, Oo, Oo, Oo, Oo, Oo, Oo, Oo, Oo, Oo, Oo, Oo, Oo, Oo, Oo, Oo, Oo, Oo, Oo, Oo, Oo, Oo, Oo, Oo, Oo, Oo, Oo, Oo, Oo, Oo, Oo, Oo, Oo, Oo, Oo, Oo, Oo, Oo, Oo, Oo, Oo, Oo, Oo, Oo, Oo, Oo, Oo, Oo, Oo, Oo, Oo, Oo, Oo, Oo, Oo, Oo, Oo, Oo, Oo, Oo, Oo, Oo, Oo, Oo, Oo, Oo, Oo, Oo, Oo, Oo, Oo, Oo, Oo, Oo, Oo, Oo, Oo, Oo, Oo, Oo, Oo], heapX [(⟨0, []⟩, ⟨0, []⟩, srcO code (dA code i (s2, F) k.1).1), (⟨1, []⟩, ⟨1, []⟩, ⟨2, [[I 0, nilS]]⟩), (⟨2, []⟩, ⟨2, []⟩, ⟨2, [[I i, PL xs]]⟩)] [mi1 ⟨3, []⟩ (TR (tabF k' i (dA code i (s2, F) k.1).2))], 900⟩) (fun k => k' - k.1) ⟨0, Nat.zero_le _⟩ ?_ (fun k => ?_)
  ·
    (apply Le.headG [_, _, _] [{ l := ⟨3, []⟩, k := 1, R := TR (tabF k' i F), src := ⟨907, [0]⟩, base := ⟨907, [0]⟩ }] (fun _ => False))
    (case' hlen => rfl)
    (case' hms => rfl)
    all_goals (try dsimp only [srcs])
    (case' hfr | hob => (repeat' (first | refine La ?_ ?_ | exact Lc | refine Lo ?_ | refine ⟨⟨_, rfl, ?_⟩, ?_⟩ | refine ObA.box ?_ | refine ObA.frE ?_ | refine ObA.dataE ?_ | refine ARs.agg ?_ | refine ARs.tup ?_ | refine AR.b ?_ | refine AR.iE ?_ | refine AR.e ?_ | refine AR.clo' ARs.nil ?_)))
    (case' hok => first | exact ⟨MI.ok_same rfl (fun u x hx => congrArg (Option.map (dobj 1)) hx), trivial⟩ | exact trivial)
    (case' hN => rfl)
    (case' hS => rfl)
    all_goals (first | exact Ld | (rfl))
  obtain ⟨w, hw⟩ := k
  simp only
  by_cases hlt2 : w < k'
  · have hI := dA_ok hc h10 (q := (s2, F)) (B := 1000000000) hs2 hbF w
    have hstA : dA code i (s2, F) (w + 1) = dR code w (dA code i (s2, F) w) i := rfl
    generalize dA code i (s2, F) w = q at hI hstA ⊢
    obtain ⟨i1, i2⟩ := hI
    repeat' (first | refine Qa ?_ | ((first | apply Ba | (apply Bb; (· rfl); (· rfl)) | (apply Bc; (· exact nxE)) | (apply Bd; (· rfl); (· rfl); (· exact nxE))); (· first | exact Ok.pe); (first | refine Na ?_ | refine Nb ?_)) | ((first | apply Ca | (apply Cb; (· exact nxE))); (· first | exact Ok.e0); (first | refine Nc ?_ | refine Nd ?_)) | refine Oa ?_ | refine Ob ?_ | ((first | refine Ga (fun h => ?_) (fun h => ?_) | refine AD.gsplit rfl rfl (fun h => ?_) (fun h => ?_)) <;> try (exfalso; omega; done)) | (first | refine AL.gsplitB rfl rfl (fun h => ?_) (fun h => ?_) | refine AD.gsplitB rfl rfl (fun h => ?_) (fun h => ?_)) | refine Fa ?_ | refine Qb ?_ | refine Qc ?_ | refine Qd ?_ | refine Fb ?_ | refine Qe ?_ | refine Wa ?_ | refine Wb ?_ | (refine AW.ite rfl (fun h => ?_) (fun h => ?_) <;> try (exfalso; omega; done)) | refine AW.cond _ rfl (fun h => ?_) (fun h => ?_) | refine Qf ?_ | refine Qg ?_ | refine Qh ?_ | refine Qi ?_ | refine Xa ?_ | refine Xb ?_ | refine Xc ?_ | refine Xd ?_ | refine Fc ?_)
    refine AW.loop (X := {k : Nat // k ≤ i}) (fun k => ⟨[Bx 3 0, Oo, Bx 2 1, Oo, Bx 2 2, Oo, Oo, Oo, .own 1 ⟨3, []⟩ 0 k', Oo, I w, I (k.1 : Nat), Oo, Oo, Oo, Oo, Oo, Oo, Oo, Oo, Oo, Oo, Oo, Oo, Oo, Oo, Oo, Oo, Oo, Oo, Oo, Oo, Oo, Oo, Oo, Oo, Oo, Oo, Oo, Oo, Oo, Oo, Oo, Oo, Oo, Oo, Oo, Oo, Oo, Oo, Oo, Oo, Oo, Oo, Oo, Oo, Oo, Oo, Oo, Oo, Oo, Oo, Oo, Oo, Oo, Oo, Oo, Oo, Oo, Oo, Oo, Oo, Oo, Oo, Oo, Oo, Oo, Oo, Oo, Oo, Oo, Oo, Oo, Oo, Oo, Oo, Oo, Oo, Oo, Oo, Oo, Oo, Oo, Oo, Oo, Oo, Oo, Oo, Oo, Oo, Oo, Oo, Oo, Oo, Oo, Oo, Oo, Oo, Oo, Oo, Oo, Oo, Oo, Oo, Oo, Oo, Oo, Oo, Oo, Oo, Oo, Oo, Oo, Oo, Oo, Oo], heapX [(⟨0, []⟩, ⟨0, []⟩, srcO code (dR code w q k.1).1), (⟨1, []⟩, ⟨1, []⟩, ⟨2, [[I 0, nilS]]⟩), (⟨2, []⟩, ⟨2, []⟩, ⟨2, [[I i, PL xs]]⟩)] [mi1 ⟨3, []⟩ (TR (tabF k' i (dR code w q k.1).2))], 900⟩) (fun k => i - k.1) ⟨0, Nat.zero_le _⟩ ?_ (fun k => ?_)
    ·
      (apply Le.headG [_, _, _] [mi1 ⟨3, []⟩ (TR (tabF k' i q.2))] (fun _ => False))
      (case' hlen => rfl)
      (case' hms => rfl)
      all_goals (try dsimp only [srcs])
      (case' hfr | hob => (repeat' (first | refine La ?_ ?_ | exact Lc | refine Lo ?_ | refine ⟨⟨_, rfl, ?_⟩, ?_⟩ | refine ObA.box ?_ | refine ObA.frE ?_ | refine ObA.dataE ?_ | refine ARs.agg ?_ | refine ARs.tup ?_ | refine AR.b ?_ | refine AR.iE ?_ | refine AR.e ?_ | refine AR.clo' ARs.nil ?_)))
      (case' hok => first | exact ⟨MI.ok_same rfl (fun u x hx => congrArg (Option.map (dobj 1)) hx), trivial⟩ | exact trivial)
      (case' hN => rfl)
      (case' hS => rfl)
      all_goals (first | exact Ld | (rfl))
    obtain ⟨e, he⟩ := k
    simp only
    have hJ := dR_ok hc (k := w) i1 i2 e
    by_cases hlt3 : e < i
    · have hstR : dR code w q (e + 1) = dC code w e (dR code w q e) := rfl
      generalize dR code w q e = r at hJ hstR ⊢
      obtain ⟨s10, G⟩ := r
      obtain ⟨j1, j2⟩ := hJ
      simp only at j1 j2 ⊢
      obtain ⟨a, s11, a1, a2, h11, q11, N11⟩ := next_ex hc j1 12
      obtain ⟨b, s12, b1, b2, h12, q12, N12⟩ := next_ex hc h11 8
      have hstC := hstR.trans (show dC code w e (s10, G) = if a = 0 then (s12, fun x y => if x = w ∧ y = e then G w e + b else G x y) else (s11, G) by unfold dC; simp only [q11, q12])
      have hbe := j2 w e
      have hrw := TRF_get (n := i) (f := G) hlt2
      have hrl : (IR (rowF i (G w))).length = i := by rw [IR_len, rowF_len]
      have hcell : (IR (rowF i (G w)))[e]? = some [DI (G w e)] := IRF_get hlt3
      have htF : (TR (tabF k' i G)).length = k' := by rw [TR_len, tabF_len]
      by_cases ha : a = 0
      · rw [if_pos ha] at hstC
        repeat' (first | refine Qa ?_ | ((first | apply Ba | (apply Bb; (· rfl); (· rfl)) | (apply Bc; (· exact nxE)) | (apply Bd; (· rfl); (· rfl); (· exact nxE))); (· first | exact Ok.ldTn rfl rfl rfl hrw hrl | exact Ok.ld1 rfl rfl (congrArg (Option.map (dobj 1)) hrw) hcell | exact Nx N11 rfl rfl rfl rfl rfl | exact Nx N12 rfl rfl rfl rfl rfl | exact Ok.st1 rfl rfl (congrArg (Option.map (dobj 1)) hrw) (by rw [hrl]; exact hlt3) (by rw [hcell]; rfl) rfl rfl IR_set | exact Ok.pe); (first | refine Na ?_ | refine Nb ?_)) | ((first | apply Ca | (apply Cb; (· exact nxE))); (· first | exact Nx N11 rfl rfl rfl rfl rfl | exact Nx N12 rfl rfl rfl rfl rfl | exact Ok.st1 rfl rfl (congrArg (Option.map (dobj 1)) hrw) (by rw [hrl]; exact hlt3) (by rw [hcell]; rfl) rfl rfl IR_set | exact Ok.e0); (first | refine Nc ?_ | refine Nd ?_)) | refine Oa ?_ | refine Ob ?_ | ((first | refine Ga (fun h => ?_) (fun h => ?_) | refine AD.gsplit rfl rfl (fun h => ?_) (fun h => ?_)) <;> try (exfalso; omega; done)) | (first | refine AL.gsplitB rfl rfl (fun h => ?_) (fun h => ?_) | refine AD.gsplitB rfl rfl (fun h => ?_) (fun h => ?_)) | refine Fa ?_ | refine Qb ?_ | refine Qc ?_ | refine Qd ?_ | refine Fb ?_ | refine Qe ?_ | refine Wa ?_ | refine Wb ?_ | (refine AW.ite rfl (fun h => ?_) (fun h => ?_) <;> try (exfalso; omega; done)) | refine AW.cond _ rfl (fun h => ?_) (fun h => ?_) | refine Qf ?_ | refine Qg ?_ | refine Qh ?_ | refine Qi ?_ | refine Xa ?_ | refine Xb ?_ | refine Xc ?_ | refine Xd ?_ | refine Fc ?_)
        refine ⟨⟨e + 1, by omega⟩, ?_, by simp only; omega⟩
        simp only [hstC]
        (apply Le.headG [_, _, _] [mi1 ⟨3, []⟩ (TR (tabF k' i (fun x y => if x = w ∧ y = e then G w e + b else G x y)))] (fun _ => False))
        (case' hlen => rfl)
        (case' hms => rfl)
        all_goals (try dsimp only [srcs])
        (case' hfr | hob => (repeat' (first | refine La ?_ ?_ | exact Lc | refine Lo ?_ | refine ⟨⟨_, rfl, ?_⟩, ?_⟩ | refine ObA.box ?_ | refine ObA.frE ?_ | refine ObA.dataE ?_ | refine ARs.agg ?_ | refine ARs.tup ?_ | refine AR.b ?_ | refine AR.iE ?_ | refine AR.e ?_ | refine AR.clo' ARs.nil ?_)))
        (case' hok => first | exact ⟨MI.ok_row (tabF_set (fun a b _ _ => rfl)) hrw (by simp) rfl (fun u x hx => congrArg (Option.map (dobj 1)) hx), trivial⟩ | exact trivial)
        (case' hN => rfl)
        (case' hS => rfl)
        all_goals (first | exact Ld | (rfl))
      · rw [if_neg ha] at hstC
        repeat' (first | refine Qa ?_ | ((first | apply Ba | (apply Bb; (· rfl); (· rfl)) | (apply Bc; (· exact nxE)) | (apply Bd; (· rfl); (· rfl); (· exact nxE))); (· first | exact Ok.ldTn rfl rfl rfl hrw hrl | exact Nx N11 rfl rfl rfl rfl rfl | exact Nx N12 rfl rfl rfl rfl rfl | exact Ok.pe); (first | refine Na ?_ | refine Nb ?_)) | ((first | apply Ca | (apply Cb; (· exact nxE))); (· first | exact Nx N11 rfl rfl rfl rfl rfl | exact Nx N12 rfl rfl rfl rfl rfl | exact Ok.e0); (first | refine Nc ?_ | refine Nd ?_)) | refine Oa ?_ | refine Ob ?_ | ((first | refine Ga (fun h => ?_) (fun h => ?_) | refine AD.gsplit rfl rfl (fun h => ?_) (fun h => ?_)) <;> try (exfalso; omega; done)) | (first | refine AL.gsplitB rfl rfl (fun h => ?_) (fun h => ?_) | refine AD.gsplitB rfl rfl (fun h => ?_) (fun h => ?_)) | refine Fa ?_ | refine Qb ?_ | refine Qc ?_ | refine Qd ?_ | refine Fb ?_ | refine Qe ?_ | refine Wa ?_ | refine Wb ?_ | (refine AW.ite rfl (fun h => ?_) (fun h => ?_) <;> try (exfalso; omega; done)) | refine AW.cond _ rfl (fun h => ?_) (fun h => ?_) | refine Qf ?_ | refine Qg ?_ | refine Qh ?_ | refine Qi ?_ | refine Xa ?_ | refine Xb ?_ | refine Xc ?_ | refine Xd ?_ | refine Fc ?_)
        refine ⟨⟨e + 1, by omega⟩, ?_, by simp only; omega⟩
        simp only [hstC]
        (apply Le.headG [_, _, _] [mi1 ⟨3, []⟩ (TR (tabF k' i G))] (fun _ => False))
        (case' hlen => rfl)
        (case' hms => rfl)
        all_goals (try dsimp only [srcs])
        (case' hfr | hob => (repeat' (first | refine La ?_ ?_ | exact Lc | refine Lo ?_ | refine ⟨⟨_, rfl, ?_⟩, ?_⟩ | refine ObA.box ?_ | refine ObA.frE ?_ | refine ObA.dataE ?_ | refine ARs.agg ?_ | refine ARs.tup ?_ | refine AR.b ?_ | refine AR.iE ?_ | refine AR.e ?_ | refine AR.clo' ARs.nil ?_)))
        (case' hok => first | exact ⟨MI.ok_same rfl (fun u x hx => congrArg (Option.map (dobj 1)) hx), trivial⟩ | exact trivial)
        (case' hN => rfl)
        (case' hS => rfl)
        all_goals (first | exact Ld | (rfl))
    · obtain rfl : e = i := by omega
      rw [← hstA]
      have hrw := TRF_get (n := e) (f := (dA code e (s2, F) (w + 1)).2) hlt2
      have hrl : (IR (rowF e ((dA code e (s2, F) (w + 1)).2 w))).length = e := by rw [IR_len, rowF_len]
      have htF : (TR (tabF k' e (dA code e (s2, F) (w + 1)).2)).length = k' := by rw [TR_len, tabF_len]
      repeat' (first | refine Qa ?_ | ((first | apply Ba | (apply Bb; (· rfl); (· rfl)) | (apply Bc; (· exact nxE)) | (apply Bd; (· rfl); (· rfl); (· exact nxE))); (· first | exact Ok.ldTn rfl rfl rfl hrw hrl | exact Ok.pe); (first | refine Na ?_ | refine Nb ?_)) | ((first | apply Ca | (apply Cb; (· exact nxE))); (· first | exact Ok.e0); (first | refine Nc ?_ | refine Nd ?_)) | refine Oa ?_ | refine Ob ?_ | ((first | refine Ga (fun h => ?_) (fun h => ?_) | refine AD.gsplit rfl rfl (fun h => ?_) (fun h => ?_)) <;> try (exfalso; omega; done)) | (first | refine AL.gsplitB rfl rfl (fun h => ?_) (fun h => ?_) | refine AD.gsplitB rfl rfl (fun h => ?_) (fun h => ?_)) | refine Fa ?_ | refine Qb ?_ | refine Qc ?_ | refine Qd ?_ | refine Fb ?_ | refine Qe ?_ | refine Wa ?_ | refine Wb ?_ | (refine AW.ite rfl (fun h => ?_) (fun h => ?_) <;> try (exfalso; omega; done)) | refine AW.cond _ rfl (fun h => ?_) (fun h => ?_) | refine Qf ?_ | refine Qg ?_ | refine Qh ?_ | refine Qi ?_ | refine Xa ?_ | refine Xb ?_ | refine Xc ?_ | refine Xd ?_ | refine Fc ?_)
      refine ⟨⟨w + 1, by omega⟩, ?_, by simp only; omega⟩
      (apply Le.headG [_, _, _] [mi1 ⟨3, []⟩ (TR (tabF k' e (dA code e (s2, F) (w + 1)).2))] (fun _ => False))
      (case' hlen => rfl)
      (case' hms => rfl)
      all_goals (try dsimp only [srcs])
      (case' hfr | hob => (repeat' (first | refine La ?_ ?_ | exact Lc | refine Lo ?_ | refine ⟨⟨_, rfl, ?_⟩, ?_⟩ | refine ObA.box ?_ | refine ObA.frE ?_ | refine ObA.dataE ?_ | refine ARs.agg ?_ | refine ARs.tup ?_ | refine AR.b ?_ | refine AR.iE ?_ | refine AR.e ?_ | refine AR.clo' ARs.nil ?_)))
      (case' hok => first | exact ⟨MI.ok_same rfl (fun u x hx => congrArg (Option.map (dobj 1)) hx), trivial⟩ | exact trivial)
      (case' hN => rfl)
      (case' hS => rfl)
      all_goals (first | exact Ld | (rfl))
  obtain rfl : w = k' := by omega
  rw [hqA]
  simp only
  obtain ⟨y, s8, y1, y2, h8, q8, N8⟩ := next_ex hc h7 30
  obtain ⟨b, s9, _, h9, p9, q9, K9⟩ := pick_ex hc h8 [-1, 1000000, 1000001] 3 rfl
  unfold fin26
  simp only [q8, q9, p9]
  by_cases hz : 0 < z
  · simp only [if_pos hz]
    by_cases hpos : 0 < v3 ∧ 0 < i
    · have hrw := TRF_get (n := i) (f := F3) hpos.1
      have hrl : (IR (rowF i (F3 0))).length = i := by rw [IR_len, rowF_len]
      have htF : (TR (tabF v3 i F3)).length = v3 := by rw [TR_len, tabF_len]
      have hcell : (IR (rowF i (F3 0)))[0]? = some [DI (F3 0 0)] := IRF_get hpos.2
      rw [if_pos hpos]
      repeat' (first | refine Qa ?_ | ((first | apply Ba | (apply Bb; (· rfl); (· rfl)) | (apply Bc; (· exact nxE)) | (apply Bd; (· rfl); (· rfl); (· exact nxE))); (· first | exact Ok.ldTj (i := 0) rfl rfl rfl hrw hrl rfl | exact Tb rfl rfl (hR) (Sa (Sd (Sd Sn)) (Sm Sn)) | exact Nx N7 rfl rfl rfl rfl rfl | exact Nx N8 rfl rfl rfl rfl rfl | exact Kx K9 rfl rfl rfl rfl rfl rfl (by decide) | exact Ok.bs3 rfl rfl rfl rfl rfl | exact Ok.st1 (i := 0) rfl rfl (congrArg (Option.map (dobj 1)) hrw) (by rw [hrl]; exact hpos.2) (by rw [hcell]; rfl) rfl rfl IR_set | exact Ok.append1 (row := [DI 0]) rfl rfl (by decide) rfl (congrArg (Option.map (dobj 1)) hrw) hrl rfl rfl rfl (by rfl) (by omega) (by omega) | exact Ok.stT (i := 0) rfl rfl rfl (by rw [htF]; omega) rfl | exact Ok.pe); (first | refine Na ?_ | refine Nb ?_)) | ((first | apply Ca | (apply Cb; (· exact nxE))); (· first | exact Tb rfl rfl (hR) (Sa (Sd (Sd Sn)) (Sm Sn)) | exact Nx N7 rfl rfl rfl rfl rfl | exact Nx N8 rfl rfl rfl rfl rfl | exact Kx K9 rfl rfl rfl rfl rfl rfl (by decide) | exact Ok.bs3 rfl rfl rfl rfl rfl | exact Ok.st1 (i := 0) rfl rfl (congrArg (Option.map (dobj 1)) hrw) (by rw [hrl]; exact hpos.2) (by rw [hcell]; rfl) rfl rfl IR_set | exact Ok.append1 (row := [DI 0]) rfl rfl (by decide) rfl (congrArg (Option.map (dobj 1)) hrw) hrl rfl rfl rfl (by rfl) (by omega) (by omega) | exact Ok.stT (i := 0) rfl rfl rfl (by rw [htF]; omega) rfl | exact Ok.e0); (first | refine Nc ?_ | refine Nd ?_)) | refine Oa ?_ | refine Ob ?_ | ((first | refine Ga (fun h => ?_) (fun h => ?_) | refine AD.gsplit rfl rfl (fun h => ?_) (fun h => ?_)) <;> try (exfalso; omega; done)) | (first | refine AL.gsplitB rfl rfl (fun h => ?_) (fun h => ?_) | refine AD.gsplitB rfl rfl (fun h => ?_) (fun h => ?_)) | refine Fa ?_ | refine Qb ?_ | refine Qc ?_ | refine Qd ?_ | refine Fb ?_ | refine Qe ?_ | refine Wa ?_ | refine Wb ?_ | (refine AW.ite rfl (fun h => ?_) (fun h => ?_) <;> try (exfalso; omega; done)) | refine AW.cond _ rfl (fun h => ?_) (fun h => ?_) | refine Qf ?_ | refine Qg ?_ | refine Qh ?_ | refine Qi ?_ | refine Xa ?_ | refine Xb ?_ | refine Xc ?_ | refine Xd ?_ | refine Fc ?_)
      · rw [if_pos (by assumption)]
        refine Yb ?_
        (apply Le.headZ (hs := [(⟨0, []⟩, ⟨0, []⟩, _)]) [⟨0, []⟩] rfl)
        all_goals (try dsimp only [srcs])
        (case' hfr | hob => (repeat' (first | refine La ?_ ?_ | refine ARs.agg ?_ | refine ARs.tup ?_ | (exact AR.tabM (l := ⟨909, [0]⟩) (MI.ok_set (H' := H0) (i := 0) (r := IR ((rowF i (F3 0)).set 0 b)) (tabF_set (fun a b _ _ => rfl)) (fun x hx => by rw [hrw] at hx; cases hx; simp) rfl (fun j x hx hne => upd_at hne (congrArg (Option.map (dobj 1)) hx)) (fun _ => rfl)) (by rw [TR_len, tabF_len]) (by decide) (by intro j; simp [Loc.at, relo])) | refine La ?_ ?_ | exact Lc | refine Lo ?_ | refine ⟨⟨_, rfl, ?_⟩, ?_⟩ | refine ObA.box ?_ | refine ObA.frE ?_ | refine ObA.dataE ?_ | refine ARs.agg ?_ | refine ARs.tup ?_ | refine AR.b ?_ | refine AR.iE ?_ | refine AR.e ?_ | refine AR.clo' ARs.nil ?_)))
        all_goals (first | exact Ld | exact trivial | (exact AR.tabM (l := ⟨909, [0]⟩) (MI.ok_set (H' := H0) (i := 0) (r := IR ((rowF i (F3 0)).set 0 b)) (tabF_set (fun a b _ _ => rfl)) (fun x hx => by rw [hrw] at hx; cases hx; simp) rfl (fun j x hx hne => upd_at hne (congrArg (Option.map (dobj 1)) hx)) (fun _ => rfl)) (by rw [TR_len, tabF_len]) (by decide) (by intro j; simp [Loc.at, relo])))
      · rw [if_neg (by assumption), if_pos (by assumption)]
        refine Yb ?_
        (apply Le.headZ (hs := [(⟨0, []⟩, ⟨0, []⟩, _)]) [⟨0, []⟩] rfl)
        all_goals (try dsimp only [srcs])
        (case' hfr | hob => (repeat' (first | refine La ?_ ?_ | refine ARs.agg ?_ | refine ARs.tup ?_ | (exact AR.tabA (l := ⟨909, [0]⟩) (e := ⟨935, []⟩) (R := TR (tabF v3 i F3)) (r := IR (rowF i (F3 0)) ++ [[DI 0]]) rfl rfl (by simp [rowF_len]) (fun j x hj hx => upd_at (by omega) (congrArg (Option.map (dobj 1)) hx)) (by simp) (by rw [htF]; exact hpos.1) htF (by decide) (by decide) (by intro j; simp [Loc.at, relo])) | refine La ?_ ?_ | exact Lc | refine Lo ?_ | refine ⟨⟨_, rfl, ?_⟩, ?_⟩ | refine ObA.box ?_ | refine ObA.frE ?_ | refine ObA.dataE ?_ | refine ARs.agg ?_ | refine ARs.tup ?_ | refine AR.b ?_ | refine AR.iE ?_ | refine AR.e ?_ | refine AR.clo' ARs.nil ?_)))
        all_goals (first | exact Ld | exact trivial | (exact AR.tabA (l := ⟨909, [0]⟩) (e := ⟨935, []⟩) (R := TR (tabF v3 i F3)) (r := IR (rowF i (F3 0)) ++ [[DI 0]]) rfl rfl (by simp [rowF_len]) (fun j x hj hx => upd_at (by omega) (congrArg (Option.map (dobj 1)) hx)) (by simp) (by rw [htF]; exact hpos.1) htF (by decide) (by decide) (by intro j; simp [Loc.at, relo])))
      · rw [if_neg (by assumption), if_neg (by assumption)]
        refine Yb ?_
        (apply Le.headZ (hs := [(⟨0, []⟩, ⟨0, []⟩, _)]) [⟨0, []⟩] rfl)
        all_goals (try dsimp only [srcs])
        (case' hfr | hob => (repeat' (first | refine La ?_ ?_ | refine ARs.agg ?_ | refine ARs.tup ?_ | (exact AR.tab ⟨rfl, fun u x hx => congrArg (Option.map (dobj 1)) hx⟩ htF (by decide) (by intro j; simp [Loc.at, relo])) | refine La ?_ ?_ | exact Lc | refine Lo ?_ | refine ⟨⟨_, rfl, ?_⟩, ?_⟩ | refine ObA.box ?_ | refine ObA.frE ?_ | refine ObA.dataE ?_ | refine ARs.agg ?_ | refine ARs.tup ?_ | refine AR.b ?_ | refine AR.iE ?_ | refine AR.e ?_ | refine AR.clo' ARs.nil ?_)))
        all_goals (first | exact Ld | exact trivial | (exact AR.tab ⟨rfl, fun u x hx => congrArg (Option.map (dobj 1)) hx⟩ htF (by decide) (by intro j; simp [Loc.at, relo])))
    · rw [if_neg hpos]
      have htF : (TR (tabF v3 i F3)).length = v3 := by rw [TR_len, tabF_len]
      by_cases hv0 : 0 < v3
      · have hrw := TRF_get (n := i) (f := F3) hv0
        have hrl : (IR (rowF i (F3 0))).length = i := by rw [IR_len, rowF_len]
        repeat' (first | refine Qa ?_ | ((first | apply Ba | (apply Bb; (· rfl); (· rfl)) | (apply Bc; (· exact nxE)) | (apply Bd; (· rfl); (· rfl); (· exact nxE))); (· first | exact Ok.ldTj (i := 0) rfl rfl rfl hrw hrl rfl | exact Tb rfl rfl (hR) (Sa (Sd (Sd Sn)) (Sm Sn)) | exact Nx N7 rfl rfl rfl rfl rfl | exact Ok.pe); (first | refine Na ?_ | refine Nb ?_)) | ((first | apply Ca | (apply Cb; (· exact nxE))); (· first | exact Tb rfl rfl (hR) (Sa (Sd (Sd Sn)) (Sm Sn)) | exact Nx N7 rfl rfl rfl rfl rfl | exact Ok.e0); (first | refine Nc ?_ | refine Nd ?_)) | refine Oa ?_ | refine Ob ?_ | ((first | refine Ga (fun h => ?_) (fun h => ?_) | refine AD.gsplit rfl rfl (fun h => ?_) (fun h => ?_)) <;> try (exfalso; omega; done)) | (first | refine AL.gsplitB rfl rfl (fun h => ?_) (fun h => ?_) | refine AD.gsplitB rfl rfl (fun h => ?_) (fun h => ?_)) | refine Fa ?_ | refine Qb ?_ | refine Qc ?_ | refine Qd ?_ | refine Fb ?_ | refine Qe ?_ | refine Wa ?_ | refine Wb ?_ | (refine AW.ite rfl (fun h => ?_) (fun h => ?_) <;> try (exfalso; omega; done)) | refine AW.cond _ rfl (fun h => ?_) (fun h => ?_) | refine Qf ?_ | refine Qg ?_ | refine Qh ?_ | refine Qi ?_ | refine Xa ?_ | refine Xb ?_ | refine Xc ?_ | refine Xd ?_ | refine Fc ?_)
        refine Yb ?_
        (apply Le.headZ (hs := [(⟨0, []⟩, ⟨0, []⟩, _)]) [⟨0, []⟩] rfl)
        all_goals (try dsimp only [srcs])
        (case' hfr | hob => (repeat' (first | refine La ?_ ?_ | refine ARs.agg ?_ | refine ARs.tup ?_ | (exact AR.tab ⟨rfl, fun u x hx => congrArg (Option.map (dobj 1)) hx⟩ htF (by decide) (by intro j; simp [Loc.at, relo])) | refine La ?_ ?_ | exact Lc | refine Lo ?_ | refine ⟨⟨_, rfl, ?_⟩, ?_⟩ | refine ObA.box ?_ | refine ObA.frE ?_ | refine ObA.dataE ?_ | refine ARs.agg ?_ | refine ARs.tup ?_ | refine AR.b ?_ | refine AR.iE ?_ | refine AR.e ?_ | refine AR.clo' ARs.nil ?_)))
        all_goals (first | exact Ld | exact trivial | (exact AR.tab ⟨rfl, fun u x hx => congrArg (Option.map (dobj 1)) hx⟩ htF (by decide) (by intro j; simp [Loc.at, relo])))
      · 
        repeat' (first | refine Qa ?_ | ((first | apply Ba | (apply Bb; (· rfl); (· rfl)) | (apply Bc; (· exact nxE)) | (apply Bd; (· rfl); (· rfl); (· exact nxE))); (· first | exact Tb rfl rfl (hR) (Sa (Sd (Sd Sn)) (Sm Sn)) | exact Nx N7 rfl rfl rfl rfl rfl | exact Ok.pe); (first | refine Na ?_ | refine Nb ?_)) | ((first | apply Ca | (apply Cb; (· exact nxE))); (· first | exact Tb rfl rfl (hR) (Sa (Sd (Sd Sn)) (Sm Sn)) | exact Nx N7 rfl rfl rfl rfl rfl | exact Ok.e0); (first | refine Nc ?_ | refine Nd ?_)) | refine Oa ?_ | refine Ob ?_ | ((first | refine Ga (fun h => ?_) (fun h => ?_) | refine AD.gsplit rfl rfl (fun h => ?_) (fun h => ?_)) <;> try (exfalso; omega; done)) | (first | refine AL.gsplitB rfl rfl (fun h => ?_) (fun h => ?_) | refine AD.gsplitB rfl rfl (fun h => ?_) (fun h => ?_)) | refine Fa ?_ | refine Qb ?_ | refine Qc ?_ | refine Qd ?_ | refine Fb ?_ | refine Qe ?_ | refine Wa ?_ | refine Wb ?_ | (refine AW.ite rfl (fun h => ?_) (fun h => ?_) <;> try (exfalso; omega; done)) | refine AW.cond _ rfl (fun h => ?_) (fun h => ?_) | refine Qf ?_ | refine Qg ?_ | refine Qh ?_ | refine Qi ?_ | refine Xa ?_ | refine Xb ?_ | refine Xc ?_ | refine Xd ?_ | refine Fc ?_)
        refine Yb ?_
        (apply Le.headZ (hs := [(⟨0, []⟩, ⟨0, []⟩, _)]) [⟨0, []⟩] rfl)
        all_goals (try dsimp only [srcs])
        (case' hfr | hob => (repeat' (first | refine La ?_ ?_ | refine ARs.agg ?_ | refine ARs.tup ?_ | (exact AR.tab ⟨rfl, fun u x hx => congrArg (Option.map (dobj 1)) hx⟩ htF (by decide) (by intro j; simp [Loc.at, relo])) | refine La ?_ ?_ | exact Lc | refine Lo ?_ | refine ⟨⟨_, rfl, ?_⟩, ?_⟩ | refine ObA.box ?_ | refine ObA.frE ?_ | refine ObA.dataE ?_ | refine ARs.agg ?_ | refine ARs.tup ?_ | refine AR.b ?_ | refine AR.iE ?_ | refine AR.e ?_ | refine AR.clo' ARs.nil ?_)))
        all_goals (first | exact Ld | exact trivial | (exact AR.tab ⟨rfl, fun u x hx => congrArg (Option.map (dobj 1)) hx⟩ htF (by decide) (by intro j; simp [Loc.at, relo])))
  · simp only [if_neg hz]
    by_cases hpos : 0 < w ∧ 0 < i
    · have hrw := TRF_get (n := i) (f := F2) hpos.1
      have hrl : (IR (rowF i (F2 0))).length = i := by rw [IR_len, rowF_len]
      have htF : (TR (tabF w i F2)).length = w := by rw [TR_len, tabF_len]
      have hcell : (IR (rowF i (F2 0)))[0]? = some [DI (F2 0 0)] := IRF_get hpos.2
      rw [if_pos hpos]
      repeat' (first | refine Qa ?_ | ((first | apply Ba | (apply Bb; (· rfl); (· rfl)) | (apply Bc; (· exact nxE)) | (apply Bd; (· rfl); (· rfl); (· exact nxE))); (· first | exact Ok.ldTj (i := 0) rfl rfl rfl hrw hrl rfl | exact Nx N7 rfl rfl rfl rfl rfl | exact Nx N8 rfl rfl rfl rfl rfl | exact Kx K9 rfl rfl rfl rfl rfl rfl (by decide) | exact Ok.bs3 rfl rfl rfl rfl rfl | exact Ok.st1 (i := 0) rfl rfl (congrArg (Option.map (dobj 1)) hrw) (by rw [hrl]; exact hpos.2) (by rw [hcell]; rfl) rfl rfl IR_set | exact Ok.append1 (row := [DI 0]) rfl rfl (by decide) rfl (congrArg (Option.map (dobj 1)) hrw) hrl rfl rfl rfl (by rfl) (by omega) (by omega) | exact Ok.stT (i := 0) rfl rfl rfl (by rw [htF]; omega) rfl | exact Ok.pe); (first | refine Na ?_ | refine Nb ?_)) | ((first | apply Ca | (apply Cb; (· exact nxE))); (· first | exact Nx N7 rfl rfl rfl rfl rfl | exact Nx N8 rfl rfl rfl rfl rfl | exact Kx K9 rfl rfl rfl rfl rfl rfl (by decide) | exact Ok.bs3 rfl rfl rfl rfl rfl | exact Ok.st1 (i := 0) rfl rfl (congrArg (Option.map (dobj 1)) hrw) (by rw [hrl]; exact hpos.2) (by rw [hcell]; rfl) rfl rfl IR_set | exact Ok.append1 (row := [DI 0]) rfl rfl (by decide) rfl (congrArg (Option.map (dobj 1)) hrw) hrl rfl rfl rfl (by rfl) (by omega) (by omega) | exact Ok.stT (i := 0) rfl rfl rfl (by rw [htF]; omega) rfl | exact Ok.e0); (first | refine Nc ?_ | refine Nd ?_)) | refine Oa ?_ | refine Ob ?_ | ((first | refine Ga (fun h => ?_) (fun h => ?_) | refine AD.gsplit rfl rfl (fun h => ?_) (fun h => ?_)) <;> try (exfalso; omega; done)) | (first | refine AL.gsplitB rfl rfl (fun h => ?_) (fun h => ?_) | refine AD.gsplitB rfl rfl (fun h => ?_) (fun h => ?_)) | refine Fa ?_ | refine Qb ?_ | refine Qc ?_ | refine Qd ?_ | refine Fb ?_ | refine Qe ?_ | refine Wa ?_ | refine Wb ?_ | (refine AW.ite rfl (fun h => ?_) (fun h => ?_) <;> try (exfalso; omega; done)) | refine AW.cond _ rfl (fun h => ?_) (fun h => ?_) | refine Qf ?_ | refine Qg ?_ | refine Qh ?_ | refine Qi ?_ | refine Xa ?_ | refine Xb ?_ | refine Xc ?_ | refine Xd ?_ | refine Fc ?_)
      · rw [if_pos (by assumption)]
        refine Yb ?_
        (apply Le.headZ (hs := [(⟨0, []⟩, ⟨0, []⟩, _)]) [⟨0, []⟩] rfl)
        all_goals (try dsimp only [srcs])
        (case' hfr | hob => (repeat' (first | refine La ?_ ?_ | refine ARs.agg ?_ | refine ARs.tup ?_ | (exact AR.tabM (l := ⟨3, []⟩) (MI.ok_set (H' := H0) (i := 0) (r := IR ((rowF i (F2 0)).set 0 b)) (tabF_set (fun a b _ _ => rfl)) (fun x hx => by rw [hrw] at hx; cases hx; simp) rfl (fun j x hx hne => upd_at hne (congrArg (Option.map (dobj 1)) hx)) (fun _ => rfl)) (by rw [TR_len, tabF_len]) (by decide) (by intro j; simp [Loc.at, relo])) | refine La ?_ ?_ | exact Lc | refine Lo ?_ | refine ⟨⟨_, rfl, ?_⟩, ?_⟩ | refine ObA.box ?_ | refine ObA.frE ?_ | refine ObA.dataE ?_ | refine ARs.agg ?_ | refine ARs.tup ?_ | refine AR.b ?_ | refine AR.iE ?_ | refine AR.e ?_ | refine AR.clo' ARs.nil ?_)))
        all_goals (first | exact Ld | exact trivial | (exact AR.tabM (l := ⟨3, []⟩) (MI.ok_set (H' := H0) (i := 0) (r := IR ((rowF i (F2 0)).set 0 b)) (tabF_set (fun a b _ _ => rfl)) (fun x hx => by rw [hrw] at hx; cases hx; simp) rfl (fun j x hx hne => upd_at hne (congrArg (Option.map (dobj 1)) hx)) (fun _ => rfl)) (by rw [TR_len, tabF_len]) (by decide) (by intro j; simp [Loc.at, relo])))
      · rw [if_neg (by assumption), if_pos (by assumption)]
        refine Yb ?_
        (apply Le.headZ (hs := [(⟨0, []⟩, ⟨0, []⟩, _)]) [⟨0, []⟩] rfl)
        all_goals (try dsimp only [srcs])
        (case' hfr | hob => (repeat' (first | refine La ?_ ?_ | refine ARs.agg ?_ | refine ARs.tup ?_ | (exact AR.tabA (l := ⟨3, []⟩) (e := ⟨928, []⟩) (R := TR (tabF w i F2)) (r := IR (rowF i (F2 0)) ++ [[DI 0]]) rfl rfl (by simp [rowF_len]) (fun j x hj hx => upd_at (by omega) (congrArg (Option.map (dobj 1)) hx)) (by simp) (by rw [htF]; exact hpos.1) htF (by decide) (by decide) (by intro j; simp [Loc.at, relo])) | refine La ?_ ?_ | exact Lc | refine Lo ?_ | refine ⟨⟨_, rfl, ?_⟩, ?_⟩ | refine ObA.box ?_ | refine ObA.frE ?_ | refine ObA.dataE ?_ | refine ARs.agg ?_ | refine ARs.tup ?_ | refine AR.b ?_ | refine AR.iE ?_ | refine AR.e ?_ | refine AR.clo' ARs.nil ?_)))
        all_goals (first | exact Ld | exact trivial | (exact AR.tabA (l := ⟨3, []⟩) (e := ⟨928, []⟩) (R := TR (tabF w i F2)) (r := IR (rowF i (F2 0)) ++ [[DI 0]]) rfl rfl (by simp [rowF_len]) (fun j x hj hx => upd_at (by omega) (congrArg (Option.map (dobj 1)) hx)) (by simp) (by rw [htF]; exact hpos.1) htF (by decide) (by decide) (by intro j; simp [Loc.at, relo])))
      · rw [if_neg (by assumption), if_neg (by assumption)]
        refine Yb ?_
        (apply Le.headZ (hs := [(⟨0, []⟩, ⟨0, []⟩, _)]) [⟨0, []⟩] rfl)
        all_goals (try dsimp only [srcs])
        (case' hfr | hob => (repeat' (first | refine La ?_ ?_ | refine ARs.agg ?_ | refine ARs.tup ?_ | (exact AR.tab ⟨rfl, fun u x hx => congrArg (Option.map (dobj 1)) hx⟩ htF (by decide) (by intro j; simp [Loc.at, relo])) | refine La ?_ ?_ | exact Lc | refine Lo ?_ | refine ⟨⟨_, rfl, ?_⟩, ?_⟩ | refine ObA.box ?_ | refine ObA.frE ?_ | refine ObA.dataE ?_ | refine ARs.agg ?_ | refine ARs.tup ?_ | refine AR.b ?_ | refine AR.iE ?_ | refine AR.e ?_ | refine AR.clo' ARs.nil ?_)))
        all_goals (first | exact Ld | exact trivial | (exact AR.tab ⟨rfl, fun u x hx => congrArg (Option.map (dobj 1)) hx⟩ htF (by decide) (by intro j; simp [Loc.at, relo])))
    · rw [if_neg hpos]
      have htF : (TR (tabF w i F2)).length = w := by rw [TR_len, tabF_len]
      by_cases hv0 : 0 < w
      · have hrw := TRF_get (n := i) (f := F2) hv0
        have hrl : (IR (rowF i (F2 0))).length = i := by rw [IR_len, rowF_len]
        repeat' (first | refine Qa ?_ | ((first | apply Ba | (apply Bb; (· rfl); (· rfl)) | (apply Bc; (· exact nxE)) | (apply Bd; (· rfl); (· rfl); (· exact nxE))); (· first | exact Ok.ldTj (i := 0) rfl rfl rfl hrw hrl rfl | exact Nx N7 rfl rfl rfl rfl rfl | exact Ok.pe); (first | refine Na ?_ | refine Nb ?_)) | ((first | apply Ca | (apply Cb; (· exact nxE))); (· first | exact Nx N7 rfl rfl rfl rfl rfl | exact Ok.e0); (first | refine Nc ?_ | refine Nd ?_)) | refine Oa ?_ | refine Ob ?_ | ((first | refine Ga (fun h => ?_) (fun h => ?_) | refine AD.gsplit rfl rfl (fun h => ?_) (fun h => ?_)) <;> try (exfalso; omega; done)) | (first | refine AL.gsplitB rfl rfl (fun h => ?_) (fun h => ?_) | refine AD.gsplitB rfl rfl (fun h => ?_) (fun h => ?_)) | refine Fa ?_ | refine Qb ?_ | refine Qc ?_ | refine Qd ?_ | refine Fb ?_ | refine Qe ?_ | refine Wa ?_ | refine Wb ?_ | (refine AW.ite rfl (fun h => ?_) (fun h => ?_) <;> try (exfalso; omega; done)) | refine AW.cond _ rfl (fun h => ?_) (fun h => ?_) | refine Qf ?_ | refine Qg ?_ | refine Qh ?_ | refine Qi ?_ | refine Xa ?_ | refine Xb ?_ | refine Xc ?_ | refine Xd ?_ | refine Fc ?_)
        refine Yb ?_
        (apply Le.headZ (hs := [(⟨0, []⟩, ⟨0, []⟩, _)]) [⟨0, []⟩] rfl)
        all_goals (try dsimp only [srcs])
        (case' hfr | hob => (repeat' (first | refine La ?_ ?_ | refine ARs.agg ?_ | refine ARs.tup ?_ | (exact AR.tab ⟨rfl, fun u x hx => congrArg (Option.map (dobj 1)) hx⟩ htF (by decide) (by intro j; simp [Loc.at, relo])) | refine La ?_ ?_ | exact Lc | refine Lo ?_ | refine ⟨⟨_, rfl, ?_⟩, ?_⟩ | refine ObA.box ?_ | refine ObA.frE ?_ | refine ObA.dataE ?_ | refine ARs.agg ?_ | refine ARs.tup ?_ | refine AR.b ?_ | refine AR.iE ?_ | refine AR.e ?_ | refine AR.clo' ARs.nil ?_)))
        all_goals (first | exact Ld | exact trivial | (exact AR.tab ⟨rfl, fun u x hx => congrArg (Option.map (dobj 1)) hx⟩ htF (by decide) (by intro j; simp [Loc.at, relo])))
      · 
        repeat' (first | refine Qa ?_ | ((first | apply Ba | (apply Bb; (· rfl); (· rfl)) | (apply Bc; (· exact nxE)) | (apply Bd; (· rfl); (· rfl); (· exact nxE))); (· first | exact Nx N7 rfl rfl rfl rfl rfl | exact Ok.pe); (first | refine Na ?_ | refine Nb ?_)) | ((first | apply Ca | (apply Cb; (· exact nxE))); (· first | exact Nx N7 rfl rfl rfl rfl rfl | exact Ok.e0); (first | refine Nc ?_ | refine Nd ?_)) | refine Oa ?_ | refine Ob ?_ | ((first | refine Ga (fun h => ?_) (fun h => ?_) | refine AD.gsplit rfl rfl (fun h => ?_) (fun h => ?_)) <;> try (exfalso; omega; done)) | (first | refine AL.gsplitB rfl rfl (fun h => ?_) (fun h => ?_) | refine AD.gsplitB rfl rfl (fun h => ?_) (fun h => ?_)) | refine Fa ?_ | refine Qb ?_ | refine Qc ?_ | refine Qd ?_ | refine Fb ?_ | refine Qe ?_ | refine Wa ?_ | refine Wb ?_ | (refine AW.ite rfl (fun h => ?_) (fun h => ?_) <;> try (exfalso; omega; done)) | refine AW.cond _ rfl (fun h => ?_) (fun h => ?_) | refine Qf ?_ | refine Qg ?_ | refine Qh ?_ | refine Qi ?_ | refine Xa ?_ | refine Xb ?_ | refine Xc ?_ | refine Xd ?_ | refine Fc ?_)
        refine Yb ?_
        (apply Le.headZ (hs := [(⟨0, []⟩, ⟨0, []⟩, _)]) [⟨0, []⟩] rfl)
        all_goals (try dsimp only [srcs])
        (case' hfr | hob => (repeat' (first | refine La ?_ ?_ | refine ARs.agg ?_ | refine ARs.tup ?_ | (exact AR.tab ⟨rfl, fun u x hx => congrArg (Option.map (dobj 1)) hx⟩ htF (by decide) (by intro j; simp [Loc.at, relo])) | refine La ?_ ?_ | exact Lc | refine Lo ?_ | refine ⟨⟨_, rfl, ?_⟩, ?_⟩ | refine ObA.box ?_ | refine ObA.frE ?_ | refine ObA.dataE ?_ | refine ARs.agg ?_ | refine ARs.tup ?_ | refine AR.b ?_ | refine AR.iE ?_ | refine AR.e ?_ | refine AR.clo' ARs.nil ?_)))
        all_goals (first | exact Ld | exact trivial | (exact AR.tab ⟨rfl, fun u x hx => congrArg (Option.map (dobj 1)) hx⟩ htF (by decide) (by intro j; simp [Loc.at, relo])))
end Go.Proofs.Ytegfjedklebbfaa
