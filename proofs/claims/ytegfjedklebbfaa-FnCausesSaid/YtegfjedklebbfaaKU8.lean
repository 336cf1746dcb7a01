/-
  Walks in the abstract reading, part 8.
-/
import Derived.Test.YtegfjedklebbfaaKU7
import Derived.Test.YtegfjedklebbfaaKA3
import Derived.Test.YtegfjedklebbfaaKU6
section
namespace Go.Proofs.Ytegfjedklebbfaa
set_option linter.unusedSimpArgs false
set_option linter.unusedVariables false
open Go Go.RowKit
attribute [local irreducible] AL AD AW OpOk Le AC thenQ blockQ EndQ

section
variable {P : Program} {o : Oper} {A : Operand → AV} {H : Heap} {new : Nat}
theorem Ok.bs4 {t e : TypeId} {k b : Nat} {z : Value} {x y w v : Operand} {n1 n2 n3 n4 : Int} (ho : o.op = .buildSlice t 4 #[(0, x), (1, y), (2, w), (3, v)]) [h : TySlice P t e k b z] (hx : A x = I n1) (hy : A y = I n2) (hw : A w = I n3) (hv : A v = I n4) (hk : k = 1) :
    OpOk P o A [] H new (.own k ⟨new, []⟩ 0 4) [.one ⟨new, []⟩ (some (IO [n1, n2, n3, n4]))] := by
  subst hk
  have := OpOk.buildSlice (P := P) (H := H) (new := new) (A := A) [x, y, w, v] ho rfl rfl (by decide) (by intro p hp; simp at hp; rcases hp with rfl | rfl | rfl | rfl <;> simp only [hx, hy, hw, hv] <;> rfl) (by intro p hp; simp at hp; rcases hp with rfl | rfl | rfl | rfl <;> simp only [hx, hy, hw, hv] <;> rfl)
  simpa [hx, hy, hw, hv, AV.cells, dobj] using this
/-- A draw that hands back data. -/
theorem Zx {fo x : Operand} {xs : List Operand} {ts : Array TypeId} {f : FuncId} {code : List Int} {s s' : Src} {args : List AV} {res : AV} (hc : AC P f (Bx 3 0 :: args) (srcH code s) res (srcH code s')) (ho : o.op = .call { callee := .value fo, args := (x :: xs).toArray, argTypes := ts }) [FnBody P f] (hfo : A fo = .clo (.func f) [] [])
    (hx : A x = Bx 3 0) (hl : H ⟨0, []⟩ = some (srcO code s)) (hy : ARs H (fun _ => False) (fun _ => ⟨0, []⟩) (· = ⟨0, []⟩) args (xs.map A)) (hres : ∀ g, rn g res = res) : OpOk P o A [⟨0, []⟩] H new res [.one ⟨0, []⟩ (some (srcO code s'))] :=
  OpOk.callMg ho hfo hc hl hres (by
    rw [List.append_nil]
    show ARs _ _ _ _ _ (A x :: xs.map A)
    rw [hx]; exact .cons (AR.ptr 3 ⟨0, []⟩ 0 0 rfl) hy)
/-- A draw that hands back a graph of its own. -/
theorem Gx {fo x : Operand} {ts : Array TypeId} {f : FuncId} {code : List Int} {s s' : Src} {ev : Int} {n : Nat} {ys : List Pl} (hc : AC P f [Bx 3 0] (srcH code s) (.agg [I ev, .own 4 ⟨1, []⟩ 0 n]) (heapL [(⟨0, []⟩, ⟨0, []⟩, srcO code s'), (⟨1, []⟩, ⟨1, []⟩, PO ys)])) (ho : o.op = .call { callee := .value fo, args := #[x], argTypes := ts }) [FnBody P f] (hfo : A fo = .clo (.func f) [] [])
    (hx : A x = Bx 3 0) (hl : H ⟨0, []⟩ = some (srcO code s)) : OpOk P o A [⟨0, []⟩] H new (.agg [I ev, .own 4 ⟨new, [1]⟩ 0 n]) [.all new (fun sub => heapX [(⟨new, [1]⟩, ⟨new, [1]⟩, PO ys)] [] ⟨new, sub⟩), .one ⟨0, []⟩ (some (srcO code s'))] :=
  OpOk.callMX (xs := [x]) [(⟨1, []⟩, ⟨1, []⟩, PO ys)] [] ho hfo hc hl (by
    show ARs _ _ _ _ _ [A x]
    rw [hx]; exact .cons (AR.ptr 3 ⟨0, []⟩ 0 0 rfl) .nil) ⟨⟨fun g => rnO_dobj _ _ _, by simp⟩, trivial⟩ trivial (by
    simp only [rn, List.map_cons, List.map_nil]
    rw [emb_one (by decide)]; rfl)
end
theorem l11DrawZ_ac (code : List Int) (hc : CodeOk code) (s : Src) (hs : SrcOk code s) : AC Try.prog 158 [Bx 3 0] (srcH code s) (grD (dr11 code s).ev (dr11 code s).xs) (srcH code (dr11 code s).s) :=
  (l11Draw_ac code hc s hs).frzS rfl (ARs.agg (.cons (.dd _) (.cons (AR.whole rfl (by simp) (List.length_map _)) .nil)))
/-! ### A graph, sometimes with a dead cycle -/
def zeroK (xs : List Pl) (i : Nat) : List Pl := xs.set i ⟨(plA xs i).f, (plA xs i).t, (plA xs i).d, 0⟩
def d12 (code : List Int) (q : RSt) : Nat → RSt
  | 0 => q
  | k + 1 => ((nxt code (d12 code q k).1 12).2, if (nxt code (d12 code q k).1 12).1 = 0 then zeroK (d12 code q k).2 k else (d12 code q k).2)
theorem plA_mem {xs : List Pl} {i : Nat} (h : i < xs.length) : plA xs i ∈ xs := by
  rw [plA_get (List.getElem?_eq_getElem h)]; exact List.getElem_mem _
theorem d12_ok {code : List Int} (hc : CodeOk code) {q : RSt} {m : Nat} (h : RStOk code m q) : ∀ k, RStOk code m (d12 code q k) ∧ (d12 code q k).2.length = q.2.length
  | 0 => ⟨h, rfl⟩
  | k + 1 => by
    obtain ⟨⟨h1, h2, h3⟩, h4⟩ := d12_ok hc h k
    obtain ⟨z1, z2, z3⟩ := nxt_ok hc h1 12
    refine ⟨⟨z3, fun p hp => ?_, ?_⟩, ?_⟩
    · simp only [d12] at hp
      split at hp
      · by_cases hk : k < (d12 code q k).2.length
        · rcases List.mem_or_eq_of_mem_set hp with hp | rfl
          · exact h2 p hp
          · have := h2 _ (plA_mem hk)
            exact ⟨this.f, this.t, this.d, by simp⟩
        · rw [zeroK, List.set_eq_of_length_le (by omega)] at hp; exact h2 p hp
      · exact h2 p hp
    · simp only [d12]; split
      · rw [zeroK, List.length_set]; exact h3
      · exact h3
    · simp only [d12]; split
      · rw [zeroK, List.length_set]; exact h4
      · exact h4
def dr12 (code : List Int) (s : Src) : DrG :=
  let g := dr11 code s
  ⟨g.ev, (d12 code (g.s, g.xs) (min g.xs.length 9)).2, (d12 code (g.s, g.xs) (min g.xs.length 9)).1⟩
theorem DrOk.st {code : List Int} {g : DrG} (h : DrOk code g) : RStOk code 40 (g.s, g.xs) := ⟨h.s, h.xs, h.len⟩
theorem dr12_ok {code : List Int} (hc : CodeOk code) {s : Src} (hs : SrcOk code s) : DrOk code (dr12 code s) := by
  have h := dr11_ok hc hs
  have h2 := (d12_ok hc h.st (min (dr11 code s).xs.length 9)).1
  exact ⟨h.ev, h2.xs, h2.len, h2.s⟩
set_option maxHeartbeats 2000000 in
theorem l12Draw_ac (code : List Int) (hc : CodeOk code) (s : Src) (hs : SrcOk code s) : AC Try.prog 165 [Bx 3 0] (srcH code s) (.agg [I (dr12 code s).ev, .own 4 ⟨1, []⟩ 0 (dr12 code s).xs.length]) (heapL [(⟨0, []⟩, ⟨0, []⟩, srcO code (dr12 code s).s), (⟨1, []⟩, ⟨1, []⟩, PO (dr12 code s).xs)]) := by
  have hG := l11Draw_ac code hc s hs
  have hok := dr11_ok hc hs
  unfold dr12
  generalize dr11 code s = g at *
  obtain ⟨ev, xs, s1⟩ := g
  have hst := hok.st
  obtain ⟨_, _, hl, _⟩ := hok
  simp only at *
  show AC _ _ _ (heapL [(⟨0, []⟩, ⟨0, []⟩, srcO code s)]) _ _
  refine AC.of_body 1 Try.func165 rfl (fun l h => by simp [heapL, upd] at h; simp [h]) (fun C hC => ?_)
  simp only [startFr, Try.ntmps165, List.length_cons, List.length_nil, Nat.reduceAdd, Nat.reduceSub, List.replicate_succ, List.replicate_zero, List.cons_append, List.nil_append]
  have hD : ∀ l, C.D0 l → l = ⟨0, []⟩ := fun l h => by have := (hC l).1 h; simp [heapL, upd] at this; exact this
  repeat' (first | refine Qa ?_ | ((first | apply Ba | (apply Bb; (· rfl); (· rfl)) | (apply Bc; (· exact nxE)) | (apply Bd; (· rfl); (· rfl); (· exact nxE))); (· first | exact Gx hG rfl rfl rfl rfl | exact Ok.pe); (first | refine Na ?_ | refine Nb ?_)) | ((first | apply Ca | (apply Cb; (· exact nxE))); (· first | exact Gx hG rfl rfl rfl rfl | exact Ok.e0); (first | refine Nc ?_ | refine Nd ?_)) | refine Oa ?_ | refine Ob ?_ | ((first | refine Ga (fun h => ?_) (fun h => ?_) | refine AD.gsplit rfl rfl (fun h => ?_) (fun h => ?_)) <;> try (exfalso; omega; done)) | (first | refine AL.gsplitB rfl rfl (fun h => ?_) (fun h => ?_) | refine AD.gsplitB rfl rfl (fun h => ?_) (fun h => ?_)) | refine Fa ?_ | refine Qb ?_ | refine Qc ?_ | refine Qd ?_ | refine Fb ?_ | refine Qe ?_ | refine Wa ?_ | refine Wb ?_ | (refine AW.ite rfl (fun h => ?_) (fun h => ?_) <;> try (exfalso; omega; done)) | refine AW.cond _ rfl (fun h => ?_) (fun h => ?_) | refine Qf ?_ | refine Qg ?_ | refine Qh ?_ | refine Qi ?_ | refine Xa ?_ | refine Xb ?_ | refine Xc ?_ | refine Xd ?_ | refine Fc ?_)
  refine AW.loop (X := {k : Nat // k ≤ min xs.length 9}) (fun k => ⟨[Bx 3 0, Oo, Bx 2 1, Bx 2 2, I (k.1 : Nat), Oo, Oo, Oo, Oo, Oo, Oo, Oo, Oo, Oo, Oo, Oo, Oo, Oo, Oo, Oo, Oo, Oo, Oo, Oo, Oo, Oo, Oo], heapL [(⟨0, []⟩, ⟨0, []⟩, srcO code (d12 code (s1, xs) k.1).1), (⟨1, []⟩, ⟨1, []⟩, ⟨2, [[I 0, nilS]]⟩), (⟨2, []⟩, ⟨2, []⟩, ⟨2, [[I ev, .own 4 ⟨3, []⟩ 0 xs.length]]⟩), (⟨3, []⟩, ⟨3, []⟩, PO (d12 code (s1, xs) k.1).2)], 900⟩) (fun k => min xs.length 9 - k.1) ⟨0, Nat.zero_le _⟩ ?_ (fun k => ?_)
  ·
    (apply Le.headZ [_, _, _, _] rfl)
    all_goals (try dsimp only [srcs])
    (case' hfr | hob => (repeat' (first | refine La ?_ ?_ | exact Lc | refine Lo ?_ | refine ⟨⟨_, rfl, ?_⟩, ?_⟩ | refine ObA.box ?_ | refine ObA.frE ?_ | refine ObA.dataE ?_ | refine ARs.agg ?_ | refine ARs.tup ?_ | refine AR.b ?_ | refine AR.iE ?_ | refine AR.e ?_ | refine AR.clo' ARs.nil ?_)))
    all_goals (first | (rfl) | exact Ld)
  obtain ⟨k, hk⟩ := k
  simp only
  have hI := d12_ok hc hst k
  by_cases hlt : k < min xs.length 9
  · have hstep : d12 code (s1, xs) (k + 1) = ((nxt code (d12 code (s1, xs) k).1 12).2, if (nxt code (d12 code (s1, xs) k).1 12).1 = 0 then zeroK (d12 code (s1, xs) k).2 k else (d12 code (s1, xs) k).2) := rfl
    generalize d12 code (s1, xs) k = q at *
    obtain ⟨s3, ys⟩ := q
    obtain ⟨⟨i1, i2, i3⟩, i4⟩ := hI
    simp only at *
    obtain ⟨z, s4, z1, z2, h4, q4, N4⟩ := next_ex hc i1 12
    rw [q4] at hstep
    simp only at hstep
    have hkk : k < ys.length := by omega
    have hr := ownPl_row hkk
    have hsP := ownPl_set (xs := ys) (i := k) (p := ⟨(plA ys k).f, (plA ys k).t, (plA ys k).d, 0⟩)
    have hzk : zeroK ys k = ys.set k ⟨(plA ys k).f, (plA ys k).t, (plA ys k).d, 0⟩ := rfl
    generalize plA ys k = p at *
    obtain ⟨pf, pt, pd, pk⟩ := p
    simp only at hr hsP hzk
    have hyl : (ys.map Pl.row).length = xs.length := by rw [List.length_map]; exact i4
    have hyl2 : (PO ys).rows.length = xs.length := by simp [dobj, i4]
    repeat' (first | refine Qa ?_ | ((first | apply Ba | (apply Bb; (· rfl); (· rfl)) | (apply Bc; (· exact nxE)) | (apply Bd; (· rfl); (· rfl); (· exact nxE))); (· first | exact Nx N4 rfl rfl rfl rfl rfl | exact Ok.storeC rfl rfl rfl rfl hr (by simp only [List.length_cons, List.length_nil, Nat.reduceAdd, Nat.reduceLT]) (by conv => lhs; whnf) (by rfl) (by rfl) hsP | exact Ok.pe); (first | refine Na ?_ | refine Nb ?_)) | ((first | apply Ca | (apply Cb; (· exact nxE))); (· first | exact Nx N4 rfl rfl rfl rfl rfl | exact Ok.storeC rfl rfl rfl rfl hr (by simp only [List.length_cons, List.length_nil, Nat.reduceAdd, Nat.reduceLT]) (by conv => lhs; whnf) (by rfl) (by rfl) hsP | exact Ok.e0); (first | refine Nc ?_ | refine Nd ?_)) | refine Oa ?_ | refine Ob ?_ | ((first | refine Ga (fun h => ?_) (fun h => ?_) | refine AD.gsplit rfl rfl (fun h => ?_) (fun h => ?_)) <;> try (exfalso; omega; done)) | (first | refine AL.gsplitB rfl rfl (fun h => ?_) (fun h => ?_) | refine AD.gsplitB rfl rfl (fun h => ?_) (fun h => ?_)) | refine Fa ?_ | refine Qb ?_ | refine Qc ?_ | refine Qd ?_ | refine Fb ?_ | refine Qe ?_ | refine Wa ?_ | refine Wb ?_ | (refine AW.ite rfl (fun h => ?_) (fun h => ?_) <;> try (exfalso; omega; done)) | refine AW.cond _ rfl (fun h => ?_) (fun h => ?_) | refine Qf ?_ | refine Qg ?_ | refine Qh ?_ | refine Qi ?_ | refine Xa ?_ | refine Xb ?_ | refine Xc ?_ | refine Xd ?_ | refine Fc ?_)
    all_goals
      refine ⟨⟨k + 1, by omega⟩, ?_, by simp only; omega⟩
      simp only [hstep]
      (apply Le.headZ [_, _, _, _] rfl)
      all_goals (try dsimp only [srcs])
      (case' hfr | hob => (repeat' (first | refine La ?_ ?_ | exact Lc | refine Lo ?_ | refine ⟨⟨_, rfl, ?_⟩, ?_⟩ | refine ObA.box ?_ | refine ObA.frE ?_ | refine ObA.dataE ?_ | refine ARs.agg ?_ | refine ARs.tup ?_ | refine AR.b ?_ | refine AR.iE ?_ | refine AR.e ?_ | refine AR.clo' ARs.nil ?_)))
      all_goals (first | (first | (rw [if_pos (by assumption), hzk]; rfl) | (rw [if_neg (by assumption)]; done) | (simp [*]; done)) | exact Ld)
  · obtain rfl : k = min xs.length 9 := by omega
    generalize d12 code (s1, xs) (min xs.length 9) = q at *
    obtain ⟨s3, ys⟩ := q
    obtain ⟨⟨i1, i2, i3⟩, i4⟩ := hI
    simp only at *
    repeat' (first | refine Qa ?_ | ((first | apply Ba | (apply Bb; (· rfl); (· rfl)) | (apply Bc; (· exact nxE)) | (apply Bd; (· rfl); (· rfl); (· exact nxE))); (· first | exact Ok.pe); (first | refine Na ?_ | refine Nb ?_)) | ((first | apply Ca | (apply Cb; (· exact nxE))); (· first | exact Ok.e0); (first | refine Nc ?_ | refine Nd ?_)) | refine Oa ?_ | refine Ob ?_ | ((first | refine Ga (fun h => ?_) (fun h => ?_) | refine AD.gsplit rfl rfl (fun h => ?_) (fun h => ?_)) <;> try (exfalso; omega; done)) | (first | refine AL.gsplitB rfl rfl (fun h => ?_) (fun h => ?_) | refine AD.gsplitB rfl rfl (fun h => ?_) (fun h => ?_)) | refine Fa ?_ | refine Qb ?_ | refine Qc ?_ | refine Qd ?_ | refine Fb ?_ | refine Qe ?_ | refine Wa ?_ | refine Wb ?_ | (refine AW.ite rfl (fun h => ?_) (fun h => ?_) <;> try (exfalso; omega; done)) | refine AW.cond _ rfl (fun h => ?_) (fun h => ?_) | refine Qf ?_ | refine Qg ?_ | refine Qh ?_ | refine Qi ?_ | refine Xa ?_ | refine Xb ?_ | refine Xc ?_ | refine Xd ?_ | refine Fc ?_)
    all_goals
      refine Ya ?_
      (apply Le.head [(⟨0, []⟩, ⟨0, []⟩, srcO code s3), (⟨1, []⟩, ⟨3, []⟩, PO ys)])
      (case' hfr | hob => (repeat' (first | refine La ?_ ?_ | exact Lc | refine Lo ?_ | refine ⟨⟨_, rfl, ?_⟩, ?_⟩ | refine ObA.box ?_ | refine ObA.frE ?_ | refine ObA.dataE ?_ | refine ARs.agg ?_ | refine ARs.tup ?_ | refine AR.b ?_ | refine AR.iE ?_ | refine AR.e ?_ | refine AR.clo' ARs.nil ?_)))
      all_goals (first | exact Ld | (first | exact i4 | (simp [*]; done)))
theorem l12DrawZ_ac (code : List Int) (hc : CodeOk code) (s : Src) (hs : SrcOk code s) : AC Try.prog 165 [Bx 3 0] (srcH code s) (grD (dr12 code s).ev (dr12 code s).xs) (srcH code (dr12 code s).s) :=
  (l12Draw_ac code hc s hs).frzS rfl (ARs.agg (.cons (.dd _) (.cons (AR.whole rfl (by simp) (List.length_map _)) .nil)))
def dr13 (code : List Int) (s : Src) : DrG × Int :=
  let g := dr11 code s
  let a := nxt code g.s 20
  let g2 : DrG := if a.1 = 0 then dr12 code a.2 else ⟨g.ev, g.xs, a.2⟩
  let b := nxt code g2.s 24
  if b.1 = 0 then (⟨g2.ev, g2.xs, (nxt code b.2 4).2⟩, pick code b.2 [-1, 0, 50, 51]) else (⟨g2.ev, g2.xs, (nxt code b.2 9).2⟩, (nxt code b.2 9).1)
theorem dr13_ok {code : List Int} (hc : CodeOk code) {s : Src} (hs : SrcOk code s) : DrOk code (dr13 code s).1 ∧ -1 ≤ (dr13 code s).2 ∧ (dr13 code s).2 ≤ 51 := by
  have h := dr11_ok hc hs
  obtain ⟨a1, a2, a3⟩ := nxt_ok hc h.s 20
  have hg : DrOk code (if (nxt code (dr11 code s).s 20).1 = 0 then dr12 code (nxt code (dr11 code s).s 20).2 else ⟨(dr11 code s).ev, (dr11 code s).xs, (nxt code (dr11 code s).s 20).2⟩) := by
    split
    · exact dr12_ok hc a3
    · exact ⟨h.ev, h.xs, h.len, a3⟩
  unfold dr13
  simp only
  generalize (if (nxt code (dr11 code s).s 20).1 = 0 then dr12 code (nxt code (dr11 code s).s 20).2 else (⟨(dr11 code s).ev, (dr11 code s).xs, (nxt code (dr11 code s).s 20).2⟩ : DrG)) = g2 at *
  obtain ⟨b1, b2, b3⟩ := nxt_ok hc hg.s 24
  obtain ⟨c1, c2, c3⟩ := nxt_ok hc b3 4
  obtain ⟨d1, d2, d3⟩ := nxt_ok hc b3 9
  split
  · have := pick_mem hc b3 (xs := [-1, 0, 50, 51]) (by simp)
    simp at this
    exact ⟨⟨hg.ev, hg.xs, hg.len, c3⟩, by simp only; omega, by simp only; omega⟩
  · exact ⟨⟨hg.ev, hg.xs, hg.len, d3⟩, by simp only; omega, by simp only; omega⟩
set_option maxHeartbeats 2000000 in
theorem l13Draw_ac (code : List Int) (hc : CodeOk code) (s : Src) (hs : SrcOk code s) : AC Try.prog 222 [Bx 3 0] (srcH code s) (.tup [grD (dr13 code s).1.ev (dr13 code s).1.xs, I (dr13 code s).2]) (srcH code (dr13 code s).1.s) := by
  have hG := l11DrawZ_ac code hc s hs
  have hok := (dr11_ok hc hs).s
  unfold dr13
  generalize dr11 code s = g at *
  obtain ⟨ev, xs, s1⟩ := g
  simp only at *
  obtain ⟨a, s2, a1, a2, h2, q2, N2⟩ := next_ex hc hok 20
  rw [q2]; simp only
  have hG2 := l12DrawZ_ac code hc s2 h2
  have hok2 := (dr12_ok hc h2).s
  generalize dr12 code s2 = g2 at *
  obtain ⟨ev2, xs2, s3⟩ := g2
  simp only at *
  obtain ⟨b, s4, b1, b2, h4, q4, N4⟩ := next_ex hc h2 24
  obtain ⟨c, s5, c1, c2, h5, q5, N5⟩ := next_ex hc hok2 24
  obtain ⟨v6, s6, _, h6, p6, q6, K6⟩ := pick_ex hc h4 [-1, 0, 50, 51] 4 rfl
  obtain ⟨v7, s7, _, h7, p7, q7, K7⟩ := pick_ex hc h5 [-1, 0, 50, 51] 4 rfl
  obtain ⟨d, s8, d1, d2, h8, q8, N8⟩ := next_ex hc h4 9
  obtain ⟨f, s9, f1, f2, h9, q9, N9⟩ := next_ex hc h5 9
  show AC _ _ _ (heapL [(⟨0, []⟩, ⟨0, []⟩, srcO code s)]) _ _
  by_cases ha : a = 0
  · simp only [if_pos ha, q5, p7, q7, q9]
    refine AC.of_body 1 Try.func222 rfl (fun l h => by simp [heapL, upd] at h; simp [h]) (fun C hC => ?_)
    simp only [startFr, Try.ntmps222, List.length_cons, List.length_nil, Nat.reduceAdd, Nat.reduceSub, List.replicate_succ, List.replicate_zero, List.cons_append, List.nil_append]
    have hD : ∀ l, C.D0 l → l = ⟨0, []⟩ := fun l h => by have := (hC l).1 h; simp [heapL, upd] at this; exact this
    repeat' (first | refine Qa ?_ | ((first | apply Ba | (apply Bb; (· rfl); (· rfl)) | (apply Bc; (· exact nxE)) | (apply Bd; (· rfl); (· rfl); (· exact nxE))); (· first | exact Zx (args := []) hG rfl rfl rfl rfl .nil (fun _ => by simp [rn]) | exact Zx (args := []) hG2 rfl rfl rfl rfl .nil (fun _ => by simp [rn]) | exact Nx N2 rfl rfl rfl rfl rfl | exact Nx N5 rfl rfl rfl rfl rfl | exact Nx N9 rfl rfl rfl rfl rfl | exact Kx K7 rfl rfl rfl rfl rfl rfl (by decide) | exact Ok.bs4 rfl rfl rfl rfl rfl rfl | exact Ok.pe); (first | refine Na ?_ | refine Nb ?_)) | ((first | apply Ca | (apply Cb; (· exact nxE))); (· first | exact Zx (args := []) hG rfl rfl rfl rfl .nil (fun _ => by simp [rn]) | exact Zx (args := []) hG2 rfl rfl rfl rfl .nil (fun _ => by simp [rn]) | exact Nx N2 rfl rfl rfl rfl rfl | exact Nx N5 rfl rfl rfl rfl rfl | exact Nx N9 rfl rfl rfl rfl rfl | exact Kx K7 rfl rfl rfl rfl rfl rfl (by decide) | exact Ok.bs4 rfl rfl rfl rfl rfl rfl | exact Ok.e0); (first | refine Nc ?_ | refine Nd ?_)) | refine Oa ?_ | refine Ob ?_ | ((first | refine Ga (fun h => ?_) (fun h => ?_) | refine AD.gsplit rfl rfl (fun h => ?_) (fun h => ?_)) <;> try (exfalso; omega; done)) | (first | refine AL.gsplitB rfl rfl (fun h => ?_) (fun h => ?_) | refine AD.gsplitB rfl rfl (fun h => ?_) (fun h => ?_)) | refine Fa ?_ | refine Qb ?_ | refine Qc ?_ | refine Qd ?_ | refine Fb ?_ | refine Qe ?_ | refine Wa ?_ | refine Wb ?_ | (refine AW.ite rfl (fun h => ?_) (fun h => ?_) <;> try (exfalso; omega; done)) | refine AW.cond _ rfl (fun h => ?_) (fun h => ?_) | refine Qf ?_ | refine Qg ?_ | refine Qh ?_ | refine Qi ?_ | refine Xa ?_ | refine Xb ?_ | refine Xc ?_ | refine Xd ?_ | refine Fc ?_)
    all_goals (first | rw [if_pos (by assumption)] | rw [if_neg (by assumption)])
    all_goals
      refine Yb ?_
      (apply Le.head [(⟨0, []⟩, ⟨0, []⟩, _)])
      (case' hfr | hob => (repeat' (first | refine La ?_ ?_ | exact Lc | refine Lo ?_ | refine ⟨⟨_, rfl, ?_⟩, ?_⟩ | refine ObA.box ?_ | refine ObA.frE ?_ | refine ObA.dataE ?_ | refine ARs.agg ?_ | refine ARs.tup ?_ | refine AR.b ?_ | refine AR.iE ?_ | refine AR.e ?_ | refine AR.clo' ARs.nil ?_)))
      all_goals (first | exact Ld | (rfl))
  · simp only [if_neg ha, q4, p6, q6, q8]
    refine AC.of_body 1 Try.func222 rfl (fun l h => by simp [heapL, upd] at h; simp [h]) (fun C hC => ?_)
    simp only [startFr, Try.ntmps222, List.length_cons, List.length_nil, Nat.reduceAdd, Nat.reduceSub, List.replicate_succ, List.replicate_zero, List.cons_append, List.nil_append]
    have hD : ∀ l, C.D0 l → l = ⟨0, []⟩ := fun l h => by have := (hC l).1 h; simp [heapL, upd] at this; exact this
    repeat' (first | refine Qa ?_ | ((first | apply Ba | (apply Bb; (· rfl); (· rfl)) | (apply Bc; (· exact nxE)) | (apply Bd; (· rfl); (· rfl); (· exact nxE))); (· first | exact Zx (args := []) hG rfl rfl rfl rfl .nil (fun _ => by simp [rn]) | exact Zx (args := []) hG2 rfl rfl rfl rfl .nil (fun _ => by simp [rn]) | exact Nx N2 rfl rfl rfl rfl rfl | exact Nx N4 rfl rfl rfl rfl rfl | exact Nx N8 rfl rfl rfl rfl rfl | exact Kx K6 rfl rfl rfl rfl rfl rfl (by decide) | exact Ok.bs4 rfl rfl rfl rfl rfl rfl | exact Ok.pe); (first | refine Na ?_ | refine Nb ?_)) | ((first | apply Ca | (apply Cb; (· exact nxE))); (· first | exact Zx (args := []) hG rfl rfl rfl rfl .nil (fun _ => by simp [rn]) | exact Zx (args := []) hG2 rfl rfl rfl rfl .nil (fun _ => by simp [rn]) | exact Nx N2 rfl rfl rfl rfl rfl | exact Nx N4 rfl rfl rfl rfl rfl | exact Nx N8 rfl rfl rfl rfl rfl | exact Kx K6 rfl rfl rfl rfl rfl rfl (by decide) | exact Ok.bs4 rfl rfl rfl rfl rfl rfl | exact Ok.e0); (first | refine Nc ?_ | refine Nd ?_)) | refine Oa ?_ | refine Ob ?_ | ((first | refine Ga (fun h => ?_) (fun h => ?_) | refine AD.gsplit rfl rfl (fun h => ?_) (fun h => ?_)) <;> try (exfalso; omega; done)) | (first | refine AL.gsplitB rfl rfl (fun h => ?_) (fun h => ?_) | refine AD.gsplitB rfl rfl (fun h => ?_) (fun h => ?_)) | refine Fa ?_ | refine Qb ?_ | refine Qc ?_ | refine Qd ?_ | refine Fb ?_ | refine Qe ?_ | refine Wa ?_ | refine Wb ?_ | (refine AW.ite rfl (fun h => ?_) (fun h => ?_) <;> try (exfalso; omega; done)) | refine AW.cond _ rfl (fun h => ?_) (fun h => ?_) | refine Qf ?_ | refine Qg ?_ | refine Qh ?_ | refine Qi ?_ | refine Xa ?_ | refine Xb ?_ | refine Xc ?_ | refine Xd ?_ | refine Fc ?_)
    all_goals (first | rw [if_pos (by assumption)] | rw [if_neg (by assumption)])
    all_goals
      refine Yb ?_
      (apply Le.head [(⟨0, []⟩, ⟨0, []⟩, _)])
      (case' hfr | hob => (repeat' (first | refine La ?_ ?_ | exact Lc | refine Lo ?_ | refine ⟨⟨_, rfl, ?_⟩, ?_⟩ | refine ObA.box ?_ | refine ObA.frE ?_ | refine ObA.dataE ?_ | refine ARs.agg ?_ | refine ARs.tup ?_ | refine AR.b ?_ | refine AR.iE ?_ | refine AR.e ?_ | refine AR.clo' ARs.nil ?_)))
      all_goals (first | exact Ld | (rfl))
end Go.Proofs.Ytegfjedklebbfaa
end

section
namespace Go.Proofs.Ytegfjedklebbfaa
set_option linter.unusedSimpArgs false
set_option linter.unusedVariables false
open Go Go.RowKit
attribute [local irreducible] AL AD AW OpOk Le AC thenQ blockQ EndQ

theorem alT_le {n : Nat} {t : List (List Int)} {r e : Nat} {xs : List Pl} {B : Int} (hB : 0 ≤ B) (hb : ∀ i j, entN t i j ≤ B) (hv : ∀ p ∈ xs, okPl n p) : 0 ≤ alT t r e xs ∧ alT t r e xs ≤ B + 10000 := alA_le hB hb (fun p hp => (hv p hp).2.2.1.2) _
end Go.Proofs.Ytegfjedklebbfaa
end

section
namespace Go.Proofs.Ytegfjedklebbfaa
set_option linter.unusedSimpArgs false
set_option linter.unusedVariables false
open Go Go.RowKit
attribute [local irreducible] AL AD AW OpOk Le AC thenQ blockQ EndQ

set_option maxHeartbeats 1000000 in
theorem l02Own_ac (t : List (List Int)) (hn : t.length ≤ 10000000) (hr : ∀ r ∈ t, r.length ≤ 100000000) : AC Try.prog 156 [TL t] H0 (own1 1 t.length) (hpM 1 (TR t)) := by
  refine AC.of_body 0 Try.func156 rfl (fun l h => absurd rfl h) (fun C hC => ?_)
  have hD : ∀ l, ¬ C.D0 l := fun l h => (hC l).1 h rfl
  simp only [startFr, Try.ntmps156, List.length_cons, List.length_nil, Nat.reduceAdd, Nat.reduceSub, List.replicate_succ, List.replicate_zero, List.cons_append, List.nil_append]
  repeat' (first | refine Qa ?_ | ((first | apply Ba | (apply Bb; (· rfl); (· rfl)) | (apply Bc; (· exact nxE)) | (apply Bd; (· rfl); (· rfl); (· exact nxE))); (· first | exact Ok.pe); (first | refine Na ?_ | refine Nb ?_)) | ((first | apply Ca | (apply Cb; (· exact nxE))); (· first | exact Ok.e0); (first | refine Nc ?_ | refine Nd ?_)) | refine Oa ?_ | refine Ob ?_ | ((first | refine Ga (fun h => ?_) (fun h => ?_) | refine AD.gsplit rfl rfl (fun h => ?_) (fun h => ?_)) <;> try (exfalso; omega; done)) | (first | refine AL.gsplitB rfl rfl (fun h => ?_) (fun h => ?_) | refine AD.gsplitB rfl rfl (fun h => ?_) (fun h => ?_)) | refine Fa ?_ | refine Qb ?_ | refine Qc ?_ | refine Qd ?_ | refine Fb ?_ | refine Qe ?_ | refine Wa ?_ | refine Wb ?_ | (refine AW.ite rfl (fun h => ?_) (fun h => ?_) <;> try (exfalso; omega; done)) | refine AW.cond _ rfl (fun h => ?_) (fun h => ?_) | refine Qf ?_ | refine Qg ?_ | refine Qh ?_ | refine Qi ?_ | refine Xa ?_ | refine Xb ?_ | refine Xc ?_ | refine Xd ?_ | refine Fc ?_)
  refine AW.loop (X := {k : Nat // k ≤ t.length}) (fun k => ⟨[TL t, Oo, Oo, .own 1 ⟨1, []⟩ 0 (k.1 : Nat), I (k.1 : Nat), Oo, Oo, Oo, Oo, Oo, Oo, Oo, Oo, Oo, Oo, Oo, Oo, Oo, Oo, Oo, Oo], heapX [] [mi1 ⟨1, []⟩ (TR (t.take k.1))], 900⟩) (fun k => t.length - k.1) ⟨0, Nat.zero_le _⟩ ?_ (fun k => ?_)
  ·
    (apply Le.headG [] [{ l := ⟨1, []⟩, k := 1, R := [], src := ⟨1, []⟩, base := ⟨1, []⟩ }] (fun _ => False))
    (case' hlen => rfl)
    (case' hms => rfl)
    all_goals (try dsimp only [srcs])
    (case' hfr | hob => (repeat' (first | refine La ?_ ?_ | exact Lc | refine Lo ?_ | refine ⟨⟨_, rfl, ?_⟩, ?_⟩ | refine ObA.box ?_ | refine ObA.frE ?_ | refine ObA.dataE ?_ | refine ARs.agg ?_ | refine ARs.tup ?_ | refine AR.b ?_ | refine AR.iE ?_ | refine AR.e ?_ | refine AR.clo' ARs.nil ?_)))
    (case' hok => first | exact ⟨MI.ok_same rfl (fun i x hx => by simp at hx), trivial⟩ | exact trivial)
    (case' hN => rfl)
    (case' hS => rfl)
    all_goals (first | exact Ld | (rfl))
  obtain ⟨k, hk⟩ := k
  simp only
  by_cases hlt : k < t.length
  · obtain ⟨r, hr1⟩ : ∃ r, t[k]? = some r := ⟨t[k], by simp⟩
    have hrow := TR_get hr1
    have htk : (TR (t.take k)).length = k := by simp; omega
    repeat' (first | refine Qa ?_ | ((first | apply Ba | (apply Bb; (· rfl); (· rfl)) | (apply Bc; (· exact nxE)) | (apply Bd; (· rfl); (· rfl); (· exact nxE))); (· first | exact Eo rfl rfl (l01Own_ac r (hr r (List.mem_of_getElem? hr1))) (Sd Sn) | exact Ok.appendT rfl rfl (by decide) rfl rfl rfl (by rw [outer_len, htk]; rfl) rfl rfl (by rfl) (by omega) (by omega) rfl | exact Ok.pe); (first | refine Na ?_ | refine Nb ?_)) | ((first | apply Ca | (apply Cb; (· exact nxE))); (· first | exact Eo rfl rfl (l01Own_ac r (hr r (List.mem_of_getElem? hr1))) (Sd Sn) | exact Ok.appendT rfl rfl (by decide) rfl rfl rfl (by rw [outer_len, htk]; rfl) rfl rfl (by rfl) (by omega) (by omega) rfl | exact Ok.e0); (first | refine Nc ?_ | refine Nd ?_)) | refine Oa ?_ | refine Ob ?_ | ((first | refine Ga (fun h => ?_) (fun h => ?_) | refine AD.gsplit rfl rfl (fun h => ?_) (fun h => ?_)) <;> try (exfalso; omega; done)) | (first | refine AL.gsplitB rfl rfl (fun h => ?_) (fun h => ?_) | refine AD.gsplitB rfl rfl (fun h => ?_) (fun h => ?_)) | refine Fa ?_ | refine Qb ?_ | refine Qc ?_ | refine Qd ?_ | refine Fb ?_ | refine Qe ?_ | refine Wa ?_ | refine Wb ?_ | (refine AW.ite rfl (fun h => ?_) (fun h => ?_) <;> try (exfalso; omega; done)) | refine AW.cond _ rfl (fun h => ?_) (fun h => ?_) | refine Qf ?_ | refine Qg ?_ | refine Qh ?_ | refine Qi ?_ | refine Xa ?_ | refine Xb ?_ | refine Xc ?_ | refine Xd ?_ | refine Fc ?_)
    refine ⟨⟨k + 1, by omega⟩, ?_, by simp only; omega⟩
    (apply Le.headG [] [{ l := ⟨1, []⟩, k := 1, R := TR (t.take (k + 1)), src := ⟨911, []⟩, base := ⟨1, []⟩, cut := k, ext := some ⟨909, [0]⟩ }] (fun _ => False))
    (case' hlen => rfl)
    (case' hms => rfl)
    all_goals (try dsimp only [srcs])
    (case' hfr | hob => (repeat' (first | refine La ?_ ?_ | exact Lc | refine Lo ?_ | refine ⟨⟨_, rfl, ?_⟩, ?_⟩ | refine ObA.box ?_ | refine ObA.frE ?_ | refine ObA.dataE ?_ | refine ARs.agg ?_ | refine ARs.tup ?_ | refine AR.b ?_ | refine AR.iE ?_ | refine AR.e ?_ | refine AR.clo' ARs.nil ?_)))
    (case' hok => first | exact ⟨MI.ok_app (TR_take hr1) htk IR_len rfl (Cg) rfl, trivial⟩ | exact trivial)
    (case' hN => rfl)
    (case' hS => rfl)
    all_goals (first | exact Ld | ((simp [AllP]; omega)))
  ·
    have hkn : k = t.length := by omega
    subst hkn
    rw [List.take_length]
    repeat' (first | refine Qa ?_ | ((first | apply Ba | (apply Bb; (· rfl); (· rfl)) | (apply Bc; (· exact nxE)) | (apply Bd; (· rfl); (· rfl); (· exact nxE))); (· first | exact Ok.pe); (first | refine Na ?_ | refine Nb ?_)) | ((first | apply Ca | (apply Cb; (· exact nxE))); (· first | exact Ok.e0); (first | refine Nc ?_ | refine Nd ?_)) | refine Oa ?_ | refine Ob ?_ | ((first | refine Ga (fun h => ?_) (fun h => ?_) | refine AD.gsplit rfl rfl (fun h => ?_) (fun h => ?_)) <;> try (exfalso; omega; done)) | (first | refine AL.gsplitB rfl rfl (fun h => ?_) (fun h => ?_) | refine AD.gsplitB rfl rfl (fun h => ?_) (fun h => ?_)) | refine Fa ?_ | refine Qb ?_ | refine Qc ?_ | refine Qd ?_ | refine Fb ?_ | refine Qe ?_ | refine Wa ?_ | refine Wb ?_ | (refine AW.ite rfl (fun h => ?_) (fun h => ?_) <;> try (exfalso; omega; done)) | refine AW.cond _ rfl (fun h => ?_) (fun h => ?_) | refine Qf ?_ | refine Qg ?_ | refine Qh ?_ | refine Qi ?_ | refine Xa ?_ | refine Xb ?_ | refine Xc ?_ | refine Xd ?_ | refine Fc ?_)
    refine Ya ?_
    (apply Le.headG [] [{ l := ⟨0, []⟩, k := 1, R := TR t, src := ⟨1, []⟩, base := ⟨1, []⟩ }] (fun _ => False))
    (case' hlen => rfl)
    (case' hms => rfl)
    all_goals (try dsimp only [srcs])
    (case' hfr | hob => (repeat' (first | refine La ?_ ?_ | exact Lc | refine Lo ?_ | refine ⟨⟨_, rfl, ?_⟩, ?_⟩ | refine ObA.box ?_ | refine ObA.frE ?_ | refine ObA.dataE ?_ | refine ARs.agg ?_ | refine ARs.tup ?_ | refine AR.b ?_ | refine AR.iE ?_ | refine AR.e ?_ | refine AR.clo' ARs.nil ?_)))
    (case' hok => first | exact ⟨MI.ok_same rfl (Cg), trivial⟩ | exact trivial)
    (case' hN => rfl)
    (case' hS => rfl)
    all_goals (first | exact Ld | (rfl))
end Go.Proofs.Ytegfjedklebbfaa
end
