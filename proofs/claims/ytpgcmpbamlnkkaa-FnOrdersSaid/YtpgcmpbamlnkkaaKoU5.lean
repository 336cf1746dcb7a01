/-
  Walks in the abstract reading, part 5.
-/
import Derived.Test.YtpgcmpbamlnkkaaKoU4
import Derived.Test.YtpgcmpbamlnkkaaKoA3
import Derived.Test.YtpgcmpbamlnkkaaKoU3
import Derived.Test.YtpgcmpbamlnkkaaKoU2
section
namespace Go.Proofs.Ytpgcmpbamlnkkaa
set_option linter.unusedSimpArgs false
set_option linter.unusedVariables false
open Go Go.RowKit
attribute [local irreducible] AL AD AW OpOk Le AC thenQ blockQ EndQ

section
variable {P : Program} {o : Oper} {A : Operand → AV} {H : Heap} {new : Nat}
/-- A draw that hands back a graph of its own. -/
theorem Gx {fo x : Operand} {ts : Array TypeId} {f : FuncId} {code : List Int} {s s' : Src} {ev : Int} {n : Nat} {ys : List Pl} (hc : AC P f [Bx 3 0] (srcH code s) (.agg [I ev, .own 4 ⟨1, []⟩ 0 n]) (heapL [(⟨0, []⟩, ⟨0, []⟩, srcO code s'), (⟨1, []⟩, ⟨1, []⟩, PO ys)])) (ho : o.op = .call { callee := .value fo, args := #[x], argTypes := ts }) [FnBody P f] (hfo : A fo = .clo (.func f) [] [])
    (hx : A x = Bx 3 0) (hl : H ⟨0, []⟩ = some (srcO code s)) : OpOk P o A [⟨0, []⟩] H new (.agg [I ev, .own 4 ⟨new, [1]⟩ 0 n]) [.all new (fun sub => heapX [(⟨new, [1]⟩, ⟨new, [1]⟩, PO ys)] [] ⟨new, sub⟩), .one ⟨0, []⟩ (some (srcO code s'))] :=
  OpOk.callMX (xs := [x]) [(⟨1, []⟩, ⟨1, []⟩, PO ys)] [] ho hfo hc hl (by
    show ARs _ _ _ _ _ [A x]
    rw [hx]; exact .cons (AR.ptr 3 ⟨0, []⟩ 0 0 rfl) .nil) ⟨⟨fun g => rnO_dobj _ _ _, by simp⟩, trivial⟩ trivial (by
    simp only [rn, List.map_cons, List.map_nil]
    rw [emb_one (by decide)]; rfl)
end
/-! ### A graph, sometimes with a dead cycle -/
def zeroK (xs : List Pl) (i : Nat) : List Pl := xs.set i ⟨(plA xs i).f, (plA xs i).t, (plA xs i).d, 0⟩
def d12 (code : List Int) (q : RSt) : Nat → RSt
  | 0 => q
  | k + 1 => ((nxt code (d12 code q k).1 12).2, if (nxt code (d12 code q k).1 12).1 = 0 then zeroK (d12 code q k).2 k else (d12 code q k).2)
theorem plA_mem {xs : List Pl} {i : Nat} (h : i < xs.length) : plA xs i ∈ xs := by
  rw [plA_get (List.getElem?_eq_getElem h)]; exact List.getElem_mem _
theorem d12_ok {code : List Int} (hc : CodeOk code) {q : RSt} {m : Nat} (h : RStOk code m q) : ∀ k, RStOk code m (d12 code q k) ∧ (d12 code q k).2.length = q.2.length
  | 0 => ⟨h, rfl⟩
  | k + 1 => by
    obtain ⟨⟨h1, h2, h3⟩, h4⟩ := d12_ok hc h k
    obtain ⟨z1, z2, z3⟩ := nxt_ok hc h1 12
    refine ⟨⟨z3, fun p hp => ?_, ?_⟩, ?_⟩
    · simp only [d12] at hp
      split at hp
      · by_cases hk : k < (d12 code q k).2.length
        · rcases List.mem_or_eq_of_mem_set hp with hp | rfl
          · exact h2 p hp
          · have := h2 _ (plA_mem hk)
            exact ⟨this.f, this.t, this.d, by simp⟩
        · rw [zeroK, List.set_eq_of_length_le (by omega)] at hp; exact h2 p hp
      · exact h2 p hp
    · simp only [d12]; split
      · rw [zeroK, List.length_set]; exact h3
      · exact h3
    · simp only [d12]; split
      · rw [zeroK, List.length_set]; exact h4
      · exact h4
def dr12 (code : List Int) (s : Src) : DrG :=
  let g := dr11 code s
  ⟨g.ev, (d12 code (g.s, g.xs) (min g.xs.length 9)).2, (d12 code (g.s, g.xs) (min g.xs.length 9)).1⟩
theorem DrOk.st {code : List Int} {g : DrG} (h : DrOk code g) : RStOk code 40 (g.s, g.xs) := ⟨h.s, h.xs, h.len⟩
theorem dr12_ok {code : List Int} (hc : CodeOk code) {s : Src} (hs : SrcOk code s) : DrOk code (dr12 code s) := by
  have h := dr11_ok hc hs
  have h2 := (d12_ok hc h.st (min (dr11 code s).xs.length 9)).1
  exact ⟨h.ev, h2.xs, h2.len, h2.s⟩
set_option maxHeartbeats 2000000 in
theorem l12Draw_ac (code : List Int) (hc : CodeOk code) (s : Src) (hs : SrcOk code s) : AC Try.prog 89 [Bx 3 0] (srcH code s) (.agg [I (dr12 code s).ev, .own 4 ⟨1, []⟩ 0 (dr12 code s).xs.length]) (heapL [(⟨0, []⟩, ⟨0, []⟩, srcO code (dr12 code s).s), (⟨1, []⟩, ⟨1, []⟩, PO (dr12 code s).xs)]) := by
  have hG := l11Draw_ac code hc s hs
  have hok := dr11_ok hc hs
  unfold dr12
  generalize dr11 code s = g at *
  obtain ⟨ev, xs, s1⟩ := g
  have hst := hok.st
  obtain ⟨_, _, hl, _⟩ := hok
  simp only at *
  show AC _ _ _ (heapL [(⟨0, []⟩, ⟨0, []⟩, srcO code s)]) _ _
  refine AC.of_body 1 Try.func89 rfl (fun l h => by simp [heapL, upd] at h; simp [h]) (fun C hC => ?_)
  simp only [startFr, Try.ntmps89, List.length_cons, List.length_nil, Nat.reduceAdd, Nat.reduceSub, List.replicate_succ, List.replicate_zero, List.cons_append, List.nil_append]
  have hD : ∀ l, C.D0 l → l = ⟨0, []⟩ := fun l h => by have := (hC l).1 h; simp [heapL, upd] at this; exact this
  repeat' (first | ((first | apply Ba | (apply Bb; (· rfl); (· rfl)) | (apply Bc; (· exact nxE)) | (apply Bd; (· rfl); (· rfl); (· exact nxE))); (· first | exact Gx hG rfl rfl rfl rfl | exact Ok.pe)) | ((first | apply Ca | (apply Cb; (· exact nxE))); (· first | exact Gx hG rfl rfl rfl rfl | exact Ok.e0)) | refine Sx ?_ | (refine Sy (fun h => ?_) (fun h => ?_) <;> try (exfalso; omega; done)) | refine Sz (fun h => ?_) (fun h => ?_))
  refine AW.loop (X := {k : Nat // k ≤ min xs.length 9}) (fun k => ⟨[Bx 3 0, Oo, Bx 2 1, Bx 2 2, I (k.1 : Nat), Oo, Oo, Oo, Oo, Oo, Oo, Oo, Oo, Oo, Oo, Oo, Oo, Oo, Oo, Oo, Oo, Oo, Oo, Oo, Oo, Oo, Oo], heapL [(⟨0, []⟩, ⟨0, []⟩, srcO code (d12 code (s1, xs) k.1).1), (⟨1, []⟩, ⟨1, []⟩, ⟨2, [[I 0, nilS]]⟩), (⟨2, []⟩, ⟨2, []⟩, ⟨2, [[I ev, .own 4 ⟨3, []⟩ 0 xs.length]]⟩), (⟨3, []⟩, ⟨3, []⟩, PO (d12 code (s1, xs) k.1).2)], 900⟩) (fun k => min xs.length 9 - k.1) ⟨0, Nat.zero_le _⟩ ?_ (fun k => ?_)
  ·
    (apply Le.headZ [_, _, _, _] rfl)
    all_goals (try dsimp only [srcs])
    (case' hfr | hob => (repeat' (first | refine La ?_ ?_ | exact Lc | refine Lo ?_ | refine ⟨⟨_, rfl, ?_⟩, ?_⟩ | refine Lx ?_)))
    all_goals (first | (rfl) | exact Ld)
  obtain ⟨k, hk⟩ := k
  simp only
  have hI := d12_ok hc hst k
  by_cases hlt : k < min xs.length 9
  · have hstep : d12 code (s1, xs) (k + 1) = ((nxt code (d12 code (s1, xs) k).1 12).2, if (nxt code (d12 code (s1, xs) k).1 12).1 = 0 then zeroK (d12 code (s1, xs) k).2 k else (d12 code (s1, xs) k).2) := rfl
    generalize d12 code (s1, xs) k = q at *
    obtain ⟨s3, ys⟩ := q
    obtain ⟨⟨i1, i2, i3⟩, i4⟩ := hI
    simp only at *
    obtain ⟨z, s4, z1, z2, h4, q4, N4⟩ := next_ex hc i1 12
    rw [q4] at hstep
    simp only at hstep
    have hkk : k < ys.length := by omega
    have hr := ownPl_row hkk
    have hsP := ownPl_set (xs := ys) (i := k) (p := ⟨(plA ys k).f, (plA ys k).t, (plA ys k).d, 0⟩)
    have hzk : zeroK ys k = ys.set k ⟨(plA ys k).f, (plA ys k).t, (plA ys k).d, 0⟩ := rfl
    generalize plA ys k = p at *
    obtain ⟨pf, pt, pd, pk⟩ := p
    simp only at hr hsP hzk
    have hyl : (ys.map Pl.row).length = xs.length := by rw [List.length_map]; exact i4
    have hyl2 : (PO ys).rows.length = xs.length := by simp [dobj, i4]
    repeat' (first | ((first | apply Ba | (apply Bb; (· rfl); (· rfl)) | (apply Bc; (· exact nxE)) | (apply Bd; (· rfl); (· rfl); (· exact nxE))); (· first | exact Nx N4 rfl rfl rfl rfl rfl | exact Ok.storeC rfl rfl rfl rfl hr (by simp only [List.length_cons, List.length_nil, Nat.reduceAdd, Nat.reduceLT]) (by conv => lhs; whnf) (by rfl) (by rfl) hsP | exact Ok.pe)) | ((first | apply Ca | (apply Cb; (· exact nxE))); (· first | exact Nx N4 rfl rfl rfl rfl rfl | exact Ok.storeC rfl rfl rfl rfl hr (by simp only [List.length_cons, List.length_nil, Nat.reduceAdd, Nat.reduceLT]) (by conv => lhs; whnf) (by rfl) (by rfl) hsP | exact Ok.e0)) | refine Sx ?_ | (refine Sy (fun h => ?_) (fun h => ?_) <;> try (exfalso; omega; done)) | refine Sz (fun h => ?_) (fun h => ?_))
    all_goals
      refine ⟨⟨k + 1, by omega⟩, ?_, by simp only; omega⟩
      simp only [hstep]
      (apply Le.headZ [_, _, _, _] rfl)
      all_goals (try dsimp only [srcs])
      (case' hfr | hob => (repeat' (first | refine La ?_ ?_ | exact Lc | refine Lo ?_ | refine ⟨⟨_, rfl, ?_⟩, ?_⟩ | refine Lx ?_)))
      all_goals (first | (first | (rw [if_pos (by assumption), hzk]; rfl) | (rw [if_neg (by assumption)]; done) | (simp [*]; done)) | exact Ld)
  · obtain rfl : k = min xs.length 9 := by omega
    generalize d12 code (s1, xs) (min xs.length 9) = q at *
    obtain ⟨s3, ys⟩ := q
    obtain ⟨⟨i1, i2, i3⟩, i4⟩ := hI
    simp only at *
    repeat' (first | ((first | apply Ba | (apply Bb; (· rfl); (· rfl)) | (apply Bc; (· exact nxE)) | (apply Bd; (· rfl); (· rfl); (· exact nxE))); (· first | exact Ok.pe)) | ((first | apply Ca | (apply Cb; (· exact nxE))); (· first | exact Ok.e0)) | refine Sx ?_ | (refine Sy (fun h => ?_) (fun h => ?_) <;> try (exfalso; omega; done)) | refine Sz (fun h => ?_) (fun h => ?_))
    all_goals
      refine Ya ?_
      (apply Le.head [(⟨0, []⟩, ⟨0, []⟩, srcO code s3), (⟨1, []⟩, ⟨3, []⟩, PO ys)])
      (case' hfr | hob => (repeat' (first | refine La ?_ ?_ | exact Lc | refine Lo ?_ | refine ⟨⟨_, rfl, ?_⟩, ?_⟩ | refine Lx ?_)))
      all_goals (first | exact Ld | (first | exact i4 | (simp [*]; done)))
theorem l12DrawZ_ac (code : List Int) (hc : CodeOk code) (s : Src) (hs : SrcOk code s) : AC Try.prog 89 [Bx 3 0] (srcH code s) (grD (dr12 code s).ev (dr12 code s).xs) (srcH code (dr12 code s).s) :=
  (l12Draw_ac code hc s hs).frzS rfl (ARs.agg (.cons (.dd _) (.cons (AR.whole rfl (by simp) (List.length_map _)) .nil)))
end Go.Proofs.Ytpgcmpbamlnkkaa
end

section
namespace Go.Proofs.Ytpgcmpbamlnkkaa
set_option linter.unusedSimpArgs false
set_option linter.unusedVariables false
open Go Go.RowKit
attribute [local irreducible] AL AD AW OpOk Le AC thenQ blockQ EndQ

end Go.Proofs.Ytpgcmpbamlnkkaa
end

section
namespace Go.Proofs.Ytpgcmpbamlnkkaa
set_option linter.unusedSimpArgs false
set_option linter.unusedVariables false
open Go Go.RowKit
attribute [local irreducible] AL AD AW OpOk Le AC thenQ blockQ EndQ

set_option maxHeartbeats 1000000 in
theorem l02Own_ac (t : List (List Int)) (hn : t.length ≤ 10000000) (hr : ∀ r ∈ t, r.length ≤ 100000000) : AC Try.prog 227 [TL t] H0 (own1 1 t.length) (hpM 1 (TR t)) := by
  refine AC.of_body 0 Try.func227 rfl (fun l h => absurd rfl h) (fun C hC => ?_)
  have hD : ∀ l, ¬ C.D0 l := fun l h => (hC l).1 h rfl
  simp only [startFr, Try.ntmps227, List.length_cons, List.length_nil, Nat.reduceAdd, Nat.reduceSub, List.replicate_succ, List.replicate_zero, List.cons_append, List.nil_append]
  repeat' (first | ((first | apply Ba | (apply Bb; (· rfl); (· rfl)) | (apply Bc; (· exact nxE)) | (apply Bd; (· rfl); (· rfl); (· exact nxE))); (· first | exact Ok.pe)) | ((first | apply Ca | (apply Cb; (· exact nxE))); (· first | exact Ok.e0)) | refine Sx ?_ | (refine Sy (fun h => ?_) (fun h => ?_) <;> try (exfalso; omega; done)) | refine Sz (fun h => ?_) (fun h => ?_))
  refine AW.loop (X := {k : Nat // k ≤ t.length}) (fun k => ⟨[TL t, Oo, Oo, .own 1 ⟨1, []⟩ 0 (k.1 : Nat), I (k.1 : Nat), Oo, Oo, Oo, Oo, Oo, Oo, Oo, Oo, Oo, Oo, Oo, Oo, Oo, Oo, Oo, Oo], heapX [] [mi1 ⟨1, []⟩ (TR (t.take k.1))], 900⟩) (fun k => t.length - k.1) ⟨0, Nat.zero_le _⟩ ?_ (fun k => ?_)
  ·
    (apply Le.headG [] [{ l := ⟨1, []⟩, k := 1, R := [], src := ⟨1, []⟩, base := ⟨1, []⟩ }] (fun _ => False))
    (case' hlen => rfl)
    (case' hms => rfl)
    all_goals (try dsimp only [srcs])
    (case' hfr | hob => (repeat' (first | refine La ?_ ?_ | exact Lc | refine Lo ?_ | refine ⟨⟨_, rfl, ?_⟩, ?_⟩ | refine Lx ?_)))
    (case' hok => first | exact ⟨MI.ok_same rfl (fun i x hx => by simp at hx), trivial⟩ | exact trivial)
    (case' hN => rfl)
    (case' hS => rfl)
    all_goals (first | exact Ld | (rfl))
  obtain ⟨k, hk⟩ := k
  simp only
  by_cases hlt : k < t.length
  · obtain ⟨r, hr1⟩ : ∃ r, t[k]? = some r := ⟨t[k], by simp⟩
    have hrow := TR_get hr1
    have htk : (TR (t.take k)).length = k := by simp; omega
    repeat' (first | ((first | apply Ba | (apply Bb; (· rfl); (· rfl)) | (apply Bc; (· exact nxE)) | (apply Bd; (· rfl); (· rfl); (· exact nxE))); (· first | exact Eo rfl rfl (l01Own_ac r (hr r (List.mem_of_getElem? hr1))) (Sd Sn) | exact Ok.appendT rfl rfl (by decide) rfl rfl rfl (by rw [outer_len, htk]; rfl) rfl rfl (by rfl) (by omega) (by omega) rfl | exact Ok.pe)) | ((first | apply Ca | (apply Cb; (· exact nxE))); (· first | exact Eo rfl rfl (l01Own_ac r (hr r (List.mem_of_getElem? hr1))) (Sd Sn) | exact Ok.appendT rfl rfl (by decide) rfl rfl rfl (by rw [outer_len, htk]; rfl) rfl rfl (by rfl) (by omega) (by omega) rfl | exact Ok.e0)) | refine Sx ?_ | (refine Sy (fun h => ?_) (fun h => ?_) <;> try (exfalso; omega; done)) | refine Sz (fun h => ?_) (fun h => ?_))
    refine ⟨⟨k + 1, by omega⟩, ?_, by simp only; omega⟩
    (apply Le.headG [] [{ l := ⟨1, []⟩, k := 1, R := TR (t.take (k + 1)), src := ⟨911, []⟩, base := ⟨1, []⟩, cut := k, ext := some ⟨909, [0]⟩ }] (fun _ => False))
    (case' hlen => rfl)
    (case' hms => rfl)
    all_goals (try dsimp only [srcs])
    (case' hfr | hob => (repeat' (first | refine La ?_ ?_ | exact Lc | refine Lo ?_ | refine ⟨⟨_, rfl, ?_⟩, ?_⟩ | refine Lx ?_)))
    (case' hok => first | exact ⟨MI.ok_app (TR_take hr1) htk IR_len rfl (Cg) rfl, trivial⟩ | exact trivial)
    (case' hN => rfl)
    (case' hS => rfl)
    all_goals (first | exact Ld | ((simp [AllP]; omega)))
  ·
    have hkn : k = t.length := by omega
    subst hkn
    rw [List.take_length]
    repeat' (first | ((first | apply Ba | (apply Bb; (· rfl); (· rfl)) | (apply Bc; (· exact nxE)) | (apply Bd; (· rfl); (· rfl); (· exact nxE))); (· first | exact Ok.pe)) | ((first | apply Ca | (apply Cb; (· exact nxE))); (· first | exact Ok.e0)) | refine Sx ?_ | (refine Sy (fun h => ?_) (fun h => ?_) <;> try (exfalso; omega; done)) | refine Sz (fun h => ?_) (fun h => ?_))
    refine Ya ?_
    (apply Le.headG [] [{ l := ⟨0, []⟩, k := 1, R := TR t, src := ⟨1, []⟩, base := ⟨1, []⟩ }] (fun _ => False))
    (case' hlen => rfl)
    (case' hms => rfl)
    all_goals (try dsimp only [srcs])
    (case' hfr | hob => (repeat' (first | refine La ?_ ?_ | exact Lc | refine Lo ?_ | refine ⟨⟨_, rfl, ?_⟩, ?_⟩ | refine Lx ?_)))
    (case' hok => first | exact ⟨MI.ok_same rfl (Cg), trivial⟩ | exact trivial)
    (case' hN => rfl)
    (case' hS => rfl)
    all_goals (first | exact Ld | (rfl))
end Go.Proofs.Ytpgcmpbamlnkkaa
end

section
namespace Go.Proofs.Ytpgcmpbamlnkkaa
set_option linter.unusedSimpArgs false
set_option linter.unusedVariables false
open Go Go.RowKit
attribute [local irreducible] AL AD AW OpOk Le AC thenQ blockQ EndQ

section
variable {P : Program} {o : Oper} {A : Operand → AV} {H : Heap} {new : Nat}
end
theorem freeE {n : Nat} {xs : List Pl} (hv : ∀ p ∈ xs, okPl n p) {u v : Nat} (hu : u < n) (hv' : v < n) : entN (freeT n xs) u v = if wPl xs u v = true then 0 else BOT := by
  unfold freeT
  rw [free_entN (Sq.bot n) hv hu hv', entN_bot hu hv']
abbrev rdyB (w : Nat → Nat → Bool) (ord : List Nat) (e k : Nat) : Bool := !ord.contains e && (List.range k).all fun u => !w e u || ord.contains u
theorem rdyB_succ {w : Nat → Nat → Bool} {ord : List Nat} {e k : Nat} : rdyB w ord e (k + 1) = (rdyB w ord e k && (!w e k || ord.contains k)) := by
  simp [rdyB, List.range_succ, Bool.and_assoc]
theorem rdyB_0 {w : Nat → Nat → Bool} {ord : List Nat} {e : Nat} : rdyB w ord e 0 = !ord.contains e := by simp [rdyB]
theorem nextE_spec {w : Nat → Nat → Bool} {n : Nat} {ord : List Nat} {e : Nat} (h : nextE w n ord = some e) : e < n ∧ rdyB w ord e n = true ∧ ∀ j, j < e → rdyB w ord j n = false := by
  unfold nextE at h
  rw [List.find?_range_eq_some] at h
  obtain ⟨h1, h2, h3⟩ := h
  refine ⟨List.mem_range.1 h2, h1, fun j hj => ?_⟩
  simpa only [Bool.not_eq_true'] using h3 j hj
set_option maxHeartbeats 2000000 in
theorem l12Order_ac (n : Nat) (xs : List Pl) (ord : List Nat) (hn : n ≤ 10) (hx : xs.length ≤ 100000000) (hv : ∀ p ∈ xs, okPl n p) (hord : ordR n xs = some ord) : AC Try.prog 94 [grD n xs] H0 (IL (cN ord)) H0 := by
  have hF := (l12Free_ac n xs hn hx hv).frzT (by rw [TR_len]; exact (free_sq (Sq.bot n)).l)
  have hsq : Sq (freeT n xs) n := free_sq (Sq.bot n)
  have hfl : (mRows 1 (TR (freeT n xs))).length = n := by rw [mTR_len]; exact hsq.l
  refine AC.of_body 0 Try.func94 rfl (fun l h => absurd rfl h) (fun C hC => ?_)
  have hD : ∀ l, ¬ C.D0 l := fun l h => (hC l).1 h rfl
  simp only [startFr, Try.ntmps94, List.length_cons, List.length_nil, Nat.reduceAdd, Nat.reduceSub, List.replicate_succ, List.replicate_zero, List.cons_append, List.nil_append]
  repeat' (first | ((first | apply Ba | (apply Bb; (· rfl); (· rfl)) | (apply Bc; (· exact nxE)) | (apply Bd; (· rfl); (· rfl); (· exact nxE))); (· first | exact Kz rfl rfl (hF) (Aa (Ad (Ad An)) An) | exact Ok.pe)) | ((first | apply Ca | (apply Cb; (· exact nxE))); (· first | exact Ok.e0)) | refine Sx ?_ | (refine Sy (fun h => ?_) (fun h => ?_) <;> try (exfalso; omega; done)) | refine Sz (fun h => ?_) (fun h => ?_))
  refine AW.loop (X := {o : List Nat // o.length ≤ n ∧ ordF (wPl xs) n (n - o.length) o = some ord}) (fun o => ⟨[Oo, Bx 2 0, Oo, TL (freeT n xs), .own 1 ⟨1, []⟩ 0 o.1.length, Oo, Oo, Oo, Oo, Oo, Oo, Oo, Oo, Oo, Oo, Oo, Oo, Oo, Oo, Oo, Oo, Oo, Oo, Oo, Oo, Oo, Oo, Oo, Oo, Oo, Oo, Oo, Oo, Oo, Oo, Oo, Oo, Oo, Oo, Oo, Oo, Oo, Oo, Oo, Oo, Oo, Oo, Oo, Oo, Oo, Oo, Oo, Oo, Oo], heapL [(⟨0, []⟩, ⟨0, []⟩, ⟨2, [[I n, PL xs]]⟩), (⟨1, []⟩, ⟨1, []⟩, IO (cN o.1))], 900⟩) (fun o => n - o.1.length) ⟨[], by simp, hord⟩ ?_ (fun o => ?_)
  ·
    (apply Le.headZ [_, _] rfl)
    all_goals (try dsimp only [srcs])
    (case' hfr | hob => (repeat' (first | refine La ?_ ?_ | exact Lc | refine Lo ?_ | refine ⟨⟨_, rfl, ?_⟩, ?_⟩ | refine Lx ?_)))
    all_goals (first | (rfl) | exact Ld)
  obtain ⟨o, ho1, ho2⟩ := o
  simp only
  have hol : (IR (cN o)).length = o.length := by simp
  by_cases hlt : o.length < n
  · rw [show n - o.length = (n - (o.length + 1)) + 1 by omega, ordF] at ho2
    cases hnx : nextE (wPl xs) n o with
    | none => rw [hnx] at ho2; cases ho2
    | some e0 =>
    rw [hnx] at ho2
    simp only at ho2
    obtain ⟨he1, he2, he3⟩ := nextE_spec hnx
    repeat' (first | ((first | apply Ba | (apply Bb; (· rfl); (· rfl)) | (apply Bc; (· exact nxE)) | (apply Bd; (· rfl); (· rfl); (· exact nxE))); (· first | exact Ok.pe)) | ((first | apply Ca | (apply Cb; (· exact nxE))); (· first | exact Ok.e0)) | refine Sx ?_ | (refine Sy (fun h => ?_) (fun h => ?_) <;> try (exfalso; omega; done)) | refine Sz (fun h => ?_) (fun h => ?_))
    refine AW.loop (X := {k : Nat // k ≤ e0}) (fun k => ⟨[Oo, Bx 2 0, Oo, TL (freeT n xs), .own 1 ⟨1, []⟩ 0 o.length, I (k.1 : Nat), Oo, Oo, Oo, Oo, Oo, Oo, Oo, Oo, Oo, Oo, Oo, Oo, Oo, Oo, Oo, Oo, Oo, Oo, Oo, Oo, Oo, Oo, Oo, Oo, Oo, Oo, Oo, Oo, Oo, Oo, Oo, Oo, Oo, Oo, Oo, Oo, Oo, Oo, Oo, Oo, Oo, Oo, Oo, Oo, Oo, Oo, Oo, Oo], heapL [(⟨0, []⟩, ⟨0, []⟩, ⟨2, [[I n, PL xs]]⟩), (⟨1, []⟩, ⟨1, []⟩, IO (cN o))], 900⟩) (fun k => e0 - k.1) ⟨0, Nat.zero_le _⟩ ?_ (fun k => ?_)
    ·
      (apply Le.headZ [_, _] rfl)
      all_goals (try dsimp only [srcs])
      (case' hfr | hob => (repeat' (first | refine La ?_ ?_ | exact Lc | refine Lo ?_ | refine ⟨⟨_, rfl, ?_⟩, ?_⟩ | refine Lx ?_)))
      all_goals (first | (rfl) | exact Ld)
    obtain ⟨e, he⟩ := k
    simp only
    have hC1 := l01Has_ac (cN o) e (by simp; omega)
    rw [cN_any] at hC1
    repeat' (first | ((first | apply Ba | (apply Bb; (· rfl); (· rfl)) | (apply Bc; (· exact nxE)) | (apply Bd; (· rfl); (· rfl); (· exact nxE))); (· first | exact Ez rfl rfl (hC1) (Sw (Sd Sn)) | exact Ok.pe)) | ((first | apply Ca | (apply Cb; (· exact nxE))); (· first | exact Ok.e0)) | refine Sx ?_ | (refine Sy (fun h => ?_) (fun h => ?_) <;> try (exfalso; omega; done)) | refine Sz (fun h => ?_) (fun h => ?_))
    refine AW.loop (X := {k : Nat // k ≤ n}) (fun k => ⟨[Oo, Bx 2 0, Oo, TL (freeT n xs), .own 1 ⟨1, []⟩ 0 o.length, I e, Bo (rdyB (wPl xs) o e (k.1 : Nat)), I (k.1 : Nat), Oo, Oo, Oo, Oo, Oo, Oo, Oo, Oo, Oo, Oo, Oo, Oo, Oo, Oo, Oo, Oo, Oo, Oo, Oo, Oo, Oo, Oo, Oo, Oo, Oo, Oo, Oo, Oo, Oo, Oo, Oo, Oo, Oo, Oo, Oo, Oo, Oo, Oo, Oo, Oo, Oo, Oo, Oo, Oo, Oo, Oo], heapL [(⟨0, []⟩, ⟨0, []⟩, ⟨2, [[I n, PL xs]]⟩), (⟨1, []⟩, ⟨1, []⟩, IO (cN o))], 900⟩) (fun k => n - k.1) ⟨0, Nat.zero_le _⟩ ?_ (fun k => ?_)
    ·
      (apply Le.headZ [_, _] rfl)
      all_goals (try dsimp only [srcs])
      (case' hfr | hob => (repeat' (first | refine La ?_ ?_ | exact Lc | refine Lo ?_ | refine ⟨⟨_, rfl, ?_⟩, ?_⟩ | refine Lx ?_)))
      all_goals (first | ((first | exact rdyB_0 | (rw [rdyB_0]; done) | (simp [rdyB_0]; done))) | exact Ld)
    obtain ⟨k, hk⟩ := k
    simp only
    by_cases hlt2 : k < n
    ·
      have hC2 := l01Has_ac (cN o) k (by simp; omega)
      rw [cN_any] at hC2
      obtain ⟨R, hR1, hR2, hR3⟩ := hsq.get (show e < n by omega) hlt2
      rw [freeE hv (by omega) hlt2] at hR2
      have hRr := TR_get hR1
      have hRl : (IR R).length = n := by rw [IR_len, hR3]
      have hst := rdyB_succ (w := wPl xs) (ord := o) (e := e) (k := k)
      generalize hb2 : rdyB (wPl xs) o e k = b2 at hst
      cases b2
      ·
        repeat' (first | ((first | apply Ba | (apply Bb; (· rfl); (· rfl)) | (apply Bc; (· exact nxE)) | (apply Bd; (· rfl); (· rfl); (· exact nxE))); (· first | exact Ok.pe)) | ((first | apply Ca | (apply Cb; (· exact nxE))); (· first | exact Ok.e0)) | refine Sx ?_ | (refine Sy (fun h => ?_) (fun h => ?_) <;> try (exfalso; omega; done)) | refine Sz (fun h => ?_) (fun h => ?_))
        refine ⟨⟨k + 1, by omega⟩, ?_, by simp only; omega⟩
        (apply Le.headZ [_, _] rfl)
        all_goals (try dsimp only [srcs])
        (case' hfr | hob => (repeat' (first | refine La ?_ ?_ | exact Lc | refine Lo ?_ | refine ⟨⟨_, rfl, ?_⟩, ?_⟩ | refine Lx ?_)))
        all_goals (first | (((try dsimp only); rw [hst]; rfl)) | exact Ld)
      · cases hw : wPl xs e k
        ·
          rw [hw, if_neg (by simp)] at hR2
          have hRf := IR_get hR2
          rw [hw] at hst
          repeat' (first | ((first | apply Ba | (apply Bb; (· rfl); (· rfl)) | (apply Bc; (· exact nxE)) | (apply Bd; (· rfl); (· rfl); (· exact nxE))); (· first | exact Ok.pe)) | ((first | apply Ca | (apply Cb; (· exact nxE))); (· first | exact Ok.e0)) | refine Sx ?_ | (refine Sy (fun h => ?_) (fun h => ?_) <;> try (exfalso; omega; done)) | refine Sz (fun h => ?_) (fun h => ?_))
          refine ⟨⟨k + 1, by omega⟩, ?_, by simp only; omega⟩
          (apply Le.headZ [_, _] rfl)
          all_goals (try dsimp only [srcs])
          (case' hfr | hob => (repeat' (first | refine La ?_ ?_ | exact Lc | refine Lo ?_ | refine ⟨⟨_, rfl, ?_⟩, ?_⟩ | refine Lx ?_)))
          all_goals (first | (((try dsimp only); rw [hst]; rfl)) | exact Ld)
        ·
          rw [hw, if_pos rfl] at hR2
          have hRf := IR_get hR2
          rw [hw] at hst
          repeat' (first | ((first | apply Ba | (apply Bb; (· rfl); (· rfl)) | (apply Bc; (· exact nxE)) | (apply Bd; (· rfl); (· rfl); (· exact nxE))); (· first | exact Ez rfl rfl (hC2) (Sw (Sd Sn)) | exact Ok.pe)) | ((first | apply Ca | (apply Cb; (· exact nxE))); (· first | exact Ok.e0)) | refine Sx ?_ | (refine Sy (fun h => ?_) (fun h => ?_) <;> try (exfalso; omega; done)) | refine Sz (fun h => ?_) (fun h => ?_))
          refine ⟨⟨k + 1, by omega⟩, ?_, by simp only; omega⟩
          (apply Le.headZ [_, _] rfl)
          all_goals (try dsimp only [srcs])
          (case' hfr | hob => (repeat' (first | refine La ?_ ?_ | exact Lc | refine Lo ?_ | refine ⟨⟨_, rfl, ?_⟩, ?_⟩ | refine Lx ?_)))
          all_goals (first | (((try dsimp only); rw [hst]; simp; done)) | exact Ld)
    ·
      have hkn : k = n := by omega
      subst hkn
      by_cases hee : e = e0
      ·
        subst hee
        rw [he2]
        repeat' (first | ((first | apply Ba | (apply Bb; (· rfl); (· rfl)) | (apply Bc; (· exact nxE)) | (apply Bd; (· rfl); (· rfl); (· exact nxE))); (· first | exact Ok.append1 (row := [DI e]) rfl rfl (by decide) rfl rfl hol rfl rfl rfl (by rfl) (by omega) (by omega) | exact Ok.pe)) | ((first | apply Ca | (apply Cb; (· exact nxE))); (· first | exact Ok.append1 (row := [DI e]) rfl rfl (by decide) rfl rfl hol rfl rfl rfl (by rfl) (by omega) (by omega) | exact Ok.e0)) | refine Sx ?_ | (refine Sy (fun h => ?_) (fun h => ?_) <;> try (exfalso; omega; done)) | refine Sz (fun h => ?_) (fun h => ?_))
        refine ⟨⟨o ++ [e], by simp; omega, by simpa using ho2⟩, ?_, by simp; omega⟩
        (apply Le.headZ [_, _] rfl)
        all_goals (try dsimp only [srcs])
        (case' hfr | hob => (repeat' (first | refine La ?_ ?_ | exact Lc | refine Lo ?_ | refine ⟨⟨_, rfl, ?_⟩, ?_⟩ | refine Lx ?_)))
        all_goals (first | ((first | (rw [cN_snoc]; done) | (simp; done))) | exact Ld)
      ·
        rw [he3 e (by omega)]
        repeat' (first | ((first | apply Ba | (apply Bb; (· rfl); (· rfl)) | (apply Bc; (· exact nxE)) | (apply Bd; (· rfl); (· rfl); (· exact nxE))); (· first | exact Ok.pe)) | ((first | apply Ca | (apply Cb; (· exact nxE))); (· first | exact Ok.e0)) | refine Sx ?_ | (refine Sy (fun h => ?_) (fun h => ?_) <;> try (exfalso; omega; done)) | refine Sz (fun h => ?_) (fun h => ?_))
        refine ⟨⟨e + 1, by omega⟩, ?_, by simp only; omega⟩
        (apply Le.headZ [_, _] rfl)
        all_goals (try dsimp only [srcs])
        (case' hfr | hob => (repeat' (first | refine La ?_ ?_ | exact Lc | refine Lo ?_ | refine ⟨⟨_, rfl, ?_⟩, ?_⟩ | refine Lx ?_)))
        all_goals (first | (rfl) | exact Ld)
  ·
    have hoo : o = ord := by
      rw [show n - o.length = 0 by omega, ordF] at ho2
      exact Option.some.inj ho2
    subst hoo
    repeat' (first | ((first | apply Ba | (apply Bb; (· rfl); (· rfl)) | (apply Bc; (· exact nxE)) | (apply Bd; (· rfl); (· rfl); (· exact nxE))); (· first | exact Ok.pe)) | ((first | apply Ca | (apply Cb; (· exact nxE))); (· first | exact Ok.e0)) | refine Sx ?_ | (refine Sy (fun h => ?_) (fun h => ?_) <;> try (exfalso; omega; done)) | refine Sz (fun h => ?_) (fun h => ?_))
    refine Ya ?_
    (apply Le.headZ (hs := []) [] rfl)
    all_goals (try dsimp only [srcs])
    (case' hfr => (repeat' (first | refine La ?_ ?_ | exact Lc | refine Lo ?_ | refine ⟨⟨_, rfl, ?_⟩, ?_⟩ | refine Lx ?_)))
    all_goals (first | exact Ld | exact trivial | (rfl))
/-! ### Repairs -/
end Go.Proofs.Ytpgcmpbamlnkkaa
end

section
namespace Go.Proofs.Ytpgcmpbamlnkkaa
set_option linter.unusedSimpArgs false
set_option linter.unusedVariables false
open Go Go.RowKit
attribute [local irreducible] AL AD AW OpOk Le AC thenQ blockQ EndQ

/-- The first K of a row told anew. -/
def fillF (x : Int) (K : Nat) : Nat → Int := fun v => if v < K then x else 0
theorem fillF_0 {n : Nat} {x : Int} : dobj 1 (List.replicate n [DI 0]) = IO (rowF n (fillF x 0)) := by
  show dobj 1 _ = dobj 1 (IR (rowF n (fillF x 0)))
  congr 1
  apply List.ext_getElem?
  intro i
  by_cases hi : i < n
  · rw [IRF_get hi, List.getElem?_replicate, if_pos hi]; simp [fillF]
  · rw [List.getElem?_eq_none (by simp; omega), List.getElem?_eq_none (by rw [IR_len, rowF_len]; omega)]
theorem fillF_set {n K : Nat} {x : Int} : (IR (rowF n (fillF x K))).set K [DI x] = IR (rowF n (fillF x (K + 1))) := by
  rw [IR_set, rowF_set]
  congr 1
  refine rowF_congr fun j _ => ?_
  simp only [fillF]
  by_cases h : j = K
  · rw [if_pos h, if_pos (by omega)]
  · rw [if_neg h]
    by_cases h2 : j < K
    · rw [if_pos h2, if_pos (by omega)]
    · rw [if_neg h2, if_neg (by omega)]
theorem td0_set {n u : Nat} : (IR (rowF n (fillF (-1) n))).set u [DI 0] = IR (rowF n (fun v => if v = u then 0 else -1)) := by
  rw [IR_set, rowF_set]
  congr 1
  exact rowF_congr fun j hj => by simp only [fillF, hj, if_true]
theorem rowI_at {n j : Nat} {g : Nat → Int} (h : j < n) : (IR (rowF n g))[j]? = some [DI (g j)] := IRF_get h
theorem tdPl {n : Nat} {xs : List Pl} (hv : ∀ p ∈ xs, okPl n p) : ∀ i, i < xs.length → (0 ≤ (plA xs i).f ∧ (plA xs i).f < n) ∧ (0 ≤ (plA xs i).t ∧ (plA xs i).t < n) ∧ (0 ≤ (plA xs i).k ∧ (plA xs i).k ≤ 5) := fun i hi => by
  have := okPl_at hv i hi
  exact ⟨this.1, this.2.1, this.2.2.2⟩
abbrev tdSt (p : (Nat → Int) × Bool) (xs : List Pl) (n u : Nat) : Prop := TdInv xs n u p.1 ∧ (p.2 = false → tdF xs u = p.1)
set_option maxHeartbeats 4000000 in
theorem tokenDistances_ac (n : Nat) (xs : List Pl) (u : Nat) (hu : u < n) (hn : n ≤ 10) (hx : xs.length ≤ 100000000) (hv : ∀ p ∈ xs, okPl n p) : AC Try.prog 106 [grD n xs, I u] H0 (own1 1 n) (hp1 (IO (rowF n (tdF xs u)))) := by
  refine AC.of_body 0 Try.func106 rfl (fun l h => absurd rfl h) (fun C hC => ?_)
  have hD : ∀ l, ¬ C.D0 l := fun l h => (hC l).1 h rfl
  simp only [startFr, Try.ntmps106, List.length_cons, List.length_nil, Nat.reduceAdd, Nat.reduceSub, List.replicate_succ, List.replicate_zero, List.cons_append, List.nil_append]
  repeat' (first | ((first | apply Ba | (apply Bb; (· rfl); (· rfl)) | (apply Bc; (· exact nxE)) | (apply Bd; (· rfl); (· rfl); (· exact nxE))); (· first | exact Ok.pe)) | ((first | apply Ca | (apply Cb; (· exact nxE))); (· first | exact Ok.e0)) | refine Sx ?_ | (refine Sy (fun h => ?_) (fun h => ?_) <;> try (exfalso; omega; done)) | refine Sz (fun h => ?_) (fun h => ?_))
  refine AW.loop (X := {k : Nat // k ≤ n}) (fun k => ⟨[Oo, I u, Bx 2 0, Oo, Oo, .own 1 ⟨1, []⟩ 0 n, Oo, Oo, Oo, Oo, Oo, Oo, Oo, Oo, Oo, I n, I (k.1 : Nat), Oo, Oo, Oo, Oo, Oo, Oo, Oo, Oo, Oo, Oo, Oo, Oo, Oo, Oo, Oo, Oo, Oo, Oo, Oo, Oo, Oo, Oo, Oo, Oo, Oo, Oo, Oo, Oo, Oo, Oo, Oo, Oo, Oo, Oo, Oo, Oo, Oo, Oo, Oo, Oo, Oo, Oo, Oo, Oo, Oo, Oo, Oo, Oo, Oo, Oo, Oo, Oo, Oo], heapL [(⟨0, []⟩, ⟨0, []⟩, ⟨2, [[I n, PL xs]]⟩), (⟨1, []⟩, ⟨1, []⟩, IO (rowF n (fillF (-1) k.1)))], 900⟩) (fun k => n - k.1) ⟨0, Nat.zero_le _⟩ ?_ (fun k => ?_)
  ·
    (apply Le.headZ [_, _] rfl)
    all_goals (try dsimp only [srcs])
    (case' hfr | hob => (repeat' (first | refine La ?_ ?_ | exact Lc | refine Lo ?_ | refine ⟨⟨_, rfl, ?_⟩, ?_⟩ | refine Lx ?_)))
    all_goals (first | ((first | exact fillF_0 | (rw [fillF_0]; done))) | exact Ld)
  obtain ⟨i, hi⟩ := k
  simp only
  by_cases hlt : i < n
  · have hown := rowI_at (g := fillF (-1) i) hlt
    repeat' (first | ((first | apply Ba | (apply Bb; (· rfl); (· rfl)) | (apply Bc; (· exact nxE)) | (apply Bd; (· rfl); (· rfl); (· exact nxE))); (· first | exact Ok.st1 rfl rfl rfl (by simp [rowF_len]; omega) (by rw [hown]; rfl) rfl rfl fillF_set | exact Ok.pe)) | ((first | apply Ca | (apply Cb; (· exact nxE))); (· first | exact Ok.st1 rfl rfl rfl (by simp [rowF_len]; omega) (by rw [hown]; rfl) rfl rfl fillF_set | exact Ok.e0)) | refine Sx ?_ | (refine Sy (fun h => ?_) (fun h => ?_) <;> try (exfalso; omega; done)) | refine Sz (fun h => ?_) (fun h => ?_))
    refine ⟨⟨i + 1, by omega⟩, ?_, by simp only; omega⟩
    (apply Le.headZ [_, _] rfl)
    all_goals (try dsimp only [srcs])
    (case' hfr | hob => (repeat' (first | refine La ?_ ?_ | exact Lc | refine Lo ?_ | refine ⟨⟨_, rfl, ?_⟩, ?_⟩ | refine Lx ?_)))
    all_goals (first | (rfl) | exact Ld)
  obtain rfl : i = n := by omega
  have hown0 := rowI_at (n := i) (g := fillF (-1) i) hu
  repeat' (first | ((first | apply Ba | (apply Bb; (· rfl); (· rfl)) | (apply Bc; (· exact nxE)) | (apply Bd; (· rfl); (· rfl); (· exact nxE))); (· first | exact Ok.st1 rfl rfl rfl (by simp [rowF_len]; omega) (by rw [hown0]; rfl) rfl rfl td0_set | exact Ok.pe)) | ((first | apply Ca | (apply Cb; (· exact nxE))); (· first | exact Ok.st1 rfl rfl rfl (by simp [rowF_len]; omega) (by rw [hown0]; rfl) rfl rfl td0_set | exact Ok.e0)) | refine Sx ?_ | (refine Sy (fun h => ?_) (fun h => ?_) <;> try (exfalso; omega; done)) | refine Sz (fun h => ?_) (fun h => ?_))
  refine AW.loop (X := {p : (Nat → Int) × Bool // tdSt p xs i u}) (fun p => ⟨[Oo, Oo, Bx 2 0, Oo, Oo, .own 1 ⟨1, []⟩ 0 i, Oo, Bo p.1.2, Oo, Oo, Oo, Oo, Oo, Oo, Oo, Oo, Oo, Oo, Oo, Oo, Oo, Oo, Oo, Oo, Oo, Oo, Oo, Oo, Oo, Oo, Oo, Oo, Oo, Oo, Oo, Oo, Oo, Oo, Oo, Oo, Oo, Oo, Oo, Oo, Oo, Oo, Oo, Oo, Oo, Oo, Oo, Oo, Oo, Oo, Oo, Oo, Oo, Oo, Oo, Oo, Oo, Oo, Oo, Oo, Oo, Oo, Oo, Oo, Oo, Oo], heapL [(⟨0, []⟩, ⟨0, []⟩, ⟨2, [[I i, PL xs]]⟩), (⟨1, []⟩, ⟨1, []⟩, IO (rowF i p.1.1))], 900⟩) (fun p => 2 * mesN p.1.1 i + if p.1.2 then 1 else 0) ⟨(fun v => if v = u then 0 else -1, true), TdInv.start hu, fun h => by cases h⟩ ?_ (fun p => ?_)
  ·
    (apply Le.headZ [_, _] rfl)
    all_goals (try dsimp only [srcs])
    (case' hfr | hob => (repeat' (first | refine La ?_ ?_ | exact Lc | refine Lo ?_ | refine ⟨⟨_, rfl, ?_⟩, ?_⟩ | refine Lx ?_)))
    all_goals (first | (rfl) | exact Ld)
  obtain ⟨⟨d, ch⟩, hI, hf⟩ := p
  simp only at hI hf ⊢
  cases ch
  · have hfin := hf rfl
    repeat' (first | ((first | apply Ba | (apply Bb; (· rfl); (· rfl)) | (apply Bc; (· exact nxE)) | (apply Bd; (· rfl); (· rfl); (· exact nxE))); (· first | exact Ok.pe)) | ((first | apply Ca | (apply Cb; (· exact nxE))); (· first | exact Ok.e0)) | refine Sx ?_ | (refine Sy (fun h => ?_) (fun h => ?_) <;> try (exfalso; omega; done)) | refine Sz (fun h => ?_) (fun h => ?_))
    refine Ya ?_
    (apply Le.head [(⟨0, []⟩, _, _)])
    (case' hfr | hob => (repeat' (first | refine La ?_ ?_ | exact Lc | refine Lo ?_ | refine ⟨⟨_, rfl, ?_⟩, ?_⟩ | refine Lx ?_)))
    all_goals (first | exact Ld | ((first | rfl | (rw [hfin]; done))))
  ·
    have hP := hI.places hn (tdPl hv)
    repeat' (first | ((first | apply Ba | (apply Bb; (· rfl); (· rfl)) | (apply Bc; (· exact nxE)) | (apply Bd; (· rfl); (· rfl); (· exact nxE))); (· first | exact Ok.pe)) | ((first | apply Ca | (apply Cb; (· exact nxE))); (· first | exact Ok.e0)) | refine Sx ?_ | (refine Sy (fun h => ?_) (fun h => ?_) <;> try (exfalso; omega; done)) | refine Sz (fun h => ?_) (fun h => ?_))
    refine AW.loop (X := {k : Nat // k ≤ xs.length}) (fun k => ⟨[Oo, Oo, Bx 2 0, Oo, Oo, .own 1 ⟨1, []⟩ 0 i, Oo, Bo (tdAt xs d k.1).ch, Oo, Oo, Oo, Oo, Oo, Oo, Oo, Oo, Oo, Oo, Oo, Oo, Oo, Oo, Oo, Oo, Oo, Oo, Oo, Oo, PL xs, I xs.length, I (k.1 : Nat), Oo, Oo, Oo, Oo, Oo, Oo, Oo, Oo, Oo, Oo, Oo, Oo, Oo, Oo, Oo, Oo, Oo, Oo, Oo, Oo, Oo, Oo, Oo, Oo, Oo, Oo, Oo, Oo, Oo, Oo, Oo, Oo, Oo, Oo, Oo, Oo, Oo, Oo, Oo], heapL [(⟨0, []⟩, ⟨0, []⟩, ⟨2, [[I i, PL xs]]⟩), (⟨1, []⟩, ⟨1, []⟩, IO (rowF i (tdAt xs d k.1).d))], 900⟩) (fun k => xs.length - k.1) ⟨0, Nat.zero_le _⟩ ?_ (fun k => ?_)
    ·
      (apply Le.headZ [_, _] rfl)
      all_goals (try dsimp only [srcs])
      (case' hfr | hob => (repeat' (first | refine La ?_ ?_ | exact Lc | refine Lo ?_ | refine ⟨⟨_, rfl, ?_⟩, ?_⟩ | refine Lx ?_)))
      all_goals (first | (rfl) | exact Ld)
    obtain ⟨k, hk⟩ := k
    simp only
    by_cases hlt2 : k < xs.length
    · have hrow := pl_row (n := 0) hlt2
      obtain ⟨⟨g1, g2⟩, ⟨g3, g4⟩, ⟨g5, g6⟩⟩ := tdPl hv k hlt2
      have hle := (hP k hk).1.le
      have hnn := (hP k hk).1.nn
      have hcnt := cntN_le (d := (tdAt xs d k).d) i
      have hstep : tdAt xs d (k + 1) = tdStep xs (tdAt xs d k) k := rfl
      unfold tdStep at hstep
      simp only [plF, plT] at hstep
      obtain ⟨s, hs⟩ : ∃ s, tdAt xs d k = s := ⟨_, rfl⟩
      rw [hs] at hstep hle hnn hcnt ⊢
      obtain ⟨e, ch⟩ := s
      simp only at hstep hle hnn hcnt ⊢
      generalize plA xs k = p at *
      obtain ⟨pf, pt, pd, pk⟩ := p
      obtain ⟨f, rfl⟩ : ∃ f : Nat, pf = f := ⟨pf.toNat, by simp at g1; omega⟩
      obtain ⟨t, rfl⟩ : ∃ t : Nat, pt = t := ⟨pt.toNat, by simp at g3; omega⟩
      simp only [Int.toNat_natCast] at hrow g2 g4 g5 g6 hstep
      have hF := rowI_at (n := i) (g := e) (show f < i by omega)
      have hT := rowI_at (n := i) (g := e) (show t < i by omega)
      have hlf := hle f
      have hlt3 := hle t
      have hset : (IR (rowF i e)).set t [DI (e f + pk)] = IR (rowF i (fun v => if v = t then e f + pk else e v)) := by rw [IR_set, rowF_set]
      repeat' (first | ((first | apply Ba | (apply Bb; (· rfl); (· rfl)) | (apply Bc; (· exact nxE)) | (apply Bd; (· rfl); (· rfl); (· exact nxE))); (· first | exact Ok.ld1 rfl rfl rfl hF | exact Ok.ld1 rfl rfl rfl hT | exact Ok.st1 rfl rfl rfl (by simp [rowF_len]; omega) (by rw [hT]; rfl) rfl rfl hset | exact Ok.pe)) | ((first | apply Ca | (apply Cb; (· exact nxE))); (· first | exact Ok.st1 rfl rfl rfl (by simp [rowF_len]; omega) (by rw [hT]; rfl) rfl rfl hset | exact Ok.e0)) | refine Sx ?_ | (refine Sy (fun h => ?_) (fun h => ?_) <;> try (exfalso; omega; done)) | refine Sz (fun h => ?_) (fun h => ?_))
      all_goals first
        | (have hno : ¬ (0 ≤ e f ∧ (e t < 0 ∨ e f + pk < e t)) := by omega
           rw [if_neg hno] at hstep
           refine ⟨⟨k + 1, by omega⟩, ?_, by simp only; omega⟩
           simp only
           rw [hstep]
           (apply Le.headZ [_, _] rfl)
           all_goals (try dsimp only [srcs])
           (case' hfr | hob => (repeat' (first | refine La ?_ ?_ | exact Lc | refine Lo ?_ | refine ⟨⟨_, rfl, ?_⟩, ?_⟩ | refine Lx ?_)))
           all_goals (first | (rfl) | exact Ld)
           done)
        | (have hyes : 0 ≤ e f ∧ (e t < 0 ∨ e f + pk < e t) := by omega
           rw [if_pos hyes] at hstep
           refine ⟨⟨k + 1, by omega⟩, ?_, by simp only; omega⟩
           simp only
           rw [hstep]
           (apply Le.headZ [_, _] rfl)
           all_goals (try dsimp only [srcs])
           (case' hfr | hob => (repeat' (first | refine La ?_ ?_ | exact Lc | refine Lo ?_ | refine ⟨⟨_, rfl, ?_⟩, ?_⟩ | refine Lx ?_)))
           all_goals (first | (rfl) | exact Ld)
           done)
    · obtain rfl : k = xs.length := by omega
      obtain ⟨h1, h2⟩ := hP xs.length (Nat.le_refl _)
      repeat' (first | ((first | apply Ba | (apply Bb; (· rfl); (· rfl)) | (apply Bc; (· exact nxE)) | (apply Bd; (· rfl); (· rfl); (· exact nxE))); (· first | exact Ok.pe)) | ((first | apply Ca | (apply Cb; (· exact nxE))); (· first | exact Ok.e0)) | refine Sx ?_ | (refine Sy (fun h => ?_) (fun h => ?_) <;> try (exfalso; omega; done)) | refine Sz (fun h => ?_) (fun h => ?_))
      refine ⟨⟨((tdAt xs d xs.length).d, (tdAt xs d xs.length).ch), h1, fun hc => ?_⟩, ?_, ?_⟩
      · rcases h2 with ⟨_, e2, e3⟩ | ⟨e1, _⟩
        · simp only; rw [e2]; exact hI.fin (tdPl hv) e3
        · simp only at hc; rw [hc] at e1; cases e1
      ·
        (apply Le.headZ [_, _] rfl)
        all_goals (try dsimp only [srcs])
        (case' hfr | hob => (repeat' (first | refine La ?_ ?_ | exact Lc | refine Lo ?_ | refine ⟨⟨_, rfl, ?_⟩, ?_⟩ | refine Lx ?_)))
        all_goals (first | (rfl) | exact Ld)
      · simp only
        rcases h2 with ⟨e1, e2, _⟩ | ⟨e1, e2⟩
        · simp only [e1, e2]; simp
        · simp only [e1]; simp; omega
theorem tdOk {n : Nat} {xs : List Pl} {u : Nat} (hv : ∀ p ∈ xs, okPl n p) (hn : n ≤ 10) (hu : u < n) : TdOk xs u (tdF xs u) := td_exists hn (tdPl hv) _ _ (Nat.le_refl _) (TdInv.start hu)
end Go.Proofs.Ytpgcmpbamlnkkaa
end

section
namespace Go.Proofs.Ytpgcmpbamlnkkaa
set_option linter.unusedSimpArgs false
set_option linter.unusedVariables false
/-! ### Walks along arcs -/
/-- From node u to node v by the nodes of c between them: a walk of at least one arc. W v u: the weight of the arc from u to v. -/
def WM (W : Nat → Nat → Int) : Nat → List Nat → Nat → Prop
  | u, [], v => W v u ≠ BOT
  | u, m :: c, v => W m u ≠ BOT ∧ WM W m c v
def wM (W : Nat → Nat → Int) : Nat → List Nat → Nat → Int
  | u, [], v => W v u
  | u, m :: c, v => W m u + wM W m c v
theorem WM.app {W : Nat → Nat → Int} : ∀ {a b : List Nat} {u k v : Nat}, WM W u (a ++ k :: b) v ↔ WM W u a k ∧ WM W k b v
  | [], b, u, k, v => by simp [WM]
  | x :: a, b, u, k, v => by simp only [List.cons_append, WM, WM.app (a := a)]; exact and_assoc.symm
theorem wM_app {W : Nat → Nat → Int} : ∀ (a b : List Nat) (u k v : Nat), wM W u (a ++ k :: b) v = wM W u a k + wM W k b v
  | [], b, u, k, v => by simp [wM]
  | x :: a, b, u, k, v => by simp only [List.cons_append, wM, wM_app a b]; omega
/-- No closed walk weighs more than nothing. -/
def NoPos (W : Nat → Nat → Int) (n : Nat) : Prop := ∀ (u : Nat) (c : List Nat), u < n → (∀ x ∈ c, x < n) → WM W u c u → wM W u c u ≤ 0
/-- A walk without a node twice, and not less heavy. -/
theorem walk_short {W : Nat → Nat → Int} {n : Nat} (hn : NoPos W n) : ∀ (m : Nat) (c : List Nat) (u v : Nat), c.length ≤ m → u < n → (∀ x ∈ c, x < n) → WM W u c v → ∃ c', WM W u c' v ∧ c'.length + 1 ≤ n ∧ (∀ x ∈ c', x < n) ∧ wM W u c v ≤ wM W u c' v
  | m, c, u, v, hm, hu, hc, h => by
    by_cases hnd : ((u :: c).map id).Nodup
    · exact ⟨c, h, by simpa using nodup_le n (u :: c) (by simpa using hnd) (fun x hx => by
        rcases List.mem_cons.1 hx with rfl | hx
        · exact hu
        · exact hc x hx), hc, Int.le_refl _⟩
    · by_cases huc : u ∈ c
      · obtain ⟨a, e, rfl⟩ := List.append_of_mem huc
        rw [WM.app] at h
        cases m with
        | zero => simp at hm
        | succ m =>
          have hp := hn u a hu (fun x hx => hc x (by simp [hx])) h.1
          obtain ⟨c', g1, g2, g3, g4⟩ := walk_short hn m e u v (by simp at hm ⊢; omega) hu (fun x hx => hc x (by simp [hx])) h.2
          exact ⟨c', g1, g2, g3, by rw [wM_app]; omega⟩
      · have hnd2 : ¬ (c.map id).Nodup := fun h2 => hnd (by simp at h2 ⊢; exact ⟨huc, h2⟩)
        obtain ⟨a, i, b, j, e, rfl, hij⟩ := not_nodup_split hnd2
        simp only [id] at hij
        subst hij
        rw [WM.app] at h
        obtain ⟨h1, h2⟩ := h
        rw [WM.app] at h1
        obtain ⟨h3, h4⟩ := h1
        cases m with
        | zero => simp at hm
        | succ m =>
          have hp := hn i b (hc i (by simp)) (fun x hx => hc x (by simp [hx])) h4
          obtain ⟨c', g1, g2, g3, g4⟩ := walk_short hn m (a ++ i :: e) u v (by simp at hm ⊢; omega) hu (fun x hx => hc x (by
            simp only [List.mem_append, List.mem_cons] at hx ⊢
            rcases hx with hx | hx | hx
            · exact .inl (.inl hx)
            · exact .inr (.inl hx)
            · exact .inr (.inr hx))) (by rw [WM.app]; exact ⟨h3, h2⟩)
          refine ⟨c', g1, g2, g3, ?_⟩
          rw [wM_app] at g4
          rw [wM_app, wM_app]
          omega
theorem wM_le {W : Nat → Nat → Int} {M : Int} (hW : ∀ u v, W v u ≠ BOT → -M ≤ W v u ∧ W v u ≤ M) : ∀ {c : List Nat} {u v : Nat}, WM W u c v → -M * (c.length + 1) ≤ wM W u c v ∧ wM W u c v ≤ M * (c.length + 1)
  | [], u, v, h => by
    have := hW u v h
    simp only [wM, List.length_nil]
    constructor <;> simp <;> omega
  | m :: c, u, v, h => by
    have h1 := hW u m h.1
    have h2 := wM_le hW h.2
    simp only [wM, List.length_cons, Int.natCast_add, Int.mul_add] at h2 ⊢
    have e : -M * ((c.length : Int)) = -(M * c.length) := Int.neg_mul _ _
    rw [e] at h2 ⊢
    simp at h2 ⊢
    omega
/-- The star: what is told, node by node. -/
structure StarOk (W : Nat → Nat → Int) (n : Nat) (s : Nat → Nat → Int) : Prop where
  some : ∀ u v, u < n → v < n → s v u = BOT ∨ (u = v ∧ s v u = 0) ∨ ∃ c, WM W u c v ∧ (∀ x ∈ c, x < n) ∧ s v u = wM W u c v
  dia : ∀ u, u < n → s u u ≠ BOT ∧ 0 ≤ s u u
  all : ∀ u v c, u < n → v < n → (∀ x ∈ c, x < n) → WM W u c v → s v u ≠ BOT ∧ wM W u c v ≤ s v u
theorem StarOk.uniq {W : Nat → Nat → Int} {n : Nat} {s s' : Nat → Nat → Int} (h : StarOk W n s) (h' : StarOk W n s') {u v : Nat} (hu : u < n) (hv : v < n) : s v u = s' v u := by
  rcases h.some u v hu hv with e | ⟨e1, e2⟩ | ⟨c, c1, c2, c3⟩
  · rcases h'.some u v hu hv with e' | ⟨e1', e2'⟩ | ⟨c', c1', c2', c3'⟩
    · rw [e, e']
    · subst e1'; exact absurd e (h.dia u hu).1
    · exact absurd e (h.all u v c' hu hv c2' c1').1
  · subst e1
    have := h'.dia u hu
    rcases h'.some u u hu hu with e' | ⟨_, e2'⟩ | ⟨c', c1', c2', c3'⟩
    · exact absurd e' this.1
    · omega
    · have := h.all u u c' hu hu c2' c1'; omega
  · have h1 := h'.all u v c hu hv c2 c1
    rcases h'.some u v hu hv with e' | ⟨e1', e2'⟩ | ⟨c', c1', c2', c3'⟩
    · exact absurd e' h1.1
    · subst e1'; have := (h.dia u hu).2; omega
    · have := h.all u v c' hu hv c2' c1'; omega
/-! ### The star by tripling nodes (Floyd, Warshall), in place -/
def timesB (a b : Int) : Int := if a = BOT ∨ b = BOT then BOT else a + b
structure FW (W : Nat → Nat → Int) (n : Nat) (M : Int) (k : Nat) (s : Nat → Nat → Int) : Prop where
  some : ∀ u v, u < n → v < n → s v u = BOT ∨ (u = v ∧ s v u = 0) ∨ ∃ c, WM W u c v ∧ (∀ x ∈ c, x < n) ∧ s v u = wM W u c v
  dia : ∀ u, u < n → s u u ≠ BOT ∧ 0 ≤ s u u
  all : ∀ u v c, u < n → v < n → (∀ x ∈ c, x < k) → WM W u c v → s v u ≠ BOT ∧ wM W u c v ≤ s v u
  low : ∀ u v, u < n → v < n → s v u ≠ BOT → -(M * 2 ^ k) ≤ s v u
theorem star_hi {W : Nat → Nat → Int} {n : Nat} {M : Int} (hn : NoPos W n) (hM : 0 ≤ M) (hW : ∀ u v, W v u ≠ BOT → -M ≤ W v u ∧ W v u ≤ M) {s : Nat → Nat → Int} (h : ∀ u v, u < n → v < n → s v u = BOT ∨ (u = v ∧ s v u = 0) ∨ ∃ c, WM W u c v ∧ (∀ x ∈ c, x < n) ∧ s v u = wM W u c v) {u v : Nat} (hu : u < n) (hv : v < n) : s v u ≤ M * n := by
  have h0 : 0 ≤ M * n := Int.mul_nonneg hM (by omega)
  rcases h u v hu hv with e | ⟨_, e⟩ | ⟨c, h1, h2, e⟩
  · rw [e]; simp only [BOT]; omega
  · omega
  · obtain ⟨c', g1, g2, g3, g4⟩ := walk_short hn c.length c u v (Nat.le_refl _) hu h2 h1
    have h5 := (wM_le hW g1).2
    have h6 : M * ((c'.length : Int) + 1) ≤ M * n := Int.mul_le_mul_of_nonneg_left (by omega) hM
    omega
theorem star_dia0 {W : Nat → Nat → Int} {n : Nat} (hn : NoPos W n) {s : Nat → Nat → Int} (h : ∀ u v, u < n → v < n → s v u = BOT ∨ (u = v ∧ s v u = 0) ∨ ∃ c, WM W u c v ∧ (∀ x ∈ c, x < n) ∧ s v u = wM W u c v) (hd : ∀ u, u < n → s u u ≠ BOT ∧ 0 ≤ s u u) {k : Nat} (hk : k < n) : s k k = 0 := by
  have h1 := hd k hk
  rcases h k k hk hk with e | ⟨_, e⟩ | ⟨c, h2, h3, e⟩
  · exact absurd e h1.1
  · exact e
  · have := hn k c hk h3 h2; omega
def fwS (s : Nat → Nat → Int) (k : Nat) : Nat → Nat → Int := fun i j => max (s i j) (timesB (s i k) (s k j))
theorem timesB_ne {a b : Int} (ha : a ≠ BOT) (hb : b ≠ BOT) : timesB a b = a + b := by simp [timesB, ha, hb]
theorem zero_ne_bot : (0 : Int) ≠ BOT := by decide
theorem timesB_0 {a : Int} : timesB a 0 = a := by
  by_cases h : a = BOT
  · rw [timesB, if_pos (.inl h), h]
  · rw [timesB_ne h zero_ne_bot]; omega
theorem timesB_0' {a : Int} : timesB 0 a = a := by
  by_cases h : a = BOT
  · rw [timesB, if_pos (.inr h), h]
  · rw [timesB_ne zero_ne_bot h]; omega
theorem FW.step {W : Nat → Nat → Int} {n k : Nat} {M : Int} {s : Nat → Nat → Int} (hn : NoPos W n) (hM : 0 ≤ M) (hMb : M * 2 ^ (k + 1) < 1000000000000000) (hk : k < n) (h : FW W n M k s) : FW W n M (k + 1) (fwS s k) ∧ (∀ i, i < n → fwS s k i k = s i k) ∧ ∀ j, j < n → fwS s k k j = s k j := by
  have hkk := star_dia0 hn h.some h.dia hk
  have hpow : M * 2 ^ (k + 1) = M * 2 ^ k * 2 := by rw [Int.pow_succ, Int.mul_assoc]
  have hp0 : 0 ≤ M * 2 ^ k := Int.mul_nonneg hM (Int.pow_nonneg (by omega))
  have hge : ∀ v u, s v u ≤ fwS s k v u := fun v u => by simp only [fwS]; omega
  have hbot : ∀ v u, u < n → v < n → BOT ≤ s v u := fun v u hu hv => by
    by_cases e : s v u = BOT
    · omega
    · have := h.low u v hu hv e; simp only [BOT]; omega
  have hmono : ∀ v u, u < n → v < n → s v u ≠ BOT → fwS s k v u ≠ BOT := fun v u hu hv hne => by
    have h1 := hge v u
    have h2 := hbot v u hu hv
    omega
  refine ⟨⟨fun u v hu hv => ?_, fun u hu => ⟨hmono u u hu hu (h.dia u hu).1, by have := hge u u; have := (h.dia u hu).2; omega⟩, fun u v c hu hv hc hw => ?_, fun u v hu hv hne => ?_⟩, fun i hi => ?_, fun j hj => ?_⟩
  · by_cases hb : timesB (s v k) (s k u) ≤ s v u
    · have e : fwS s k v u = s v u := by simp only [fwS]; omega
      rw [e]; exact h.some u v hu hv
    · have e : fwS s k v u = timesB (s v k) (s k u) := by simp only [fwS]; omega
      rw [e]
      have h1 : s v k ≠ BOT := fun e1 => hb (by rw [timesB, if_pos (.inl e1)]; exact hbot v u hu hv)
      have h2 : s k u ≠ BOT := fun e1 => hb (by rw [timesB, if_pos (.inr e1)]; exact hbot v u hu hv)
      rw [timesB_ne h1 h2]
      right
      rcases h.some k v hk hv with e1 | ⟨e1, e2⟩ | ⟨c2, g1, g2, g3⟩
      · exact absurd e1 h1
      · rw [e2, Int.zero_add, ← e1]
        rcases h.some u k hu hk with e3 | e3 | e3
        · exact absurd e3 h2
        · exact .inl e3
        · exact .inr e3
      · rcases h.some u k hu hk with e3 | ⟨e3, e4⟩ | ⟨c1, g4, g5, g6⟩
        · exact absurd e3 h2
        · rw [e4, Int.add_zero, e3]
          exact .inr ⟨c2, g1, g2, g3⟩
        · refine .inr ⟨c1 ++ k :: c2, by rw [WM.app]; exact ⟨g4, g1⟩, fun x hx => ?_, by rw [wM_app, g3, g6]; omega⟩
          simp only [List.mem_append, List.mem_cons] at hx
          rcases hx with hx | hx | hx
          · exact g5 x hx
          · omega
          · exact g2 x hx
  · have key : ∀ (m : Nat) (c : List Nat), c.length ≤ m → (∀ x ∈ c, x < k + 1) → WM W u c v → fwS s k v u ≠ BOT ∧ wM W u c v ≤ fwS s k v u := by
      intro m
      induction m with
      | zero =>
        intro c hm hc hw
        obtain rfl : c = [] := List.length_eq_zero_iff.1 (by omega)
        have := h.all u v [] hu hv (by simp) hw
        exact ⟨hmono v u hu hv this.1, Int.le_trans this.2 (hge v u)⟩
      | succ m ih =>
        intro c hm hc hw
        by_cases hkc : k ∈ c
        · obtain ⟨a, e, he, hka⟩ := List.eq_append_cons_of_mem hkc
          subst he
          by_cases hke : k ∈ e
          · obtain ⟨b, e', rfl⟩ := List.append_of_mem hke
            rw [WM.app, WM.app] at hw
            have hp := hn k b hk (fun x hx => by have := hc x (by simp [hx]); omega) hw.2.1
            have := ih (a ++ k :: e') (by simp at hm ⊢; omega) (fun x hx => hc x (by
              simp only [List.mem_append, List.mem_cons] at hx ⊢
              rcases hx with hx | hx | hx
              · exact .inl hx
              · exact .inr (.inl hx)
              · exact .inr (.inr (.inr (.inr hx))))) (by rw [WM.app]; exact ⟨hw.1, hw.2.2⟩)
            refine ⟨this.1, ?_⟩
            rw [wM_app, wM_app]
            have h2 := this.2
            rw [wM_app] at h2
            omega
          · rw [WM.app] at hw
            have hlt : ∀ x, x < k + 1 → x ≠ k → x < k := fun x h1 h2 => by omega
            have h1 := h.all u k a hu hk (fun x hx => hlt x (hc x (by simp [hx])) (fun e2 => hka (e2 ▸ hx))) hw.1
            have h2 := h.all k v e hk hv (fun x hx => hlt x (hc x (by simp [hx])) (fun e2 => hke (e2 ▸ hx))) hw.2
            have h3 : timesB (s v k) (s k u) ≤ fwS s k v u := by simp only [fwS]; omega
            rw [timesB_ne h2.1 h1.1] at h3
            have h4 := h.low u k hu hk h1.1
            have h5 := h.low k v hk hv h2.1
            rw [wM_app]
            refine ⟨fun e2 => ?_, by omega⟩
            simp only [BOT] at e2
            omega
        · have := h.all u v c hu hv (fun x hx => by have := hc x hx; have : x ≠ k := fun e2 => hkc (e2 ▸ hx); omega) hw
          exact ⟨hmono v u hu hv this.1, Int.le_trans this.2 (hge v u)⟩
    exact key c.length c (Nat.le_refl _) hc hw
  · rw [hpow]
    by_cases hb : timesB (s v k) (s k u) ≤ s v u
    · have e : fwS s k v u = s v u := by simp only [fwS]; omega
      rw [e] at hne ⊢
      have := h.low u v hu hv hne
      omega
    · have e : fwS s k v u = timesB (s v k) (s k u) := by simp only [fwS]; omega
      rw [e] at hne ⊢
      have h1 : s v k ≠ BOT := fun e1 => hne (by rw [timesB, if_pos (.inl e1)])
      have h2 : s k u ≠ BOT := fun e1 => hne (by rw [timesB, if_pos (.inr e1)])
      rw [timesB_ne h1 h2]
      have h3 := h.low k v hk hv h1
      have h4 := h.low u k hu hk h2
      omega
  · simp only [fwS, hkk, timesB_0]; omega
  · simp only [fwS, hkk, timesB_0']; omega
theorem FW.start {W : Nat → Nat → Int} {n : Nat} {M : Int} (hM : 0 ≤ M) (hMb : M < 1000000000000000) (hW : ∀ u v, W v u ≠ BOT → -M ≤ W v u ∧ W v u ≤ M) : FW W n M 0 (fun i j => max (W i j) (if i = j then 0 else BOT)) := by
  have hWb : ∀ u v, BOT ≤ W v u := fun u v => by
    by_cases e : W v u = BOT
    · omega
    · have := (hW u v e).1; simp only [BOT]; omega
  refine ⟨fun u v hu hv => ?_, fun u hu => ?_, fun u v c hu hv hc hw => ?_, fun u v hu hv hne => ?_⟩
  · have h1 := hWb u v
    by_cases e : v = u
    · subst e
      simp only [if_true]
      by_cases h2 : W v v ≤ 0
      · right; left; exact ⟨by trivial, by omega⟩
      · right; right; exact ⟨[], by simp only [WM, BOT]; omega, by simp, by simp only [wM]; omega⟩
    · simp only [if_neg e]
      by_cases h2 : W v u = BOT
      · left; omega
      · right; right; exact ⟨[], h2, by simp, by simp only [wM]; omega⟩
  · simp only [if_true, BOT]; constructor <;> omega
  · obtain rfl : c = [] := by cases c with
      | nil => rfl
      | cons x c => exact absurd (hc x (by simp)) (by omega)
    have h1 : W v u ≠ BOT := hw
    have h2 := hWb u v
    simp only [wM]
    constructor
    · intro e; apply h1; split at e <;> omega
    · omega
  · by_cases h2 : W v u = BOT
    · rw [h2] at hne ⊢
      by_cases e : v = u
      · rw [if_pos e]; simp only [BOT, Int.pow_zero, Int.mul_one]; omega
      · rw [if_neg e] at hne; exact absurd (by omega) hne
    · have := (hW u v h2).1
      simp only [Int.pow_zero, Int.mul_one]
      omega
theorem FW.star {W : Nat → Nat → Int} {n : Nat} {M : Int} {s : Nat → Nat → Int} (h : FW W n M n s) : StarOk W n s := ⟨h.some, h.dia, h.all⟩
/-! ### The star by powers -/
def unitF (i j : Nat) : Int := if i = j then 0 else BOT
def maxN (f : Nat → Int) : Nat → Int
  | 0 => BOT
  | k + 1 => max (maxN f k) (f k)
theorem maxN_ge {f : Nat → Int} : ∀ {n k : Nat}, k < n → f k ≤ maxN f n
  | 0, k, h => by omega
  | n + 1, k, h => by
    simp only [maxN]
    by_cases e : k = n
    · subst e; omega
    · have := maxN_ge (f := f) (show k < n by omega); omega
theorem maxN_at {f : Nat → Int} : ∀ {n : Nat}, maxN f n = BOT ∨ ∃ k, k < n ∧ maxN f n = f k
  | 0 => .inl rfl
  | n + 1 => by
    simp only [maxN]
    rcases maxN_at (f := f) (n := n) with e | ⟨k, hk, e⟩
    · by_cases h : f n ≤ maxN f n
      · left; omega
      · right; exact ⟨n, by omega, by omega⟩
    · by_cases h : f n ≤ maxN f n
      · right; exact ⟨k, by omega, by omega⟩
      · right; exact ⟨n, by omega, by omega⟩
def powS (W : Nat → Nat → Int) (n : Nat) (s : Nat → Nat → Int) : Nat → Nat → Int := fun i j => max (unitF i j) (maxN (fun k => timesB (W i k) (s k j)) n)
def powN (W : Nat → Nat → Int) (n : Nat) : Nat → Nat → Nat → Int
  | 0 => unitF
  | m + 1 => powS W n (powN W n m)
structure PX (W : Nat → Nat → Int) (n : Nat) (M : Int) (m : Nat) (s : Nat → Nat → Int) : Prop where
  some : ∀ u v, u < n → v < n → s v u = BOT ∨ (u = v ∧ s v u = 0) ∨ ∃ c, WM W u c v ∧ (∀ x ∈ c, x < n) ∧ s v u = wM W u c v
  dia : ∀ u, u < n → s u u ≠ BOT ∧ 0 ≤ s u u
  all : ∀ u v c, u < n → v < n → c.length + 1 ≤ m → (∀ x ∈ c, x < n) → WM W u c v → s v u ≠ BOT ∧ wM W u c v ≤ s v u
  bnd : ∀ u v, u < n → v < n → s v u ≠ BOT → -(M * m) ≤ s v u ∧ s v u ≤ M * m
theorem PX.start {W : Nat → Nat → Int} {n : Nat} {M : Int} : PX W n M 0 unitF := by
  refine ⟨fun u v hu hv => ?_, fun u hu => ⟨by simp only [unitF, if_true]; exact zero_ne_bot, by simp [unitF]⟩, fun u v c hu hv hc => by omega, fun u v hu hv hne => ?_⟩
  · unfold unitF
    by_cases e : v = u
    · subst e; exact .inr (.inl ⟨rfl, by simp⟩)
    · exact .inl (by simp [e])
  · unfold unitF at hne ⊢
    split at hne <;> simp_all
/-- The last node of a walk ahead of its end. -/
theorem WM.lastArc {W : Nat → Nat → Int} : ∀ {c : List Nat} {u v : Nat}, WM W u c v → (c = [] ∧ W v u ≠ BOT) ∨ ∃ c' k, c = c' ++ [k] ∧ WM W u c' k ∧ W v k ≠ BOT ∧ wM W u c v = wM W u c' k + W v k
  | [], u, v, h => .inl ⟨rfl, h⟩
  | m :: c, u, v, h => by
    right
    rcases h.2.lastArc with ⟨e, h1⟩ | ⟨c', k, e, h1, h2, h3⟩
    · subst e; exact ⟨[], m, rfl, h.1, h1, by simp [wM]⟩
    · subst e
      refine ⟨m :: c', k, rfl, ⟨h.1, h1⟩, h2, ?_⟩
      simp only [List.cons_append, wM] at h3 ⊢
      omega
theorem PX.step {W : Nat → Nat → Int} {n m : Nat} {M : Int} {s : Nat → Nat → Int} (hM : 0 ≤ M) (hMb : M * (m + 1) < 1000000000000000) (hW : ∀ u v, W v u ≠ BOT → -M ≤ W v u ∧ W v u ≤ M) (h : PX W n M m s) : PX W n M (m + 1) (powS W n s) := by
  have e1 : M * ((m : Int) + 1) = M * m + M := by rw [Int.mul_add, Int.mul_one]
  have hm0 : 0 ≤ M * (m : Int) := Int.mul_nonneg hM (by omega)
  have hub : ∀ i j, BOT ≤ unitF i j := fun i j => by unfold unitF; split <;> simp only [BOT] <;> omega
  refine ⟨fun u v hu hv => ?_, fun u hu => ?_, fun u v c hu hv hl hc hw => ?_, fun u v hu hv hne => ?_⟩
  · unfold powS
    by_cases hb : maxN (fun k => timesB (W v k) (s k u)) n ≤ unitF v u
    · have e : max (unitF v u) (maxN (fun k => timesB (W v k) (s k u)) n) = unitF v u := by omega
      rw [e]
      unfold unitF
      by_cases e2 : v = u
      · subst e2; exact .inr (.inl ⟨rfl, by simp⟩)
      · exact .inl (by simp [e2])
    · have e : max (unitF v u) (maxN (fun k => timesB (W v k) (s k u)) n) = maxN (fun k => timesB (W v k) (s k u)) n := by omega
      rw [e]
      rcases maxN_at (f := fun k => timesB (W v k) (s k u)) (n := n) with e2 | ⟨k, hk, e2⟩
      · exact .inl e2
      · rw [e2]
        by_cases h1 : W v k = BOT
        · left; simp [timesB, h1]
        · by_cases h2 : s k u = BOT
          · left; simp [timesB, h2]
          · simp only [timesB_ne h1 h2]
            right; right
            rcases h.some u k hu hk with e3 | ⟨e3, e4⟩ | ⟨c, g1, g2, g3⟩
            · exact absurd e3 h2
            · subst e3; exact ⟨[], h1, by simp, by simp [wM, e4]⟩
            · refine ⟨c ++ [k], by rw [WM.app]; exact ⟨g1, h1⟩, fun x hx => ?_, by rw [wM_app, g3]; simp [wM]; omega⟩
              simp only [List.mem_append, List.mem_singleton] at hx
              rcases hx with hx | hx
              · exact g2 x hx
              · omega
  · unfold powS unitF; simp only [if_true, BOT]; constructor <;> omega
  · rcases hw.lastArc with ⟨e, h1⟩ | ⟨c', k, e, h1, h2, h3⟩
    · subst e
      have h4 := maxN_ge (f := fun k => timesB (W v k) (s k u)) hu
      have h5 := h.dia u hu
      simp only [timesB_ne h1 h5.1] at h4
      have h6 := hW u v h1
      unfold powS
      simp only [wM]
      refine ⟨fun e => ?_, by omega⟩
      simp only [BOT] at e; omega
    · subst e
      have hk : k < n := hc k (by simp)
      have h5 := h.all u k c' hu hk (by simp at hl; omega) (fun x hx => hc x (by simp [hx])) h1
      have h4 := maxN_ge (f := fun k => timesB (W v k) (s k u)) hk
      simp only [timesB_ne h2 h5.1] at h4
      have h6 := hW k v h2
      have h7 := h.bnd u k hu hk h5.1
      unfold powS
      rw [h3]
      refine ⟨fun e => ?_, by omega⟩
      simp only [BOT] at e; omega
  · unfold powS at hne ⊢
    simp only [Int.natCast_add, Int.natCast_one, e1]
    by_cases hb : maxN (fun k => timesB (W v k) (s k u)) n ≤ unitF v u
    · have e : max (unitF v u) (maxN (fun k => timesB (W v k) (s k u)) n) = unitF v u := by omega
      rw [e] at hne ⊢
      unfold unitF at hne ⊢
      split at hne
      · rename_i e2; rw [if_pos e2]; omega
      · exact absurd rfl hne
    · have e : max (unitF v u) (maxN (fun k => timesB (W v k) (s k u)) n) = maxN (fun k => timesB (W v k) (s k u)) n := by omega
      rw [e] at hne ⊢
      rcases maxN_at (f := fun k => timesB (W v k) (s k u)) (n := n) with e2 | ⟨k, hk, e2⟩
      · exact absurd e2 hne
      · rw [e2] at hne ⊢
        by_cases h1 : W v k = BOT
        · exact absurd (by simp [timesB, h1]) hne
        · by_cases h2 : s k u = BOT
          · exact absurd (by simp [timesB, h2]) hne
          · simp only [timesB_ne h1 h2]
            have h6 := hW k v h1
            have h7 := h.bnd u k hu hk h2
            omega
theorem PX.star {W : Nat → Nat → Int} {n m : Nat} {M : Int} {s : Nat → Nat → Int} (hn : NoPos W n) (hm : n ≤ m) (h : PX W n M m s) : StarOk W n s := by
  refine ⟨h.some, h.dia, fun u v c hu hv hc hw => ?_⟩
  obtain ⟨c', g1, g2, g3, g4⟩ := walk_short hn c.length c u v (Nat.le_refl _) hu hc hw
  have := h.all u v c' hu hv (by omega) g3 g1
  exact ⟨this.1, by omega⟩
theorem powN_px {W : Nat → Nat → Int} {n : Nat} {M : Int} (hM : 0 ≤ M) (hW : ∀ u v, W v u ≠ BOT → -M ≤ W v u ∧ W v u ≤ M) : ∀ m : Nat, M * (m + 1) < 1000000000000000 → PX W n M m (powN W n m)
  | 0, _ => PX.start
  | m + 1, h => by
    have e1 : M * (((m + 1 : Nat) : Int) + 1) = M * ((m : Int) + 1) + M := by rw [Int.natCast_add, Int.mul_add]; simp
    exact PX.step hM (by omega) hW (powN_px hM hW m (by omega))
noncomputable def starF (W : Nat → Nat → Int) (n : Nat) : Nat → Nat → Int := open Classical in if h : ∃ s, StarOk W n s then Classical.choose h else fun _ _ => 0
theorem starF_eq {W : Nat → Nat → Int} {n : Nat} {s : Nat → Nat → Int} (h : StarOk W n s) {u v : Nat} (hu : u < n) (hv : v < n) : starF W n v u = s v u := by
  have he : ∃ s, StarOk W n s := ⟨s, h⟩
  unfold starF
  rw [dif_pos he]
  exact (Classical.choose_spec he).uniq h hu hv
end Go.Proofs.Ytpgcmpbamlnkkaa
end

section
namespace Go.Proofs.Ytpgcmpbamlnkkaa
set_option linter.unusedSimpArgs false
set_option linter.unusedVariables false
open Go Go.RowKit
attribute [local irreducible] AL AD AW OpOk Le AC thenQ blockQ EndQ

theorem set_at {rows : List (List AV)} {i : Nat} {x : List AV} (h : i < rows.length) : (rows.set i x)[0 + ((i : Nat) : Int).toNat]? = some x := by simp [h]
def zz : Nat → Nat → Int := fun _ _ => 0
theorem zz_snoc {f : Nat → Nat → Int} {i n : Nat} : TR (tabF (i + 1) n (mixF f zz i 0)) = TR (tabF i n (mixF f zz i 0)) ++ [List.replicate n [DI 0]] := by
  have h : IR (rowF n (mixF f zz i 0 i)) = List.replicate n [DI 0] := by
    have e : rowF n (mixF f zz i 0 i) = List.replicate n 0 := by
      apply List.ext_getElem?
      intro j
      by_cases hj : j < n
      · rw [rowF_get hj, List.getElem?_replicate, if_pos hj]; simp [mixF, zz]
      · rw [List.getElem?_eq_none (by rw [rowF_len]; omega), List.getElem?_eq_none (by simp; omega)]
    rw [e]; simp
  rw [← h]
  simp [tabF, List.range_succ]
theorem Cc {H : Heap} {lent : List Loc} {cs vs : List AV} {fn : Fn} (h : CA H lent cs vs) : CA H lent (.clo fn [] [] :: cs) (.clo fn [] [] :: vs) := ARs.cons (AR.clo' ARs.nil ARs.nil) h
abbrev hs2 (x y : D) : HL := [(⟨0, []⟩, ⟨0, []⟩, ⟨1, [[.d x]]⟩), (⟨1, []⟩, ⟨1, []⟩, ⟨1, [[.d y]]⟩)]
abbrev addF (a b : List (List Int)) : Nat → Nat → Int := fun i j => max (entN a i j) (entN b i j)
end Go.Proofs.Ytpgcmpbamlnkkaa
end

section
namespace Go.Proofs.Ytpgcmpbamlnkkaa
set_option linter.unusedSimpArgs false
set_option linter.unusedVariables false
open Go Go.RowKit
attribute [local irreducible] AL AD AW OpOk Le AC thenQ blockQ EndQ

def fwN (W : Nat → Nat → Int) : Nat → Nat → Nat → Int
  | 0 => fun i j => max (W i j) (if i = j then 0 else BOT)
  | k + 1 => fwS (fwN W k) k
/-- A matrix whose star can be told. -/
structure StarM (t : List (List Int)) (n : Nat) : Prop where
  rc : Rc t n n
  n0 : 0 < n
  nn : n ≤ 10
  bnd : ∀ u v, entN t v u ≠ BOT → -100000000000 ≤ entN t v u ∧ entN t v u ≤ 100000000000
  np : NoPos (entN t) n
theorem pow_le10 {k : Nat} (h : k ≤ 10) : (2 : Int) ^ k ≤ 1024 := by
  have : k = 0 ∨ k = 1 ∨ k = 2 ∨ k = 3 ∨ k = 4 ∨ k = 5 ∨ k = 6 ∨ k = 7 ∨ k = 8 ∨ k = 9 ∨ k = 10 := by omega
  rcases this with rfl | rfl | rfl | rfl | rfl | rfl | rfl | rfl | rfl | rfl | rfl <;> decide
theorem StarM.fw {t : List (List Int)} {n : Nat} (h : StarM t n) : ∀ k, k ≤ n → FW (entN t) n 100000000000 k (fwN (entN t) k)
  | 0, _ => FW.start (by decide) (by decide) h.bnd
  | k + 1, hk => by
    have h2 := pow_le10 (show k + 1 ≤ 10 by have := h.nn; omega)
    exact (FW.step h.np (by decide) (by omega) (by omega) (h.fw k (by omega))).1
theorem StarM.cells {t : List (List Int)} {n : Nat} (h : StarM t n) {k : Nat} (hk : k ≤ n) {i j : Nat} (hi : i < n) (hj : j < n) : fwN (entN t) k i j = BOT ∨ (-102400000000000 ≤ fwN (entN t) k i j ∧ fwN (entN t) k i j ≤ 1000000000000) := by
  have hf := h.fw k hk
  have hn := h.nn
  have h2 := pow_le10 (show k ≤ 10 by omega)
  by_cases e : fwN (entN t) k i j = BOT
  · exact .inl e
  · right
    have h3 := hf.low j i hj hi e
    have h4 := star_hi h.np (by decide) h.bnd hf.some hj hi
    omega
theorem StarM.star {t : List (List Int)} {n : Nat} (h : StarM t n) {i j : Nat} (hi : i < n) (hj : j < n) : starF (entN t) n i j = fwN (entN t) n i j := starF_eq (h.fw n (Nat.le_refl _)).star hj hi
theorem StarM.tab {t : List (List Int)} {n : Nat} (h : StarM t n) : tabF n n (fwN (entN t) n) = tabF n n (starF (entN t) n) := tabF_congr fun i j hi hj => (h.star hi hj).symm
theorem StarM.ok {t : List (List Int)} {n : Nat} (h : StarM t n) : StarOk (entN t) n (starF (entN t) n) := by
  unfold starF
  have he : ∃ s, StarOk (entN t) n s := ⟨_, (h.fw n (Nat.le_refl _)).star⟩
  rw [dif_pos he]
  exact Classical.choose_spec he
end Go.Proofs.Ytpgcmpbamlnkkaa
end

section
namespace Go.Proofs.Ytpgcmpbamlnkkaa
set_option linter.unusedSimpArgs false
set_option linter.unusedVariables false
open Go Go.RowKit
attribute [local irreducible] AL AD AW OpOk Le AC thenQ blockQ EndQ

noncomputable def perL (f : Nat → Nat) (z : Nat) : Nat := open Classical in if h : ∃ L, Per f z L then Classical.choose h else 0
theorem perL_eq {f : Nat → Nat} {z L : Nat} (h : Per f z L) : perL f z = L := by
  have he : ∃ L, Per f z L := ⟨L, h⟩
  unfold perL
  rw [dif_pos he]
  exact Per.uniq (Classical.choose_spec he) h
abbrev predF (xs : List Pl) (y : Nat → Nat) : Nat → Nat := fun v => plF xs (y v)
noncomputable def btL (xs : List Pl) (n : Nat) (s : BF) : List Nat := (backC s.y (predF xs s.y) (iter (predF xs s.y) n s.last.toNat) (perL (predF xs s.y) (iter (predF xs s.y) n s.last.toNat))).reverse
theorem btL_eq {xs : List Pl} {n : Nat} {r : Int × Int} {s : BF} {v z L : Nat} (h : Found xs n r s v z L) : btL xs n s = (backC s.y (predF xs s.y) z L).reverse := by
  unfold btL
  rw [h.last, Int.toNat_natCast]
  have e : iter (predF xs s.y) n v = z := h.zv
  rw [e, perL_eq h.per]
/-- Before round q + 1. -/
structure BtSt (xs : List Pl) (n : Nat) (r : Int × Int) (q : Nat) (s : BF) : Prop where
  le : q ≤ n + 1
  run : bfRun xs r (n + 1) bf0 = bfRun xs r (n + 1 - q) s
  bnd : ∀ v, 0 ≤ s.b v ∧ s.b v ≤ 30000000 * (q : Int)
end Go.Proofs.Ytpgcmpbamlnkkaa
end
