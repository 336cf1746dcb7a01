/-
  Walks in the abstract reading, part 7.
-/
import Derived.Test.YtegfjedklebbfaaKU6
import Derived.Test.YtegfjedklebbfaaKU3
import Derived.Test.YtegfjedklebbfaaKU4
import Derived.Test.YtegfjedklebbfaaKU5
section
namespace Go.Proofs.Ytegfjedklebbfaa
open Go Go.RowKit
set_option linter.unusedSimpArgs false
set_option linter.unusedVariables false
attribute [local irreducible] AL AD AW OpOk Le AC thenQ blockQ EndQ

/-- The inverse of an edit that is possible. -/
def invE (xs : List Pl) (e : Ed) : Ed := if e.kind = 1 then ⟨2, e.idx, plZ⟩ else ⟨if e.kind = 2 then 1 else 3, e.idx, (xs[e.idx.toNat]?).getD plZ⟩
def edNil : Ed := ⟨0, 0, plZ⟩
/-- The places behind the first k edits; the inverses of the first k edits, in order; are the first k possible? -/
def edsAt (xs : List Pl) (es : List Ed) (k : Nat) : List Pl := (es.take k).foldl edL xs
def bksAt (xs : List Pl) (es : List Ed) (k : Nat) : List Ed := (List.range k).map fun j => invE (edsAt xs es j) ((es[j]?).getD edNil)
def okAt (ev : Int) (xs : List Pl) (es : List Ed) (k : Nat) : Bool := (List.range k).all fun j => canEd ev (edsAt xs es j) ((es[j]?).getD edNil)
theorem edsAt_0 {xs : List Pl} {es : List Ed} : edsAt xs es 0 = xs := by simp [edsAt]
theorem edsAt_succ {xs : List Pl} {es : List Ed} {k : Nat} {e : Ed} (h : es[k]? = some e) : edsAt xs es (k + 1) = edL (edsAt xs es k) e := by
  obtain ⟨hk, rfl⟩ := List.getElem?_eq_some_iff.1 h
  rw [edsAt, List.take_succ_eq_append_getElem hk, List.foldl_append]; rfl
theorem bksAt_0 {xs : List Pl} {es : List Ed} : bksAt xs es 0 = [] := by simp [bksAt]
theorem bksAt_succ {xs : List Pl} {es : List Ed} {k : Nat} {e : Ed} (h : es[k]? = some e) : bksAt xs es (k + 1) = bksAt xs es k ++ [invE (edsAt xs es k) e] := by
  simp [bksAt, List.range_succ, h]
theorem bksAt_len {xs : List Pl} {es : List Ed} {k : Nat} : (bksAt xs es k).length = k := by simp [bksAt]
theorem okAt_0 {ev : Int} {xs : List Pl} {es : List Ed} : okAt ev xs es 0 = true := by simp [okAt]
theorem okAt_succ {ev : Int} {xs : List Pl} {es : List Ed} {k : Nat} {e : Ed} (h : es[k]? = some e) : okAt ev xs es (k + 1) = (okAt ev xs es k && canEd ev (edsAt xs es k) e) := by
  simp [okAt, List.range_succ, h]
theorem okAt_le {ev : Int} {xs : List Pl} {es : List Ed} {k n : Nat} (h : k ≤ n) (hk : okAt ev xs es k = false) : okAt ev xs es n = false := by
  cases hn : okAt ev xs es n with
  | false => rfl
  | true =>
    exfalso
    have : okAt ev xs es k = true := by
      unfold okAt at hn ⊢
      rw [List.all_eq_true] at hn ⊢
      intro j hj
      exact hn j (List.mem_range.2 (Nat.lt_of_lt_of_le (List.mem_range.1 hj) h))
    rw [hk] at this; cases this
theorem edsAt_len {xs : List Pl} {es : List Ed} : ∀ {k : Nat}, k ≤ es.length → (edsAt xs es k).length ≤ xs.length + k
  | 0, _ => by simp [edsAt_0]
  | k + 1, h => by
    rw [edsAt_succ (List.getElem?_eq_getElem (by omega : k < es.length))]
    have := edsAt_len (xs := xs) (es := es) (k := k) (by omega)
    have h2 := edL_len (xs := edsAt xs es k) (e := es[k])
    omega
theorem isEG_edL {ev : Int} {xs : List Pl} {e : Ed} (h : isEG ev xs = true) (hc : canEd ev xs e = true) : isEG ev (edL xs e) = true := by
  obtain ⟨hk, h0, h1, h2⟩ := canEd_facts hc
  unfold isEG at h ⊢
  simp only [Bool.and_eq_true, decide_eq_true_eq, List.all_eq_true] at h ⊢
  obtain ⟨⟨g1, g2⟩, g3⟩ := h
  rw [canEd_k] at hc
  have g3' : ∀ p, p ∈ xs → plB (ev - 1) p = true := g3
  rcases hk with hk | hk | hk
  · rw [if_pos hk] at hc
    simp only [Bool.and_eq_true, decide_eq_true_eq] at hc
    refine ⟨⟨g1, ?_⟩, fun p hp => ?_⟩
    · simp [edL, hk]; omega
    · simp only [edL, hk, if_true, List.mem_append, List.mem_singleton] at hp
      rcases hp with (hp | rfl) | hp
      · exact g3' p (List.mem_of_mem_take hp)
      · exact hc.1.2
      · exact g3' p (List.mem_of_mem_drop hp)
  · refine ⟨⟨g1, ?_⟩, fun p hp => ?_⟩
    · simp [edL, hk]; omega
    · simp only [edL, hk, List.mem_append] at hp
      simp at hp
      rcases hp with hp | hp
      · exact g3' p (List.mem_of_mem_take hp)
      · exact g3' p (List.mem_of_mem_drop hp)
  · rw [if_neg (by omega), if_neg (by omega), if_pos hk] at hc
    simp only [Bool.and_eq_true, decide_eq_true_eq] at hc
    have h2' := h2 (by omega)
    refine ⟨⟨g1, ?_⟩, fun p hp => ?_⟩
    · simp [edL, hk]; omega
    · simp only [edL, hk, List.mem_append, List.mem_singleton] at hp
      simp at hp
      rcases hp with hp | rfl | hp
      · exact g3' p (List.mem_of_mem_take hp)
      · exact hc.2
      · exact g3' p (List.mem_of_mem_drop hp)
theorem isEG_at {ev : Int} {xs : List Pl} {es : List Ed} (h : isEG ev xs = true) : ∀ {k : Nat}, k ≤ es.length → okAt ev xs es k = true → isEG ev (edsAt xs es k) = true
  | 0, _, _ => by rw [edsAt_0]; exact h
  | k + 1, hk, ho => by
    have hg := List.getElem?_eq_getElem (by omega : k < es.length)
    rw [okAt_succ hg, Bool.and_eq_true] at ho
    rw [edsAt_succ hg]
    exact isEG_edL (isEG_at h (by omega) ho.1) ho.2
theorem sInverse_ac (ev : Int) (xs : List Pl) (e : Ed) (hn : xs.length ≤ 1048576) (hc : canEd ev xs e = true) : AC Try.prog 238 [grD ev xs, e.av] H0 (invE xs e).av H0 := by
  obtain ⟨hk, h0, h1, h2⟩ := canEd_facts hc
  obtain ⟨kd, ix, a, b, c, d⟩ := e
  simp only at hk h0 h1 h2
  obtain ⟨i, rfl⟩ : ∃ i : Nat, ix = i := ⟨ix.toNat, by omega⟩
  rcases hk with rfl | rfl | rfl
  ·
    refine AC.of_body 0 Try.func238 rfl (fun l h => absurd rfl h) (fun C hC => ?_)
    have hD : ∀ l, ¬ C.D0 l := fun l h => (hC l).1 h rfl
    simp only [startFr, Try.ntmps238, List.length_cons, List.length_nil, Nat.reduceAdd, Nat.reduceSub, List.replicate_succ, List.replicate_zero, List.cons_append, List.nil_append]
    repeat' (first | refine AL.nil ?_ | ((first | apply AL.st | (apply AL.on; (· rfl); (· rfl)) | (apply AD.st; (· exact nxE)) | (apply AD.on; (· rfl); (· rfl); (· exact nxE))); (· first | exact Ok.pe); (· exact setE); (· first | exact updsE | exact rfl); (· exact nxE)) | ((first | apply AL.st0 | (apply AD.st0; (· exact nxE))); (· first | exact Ok.e0); (· exact rfl); (· exact nxE)) | ((first | apply AL.off | apply AD.off); (· rfl); (· rfl); (· rfl); (· exact setE); (· exact nxE)) | ((first | refine AL.gsplit rfl rfl (fun h => ?_) (fun h => ?_) | refine AD.gsplit rfl rfl (fun h => ?_) (fun h => ?_)) <;> try (exfalso; omega; done)) | (first | refine AL.gsplitB rfl rfl (fun h => ?_) (fun h => ?_) | refine AD.gsplitB rfl rfl (fun h => ?_) (fun h => ?_)) | refine AD.fin (by simp only [List.length_cons, List.length_nil, Nat.reduceAdd]; rfl) rfl (by kernel_rfl) ?_ | refine thenN ?_ | refine AW.seq ?_ | refine AW.reg ?_ | refine AW.dr mixedA (by kernel_rfl) ?_ | refine AW.block ?_ | refine AW.condT rfl ?_ | refine AW.condF rfl ?_ | (refine AW.ite rfl (fun h => ?_) (fun h => ?_) <;> try (exfalso; omega; done)) | refine AW.cond _ rfl (fun h => ?_) (fun h => ?_) | refine AW.ret ?_ | refine AW.exit ?_ | refine AW.skip ?_ | refine thenR ?_ | refine thenX ?_ | refine blockN ?_ | refine blockR ?_ | refine blockX ?_ | refine blockY (by decide) ?_)
    (refine end1p (by first | exact .inl rfl | exact .inr rfl) rfl (by first | exact rT rfl | exact rCA rfl rfl rfl rfl (by simp) | exact rCC rfl rfl rfl rfl rfl) ?_ (Le.head ([]) (by first | exact fun l h => absurd h (hD l) | (intro l h; rcases hD l h with rfl; simp [tauL]) | (intro l h; rcases hD l h with rfl | rfl <;> simp [tauL]; done) | (intro l h; rcases hD l h with rfl | rfl | rfl <;> simp [tauL])) ?_ ?_ (by simp) (by simp) (by simp [AllP]) (n' := 1000)); (· rfl)) <;> (repeat' (first | exact trivial | exact ARs.nil | refine ARs.cons ?_ ?_ | exact AR.dead _ | exact AR.dd _ | exact AR.i (by (try dsimp only); omega) | exact AR.ptr _ _ _ _ (by simp [heapL, upd]) | exact AR.own _ _ _ _ (by simp [heapL, upd]) | refine AR.ownE _ _ _ ?_ (by simp [heapL, upd]) | refine ⟨⟨_, rfl, ?_⟩, ?_⟩ | exact ObA.data | refine ObA.box ?_ | refine ObA.frE ?_ | refine ObA.dataE ?_ | refine ARs.agg ?_ | refine ARs.tup ?_ | exact AR.clo' ARs.nil ARs.nil | exact AR.clo' ARs.nil (hca _ _)))
  all_goals
    have hi : i < xs.length := by omega
    obtain ⟨p, hp⟩ : ∃ p, xs[i]? = some p := ⟨xs[i], by simp⟩
    have hrow : (xs.map Pl.row)[((i : Nat) : Int).toNat]? = some [DI p.f, DI p.t, DI p.d, DI p.k] := row_get hp
    refine AC.of_body 0 Try.func238 rfl (fun l h => absurd rfl h) (fun C hC => ?_)
    have hD : ∀ l, ¬ C.D0 l := fun l h => (hC l).1 h rfl
    simp only [startFr, Try.ntmps238, List.length_cons, List.length_nil, Nat.reduceAdd, Nat.reduceSub, List.replicate_succ, List.replicate_zero, List.cons_append, List.nil_append]
    repeat' (first | refine AL.nil ?_ | ((first | apply AL.st | (apply AL.on; (· rfl); (· rfl)) | (apply AD.st; (· exact nxE)) | (apply AD.on; (· rfl); (· rfl); (· exact nxE))); (· first | exact Ok.pe); (· exact setE); (· first | exact updsE | exact rfl); (· exact nxE)) | ((first | apply AL.st0 | (apply AD.st0; (· exact nxE))); (· first | exact Ok.e0); (· exact rfl); (· exact nxE)) | ((first | apply AL.off | apply AD.off); (· rfl); (· rfl); (· rfl); (· exact setE); (· exact nxE)) | ((first | refine AL.gsplit rfl rfl (fun h => ?_) (fun h => ?_) | refine AD.gsplit rfl rfl (fun h => ?_) (fun h => ?_)) <;> try (exfalso; omega; done)) | (first | refine AL.gsplitB rfl rfl (fun h => ?_) (fun h => ?_) | refine AD.gsplitB rfl rfl (fun h => ?_) (fun h => ?_)) | refine AD.fin (by simp only [List.length_cons, List.length_nil, Nat.reduceAdd]; rfl) rfl (by kernel_rfl) ?_ | refine thenN ?_ | refine AW.seq ?_ | refine AW.reg ?_ | refine AW.dr mixedA (by kernel_rfl) ?_ | refine AW.block ?_ | refine AW.condT rfl ?_ | refine AW.condF rfl ?_ | (refine AW.ite rfl (fun h => ?_) (fun h => ?_) <;> try (exfalso; omega; done)) | refine AW.cond _ rfl (fun h => ?_) (fun h => ?_) | refine AW.ret ?_ | refine AW.exit ?_ | refine AW.skip ?_ | refine thenR ?_ | refine thenX ?_ | refine blockN ?_ | refine blockR ?_ | refine blockX ?_ | refine blockY (by decide) ?_)
    (refine end1p (by first | exact .inl rfl | exact .inr rfl) rfl (by first | exact rT rfl | exact rCA rfl rfl rfl rfl (by simp) | exact rCC rfl rfl rfl rfl rfl) ?_ (Le.head ([]) (by first | exact fun l h => absurd h (hD l) | (intro l h; rcases hD l h with rfl; simp [tauL]) | (intro l h; rcases hD l h with rfl | rfl <;> simp [tauL]; done) | (intro l h; rcases hD l h with rfl | rfl | rfl <;> simp [tauL])) ?_ ?_ (by simp) (by simp) (by simp [AllP]) (n' := 1000)); (· simp [invE, hp])) <;> (repeat' (first | exact trivial | exact ARs.nil | refine ARs.cons ?_ ?_ | exact AR.dead _ | exact AR.dd _ | exact AR.i (by (try dsimp only); omega) | exact AR.ptr _ _ _ _ (by simp [heapL, upd]) | exact AR.own _ _ _ _ (by simp [heapL, upd]) | refine AR.ownE _ _ _ ?_ (by simp [heapL, upd]) | refine ⟨⟨_, rfl, ?_⟩, ?_⟩ | exact ObA.data | refine ObA.box ?_ | refine ObA.frE ?_ | refine ObA.dataE ?_ | refine ARs.agg ?_ | refine ARs.tup ?_ | exact AR.clo' ARs.nil ARs.nil | exact AR.clo' ARs.nil (hca _ _)))
theorem iInverse_ac (ev : Int) (xs : List Pl) (e : Ed) (hn : xs.length ≤ 1048576) (hc : canEd ev xs e = true) : AC Try.prog 235 [grD ev xs, e.av] H0 (invE xs e).av H0 := by
  obtain ⟨hk, h0, h1, h2⟩ := canEd_facts hc
  obtain ⟨kd, ix, a, b, c, d⟩ := e
  simp only at hk h0 h1 h2
  obtain ⟨i, rfl⟩ : ∃ i : Nat, ix = i := ⟨ix.toNat, by omega⟩
  rcases hk with rfl | rfl | rfl
  ·
    refine AC.of_body 0 Try.func235 rfl (fun l h => absurd rfl h) (fun C hC => ?_)
    have hD : ∀ l, ¬ C.D0 l := fun l h => (hC l).1 h rfl
    simp only [startFr, Try.ntmps235, List.length_cons, List.length_nil, Nat.reduceAdd, Nat.reduceSub, List.replicate_succ, List.replicate_zero, List.cons_append, List.nil_append]
    repeat' (first | refine AL.nil ?_ | ((first | apply AL.st | (apply AL.on; (· rfl); (· rfl)) | (apply AD.st; (· exact nxE)) | (apply AD.on; (· rfl); (· rfl); (· exact nxE))); (· first | exact Ok.pe); (· exact setE); (· first | exact updsE | exact rfl); (· exact nxE)) | ((first | apply AL.st0 | (apply AD.st0; (· exact nxE))); (· first | exact Ok.e0); (· exact rfl); (· exact nxE)) | ((first | apply AL.off | apply AD.off); (· rfl); (· rfl); (· rfl); (· exact setE); (· exact nxE)) | ((first | refine AL.gsplit rfl rfl (fun h => ?_) (fun h => ?_) | refine AD.gsplit rfl rfl (fun h => ?_) (fun h => ?_)) <;> try (exfalso; omega; done)) | (first | refine AL.gsplitB rfl rfl (fun h => ?_) (fun h => ?_) | refine AD.gsplitB rfl rfl (fun h => ?_) (fun h => ?_)) | refine AD.fin (by simp only [List.length_cons, List.length_nil, Nat.reduceAdd]; rfl) rfl (by kernel_rfl) ?_ | refine thenN ?_ | refine AW.seq ?_ | refine AW.reg ?_ | refine AW.dr mixedA (by kernel_rfl) ?_ | refine AW.block ?_ | refine AW.condT rfl ?_ | refine AW.condF rfl ?_ | (refine AW.ite rfl (fun h => ?_) (fun h => ?_) <;> try (exfalso; omega; done)) | refine AW.cond _ rfl (fun h => ?_) (fun h => ?_) | refine AW.ret ?_ | refine AW.exit ?_ | refine AW.skip ?_ | refine thenR ?_ | refine thenX ?_ | refine blockN ?_ | refine blockR ?_ | refine blockX ?_ | refine blockY (by decide) ?_)
    (refine end1p (by first | exact .inl rfl | exact .inr rfl) rfl (by first | exact rT rfl | exact rCA rfl rfl rfl rfl (by simp) | exact rCC rfl rfl rfl rfl rfl) ?_ (Le.head ([]) (by first | exact fun l h => absurd h (hD l) | (intro l h; rcases hD l h with rfl; simp [tauL]) | (intro l h; rcases hD l h with rfl | rfl <;> simp [tauL]; done) | (intro l h; rcases hD l h with rfl | rfl | rfl <;> simp [tauL])) ?_ ?_ (by simp) (by simp) (by simp [AllP]) (n' := 1000)); (· rfl)) <;> (repeat' (first | exact trivial | exact ARs.nil | refine ARs.cons ?_ ?_ | exact AR.dead _ | exact AR.dd _ | exact AR.i (by (try dsimp only); omega) | exact AR.ptr _ _ _ _ (by simp [heapL, upd]) | exact AR.own _ _ _ _ (by simp [heapL, upd]) | refine AR.ownE _ _ _ ?_ (by simp [heapL, upd]) | refine ⟨⟨_, rfl, ?_⟩, ?_⟩ | exact ObA.data | refine ObA.box ?_ | refine ObA.frE ?_ | refine ObA.dataE ?_ | refine ARs.agg ?_ | refine ARs.tup ?_ | exact AR.clo' ARs.nil ARs.nil | exact AR.clo' ARs.nil (hca _ _)))
  all_goals
    have hi : i < xs.length := by omega
    obtain ⟨p, hp⟩ : ∃ p, xs[i]? = some p := ⟨xs[i], by simp⟩
    have hrow : (xs.map Pl.row)[((i : Nat) : Int).toNat]? = some [DI p.f, DI p.t, DI p.d, DI p.k] := row_get hp
    refine AC.of_body 0 Try.func235 rfl (fun l h => absurd rfl h) (fun C hC => ?_)
    have hD : ∀ l, ¬ C.D0 l := fun l h => (hC l).1 h rfl
    simp only [startFr, Try.ntmps235, List.length_cons, List.length_nil, Nat.reduceAdd, Nat.reduceSub, List.replicate_succ, List.replicate_zero, List.cons_append, List.nil_append]
    repeat' (first | refine AL.nil ?_ | ((first | apply AL.st | (apply AL.on; (· rfl); (· rfl)) | (apply AD.st; (· exact nxE)) | (apply AD.on; (· rfl); (· rfl); (· exact nxE))); (· first | exact Ok.pe); (· exact setE); (· first | exact updsE | exact rfl); (· exact nxE)) | ((first | apply AL.st0 | (apply AD.st0; (· exact nxE))); (· first | exact Ok.e0); (· exact rfl); (· exact nxE)) | ((first | apply AL.off | apply AD.off); (· rfl); (· rfl); (· rfl); (· exact setE); (· exact nxE)) | ((first | refine AL.gsplit rfl rfl (fun h => ?_) (fun h => ?_) | refine AD.gsplit rfl rfl (fun h => ?_) (fun h => ?_)) <;> try (exfalso; omega; done)) | (first | refine AL.gsplitB rfl rfl (fun h => ?_) (fun h => ?_) | refine AD.gsplitB rfl rfl (fun h => ?_) (fun h => ?_)) | refine AD.fin (by simp only [List.length_cons, List.length_nil, Nat.reduceAdd]; rfl) rfl (by kernel_rfl) ?_ | refine thenN ?_ | refine AW.seq ?_ | refine AW.reg ?_ | refine AW.dr mixedA (by kernel_rfl) ?_ | refine AW.block ?_ | refine AW.condT rfl ?_ | refine AW.condF rfl ?_ | (refine AW.ite rfl (fun h => ?_) (fun h => ?_) <;> try (exfalso; omega; done)) | refine AW.cond _ rfl (fun h => ?_) (fun h => ?_) | refine AW.ret ?_ | refine AW.exit ?_ | refine AW.skip ?_ | refine thenR ?_ | refine thenX ?_ | refine blockN ?_ | refine blockR ?_ | refine blockX ?_ | refine blockY (by decide) ?_)
    (refine end1p (by first | exact .inl rfl | exact .inr rfl) rfl (by first | exact rT rfl | exact rCA rfl rfl rfl rfl (by simp) | exact rCC rfl rfl rfl rfl rfl) ?_ (Le.head ([]) (by first | exact fun l h => absurd h (hD l) | (intro l h; rcases hD l h with rfl; simp [tauL]) | (intro l h; rcases hD l h with rfl | rfl <;> simp [tauL]; done) | (intro l h; rcases hD l h with rfl | rfl | rfl <;> simp [tauL])) ?_ ?_ (by simp) (by simp) (by simp [AllP]) (n' := 1000)); (· simp [invE, hp])) <;> (repeat' (first | exact trivial | exact ARs.nil | refine ARs.cons ?_ ?_ | exact AR.dead _ | exact AR.dd _ | exact AR.i (by (try dsimp only); omega) | exact AR.ptr _ _ _ _ (by simp [heapL, upd]) | exact AR.own _ _ _ _ (by simp [heapL, upd]) | refine AR.ownE _ _ _ ?_ (by simp [heapL, upd]) | refine ⟨⟨_, rfl, ?_⟩, ?_⟩ | exact ObA.data | refine ObA.box ?_ | refine ObA.frE ?_ | refine ObA.dataE ?_ | refine ARs.agg ?_ | refine ARs.tup ?_ | exact AR.clo' ARs.nil ARs.nil | exact AR.clo' ARs.nil (hca _ _)))
theorem sOwn_ac (ev : Int) (xs : List Pl) (hn : xs.length ≤ 1048576) : AC Try.prog 124 [grD ev xs] H0 (.agg [I ev, own1 4 xs.length]) (hp1 (dobj 4 (xs.map Pl.row))) := by
  refine AC.of_body 0 Try.func124 rfl (fun l h => absurd rfl h) (fun C hC => ?_)
  have hD : ∀ l, ¬ C.D0 l := fun l h => (hC l).1 h rfl
  simp only [startFr, Try.ntmps124, List.length_cons, List.length_nil, Nat.reduceAdd, Nat.reduceSub, List.replicate_succ, List.replicate_zero, List.cons_append, List.nil_append]
  repeat' (first | refine AL.nil ?_ | ((first | apply AL.st | (apply AL.on; (· rfl); (· rfl)) | (apply AD.st; (· exact nxE)) | (apply AD.on; (· rfl); (· rfl); (· exact nxE))); (· first | exact Ok.appendD (rows := []) rfl rfl (by decide) rfl rfl rfl rfl (List.length_map ..) rowPl_len rowPl_one (by omega) (by omega) | exact Ok.pe); (· exact setE); (· first | exact updsE | exact rfl); (· exact nxE)) | ((first | apply AL.st0 | (apply AD.st0; (· exact nxE))); (· first | exact Ok.appendD (rows := []) rfl rfl (by decide) rfl rfl rfl rfl (List.length_map ..) rowPl_len rowPl_one (by omega) (by omega) | exact Ok.e0); (· exact rfl); (· exact nxE)) | ((first | apply AL.off | apply AD.off); (· rfl); (· rfl); (· rfl); (· exact setE); (· exact nxE)) | ((first | refine AL.gsplit rfl rfl (fun h => ?_) (fun h => ?_) | refine AD.gsplit rfl rfl (fun h => ?_) (fun h => ?_)) <;> try (exfalso; omega; done)) | (first | refine AL.gsplitB rfl rfl (fun h => ?_) (fun h => ?_) | refine AD.gsplitB rfl rfl (fun h => ?_) (fun h => ?_)) | refine AD.fin (by simp only [List.length_cons, List.length_nil, Nat.reduceAdd]; rfl) rfl (by kernel_rfl) ?_ | refine thenN ?_ | refine AW.seq ?_ | refine AW.reg ?_ | refine AW.dr mixedA (by kernel_rfl) ?_ | refine AW.block ?_ | refine AW.condT rfl ?_ | refine AW.condF rfl ?_ | (refine AW.ite rfl (fun h => ?_) (fun h => ?_) <;> try (exfalso; omega; done)) | refine AW.cond _ rfl (fun h => ?_) (fun h => ?_) | refine AW.ret ?_ | refine AW.exit ?_ | refine AW.skip ?_ | refine thenR ?_ | refine thenX ?_ | refine blockN ?_ | refine blockR ?_ | refine blockX ?_ | refine blockY (by decide) ?_)
  (refine end1 (res' := .agg [I ev, .own 4 ⟨7, []⟩ 0 xs.length]) (by first | exact .inl rfl | exact .inr rfl) rfl (by first | exact rT rfl | exact rCA rfl rfl rfl rfl (by simp) | exact rCC rfl rfl rfl rfl rfl) ?_ (Le.head ([(⟨0, []⟩, ⟨7, []⟩, dobj 4 (xs.map Pl.row))]) (by first | exact fun l h => absurd h (hD l) | (intro l h; rcases hD l h with rfl; simp [tauL]) | (intro l h; rcases hD l h with rfl | rfl <;> simp [tauL]; done) | (intro l h; rcases hD l h with rfl | rfl | rfl <;> simp [tauL])) ?_ ?_ (by simp) (by simp) (by simp [AllP]) (n' := 1000)); (· simp)) <;> (repeat' (first | exact trivial | exact ARs.nil | refine ARs.cons ?_ ?_ | exact AR.dead _ | exact AR.dd _ | exact AR.i (by (try dsimp only); omega) | exact AR.ptr _ _ _ _ (by simp [heapL, upd]) | exact AR.own _ _ _ _ (by simp [heapL, upd]) | refine AR.ownE _ _ _ ?_ (by simp [heapL, upd]) | refine ⟨⟨_, rfl, ?_⟩, ?_⟩ | exact ObA.data | refine ObA.box ?_ | refine ObA.frE ?_ | refine ObA.dataE ?_ | refine ARs.agg ?_ | refine ARs.tup ?_ | exact AR.clo' ARs.nil ARs.nil | exact AR.clo' ARs.nil (hca _ _)))
end Go.Proofs.Ytegfjedklebbfaa
end

section
namespace Go.Proofs.Ytegfjedklebbfaa
open Go Go.RowKit
set_option linter.unusedSimpArgs false
set_option linter.unusedVariables false

def runC (ev : Int) (xs : List Pl) (es : List Ed) : Int := if isEG ev xs = true then (if 60 < es.length then 3 else if okAt ev xs es es.length = true then 0 else 5) else 1
def runEv (ev : Int) (xs : List Pl) (es : List Ed) : Int := if runC ev xs es = 0 then ev else 0
def runL (ev : Int) (xs : List Pl) (es : List Ed) : List Pl := if runC ev xs es = 0 then edsAt xs es es.length else []
def runB (ev : Int) (xs : List Pl) (es : List Ed) : List Ed := if runC ev xs es = 0 then (bksAt xs es es.length).reverse else []
theorem run_bad {ev : Int} {xs : List Pl} {es : List Ed} {c : Int} (h : runC ev xs es = c) (hc : c ≠ 0) : runEv ev xs es = 0 ∧ runL ev xs es = [] ∧ runB ev xs es = [] := by
  have : ¬ runC ev xs es = 0 := by rw [h]; exact hc
  simp [runEv, runL, runB, this]
theorem run_good {ev : Int} {xs : List Pl} {es : List Ed} (h : runC ev xs es = 0) : runEv ev xs es = ev ∧ runL ev xs es = edsAt xs es es.length ∧ runB ev xs es = (bksAt xs es es.length).reverse := by
  simp [runEv, runL, runB, h]
end Go.Proofs.Ytegfjedklebbfaa
end

section
namespace Go.Proofs.Ytegfjedklebbfaa
set_option linter.unusedSimpArgs false
set_option linter.unusedVariables false
open Go Go.RowKit
attribute [local irreducible] AL AD AW OpOk Le AC thenQ blockQ EndQ

section
variable {P : Program} {o : Oper} {A : Operand → AV} {H : Heap} {new : Nat}
theorem Ok.bs5I {t e : TypeId} {k b : Nat} {z : Value} {x y w v u : Operand} {n1 n2 n3 n4 n5 : Int} (ho : o.op = .buildSlice t 5 #[(0, x), (1, y), (2, w), (3, v), (4, u)]) [h : TySlice P t e k b z] (hx : A x = I n1) (hy : A y = I n2) (hw : A w = I n3) (hv : A v = I n4) (hu : A u = I n5) (hk : k = 1) :
    OpOk P o A [] H new (.own k ⟨new, []⟩ 0 5) [.one ⟨new, []⟩ (some (IO [n1, n2, n3, n4, n5]))] := by
  subst hk
  have := OpOk.buildSlice (P := P) (H := H) (new := new) (A := A) [x, y, w, v, u] ho rfl rfl (by decide) (by intro p hp; simp at hp; rcases hp with rfl | rfl | rfl | rfl | rfl <;> simp only [hx, hy, hw, hv, hu] <;> rfl) (by intro p hp; simp at hp; rcases hp with rfl | rfl | rfl | rfl | rfl <;> simp only [hx, hy, hw, hv, hu] <;> rfl)
  simpa [hx, hy, hw, hv, hu, AV.cells, dobj] using this
end
/-- What is drawn behind the place: the edit and the source. -/
theorem de_tail {code : List Int} (hc : CodeOk code) (a i : Int) (pl : Pl) (s0 : Src) (h0 : SrcOk code s0) (n : Int) : ∃ (z : Int) (s7 s8 s9 s10 s11 s' : Src) (b0 b1 b2 b3 : Int) (e : Ed), SrcOk code s' ∧ (0 ≤ z ∧ z < 30) ∧
    AC Try.prog 110 [Bx 3 0, I 30] (srcH code s0) (I z) (srcH code s7) ∧
    AC Try.prog 120 [Bx 3 0, .own 1 ⟨1, []⟩ 0 4] (upd (upd H0 ⟨1, []⟩ (some (IO [0, 4, 1, 2]))) ⟨0, []⟩ (some (srcO code s7))) (I b0) (srcH code s8) ∧
    AC Try.prog 120 [Bx 3 0, .own 1 ⟨1, []⟩ 0 5] (upd (upd H0 ⟨1, []⟩ (some (IO [-1, n, n + 1, 30, 31]))) ⟨0, []⟩ (some (srcO code s7))) (I b1) (srcH code s9) ∧
    AC Try.prog 120 [Bx 3 0, .own 1 ⟨1, []⟩ 0 3] (upd (upd H0 ⟨1, []⟩ (some (IO [5, 6, 1]))) ⟨0, []⟩ (some (srcO code s7))) (I b2) (srcH code s10) ∧
    AC Try.prog 120 [Bx 3 0, .own 1 ⟨1, []⟩ 0 3] (upd (upd H0 ⟨1, []⟩ (some (IO [9, 10, -1]))) ⟨0, []⟩ (some (srcO code s7))) (I b3) (srcH code s11) ∧
    (z = 0 → e.kind = b0 ∧ e.pl = pl ∧ s' = s8) ∧ (z ≠ 0 → e.kind = 1 + a) ∧ (z = 1 → e.idx = b1 ∧ e.pl = pl ∧ s' = s9) ∧ (z ≠ 1 → (1 + a ≠ 1 ∧ i = n ∧ 0 < n → e.idx = n - 1) ∧ (¬(1 + a ≠ 1 ∧ i = n ∧ 0 < n) → e.idx = i)) ∧
    (z = 2 → e.pl = ⟨pl.f, pl.t, pl.d, b2⟩ ∧ s' = s10) ∧ (z = 3 → e.pl = ⟨b3, pl.t, pl.d, pl.k⟩ ∧ s' = s11) ∧ (z ≠ 0 → z ≠ 1 → z ≠ 2 → z ≠ 3 → e.pl = pl ∧ s' = s7) := by
  obtain ⟨z, s7, z1, z2, h7, q7, N7⟩ := next_ex hc h0 30
  obtain ⟨b0, s8, _, h8, _, _, K8⟩ := pick_ex hc h7 [0, 4, 1, 2] 4 rfl
  obtain ⟨b1, s9, _, h9, _, _, K9⟩ := pick_ex hc h7 [-1, n, n + 1, 30, 31] 5 rfl
  obtain ⟨b2, s10, _, h10, _, _, K10⟩ := pick_ex hc h7 [5, 6, 1] 3 rfl
  obtain ⟨b3, s11, _, h11, _, _, K11⟩ := pick_ex hc h7 [9, 10, -1] 3 rfl
  refine ⟨z, s7, s8, s9, s10, s11, if z = 0 then s8 else if z = 1 then s9 else if z = 2 then s10 else if z = 3 then s11 else s7, b0, b1, b2, b3, ⟨if z = 0 then b0 else 1 + a, if z = 1 then b1 else if 1 + a ≠ 1 ∧ i = n ∧ 0 < n then n - 1 else i, if z = 2 then ⟨pl.f, pl.t, pl.d, b2⟩ else if z = 3 then ⟨b3, pl.t, pl.d, pl.k⟩ else pl⟩, ?_, ⟨z1, by omega⟩, N7, K8, K9, K10, K11, ?_, ?_, ?_, ?_, ?_, ?_, ?_⟩
  · (repeat' split) <;> assumption
  all_goals
    first
      | (intro h; simp only [if_neg h]; exact ⟨fun g => if_pos g, fun g => if_neg g⟩)
      | (intro h; simp [h]; done)
      | (intro h0 h1 h2 h3; simp [h0, h1, h2, h3]; done)
set_option maxHeartbeats 8000000 in
theorem de1 (code : List Int) (hc : CodeOk code) (s : Src) (hs : SrcOk code s) (ev : Int) (xs : List Pl) (hx : xs.length ≤ 1000) (a i f t d q : Int) (s1 s2 s3 s4 s5 s6 : Src) (a1 : 0 ≤ a ∧ a ≤ 2) (hk : a = 1)
    (h0 : SrcOk code s2)
    (N1 : AC Try.prog 110 [Bx 3 0, I 3] (srcH code s) (I a) (srcH code s1)) (N2 : AC Try.prog 110 [Bx 3 0, I ((xs.length : Int) + 1)] (srcH code s1) (I i) (srcH code s2))
    (N3 : AC Try.prog 110 [Bx 3 0, I ev] (srcH code s2) (I f) (srcH code s3)) (N4 : AC Try.prog 110 [Bx 3 0, I ev] (srcH code s3) (I t) (srcH code s4)) (N5 : AC Try.prog 110 [Bx 3 0, I 20] (srcH code s4) (I d) (srcH code s5)) (N6 : AC Try.prog 110 [Bx 3 0, I 4] (srcH code s5) (I q) (srcH code s6)) :
    ∃ (e : Ed) (s' : Src), SrcOk code s' ∧ AC Try.prog 159 [Bx 3 0, grD ev xs] (srcH code s) e.av (srcH code s') := by
  obtain ⟨z, s7, s8, s9, s10, s11, s', b0, b1, b2, b3, ⟨ek, ei, ⟨ef, et, ed, eq⟩⟩, hs', hz, N7, K8, K9, K10, K11, c0, c1, c2, c3, c4, c5, c6⟩ := de_tail hc a i plZ s2 h0 xs.length
  refine ⟨⟨ek, ei, ⟨ef, et, ed, eq⟩⟩, s', hs', ?_⟩
  simp only [plZ, Pl.mk.injEq] at c0 c1 c2 c3 c4 c5 c6
  show AC _ _ _ (heapL [(⟨0, []⟩, ⟨0, []⟩, srcO code s)]) _ _
  refine AC.of_body 1 Try.func159 rfl (fun l h => by simp [heapL, upd] at h; simp [h]) (fun C hC => ?_)
  simp only [startFr, Try.ntmps159, List.length_cons, List.length_nil, Nat.reduceAdd, Nat.reduceSub, List.replicate_succ, List.replicate_zero, List.cons_append, List.nil_append]
  have hD : ∀ l, C.D0 l → l = ⟨0, []⟩ := fun l h => by have := (hC l).1 h; simp [heapL, upd] at this; exact this
  repeat' (first | ((first | apply Ba | (apply Bb; (· rfl); (· rfl)) | (apply Bc; (· exact nxE)) | (apply Bd; (· rfl); (· rfl); (· exact nxE))); (· first | exact Nx N1 rfl rfl rfl rfl rfl | exact Nx N2 rfl rfl rfl rfl rfl | exact Nx N7 rfl rfl rfl rfl rfl | exact Kx K8 rfl rfl rfl rfl rfl rfl (by decide) | exact Kx K9 rfl rfl rfl rfl rfl rfl (by decide) | exact Kx K10 rfl rfl rfl rfl rfl rfl (by decide) | exact Kx K11 rfl rfl rfl rfl rfl rfl (by decide) | exact Ok.bs5I rfl rfl rfl rfl rfl rfl rfl | exact Ok.bs4 rfl rfl rfl rfl rfl rfl | exact Ok.bs3 rfl rfl rfl rfl rfl | exact Ok.pe)) | ((first | apply Ca | (apply Cb; (· exact nxE))); (· first | exact Nx N1 rfl rfl rfl rfl rfl | exact Nx N2 rfl rfl rfl rfl rfl | exact Nx N7 rfl rfl rfl rfl rfl | exact Kx K8 rfl rfl rfl rfl rfl rfl (by decide) | exact Kx K9 rfl rfl rfl rfl rfl rfl (by decide) | exact Kx K10 rfl rfl rfl rfl rfl rfl (by decide) | exact Kx K11 rfl rfl rfl rfl rfl rfl (by decide) | exact Ok.bs5I rfl rfl rfl rfl rfl rfl rfl | exact Ok.bs4 rfl rfl rfl rfl rfl rfl | exact Ok.bs3 rfl rfl rfl rfl rfl | exact Ok.e0)) | refine Sx ?_ | (refine Sy (fun h => ?_) (fun h => ?_) <;> try (exfalso; omega; done)) | refine Sz (fun h => ?_) (fun h => ?_))
  all_goals
    (first | (have hq := (c0 (by omega)).2.2; subst hq) | (have hq := (c2 (by omega)).2.2; subst hq) | (have hq := (c4 (by omega)).2; subst hq) | (have hq := (c5 (by omega)).2; subst hq) | (have hq := (c6 (by omega) (by omega) (by omega) (by omega)).2; subst hq))
    refine Ya ?_
    (apply Le.headZ (hs := [(⟨0, []⟩, ⟨0, []⟩, _)]) [⟨0, []⟩] rfl)
    all_goals (try dsimp only [srcs])
    (case' hfr | hob => (repeat' (first | refine La ?_ ?_ | refine ARs.agg ?_ | refine ARs.tup ?_ | (first | exact AR.i (by first | rfl | omega)) | refine La ?_ ?_ | exact Lc | refine Lo ?_ | refine ⟨⟨_, rfl, ?_⟩, ?_⟩ | refine Lx ?_)))
    all_goals (first | exact Ld | exact trivial | (first | exact AR.i (by first | rfl | omega)))
set_option maxHeartbeats 8000000 in
theorem de0 (code : List Int) (hc : CodeOk code) (s : Src) (hs : SrcOk code s) (ev : Int) (xs : List Pl) (hx : xs.length ≤ 1000) (a i f t d q : Int) (s1 s2 s3 s4 s5 s6 : Src) (a1 : 0 ≤ a ∧ a ≤ 2) (hk : a ≠ 1)
    (h0 : SrcOk code s6)
    (N1 : AC Try.prog 110 [Bx 3 0, I 3] (srcH code s) (I a) (srcH code s1)) (N2 : AC Try.prog 110 [Bx 3 0, I ((xs.length : Int) + 1)] (srcH code s1) (I i) (srcH code s2))
    (N3 : AC Try.prog 110 [Bx 3 0, I ev] (srcH code s2) (I f) (srcH code s3)) (N4 : AC Try.prog 110 [Bx 3 0, I ev] (srcH code s3) (I t) (srcH code s4)) (N5 : AC Try.prog 110 [Bx 3 0, I 20] (srcH code s4) (I d) (srcH code s5)) (N6 : AC Try.prog 110 [Bx 3 0, I 4] (srcH code s5) (I q) (srcH code s6)) :
    ∃ (e : Ed) (s' : Src), SrcOk code s' ∧ AC Try.prog 159 [Bx 3 0, grD ev xs] (srcH code s) e.av (srcH code s') := by
  obtain ⟨z, s7, s8, s9, s10, s11, s', b0, b1, b2, b3, ⟨ek, ei, ⟨ef, et, ed, eq⟩⟩, hs', hz, N7, K8, K9, K10, K11, c0, c1, c2, c3, c4, c5, c6⟩ := de_tail hc a i ⟨f, t, d, q⟩ s6 h0 xs.length
  refine ⟨⟨ek, ei, ⟨ef, et, ed, eq⟩⟩, s', hs', ?_⟩
  simp only [plZ, Pl.mk.injEq] at c0 c1 c2 c3 c4 c5 c6
  show AC _ _ _ (heapL [(⟨0, []⟩, ⟨0, []⟩, srcO code s)]) _ _
  refine AC.of_body 1 Try.func159 rfl (fun l h => by simp [heapL, upd] at h; simp [h]) (fun C hC => ?_)
  simp only [startFr, Try.ntmps159, List.length_cons, List.length_nil, Nat.reduceAdd, Nat.reduceSub, List.replicate_succ, List.replicate_zero, List.cons_append, List.nil_append]
  have hD : ∀ l, C.D0 l → l = ⟨0, []⟩ := fun l h => by have := (hC l).1 h; simp [heapL, upd] at this; exact this
  repeat' (first | ((first | apply Ba | (apply Bb; (· rfl); (· rfl)) | (apply Bc; (· exact nxE)) | (apply Bd; (· rfl); (· rfl); (· exact nxE))); (· first | exact Nx N1 rfl rfl rfl rfl rfl | exact Nx N2 rfl rfl rfl rfl rfl | exact Nx N3 rfl rfl rfl rfl rfl | exact Nx N4 rfl rfl rfl rfl rfl | exact Nx N5 rfl rfl rfl rfl rfl | exact Nx N6 rfl rfl rfl rfl rfl | exact Nx N7 rfl rfl rfl rfl rfl | exact Kx K8 rfl rfl rfl rfl rfl rfl (by decide) | exact Kx K9 rfl rfl rfl rfl rfl rfl (by decide) | exact Kx K10 rfl rfl rfl rfl rfl rfl (by decide) | exact Kx K11 rfl rfl rfl rfl rfl rfl (by decide) | exact Ok.bs5I rfl rfl rfl rfl rfl rfl rfl | exact Ok.bs4 rfl rfl rfl rfl rfl rfl | exact Ok.bs3 rfl rfl rfl rfl rfl | exact Ok.pe)) | ((first | apply Ca | (apply Cb; (· exact nxE))); (· first | exact Nx N1 rfl rfl rfl rfl rfl | exact Nx N2 rfl rfl rfl rfl rfl | exact Nx N3 rfl rfl rfl rfl rfl | exact Nx N4 rfl rfl rfl rfl rfl | exact Nx N5 rfl rfl rfl rfl rfl | exact Nx N6 rfl rfl rfl rfl rfl | exact Nx N7 rfl rfl rfl rfl rfl | exact Kx K8 rfl rfl rfl rfl rfl rfl (by decide) | exact Kx K9 rfl rfl rfl rfl rfl rfl (by decide) | exact Kx K10 rfl rfl rfl rfl rfl rfl (by decide) | exact Kx K11 rfl rfl rfl rfl rfl rfl (by decide) | exact Ok.bs5I rfl rfl rfl rfl rfl rfl rfl | exact Ok.bs4 rfl rfl rfl rfl rfl rfl | exact Ok.bs3 rfl rfl rfl rfl rfl | exact Ok.e0)) | refine Sx ?_ | (refine Sy (fun h => ?_) (fun h => ?_) <;> try (exfalso; omega; done)) | refine Sz (fun h => ?_) (fun h => ?_))
  all_goals
    (first | (have hq := (c0 (by omega)).2.2; subst hq) | (have hq := (c2 (by omega)).2.2; subst hq) | (have hq := (c4 (by omega)).2; subst hq) | (have hq := (c5 (by omega)).2; subst hq) | (have hq := (c6 (by omega) (by omega) (by omega) (by omega)).2; subst hq))
    refine Ya ?_
    (apply Le.headZ (hs := [(⟨0, []⟩, ⟨0, []⟩, _)]) [⟨0, []⟩] rfl)
    all_goals (try dsimp only [srcs])
    (case' hfr | hob => (repeat' (first | refine La ?_ ?_ | refine ARs.agg ?_ | refine ARs.tup ?_ | (first | exact AR.i (by first | rfl | omega)) | refine La ?_ ?_ | exact Lc | refine Lo ?_ | refine ⟨⟨_, rfl, ?_⟩, ?_⟩ | refine Lx ?_)))
    all_goals (first | exact Ld | exact trivial | (first | exact AR.i (by first | rfl | omega)))
theorem l29DrawEdit_ex (code : List Int) (hc : CodeOk code) (s : Src) (hs : SrcOk code s) (ev : Int) (xs : List Pl) (hx : xs.length ≤ 1000) : ∃ (e : Ed) (s' : Src), SrcOk code s' ∧ AC Try.prog 159 [Bx 3 0, grD ev xs] (srcH code s) e.av (srcH code s') := by
  obtain ⟨a, s1, a1, a2, h1, q1, N1⟩ := next_ex hc hs 3
  obtain ⟨i, s2, i1, i2, h2, q2, N2⟩ := next_ex hc h1 ((xs.length : Int) + 1)
  obtain ⟨f, s3, _, _, h3, q3, N3⟩ := next_ex hc h2 ev
  obtain ⟨t, s4, _, _, h4, q4, N4⟩ := next_ex hc h3 ev
  obtain ⟨d, s5, _, _, h5, q5, N5⟩ := next_ex hc h4 20
  obtain ⟨q, s6, _, _, h6, q6, N6⟩ := next_ex hc h5 4
  by_cases hk : a = 1
  · exact de1 code hc s hs ev xs hx a i f t d q s1 s2 s3 s4 s5 s6 ⟨a1, by omega⟩ hk h2 N1 N2 N3 N4 N5 N6
  · exact de0 code hc s hs ev xs hx a i f t d q s1 s2 s3 s4 s5 s6 ⟨a1, by omega⟩ hk h6 N1 N2 N3 N4 N5 N6
end Go.Proofs.Ytegfjedklebbfaa
end

section
namespace Go.Proofs.Ytegfjedklebbfaa
set_option linter.unusedSimpArgs false
set_option linter.unusedVariables false
open Go Go.RowKit
attribute [local irreducible] AL AD AW OpOk Le AC thenQ blockQ EndQ

theorem Ok.remE {P : Program} {o : Oper} {A : Operand → AV} {H : Heap} {new : Nat} {t t' : TypeId} {x y : Operand} {a b c : Int} (ho : o.op = .binOp .rem t x y t') (hx : A x = I a) (hy : A y = I b) (h : b ≠ 0) (he : a.tmod b = c) : OpOk P o A [] H new (I c) [] := by
  subst he; exact Ok.rem ho hx hy h
theorem sApplyLZ_ac (ev : Int) (xs : List Pl) (e : Ed) (hn : xs.length ≤ 1048576) (hc : canEd ev xs e = true) : AC Try.prog 161 [grD ev xs, e.av] H0 (grD ev (edL xs e)) H0 :=
  (sApplyL_ac ev xs e hn hc).frz (ARs.agg (.cons (.dd _) (.cons (AR.whole rfl trivial (by simp)) .nil)))
theorem l29DrawEdit_ex' (code : List Int) (ev : Int) (xs : List Pl) (s : Src) : ∃ r : Ed × Src, (CodeOk code ∧ SrcOk code s ∧ xs.length ≤ 1000) → SrcOk code r.2 ∧ AC Try.prog 159 [Bx 3 0, grD ev xs] (srcH code s) r.1.av (srcH code r.2) := by
  by_cases h : CodeOk code ∧ SrcOk code s ∧ xs.length ≤ 1000
  · obtain ⟨e, s', h1, h2⟩ := l29DrawEdit_ex code h.1 s h.2.1 ev xs h.2.2
    exact ⟨(e, s'), fun _ => ⟨h1, h2⟩⟩
  · exact ⟨(⟨0, 0, plZ⟩, s), fun h' => absurd h' h⟩
noncomputable def dE (code : List Int) (ev : Int) (xs : List Pl) (s : Src) : Ed × Src := Classical.choose (l29DrawEdit_ex' code ev xs s)
theorem dE_ok {code : List Int} (hc : CodeOk code) {s : Src} (hs : SrcOk code s) (ev : Int) {xs : List Pl} (hx : xs.length ≤ 1000) : ∃ e s', dE code ev xs s = (e, s') ∧ SrcOk code s' ∧ AC Try.prog 159 [Bx 3 0, grD ev xs] (srcH code s) e.av (srcH code s') :=
  ⟨_, _, rfl, Classical.choose_spec (l29DrawEdit_ex' code ev xs s) ⟨hc, hs, hx⟩⟩
abbrev QE := Src × List Pl × List Ed
/-- One round of DrawApplyEdits. -/
noncomputable def dN (code : List Int) (ev : Int) (q : QE) : QE :=
  let r := dE code ev q.2.1 q.1
  if (isEG ev q.2.1 && canEd ev q.2.1 r.1) = true then (r.2, edL q.2.1 r.1, q.2.2 ++ [r.1])
  else if 0 < (nxt code r.2 4).1 then ((nxt code r.2 4).2, q.2.1, q.2.2) else ((nxt code r.2 4).2, q.2.1, q.2.2 ++ [r.1])
theorem dN_ok {code : List Int} (hc : CodeOk code) {ev : Int} {s : Src} (hs : SrcOk code s) {xs : List Pl} (hx : xs.length ≤ 40) : ∀ n, n ≤ 20 → SrcOk code (itr (dN code ev) n (s, xs, [])).1 ∧ (itr (dN code ev) n (s, xs, [])).2.1.length ≤ 40 + n ∧ (itr (dN code ev) n (s, xs, [])).2.2.length ≤ n
  | 0, _ => ⟨hs, by simpa [itr] using hx, by simp [itr]⟩
  | n + 1, hn => by
    obtain ⟨h1, h2, h3⟩ := dN_ok hc hs hx n (by omega)
    simp only [itr]
    generalize itr (dN code ev) n (s, xs, []) = q at *
    obtain ⟨e, s', he, hs', _⟩ := dE_ok hc h1 ev (xs := q.2.1) (by omega)
    have := (nxt_ok hc hs' 4).2.2
    have hL := edL_len (xs := q.2.1) (e := e)
    unfold dN
    simp only [he]
    split
    · exact ⟨hs', by simp only; omega, by simp; omega⟩
    · split
      · exact ⟨this, by simp only; omega, by simp only; omega⟩
      · exact ⟨this, by simp only; omega, by simp; omega⟩
/-- One round of DrawEditsBetween. -/
noncomputable def dM (code : List Int) (ev : Int) (q : Src × List Pl) : Src × List Pl :=
  let r := dE code ev q.2 q.1
  (r.2, if (isEG ev q.2 && canEd ev q.2 r.1) = true then edL q.2 r.1 else q.2)
theorem dM_ok {code : List Int} (hc : CodeOk code) {ev : Int} {s : Src} (hs : SrcOk code s) {xs : List Pl} (hx : xs.length ≤ 40) : ∀ n, n ≤ 20 → SrcOk code (itr (dM code ev) n (s, xs)).1 ∧ (itr (dM code ev) n (s, xs)).2.length ≤ 40 + n
  | 0, _ => ⟨hs, by simpa [itr] using hx⟩
  | n + 1, hn => by
    obtain ⟨h1, h2⟩ := dM_ok hc hs hx n (by omega)
    simp only [itr]
    generalize itr (dM code ev) n (s, xs) = q at *
    obtain ⟨e, s', he, hs', _⟩ := dE_ok hc h1 ev (xs := q.2) (by omega)
    have hL := edL_len (xs := q.2) (e := e)
    unfold dM
    simp only [he]
    refine ⟨hs', ?_⟩
    split <;> omega
/-- Too many edits. -/
def manyE (n : Int) (k : Nat) : List Ed := (List.range k).map fun (t : Nat) => ⟨1 + (n - (t : Int)).tmod 2, 0, plZ⟩
theorem manyE_s {n : Int} {k : Nat} : manyE n (k + 1) = manyE n k ++ [⟨1 + (n - (k : Int)).tmod 2, 0, plZ⟩] := by simp [manyE, List.range_succ]
theorem manyE_l {n : Int} {k : Nat} : (manyE n k).length = k := by simp [manyE]
set_option maxHeartbeats 4000000 in
theorem drawEditsBetween_ex (code : List Int) (hc : CodeOk code) : ∃ (ev : Int) (xs : List Pl) (ev' : Int) (ys : List Pl), xs.length ≤ 1000 ∧ ys.length ≤ 1000 ∧ AC Try.prog 65 [.d (BD code)] H0 (.tup [grD ev xs, grD ev' ys]) H0 := by
  have hF := l01From_ac code hc
  have hG := l11DrawZ_ac code hc _ (src0_ok hc)
  have hok := dr11_ok hc (src0_ok hc)
  generalize dr11 code (src0 code) = g at *
  obtain ⟨ev, xs, s1⟩ := g
  obtain ⟨_, _, hl, hs1⟩ := hok
  simp only at hl hs1 hG
  obtain ⟨a, s2, a1, a2, h2, q2, N2⟩ := next_ex hc hs1 4
  by_cases ha : a = 0
  · have hG2 := l11DrawZ_ac code hc _ h2
    have hok2 := dr11_ok hc h2
    generalize dr11 code s2 = g at *
    obtain ⟨ev', ys, s3⟩ := g
    obtain ⟨_, _, hl2, _⟩ := hok2
    simp only at hl2 hG2
    refine ⟨ev, xs, ev', ys, by omega, by omega, ?_⟩
    refine AC.of_body 0 Try.func65 rfl (fun l h => absurd rfl h) (fun C hC => ?_)
    have hD : ∀ l, ¬ C.D0 l := fun l h => (hC l).1 h rfl
    simp only [startFr, Try.ntmps65, List.length_cons, List.length_nil, Nat.reduceAdd, Nat.reduceSub, List.replicate_succ, List.replicate_zero, List.cons_append, List.nil_append]
    repeat' (first | ((first | apply Ba | (apply Bb; (· rfl); (· rfl)) | (apply Bc; (· exact nxE)) | (apply Bd; (· rfl); (· rfl); (· exact nxE))); (· first | exact Fx hF rfl rfl rfl | exact Zl (args := []) hG rfl rfl rfl rfl .nil (fun _ => by simp [rn]) | exact Zl (args := []) hG2 rfl rfl rfl rfl .nil (fun _ => by simp [rn]) | exact Nl N2 rfl rfl rfl rfl rfl | exact Ok.pe)) | ((first | apply Ca | (apply Cb; (· exact nxE))); (· first | exact Fx hF rfl rfl rfl | exact Zl (args := []) hG rfl rfl rfl rfl .nil (fun _ => by simp [rn]) | exact Zl (args := []) hG2 rfl rfl rfl rfl .nil (fun _ => by simp [rn]) | exact Nl N2 rfl rfl rfl rfl rfl | exact Ok.e0)) | refine Sx ?_ | (refine Sy (fun h => ?_) (fun h => ?_) <;> try (exfalso; omega; done)) | refine Sz (fun h => ?_) (fun h => ?_))
    refine Yb ?_
    (apply Le.headZ (hs := []) [] rfl)
    all_goals (try dsimp only [srcs])
    (case' hfr => (repeat' (first | refine La ?_ ?_ | exact Lc | refine Lo ?_ | refine ⟨⟨_, rfl, ?_⟩, ?_⟩ | refine Lx ?_)))
    all_goals (first | exact Ld | exact trivial | (rfl))
  obtain ⟨m, s3, m1, m2, h3, q3, N3⟩ := next_ex hc h2 7
  obtain ⟨n, rfl⟩ : ∃ n : Nat, m = n := ⟨m.toNat, by omega⟩
  refine ⟨ev, xs, ev, (itr (dM code ev) n (s3, xs)).2, by omega, by have := (dM_ok hc (ev := ev) h3 hl n (by omega)).2; omega, ?_⟩
  refine AC.of_body 0 Try.func65 rfl (fun l h => absurd rfl h) (fun C hC => ?_)
  have hD : ∀ l, ¬ C.D0 l := fun l h => (hC l).1 h rfl
  simp only [startFr, Try.ntmps65, List.length_cons, List.length_nil, Nat.reduceAdd, Nat.reduceSub, List.replicate_succ, List.replicate_zero, List.cons_append, List.nil_append]
  repeat' (first | ((first | apply Ba | (apply Bb; (· rfl); (· rfl)) | (apply Bc; (· exact nxE)) | (apply Bd; (· rfl); (· rfl); (· exact nxE))); (· first | exact Fx hF rfl rfl rfl | exact Zl (args := []) hG rfl rfl rfl rfl .nil (fun _ => by simp [rn]) | exact Nl N2 rfl rfl rfl rfl rfl | exact Nl N3 rfl rfl rfl rfl rfl | exact Ok.pe)) | ((first | apply Ca | (apply Cb; (· exact nxE))); (· first | exact Fx hF rfl rfl rfl | exact Zl (args := []) hG rfl rfl rfl rfl .nil (fun _ => by simp [rn]) | exact Nl N2 rfl rfl rfl rfl rfl | exact Nl N3 rfl rfl rfl rfl rfl | exact Ok.e0)) | refine Sx ?_ | (refine Sy (fun h => ?_) (fun h => ?_) <;> try (exfalso; omega; done)) | refine Sz (fun h => ?_) (fun h => ?_))
  refine AW.loop (X := {k : Nat // k ≤ n}) (fun k => ⟨[Oo, Oo, Bx 2 0, Bx 2 1, Bx 3 2, Bx 2 3, Bx 2 4, I ((n : Int) - (k.1 : Nat)), Oo, Oo, Oo, Oo, Oo, Oo, Oo, Oo, Oo, Oo, Oo, Oo, Oo, Oo, Oo, Oo, Oo, Oo, Oo, Oo, Oo, Oo, Oo, Oo, Oo, Oo, Oo, Oo, Oo], heapL [(⟨0, []⟩, ⟨0, []⟩, ⟨2, [[I 0, nilS]]⟩), (⟨1, []⟩, ⟨1, []⟩, ⟨2, [[I 0, nilS]]⟩), (⟨2, []⟩, ⟨2, []⟩, srcO code (itr (dM code ev) k.1 (s3, xs)).1), (⟨3, []⟩, ⟨3, []⟩, ⟨2, [[I ev, PL xs]]⟩), (⟨4, []⟩, ⟨4, []⟩, ⟨2, [[I ev, PL (itr (dM code ev) k.1 (s3, xs)).2]]⟩)], 900⟩) (fun k => n - k.1) ⟨0, Nat.zero_le _⟩ ?_ (fun k => ?_)
  ·
    (apply Le.headZ [_, _, _, _, _] rfl)
    all_goals (try dsimp only [srcs])
    (case' hfr | hob => (repeat' (first | refine La ?_ ?_ | exact Lc | refine Lo ?_ | refine ⟨⟨_, rfl, ?_⟩, ?_⟩ | refine Lx ?_)))
    all_goals (first | (rfl) | exact Ld)
  obtain ⟨k, hk⟩ := k
  simp only
  by_cases hlt : k < n
  · obtain ⟨i1, i2⟩ := dM_ok hc (ev := ev) h3 hl k (by omega)
    have hst : itr (dM code ev) (k + 1) (s3, xs) = dM code ev (itr (dM code ev) k (s3, xs)) := rfl
    generalize itr (dM code ev) k (s3, xs) = q at i1 i2 hst ⊢
    obtain ⟨s4, ys⟩ := q
    simp only at i1 i2 ⊢
    obtain ⟨e, s5, he, h5, hE⟩ := dE_ok hc i1 ev (xs := ys) (by omega)
    have hst := hst.trans (show dM code ev (s4, ys) = (s5, if (isEG ev ys && canEd ev ys e) = true then edL ys e else ys) by unfold dM; simp only [he])
    have hCan := sCanEdit_ac ev ys e (by omega)
    have hA : (isEG ev ys && canEd ev ys e) = true → _ := fun h => sApplyLZ_ac ev ys e (by omega) (by simp only [Bool.and_eq_true] at h; exact h.2)
    clear he
    obtain ⟨ek, ei, ef, et, ed, eq⟩ := e
    cases hb : (isEG ev ys && canEd ev ys ⟨ek, ei, ef, et, ed, eq⟩)
    · rw [hb] at hCan hst
      rw [if_neg (by simp)] at hst
      repeat' (first | ((first | apply Ba | (apply Bb; (· rfl); (· rfl)) | (apply Bc; (· exact nxE)) | (apply Bd; (· rfl); (· rfl); (· exact nxE))); (· first | exact Kz rfl rfl (hCan) (Aa (Ad (Ad An)) (Aa (Ad (Ad (Ad (Ad (Ad (Ad An)))))) An)) | exact Zl (args := [grD ev ys]) hE rfl rfl rfl rfl (ARs.cons (ARs.agg (.cons (.dd _) (.cons (.dd _) .nil))) .nil) (fun _ => by simp [rn]) | exact Ok.pe)) | ((first | apply Ca | (apply Cb; (· exact nxE))); (· first | exact Zl (args := [grD ev ys]) hE rfl rfl rfl rfl (ARs.cons (ARs.agg (.cons (.dd _) (.cons (.dd _) .nil))) .nil) (fun _ => by simp [rn]) | exact Ok.e0)) | refine Sx ?_ | (refine Sy (fun h => ?_) (fun h => ?_) <;> try (exfalso; omega; done)) | refine Sz (fun h => ?_) (fun h => ?_))
      refine ⟨⟨k + 1, by omega⟩, ?_, by simp only; omega⟩
      simp only [hst]
      (apply Le.headZ [_, _, _, _, _] rfl)
      all_goals (try dsimp only [srcs])
      (case' hfr | hob => (repeat' (first | refine La ?_ ?_ | exact Lc | refine Lo ?_ | refine ⟨⟨_, rfl, ?_⟩, ?_⟩ | refine Lx ?_)))
      all_goals (first | (rfl) | exact Ld)
    · rw [hb] at hCan hst
      rw [if_pos rfl] at hst
      have hA := hA hb
      repeat' (first | ((first | apply Ba | (apply Bb; (· rfl); (· rfl)) | (apply Bc; (· exact nxE)) | (apply Bd; (· rfl); (· rfl); (· exact nxE))); (· first | exact Kz rfl rfl (hCan) (Aa (Ad (Ad An)) (Aa (Ad (Ad (Ad (Ad (Ad (Ad An)))))) An)) | exact Kz rfl rfl (hA) (Aa (Ad (Ad An)) (Aa (Ad (Ad (Ad (Ad (Ad (Ad An)))))) An)) | exact Zl (args := [grD ev ys]) hE rfl rfl rfl rfl (ARs.cons (ARs.agg (.cons (.dd _) (.cons (.dd _) .nil))) .nil) (fun _ => by simp [rn]) | exact Ok.pe)) | ((first | apply Ca | (apply Cb; (· exact nxE))); (· first | exact Zl (args := [grD ev ys]) hE rfl rfl rfl rfl (ARs.cons (ARs.agg (.cons (.dd _) (.cons (.dd _) .nil))) .nil) (fun _ => by simp [rn]) | exact Ok.e0)) | refine Sx ?_ | (refine Sy (fun h => ?_) (fun h => ?_) <;> try (exfalso; omega; done)) | refine Sz (fun h => ?_) (fun h => ?_))
      refine ⟨⟨k + 1, by omega⟩, ?_, by simp only; omega⟩
      simp only [hst]
      (apply Le.headZ [_, _, _, _, _] rfl)
      all_goals (try dsimp only [srcs])
      (case' hfr | hob => (repeat' (first | refine La ?_ ?_ | exact Lc | refine Lo ?_ | refine ⟨⟨_, rfl, ?_⟩, ?_⟩ | refine Lx ?_)))
      all_goals (first | (rfl) | exact Ld)
  · obtain rfl : k = n := by omega
    repeat' (first | ((first | apply Ba | (apply Bb; (· rfl); (· rfl)) | (apply Bc; (· exact nxE)) | (apply Bd; (· rfl); (· rfl); (· exact nxE))); (· first | exact Ok.pe)) | ((first | apply Ca | (apply Cb; (· exact nxE))); (· first | exact Ok.e0)) | refine Sx ?_ | (refine Sy (fun h => ?_) (fun h => ?_) <;> try (exfalso; omega; done)) | refine Sz (fun h => ?_) (fun h => ?_))
    refine Yb ?_
    (apply Le.headZ (hs := []) [] rfl)
    all_goals (try dsimp only [srcs])
    (case' hfr => (repeat' (first | refine La ?_ ?_ | exact Lc | refine Lo ?_ | refine ⟨⟨_, rfl, ?_⟩, ?_⟩ | refine Lx ?_)))
    all_goals (first | exact Ld | exact trivial | (rfl))
set_option maxHeartbeats 8000000 in
theorem drawApplyEdits_ex (code : List Int) (hc : CodeOk code) : ∃ (ev : Int) (xs : List Pl) (es : List Ed), xs.length ≤ 1000 ∧ es.length ≤ 1000 ∧ AC Try.prog 60 [.d (BD code)] H0 (.tup [grD ev xs, EL es]) H0 := by
  have hF := l01From_ac code hc
  have hG := l11DrawZ_ac code hc _ (src0_ok hc)
  have hok := dr11_ok hc (src0_ok hc)
  generalize dr11 code (src0 code) = g at *
  obtain ⟨ev, xs, s1⟩ := g
  obtain ⟨_, _, hl, hs1⟩ := hok
  simp only at hl hs1 hG
  obtain ⟨m, s3, m1, m2, h3, q3, N3⟩ := next_ex hc hs1 9
  obtain ⟨n, rfl⟩ : ∃ n : Nat, m = n := ⟨m.toNat, by omega⟩
  obtain ⟨hq1, hq2, hq3⟩ := dN_ok hc (ev := ev) h3 hl n (by omega)
  obtain ⟨z, s6, z1, z2, h6, q6, N6⟩ := next_ex hc hq1 50
  obtain ⟨b, s7, b1, b2, h7, q7, N7⟩ := next_ex hc h6 2
  obtain ⟨N, hN⟩ : ∃ N : Nat, 60 + b = N := ⟨(60 + b).toNat, by omega⟩
  refine ⟨ev, xs, if z = 0 then manyE N N else (itr (dN code ev) n (s3, xs, [])).2.2, by omega, by (split <;> (try simp only [manyE_l])) <;> omega, ?_⟩
  refine AC.of_body 0 Try.func60 rfl (fun l h => absurd rfl h) (fun C hC => ?_)
  have hD : ∀ l, ¬ C.D0 l := fun l h => (hC l).1 h rfl
  simp only [startFr, Try.ntmps60, List.length_cons, List.length_nil, Nat.reduceAdd, Nat.reduceSub, List.replicate_succ, List.replicate_zero, List.cons_append, List.nil_append]
  repeat' (first | ((first | apply Ba | (apply Bb; (· rfl); (· rfl)) | (apply Bc; (· exact nxE)) | (apply Bd; (· rfl); (· rfl); (· exact nxE))); (· first | exact Fx hF rfl rfl rfl | exact Zl (args := []) hG rfl rfl rfl rfl .nil (fun _ => by simp [rn]) | exact Nl N3 rfl rfl rfl rfl rfl | exact Ok.pe)) | ((first | apply Ca | (apply Cb; (· exact nxE))); (· first | exact Fx hF rfl rfl rfl | exact Zl (args := []) hG rfl rfl rfl rfl .nil (fun _ => by simp [rn]) | exact Nl N3 rfl rfl rfl rfl rfl | exact Ok.e0)) | refine Sx ?_ | (refine Sy (fun h => ?_) (fun h => ?_) <;> try (exfalso; omega; done)) | refine Sz (fun h => ?_) (fun h => ?_))
  refine AW.loop (X := {k : Nat // k ≤ n}) (fun k => ⟨[Oo, Oo, Bx 2 0, Oo, Bx 3 1, Bx 2 2, .own 6 ⟨4, []⟩ 0 (itr (dN code ev) (k.1 : Nat) (s3, xs, [])).2.2.length, Bx 2 3, I ((n : Int) - (k.1 : Nat)), Oo, Oo, Oo, Oo, Oo, Oo, Oo, Oo, Oo, Oo, Oo, Oo, Oo, Oo, Oo, Oo, Oo, Oo, Oo, Oo, Oo, Oo, Oo, Oo, Oo, Oo, Oo, Oo, Oo, Oo, Oo, Oo, Oo, Oo, Oo, Oo, Oo, Oo, Oo, Oo, Oo, Oo, Oo, Oo, Oo, Oo, Oo, Oo, Oo, Oo], heapL [(⟨0, []⟩, ⟨0, []⟩, ⟨2, [[I 0, nilS]]⟩), (⟨1, []⟩, ⟨1, []⟩, srcO code (itr (dN code ev) k.1 (s3, xs, [])).1), (⟨2, []⟩, ⟨2, []⟩, ⟨2, [[I ev, PL xs]]⟩), (⟨3, []⟩, ⟨3, []⟩, ⟨2, [[I ev, PL (itr (dN code ev) k.1 (s3, xs, [])).2.1]]⟩), (⟨4, []⟩, ⟨4, []⟩, dobj 6 ((itr (dN code ev) k.1 (s3, xs, [])).2.2.map Ed.row))], 900⟩) (fun k => n - k.1) ⟨0, Nat.zero_le _⟩ ?_ (fun k => ?_)
  ·
    (apply Le.headZ [_, _, _, _, _] rfl)
    all_goals (try dsimp only [srcs])
    (case' hfr | hob => (repeat' (first | refine La ?_ ?_ | exact Lc | refine Lo ?_ | refine ⟨⟨_, rfl, ?_⟩, ?_⟩ | refine Lx ?_)))
    all_goals (first | (rfl) | exact Ld)
  obtain ⟨k, hk⟩ := k
  simp only
  by_cases hlt : k < n
  · obtain ⟨i1, i2, i3⟩ := dN_ok hc (ev := ev) h3 hl k (by omega)
    have hst : itr (dN code ev) (k + 1) (s3, xs, []) = dN code ev (itr (dN code ev) k (s3, xs, [])) := rfl
    generalize itr (dN code ev) k (s3, xs, []) = q at i1 i2 i3 hst ⊢
    obtain ⟨s4, ys, es⟩ := q
    simp only at i1 i2 i3 ⊢
    obtain ⟨e, s5, he, h5, hE⟩ := dE_ok hc i1 ev (xs := ys) (by omega)
    obtain ⟨y, s8, y1, y2, h8, q8, N8⟩ := next_ex hc h5 4
    have hst := hst.trans (show dN code ev (s4, ys, es) = (if (isEG ev ys && canEd ev ys e) = true then (s5, edL ys e, es ++ [e]) else if 0 < y then (s8, ys, es) else (s8, ys, es ++ [e])) by unfold dN; simp only [he, q8])
    have hCan := sCanEdit_ac ev ys e (by omega)
    have hA : (isEG ev ys && canEd ev ys e) = true → _ := fun h => sApplyLZ_ac ev ys e (by omega) (by simp only [Bool.and_eq_true] at h; exact h.2)
    clear he
    obtain ⟨ek, ei, ef, et, ed, eq⟩ := e
    cases hb : (isEG ev ys && canEd ev ys ⟨ek, ei, ef, et, ed, eq⟩)
    · rw [hb] at hCan hst
      rw [if_neg (by simp)] at hst
      by_cases hy : 0 < y
      · rw [if_pos hy] at hst
        repeat' (first | ((first | apply Ba | (apply Bb; (· rfl); (· rfl)) | (apply Bc; (· exact nxE)) | (apply Bd; (· rfl); (· rfl); (· exact nxE))); (· first | exact Kz rfl rfl (hCan) (Aa (Ad (Ad An)) (Aa (Ad (Ad (Ad (Ad (Ad (Ad An)))))) An)) | exact Zl (args := [grD ev ys]) hE rfl rfl rfl rfl (ARs.cons (ARs.agg (.cons (.dd _) (.cons (.dd _) .nil))) .nil) (fun _ => by simp [rn]) | exact Nl N8 rfl rfl rfl rfl rfl | exact Ok.pe)) | ((first | apply Ca | (apply Cb; (· exact nxE))); (· first | exact Zl (args := [grD ev ys]) hE rfl rfl rfl rfl (ARs.cons (ARs.agg (.cons (.dd _) (.cons (.dd _) .nil))) .nil) (fun _ => by simp [rn]) | exact Nl N8 rfl rfl rfl rfl rfl | exact Ok.e0)) | refine Sx ?_ | (refine Sy (fun h => ?_) (fun h => ?_) <;> try (exfalso; omega; done)) | refine Sz (fun h => ?_) (fun h => ?_))
        refine ⟨⟨k + 1, by omega⟩, ?_, by simp only; omega⟩
        simp only [hst]
        (apply Le.headZ [_, _, _, _, _] rfl)
        all_goals (try dsimp only [srcs])
        (case' hfr | hob => (repeat' (first | refine La ?_ ?_ | exact Lc | refine Lo ?_ | refine ⟨⟨_, rfl, ?_⟩, ?_⟩ | refine Lx ?_)))
        all_goals (first | (rfl) | exact Ld)
      · rw [if_neg hy] at hst
        repeat' (first | ((first | apply Ba | (apply Bb; (· rfl); (· rfl)) | (apply Bc; (· exact nxE)) | (apply Bd; (· rfl); (· rfl); (· exact nxE))); (· first | exact Kz rfl rfl (hCan) (Aa (Ad (Ad An)) (Aa (Ad (Ad (Ad (Ad (Ad (Ad An)))))) An)) | exact Zl (args := [grD ev ys]) hE rfl rfl rfl rfl (ARs.cons (ARs.agg (.cons (.dd _) (.cons (.dd _) .nil))) .nil) (fun _ => by simp [rn]) | exact Nl N8 rfl rfl rfl rfl rfl | exact Ok.append1 (row := [DI ek, DI ei, DI ef, DI et, DI ed, DI eq]) rfl rfl (by decide) rfl rfl (List.length_map _) rfl rfl rfl (by rfl) (by omega) (by omega) | exact Ok.pe)) | ((first | apply Ca | (apply Cb; (· exact nxE))); (· first | exact Zl (args := [grD ev ys]) hE rfl rfl rfl rfl (ARs.cons (ARs.agg (.cons (.dd _) (.cons (.dd _) .nil))) .nil) (fun _ => by simp [rn]) | exact Nl N8 rfl rfl rfl rfl rfl | exact Ok.append1 (row := [DI ek, DI ei, DI ef, DI et, DI ed, DI eq]) rfl rfl (by decide) rfl rfl (List.length_map _) rfl rfl rfl (by rfl) (by omega) (by omega) | exact Ok.e0)) | refine Sx ?_ | (refine Sy (fun h => ?_) (fun h => ?_) <;> try (exfalso; omega; done)) | refine Sz (fun h => ?_) (fun h => ?_))
        refine ⟨⟨k + 1, by omega⟩, ?_, by simp only; omega⟩
        simp only [hst]
        (apply Le.headZ [_, _, _, _, _] rfl)
        all_goals (try dsimp only [srcs])
        (case' hfr | hob => (repeat' (first | refine La ?_ ?_ | exact Lc | refine Lo ?_ | refine ⟨⟨_, rfl, ?_⟩, ?_⟩ | refine Lx ?_)))
        all_goals (first | ((simp [Ed.row]; done)) | exact Ld)
    · rw [hb] at hCan hst
      rw [if_pos rfl] at hst
      have hA := hA hb
      repeat' (first | ((first | apply Ba | (apply Bb; (· rfl); (· rfl)) | (apply Bc; (· exact nxE)) | (apply Bd; (· rfl); (· rfl); (· exact nxE))); (· first | exact Kz rfl rfl (hCan) (Aa (Ad (Ad An)) (Aa (Ad (Ad (Ad (Ad (Ad (Ad An)))))) An)) | exact Kz rfl rfl (hA) (Aa (Ad (Ad An)) (Aa (Ad (Ad (Ad (Ad (Ad (Ad An)))))) An)) | exact Zl (args := [grD ev ys]) hE rfl rfl rfl rfl (ARs.cons (ARs.agg (.cons (.dd _) (.cons (.dd _) .nil))) .nil) (fun _ => by simp [rn]) | exact Ok.append1 (row := [DI ek, DI ei, DI ef, DI et, DI ed, DI eq]) rfl rfl (by decide) rfl rfl (List.length_map _) rfl rfl rfl (by rfl) (by omega) (by omega) | exact Ok.pe)) | ((first | apply Ca | (apply Cb; (· exact nxE))); (· first | exact Zl (args := [grD ev ys]) hE rfl rfl rfl rfl (ARs.cons (ARs.agg (.cons (.dd _) (.cons (.dd _) .nil))) .nil) (fun _ => by simp [rn]) | exact Ok.append1 (row := [DI ek, DI ei, DI ef, DI et, DI ed, DI eq]) rfl rfl (by decide) rfl rfl (List.length_map _) rfl rfl rfl (by rfl) (by omega) (by omega) | exact Ok.e0)) | refine Sx ?_ | (refine Sy (fun h => ?_) (fun h => ?_) <;> try (exfalso; omega; done)) | refine Sz (fun h => ?_) (fun h => ?_))
      refine ⟨⟨k + 1, by omega⟩, ?_, by simp only; omega⟩
      simp only [hst]
      (apply Le.headZ [_, _, _, _, _] rfl)
      all_goals (try dsimp only [srcs])
      (case' hfr | hob => (repeat' (first | refine La ?_ ?_ | exact Lc | refine Lo ?_ | refine ⟨⟨_, rfl, ?_⟩, ?_⟩ | refine Lx ?_)))
      all_goals (first | ((simp [Ed.row]; done)) | exact Ld)
  obtain rfl : k = n := by omega
  generalize itr (dN code ev) k (s3, xs, []) = q at *
  obtain ⟨s4, ys, es⟩ := q
  simp only at hq1 hq2 hq3 N6 ⊢
  by_cases hz : z = 0
  · simp only [if_pos hz]
    repeat' (first | ((first | apply Ba | (apply Bb; (· rfl); (· rfl)) | (apply Bc; (· exact nxE)) | (apply Bd; (· rfl); (· rfl); (· exact nxE))); (· first | exact Nl N6 rfl rfl rfl rfl rfl | exact Nl N7 rfl rfl rfl rfl rfl | exact Ok.pe)) | ((first | apply Ca | (apply Cb; (· exact nxE))); (· first | exact Nl N6 rfl rfl rfl rfl rfl | exact Nl N7 rfl rfl rfl rfl rfl | exact Ok.e0)) | refine Sx ?_ | (refine Sy (fun h => ?_) (fun h => ?_) <;> try (exfalso; omega; done)) | refine Sz (fun h => ?_) (fun h => ?_))
    refine AW.loop (X := {k : Nat // k ≤ N}) (fun k => ⟨[Oo, Oo, Bx 2 0, Oo, Oo, Bx 2 1, .own 6 ⟨2, []⟩ 0 (k.1 : Nat), Oo, Oo, Oo, I ((N : Int) - (k.1 : Nat)), Oo, Oo, Oo, Oo, Oo, Oo, Oo, Oo, Oo, Oo, Oo, Oo, Oo, Oo, Oo, Oo, Oo, Oo, Oo, Oo, Oo, Oo, Oo, Oo, Oo, Oo, Oo, Oo, Oo, Oo, Oo, Oo, Oo, Oo, Oo, Oo, Oo, Oo, Oo, Oo, Oo, Oo, Oo, Oo, Oo, Oo, Oo, Oo], heapL [(⟨0, []⟩, ⟨0, []⟩, ⟨2, [[I 0, nilS]]⟩), (⟨1, []⟩, ⟨1, []⟩, ⟨2, [[I ev, PL xs]]⟩), (⟨2, []⟩, ⟨2, []⟩, dobj 6 ((manyE N k.1).map Ed.row))], 900⟩) (fun k => N - k.1) ⟨0, Nat.zero_le _⟩ ?_ (fun k => ?_)
    ·
      (apply Le.headZ [_, _, _] rfl)
      all_goals (try dsimp only [srcs])
      (case' hfr | hob => (repeat' (first | refine La ?_ ?_ | exact Lc | refine Lo ?_ | refine ⟨⟨_, rfl, ?_⟩, ?_⟩ | refine Lx ?_)))
      all_goals (first | (rfl) | exact Ld)
    obtain ⟨j, hj⟩ := k
    simp only
    by_cases hlt2 : j < N
    · have hml : ((manyE (N : Int) j).map Ed.row).length = j := by rw [List.length_map, manyE_l]
      obtain ⟨w, hw⟩ : ∃ w, w = ((N : Int) - j).tmod 2 := ⟨_, rfl⟩
      have hwb : 0 ≤ w ∧ w ≤ 1 := by rw [hw, Int.tmod_eq_emod_of_nonneg (by omega)]; omega
      have hms := manyE_s (n := N) (k := j)
      rw [← hw] at hms
      repeat' (first | ((first | apply Ba | (apply Bb; (· rfl); (· rfl)) | (apply Bc; (· exact nxE)) | (apply Bd; (· rfl); (· rfl); (· exact nxE))); (· first | exact Ok.remE rfl rfl rfl (by decide) hw.symm | exact Ok.append1 (row := [DI (1 + w), DI 0, DI 0, DI 0, DI 0, DI 0]) rfl rfl (by decide) rfl rfl hml rfl rfl rfl (by rfl) (by omega) (by omega) | exact Ok.pe)) | ((first | apply Ca | (apply Cb; (· exact nxE))); (· first | exact Ok.append1 (row := [DI (1 + w), DI 0, DI 0, DI 0, DI 0, DI 0]) rfl rfl (by decide) rfl rfl hml rfl rfl rfl (by rfl) (by omega) (by omega) | exact Ok.e0)) | refine Sx ?_ | (refine Sy (fun h => ?_) (fun h => ?_) <;> try (exfalso; omega; done)) | refine Sz (fun h => ?_) (fun h => ?_))
      refine ⟨⟨j + 1, by omega⟩, ?_, by simp only; omega⟩
      simp only [hms]
      (apply Le.headZ [_, _, _] rfl)
      all_goals (try dsimp only [srcs])
      (case' hfr | hob => (repeat' (first | refine La ?_ ?_ | exact Lc | refine Lo ?_ | refine ⟨⟨_, rfl, ?_⟩, ?_⟩ | refine Lx ?_)))
      all_goals (first | ((simp [Ed.row, plZ]; done)) | exact Ld)
    · obtain rfl : j = N := by omega
      have hml : ((manyE (j : Int) j).map Ed.row).length = (manyE (j : Int) j).length := List.length_map _
      have hml2 : ((manyE (j : Int) j).map Ed.row).length = j := by rw [List.length_map, manyE_l]
      repeat' (first | ((first | apply Ba | (apply Bb; (· rfl); (· rfl)) | (apply Bc; (· exact nxE)) | (apply Bd; (· rfl); (· rfl); (· exact nxE))); (· first | exact Ok.pe)) | ((first | apply Ca | (apply Cb; (· exact nxE))); (· first | exact Ok.e0)) | refine Sx ?_ | (refine Sy (fun h => ?_) (fun h => ?_) <;> try (exfalso; omega; done)) | refine Sz (fun h => ?_) (fun h => ?_))
      refine Yb ?_
      (apply Le.headZ (hs := []) [] rfl)
      all_goals (try dsimp only [srcs])
      (case' hfr => (repeat' (first | refine La ?_ ?_ | exact Lc | refine Lo ?_ | refine ⟨⟨_, rfl, ?_⟩, ?_⟩ | refine Lx ?_)))
      all_goals (first | exact Ld | exact trivial | (exact AR.whole rfl (by simp) (by first | exact hml2 | exact hml)))
  · simp only [if_neg hz]
    repeat' (first | ((first | apply Ba | (apply Bb; (· rfl); (· rfl)) | (apply Bc; (· exact nxE)) | (apply Bd; (· rfl); (· rfl); (· exact nxE))); (· first | exact Nl N6 rfl rfl rfl rfl rfl | exact Ok.pe)) | ((first | apply Ca | (apply Cb; (· exact nxE))); (· first | exact Nl N6 rfl rfl rfl rfl rfl | exact Ok.e0)) | refine Sx ?_ | (refine Sy (fun h => ?_) (fun h => ?_) <;> try (exfalso; omega; done)) | refine Sz (fun h => ?_) (fun h => ?_))
    refine Yb ?_
    (apply Le.headZ (hs := []) [] rfl)
    all_goals (try dsimp only [srcs])
    (case' hfr => (repeat' (first | refine La ?_ ?_ | exact Lc | refine Lo ?_ | refine ⟨⟨_, rfl, ?_⟩, ?_⟩ | refine Lx ?_)))
    all_goals (first | exact Ld | exact trivial | (exact AR.whole rfl (by simp) (List.length_map _)))
end Go.Proofs.Ytegfjedklebbfaa
end
