/-
  The abstract reading: slices whose capacity is known: appended to in place or anew, cut beyond their length, copied, cleared.
-/
import Derived.Test.YtemomjcgkpinfaaA16
namespace Go.Proofs.Ytemomjcgkpinfaa
open Go Go.RowKit
set_option linter.unusedSimpArgs false
set_option linter.unusedVariables false

/-! ### The capacity forgotten -/
def fgt : AV → AV
  | .ownc k l off n _ => .own k l off n
  | a => a
theorem VR.fgt {ι : Iota} {F : Nat → Prop} {w : World} {a : AV} {v : Value} (h : VR ι F w a v) : VR ι F w (fgt a) v := by
  cases h with
  | ownc k l off n cap b sz h hn hs => exact .own k l off n b sz cap h hn hs
  | owncNil k l h => exact .ownNil k l h
  | d h => exact .d h
  | agg cs vs hl h => exact .agg cs vs hl h
  | tup cs vs hl h => exact .tup cs vs hl h
  | own k l off n b sz cap h hn hs => exact .own k l off n b sz cap h hn hs
  | ownNil k l h => exact .ownNil k l h
  | ptr k l i j b sz h => exact .ptr k l i j b sz h
  | dptr cs b off g hF h hd => exact .dptr cs b off g hF h hd
  | clo fn fs cs fv cv hf hc h h' => exact .clo fn fs cs fv cv hf hc h h'
  | dead v => exact .dead v
section
variable {P : Program} {o : Oper} {A : Operand → AV} {H : Heap} {new : Nat}
theorem OpOk.forget {reads : List Loc} {val : AV} {wr : List W} (h : OpOk P o (fun x => fgt (A x)) reads H new val wr) : OpOk P o A reads H new val wr :=
  fun ι F w H1 ρ h1 h2 h3 h4 => h ι F w H1 ρ h1 h2 h3 fun x hx => (h4 x hx).fgt

/-! ### Rows of a place overwritten -/
theorem Post.rows {ι : Iota} {F : Nat → Prop} {w : World} {H : Heap} (hs : Sim ι F H w) {l : Loc} {ob : AObj} {b off c : Nat} {cs news : List Value} {T : TypeId} {R : List (List AV)} (hl : H l = some ob) (he : ι l = some (some (b, cs.length))) (hb : w.heap[b]? = some (.cells cs.toArray T (0, 0))) (hoff : off ≤ ob.rows.length)
    (hfit : (off + c) * ob.k ≤ cs.length) (hlen : ob.rows.length * ob.k ≤ cs.length) (hrows : ∀ (i : Nat) r, ob.rows[i]? = some r → r.length = ob.k ∧ ∀ (j : Nat) c, r[j]? = some c → ∃ v, cs[i * ob.k + j]? = some v ∧ VR ι F w c v) (hnl : news.length = c * ob.k) (hRl : R.length = c)
    (hcell : ∀ (i : Nat) r, R[i]? = some r → r.length = ob.k ∧ ∀ (j : Nat) c, r[j]? = some c → ∃ u, news[i * ob.k + j]? = some u ∧ VR ι F w c u) (reads : List Loc) (hr : l ∈ reads) (new : Nat) :
    Post ι F H w reads new ι F (upd H l (some ⟨ob.k, ob.rows.take off ++ R ++ ob.rows.drop (off + c)⟩)) (w.setRow b (cs.take (off * ob.k) ++ news ++ cs.drop (off * ob.k + news.length)).toArray) := by
  have hfit2 : off * ob.k + c * ob.k ≤ cs.length := by rw [← Nat.add_mul]; exact hfit
  have hlen' : (cs.take (off * ob.k) ++ news ++ cs.drop (off * ob.k + news.length)).length = cs.length := by
    simp only [List.length_append, List.length_take, List.length_drop, hnl]; omega
  have htl : (cs.take (off * ob.k)).length = off * ob.k := by simp; omega
  have hTl : (ob.rows.take off).length = off := by simp; omega
  refine Post.write hs hl he hb hlen' (o' := ⟨ob.k, ob.rows.take off ++ R ++ ob.rows.drop (off + c)⟩) ?_ (fun i r hr' => ?_) reads hr new
  · rw [hlen']
    simp only [List.length_append, hTl, hRl, List.length_drop]
    rcases Nat.le_total ob.rows.length (off + c) with h | h
    · rw [Nat.sub_eq_zero_of_le h, Nat.add_zero]; exact hfit
    · rw [Nat.add_sub_cancel' h]; exact hlen
  · rw [List.append_assoc, List.getElem?_append, hTl] at hr'
    show r.length = ob.k ∧ ∀ (j : Nat) c_1, r[j]? = some c_1 → ∃ v, (cs.take (off * ob.k) ++ news ++ cs.drop (off * ob.k + news.length))[i * ob.k + j]? = some v ∧ VR ι F w c_1 v
    split at hr'
    · rename_i hin
      rw [List.getElem?_take, if_pos hin] at hr'
      obtain ⟨h1, h2⟩ := hrows i r hr'
      refine ⟨h1, fun j c hc => ?_⟩
      obtain ⟨u, h3, h4⟩ := h2 j c hc
      refine ⟨u, ?_, h4⟩
      have hj : j < ob.k := by rw [← h1]; exact (List.getElem?_eq_some_iff.1 hc).1
      have hlt : i * ob.k + j < off * ob.k := by
        have : (i + 1) * ob.k ≤ off * ob.k := Nat.mul_le_mul_right _ hin
        rw [Nat.succ_mul] at this; omega
      rw [List.append_assoc, List.getElem?_append_left (by omega), List.getElem?_take, if_pos hlt]; exact h3
    · rename_i hin
      rw [List.getElem?_append, hRl] at hr'
      split at hr'
      · rename_i hin2
        obtain ⟨h1, h2⟩ := hcell (i - off) r hr'
        refine ⟨h1, fun j c hc => ?_⟩
        obtain ⟨u, h3, h4⟩ := h2 j c hc
        refine ⟨u, ?_, h4⟩
        have h3l := (List.getElem?_eq_some_iff.1 h3).1
        have hik : i * ob.k = off * ob.k + (i - off) * ob.k := by rw [← Nat.add_mul]; congr 1; omega
        rw [List.getElem?_append_left (by rw [List.length_append, htl]; omega), List.getElem?_append_right (by rw [htl]; omega), htl, show i * ob.k + j - off * ob.k = (i - off) * ob.k + j by omega]
        exact h3
      · rename_i hin2
        rw [List.getElem?_drop, show off + c + (i - off - c) = i by omega] at hr'
        obtain ⟨h1, h2⟩ := hrows i r hr'
        refine ⟨h1, fun j c' hc => ?_⟩
        obtain ⟨u, h3, h4⟩ := h2 j c' hc
        refine ⟨u, ?_, h4⟩
        have hge : off * ob.k + c * ob.k ≤ i * ob.k := by rw [← Nat.add_mul]; exact Nat.mul_le_mul_right _ (by omega)
        rw [List.getElem?_append_right (by rw [List.length_append, htl, hnl]; omega), List.length_append, htl, List.getElem?_drop, show off * ob.k + news.length + (i * ob.k + j - (off * ob.k + news.length)) = i * ob.k + j by rw [hnl]; omega]
        exact h3

/-! ### Copies -/
theorem run_copy_at {t t' ty e : TypeId} {k b : Nat} {z : Value} [h : TySlice P t e k b z] {g o dLen dCap m c n : Nat} {a : Option Addr} {cs news : List Value} {T : TypeId} {v : Value} {w : World} (hv : v = .slice a m c) (hn : n = Nat.min m dLen) (hf : (Builtin.firstCells k n v).run P w = .ok news.toArray w)
    (hb : w.heap[g]? = some (.cells cs.toArray T (0, 0))) (h1 : ∀ u ∈ news, u.oneCell' = true) (hfit : o + news.length ≤ cs.length) :
    (Builtin.copy_ #[t, t'] ty #[.slice (some ⟨g, o, none⟩) dLen dCap, v]).run P w = .ok (goInt n) (w.setRow g (cs.take o ++ news ++ cs.drop (o + news.length)).toArray) := by
  obtain ⟨i, hi, rfl, rfl, hz⟩ := rows_eq (P := P) (t := t) (e := e) (k := k) (b := b) (z := z)
  subst hv hn
  have hst := run_storeCells_at P g o T news 0 cs.toArray w hb (by simpa using hfit) h1
  simp only [Nat.add_zero] at hst
  simp only [Builtin.copy_, run_underlying h.u, sizeOf, typeInfo, hi, Builtin.lenOf, List.getElem?_toArray, List.getElem?_cons_zero, List.getElem?_cons_succ, Sem.run_bind, Sem.run_pure, Result.andThen_ok, run_program, hf, hst]
theorem run_copy_none {t t' ty e : TypeId} {k b : Nat} {z : Value} [h : TySlice P t e k b z] {m c : Nat} {a : Option Addr} {cs : Array Value} {v : Value} {w : World} (hv : v = .slice a m c) (hf : (Builtin.firstCells k 0 v).run P w = .ok cs w) :
    (Builtin.copy_ #[t, t'] ty #[.slice none 0 0, v]).run P w = .ok (goInt 0) w := by
  obtain ⟨i, hi, rfl, rfl, hz⟩ := rows_eq (P := P) (t := t) (e := e) (k := k) (b := b) (z := z)
  subst hv
  simp [Builtin.copy_, run_underlying h.u, sizeOf, typeInfo, hi, Builtin.lenOf, hf]
theorem Ok.cellOf {k : Nat} {R : List (List AV)} (hk0 : 0 < k) {ι : Iota} {F : Nat → Prop} {w : World} {news : List Value} (hone : ∀ r ∈ R, r.all AV.one = true) (hlen : news.length = R.length * k) (h : ∀ (i : Nat) r, R[i]? = some r → r.length = k ∧ ∀ (j : Nat) c, r[j]? = some c → ∃ u, news[i * k + j]? = some u ∧ VR ι F w c u) : ∀ u ∈ news, u.oneCell' = true := by
  intro u hu
  obtain ⟨q, hq⟩ := List.getElem?_of_mem hu
  have hql : q < R.length * k := by rw [← hlen]; exact (List.getElem?_eq_some_iff.1 hq).1
  have hqi : q / k < R.length := (Nat.div_lt_iff_lt_mul hk0).2 hql
  obtain ⟨h1, h2⟩ := h (q / k) _ (List.getElem?_eq_getElem hqi)
  have hqj : q % k < R[q / k].length := by rw [h1]; exact Nat.mod_lt _ hk0
  obtain ⟨u', h3, h4⟩ := h2 (q % k) _ (List.getElem?_eq_getElem hqj)
  rw [Nat.div_add_mod', hq] at h3
  cases h3
  exact h4.one (List.all_eq_true.1 (hone _ (List.getElem_mem hqi)) _ (List.getElem_mem hqj))
theorem SrcIs.congr {H H1 : Heap} {k : Nat} {a : AV} {R : List (List AV)} {rd : List Loc} (h : SrcIs H k a R rd) (hH : ∀ l ∈ rd, H1 l = H l) : SrcIs H1 k a R rd := by
  cases h with
  | data rows hk => exact .data rows hk
  | own l off n ob hl hk hn => exact .own l off n ob ((hH l (by simp)).trans hl) hk hn
  | nil => exact .nil
/-- A row read as a shorter one. -/
theorem VR.shorter {ι : Iota} {F : Nat → Prop} {w : World} {k off n m c : Nat} {l : Loc} {a : Option Addr} (h : VR ι F w (.own k l off n) (.slice a n c)) (hm : m ≤ n) : VR ι F w (.own k l off m) (.slice a m c) := by
  rcases h.own_inv with ⟨b, sz, cap, e, h1, h2, h3⟩ | ⟨e, rfl, rfl, h3⟩
  · cases h3; exact .own k l off m b sz _ e (Nat.le_trans hm h1) h2
  · cases h3
    have : m = 0 := by omega
    subst this; exact .ownNil k l e
theorem firstCells_len {k n m m' c : Nat} {a : Option Addr} : Builtin.firstCells k n (.slice a m c) = Builtin.firstCells k n (.slice a m' c) := by cases a <;> rfl
/-- A copy into a row of one's own, of as many rows as the source says: n of them. -/
theorem OpOk.copyC {t t' e : TypeId} {ts : Array TypeId} {d x : Operand} {k b n m off : Nat} {z : Value} {l : Loc} {ob : AObj} {R : List (List AV)} {rd : List Loc} (ho : o.op = .call { callee := .builtin .copy, args := #[d, x], argTypes := ts }) (hts : ts = #[t, t']) [h : TySlice P t e k b z] (hk0 : 0 < k)
    (hd : A d = .own k l off n) (hl : H l = some ob) (hk : ob.k = k) (hn : off + n ≤ ob.rows.length)
    (hx : (SrcIs H k (A x) R rd ∧ R.length = m ∧ m ≤ n) ∨ (∃ l' off' m' ob', A x = .own k l' off' m' ∧ n ≤ m' ∧ m = n ∧ H l' = some ob' ∧ ob'.k = k ∧ off' + m' ≤ ob'.rows.length ∧ R = (ob'.rows.drop off').take n ∧ rd = [l'])) (hone : ∀ r ∈ R, r.all AV.one = true) :
    OpOk P o A (l :: rd) H new (I (m : Nat)) [.one l (some ⟨k, ob.rows.take off ++ R ++ ob.rows.drop (off + m)⟩)] := by
  intro ι F w H1 ρ hH hnew hs hv
  subst hk
  have hvd := hv d (by simp [ho, Op.operands, Call.operands])
  have hvx := hv x (by simp [ho, Op.operands, Call.operands])
  have hl1 := (hH l (by simp)).trans hl
  rw [hd] at hvd
  -- the source
  have hsrc : ∃ (a : Option Addr) (ms cap : Nat) (news : List Value), ρ x = .slice a ms cap ∧ Nat.min ms n = m ∧ R.length = m ∧ news.length = R.length * ob.k ∧ (Builtin.firstCells ob.k m (.slice a ms cap)).run P w = .ok news.toArray w ∧
      ∀ (i : Nat) r, R[i]? = some r → r.length = ob.k ∧ ∀ (j : Nat) c, r[j]? = some c → ∃ u, news[i * ob.k + j]? = some u ∧ VR ι F w c u := by
    rcases hx with ⟨hx, hRl, hmn⟩ | ⟨l', off', m', ob', hA, hnm, rfl, hl', hk', hn', hR, rfl⟩
    · obtain ⟨a, cap, news, hxv, hnl, hfc, hcell, hno⟩ := src_cells (P := P) hk0 (hx.congr fun l' hl' => hH l' (by simp [hl'])) hs hvx hone
      refine ⟨a, R.length, cap, news, hxv, ?_, hRl, hnl, ?_, hcell⟩
      · rw [hRl]; exact Nat.min_eq_left hmn
      · have := hfc w (fun _ => rfl); rw [hxv, hRl] at this; rw [hRl]; exact this
    · rw [hA] at hvx
      have hvx' : ∃ a cap, ρ x = .slice a m' cap := by
        rcases hvx.own_inv with ⟨b, sz, cap, _, _, _, e⟩ | ⟨_, _, rfl, e⟩
        · exact ⟨_, _, e⟩
        · exact ⟨_, _, e⟩
      obtain ⟨a, cap, hxv⟩ := hvx'
      rw [hxv] at hvx
      have hsh := hvx.shorter hnm
      have hRl : R.length = m := by rw [hR]; simp; omega
      obtain ⟨a2, cap2, news, hxv2, hnl, hfc, hcell, hno⟩ := src_cells (P := P) hk0 (SrcIs.own (H := H1) (k := ob.k) l' off' m ob' ((hH l' (by simp)).trans hl') hk' (by omega)) hs hsh (by rw [← hR]; exact hone)
      rw [← hR] at hxv2 hnl hfc hcell
      cases hxv2
      refine ⟨a, m', cap, news, hxv, Nat.min_eq_right hnm, hRl, hnl, ?_, hcell⟩
      rw [firstCells_len (m' := R.length)]; exact hfc w (fun _ => rfl)
  obtain ⟨a, ms, cap, news, hxv, hmin, hRl, hnl, hfc, hcell⟩ := hsrc
  have hno := Ok.cellOf hk0 hone hnl hcell
  have hmn : m ≤ n := by rw [← hmin]; exact Nat.min_le_right _ _
  have hrunop : ∀ r dv, ρ d = dv → (Builtin.copy_ #[t, t'] o.type #[dv, ρ x]).run P w = r → (execOp ρ o).run P w = r.andThen fun v w' => .ok (.value v) w' := fun r sv hsv hr => by
    subst hsv
    simp [execOp, ho, hts, resolve, invoke, builtin, hr]
  rcases hvd.own_inv with ⟨g, sz, dCap, eι, hcap, hfit, hdv⟩ | ⟨eι, h0, hn0, hdv⟩
  · rcases hs.obj l ob hl1 with ⟨e', _⟩ | ⟨g', cs, T, e', hb, hlen, hrows⟩
    · rw [eι] at e'; cases e'
    · rw [eι] at e'; simp only [Option.some.injEq, Prod.mk.injEq] at e'
      obtain ⟨rfl, rfl⟩ := e'
      have hfit1 : (off + m) * ob.k ≤ cs.length := Nat.le_trans (Nat.mul_le_mul_right _ (by omega)) hlen
      have hr := run_copy_at (P := P) (t := t) (t' := t') (ty := o.type) (e := e) (k := ob.k) (b := b) (z := z) (w := w) (g := g) (o := off * ob.k) (dLen := n) (dCap := dCap) (v := ρ x) (n := m) (news := news) (cs := cs) hxv hmin.symm (by rw [hxv]; exact hfc) hb hno (by rw [hnl, hRl, ← Nat.add_mul]; exact hfit1)
      rw [hrunop _ _ hdv hr]
      simp only [Result.andThen_ok]
      refine ⟨ι, F, .d (.v _), Post.rows hs hl1 eι hb (by omega) hfit1 hlen hrows (by rw [hnl, hRl]) hRl hcell _ (by simp) new⟩
  · have hm0 : m = 0 := by omega
    subst hm0 h0 hn0
    have hR0 : R = [] := List.length_eq_zero_iff.1 hRl
    have hr := run_copy_none (P := P) (t := t) (t' := t') (ty := o.type) (e := e) (k := ob.k) (b := b) (z := z) (w := w) (v := ρ x) hxv (by rw [hxv]; exact hfc)
    rw [hrunop _ _ hdv hr]
    simp only [Result.andThen_ok]
    refine ⟨ι, F, .d (.v _), ?_⟩
    have : upds H1 [.one l (some ⟨ob.k, ob.rows.take 0 ++ R ++ ob.rows.drop (0 + 0)⟩)] = H1 := by
      funext l'
      simp only [upds, W.app, upd]
      split
      · rename_i e; subst e; rw [hl1, hR0]; simp
      · rfl
    rw [this]
    exact Post.same hs _ _

/-! ### Appended in place, or anew -/
theorem OpOk.appendIn {t t' e e' : TypeId} {ts : Array TypeId} {s x : Operand} {k b b' n N : Nat} {z z' : Value} {l : Loc} {ob : AObj} {R : List (List AV)} {rd : List Loc} (ho : o.op = .call { callee := .builtin .append, args := #[s, x], argTypes := ts }) (hts : ts = #[t, t']) [h : TySlice P t e k b z] [h' : TySlice P t' e' k b' z'] (hk0 : 0 < k)
    (hd : A s = .ownc k l 0 n N) (hN : 0 < N) (hl : H l = some ob) (hk : ob.k = k) (hn : n ≤ ob.rows.length) (hx : SrcIs H k (fgt (A x)) R rd) (hone : ∀ r ∈ R, r.all AV.one = true) (hroom : n + R.length ≤ N) :
    OpOk P o A (l :: rd) H new (.ownc k l 0 (n + R.length) N) [.one l (some ⟨k, ob.rows.take n ++ R ++ ob.rows.drop (n + R.length)⟩)] := by
  intro ι F w H1 ρ hH hnew hs hv
  subst hk
  have hvs := hv s (by simp [ho, Op.operands, Call.operands])
  have hvx := (hv x (by simp [ho, Op.operands, Call.operands])).fgt
  have hl1 := (hH l (by simp)).trans hl
  obtain ⟨a, cap, news, hxv, hnl, hfc, hcell, hno⟩ := src_cells (P := P) hk0 (hx.congr fun l' hl' => hH l' (by simp [hl'])) hs hvx hone
  have hrunop : ∀ r sv, ρ s = sv → (Builtin.append_ #[t, t'] o.type #[sv, ρ x]).run P w = r → (execOp ρ o).run P w = r.andThen fun v w' => .ok (.value v) w' := fun r sv hsv hr => by
    subst hsv
    simp [execOp, ho, hts, resolve, invoke, builtin, hr]
  rw [hd] at hvs
  rcases hvs.ownc_inv with ⟨g, sz, eι, hcap, hfit, hsv⟩ | ⟨_, _, _, h0, _⟩
  · rcases hs.obj l ob hl1 with ⟨e', _⟩ | ⟨g', cs, T, e', hb, hlen, hrows⟩
    · rw [eι] at e'; cases e'
    · rw [eι] at e'; simp only [Option.some.injEq, Prod.mk.injEq] at e'
      obtain ⟨rfl, rfl⟩ := e'
      simp only [Nat.zero_add, Nat.zero_mul] at hfit hsv
      have hr := run_append_room' (P := P) (w := w) (t := t) (t' := t') (ty := o.type) (e := e) (e' := e') (k := ob.k) (b := b) (b' := b') (z := z) (z' := z') (sLen := n) (v := ρ x) hxv (hfc w (fun _ => rfl)) hnl hb hno hroom hfit
      rw [hrunop _ _ hsv hr]
      simp only [Result.andThen_ok]
      refine ⟨ι, F, ?_, ?_⟩
      · have := VR.ownc (ι := ι) (F := F) (w := w.setRow g (cs.take (n * ob.k) ++ news ++ cs.drop (n * ob.k + R.length * ob.k)).toArray) ob.k l 0 (n + R.length) N g cs.length eι hroom (by simpa using hfit)
        simpa using this
      · have := Post.rows hs hl1 eι hb hn (Nat.le_trans (Nat.mul_le_mul_right _ hroom) hfit) hlen hrows hnl rfl hcell (l :: rd) (by simp) new
        rw [hnl] at this
        exact this
  · omega
theorem zeroCells_made {z : Value} {n : Nat} : Builtin.zeroCells z.cells n = madeCells z.cells (n * z.cells.size) := rfl
theorem run_append_zgrow {t t' ty e : TypeId} {kd : IntKind} {k b m : Nat} {z : Value} [h : TySlice P t e k b z] (ht' : P.underlying t' = some (.int kd)) {base : Option Addr} {sLen sCap : Nat} {olds : List Value} {w : World} (hk0 : 0 < k)
    (hfo : (Builtin.firstCells k sLen (.slice base sLen sCap)).run P w.drew = .ok olds.toArray w.drew) (hg : sCap < sLen + m) (h63 : sLen + m ≤ 9223372036854775807) (hb : (sLen + m) * b ≤ 140737488355328) (hm : 0 < m) :
    (Builtin.append_ #[t, t'] ty #[.slice base sLen sCap, .int .i64 (m : Nat)]).run P w = .ok (.slice (some ⟨w.heap.size, 0, none⟩) (sLen + m) (grownCap w (sLen + m) sCap e))
      (w.drew.alloc (.cells (olds.toArray ++ madeCells z.cells (m * k) ++ madeCells z.cells ((grownCap w (sLen + m) sCap e - (sLen + m)) * k)) e)) := by
  obtain ⟨i, hi, rfl, rfl, hz⟩ := rows_eq (P := P) (t := t) (e := e) (k := k) (b := b) (z := z)
  have hn : ¬ (sLen + m ≤ sCap) := by omega
  have h63' : ¬ (9223372036854775807 < ((sLen : Int) + (m : Int))) := by omega
  have hfit := growslice_fits hg hb
  have h48' : ¬ (281474976710656 < Builtin.nextslicecap (sLen + m) sCap * i.bytes) := by omega
  have hw : IntKind.i64.wrap (m : Int) = m := wrap64_id (by omega) (by omega)
  have hneg : ¬ ((m : Int) < 0) := by omega
  have hmb : m * i.bytes ≤ 140737488355328 := Nat.le_trans (Nat.mul_le_mul_right _ (by omega)) hb
  have hmb' : ¬ (281474976710656 < (m : Int) * (i.bytes : Int)) := by
    have : ((m * i.bytes : Nat) : Int) ≤ (140737488355328 : Nat) := Int.ofNat_le.2 hmb
    rw [Int.natCast_mul] at this; omega
  have hms : ¬ (m = 0 ∨ i.size = 0) := by omega
  have hzs : z.cells.size = i.size := h.zs
  have hz2 : ∀ n, Builtin.zeroCells z.cells n = madeCells z.cells (n * i.size) := fun n => by rw [zeroCells_made, hzs]
  simp [Builtin.append_, run_underlying h.u, run_underlying ht', sizeOf, typeInfo, zeroValue, hi, hz, asInt, asIntOf, hw, hneg, hmb', hms, Builtin.lenOf, hn, h63', h48', Question.forced, hfo, Go.newRow, grownCap, hz2]
  intro h0; exact absurd (Nat.mul_eq_zero.1 h0) hms
end
end Go.Proofs.Ytemomjcgkpinfaa
