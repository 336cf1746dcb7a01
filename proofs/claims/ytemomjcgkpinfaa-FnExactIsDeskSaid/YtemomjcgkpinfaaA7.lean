/-
  What the operations do, in the abstract reading: append; slices cut; structs built and compared.
-/
import Derived.Test.YtemomjcgkpinfaaA6
import Derived.Laws.Tables
namespace Go.Proofs.Ytemomjcgkpinfaa
open Go Go.RowKit
set_option linter.unusedSimpArgs false
set_option linter.unusedVariables false

/-! ### Append -/
/-- The slice x has the rows R. -/
inductive SrcIs (H : Heap) (k : Nat) : AV → List (List AV) → List Loc → Prop
  | data (rows : List (List D)) (hk : ∀ r ∈ rows, r.length = k) : SrcIs H k (.d (.sl k rows)) (rows.map fun r => r.map .d) []
  | own (l : Loc) (off n : Nat) (ob : AObj) (hl : H l = some ob) (hk : ob.k = k) (hn : off + n ≤ ob.rows.length) : SrcIs H k (.own k l off n) ((ob.rows.drop off).take n) [l]
  | nil : SrcIs H k (.d (.v (.slice none 0 0))) [] []
theorem rows_eq {k : Nat} {P : Program} {t e : TypeId} {b : Nat} {z : Value} [h : TySlice P t e k b z] : ∃ i, P.info? e = some i ∧ i.size = k ∧ i.bytes = b ∧ i.zero = some z := by
  have hsi := h.s
  cases hi : P.info? e with
  | none => rw [hi] at hsi; cases hsi
  | some i =>
    rw [hi] at hsi
    simp only [Option.map_some, Option.some.injEq, Prod.mk.injEq] at hsi
    exact ⟨i, rfl, hsi⟩
section
variable {ι : Iota} {F : Nat → Prop} {w : World} {H : Heap} {P : Program}
theorem src_cells {k : Nat} (hk0 : 0 < k) {x : AV} {R : List (List AV)} {rd : List Loc} {v : Value} (hx : SrcIs H k x R rd) (hs : Sim ι F H w) (hv : VR ι F w x v) (hone : ∀ r ∈ R, r.all AV.one = true) :
    ∃ (a : Option Addr) (cap : Nat) (news : List Value), v = .slice a R.length cap ∧ news.length = R.length * k ∧ (∀ w', (∀ a, w'.cell? a = w.cell? a) → (Builtin.firstCells k R.length v).run P w' = .ok news.toArray w') ∧
      (∀ (i : Nat) r, R[i]? = some r → r.length = k ∧ ∀ (j : Nat) c, r[j]? = some c → ∃ u, news[i * k + j]? = some u ∧ VR ι F w c u) ∧ ∀ u ∈ news, u.oneCell' = true := by
  have honeOf : ∀ (news : List Value), news.length = R.length * k → (∀ (i : Nat) r, R[i]? = some r → r.length = k ∧ ∀ (j : Nat) c, r[j]? = some c → ∃ u, news[i * k + j]? = some u ∧ VR ι F w c u) → ∀ u ∈ news, u.oneCell' = true := by
    intro news hlen h u hu
    obtain ⟨q, hq⟩ := List.getElem?_of_mem hu
    have hql : q < R.length * k := by rw [← hlen]; exact (List.getElem?_eq_some_iff.1 hq).1
    have hqi : q / k < R.length := (Nat.div_lt_iff_lt_mul hk0).2 hql
    obtain ⟨h1, h2⟩ := h (q / k) _ (List.getElem?_eq_getElem hqi)
    have hqj : q % k < R[q / k].length := by rw [h1]; exact Nat.mod_lt _ hk0
    obtain ⟨u', h3, h4⟩ := h2 (q % k) _ (List.getElem?_eq_getElem hqj)
    rw [Nat.div_add_mod', hq] at h3
    cases h3
    exact h4.one (List.all_eq_true.1 (hone _ (List.getElem_mem hqi)) _ (List.getElem_mem hqj))
  cases hx with
  | data rows hk =>
    have hd := hv.sl_inv
    cases hd with
    | sl _ _ a cap g hcap h hd =>
      have hcell : ∀ (i : Nat) r, (rows.map fun r => r.map AV.d)[i]? = some r → r.length = k ∧ ∀ (j : Nat) c, r[j]? = some c → ∃ u, ((List.range ((rows.map fun r => r.map AV.d).length * k)).map fun q => g (q / k) (q % k))[i * k + j]? = some u ∧ VR ι F w c u := by
        intro i r hr
        simp only [List.getElem?_map, Option.map_eq_some_iff] at hr
        obtain ⟨r', hr', rfl⟩ := hr
        have hrk := hk r' (List.mem_of_getElem? hr')
        refine ⟨by simpa using hrk, fun j c hc => ?_⟩
        simp only [List.getElem?_map, Option.map_eq_some_iff] at hc
        obtain ⟨c', hc', rfl⟩ := hc
        have hj : j < k := by rw [← hrk]; exact (List.getElem?_eq_some_iff.1 hc').1
        have hi : i < rows.length := (List.getElem?_eq_some_iff.1 hr').1
        have hlt : i * k + j < rows.length * k := by
          have : (i + 1) * k ≤ rows.length * k := Nat.mul_le_mul_right _ hi
          rw [Nat.succ_mul] at this; omega
        refine ⟨g i j, ?_, .d (hd i r' j c' hr' hc')⟩
        have e1 : (i * k + j) / k = i := by rw [Nat.add_comm, Nat.add_mul_div_right _ _ hk0, Nat.div_eq_of_lt hj, Nat.zero_add]
        have e2 : (i * k + j) % k = j := by rw [Nat.add_comm, Nat.add_mul_mod_self_right, Nat.mod_eq_of_lt hj]
        simp [hlt, e1, e2]
      refine ⟨a, cap, (List.range ((rows.map fun r => r.map AV.d).length * k)).map fun q => g (q / k) (q % k), by simp, by simp, fun w' hw' => ?_, hcell, honeOf _ (by simp) hcell⟩
      cases hrows : rows with
      | nil => cases a <;> simp [Builtin.firstCells, loadCells, loadCellsFrom]
      | cons r0 rest =>
        have h0 := hk r0 (by rw [hrows]; simp)
        obtain ⟨b, off, rfl, _, _⟩ := h 0 r0 0 r0[0] (by rw [hrows]; rfl) (List.getElem?_eq_getElem (by omega))
        rw [← hrows]
        refine run_firstCells_some (P := P) w' k _ ⟨b, off, none⟩ _ cap _ (by simp) (fun q u hq => ?_)
        simp only [List.getElem?_map, Option.map_eq_some_iff, List.length_map] at hq
        obtain ⟨q', h1, rfl⟩ := hq
        have hql : q < rows.length * k := by have := (List.getElem?_eq_some_iff.1 h1).1; simpa using this
        rw [List.getElem?_range hql] at h1; cases h1
        have hqi : q / k < rows.length := (Nat.div_lt_iff_lt_mul hk0).2 hql
        have hrk := hk rows[q / k] (List.getElem_mem hqi)
        have hqj : q % k < rows[q / k].length := by rw [hrk]; exact Nat.mod_lt _ hk0
        obtain ⟨b', off', e, _, h2⟩ := h (q / k) _ (q % k) _ (List.getElem?_eq_getElem hqi) (List.getElem?_eq_getElem hqj)
        simp only [Option.some.injEq, Addr.mk.injEq, and_true] at e
        obtain ⟨rfl, rfl⟩ := e
        rw [hw', addr_add, ← h2, Nat.add_assoc, Nat.div_add_mod']
  | own l off n ob hl hk hn =>
    subst hk
    have hRl : ((ob.rows.drop off).take n).length = n := by simp; omega
    rcases hv.own_inv with ⟨b, sz, cap, e, hcap, hfit, rfl⟩ | ⟨e, rfl, rfl, rfl⟩
    · rcases hs.obj l ob hl with ⟨e', _⟩ | ⟨b', cs, T, e', hb, hlen, h⟩
      · rw [e] at e'; cases e'
      · rw [e] at e'; simp only [Option.some.injEq, Prod.mk.injEq] at e'
        obtain ⟨rfl, rfl⟩ := e'
        have hle : off * ob.k + n * ob.k ≤ cs.length := by
          rw [← Nat.add_mul]; exact Nat.le_trans (Nat.mul_le_mul_right _ hn) hlen
        have hcell : ∀ (i : Nat) r, ((ob.rows.drop off).take n)[i]? = some r → r.length = ob.k ∧ ∀ (j : Nat) c, r[j]? = some c → ∃ u, ((cs.drop (off * ob.k)).take (n * ob.k))[i * ob.k + j]? = some u ∧ VR ι F w c u := by
          intro i r hr
          rw [List.getElem?_take] at hr
          split at hr
          · rename_i hin
            rw [List.getElem?_drop] at hr
            obtain ⟨h1, h2⟩ := h (off + i) r hr
            refine ⟨h1, fun j c hc => ?_⟩
            obtain ⟨u, h3, h4⟩ := h2 j c hc
            have hj : j < ob.k := by rw [← h1]; exact (List.getElem?_eq_some_iff.1 hc).1
            have hlt : i * ob.k + j < n * ob.k := by
              have : (i + 1) * ob.k ≤ n * ob.k := Nat.mul_le_mul_right _ hin
              rw [Nat.succ_mul] at this; omega
            refine ⟨u, ?_, h4⟩
            rw [List.getElem?_take, if_pos hlt, List.getElem?_drop, ← Nat.add_assoc, ← Nat.add_mul]
            exact h3
          · cases hr
        have hnl : ((cs.drop (off * ob.k)).take (n * ob.k)).length = ((ob.rows.drop off).take n).length * ob.k := by rw [hRl]; simp; omega
        refine ⟨some ⟨b, off * ob.k, none⟩, cap, (cs.drop (off * ob.k)).take (n * ob.k), by rw [hRl], hnl, fun w' hw' => ?_, hcell, honeOf _ hnl hcell⟩
        rw [hRl]
        refine run_firstCells_some (P := P) w' ob.k n ⟨b, off * ob.k, none⟩ n cap _ (by rw [hnl, hRl]) (fun q u hq => ?_)
        rw [List.getElem?_take] at hq
        split at hq
        · rw [List.getElem?_drop] at hq
          rw [hw', addr_add]
          exact cell_of_cells hb hq
        · cases hq
    · refine ⟨none, 0, [], by simp, by simp, fun w' _ => by simp [Builtin.firstCells], fun i r hr => by simp at hr, by simp⟩
  | nil =>
    have := hv.v_inv
    subst this
    exact ⟨none, 0, [], by simp, by simp, fun w' _ => by simp [Builtin.firstCells], fun i r hr => by simp at hr, by simp⟩
end

section
variable {P : Program} {w : World}
theorem run_append_nilnil {t t' ty e e' : TypeId} {k b b' : Nat} {z z' : Value} [h : TySlice P t e k b z] [h' : TySlice P t' e' k b' z'] {v : Value} {a : Option Addr} {c : Nat} (hv : v = .slice a 0 c) (hf : (Builtin.firstCells k 0 v).run P w = .ok #[] w) :
    (Builtin.append_ #[t, t'] ty #[.slice none 0 0, v]).run P w = .ok (.slice none 0 0) w := by
  obtain ⟨i, hi, rfl, rfl, hz⟩ := rows_eq (P := P) (t := t) (e := e) (k := k) (b := b) (z := z)
  subst hv
  simp [Builtin.append_, run_underlying h.u, run_underlying h'.u, sizeOf, typeInfo, hi, Builtin.lenOf, hf]
theorem run_append_room' {t t' ty e e' : TypeId} {k b b' : Nat} {z z' : Value} [h : TySlice P t e k b z] [h' : TySlice P t' e' k b' z'] {g sLen sCap m c : Nat} {a : Option Addr} {cs news : List Value} {T : TypeId} {v : Value} (hv : v = .slice a m c) (hf : (Builtin.firstCells k m v).run P w = .ok news.toArray w) (hl : news.length = m * k)
    (hb : w.heap[g]? = some (.cells cs.toArray T (0, 0))) (h1 : ∀ u ∈ news, u.oneCell' = true) (hroom : sLen + m ≤ sCap) (hfit : sCap * k ≤ cs.length) :
    (Builtin.append_ #[t, t'] ty #[.slice (some ⟨g, 0, none⟩) sLen sCap, v]).run P w = .ok (.slice (some ⟨g, 0, none⟩) (sLen + m) sCap) (w.setRow g (cs.take (sLen * k) ++ news ++ cs.drop (sLen * k + m * k)).toArray) := by
  obtain ⟨i, hi, rfl, rfl, hz⟩ := rows_eq (P := P) (t := t) (e := e) (k := k) (b := b) (z := z)
  subst hv
  have hle : sLen * i.size + news.length ≤ cs.length := by rw [hl, ← Nat.add_mul]; exact Nat.le_trans (Nat.mul_le_mul_right _ hroom) hfit
  have hst := run_storeCells_at P g (sLen * i.size) T news 0 cs.toArray w hb (by simpa using hle) h1
  simp only [Nat.add_zero, hl] at hst
  simp [Builtin.append_, run_underlying h.u, run_underlying h'.u, sizeOf, typeInfo, hi, Builtin.lenOf, hroom, hf, addr_add, hst]
theorem run_append_grow' {t t' ty e e' : TypeId} {k b b' : Nat} {z z' : Value} [h : TySlice P t e k b z] [h' : TySlice P t' e' k b' z'] {base : Option Addr} {sLen sCap m c : Nat} {a : Option Addr} {olds news : List Value} {v : Value} (hv : v = .slice a m c) (hf : (Builtin.firstCells k m v).run P w.drew = .ok news.toArray w.drew)
    (hfo : (Builtin.firstCells k sLen (.slice base sLen sCap)).run P w.drew = .ok olds.toArray w.drew) (hg : sCap < sLen + m) (h63 : sLen + m ≤ 9223372036854775807) (hb : (sLen + m) * b ≤ 140737488355328) :
    (Builtin.append_ #[t, t'] ty #[.slice base sLen sCap, v]).run P w = .ok (.slice (some ⟨w.heap.size, 0, none⟩) (sLen + m) (grownCap w (sLen + m) sCap e))
      (w.drew.alloc (.cells (olds.toArray ++ news.toArray ++ Builtin.zeroCells z.cells (grownCap w (sLen + m) sCap e - (sLen + m))) e)) := by
  obtain ⟨i, hi, rfl, rfl, hz⟩ := rows_eq (P := P) (t := t) (e := e) (k := k) (b := b) (z := z)
  subst hv
  have hn : ¬ (sLen + m ≤ sCap) := by omega
  have h63' : ¬ (9223372036854775807 < ((sLen : Int) + (m : Int))) := by omega
  have hfit := growslice_fits hg hb
  have h48' : ¬ (281474976710656 < Builtin.nextslicecap (sLen + m) sCap * i.bytes) := by omega
  simp [Builtin.append_, run_underlying h.u, run_underlying h'.u, sizeOf, typeInfo, zeroValue, hi, hz, Builtin.lenOf, hn, h63', h48', Question.forced, hf, hfo, Go.newRow, grownCap]
  congr 2
  apply Array.ext'
  simp
theorem grownCap_le {need old : Nat} {e : TypeId} : need ≤ grownCap w need old e := by
  simp [grownCap, Question.cut]
end
section
variable {P : Program} {o : Oper} {A : Operand → AV} {H : Heap} {new : Nat}
theorem OpOk.append {t t' e e' : TypeId} {ts : Array TypeId} {s x : Operand} {k b b' n : Nat} {z z' : Value} {R S : List (List AV)} {rd rs : List Loc} {wr : List W} (ho : o.op = .call { callee := .builtin .append, args := #[s, x], argTypes := ts }) (hts : ts = #[t, t']) [h : TySlice P t e k b z] [h' : TySlice P t' e' k b' z'] (hk0 : 0 < k)
    (hd : (∃ l ob, A s = .own k l 0 n ∧ H l = some ob ∧ ob.k = k ∧ n ≤ ob.rows.length ∧ S = ob.rows.take n ∧ rs = [l] ∧ wr = [.one l none, .one ⟨new, []⟩ (some ⟨k, S ++ R⟩)]) ∨ (A s = .d (.v (.slice none 0 0)) ∧ n = 0 ∧ S = [] ∧ rs = [] ∧ wr = [.one ⟨new, []⟩ (some ⟨k, S ++ R⟩)]))
    (hx : SrcIs H k (A x) R rd) (hone : ∀ r ∈ R, r.all AV.one = true) (hsz : (n + R.length) * b ≤ 140737488355328) (h63 : n + R.length ≤ 9223372036854775807) :
    OpOk P o A (rs ++ rd) H new (.own k ⟨new, []⟩ 0 (n + R.length)) wr := by
  intro ι F w H1 ρ hH hnew hs hv
  have hvs := hv s (by simp [ho, Op.operands, Call.operands])
  have hvx := hv x (by simp [ho, Op.operands, Call.operands])
  have hx1 : SrcIs H1 k (A x) R rd := by
    generalize A x = ax at hx
    cases hx with
    | data rows hk => exact .data rows hk
    | own l off n ob hl hk hn => exact .own l off n ob ((hH l (by simp)).trans hl) hk hn
    | nil => exact .nil
  obtain ⟨a, cap, news, hxv, hnl, hfc, hcell, hno⟩ := src_cells (P := P) hk0 hx1 hs hvx hone
  have hrunop : ∀ r sv, ρ s = sv → (Builtin.append_ #[t, t'] o.type #[sv, ρ x]).run P w = r → (execOp ρ o).run P w = r.andThen fun v w' => .ok (.value v) w' := fun r sv hsv hr => by
    subst hsv
    simp [execOp, ho, hts, resolve, invoke, builtin, hr]
  -- a nil slice, nothing appended
  have caseNil : ρ s = .slice none 0 0 → n = 0 → S = [] → (∀ l, l ∈ rs → ι l = some none) → (upds H1 wr = upd H1 ⟨new, []⟩ (some ⟨k, S ++ R⟩) ∨ ∃ l, upds H1 wr = upd (upd H1 l none) ⟨new, []⟩ (some ⟨k, S ++ R⟩)) →
      Upon P (fun v w' => ∃ ι' F', VR ι' F' w' (.own k ⟨new, []⟩ 0 (n + R.length)) v ∧ Post ι F H1 w (rs ++ rd) new ι' F' (upds H1 wr) w') ((execOp ρ o).run P w) := by
    intro hsn hn0 hS hrs hw
    subst hn0 hS
    have post : ∀ {ι' : Iota} {F' : Nat → Prop} {w' : World}, Post ι F H1 w (rs ++ rd) new ι' F' (upd H1 ⟨new, []⟩ (some ⟨k, [] ++ R⟩)) w' → Post ι F H1 w (rs ++ rd) new ι' F' (upds H1 wr) w' := by
      intro ι' F' w' hp
      rcases hw with e | ⟨l, e⟩
      · rw [e]; exact hp
      · rw [e]
        by_cases hl : l = ⟨new, []⟩
        · subst hl
          have : upd (upd H1 ⟨new, []⟩ none) ⟨new, []⟩ (some ⟨k, [] ++ R⟩) = upd H1 ⟨new, []⟩ (some ⟨k, [] ++ R⟩) := by
            funext l'; by_cases hl' : l' = ⟨new, []⟩ <;> simp [upd, hl']
          rw [this]; exact hp
        · have : upd (upd H1 l none) ⟨new, []⟩ (some ⟨k, [] ++ R⟩) = upd (upd H1 ⟨new, []⟩ (some ⟨k, [] ++ R⟩)) l none := by
            funext l'; simp only [upd]
            by_cases h1 : l' = ⟨new, []⟩
            · subst h1
              simp [Ne.symm hl]
            · by_cases h2 : l' = l
              · subst h2; simp [h1]
              · simp [h1, h2]
          rw [this]
          have hmono : ∀ l', upd (upd H1 ⟨new, []⟩ (some ⟨k, [] ++ R⟩)) l none l' ≠ none → upd H1 ⟨new, []⟩ (some ⟨k, [] ++ R⟩) l' ≠ none := fun l' h' => by
            by_cases e' : l' = l
            · subst e'; rw [upd_same] at h'; exact absurd rfl h'
            · rwa [upd_ne e'] at h'
          exact ⟨hp.sim.drop l, hp.ext, hp.dom, hp.sub, hp.sup, hp.step, fun l' b s h1 h2 => hp.own l' b s (hmono l' h1) h2⟩
    by_cases hR : R = []
    · subst hR
      have hr := run_append_nilnil (P := P) (w := w) (t := t) (t' := t') (ty := o.type) (e := e) (e' := e') (k := k) (b := b) (b' := b') (z := z) (z' := z') (v := ρ x) (a := a) (c := cap) (by simpa using hxv) (by
        have := hfc w (fun _ => rfl)
        have hn' : news = [] := List.length_eq_zero_iff.1 (by simpa using hnl)
        simpa [hn'] using this)
      rw [hrunop _ _ hsn hr]
      refine ⟨updι ι ⟨new, []⟩ none, F, ?_, post (by simpa using Post.allocNil hs hnew k (rs ++ rd))⟩
      simpa using VR.ownNil (ι := updι ι ⟨new, []⟩ none) (F := F) (w := w) k ⟨new, []⟩ (by simp [updι])
    · have hRl : 0 < R.length := List.length_pos_iff.2 hR
      have hr := run_append_grow' (P := P) (w := w) (t := t) (t' := t') (ty := o.type) (e := e) (e' := e') (k := k) (b := b) (b' := b') (z := z) (z' := z') (base := none) (sLen := 0) (sCap := 0) (olds := []) (v := ρ x) hxv (hfc w.drew (fun _ => rfl)) (by simp [Builtin.firstCells]) (by omega) (by omega) hsz
      rw [hrunop _ _ hsn hr]
      simp only [Result.andThen_ok]
      have hgc := grownCap_le (w := w) (need := 0 + R.length) (old := 0) (e := e)
      generalize grownCap w (0 + R.length) 0 e = gc at hgc
      have hcs : (([] : List Value).toArray ++ news.toArray ++ Builtin.zeroCells z.cells (gc - (0 + R.length))) = (news ++ (Builtin.zeroCells z.cells (gc - (0 + R.length))).toList).toArray := by
        apply Array.ext'; simp
      rw [hcs]
      have hlen2 : (news ++ (Builtin.zeroCells z.cells (gc - (0 + R.length))).toList).length = gc * k := by
        simp only [List.length_append, Array.length_toList, hnl, size_zeroCells, h.zs]
        rw [← Nat.add_mul]; congr 1; omega
      generalize hbig : (news ++ (Builtin.zeroCells z.cells (gc - (0 + R.length))).toList) = big at hlen2
      have hp := Post.alloc hs.drew hnew big e ⟨k, [] ++ R⟩ (by rw [hlen2]; exact Nat.mul_le_mul_right _ (by simpa using hgc)) (fun i r hr' => ⟨(hcell i r (by simpa using hr')).1, fun j c hc => by
        obtain ⟨u, h1, h2⟩ := (hcell i r (by simpa using hr')).2 j c hc
        refine ⟨u, ?_, h2.mono (ext_rfl ι) (fun _ h => h) (fun _ _ => rfl)⟩
        show big[i * k + j]? = some u
        rw [← hbig, List.getElem?_append_left (List.getElem?_eq_some_iff.1 h1).1]; exact h1⟩) (rs ++ rd)
      refine ⟨updι ι ⟨new, []⟩ (some (w.heap.size, big.length)), F, ?_, post ⟨hp.sim, hp.ext, hp.dom, hp.sub, hp.sup, ⟨hp.step.os, hp.step.tape, hp.step.output, hp.step.size, hp.step.block⟩, hp.own⟩⟩
      have := VR.own (ι := updι ι ⟨new, []⟩ (some (w.heap.size, big.length))) (F := F) (w := w.drew.alloc (.cells big.toArray e)) k ⟨new, []⟩ 0 (0 + R.length) w.heap.size big.length gc (by simp [updι]) hgc (by rw [hlen2]; simp)
      simpa using this
  rcases hd with ⟨l, ob, hA, hl, hk, hn, hS, rfl, rfl⟩ | ⟨hA, hn0, hS, rfl, rfl⟩
  · have hl1 := (hH l (by simp)).trans hl
    rw [hA] at hvs
    rcases hvs.own_inv with ⟨g, sz, sCap, eι, hcap, hfit, hsv⟩ | ⟨eι, _, hn0, hsv⟩
    · subst hk
      rcases hs.obj l ob hl1 with ⟨e', _⟩ | ⟨g', cs, T, e', hb, hlen, hrows⟩
      · rw [eι] at e'; cases e'
      · rw [eι] at e'; simp only [Option.some.injEq, Prod.mk.injEq] at e'
        obtain ⟨rfl, rfl⟩ := e'
        simp only [Nat.zero_add, Nat.zero_mul] at hfit hsv
        have hnk : n * ob.k ≤ cs.length := Nat.le_trans (Nat.mul_le_mul_right _ hn) hlen
        have hne : l ≠ ⟨new, []⟩ := fun e => by rw [e, hnew []] at eι; cases eι
        by_cases hroom : n + R.length ≤ sCap
        · -- there is room
          have hr := run_append_room' (P := P) (w := w) (t := t) (t' := t') (ty := o.type) (e := e) (e' := e') (k := ob.k) (b := b) (b' := b') (z := z) (z' := z') (sLen := n) (v := ρ x) hxv (hfc w (fun _ => rfl)) hnl hb hno hroom hfit
          rw [hrunop _ _ hsv hr]
          simp only [Result.andThen_ok]
          have hfit2 : n * ob.k + R.length * ob.k ≤ cs.length := by rw [← Nat.add_mul]; exact Nat.le_trans (Nat.mul_le_mul_right _ hroom) hfit
          have hlen' : (cs.take (n * ob.k) ++ news ++ cs.drop (n * ob.k + R.length * ob.k)).length = cs.length := by
            simp only [List.length_append, List.length_take, List.length_drop, hnl]; omega
          have hp := Post.write hs hl1 eι hb hlen' (o' := ⟨ob.k, S ++ R⟩) (by
            rw [hlen', hS]; simp only [List.length_append, List.length_take, Nat.min_eq_left hn, Nat.add_mul]; exact hfit2) (fun i r hr' => by
              rw [List.getElem?_append] at hr'
              have hSl : S.length = n := by rw [hS]; simp; omega
              rw [hSl] at hr'
              split at hr'
              · rename_i hin
                rw [hS, List.getElem?_take, if_pos hin] at hr'
                obtain ⟨h1, h2⟩ := hrows i r hr'
                refine ⟨h1, fun j c hc => ?_⟩
                obtain ⟨u, h3, h4⟩ := h2 j c hc
                refine ⟨u, ?_, h4⟩
                have hj : j < ob.k := by rw [← h1]; exact (List.getElem?_eq_some_iff.1 hc).1
                have hlt : i * ob.k + j < n * ob.k := by
                  have : (i + 1) * ob.k ≤ n * ob.k := Nat.mul_le_mul_right _ hin
                  rw [Nat.succ_mul] at this; omega
                show (cs.take (n * ob.k) ++ news ++ cs.drop (n * ob.k + R.length * ob.k))[i * ob.k + j]? = some u
                rw [List.append_assoc, List.getElem?_append_left (by simp; omega), List.getElem?_take, if_pos hlt]; exact h3
              · rename_i hin
                obtain ⟨h1, h2⟩ := hcell (i - n) r hr'
                refine ⟨h1, fun j c hc => ?_⟩
                obtain ⟨u, h3, h4⟩ := h2 j c hc
                refine ⟨u, ?_, h4⟩
                have h3l := (List.getElem?_eq_some_iff.1 h3).1
                have hik : i * ob.k = n * ob.k + (i - n) * ob.k := by rw [← Nat.add_mul]; congr 1; omega
                have htl : (cs.take (n * ob.k)).length = n * ob.k := by simp; omega
                show (cs.take (n * ob.k) ++ news ++ cs.drop (n * ob.k + R.length * ob.k))[i * ob.k + j]? = some u
                rw [List.getElem?_append_left (by rw [List.length_append, htl]; omega), List.getElem?_append_right (by rw [htl]; omega), htl, show i * ob.k + j - n * ob.k = (i - n) * ob.k + j by omega]
                exact h3) ([l] ++ rd) (by simp) new
          -- the place is called anew
          have he2 : Ext ι (updι ι ⟨new, []⟩ (some (g, cs.length))) := ext_updι (hnew [])
          have hval : updι ι ⟨new, []⟩ (some (g, cs.length)) ⟨new, []⟩ = some (some (g, cs.length)) := by simp [updι]
          have hoth : ∀ l', l' ≠ ⟨new, []⟩ → updι ι ⟨new, []⟩ (some (g, cs.length)) l' = ι l' := fun l' hl' => by simp [updι, hl']
          have hHH : ∀ l', upds H1 [.one l none, .one ⟨new, []⟩ (some ⟨ob.k, S ++ R⟩)] l' = if l' = ⟨new, []⟩ then some ⟨ob.k, S ++ R⟩ else if l' = l then none else H1 l' := fun l' => by simp [upds, W.app, upd]
          refine ⟨updι ι ⟨new, []⟩ (some (g, cs.length)), F, ?_, ?_⟩
          · have := VR.own (ι := updι ι ⟨new, []⟩ (some (g, cs.length))) (F := F) (w := w.setRow g (cs.take (n * ob.k) ++ news ++ cs.drop (n * ob.k + R.length * ob.k)).toArray) ob.k ⟨new, []⟩ 0 (n + R.length) g cs.length sCap hval hroom (by simpa using hfit)
            simpa using this
          · refine ⟨⟨fun l' ob' hob => ?_, fun l1 l2 b s s' h1 h2 e1 e2 => ?_, fun l1 b s h1 e1 => ?_, hp.sim.lt⟩, he2, fun l' hl' => ?_, fun _ h => h, fun _ h => .inl h, hp.step, fun l' b s h1 e1 => ?_⟩
            · rw [hHH] at hob
              by_cases h1 : l' = ⟨new, []⟩
              · rw [if_pos h1] at hob; cases hob; subst h1
                have h2 := hp.sim.obj l _ upd_same
                rcases h2 with ⟨e3, _⟩ | ⟨g2, cs2, T2, e3, h3, h4, h5⟩
                · rw [eι] at e3; cases e3
                · rw [eι] at e3; simp only [Option.some.injEq, Prod.mk.injEq] at e3
                  obtain ⟨rfl, e3⟩ := e3
                  exact .inr ⟨g, cs2, T2, by rw [hval, e3], h3, h4, fun i r hr' => ⟨(h5 i r hr').1, fun j c hc => let ⟨u, h6, h7⟩ := (h5 i r hr').2 j c hc; ⟨u, h6, h7.mono he2 (fun _ h => h) (fun _ _ => rfl)⟩⟩⟩
              · rw [if_neg h1] at hob
                by_cases h2 : l' = l
                · rw [if_pos h2] at hob; cases hob
                · rw [if_neg h2] at hob
                  have h3 := hp.sim.obj l' ob' (by rw [upd_ne h2]; exact hob)
                  exact h3.mono he2 (fun _ h => h) (fun _ _ => rfl) (fun _ _ _ => rfl)
            · rw [hHH] at h1 h2
              by_cases c1 : l1 = ⟨new, []⟩ <;> by_cases c2 : l2 = ⟨new, []⟩
              · rw [c1, c2]
              · exfalso
                rw [if_neg c2] at h2
                by_cases c3 : l2 = l
                · rw [if_pos c3] at h2; exact h2 rfl
                · rw [if_neg c3] at h2
                  rw [c1, hval] at e1; rw [hoth _ c2] at e2
                  simp only [Option.some.injEq, Prod.mk.injEq] at e1
                  obtain ⟨rfl, _⟩ := e1
                  exact c3 (hs.inj l2 l g s' _ h2 (by rw [hl1]; simp) e2 eι)
              · exfalso
                rw [if_neg c1] at h1
                by_cases c3 : l1 = l
                · rw [if_pos c3] at h1; exact h1 rfl
                · rw [if_neg c3] at h1
                  rw [c2, hval] at e2; rw [hoth _ c1] at e1
                  simp only [Option.some.injEq, Prod.mk.injEq] at e2
                  obtain ⟨rfl, _⟩ := e2
                  exact c3 (hs.inj l1 l g s _ h1 (by rw [hl1]; simp) e1 eι)
              · rw [if_neg c1] at h1; rw [if_neg c2] at h2
                rw [hoth _ c1] at e1; rw [hoth _ c2] at e2
                by_cases c3 : l1 = l
                · rw [if_pos c3] at h1; exact absurd rfl h1
                · by_cases c4 : l2 = l
                  · rw [if_pos c4] at h2; exact absurd rfl h2
                  · rw [if_neg c3] at h1; rw [if_neg c4] at h2
                    exact hs.inj l1 l2 b s s' h1 h2 e1 e2
            · rw [hHH] at h1
              by_cases c1 : l1 = ⟨new, []⟩
              · rw [c1, hval] at e1
                simp only [Option.some.injEq, Prod.mk.injEq] at e1
                obtain ⟨rfl, _⟩ := e1
                exact hs.notF l g _ (by rw [hl1]; simp) eι
              · rw [if_neg c1] at h1
                rw [hoth _ c1] at e1
                by_cases c3 : l1 = l
                · rw [if_pos c3] at h1; exact absurd rfl h1
                · rw [if_neg c3] at h1; exact hs.notF l1 b s h1 e1
            · by_cases c1 : l' = ⟨new, []⟩
              · right; rw [c1]
              · left; rwa [hoth _ c1] at hl'
            · rw [hHH] at h1
              by_cases c1 : l' = ⟨new, []⟩
              · rw [c1, hval] at e1
                simp only [Option.some.injEq, Prod.mk.injEq] at e1
                obtain ⟨rfl, _⟩ := e1
                exact .inl ⟨l, by rw [hl1]; simp, _, eι⟩
              · rw [if_neg c1] at h1
                rw [hoth _ c1] at e1
                by_cases c3 : l' = l
                · rw [if_pos c3] at h1; exact absurd rfl h1
                · rw [if_neg c3] at h1; exact .inl ⟨l', h1, s, e1⟩
        · -- a new block
          have hfo : (Builtin.firstCells ob.k n (.slice (some ⟨g, 0, none⟩) n sCap)).run P w.drew = .ok (cs.take (n * ob.k)).toArray w.drew :=
            run_firstCells_some (P := P) w.drew ob.k n ⟨g, 0, none⟩ n sCap _ (by simp; omega) (fun q u hq => by
              rw [List.getElem?_take] at hq
              split at hq
              · rw [addr_add]; simpa using cell_of_cells (w := w) hb hq
              · cases hq)
          have hr := run_append_grow' (P := P) (w := w) (t := t) (t' := t') (ty := o.type) (e := e) (e' := e') (k := ob.k) (b := b) (b' := b') (z := z) (z' := z') (base := some ⟨g, 0, none⟩) (sLen := n) (sCap := sCap) (v := ρ x) hxv (hfc w.drew (fun _ => rfl)) hfo (by omega) h63 hsz
          rw [hrunop _ _ hsv hr]
          simp only [Result.andThen_ok]
          have hgc := grownCap_le (w := w) (need := n + R.length) (old := sCap) (e := e)
          generalize grownCap w (n + R.length) sCap e = gc at hgc
          have hcs : ((cs.take (n * ob.k)).toArray ++ news.toArray ++ Builtin.zeroCells z.cells (gc - (n + R.length))) = (cs.take (n * ob.k) ++ news ++ (Builtin.zeroCells z.cells (gc - (n + R.length))).toList).toArray := by
            apply Array.ext'; simp
          rw [hcs]
          have htl : (cs.take (n * ob.k)).length = n * ob.k := by simp; omega
          have hlen2 : (cs.take (n * ob.k) ++ news ++ (Builtin.zeroCells z.cells (gc - (n + R.length))).toList).length = gc * ob.k := by
            simp only [List.length_append, Array.length_toList, htl, hnl, size_zeroCells, h.zs]
            rw [← Nat.add_mul, ← Nat.add_mul]; congr 1; omega
          have hSl : S.length = n := by rw [hS]; simp; omega
          generalize hbig : (cs.take (n * ob.k) ++ news ++ (Builtin.zeroCells z.cells (gc - (n + R.length))).toList) = big at hlen2
          have hp := Post.alloc (hs.drew.drop l) (new := new) hnew big e ⟨ob.k, S ++ R⟩ (by
              rw [hlen2]; simp only [List.length_append, hSl]; exact Nat.mul_le_mul_right _ hgc) (fun i r hr' => by
              rw [List.getElem?_append, hSl] at hr'
              split at hr'
              · rename_i hin
                rw [hS, List.getElem?_take, if_pos hin] at hr'
                obtain ⟨h1, h2⟩ := hrows i r hr'
                refine ⟨h1, fun j c hc => ?_⟩
                obtain ⟨u, h3, h4⟩ := h2 j c hc
                refine ⟨u, ?_, h4.mono (ext_rfl ι) (fun _ h => h) (fun _ _ => rfl)⟩
                have hj : j < ob.k := by rw [← h1]; exact (List.getElem?_eq_some_iff.1 hc).1
                have hlt : i * ob.k + j < n * ob.k := by
                  have : (i + 1) * ob.k ≤ n * ob.k := Nat.mul_le_mul_right _ hin
                  rw [Nat.succ_mul] at this; omega
                show big[i * ob.k + j]? = some u
                rw [← hbig, List.append_assoc, List.getElem?_append_left (by rw [htl]; omega), List.getElem?_take, if_pos hlt]; exact h3
              · rename_i hin
                obtain ⟨h1, h2⟩ := hcell (i - n) r hr'
                refine ⟨h1, fun j c hc => ?_⟩
                obtain ⟨u, h3, h4⟩ := h2 j c hc
                refine ⟨u, ?_, h4.mono (ext_rfl ι) (fun _ h => h) (fun _ _ => rfl)⟩
                have h3l := (List.getElem?_eq_some_iff.1 h3).1
                have hik : i * ob.k = n * ob.k + (i - n) * ob.k := by rw [← Nat.add_mul]; congr 1; omega
                show big[i * ob.k + j]? = some u
                rw [← hbig, List.getElem?_append_left (by rw [List.length_append, htl]; omega), List.getElem?_append_right (by rw [htl]; omega), htl, show i * ob.k + j - n * ob.k = (i - n) * ob.k + j by omega]
                exact h3) ([l] ++ rd)
          have hup : upds H1 [.one l none, .one ⟨new, []⟩ (some ⟨ob.k, S ++ R⟩)] = upd (upd H1 l none) ⟨new, []⟩ (some ⟨ob.k, S ++ R⟩) := rfl
          have hold : ∀ l', upd H1 l none l' ≠ none → H1 l' ≠ none := fun l' h' => by
            by_cases e' : l' = l
            · subst e'; rw [upd_same] at h'; exact absurd rfl h'
            · rwa [upd_ne e'] at h'
          refine ⟨updι ι ⟨new, []⟩ (some (w.heap.size, big.length)), F, ?_, ?_⟩
          · have := VR.own (ι := updι ι ⟨new, []⟩ (some (w.heap.size, big.length))) (F := F) (w := w.drew.alloc (.cells big.toArray e)) ob.k ⟨new, []⟩ 0 (n + R.length) w.heap.size big.length gc (by simp [updι]) hgc (by rw [hlen2]; simp)
            simpa using this
          · rw [hup]
            refine ⟨hp.sim, hp.ext, hp.dom, hp.sub, fun b hb' => ?_, ⟨hp.step.os, hp.step.tape, hp.step.output, hp.step.size, fun b hb' hno => ?_⟩, fun l' b s h1 e1 => ?_⟩
            · rcases hp.sup b hb' with h | ⟨l', hl', ho', s, e1⟩ | h
              · exact .inl h
              · exact .inr (.inl ⟨l', hl', hold _ ho', s, e1⟩)
              · exact .inr (.inr h)
            · exact hp.step.block b hb' fun ⟨l', hl', ho', s, e1⟩ => hno ⟨l', hl', hold _ ho', s, e1⟩
            · rcases hp.own l' b s h1 e1 with ⟨l0, h0, s0, e0⟩ | h
              · exact .inl ⟨l0, hold _ h0, s0, e0⟩
              · exact .inr h
    · have hS' : S = [] := by rw [hS, hn0]; simp
      exact caseNil hsv hn0 hS' (fun l' hl' => by simp at hl'; rw [hl']; exact eι) (.inr ⟨l, rfl⟩)
  · rw [hA] at hvs
    exact caseNil hvs.v_inv hn0 hS (fun l' hl' => by simp at hl') (.inl rfl)
end
end Go.Proofs.Ytemomjcgkpinfaa
