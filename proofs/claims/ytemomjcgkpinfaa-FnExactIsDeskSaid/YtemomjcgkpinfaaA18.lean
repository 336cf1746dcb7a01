/-
  The abstract reading: slices whose capacity is known, further operations; contracts for every capacity; rows handed over to a call.
-/
import Derived.Test.YtemomjcgkpinfaaA17
import Derived.Lib.Overlaps
namespace Go.Proofs.Ytemomjcgkpinfaa
open Go Go.RowKit
set_option linter.unusedSimpArgs false
set_option linter.unusedVariables false

section
variable {P : Program} {o : Oper} {A : Operand → AV} {H : Heap} {new : Nat}
/-- Zeros appended beyond the capacity: a new row. -/
theorem OpOk.appendZ {t t' e : TypeId} {ts : Array TypeId} {s x : Operand} {k b n m N : Nat} {z : Value} {kd : IntKind} {l : Loc} {ob : AObj} (ho : o.op = .call { callee := .builtin .append, args := #[s, x], argTypes := ts }) (hts : ts = #[t, t']) [h : TySlice P t e k b z] (ht' : P.underlying t' = some (.int kd)) (hk0 : 0 < k)
    (hd : A s = .ownc k l 0 n N) (hN : 0 < N) (hl : H l = some ob) (hk : ob.k = k) (hn : n ≤ ob.rows.length) (hx : A x = I (m : Nat)) (hm : 0 < m) (hroom : N < n + m) (hsz : (n + m) * b ≤ 140737488355328) (h63 : n + m ≤ 9223372036854775807) :
    OpOk P o A [l] H new (.own k ⟨new, []⟩ 0 (n + m)) [.one ⟨new, []⟩ (some ⟨k, ob.rows.take n ++ List.replicate m (z.cells.toList.map fun x => .d (.v x))⟩)] := by
  subst hk
  intro ι F w H1 ρ hH hnew hs hv
  have hl1 := (hH l (by simp)).trans hl
  have hvs := hv s (by simp [ho, Op.operands, Call.operands])
  have hvx := hv x (by simp [ho, Op.operands, Call.operands])
  rw [hd] at hvs
  rw [hx] at hvx
  have hxv := hvx.v_inv
  rcases hvs.ownc_inv with ⟨g, sz, eι, hcap, hfit, hsv⟩ | ⟨_, _, _, h0, _⟩
  · rcases hs.obj l ob hl1 with ⟨e', _⟩ | ⟨g', cs, T, e', hb, hlen, hrows⟩
    · rw [eι] at e'; cases e'
    · rw [eι] at e'; simp only [Option.some.injEq, Prod.mk.injEq] at e'
      obtain ⟨rfl, rfl⟩ := e'
      simp only [Nat.zero_add, Nat.zero_mul] at hfit hsv
      have hnk : n * ob.k ≤ cs.length := Nat.le_trans (Nat.mul_le_mul_right _ hn) hlen
      have htl : (cs.take (n * ob.k)).length = n * ob.k := by simp; omega
      have hfo : (Builtin.firstCells ob.k n (.slice (some ⟨g, 0, none⟩) n N)).run P w.drew = .ok (cs.take (n * ob.k)).toArray w.drew :=
        run_firstCells_some (P := P) w.drew ob.k n ⟨g, 0, none⟩ n N _ (by simp; omega) (fun q u hq => by
          rw [List.getElem?_take] at hq
          split at hq
          · rw [addr_add]; simpa using cell_of_cells (w := w) hb hq
          · cases hq)
      have hr := run_append_zgrow (P := P) (t := t) (t' := t') (ty := o.type) (e := e) (k := ob.k) (b := b) (z := z) (base := some ⟨g, 0, none⟩) (sLen := n) (sCap := N) (m := m) (w := w) ht' hk0 hfo hroom h63 hsz hm
      have hrunop : (execOp ρ o).run P w = ((Builtin.append_ #[t, t'] o.type #[ρ s, ρ x]).run P w).andThen fun v w' => .ok (.value v) w' := by
        simp [execOp, ho, hts, resolve, invoke, builtin]
      rw [hrunop, hsv, hxv, hr]
      simp only [Result.andThen_ok]
      have hgc := grownCap_le (w := w) (need := n + m) (old := N) (e := e)
      generalize grownCap w (n + m) N e = gc at hgc
      have hcs : ((cs.take (n * ob.k)).toArray ++ madeCells z.cells (m * ob.k) ++ madeCells z.cells ((gc - (n + m)) * ob.k)) = (cs.take (n * ob.k) ++ (madeCells z.cells (m * ob.k)).toList ++ (madeCells z.cells ((gc - (n + m)) * ob.k)).toList).toArray := by
        apply Array.ext'; simp
      rw [hcs]
      have hlen2 : (cs.take (n * ob.k) ++ (madeCells z.cells (m * ob.k)).toList ++ (madeCells z.cells ((gc - (n + m)) * ob.k)).toList).length = gc * ob.k := by
        simp only [List.length_append, Array.length_toList, htl, size_madeCells]
        rw [← Nat.add_mul, ← Nat.add_mul]; congr 1; omega
      generalize hbig : (cs.take (n * ob.k) ++ (madeCells z.cells (m * ob.k)).toList ++ (madeCells z.cells ((gc - (n + m)) * ob.k)).toList) = big at hlen2
      have hSl : (ob.rows.take n).length = n := by simp; omega
      have hp := Post.alloc hs.drew (new := new) hnew big e ⟨ob.k, ob.rows.take n ++ List.replicate m (z.cells.toList.map fun x => .d (.v x))⟩ (by
          rw [hlen2]; simp only [List.length_append, hSl, List.length_replicate]; exact Nat.mul_le_mul_right _ hgc) (fun i r hr' => by
          rw [List.getElem?_append, hSl] at hr'
          split at hr'
          · rename_i hin
            rw [List.getElem?_take, if_pos hin] at hr'
            obtain ⟨h1, h2⟩ := hrows i r hr'
            refine ⟨h1, fun j c hc => ?_⟩
            obtain ⟨u, h3, h4⟩ := h2 j c hc
            refine ⟨u, ?_, h4.mono (ext_rfl ι) (fun _ h => h) (fun _ _ => rfl)⟩
            have hj : j < ob.k := by rw [← h1]; exact (List.getElem?_eq_some_iff.1 hc).1
            have hlt : i * ob.k + j < n * ob.k := by
              have : (i + 1) * ob.k ≤ n * ob.k := Nat.mul_le_mul_right _ hin
              rw [Nat.succ_mul] at this; omega
            show big[i * ob.k + j]? = some u
            rw [← hbig, List.append_assoc, List.getElem?_append_left (by rw [htl]; omega), List.getElem?_take, if_pos hlt]; exact h3
          · rename_i hin
            rw [List.getElem?_replicate] at hr'
            split at hr'
            · rename_i hin2
              cases hr'
              refine ⟨by simpa using h.zs, fun j c hc => ?_⟩
              simp only [List.getElem?_map, Option.map_eq_some_iff] at hc
              obtain ⟨v, h5, rfl⟩ := hc
              have hjk : j < ob.k := by have := (List.getElem?_eq_some_iff.1 h5).1; rw [← h.zs]; simpa using this
              refine ⟨v, ?_, .d (.v _)⟩
              have hik : i * ob.k = n * ob.k + (i - n) * ob.k := by rw [← Nat.add_mul]; congr 1; omega
              have hlt : (i - n) * ob.k + j < m * ob.k := by
                have : (i - n + 1) * ob.k ≤ m * ob.k := Nat.mul_le_mul_right _ (by omega)
                rw [Nat.succ_mul] at this; omega
              show big[i * ob.k + j]? = some v
              rw [← hbig, List.getElem?_append_left (by rw [List.length_append, htl, Array.length_toList, size_madeCells]; omega), List.getElem?_append_right (by rw [htl]; omega), htl, show i * ob.k + j - n * ob.k = (i - n) * ob.k + j by omega, madeCells_get h.zs hin2 hjk]
              simpa using h5
            · cases hr') [l]
      refine ⟨updι ι ⟨new, []⟩ (some (w.heap.size, big.length)), F, ?_, ⟨hp.sim, hp.ext, hp.dom, hp.sub, hp.sup, ⟨hp.step.os, hp.step.tape, hp.step.output, hp.step.size, hp.step.block⟩, hp.own⟩⟩
      have := VR.own (ι := updι ι ⟨new, []⟩ (some (w.heap.size, big.length))) (F := F) (w := w.drew.alloc (.cells big.toArray e)) ob.k ⟨new, []⟩ 0 (n + m) w.heap.size big.length gc (by simp [updι]) hgc (by rw [hlen2]; simp)
      simpa using this
  · omega

/-! ### Cut -/
theorem run_sliceAtC {w : World} {t e : TypeId} {k b : Nat} {z : Value} [h : TySlice P t e k b z] {a : Option Addr} {len cap l hb : Nat} {lo hi : Option Value} (hlo : (lo = none ∧ l = 0) ∨ ∃ kd i, lo = some (.int kd i) ∧ 0 ≤ i ∧ i.toNat = l) (hhi : (hi = none ∧ hb = len) ∨ ∃ kd i, hi = some (.int kd i) ∧ 0 ≤ i ∧ i.toNat = hb) (hl : l ≤ hb) (hh : hb ≤ cap) :
    (Instr.sliceAt t (.slice a len cap) lo hi none).run P w = .ok (.slice (if cap = l then a else a.map (·.add (l * k))) (hb - l) (cap - l)) w := by
  have hs : (sizeOf e).run P w = .ok k w := run_sizeOf' (by
    have := h.s
    cases hi : P.info? e with
    | none => rw [hi] at this; cases this
    | some i => rw [hi] at this; simp only [Option.map_some, Option.some.injEq, Prod.mk.injEq] at this; simp [this.1])
  have hbd : (Instr.sliceBounds true len cap lo hi none).run P w = .ok (l, hb, cap) w := by
    unfold Instr.sliceBounds
    rcases hhi with ⟨rfl, rfl⟩ | ⟨kd, i, rfl, h0, rfl⟩ <;> rcases hlo with ⟨rfl, rfl⟩ | ⟨kd', i', rfl, h0', rfl⟩
    · simp
    · simp [run_sliceBound (P := P) (w := w) h0' (by omega : i' ≤ (hb : Int))]
    · simp [run_sliceBound (P := P) (w := w) h0 (by omega : i ≤ (cap : Int))]
    · simp [run_sliceBound (P := P) (w := w) h0 (by omega : i ≤ (cap : Int)), run_sliceBound (P := P) (w := w) h0' (by omega : i' ≤ (i.toNat : Int))]
  simp [Instr.sliceAt, Instr.slice, run_underlying h.u, hbd, hs]
theorem OpOk.sliceC {t e : TypeId} {x : Operand} {lo hi : Option Operand} {k b l hb off n N : Nat} {z : Value} {l0 : Loc} (ho : o.op = .slice t x lo hi none) [h : TySlice P t e k b z] (hx : A x = .ownc k l0 off n N) (hlo : BndIs A lo 0 l) (hhi : BndIs A hi n hb) (hl : l ≤ hb) (hh : hb ≤ N) (hN : 0 < N) :
    OpOk P o A [] H new (.ownc k l0 (if l = N then off else off + l) (hb - l) (N - l)) [] :=
  .still [] fun ι F w H1 ρ _ hs hv => by
    have h1 := hv x (by simp [ho, Op.operands])
    rw [hx] at h1
    generalize hq : ρ x = q at h1
    rcases h1.ownc_inv with ⟨g, sz, eι, hcap, hfit, rfl⟩ | ⟨_, _, _, h0, _⟩
    · have hr := run_sliceAtC (P := P) (w := w) (a := some ⟨g, off * k, none⟩) (len := n) (cap := N) (h := h) (hlo.val (ρ := ρ) fun y hy => hv y (by subst hy; simp [ho, Op.operands])) (hhi.val (ρ := ρ) fun y hy => hv y (by subst hy; simp [ho, Op.operands])) hl hh
      refine ⟨_, by simp [execOp, ho, hq, hr]; rfl, ?_⟩
      by_cases hlN : l = N
      · subst hlN
        rw [if_pos rfl, if_pos rfl]
        refine .ownc k l0 off _ _ g sz eι (by omega) ?_
        exact Nat.le_trans (Nat.mul_le_mul_right _ (by omega)) hfit
      · rw [if_neg hlN, if_neg (fun e => hlN e.symm)]
        have := VR.ownc (ι := ι) (F := F) (w := w) k l0 (off + l) (hb - l) (N - l) g sz eι (by omega) (by rw [show off + l + (N - l) = off + N by omega]; exact hfit)
        simpa [addr_add, Nat.add_mul] using this
    · omega
/-- A cut of which nothing is asked. -/
theorem OpOk.sliceX {t e : TypeId} {x : Operand} {lo hi : Option Operand} {k b l hb off n : Nat} {z : Value} {l0 : Loc} (ho : o.op = .slice t x lo hi none) [h : TySlice P t e k b z] (hx : fgt (A x) = .own k l0 off n) (hlo : BndIs A lo 0 l) (hhi : BndIs A hi n hb) (hl : l ≤ hb) (hh : hb ≤ n) :
    OpOk P o A [] H new .dead [] :=
  .still [] fun ι F w H1 ρ _ hs hv => by
    have h1 := (hv x (by simp [ho, Op.operands])).fgt
    rw [hx] at h1
    have hq : ∃ a cap, ρ x = .slice a n cap ∧ n ≤ cap := by
      rcases h1.own_inv with ⟨g, sz, cap, _, hc, _, e⟩ | ⟨_, _, rfl, e⟩
      · exact ⟨_, _, e, hc⟩
      · exact ⟨_, _, e, Nat.le_refl _⟩
    obtain ⟨a, cap, hq, hcap⟩ := hq
    have hr := run_sliceAtC (P := P) (w := w) (a := a) (len := n) (cap := cap) (h := h) (hlo.val (ρ := ρ) fun y hy => hv y (by subst hy; simp [ho, Op.operands])) (hhi.val (ρ := ρ) fun y hy => hv y (by subst hy; simp [ho, Op.operands])) hl (by omega)
    exact ⟨_, by simp [execOp, ho, hq, hr]; rfl, .dead _⟩
theorem OpOk.sliceX3 {t e : TypeId} {x lo hi mx : Operand} {k b off n : Nat} {z : Value} {l0 : Loc} {kd kd' kd'' : IntKind} {i i' i'' : Int} (ho : o.op = .slice t x (some lo) (some hi) (some mx)) [h : TySlice P t e k b z] (hx : fgt (A x) = .own k l0 off n) (hlo : A lo = .d (.v (.int kd i))) (hhi : A hi = .d (.v (.int kd' i'))) (hmx : A mx = .d (.v (.int kd'' i''))) (h0 : 0 ≤ i) (h1 : i ≤ i') (h2 : i' ≤ i'') (h3 : i'' ≤ n) :
    OpOk P o A [] H new .dead [] :=
  .still [] fun ι F w H1 ρ _ hs hv => by
    have g1 := (hv x (by simp [ho, Op.operands])).fgt
    rw [hx] at g1
    have gl := hv lo (by simp [ho, Op.operands])
    have gh := hv hi (by simp [ho, Op.operands])
    have gm := hv mx (by simp [ho, Op.operands])
    rw [hlo] at gl; rw [hhi] at gh; rw [hmx] at gm
    have gl' := gl.v_inv
    have gh' := gh.v_inv
    have gm' := gm.v_inv
    have hq : ∃ a cap, ρ x = .slice a n cap ∧ n ≤ cap := by
      rcases g1.own_inv with ⟨g, sz, cap, _, hc, _, e⟩ | ⟨_, _, rfl, e⟩
      · exact ⟨_, _, e, hc⟩
      · exact ⟨_, _, e, Nat.le_refl _⟩
    obtain ⟨a, cap, hq, hcap⟩ := hq
    have hs : (sizeOf e).run P w = .ok k w := run_sizeOf' (by
      have := h.s
      cases hi : P.info? e with
      | none => rw [hi] at this; cases this
      | some i => rw [hi] at this; simp only [Option.map_some, Option.some.injEq, Prod.mk.injEq] at this; simp [this.1])
    have hbd : (Instr.sliceBounds true n cap (some (.int kd i)) (some (.int kd' i')) (some (.int kd'' i''))).run P w = .ok (i.toNat, i'.toNat, i''.toNat) w := by
      unfold Instr.sliceBounds
      simp [run_sliceBound (P := P) (w := w) (by omega : 0 ≤ i'') (by omega : i'' ≤ (cap : Int)), run_sliceBound (P := P) (w := w) (by omega : 0 ≤ i') (by omega : i' ≤ (i''.toNat : Int)), run_sliceBound (P := P) (w := w) h0 (by omega : i ≤ (i'.toNat : Int))]
    refine ⟨_, by simp [execOp, ho, hq, gl', gh', gm', Instr.sliceAt, Instr.slice, run_underlying h.u, hbd, hs]; rfl, .dead _⟩
/-- The capacity. -/
theorem OpOk.capC {t e : TypeId} {ts : Array TypeId} {x : Operand} {k b off n N : Nat} {z : Value} {l0 : Loc} (ho : o.op = .call { callee := .builtin .cap, args := #[x], argTypes := ts }) (hts : ts = #[t]) [h : TySlice P t e k b z] (hx : A x = .ownc k l0 off n N) : OpOk P o A [] H new (I (N : Nat)) [] :=
  .still [] fun ι F w H1 ρ _ hs hv => by
    have h1 := hv x (by simp [ho, Op.operands, Call.operands])
    rw [hx] at h1
    have hq : ∃ a, ρ x = .slice a n N := by
      rcases h1.ownc_inv with ⟨g, sz, _, hc, _, e⟩ | ⟨_, _, rfl, rfl, e⟩
      · exact ⟨_, e⟩
      · exact ⟨_, e⟩
    obtain ⟨a, hq⟩ := hq
    exact ⟨.int .i64 (N : Nat), by simp [execOp, ho, hts, resolve, invoke, builtin, hq, Builtin.cap_, run_underlying h.u, goInt], .d (.v _)⟩

/-! ### Cleared -/
theorem OpOk.clearC {t e : TypeId} {ts : Array TypeId} {x : Operand} {k b off n : Nat} {z : Value} {l : Loc} {ob : AObj} (ho : o.op = .call { callee := .builtin .clear, args := #[x], argTypes := ts }) (hts : ts = #[t]) [h : TySlice P t e k b z] (hk0 : 0 < k) (hz1 : ∀ u ∈ z.cells.toList, u.oneCell' = true)
    (hd : fgt (A x) = .own k l off n) (hl : H l = some ob) (hk : ob.k = k) (hn : off + n ≤ ob.rows.length) (hn0 : 0 < n) :
    OpOk P o A [l] H new .dead [.one l (some ⟨k, ob.rows.take off ++ List.replicate n (z.cells.toList.map fun x => .d (.v x)) ++ ob.rows.drop (off + n)⟩)] := by
  intro ι F w H1 ρ hH hnew hs hv
  subst hk
  have hvd := (hv x (by simp [ho, Op.operands, Call.operands])).fgt
  have hl1 := (hH l (by simp)).trans hl
  rw [hd] at hvd
  rcases hvd.own_inv with ⟨g, sz, dCap, eι, hcap, hfit, hdv⟩ | ⟨eι, h0, h1, hdv⟩
  · rcases hs.obj l ob hl1 with ⟨e', _⟩ | ⟨g', cs, T, e', hb, hlen, hrows⟩
    · rw [eι] at e'; cases e'
    · rw [eι] at e'; simp only [Option.some.injEq, Prod.mk.injEq] at e'
      obtain ⟨rfl, rfl⟩ := e'
      have hfit1 : (off + n) * ob.k ≤ cs.length := Nat.le_trans (Nat.mul_le_mul_right _ hn) hlen
      have hml : (madeCells z.cells (n * ob.k)).toList.length = n * ob.k := by simp [size_madeCells]
      have hcell : ∀ (i : Nat) r, (List.replicate n (z.cells.toList.map fun x => AV.d (.v x)))[i]? = some r → r.length = ob.k ∧ ∀ (j : Nat) c, r[j]? = some c → ∃ u, (madeCells z.cells (n * ob.k)).toList[i * ob.k + j]? = some u ∧ VR ι F w c u := by
        intro i r hr
        rw [List.getElem?_replicate] at hr
        split at hr
        · rename_i hin
          cases hr
          refine ⟨by simpa using h.zs, fun j c hc => ?_⟩
          simp only [List.getElem?_map, Option.map_eq_some_iff] at hc
          obtain ⟨v, h5, rfl⟩ := hc
          have hjk : j < ob.k := by have := (List.getElem?_eq_some_iff.1 h5).1; rw [← h.zs]; simpa using this
          exact ⟨v, by rw [madeCells_get h.zs hin hjk]; simpa using h5, .d (.v _)⟩
        · cases hr
      have hno : ∀ u ∈ (madeCells z.cells (n * ob.k)).toList, u.oneCell' = true := by
        refine Ok.cellOf (k := ob.k) (R := List.replicate n (z.cells.toList.map fun x => AV.d (.v x))) hk0 (fun r hr => ?_) (by rw [hml]; simp) hcell
        rw [List.eq_of_mem_replicate hr, List.all_map, List.all_eq_true]
        intro u hu
        exact hz1 u hu
      have hst := run_storeCells_at P g (off * ob.k) T (madeCells z.cells (n * ob.k)).toList 0 cs.toArray w hb (by rw [hml, Nat.add_zero, ← Nat.add_mul]; simpa using hfit1) hno
      simp only [Nat.add_zero] at hst
      have hrun : (execOp ρ o).run P w = .ok (.value (.tuple #[])) (w.setRow g (cs.take (off * ob.k) ++ (madeCells z.cells (n * ob.k)).toList ++ cs.drop (off * ob.k + (madeCells z.cells (n * ob.k)).toList.length)).toArray) := by
        obtain ⟨i, hi, hi1, hi2, hz⟩ := rows_eq (P := P) (t := t) (e := e) (k := ob.k) (b := b) (z := z)
        have hzm : Builtin.zeroCells z.cells n = madeCells z.cells (n * ob.k) := by rw [zeroCells_made, h.zs]
        have hne : n ≠ 0 := by omega
        have hcl : (Builtin.clear_ #[t] o.type #[.slice (some ⟨g, off * ob.k, none⟩) n dCap]).run P w = .ok (.tuple #[]) (w.setRow g (cs.take (off * ob.k) ++ (madeCells z.cells (n * ob.k)).toList ++ cs.drop (off * ob.k + (madeCells z.cells (n * ob.k)).toList.length)).toArray) := by
          obtain ⟨n', rfl⟩ : ∃ n', n = n' + 1 := ⟨n - 1, by omega⟩
          simp only [Builtin.clear_, List.getElem?_toArray, List.getElem?_cons_zero, Sem.run_bind, run_underlying h.u, Result.andThen_ok, zeroValue, typeInfo, run_program, hi, hz, Sem.run_pure, hzm, hst]
        simp [execOp, ho, hts, resolve, invoke, builtin, hdv, hcl]
      rw [hrun]
      exact ⟨ι, F, .dead _, Post.rows hs hl1 eι hb (by omega) hfit1 hlen hrows hml (by simp) hcell _ (by simp) new⟩
  · omega
end
end Go.Proofs.Ytemomjcgkpinfaa
