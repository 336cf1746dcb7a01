/-
  The abstract reading: two rows of one's own do not overlap; states of which less is told; contracts for every capacity; rows handed over to a call.
-/
import Derived.Test.YtemomjcgkpinfaaA18
namespace Go.Proofs.Ytemomjcgkpinfaa
open Go Go.RowKit
set_option linter.unusedSimpArgs false
set_option linter.unusedVariables false

class FnOver (P : Program) (f : FuncId) (tS tR : outParam TypeId) : Prop where
  a : (P.funcs[f]?).map (fun fn => (fn.name == "runtime.NumGoroutine", fn.body.isNone)) = some (false, true)
  b : (P.funcs[f]?).map (fun fn => (Extern.findNext fn).isNone) = some true
  c : (P.funcs[f]?).map (fun fn => Extern.find fn) = some (some (Extern.SlicesOverlaps.overlaps #[tS, tS] #[tR]))
theorem run_over {P : Program} {f : FuncId} {tS tR : TypeId} [h : FnOver P f tS tR] {args : Array Value} {w : World} : (callFunc f args).run P w = ((Extern.SlicesOverlaps.overlaps #[tS, tS] #[tR] args).run P w).andThen fun v w' => .ok (.value v) w' := by
  have h1 := h.a; have h2 := h.b; have h3 := h.c
  cases hf : P.funcs[f]? with
  | none => rw [hf] at h1; cases h1
  | some fn =>
    rw [hf] at h1 h2 h3
    simp only [Option.map_some, Option.some.injEq, Prod.mk.injEq, Option.isNone_iff_eq_none] at h1 h2 h3
    exact run_callFunc_extern hf h1.1 (by rw [Option.isNone_iff_eq_none]; exact h1.2) h2 h3 args w
section
variable {P : Program} {o : Oper} {A : Operand → AV} {H : Heap} {new : Nat}
theorem OpOk.over {fo x y : Operand} {ts : Array TypeId} {f : FuncId} {tS tR e : TypeId} {k b off n off' n' : Nat} {z : Value} {l l' : Loc} {ob ob' : AObj} (ho : o.op = .call { callee := .value fo, args := #[x, y], argTypes := ts }) [FnOver P f tS tR] [h : TySlice P tS e k b z] (hfo : A fo = .clo (.func f) [] [])
    (hk0 : 0 < k) (hx : fgt (A x) = .own k l off n) (hy : fgt (A y) = .own k l' off' n') (hne : l ≠ l') (hl : H l = some ob) (hl' : H l' = some ob') (hn' : 0 < n') (hn : 0 < n) : OpOk P o A [l, l'] H new (Bo false) [] :=
  .still [l, l'] fun ι F w H1 ρ hH hs hv => by
    have hf := hv fo (by simp [ho, Op.operands, Call.operands])
    have h1 := (hv x (by simp [ho, Op.operands, Call.operands])).fgt
    have h2 := (hv y (by simp [ho, Op.operands, Call.operands])).fgt
    rw [hfo] at hf
    rw [hx] at h1
    rw [hy] at h2
    have hl1 := (hH l (by simp)).trans hl
    have hl2 := (hH l' (by simp)).trans hl'
    refine ⟨.bool false, ?_, .d (.v _)⟩
    generalize hq : ρ fo = q at hf
    cases hf with
    | clo _ _ _ fv cv g1 g2 g3 g4 =>
      have hfv : fv = [] := List.length_eq_zero_iff.1 g1
      have hcv : cv = [] := List.length_eq_zero_iff.1 g2
      subst hfv hcv
      rcases h1.own_inv with ⟨B, sz, cap, e1, c1, f1, v1⟩ | ⟨_, _, c0, _⟩
      · rcases h2.own_inv with ⟨B', sz', cap', e2, c2, f2, v2⟩ | ⟨_, _, c0, _⟩
        · rcases hs.obj l ob hl1 with ⟨e3, _⟩ | ⟨b1, cs1, T1, e3, hb1, _, _⟩
          · rw [e1] at e3; cases e3
          · rcases hs.obj l' ob' hl2 with ⟨e4, _⟩ | ⟨b2, cs2, T2, e4, hb2, _, _⟩
            · rw [e2] at e4; cases e4
            · rw [e1] at e3; rw [e2] at e4
              simp only [Option.some.injEq, Prod.mk.injEq] at e3 e4
              obtain ⟨rfl, rfl⟩ := e3
              obtain ⟨rfl, rfl⟩ := e4
              have hneB : B ≠ B' := fun e => hne (hs.inj l l' B _ _ (by rw [hl1]; simp) (by rw [hl2]; simp) e1 (by rw [e]; exact e2))
              have hk2 : cs2.toArray.size ≠ 0 := by
                have : 1 * k ≤ (off' + cap') * k := Nat.mul_le_mul_right _ (by omega)
                simp; intro e0; rw [e0] at f2; simp at f2; omega
              have hsz : ∀ w, (Go.sizeOf e).run P w = .ok k w := fun w => run_sizeOf' (by
                have := h.s
                cases hi : P.info? e with
                | none => rw [hi] at this; cases this
                | some i => rw [hi] at this; simp only [Option.map_some, Option.some.injEq, Prod.mk.injEq] at this; simp [this.1])
              have hr := Lib.run_overlaps_apart (P := P) w tS tR e h.u k hsz ⟨B, off * k, none⟩ ⟨B', off' * k, none⟩ n cap n' cap' hneB T1 T2 cs1.toArray.size cs2.toArray.size
                (by simp [World.shape?, hb1]) (by simp [World.shape?, hb2]) hk2 (by simp [World.frozen?, hb1]) (by simp [World.frozen?, hb1])
              have hrun := run_over (P := P) (f := f) (args := #[ρ x, ρ y]) (w := w)
              rw [v1, v2, hr] at hrun
              simp only [Result.andThen_ok] at hrun
              simp [execOp, ho, resolve, hq, Deferred.ofValue, invoke, v1, v2, hrun]
        · omega
      · omega
end

/-! ### States of which less is told -/
inductive Fgt : AV → AV → Prop
  | refl (a : AV) : Fgt a a
  | own (k : Nat) (l : Loc) (off n c : Nat) : Fgt (.ownc k l off n c) (.own k l off n)
theorem Fgt.vr {ι : Iota} {F : Nat → Prop} {w : World} {a a' : AV} (h : Fgt a a') {v : Value} (hv : VR ι F w a v) : VR ι F w a' v := by
  cases h with
  | refl => exact hv
  | own k l off n c => exact hv.fgt
/-- Of a place's rows the first ones are told. -/
theorem Le.cut {C : Ctx} {H H' : Heap} {n : Nat} {a a' : AV} (h : Fgt a a') (hob : ∀ l ob, H' l = some ob → ∃ ob', H l = some ob' ∧ ob'.k = ob.k ∧ ∃ more, ob'.rows = ob.rows ++ more) : Le C ⟨[a], H, n⟩ ⟨[a'], H', n⟩ := by
  rintro ac w ⟨ι, F, hs, hv, hdf, hi, hu⟩
  have hne : ∀ l, H' l ≠ none → H l ≠ none := fun l hl => by
    cases h1 : H' l with
    | none => exact absurd h1 hl
    | some ob => obtain ⟨ob', h2, _⟩ := hob l ob h1; rw [h2]; simp
  refine ⟨ι, F, ⟨fun l ob h1 => ?_, fun l l' b s s' h1 h2 => hs.inj l l' b s s' (hne l h1) (hne l' h2), fun l b s h1 => hs.notF l b s (hne l h1), hs.lt⟩, ?_, hdf, ⟨hi.step, hi.sub, hi.sup, fun l b ⟨h1, s, e⟩ => hi.own l b ⟨hne l h1, s, e⟩, hi.keep⟩, hu⟩
  · obtain ⟨ob', h2, hk, more, hrows⟩ := hob l ob h1
    rcases hs.obj l ob' h2 with ⟨e, h3⟩ | ⟨b, cs, T, e, hb, hlen, h3⟩
    · refine .inl ⟨e, ?_⟩
      rw [hrows] at h3
      exact (List.append_eq_nil_iff.1 h3).1
    · refine .inr ⟨b, cs, T, e, hb, ?_, fun i r hr => ?_⟩
      · rw [hrows, hk, List.length_append] at hlen
        exact Nat.le_trans (Nat.mul_le_mul_right _ (Nat.le_add_right _ _)) hlen
      · have := h3 i r (by rw [hrows, List.getElem?_append_left (List.getElem?_eq_some_iff.1 hr).1]; exact hr)
        rw [hk] at this; exact this
  · refine ⟨by simpa using hv.1, fun i c v hc hv' => ?_⟩
    cases i with
    | zero => simp at hc; subst hc; exact h.vr (hv.2 0 a v rfl hv')
    | succ i => simp at hc

/-! ### A contract for every capacity -/
def deadRows (k m : Nat) : List (List AV) := List.replicate m (List.replicate k .dead)
theorem AC.ofCaps {P : Program} {f : FuncId} {k n : Nat} {l : Loc} {args : List AV} {H : Heap} {ob : AObj} {res : AV} {H' : Heap} (hl : H l = some ob) (hk : ob.k = k) (hn : ob.rows.length = n)
    (h : ∀ N, n ≤ N → AC P f (.ownc k l 0 n N :: args) (upd H l (some ⟨k, ob.rows ++ deadRows k (N - n)⟩)) res H') : AC P f (.own k l 0 n :: args) H res H' := by
  intro ι F w vs hs hdom hv
  subst hk hn
  obtain ⟨v0, h0, hv0⟩ := hv.get (i := 0) (c := .own ob.k l 0 ob.rows.length) rfl
  have hne : ∀ N l', upd H l (some ⟨ob.k, ob.rows ++ deadRows ob.k (N - ob.rows.length)⟩) l' ≠ none ↔ H l' ≠ none := fun N l' => by
    by_cases e : l' = l
    · subst e; simp [upd_same, hl]
    · rw [upd_ne e]
  -- the capacity
  have key : ∃ N, ob.rows.length ≤ N ∧ VR ι F w (.ownc ob.k l 0 ob.rows.length N) v0 ∧ ObjR ι F w l ⟨ob.k, ob.rows ++ deadRows ob.k (N - ob.rows.length)⟩ := by
    rcases hv0.own_inv with ⟨b, sz, cap, e, hcap, hfit, hvv⟩ | ⟨e, _, hn0, hvv⟩
    · rcases hs.obj l ob hl with ⟨e', _⟩ | ⟨b', cs, T, e', hb, hlen, hrows⟩
      · rw [e] at e'; cases e'
      · rw [e] at e'; simp only [Option.some.injEq, Prod.mk.injEq] at e'
        obtain ⟨rfl, rfl⟩ := e'
        refine ⟨cap, hcap, hvv ▸ .ownc _ _ _ _ _ b _ e hcap hfit, .inr ⟨b, cs, T, e, hb, ?_, fun i r hr => ?_⟩⟩
        · simp only [List.length_append, deadRows, List.length_replicate]
          rw [Nat.add_sub_cancel' hcap]; simpa using hfit
        · rw [List.getElem?_append] at hr
          split at hr
          · exact hrows i r hr
          · rename_i hi
            rw [deadRows, List.getElem?_replicate] at hr
            split at hr
            · rename_i hi2
              cases hr
              refine ⟨by simp, fun j c hc => ?_⟩
              rw [List.getElem?_replicate] at hc
              split at hc
              · rename_i hj
                cases hc
                have hlt : i * ob.k + j < cs.length := by
                  have : (i + 1) * ob.k ≤ (0 + cap) * ob.k := Nat.mul_le_mul_right _ (by omega)
                  rw [Nat.succ_mul] at this; omega
                exact ⟨cs[i * ob.k + j], List.getElem?_eq_getElem hlt, .dead _⟩
              · cases hc
            · cases hr
    · refine ⟨0, by omega, ?_, ?_⟩
      · rw [hvv, hn0]; exact .owncNil _ _ e
      · have : ob.rows ++ deadRows ob.k (0 - ob.rows.length) = ob.rows := by simp [deadRows]
        rw [this]; exact hs.obj l ob hl
  obtain ⟨N, hN, hvN, hoN⟩ := key
  have hsN : Sim ι F (upd H l (some ⟨ob.k, ob.rows ++ deadRows ob.k (N - ob.rows.length)⟩)) w := by
    refine ⟨fun l' o ho => ?_, fun l1 l2 b s s' h1 h2 => hs.inj l1 l2 b s s' ((hne N l1).1 h1) ((hne N l2).1 h2), fun l1 b s h1 => hs.notF l1 b s ((hne N l1).1 h1), hs.lt⟩
    by_cases e : l' = l
    · subst e; rw [upd_same] at ho; cases ho; exact hoN
    · rw [upd_ne e] at ho; exact hs.obj l' o ho
  have hvs : VRs ι F w (.ownc ob.k l 0 ob.rows.length N :: args) vs := ⟨by simpa using hv.1, fun i c v hc hv' => by
    cases i with
    | zero => simp at hc; subst hc; rw [h0] at hv'; cases hv'; exact hvN
    | succ i => exact hv.2 (i + 1) c v hc hv'⟩
  have hO : ∀ b, OwnB ι (upd H l (some ⟨ob.k, ob.rows ++ deadRows ob.k (N - ob.rows.length)⟩)) b ↔ OwnB ι H b := fun b =>
    ⟨fun ⟨l', h1, h2⟩ => ⟨l', (hne N l').1 h1, h2⟩, fun ⟨l', h1, h2⟩ => ⟨l', (hne N l').2 h1, h2⟩⟩
  refine (h N hN ι F w vs hsN (fun l' h' => hdom l' ?_) hvs).mono ?_
  · cases h1 : H l' with
    | none => rfl
    | some o => exact absurd h' ((hne N l').2 (by rw [h1]; simp))
  · rintro e w' ⟨v, ι', F', rfl, hres, hs', hstep, hsub, hsup, hown, hkeep⟩
    refine ⟨v, ι', F', rfl, hres, hs', hstep.mono fun b hb => (hO b).1 hb, hsub, fun b hb => ?_, fun b hb => ?_, fun l' x h1 => hkeep l' x ((hne N l').2 h1)⟩
    · rcases hsup b hb with h | h | h
      · exact .inl h
      · exact .inr (.inl ((hO b).1 h))
      · exact .inr (.inr h)
    · exact (hown b hb).imp (hO b).1 id
/-! ### Rows handed over to a call -/
theorem upds_app (H : Heap) : ∀ (a b : List W), upds H (a ++ b) = upds (upds H a) b
  | [], b => rfl
  | x :: a, b => by rw [List.cons_append]; exact upds_app (x.app H) a b
theorem upds_none (H : Heap) : ∀ (ls : List Loc) (l : Loc), upds H (ls.map fun l => .one l none) l = if l ∈ ls then none else H l
  | [], l => by simp [upds]
  | x :: ls, l => by
    rw [List.map_cons]
    show upds (upd H x none) _ l = _
    rw [upds_none (upd H x none) ls l]
    by_cases h : l ∈ ls
    · simp [h]
    · by_cases e : l = x
      · subst e; simp [upd]
      · simp [h, e, upd]
theorem OpOk.callV {P : Program} {o : Oper} {A : Operand → AV} {H : Heap} {new : Nat} {fo : Operand} {xs : List Operand} {ts : Array TypeId} {f : FuncId} {caps args : List AV} {res res' : AV} {ob : AObj} (hs : HL) (m : Nat) (ho : o.op = .call { callee := .value fo, args := xs.toArray, argTypes := ts }) [FnBody P f] (hfo : A fo = .clo (.func f) [] caps)
    (hc : AC P f args (heapL hs) res (upd H0 ⟨m, []⟩ (some ob))) (hm : (⟨m, []⟩ : Loc) ∉ hs.map (·.1)) (hinj : ∀ l ∈ hs.map (·.1), ∀ l' ∈ hs.map (·.1), tauL hs l = tauL hs l' → l = l')
    (hob : ∀ l ob, heapL hs l = some ob → ∃ k rows, ob = dobj k rows ∧ H (tauL hs l) = some ob) (hrn : ∀ g, rnO g ob = ob) (hargs : ARs H (fun _ => False) (tauL hs) (· ∈ hs.map (·.1)) args (xs.map A ++ caps)) (hr : rn (emb (tauL hs) (hs.map (·.1)) new) res = res') :
    OpOk P o A ((hs.map (·.1)).map (tauL hs)) H new res' (((hs.map (·.1)).map (tauL hs)).map (fun l => .one l none) ++ [.one ⟨new, [m]⟩ (some ob)]) := by
  have h := OpOk.callGen (P := P) (o := o) (A := A) (H := H) (new := new) (wr := ((hs.map (·.1)).map (tauL hs)).map (fun l => .one l none) ++ [.one ⟨new, [m]⟩ (some ob)]) [] (tauL hs) (hs.map (·.1)) ho hfo hc (fun l => heapL_iff) hinj (fun l _ => by simp) (fun l ob hl => by
      obtain ⟨k, rows, rfl, h1⟩ := hob l ob hl
      refine ⟨_, h1, rfl, rfl, fun i r r' hr hr' => ?_⟩
      rw [hr] at hr'; cases hr'
      refine ⟨rfl, fun j c c' hc hc' => ?_⟩
      rw [hc] at hc'; cases hc'
      simp only [dobj, List.getElem?_map, Option.map_eq_some_iff] at hr
      obtain ⟨r2, _, rfl⟩ := hr
      simp only [List.getElem?_map, Option.map_eq_some_iff] at hc
      obtain ⟨c2, _, rfl⟩ := hc
      exact AR.dd _) (.inl rfl) (by simpa using hargs) (fun H1 h1 h2 => by
      have hne : ∀ l ∈ (hs.map (·.1)).map (tauL hs), l.id ≠ new := fun l hl e => by
        obtain ⟨lc, hlc, rfl⟩ := List.mem_map.1 hl
        cases hb : heapL hs lc with
        | none => exact absurd hb (heapL_iff.2 hlc)
        | some ob2 =>
          obtain ⟨_, _, _, h3⟩ := hob lc ob2 hb
          have h4 := h2 lc hlc
          rw [h3] at h4
          have h5 := h1 (tauL hs lc).sub
          rw [← e] at h5
          exact absurd (h5.symm.trans h4) (by simp)
      funext l
      rw [upds_app]
      show upd _ _ _ l = _
      unfold upd merge
      cases hf : (hs.map (·.1)).find? (fun lc => tauL hs lc == l) with
      | some lc =>
        have hlc := List.mem_of_find?_eq_some hf
        have he : tauL hs lc = l := by have := List.find?_some hf; simpa using this
        have hlm : l ∈ (hs.map (·.1)).map (tauL hs) := List.mem_map.2 ⟨lc, hlc, he⟩
        rw [if_neg (fun e => hne l hlm (by rw [e])), upds_none, if_pos hlm]
        simp only
        rw [if_neg (fun e => hm (by rw [← e]; exact hlc))]; rfl
      | none =>
        have hno : l ∉ (hs.map (·.1)).map (tauL hs) := fun hl => by
          obtain ⟨lc, hlc, e⟩ := List.mem_map.1 hl
          have := List.find?_eq_none.1 hf lc hlc
          simp [e] at this
        rw [upds_none, if_neg hno]
        simp only
        obtain ⟨id, sub⟩ := l
        by_cases e : id = new
        · subst e
          rw [if_pos rfl]
          cases sub with
          | nil => simp [h1]
          | cons i s =>
            simp only
            by_cases e2 : i = m ∧ s = []
            · obtain ⟨rfl, rfl⟩ := e2
              rw [if_pos rfl, if_neg hm, if_pos rfl]
              simp [hrn]
            · have e3 : ¬ ((⟨id, i :: s⟩ : Loc) = ⟨id, [m]⟩) := by simpa using e2
              have e4 : ¬ ((⟨i, s⟩ : Loc) = ⟨m, []⟩) := by simpa using e2
              rw [if_neg e3, h1, if_neg e4]
              split <;> rfl
        · rw [if_neg e, if_neg (fun e' => e (by cases e'; rfl))])
  rw [← hr]
  simpa using h
theorem Ok.callV {P : Program} {o : Oper} {A : Operand → AV} {H : Heap} {new : Nat} {fo : Operand} {xs : List Operand} {ts : Array TypeId} {f : FuncId} {caps args : List AV} {res res' : AV} {ob : AObj} (hs : HL) (m : Nat) (ho : o.op = .call { callee := .value fo, args := xs.toArray, argTypes := ts }) [FnBody P f] (hfo : A fo = .clo (.func f) [] caps)
    (hc : AC P f args (heapL hs) res (upd H0 ⟨m, []⟩ (some ob))) (hm : (⟨m, []⟩ : Loc) ∉ hs.map (·.1)) (hnd : (hs.map (·.1)).Nodup) (hnd' : (hs.map (·.2.1)).Nodup)
    (hob : AllP (fun p => (∃ k rows, p.2.2 = dobj k rows) ∧ H p.2.1 = some p.2.2) hs) (hrn : ∀ g, rnO g ob = ob) (hargs : ARs H (fun _ => False) (tauL hs) (· ∈ hs.map (·.1)) args (xs.map A ++ caps)) (hr : rn (emb (tauL hs) (hs.map (·.1)) new) res = res') :
    OpOk P o A ((hs.map (·.1)).map (tauL hs)) H new res' (((hs.map (·.1)).map (tauL hs)).map (fun l => .one l none) ++ [.one ⟨new, [m]⟩ (some ob)]) := by
  refine OpOk.callV hs m ho hfo hc hm (fun l hl l' hl' e => ?_) (fun l ob hl => ?_) hrn hargs hr
  · obtain ⟨p, hp, rfl⟩ := List.mem_map.1 hl
    obtain ⟨q, hq, rfl⟩ := List.mem_map.1 hl'
    rw [tauL_of hnd hp, tauL_of hnd hq] at e
    clear hob hc hm hargs hr hl hl'
    induction hs with
    | nil => cases hp
    | cons x r ih =>
      simp only [List.map_cons, List.nodup_cons] at hnd hnd'
      rcases List.mem_cons.1 hp with rfl | hp' <;> rcases List.mem_cons.1 hq with rfl | hq'
      · rfl
      · exact absurd (List.mem_map.2 ⟨q, hq', e.symm⟩) hnd'.1
      · exact absurd (List.mem_map.2 ⟨p, hp', e⟩) hnd'.1
      · exact ih hnd.2 hnd'.2 hp' hq'
  · obtain ⟨p, hp, rfl, rfl⟩ := heapL_mem hl
    obtain ⟨⟨k, rows, e⟩, h⟩ := hob.all p hp
    exact ⟨k, rows, e, by rw [tauL_of hnd hp]; exact h⟩
section
variable {P : Program} {o : Oper} {A : Operand → AV} {H : Heap} {new : Nat}
/-! ### The same, as a walk uses them -/
theorem Ok.cTo {t e : TypeId} {x y : Operand} {k b off n N h : Nat} {z : Value} {l0 : Loc} {i : Int} (ho : o.op = .slice t x none (some y) none) [TySlice P t e k b z] (hx : A x = .ownc k l0 off n N) (hy : A y = I i) (h0 : 0 ≤ i) (h1 : i.toNat = h) (h2 : h ≤ N) (hN : 0 < N) : OpOk P o A [] H new (.ownc k l0 off h N) [] := by
  have := OpOk.sliceC (P := P) (H := H) (new := new) (A := A) ho hx BndIs.none (BndIs.some hy h0 h1) (Nat.zero_le _) h2 hN
  rw [if_neg (by omega)] at this
  simpa using this
theorem Ok.cFrom {t e : TypeId} {x y : Operand} {k b off n N h m : Nat} {z : Value} {l0 : Loc} {i : Int} (ho : o.op = .slice t x (some y) none none) [TySlice P t e k b z] (hx : A x = .ownc k l0 off n N) (hy : A y = I i) (h0 : 0 ≤ i) (h1 : i.toNat = h) (h2 : h ≤ n) (h3 : n ≤ N) (hN : h < N) (hm : n - h = m) : OpOk P o A [] H new (.ownc k l0 (off + h) m (N - h)) [] := by
  have := OpOk.sliceC (P := P) (H := H) (new := new) (A := A) ho hx (BndIs.some hy h0 h1) BndIs.none h2 h3 (by omega)
  rw [if_neg (by omega), hm] at this
  exact this
theorem Ok.cEnd {t e : TypeId} {x y : Operand} {k b off n N : Nat} {z : Value} {l0 : Loc} {i : Int} (ho : o.op = .slice t x (some y) none none) [TySlice P t e k b z] (hx : A x = .ownc k l0 off n N) (hy : A y = I i) (h0 : 0 ≤ i) (h1 : i.toNat = n) (h2 : n = N) (h3 : 0 < N) : OpOk P o A [] H new (.ownc k l0 off 0 0) [] := by
  subst h2
  have := OpOk.sliceC (P := P) (H := H) (new := new) (A := A) ho hx (BndIs.some hy h0 h1) BndIs.none (Nat.le_refl _) (Nat.le_refl _) h3
  rw [if_pos rfl, Nat.sub_self] at this
  exact this
theorem Ok.cBoth {t e : TypeId} {x y y' : Operand} {k b off n N h h' m : Nat} {z : Value} {l0 : Loc} {i i' : Int} (ho : o.op = .slice t x (some y) (some y') none) [TySlice P t e k b z] (hx : A x = .ownc k l0 off n N) (hy : A y = I i) (hy' : A y' = I i') (h0 : 0 ≤ i) (h1 : i.toNat = h) (h0' : 0 ≤ i') (h1' : i'.toNat = h') (h2 : h ≤ h') (h3 : h' ≤ N) (hN : h < N) (hm : h' - h = m) : OpOk P o A [] H new (.ownc k l0 (off + h) m (N - h)) [] := by
  have := OpOk.sliceC (P := P) (H := H) (new := new) (A := A) ho hx (BndIs.some hy h0 h1) (BndIs.some hy' h0' h1') h2 h3 (by omega)
  rw [if_neg (by omega), hm] at this
  exact this
theorem Ok.oFrom {t e : TypeId} {x y : Operand} {k b off n h m : Nat} {z : Value} {l0 : Loc} {i : Int} (ho : o.op = .slice t x (some y) none none) [TySlice P t e k b z] (hx : A x = .own k l0 off n) (hy : A y = I i) (h0 : 0 ≤ i) (h1 : i.toNat = h) (h2 : h < n ∨ h = 0) (hm : n - h = m) : OpOk P o A [] H new (.own k l0 (off + h) m) [] := by
  have := OpOk.sliceO (P := P) (H := H) (new := new) (A := A) ho hx (BndIs.some hy h0 h1) BndIs.none (by omega) (Nat.le_refl _) (by omega)
  rw [hm] at this
  exact this
theorem Ok.appendZ {t t' e : TypeId} {ts : Array TypeId} {s x : Operand} {k b n m N nm : Nat} {z : Value} {kd : IntKind} {l : Loc} {ob : AObj} {j : Int} {zr : List AV} (ho : o.op = .call { callee := .builtin .append, args := #[s, x], argTypes := ts }) (hts : ts = #[t, t']) [h : TySlice P t e k b z] (ht' : P.underlying t' = some (.int kd)) (hk0 : 0 < k)
    (hd : A s = .ownc k l 0 n N) (hN : 0 < N) (hl : H l = some ob) (hk : ob.k = k) (hn : n ≤ ob.rows.length) (hx : A x = I j) (hj : j = (m : Nat)) (hm : 0 < m) (hroom : N < n + m) (hsz : (n + m) * b ≤ 140737488355328) (h63 : n + m ≤ 9223372036854775807) (hnm : n + m = nm) (hz : z.cells.toList.map (fun x => AV.d (.v x)) = zr) :
    OpOk P o A [l] H new (.own k ⟨new, []⟩ 0 nm) [.one ⟨new, []⟩ (some ⟨k, ob.rows.take n ++ List.replicate m zr⟩)] := by
  subst hj hnm hz
  exact OpOk.appendZ ho hts ht' hk0 hd hN hl hk hn hx hm hroom hsz h63
/-- Rows of one's own appended in place, within the capacity. -/
theorem Ok.appendIn {t t' e e' : TypeId} {ts : Array TypeId} {s x : Operand} {k b b' n N off' m' m : Nat} {z z' : Value} {l l' : Loc} {ob ob' : AObj} (ho : o.op = .call { callee := .builtin .append, args := #[s, x], argTypes := ts }) (hts : ts = #[t, t']) [h : TySlice P t e k b z] [h' : TySlice P t' e' k b' z'] (hk0 : 0 < k)
    (hd : A s = .ownc k l 0 n N) (hN : 0 < N) (hl : H l = some ob) (hk : ob.k = k) (hn : n ≤ ob.rows.length) (hx : fgt (A x) = .own k l' off' m') (hl' : H l' = some ob') (hk' : ob'.k = k) (hn' : off' + m' ≤ ob'.rows.length) (hone : ∀ r ∈ (ob'.rows.drop off').take m', r.all AV.one = true) (hroom : n + m' ≤ N) (hm : n + m' = m) :
    OpOk P o A [l, l'] H new (.ownc k l 0 m N) [.one l (some ⟨k, ob.rows.take n ++ (ob'.rows.drop off').take m' ++ ob.rows.drop (n + ((ob'.rows.drop off').take m').length)⟩)] := by
  have hRl : ((ob'.rows.drop off').take m').length = m' := by simp; omega
  have := OpOk.appendIn (P := P) (H := H) (new := new) (A := A) (R := (ob'.rows.drop off').take m') (rd := [l']) ho hts hk0 hd hN hl hk hn (by rw [hx]; exact .own l' off' m' ob' hl' hk' hn') hone (by omega)
  rw [hRl, hm] at this
  rw [hRl, hm]; exact this
theorem Ok.clearC {t e : TypeId} {ts : Array TypeId} {x : Operand} {k b off n : Nat} {z : Value} {l : Loc} {ob : AObj} {zr : List AV} (ho : o.op = .call { callee := .builtin .clear, args := #[x], argTypes := ts }) (hts : ts = #[t]) [h : TySlice P t e k b z] (hk0 : 0 < k) (hz1 : ∀ u ∈ z.cells.toList, u.oneCell' = true)
    (hd : fgt (A x) = .own k l off n) (hl : H l = some ob) (hk : ob.k = k) (hn : off + n ≤ ob.rows.length) (hn0 : 0 < n) (hz : z.cells.toList.map (fun x => AV.d (.v x)) = zr) :
    OpOk P o A [l] H new .dead [.one l (some ⟨k, ob.rows.take off ++ List.replicate n zr ++ ob.rows.drop (off + n)⟩)] := by
  subst hz
  exact OpOk.clearC ho hts hk0 hz1 hd hl hk hn hn0
/-- Copies of rows of one's own: as many as fit, or as there are. -/
theorem Ok.copyGe {t t' e : TypeId} {ts : Array TypeId} {d x : Operand} {k b n off off' m' : Nat} {z : Value} {l l' : Loc} {ob ob' : AObj} (ho : o.op = .call { callee := .builtin .copy, args := #[d, x], argTypes := ts }) (hts : ts = #[t, t']) [h : TySlice P t e k b z] (hk0 : 0 < k)
    (hd : fgt (A d) = .own k l off n) (hl : H l = some ob) (hk : ob.k = k) (hn : off + n ≤ ob.rows.length) (hx : fgt (A x) = .own k l' off' m') (hnm : n ≤ m') (hl' : H l' = some ob') (hk' : ob'.k = k) (hn' : off' + m' ≤ ob'.rows.length) (hone : ∀ r ∈ (ob'.rows.drop off').take n, r.all AV.one = true) :
    OpOk P o A [l, l'] H new (I (n : Nat)) [.one l (some ⟨k, ob.rows.take off ++ (ob'.rows.drop off').take n ++ ob.rows.drop (off + n)⟩)] :=
  OpOk.forget (OpOk.copyC (m := n) (rd := [l']) ho hts hk0 hd hl hk hn (.inr ⟨l', off', m', ob', hx, hnm, rfl, hl', hk', hn', rfl, rfl⟩) hone)
theorem Ok.copyLe {t t' e : TypeId} {ts : Array TypeId} {d x : Operand} {k b n off off' m : Nat} {z : Value} {l l' : Loc} {ob ob' : AObj} (ho : o.op = .call { callee := .builtin .copy, args := #[d, x], argTypes := ts }) (hts : ts = #[t, t']) [h : TySlice P t e k b z] (hk0 : 0 < k)
    (hd : fgt (A d) = .own k l off n) (hl : H l = some ob) (hk : ob.k = k) (hn : off + n ≤ ob.rows.length) (hx : fgt (A x) = .own k l' off' m) (hnm : m ≤ n) (hl' : H l' = some ob') (hk' : ob'.k = k) (hn' : off' + m ≤ ob'.rows.length) (hone : ∀ r ∈ (ob'.rows.drop off').take m, r.all AV.one = true) :
    OpOk P o A [l, l'] H new (I (m : Nat)) [.one l (some ⟨k, ob.rows.take off ++ (ob'.rows.drop off').take m ++ ob.rows.drop (off + m)⟩)] :=
  OpOk.forget (OpOk.copyC (m := m) (rd := [l']) ho hts hk0 hd hl hk hn (.inl ⟨by rw [hx]; exact .own l' off' m ob' hl' hk' hn', by simp; omega, hnm⟩) hone)
end
/-- The end of a function that hands back a row of which more is known: its place called anew, its first rows told. -/
theorem end1cut {C : Ctx} {P : Program} {fr : List AV} {H : Heap} {n m k nn : Nat} {l : Loc} {c : AV} {ob : AObj} {fn : Func} {e : Exit} {rv : ResultVar} {rows : List (List D)} (he : e = .ret ∨ e = .normal) (hr : fn.results.toList = [rv]) (h : ResOf P fr H rv c) (hc : fgt c = .own k l 0 nn) (hl : H l = some ob) (hk : ob.k = k) (hrows : ∃ more, ob.rows = rows.map (fun r => r.map .d) ++ more)
    (hD : ∀ l, C.D0 l → l.id < m ∧ l ≠ ⟨m, []⟩) : EndQ P C fn (.own k ⟨m, []⟩ 0 nn) (upd H0 ⟨m, []⟩ (some (dobj k rows))) e ⟨fr, H, n⟩ := by
  have hf : Fgt c (.own k l 0 nn) := by
    cases c with
    | ownc k' l' off n' c => simp only [fgt, AV.own.injEq] at hc; obtain ⟨rfl, rfl, rfl, rfl⟩ := hc; exact .own _ _ _ _ _
    | _ => simp only [fgt] at hc; first | (rw [hc]; exact .refl _) | cases hc
  refine end1 he hr h rfl ((Le.cut (H' := upd H0 l (some (dobj k rows))) hf (fun l' ob' ho => ?_)).trans (Le.head [(⟨m, []⟩, l, dobj k rows)] (n' := m + 1) (fun l' h => ⟨Nat.lt_succ_of_lt (hD l' h).1, by simp [tauL, (hD l' h).2]⟩) ?_ ?_ (by simp) (by simp) (by simp [AllP])))
  · by_cases e : l' = l
    · subst e; rw [upd_same] at ho; cases ho
      obtain ⟨more, hm⟩ := hrows
      exact ⟨ob, hl, hk, more, hm⟩
    · rw [upd_ne e] at ho; cases ho
  · exact ⟨⟨_, upd_same, ObA.data⟩, trivial⟩
  · refine ARs.cons ?_ ARs.nil
    have := AR.own (H := upd H0 l (some (dobj k rows))) (lent := fun _ => False) (τ := tauL [(⟨m, []⟩, l, dobj k rows)]) (L := fun l' => heapL [(⟨m, []⟩, l, dobj k rows)] l' ≠ none) k ⟨m, []⟩ 0 nn (by simp [heapL, upd])
    simpa [tauL] using this
end Go.Proofs.Ytemomjcgkpinfaa
