/-
  The text of a trace by the program: a walk in the machine's own terms (the library's builder), told as a contract of the reading.
-/
import Derived.Test.YtdgodkpobomneabDoorKaS5
import Derived.Test.YtdgodkpobomneabDoorKaA2
namespace Go.Proofs.YtdgodkpobomneabDoor
set_option linter.unusedSimpArgs false
set_option linter.unusedVariables false
open Go Go.RowKit

/-- A contract of the reading, used in the machine's terms. -/
theorem AC.at [Mode] {P : Program} {f : FuncId} {args : List AV} {res : AV} {w : World} {vs : List Value} (h : AC P f args H0 res H0) (hg : Glb (fun b => b < w.heap.size) w) (hv : VRs (fun _ => none) (fun b => b < w.heap.size) w args vs) :
    Calls P f vs.toArray w fun e w' => ∃ v ι F, e = .returned v ∧ VR ι F w' res v ∧ Below w.heap.size w w' := by
  refine (h (fun _ => none) (fun b => b < w.heap.size) w vs ⟨fun l o h => (by cases h), fun l l' b s s' h => absurd rfl h, fun l b s h => absurd rfl h, fun b h => h, hg⟩ (fun _ _ => rfl) hv).mono ?_
  rintro e w' ⟨v, ι', F', rfl, hr, _, hst, _⟩
  exact ⟨v, ι', F', rfl, hr, hst.os, hst.tape, hst.output, hst.size, fun b hb => hst.block b hb fun ⟨l, hl, _⟩ => absurd rfl hl⟩
/-- A slice of records that is only read, as the machine has it. -/
theorem VR.slR [Mode] {ι : Iota} {F : Nat → Prop} {w : World} {α : Type} {k : Nat} {enc : α → List Value} {row : α → List D} (hrow : ∀ x, row x = (enc x).map .v) {xs : List α} {v : Value} (h : VR ι F w (.d (.sl k (xs.map row))) v) :
    ∃ (a : Option Addr) (cap : Nat), v = .slice a xs.length cap ∧ ∀ (i : Nat) (x : α), xs[i]? = some x → 0 < (enc x).length → ∃ b off, a = some ⟨b, off, none⟩ ∧ F b ∧ ∀ (j : Nat) (c : Value), (enc x)[j]? = some c → w.cell? ⟨b, off + i * k + j, none⟩ = some c := by
  have hd := h.sl_inv
  clear h
  generalize hrows : xs.map row = rows at hd
  cases hd with
  | sl _ _ a cap g hcap h hd =>
    subst hrows
    refine ⟨a, cap, by simp, fun i x hx hpos => ?_⟩
    have hr : (xs.map row)[i]? = some (row x) := by simp [hx]
    have hget : ∀ (j : Nat) (c : Value), (enc x)[j]? = some c → (row x)[j]? = some (.v c) := fun j c hj => by rw [hrow]; simp [hj]
    obtain ⟨b, off, e, hF, _⟩ := h i _ 0 _ hr (hget 0 _ (List.getElem?_eq_getElem hpos))
    refine ⟨b, off, e, hF, fun j c hj => ?_⟩
    obtain ⟨b', off', e', _, hc⟩ := h i _ j _ hr (hget j c hj)
    rw [e] at e'
    simp only [Option.some.injEq, Addr.mk.injEq, and_true] at e'
    obtain ⟨rfl, rfl⟩ := e'
    have hv := hd i _ j _ hr (hget j c hj)
    generalize hq : g i j = q at hv hc
    cases hv
    exact hc
theorem isB_stay [Mode] {T e : TypeId} {B b : Nat} {bs : List Value} {w w' : World} (h : Lib.IsBuilder T e B b bs w) (hw : ∀ k, k < w.heap.size → w'.heap[k]? = w.heap[k]?) : Lib.IsBuilder T e B b bs w' := by
  have key : ∀ {p : Value}, Lib.BuilderAt T e B b p bs w → Lib.BuilderAt T e B b p bs w' := by
    rintro p ⟨hB, v, hb, hown, hne⟩
    have hlt : b < w.heap.size := (Array.getElem?_eq_some_iff.1 hb).1
    refine ⟨hB, v, by rw [hw b hlt]; exact hb, ?_, hne⟩
    obtain ⟨h1, h2⟩ := hown
    refine ⟨h1, h2.imp id ?_⟩
    rintro ⟨g, cap, cur, e1, e2, e3, e4⟩
    exact ⟨g, cap, cur, e1, e2, by rw [hw g (Array.getElem?_eq_some_iff.1 e3).1]; exact e3, e4⟩
  exact h.imp key key
def Fi.enc (f : Fi) : List Value := [.int .i64 f.e, .int .i64 f.n, .int .i64 f.t]
theorem traceLine_calls [Mode] [HasTab] (c : Int) (f : Fi) (h0 : 0 ≤ c) (h1 : c < 9973) (hf : wrF f = true) (w : World) (hg : Glb (fun b => b < w.heap.size) w) :
    Calls Tryd.prog 64 #[.agg #[.int .i64 f.e, .int .i64 f.n, .int .i64 f.t], .int .i64 c] w fun e w' => e = .returned (.tuple #[.string ⟨(trN c f).toArray⟩, .int .i64 (nxI c f)]) ∧ Below w.heap.size w w' := by
  refine ((traceLine_ac c f h0 h1 hf).at hg (vs := [.agg #[.int .i64 f.e, .int .i64 f.n, .int .i64 f.t], .int .i64 c]) (.cons (VRs.agg (.cons (.d (.v _)) (.cons (.d (.v _)) (.cons (.d (.v _)) .nil)))) (.cons (.d (.v _)) .nil))).mono ?_
  rintro e w' ⟨v, ι, F, rfl, hr, hb⟩
  obtain ⟨vs, rfl, hl, hv⟩ := hr.tup_inv
  match vs, hl with
  | [a, b], _ =>
    have ha := (hv 0 _ a rfl rfl).v_inv
    have hb' := (hv 1 _ b rfl rfl).v_inv
    subst ha hb'
    exact ⟨rfl, hb⟩
set_option maxRecDepth 8000 in
set_option maxHeartbeats 1600000 in
theorem traceText_calls [Mode] [HasTab] (fs : List Fi) (hw : fs.all wrF = true) (hl : fs.length ≤ 500) (a : Option Addr) (cap : Nat) (w : World) (hG : ∀ W', Below w.heap.size w W' → Glb (fun b => b < W'.heap.size) W')
    (rx : ∀ (i : Nat) (x : Fi), fs[i]? = some x → 0 < x.enc.length → ∃ b off, a = some ⟨b, off, none⟩ ∧ b < w.heap.size ∧ ∀ (j : Nat) (c : Value), x.enc[j]? = some c → w.cell? ⟨b, off + i * 3 + j, none⟩ = some c) :
    Calls Tryd.prog 30 #[.slice a fs.length cap] w fun e w' => e = .returned (.tuple #[.string ⟨(trT 1 fs).toArray⟩, .int .i64 (chA 1 fs)]) ∧ Below w.heap.size w w' := by
  go_enter Tryd.func30, Tryd.ntmps30
  go_wp2
  go_loopw [5, 12] (fun c i wr => ∃ k : Nat, k ≤ fs.length ∧ i = .int .i64 k ∧ c = .int .i64 (chA 1 (fs.take k)) ∧ Lib.IsBuilder 96 5 w.heap.size w.heap.size (Lib.byteCells (trT 1 (fs.take k))) wr ∧ Below w.heap.size w wr) (fun _ i _ => fs.length - (intOf i).toNat)
  case atStart => exact ⟨0, Nat.zero_le _, rfl, rfl, Lib.fresh_isBuilder _ _ w, (Below.refl _ _).alloc (Nat.le_refl _) _⟩
  case round =>
    obtain ⟨k, hk, rfl, rfl, hB, hb⟩ := hrel
    by_cases hlt : k < fs.length
    · obtain ⟨f, hf⟩ : ∃ f, fs[k]? = some f := ⟨fs[k], List.getElem?_eq_getElem hlt⟩
      have hfw : wrF f = true := List.all_eq_true.1 hw f (List.mem_of_getElem? hf)
      have htk : fs.take (k + 1) = fs.take k ++ [f] := by rw [List.take_add_one, hf]; rfl
      have hwk : (fs.take k).all wrF = true := List.all_eq_true.2 fun x hx => List.all_eq_true.1 hw x (List.mem_of_mem_take hx)
      have hbd := chA_bd (c := 1) (by decide) (by decide) hwk
      have hT := trT_len (c := 1) (by decide) hwk
      have hTL := List.length_take_le k fs
      have hN := trN_len hbd.1 hfw
      have hs1 : trT 1 (fs.take (k + 1)) = trT 1 (fs.take k) ++ trN (chA 1 (fs.take k)) f := by rw [htk, trT_snoc]
      have hs2 : chA 1 (fs.take (k + 1)) = nxI (chA 1 (fs.take k)) f := by rw [htk, chA_snoc]
      obtain ⟨b, off, rfl, hbl, hc⟩ := rx k f hf (by simp [Fi.enc])
      have c0 := stay hb (Nat.le_refl _) (hc 0 _ rfl)
      have c1 := stay hb (Nat.le_refl _) (hc 1 _ rfl)
      have c2 := stay hb (Nat.le_refl _) (hc 2 _ rfl)
      have hz := hb.size
      clear hc rx
      generalize chA 1 (fs.take k) = ch at *
      generalize trT 1 (fs.take k) = tx at *
      obtain ⟨fe, fn, ft⟩ := f
      simp only [Nat.add_zero] at c0 c1 c2
      have hB1 : ∀ o, Lib.IsBuilder 96 5 w.heap.size w.heap.size (Lib.byteCells tx) (wr.alloc o) := fun o => isB_stay hB fun k hk => Below.heap_alloc _ _ _ hk
      have hb1 : ∀ o, Below w.heap.size w (wr.alloc o) := fun o => hb.alloc hz o
      have hlen : (Lib.byteCells tx).length + (ByteArray.mk (trN ch ⟨fe, fn, ft⟩).toArray).size ≤ 140737488355328 := by rw [Lib.byteCells_length, size_mk]; omega
      go_wp2_with (first
        | (go_at_call 64; refine (traceLine_calls ch ⟨fe, fn, ft⟩ hbd.1 hbd.2 hfw _ (hG _ (hb1 _))).mono ?_; rintro e w1 ⟨rfl, hl1⟩; have hB2 := isB_stay (hB1 _) (fun k hk => hl1.block k hk); have hb2 := (hb1 _).trans (hl1.mono (hb1 _).size); clear hB1 hb1 hl1 hG)
        | (go_at_call 67; refine (Tryd.Builder_WriteString _ _ _ _ _ hB2 hlen hb2.size).mono ?_; rintro e w2 ⟨rfl, hB3, hb3⟩))
      refine ⟨⟨k + 1, by omega, by simp, by rw [hs2], ?_, hb2.trans hb3⟩, by simp [intOf]; omega⟩
      rw [hs1, Lib.byteCells_append]
      exact .inr hB3
    · obtain rfl : k = fs.length := by omega
      rw [List.take_length] at hB ⊢
      have hz := hb.size
      go_wp2_with (go_at_call 68; refine (Tryd.Builder_String_any _ _ (trT 1 fs) _ hB hz).mono ?_; rintro e w2 ⟨rfl, hb3⟩)
      go_ret2
      exact ⟨rfl, hb.trans hb3⟩
theorem traceText_ac [Mode] [HasTab] (fs : List Fi) (hw : fs.all wrF = true) (hl : fs.length ≤ 500) : AC Tryd.prog 30 [FL fs] H0 (.tup [Str (trT 1 fs), I (chA 1 fs)]) H0 := AC.ofCalls fun ι F w vs hs hv => by
  obtain ⟨hvl, hvv⟩ := hv
  match vs, hvl with
  | [v], _ =>
    obtain ⟨a, cap, rfl, rx⟩ := (hvv 0 _ v rfl rfl).slR (enc := Fi.enc) (fun _ => rfl)
    refine (traceText_calls fs hw hl a cap w (fun W' hb => hs.gl.mono (fun b hb' => Nat.lt_of_lt_of_le (hs.lt b hb') hb.size) (fun b hb' => hb.block b (hs.lt b hb'))) (fun i x hx hp => ?_)).mono ?_
    · obtain ⟨b, off, e, hF, hc⟩ := rx i x hx hp
      exact ⟨b, off, e, hs.lt b hF, hc⟩
    · rintro e w' ⟨rfl, hb⟩
      exact ⟨_, rfl, fun _ _ => VRs.tup (.cons (.d (.v _)) (.cons (.d (.v _)) .nil)), hb⟩
end Go.Proofs.YtdgodkpobomneabDoor
