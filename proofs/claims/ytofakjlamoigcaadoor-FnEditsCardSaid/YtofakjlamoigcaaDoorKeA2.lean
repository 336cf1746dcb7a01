/-
  The abstract reading of the machine, part 2: values, operations, contracts, walks.
-/
import Derived.Test.YtofakjlamoigcaaDoorKeA1
import Derived.Test.YtofakjlamoigcaaDoorProg
import Derived.WalkSpells
import Derived.Laws.Strings3
import Derived.Laws.BytesString
import Derived.Lib.AppendStr
import Derived.Lib.LaidTab
import Derived.Lib.Overlaps
section
namespace Go.Proofs.YtofakjlamoigcaaDoor
open Go Go.RowKit
set_option linter.unusedSimpArgs false
set_option linter.unusedVariables false

theorem Locs.congr [Mode] {L : Loc → Prop} {f g : Loc → Loc} (hf : ∀ l, L l → f l = g l) {c : AV} (h : Locs L c) : YtofakjlamoigcaaDoor.rn f c = YtofakjlamoigcaaDoor.rn g c := by
  have key : ∀ {cs : List AV}, (∀ (i : Nat) c, cs[i]? = some c → YtofakjlamoigcaaDoor.rn f c = YtofakjlamoigcaaDoor.rn g c) → cs.map (YtofakjlamoigcaaDoor.rn f) = cs.map (YtofakjlamoigcaaDoor.rn g) := fun h =>
    List.map_congr_left fun c hc => by obtain ⟨i, hi⟩ := List.getElem?_of_mem hc; exact h i c hi
  induction h with
  | d x => rw [YtofakjlamoigcaaDoor.rn, YtofakjlamoigcaaDoor.rn]
  | agg cs h ih => rw [YtofakjlamoigcaaDoor.rn, YtofakjlamoigcaaDoor.rn, key ih]
  | tup cs h ih => rw [YtofakjlamoigcaaDoor.rn, YtofakjlamoigcaaDoor.rn, key ih]
  | own k l off n h => rw [YtofakjlamoigcaaDoor.rn, YtofakjlamoigcaaDoor.rn, hf l h]
  | ptr k l i j h => rw [YtofakjlamoigcaaDoor.rn, YtofakjlamoigcaaDoor.rn, hf l h]
  | dptr cs => rw [YtofakjlamoigcaaDoor.rn, YtofakjlamoigcaaDoor.rn]
  | clo fn fs cs h h' ih ih' => rw [YtofakjlamoigcaaDoor.rn, YtofakjlamoigcaaDoor.rn, key ih, key ih']
  | dead => rw [YtofakjlamoigcaaDoor.rn, YtofakjlamoigcaaDoor.rn]
/-- A state whose heap, though unknown, stays as it is. -/
theorem Le.keep [Mode] {C : Ctx} {fr fr' : List AV} {hs : HL} {n n' : Nat} (hself : ∀ p ∈ hs, p.2.1 = p.1) (hnd : (hs.map (·.1)).Nodup) (hok : HOk hs) (hfr : ARs (heapL hs) (fun _ => False) id (· ∈ hs.map (·.1)) fr' fr) (hn : ∀ p ∈ hs, p.1.id < n') (hD : ∀ l, C.D0 l → l.id < n') : Le C ⟨fr, heapL hs, n⟩ ⟨fr', heapL hs, n'⟩ := by
  have hL : (fun l => heapL hs l ≠ none) = (· ∈ hs.map (·.1)) := by funext l; exact propext heapL_iff
  refine Le.tell (fun _ => False) id (by rw [hL]; exact hfr) (fun l ob h => ⟨ob, h, rfl, rfl, fun i r r' hr hr' => ?_⟩) (fun l l' _ _ e => e) (fun l _ h => h) (fun l h => ?_) (fun l h => ⟨hD l h, rfl⟩)
  · rw [hr] at hr'; cases hr'
    refine ⟨rfl, fun j c c' hc hc' => ?_⟩
    rw [hc] at hc'; cases hc'
    obtain ⟨p, hp, rfl, rfl⟩ := heapL_mem h
    rw [hL]
    exact (hok p hp r (List.mem_of_getElem? hr) c (List.mem_of_getElem? hc)).ar
  · obtain ⟨p, hp, e⟩ := List.mem_map.1 (heapL_iff.1 h)
    rw [← e]; exact hn p hp
end Go.Proofs.YtofakjlamoigcaaDoor
end

section
namespace Go.Proofs.YtofakjlamoigcaaDoor
open Go Go.RowKit
set_option linter.unusedSimpArgs false
set_option linter.unusedVariables false

section
variable {P : Program} {o : Oper} {A : Operand → AV} {H : Heap} {new : Nat}
theorem Ok.storeC [Mode] {t : TypeId} {a x : Operand} {k i j : Nat} {l : Loc} {ob : AObj} {r : List AV} {v : AV} {rows : List (List AV)} (ho : o.op = .store t a x) (ha : A a = .ptr k l i j) [ht : TyCell P t] (hl : H l = some ob) (hk : ob.k = k) (hr : ob.rows[i]? = some r) (hn : j < r.length) (hx : A x = v) (hc : v.cells = [v]) (h1 : v.one = true) (hrows : ob.rows.set i (r.set j v) = rows) :
    OpOk P o A [l] H new (.d (.v undef)) [.one l (some ⟨k, rows⟩)] := by
  have := OpOk.store (P := P) (H := H) (new := new) (A := A) ho ha ht.s hl hk hr (by omega) (by rw [hx, hc]; rfl) (by rw [hx, hc]; simp [h1])
  rw [hx, hc] at this
  have e : r.take j ++ [v] ++ r.drop (j + 1) = r.set j v := by
    rw [List.set_eq_take_append_cons_drop, if_pos hn]; simp
  rw [e, hrows] at this
  exact this
theorem Ok.storeA [Mode] {t : TypeId} {a x : Operand} {k i j n : Nat} {l : Loc} {ob : AObj} {r cs : List AV} {rows : List (List AV)} (ho : o.op = .store t a x) (ha : A a = .ptr k l i j) [ht : TyAgg P t n] (hl : H l = some ob) (hk : ob.k = k) (hr : ob.rows[i]? = some r) (hn : j + n ≤ r.length) (hx : A x = .agg cs) (hc : cs.length = n) (h1 : cs.all AV.one = true) (hrows : ob.rows.set i (r.take j ++ cs ++ r.drop (j + n)) = rows) :
    OpOk P o A [l] H new (.d (.v undef)) [.one l (some ⟨k, rows⟩)] := by
  have := OpOk.store (P := P) (H := H) (new := new) (A := A) ho ha ht.s hl hk hr hn (by rw [hx]; exact hc) (by rw [hx]; exact h1)
  rw [hx] at this
  rw [← hrows]
  exact this

/-! ### Struct literals -/
class TyBuild (P : Program) (t : TypeId) (pl : outParam (List (Nat × Nat))) (zs : outParam (List Value)) : Prop where
  z : (P.info? t).map (fun i => i.zero.map fun z => z.cells.toList) = some (some zs)
  u : (match P.underlying t with | some (.struct fs) => some (fs.toList.map fun f => (f.offset, (P.info? f.type).map (·.size))) | _ => none) = some (pl.map fun p => (p.1, some p.2))
theorem run_mapM_list [Mode] {α β : Type} {P : Program} {w : World} {g : α → Sem β} : ∀ (l : List α) (vs : List β), l.length = vs.length → (∀ (i : Nat) rv v, l[i]? = some rv → vs[i]? = some v → (g rv).run P w = .ok v w) → (l.mapM g).run P w = .ok vs w
  | [], vs, hl, _ => by
    have : vs = [] := List.length_eq_zero_iff.1 hl.symm
    subst this; simp
  | rv :: l, vs, hl, h => by
    cases vs with
    | nil => simp at hl
    | cons v vs =>
      have h0 := h 0 rv v rfl rfl
      have ih := run_mapM_list (P := P) (w := w) (g := g) l vs (by simpa using hl) (fun i rv v h1 h2 => h (i + 1) rv v (by simpa using h1) (by simpa using h2))
      simp [List.mapM_cons, h0, ih]
theorem run_build' [Mode] {t : TypeId} {pl : List (Nat × Nat)} {zs : List Value} [h : TyBuild P t pl zs] {parts : Array (Nat × Value)} {cells : Array Value} {w : World} (hf : Instr.fill (pl[·]?) zs.toArray parts.toList = some cells) : (Instr.build t parts).run P w = .ok (.agg cells) w := by
  have h1 := h.z
  have h2 := h.u
  cases hi : P.info? t with
  | none => rw [hi] at h1; cases h1
  | some i =>
    rw [hi] at h1
    simp only [Option.map_some, Option.some.injEq] at h1
    cases hz : i.zero with
    | none => rw [hz] at h1; cases h1
    | some z =>
      rw [hz] at h1
      simp only [Option.map_some, Option.some.injEq] at h1
      have hz' : z.cells = zs.toArray := by rw [← h1]
      cases hu : P.underlying t with
      | none => rw [hu] at h2; cases h2
      | some d =>
        rw [hu] at h2
        cases d with
        | struct fs =>
          simp only [Option.some.injEq] at h2
          have hm := run_mapM_list (P := P) (w := w) (g := fun f : Field => (do pure (f.offset, ← sizeOf f.type) : Sem (Nat × Nat))) fs.toList pl (by have := congrArg List.length h2; simpa using this) (fun i f p hf hp => by
            have h3 := congrArg (·[i]?) h2
            simp only [List.getElem?_map, hf, hp, Option.map_some, Option.some.injEq, Prod.mk.injEq] at h3
            rw [Sem.run_bind, run_sizeOf' h3.2]
            simp [h3.1])
          have hz2 : (zeroValue t).run P w = .ok z w := by simp [zeroValue, typeInfo, hi, hz]
          unfold Instr.build
          rw [Sem.run_bind, hz2]
          simp only [Result.andThen]
          rw [Sem.run_bind, run_underlying hu]
          simp only [Result.andThen]
          rw [Array.mapM_eq_mapM_toList, map_eq_pure_bind, Sem.run_bind, Sem.run_bind]
          erw [hm]
          simp [Result.andThen, hz', hf]
        | _ => cases h2
theorem OpOk.build [Mode] {t : TypeId} {pl : List (Nat × Nat)} {zs : List Value} {parts : Array (Nat × Operand)} {cells cells' : List AV} (ho : o.op = .build t parts) [h : TyBuild P t pl zs] (hone : ∀ p ∈ parts.toList, (A p.2).cells.all AV.one = true) (hf : fillA (pl[·]?) (zs.map fun x => .d (.v x)) (parts.toList.map fun p => (p.1, A p.2)) = some cells) (hc : cells = cells') : OpOk P o A [] H new (.agg cells') [] := by
  subst hc
  refine .still [] fun ι F w H1 ρ _ hs hv => ?_
  have hops : ∀ p ∈ parts.toList, VR ι F w (A p.2) (ρ p.2) := fun p hp => hv p.2 (by
    simp only [ho, Op.operands]
    exact List.mem_toArray.2 (List.mem_map.2 ⟨p, hp, rfl⟩))
  have hz : VRs ι F w (zs.map fun x => .d (.v x)) zs.toArray.toList := by
    refine ⟨by simp, fun i c v hc hv => ?_⟩
    simp only [List.getElem?_map, Option.map_eq_some_iff] at hc
    obtain ⟨x, hx, rfl⟩ := hc
    simp only at hv
    rw [hx] at hv; cases hv
    exact .d (.v _)
  obtain ⟨cur', hf', hvs⟩ := fill_sound (place := (pl[·]?)) hz hops hone hf
  have hr := run_build' (P := P) (t := t) (pl := pl) (zs := zs) (w := w) (parts := parts.map fun p => (p.1, ρ p.2)) (cells := cur') (by rw [Array.toList_map]; exact hf')
  refine ⟨.agg cur', by simp [execOp, ho, hr], ?_⟩
  have := hvs.agg
  simpa using this
theorem Ok.build1 [Mode] {t : TypeId} {pl : List (Nat × Nat)} {zs : List Value} {x0 : Operand} {i0 : Nat} {v0 : AV} {cells cells' : List AV} (ho : o.op = .build t #[(i0, x0)]) [h : TyBuild P t pl zs] (hx0 : A x0 = v0) (h0 : v0.cells.all AV.one = true) (hf : fillA (pl[·]?) (zs.map fun x => .d (.v x)) [(i0, v0)] = some cells) (hc : cells = cells') : OpOk P o A [] H new (.agg cells') [] :=
  OpOk.build ho (by intro p hp; simp at hp; rcases hp with rfl <;> simp only [hx0] <;> assumption) (by simpa [hx0] using hf) hc
theorem Ok.build2 [Mode] {t : TypeId} {pl : List (Nat × Nat)} {zs : List Value} {x0 x1 : Operand} {i0 i1 : Nat} {v0 v1 : AV} {cells cells' : List AV} (ho : o.op = .build t #[(i0, x0), (i1, x1)]) [h : TyBuild P t pl zs] (hx0 : A x0 = v0) (hx1 : A x1 = v1) (h0 : v0.cells.all AV.one = true) (h1 : v1.cells.all AV.one = true) (hf : fillA (pl[·]?) (zs.map fun x => .d (.v x)) [(i0, v0), (i1, v1)] = some cells) (hc : cells = cells') : OpOk P o A [] H new (.agg cells') [] :=
  OpOk.build ho (by intro p hp; simp at hp; rcases hp with rfl | rfl <;> simp only [hx0, hx1] <;> assumption) (by simpa [hx0, hx1] using hf) hc
theorem Ok.build3 [Mode] {t : TypeId} {pl : List (Nat × Nat)} {zs : List Value} {x0 x1 x2 : Operand} {i0 i1 i2 : Nat} {v0 v1 v2 : AV} {cells cells' : List AV} (ho : o.op = .build t #[(i0, x0), (i1, x1), (i2, x2)]) [h : TyBuild P t pl zs] (hx0 : A x0 = v0) (hx1 : A x1 = v1) (hx2 : A x2 = v2) (h0 : v0.cells.all AV.one = true) (h1 : v1.cells.all AV.one = true) (h2 : v2.cells.all AV.one = true) (hf : fillA (pl[·]?) (zs.map fun x => .d (.v x)) [(i0, v0), (i1, v1), (i2, v2)] = some cells) (hc : cells = cells') : OpOk P o A [] H new (.agg cells') [] :=
  OpOk.build ho (by intro p hp; simp at hp; rcases hp with rfl | rfl | rfl <;> simp only [hx0, hx1, hx2] <;> assumption) (by simpa [hx0, hx1, hx2] using hf) hc
theorem Ok.build4 [Mode] {t : TypeId} {pl : List (Nat × Nat)} {zs : List Value} {x0 x1 x2 x3 : Operand} {i0 i1 i2 i3 : Nat} {v0 v1 v2 v3 : AV} {cells cells' : List AV} (ho : o.op = .build t #[(i0, x0), (i1, x1), (i2, x2), (i3, x3)]) [h : TyBuild P t pl zs] (hx0 : A x0 = v0) (hx1 : A x1 = v1) (hx2 : A x2 = v2) (hx3 : A x3 = v3) (h0 : v0.cells.all AV.one = true) (h1 : v1.cells.all AV.one = true) (h2 : v2.cells.all AV.one = true) (h3 : v3.cells.all AV.one = true) (hf : fillA (pl[·]?) (zs.map fun x => .d (.v x)) [(i0, v0), (i1, v1), (i2, v2), (i3, v3)] = some cells) (hc : cells = cells') : OpOk P o A [] H new (.agg cells') [] :=
  OpOk.build ho (by intro p hp; simp at hp; rcases hp with rfl | rfl | rfl | rfl <;> simp only [hx0, hx1, hx2, hx3] <;> assumption) (by simpa [hx0, hx1, hx2, hx3] using hf) hc
theorem Ok.build5 [Mode] {t : TypeId} {pl : List (Nat × Nat)} {zs : List Value} {x0 x1 x2 x3 x4 : Operand} {i0 i1 i2 i3 i4 : Nat} {v0 v1 v2 v3 v4 : AV} {cells cells' : List AV} (ho : o.op = .build t #[(i0, x0), (i1, x1), (i2, x2), (i3, x3), (i4, x4)]) [h : TyBuild P t pl zs] (hx0 : A x0 = v0) (hx1 : A x1 = v1) (hx2 : A x2 = v2) (hx3 : A x3 = v3) (hx4 : A x4 = v4) (h0 : v0.cells.all AV.one = true) (h1 : v1.cells.all AV.one = true) (h2 : v2.cells.all AV.one = true) (h3 : v3.cells.all AV.one = true) (h4 : v4.cells.all AV.one = true) (hf : fillA (pl[·]?) (zs.map fun x => .d (.v x)) [(i0, v0), (i1, v1), (i2, v2), (i3, v3), (i4, v4)] = some cells) (hc : cells = cells') : OpOk P o A [] H new (.agg cells') [] :=
  OpOk.build ho (by intro p hp; simp at hp; rcases hp with rfl | rfl | rfl | rfl | rfl <;> simp only [hx0, hx1, hx2, hx3, hx4] <;> assumption) (by simpa [hx0, hx1, hx2, hx3, hx4] using hf) hc
theorem Ok.bs0 [Mode] {t e : TypeId} {k b : Nat} {z : Value} (ho : o.op = .buildSlice t 0 #[]) [h : TySlice P t e k b z] : OpOk P o A [] H new (.own k ⟨new, []⟩ 0 0) [.one ⟨new, []⟩ (some ⟨k, []⟩)] :=
  OpOk.buildSlice [] ho rfl rfl (by simp) (by simp) (by simp)
theorem Ok.bs1 [Mode] {t e : TypeId} {k b : Nat} {z : Value} {x : Operand} {v : AV} {cs : List AV} (ho : o.op = .buildSlice t 1 #[(0, x)]) [h : TySlice P t e k b z] (hx : A x = v) (hv : v.cells = cs) (hk : cs.length = k) (h1 : cs.all AV.one = true) (hsm : k ≤ 16777216) : OpOk P o A [] H new (.own k ⟨new, []⟩ 0 1) [.one ⟨new, []⟩ (some ⟨k, [cs]⟩)] := by
  have := OpOk.buildSlice (P := P) (H := H) (new := new) (A := A) [x] ho rfl rfl (by omega) (by simp [hx, hv] at h1 ⊢; exact h1) (by simp [hx, hv, hk])
  simpa [hx, hv] using this

/-! ### Appends of one row of data -/
theorem Ok.append1 [Mode] {t t' e e' : TypeId} {ts : Array TypeId} {s x : Operand} {k b b' n : Nat} {z z' : Value} {rows : List (List D)} {l l' : Loc} {row : List D} {rw' : List AV} (ho : o.op = .call { callee := .builtin .append, args := #[s, x], argTypes := ts }) (hts : ts = #[t, t']) [h : TySlice P t e k b z] [h' : TySlice P t' e' k b' z'] (hk0 : 0 < k)
    (hs : A s = .own k l 0 n) (hl : H l = some (dobj k rows)) (hn : rows.length = n) (hx : A x = .own k l' 0 1) (hl' : H l' = some ⟨k, [rw']⟩) (hrow : rw' = row.map .d) (hone : rw'.all AV.one = true) (hsz : (n + 1) * b ≤ 140737488355328) (h63 : n + 1 ≤ 9223372036854775807) :
    OpOk P o A [l, l'] H new (.own k ⟨new, []⟩ 0 (n + 1)) [.one l none, .one ⟨new, []⟩ (some (dobj k (rows ++ [row])))] := by
  have hd : (dobj k rows).rows.length = n := by simp [dobj, hn]
  have := OpOk.append (P := P) (H := H) (new := new) (A := A) (S := rows.map fun r => r.map .d) (R := [rw']) (rd := [l']) (rs := [l]) (wr := [.one l none, .one ⟨new, []⟩ (some ⟨k, (rows.map fun r => r.map .d) ++ [rw']⟩)]) (n := n) ho hts hk0
    (.inl ⟨l, _, hs, hl, rfl, by rw [hd]; exact Nat.le_refl _, by simp only [dobj]; rw [List.take_of_length_le (by simp [hn])], rfl, rfl⟩) (by rw [hx]; exact .own l' 0 1 ⟨k, [rw']⟩ hl' rfl (by simp)) (by simpa using hone) (by simpa using hsz) (by simpa using h63)
  simpa [dobj, hrow] using this

theorem Ok.makeN [Mode] {t e : TypeId} {x y : Operand} {k b n : Nat} {z : Value} (ho : o.op = .makeSlice t x y) (hx : A x = I (n : Nat)) (hy : A y = I (n : Nat)) [h : TySlice P t e k b z] (hb : b * n ≤ 281474976710656) (h63 : n ≤ 9223372036854775807) :
    OpOk P o A [] H new (.own k ⟨new, []⟩ 0 n) [.one ⟨new, []⟩ (some (dobj k (List.replicate n (z.cells.toList.map .v))))] := by
  have := OpOk.makeSlice (P := P) (H := H) (new := new) (A := A) ho hx hy (by omega) (by have := Int.ofNat_le.2 hb; rw [Int.natCast_mul] at this; exact this) (by omega)
  simpa [dobj, Function.comp_def] using this

/-! ### Rows filled one after the other -/
def fillRows {α : Type} (m : Nat) (row : α → List D) (z : List D) (xs : List α) (k : Nat) : AObj := dobj m ((xs.take k).map row ++ List.replicate (xs.length - k) z)
theorem ObA.frE [Mode] {α : Type} {H : Heap} {lent : Loc → Prop} {τ : Loc → Loc} {L : Loc → Prop} {m : Nat} {row : α → List D} {z : List D} {xs : List α} {k : Nat} {ob : AObj} (h : ob = fillRows m row z xs k) : ObA H lent τ L (fillRows m row z xs k) ob := by subst h; exact ObA.data
theorem AR.ownE [Mode] {H : Heap} {lent : Loc → Prop} {τ : Loc → Loc} {L : Loc → Prop} (k : Nat) (l : Loc) (off : Nat) {n n' : Nat} (hn : n = n') (h : L l) : AR H lent τ L (.own k l off n) (.own k (τ l) off n') := hn ▸ AR.own k l off n h

/-! ### A nil slice as an empty row -/
inductive NilR (k : Nat) (l : Loc) : AV → AV → Prop
  | refl (a : AV) : NilR k l a a
  | nil : NilR k l (.d (.v (.slice none 0 0))) (.own k l 0 0)
  | agg (cs cs' : List AV) (hl : cs.length = cs'.length) (h : ∀ (i : Nat) c c', cs[i]? = some c → cs'[i]? = some c' → NilR k l c c') : NilR k l (.agg cs) (.agg cs')
  | tup (cs cs' : List AV) (hl : cs.length = cs'.length) (h : ∀ (i : Nat) c c', cs[i]? = some c → cs'[i]? = some c' → NilR k l c c') : NilR k l (.tup cs) (.tup cs')
theorem NilR.vr [Mode] {ι : Iota} {F : Nat → Prop} {w : World} {k : Nat} {l : Loc} (hl : ι l = some none) {a a' : AV} (h : NilR k l a a') : ∀ {v : Value}, VR ι F w a v → VR ι F w a' v := by
  induction h with
  | refl a => exact id
  | nil => intro v hv; have := hv.v_inv; subst this; exact .ownNil k l hl
  | agg cs cs' hl h ih =>
    intro v hv
    obtain ⟨vs, rfl, h1, h2⟩ := hv.agg_inv
    refine .agg cs' vs (by rw [h1, hl]) fun i c v hc hv => ?_
    have hi : i < cs.length := by rw [hl]; exact (List.getElem?_eq_some_iff.1 hc).1
    exact ih i _ c (List.getElem?_eq_getElem hi) hc (h2 i _ v (List.getElem?_eq_getElem hi) hv)
  | tup cs cs' hl h ih =>
    intro v hv
    cases hv with
    | tup _ vs h1 h2 =>
    refine .tup cs' vs (by rw [h1, hl]) fun i c v hc hv => ?_
    have hi : i < cs.length := by rw [hl]; exact (List.getElem?_eq_some_iff.1 hc).1
    exact ih i _ c (List.getElem?_eq_getElem hi) hc (h2 i _ v (List.getElem?_eq_getElem hi) hv)
theorem Le.nilR [Mode] {C : Ctx} {H : Heap} {n : Nat} (k : Nat) {a a' : AV} (h : NilR k ⟨n, []⟩ a a') : Le C ⟨[a], H, n⟩ ⟨[a'], upd H ⟨n, []⟩ (some ⟨k, []⟩), n + 1⟩ := by
  rintro ac w ⟨ι, F, hs, hv, hdf, hi, hu⟩
  have hn : ∀ k, ι ⟨n, k⟩ = none := fun k => hu n (Nat.le_refl _) k
  have hp := Post.allocNil hs hn k []
  refine ⟨updι ι ⟨n, []⟩ none, F, hp.sim, ?_, hdf, ⟨hi.step, hi.sub, hi.sup, fun l b ⟨h1, sz, e1⟩ => ?_, fun l x hl e => hp.ext _ _ (hi.keep l x hl e)⟩, fun id hid k => ?_⟩
  · have hv' := hv.mono hp.ext hp.sub (fun b hb => rfl)
    refine ⟨by simpa using hv'.1, fun i c v hc hvv => ?_⟩
    cases i with
    | zero => simp at hc; subst hc; exact h.vr (by simp [updι]) (hv'.2 0 a v rfl hvv)
    | succ i => simp at hc
  · by_cases hl : l = ⟨n, []⟩
    · subst hl; simp [updι] at e1
    · simp only [updι, hl, if_false] at e1
      have h1' : upd H ⟨n, []⟩ (some ⟨k, []⟩) l ≠ none := h1
      rw [upd_ne hl] at h1'
      exact hi.own l b ⟨h1', sz, e1⟩
  · have hid' : n + 1 ≤ id := hid
    have : (⟨id, k⟩ : Loc) ≠ ⟨n, []⟩ := fun e => by cases e; omega
    simp only [updι, this, if_false]
    exact hu id (by show n ≤ id; omega) k
/-- A call that hands back a new row, its result told out. -/
theorem OpOk.call1n [Mode] {fo : Operand} {xs : List Operand} {ts : Array TypeId} {f : FuncId} {caps args : List AV} {res res' : AV} {ob : AObj} (lent : List Loc) (ho : o.op = .call { callee := .value fo, args := xs.toArray, argTypes := ts }) [FnBody P f] (hfo : A fo = .clo (.func f) [] caps) (hc : AC P f args H0 res (upd H0 ⟨0, []⟩ (some ob)))
    (hfree : lent = [] ∨ (FreeF res ∧ ∀ r ∈ ob.rows, ∀ c ∈ r, FreeF c)) (hrn : ∀ g, rnO g ob = ob) (hargs : ARs H (Cov lent) id (fun _ => False) args (xs.map A ++ caps)) (hr : rn (fun l => ⟨new, l.id :: l.sub⟩) res = res') : OpOk P o A lent H new res' [.one ⟨new, [0]⟩ (some ob)] :=
  hr ▸ OpOk.call1 lent ho hfo hc hfree hrn hargs
/-- A call that changes one place of the caller's, passed whole. -/
theorem OpOk.callM [Mode] {fo : Operand} {xs : List Operand} {ts : Array TypeId} {f : FuncId} {caps args : List AV} {res : AV} {l : Loc} {k k' : Nat} {rows rows' : List (List D)} {y : Value} (ho : o.op = .call { callee := .value fo, args := xs.toArray, argTypes := ts }) [FnBody P f] (hfo : A fo = .clo (.func f) [] caps)
    (hc : AC P f args (upd H0 ⟨0, []⟩ (some (dobj k rows))) res (upd H0 ⟨0, []⟩ (some (dobj k' rows')))) (hl : H l = some (dobj k rows)) (hres : res = .d (.v y)) (hargs : ARs H (fun _ => False) (fun _ => l) (· = ⟨0, []⟩) args (xs.map A ++ caps)) : OpOk P o A [l] H new res [.one l (some (dobj k' rows'))] := by
  have hfn : ∀ c, res = c → rn (emb (fun _ => l) [⟨0, []⟩] new) c = res := fun c h => by subst h; rw [hres, rn]
  have h := OpOk.callGen (P := P) (o := o) (A := A) (H := H) (new := new) (wr := [.one l (some (dobj k' rows'))]) (fun _ => False) [l] (fun _ => l) [⟨0, []⟩] (fun _ h => h.elim) (fun l hl => .mem (by first | (simp; done) | simpa using hl)) ho hfo hc (fun l' => by
      by_cases e : l' = ⟨0, []⟩
      · subst e; rw [upd_same]; simp
      · simp [upd_ne e, e]) (fun l1 h1 l2 h2 _ => by simp at h1 h2; rw [h1, h2]) (fun _ _ h => h) (fun l' ob hob => by
      by_cases e : l' = ⟨0, []⟩
      · subst e; rw [upd_same] at hob; cases hob
        exact ⟨_, hl, ObA.data (H := H) (lent := fun _ => False) (τ := fun _ => l) (L := fun _ => True) |>.1, rfl, fun i r r' hr hr' => ⟨(ObA.data (H := H) (lent := fun _ => False) (τ := fun _ => l) (L := (· ∈ [(⟨0, []⟩ : Loc)]) )).2.2 i r r' hr hr' |>.1, (ObA.data (H := H) (lent := fun _ => False) (τ := fun _ => l) (L := (· ∈ [(⟨0, []⟩ : Loc)]) )).2.2 i r r' hr hr' |>.2⟩⟩
      · rw [upd_ne e] at hob; cases hob) (.inl fun _ h => h) (by simpa using hargs) (fun H1 h1 h2 => by
      have h3 : H1 l = some (dobj k rows) := (h2 ⟨0, []⟩ (by simp)).trans hl
      funext l'
      simp only [upds, W.app, merge, upd]
      by_cases e : l' = l
      · subst e; simp [rnO_dobj]
      · have e2 : (l == l') = false := by simpa using fun h => e h.symm
        simp only [List.find?_cons, e2, List.find?_nil, e, if_false]
        split
        · rename_i e3
          obtain ⟨id, sub⟩ := l'
          simp only at e3; subst e3
          cases sub with
          | nil => simp [h1]
          | cons i s =>
            by_cases e4 : (⟨i, s⟩ : Loc) = ⟨0, []⟩
            · simp [h1, e4]
            · simp [h1, e4]
        · rfl)
  rw [hfn res rfl] at h
  simpa using h
end
end Go.Proofs.YtofakjlamoigcaaDoor
end

section
namespace Go.Proofs.YtofakjlamoigcaaDoor
set_option linter.unusedSimpArgs false
set_option linter.unusedVariables false
open Go Go.RowKit

section
variable {P : Program} {o : Oper} {A : Operand → AV} {H : Heap} {new : Nat} {val : AV} {reads : List Loc} {wr : List W}
theorem Ok.pu [Mode] (h : OpOk P o A reads H new val [] := by first | exact Ok.move rfl (by conv => lhs; whnf) | exact Ok.assign rfl (by conv => lhs; whnf) | exact Ok.fieldAddr rfl rfl (by decide) (by simp only [Nat.reduceAdd]; exact rfl) | exact OpOk.fieldDAddr rfl rfl (by decide) | exact OpOk.loadCell rfl rfl rfl rfl rfl rfl | exact OpOk.loadAgg rfl rfl rfl rfl rfl (by simp) | exact OpOk.loadDCell rfl rfl rfl | exact OpOk.loadDAgg rfl rfl (by simp) | exact Ok.lenO rfl rfl | exact Ok.lenD rfl rfl (by simp only [List.length_map]; exact rfl) | exact Ok.lenD rfl rfl rfl | exact Ok.lenN rfl rfl | exact OpOk.extract rfl rfl rfl | exact OpOk.fieldCell rfl rfl rfl | exact OpOk.fieldAgg rfl rfl (by simp) | exact Ok.add rfl rfl rfl (by omega) (by omega) | exact Ok.sub rfl rfl rfl (by omega) (by omega) | exact Ok.mul rfl rfl rfl (by omega) (by omega) | exact OpOk.indexD rfl rfl rfl (by omega) (by assumption) (by simp) | exact OpOk.indexOwn rfl rfl rfl (by omega) (by omega) | exact Ok.eql rfl rfl rfl | exact Ok.lss rfl rfl rfl | exact Ok.leq rfl rfl rfl | exact Ok.geq rfl rfl rfl | exact Ok.gtr rfl rfl rfl | exact Ok.neq rfl rfl rfl | exact Ok.pickT rfl rfl (by conv => lhs; whnf) | exact Ok.pickF rfl rfl (by conv => lhs; whnf) | exact Ok.pick rfl rfl (by conv => lhs; whnf) (by conv => lhs; whnf) | exact Ok.notP rfl rfl | exact Ok.not rfl rfl | exact Ok.neg rfl rfl (by omega) (by omega) | exact Ok.lenS rfl rfl | exact Ok.minII rfl rfl rfl | exact Ok.maxII rfl rfl rfl | exact Ok.seql rfl rfl rfl | exact OpOk.makeFunc rfl rfl rfl | exact OpOk.eqPl rfl (by conv => lhs; whnf) (by conv => lhs; whnf) | exact OpOk.neqPl rfl (by conv => lhs; whnf) (by conv => lhs; whnf) | exact Ok.build1 rfl (by conv => lhs; whnf) (by rfl) (by rfl) (by simp only [AV.cells, List.take_succ_cons, List.take_zero, List.take_nil, List.drop_succ_cons, List.drop_zero, List.drop_nil, List.cons_append, List.nil_append, List.append_nil, List.map_cons, List.map_nil, List.set_cons_succ, List.set_cons_zero, Nat.reduceAdd]; exact rfl) | exact Ok.build2 rfl (by conv => lhs; whnf) (by conv => lhs; whnf) (by rfl) (by rfl) (by rfl) (by simp only [AV.cells, List.take_succ_cons, List.take_zero, List.take_nil, List.drop_succ_cons, List.drop_zero, List.drop_nil, List.cons_append, List.nil_append, List.append_nil, List.map_cons, List.map_nil, List.set_cons_succ, List.set_cons_zero, Nat.reduceAdd]; exact rfl) | exact Ok.build3 rfl (by conv => lhs; whnf) (by conv => lhs; whnf) (by conv => lhs; whnf) (by rfl) (by rfl) (by rfl) (by rfl) (by simp only [AV.cells, List.take_succ_cons, List.take_zero, List.take_nil, List.drop_succ_cons, List.drop_zero, List.drop_nil, List.cons_append, List.nil_append, List.append_nil, List.map_cons, List.map_nil, List.set_cons_succ, List.set_cons_zero, Nat.reduceAdd]; exact rfl) | exact Ok.build4 rfl (by conv => lhs; whnf) (by conv => lhs; whnf) (by conv => lhs; whnf) (by conv => lhs; whnf) (by rfl) (by rfl) (by rfl) (by rfl) (by rfl) (by simp only [AV.cells, List.take_succ_cons, List.take_zero, List.take_nil, List.drop_succ_cons, List.drop_zero, List.drop_nil, List.cons_append, List.nil_append, List.append_nil, List.map_cons, List.map_nil, List.set_cons_succ, List.set_cons_zero, Nat.reduceAdd]; exact rfl) | exact Ok.build5 rfl (by conv => lhs; whnf) (by conv => lhs; whnf) (by conv => lhs; whnf) (by conv => lhs; whnf) (by conv => lhs; whnf) (by rfl) (by rfl) (by rfl) (by rfl) (by rfl) (by rfl) (by simp only [AV.cells, List.take_succ_cons, List.take_zero, List.take_nil, List.drop_succ_cons, List.drop_zero, List.drop_nil, List.cons_append, List.nil_append, List.append_nil, List.map_cons, List.map_nil, List.set_cons_succ, List.set_cons_zero, Nat.reduceAdd]; exact rfl) | exact Ok.build0 rfl (by simp only [List.map_cons, List.map_nil]; exact rfl) | exact Ok.sliceTo rfl rfl rfl (by omega) (by omega) | exact Ok.sliceFrom rfl rfl rfl (by omega) (by omega) | exact Ok.subW rfl rfl rfl | exact Ok.addW rfl rfl rfl | exact Ok.beqS rfl rfl rfl (by kernel_rfl) | exact Ok.bneS rfl rfl rfl (by kernel_rfl) | exact Ok.beq rfl rfl rfl (by kernel_rfl) | exact Ok.bne rfl rfl rfl (by kernel_rfl)) : OpOk P o A reads H new val [] := h
theorem Ok.pe [Mode] (h : OpOk P o A reads H new val wr := by first | exact Ok.pu | exact Ok.boxA rfl rfl (by simp only [List.length_cons, List.length_nil, Nat.reduceAdd]; exact rfl) rfl | exact Ok.boxC rfl (by conv => lhs; whnf) rfl | exact Ok.alloc rfl (by conv => lhs; whnf) (by simp only [Value.cells, List.map_cons, List.map_nil]; exact rfl) | exact Ok.makeN rfl rfl rfl (by omega) (by omega) | exact Ok.bs0 rfl | exact Ok.bs1 rfl (by conv => lhs; whnf) (by rfl) (by rfl) (by rfl) (by decide)) : OpOk P o A reads H new val wr := h
theorem Ok.e0 [Mode] (h : OpOk P o A reads H new val wr := by first | exact Ok.storeC rfl rfl rfl rfl rfl (by simp only [List.length_cons, List.length_nil, Nat.reduceAdd, Nat.reduceLT]) (by conv => lhs; whnf) (by rfl) (by rfl) (by simp only [AV.cells, List.take_succ_cons, List.take_zero, List.take_nil, List.drop_succ_cons, List.drop_zero, List.drop_nil, List.cons_append, List.nil_append, List.append_nil, List.map_cons, List.map_nil, List.set_cons_succ, List.set_cons_zero, Nat.reduceAdd]; exact rfl) | exact Ok.storeA rfl rfl rfl rfl rfl (by simp) (by conv => lhs; whnf) (by rfl) (by rfl) (by simp only [AV.cells, List.take_succ_cons, List.take_zero, List.take_nil, List.drop_succ_cons, List.drop_zero, List.drop_nil, List.cons_append, List.nil_append, List.append_nil, List.map_cons, List.map_nil, List.set_cons_succ, List.set_cons_zero, Nat.reduceAdd]; exact rfl)) : OpOk P o A reads H new val wr := h
theorem setE [Mode] {a b : List AV} (h : a = b := by simp only [List.set_cons_succ, List.set_cons_zero, List.take_succ_cons, List.drop_succ_cons, List.take_zero, List.drop_zero, List.take_nil, List.drop_nil, List.map_cons, List.map_nil]; exact rfl) : a = b := h
theorem nxE [Mode] {a b : Nat} (h : a = b := by first | (simp only [Nat.reduceAdd]; exact rfl) | exact rfl) : a = b := h
theorem updsE [Mode] {H : Heap} : upds H [] = H := rfl
end
end Go.Proofs.YtofakjlamoigcaaDoor
end

section
namespace Go.Proofs.YtofakjlamoigcaaDoor
set_option linter.unusedSimpArgs false
set_option linter.unusedVariables false
open Go Go.RowKit
instance : TyCell Tryd.prog 0 := ⟨by kernel_rfl, by kernel_rfl⟩
instance : TyCell Tryd.prog 1 := ⟨by kernel_rfl, by kernel_rfl⟩
instance : TyZero Tryd.prog 1 (.nilFunc) := ⟨by kernel_rfl⟩
instance : TyCell Tryd.prog 2 := ⟨by kernel_rfl, by kernel_rfl⟩
instance : TyZero Tryd.prog 2 (.int .i64 0) := ⟨by kernel_rfl⟩
instance : TyCell Tryd.prog 3 := ⟨by kernel_rfl, by kernel_rfl⟩
instance : TyZero Tryd.prog 3 (.int .i64 0) := ⟨by kernel_rfl⟩
instance : TyCell Tryd.prog 4 := ⟨by kernel_rfl, by kernel_rfl⟩
instance : TyZero Tryd.prog 4 (.bool false) := ⟨by kernel_rfl⟩
instance : TyCell Tryd.prog 5 := ⟨by kernel_rfl, by kernel_rfl⟩
instance : TyZero Tryd.prog 5 (.int .u8 0) := ⟨by kernel_rfl⟩
instance : TyCell Tryd.prog 6 := ⟨by kernel_rfl, by kernel_rfl⟩
instance : TyZero Tryd.prog 6 (.int .u8 0) := ⟨by kernel_rfl⟩
instance : TyAgg Tryd.prog 7 4 := ⟨by kernel_rfl, by kernel_rfl⟩
instance : TyZero Tryd.prog 7 (.agg #[.int .i64 0, .int .i64 0, .bool false, .int .u8 0]) := ⟨by kernel_rfl⟩
instance : TyField Tryd.prog 7 0 0 2 1 := ⟨by kernel_rfl, by kernel_rfl⟩
instance : TyField Tryd.prog 7 1 1 3 1 := ⟨by kernel_rfl, by kernel_rfl⟩
instance : TyField Tryd.prog 7 2 2 4 1 := ⟨by kernel_rfl, by kernel_rfl⟩
instance : TyField Tryd.prog 7 3 3 6 1 := ⟨by kernel_rfl, by kernel_rfl⟩
instance : TyAgg Tryd.prog 8 4 := ⟨by kernel_rfl, by kernel_rfl⟩
instance : TyZero Tryd.prog 8 (.agg #[.int .i64 0, .int .i64 0, .bool false, .int .u8 0]) := ⟨by kernel_rfl⟩
instance : TyField Tryd.prog 8 0 0 2 1 := ⟨by kernel_rfl, by kernel_rfl⟩
instance : TyField Tryd.prog 8 1 1 3 1 := ⟨by kernel_rfl, by kernel_rfl⟩
instance : TyField Tryd.prog 8 2 2 4 1 := ⟨by kernel_rfl, by kernel_rfl⟩
instance : TyField Tryd.prog 8 3 3 6 1 := ⟨by kernel_rfl, by kernel_rfl⟩
instance : TyCell Tryd.prog 9 := ⟨by kernel_rfl, by kernel_rfl⟩
instance : TyZero Tryd.prog 9 (.string ⟨#[]⟩) := ⟨by kernel_rfl⟩
instance : TyString Tryd.prog 9 := ⟨by kernel_rfl⟩
instance : TyCell Tryd.prog 10 := ⟨by kernel_rfl, by kernel_rfl⟩
instance : TyZero Tryd.prog 10 (.string ⟨#[]⟩) := ⟨by kernel_rfl⟩
instance : TyString Tryd.prog 10 := ⟨by kernel_rfl⟩
instance : TyCell Tryd.prog 11 := ⟨by kernel_rfl, by kernel_rfl⟩
instance : TyZero Tryd.prog 11 (.string ⟨#[]⟩) := ⟨by kernel_rfl⟩
instance : TyString Tryd.prog 11 := ⟨by kernel_rfl⟩
instance : TyCell Tryd.prog 12 := ⟨by kernel_rfl, by kernel_rfl⟩
instance : TyZero Tryd.prog 12 (.int .u64 0) := ⟨by kernel_rfl⟩
instance : TyAgg Tryd.prog 13 2 := ⟨by kernel_rfl, by kernel_rfl⟩
instance : TyZero Tryd.prog 13 (.agg #[.string ⟨#[]⟩, .int .u64 0]) := ⟨by kernel_rfl⟩
instance : TyField Tryd.prog 13 0 0 9 1 := ⟨by kernel_rfl, by kernel_rfl⟩
instance : TyField Tryd.prog 13 1 1 12 1 := ⟨by kernel_rfl, by kernel_rfl⟩
instance : TyAgg Tryd.prog 14 2 := ⟨by kernel_rfl, by kernel_rfl⟩
instance : TyZero Tryd.prog 14 (.agg #[.string ⟨#[]⟩, .int .u64 0]) := ⟨by kernel_rfl⟩
instance : TyField Tryd.prog 14 0 0 9 1 := ⟨by kernel_rfl, by kernel_rfl⟩
instance : TyField Tryd.prog 14 1 1 12 1 := ⟨by kernel_rfl, by kernel_rfl⟩
instance : TyCell Tryd.prog 15 := ⟨by kernel_rfl, by kernel_rfl⟩
instance : TyZero Tryd.prog 15 (.pointer none) := ⟨by kernel_rfl⟩
instance : TyCell Tryd.prog 16 := ⟨by kernel_rfl, by kernel_rfl⟩
instance : TyZero Tryd.prog 16 (.pointer none) := ⟨by kernel_rfl⟩
instance : TyCell Tryd.prog 17 := ⟨by kernel_rfl, by kernel_rfl⟩
instance : TyZero Tryd.prog 17 (.pointer none) := ⟨by kernel_rfl⟩
instance : TyAgg Tryd.prog 18 1 := ⟨by kernel_rfl, by kernel_rfl⟩
instance : TyZero Tryd.prog 18 (.agg #[.pointer none]) := ⟨by kernel_rfl⟩
instance : TyField Tryd.prog 18 0 0 17 1 := ⟨by kernel_rfl, by kernel_rfl⟩
instance : TyAgg Tryd.prog 19 1 := ⟨by kernel_rfl, by kernel_rfl⟩
instance : TyZero Tryd.prog 19 (.agg #[.pointer none]) := ⟨by kernel_rfl⟩
instance : TyField Tryd.prog 19 0 0 17 1 := ⟨by kernel_rfl, by kernel_rfl⟩
instance : TyCell Tryd.prog 20 := ⟨by kernel_rfl, by kernel_rfl⟩
instance : TyZero Tryd.prog 20 (.nilIface) := ⟨by kernel_rfl⟩
instance : TyCell Tryd.prog 21 := ⟨by kernel_rfl, by kernel_rfl⟩
instance : TyZero Tryd.prog 21 (.int .i32 0) := ⟨by kernel_rfl⟩
instance : TyCell Tryd.prog 22 := ⟨by kernel_rfl, by kernel_rfl⟩
instance : TyZero Tryd.prog 22 (.nilFunc) := ⟨by kernel_rfl⟩
instance : TyCell Tryd.prog 23 := ⟨by kernel_rfl, by kernel_rfl⟩
instance : TyZero Tryd.prog 23 (.slice none 0 0) := ⟨by kernel_rfl⟩
instance : TySlice Tryd.prog 23 5 1 1 (.int .u8 0) := ⟨by kernel_rfl, by kernel_rfl, by kernel_rfl⟩
instance : TyCell Tryd.prog 24 := ⟨by kernel_rfl, by kernel_rfl⟩
instance : TyZero Tryd.prog 24 (.nilFunc) := ⟨by kernel_rfl⟩
instance : TyCell Tryd.prog 25 := ⟨by kernel_rfl, by kernel_rfl⟩
instance : TyZero Tryd.prog 25 (.slice none 0 0) := ⟨by kernel_rfl⟩
instance : TySlice Tryd.prog 25 29 4 32 (.agg #[.int .i64 0, .int .i64 0, .int .i64 0, .int .i64 0]) := ⟨by kernel_rfl, by kernel_rfl, by kernel_rfl⟩
instance : TyAgg Tryd.prog 26 2 := ⟨by kernel_rfl, by kernel_rfl⟩
instance : TyZero Tryd.prog 26 (.agg #[.int .i64 0, .slice none 0 0]) := ⟨by kernel_rfl⟩
instance : TyField Tryd.prog 26 0 0 2 1 := ⟨by kernel_rfl, by kernel_rfl⟩
instance : TyField Tryd.prog 26 1 1 25 1 := ⟨by kernel_rfl, by kernel_rfl⟩
instance : TyAgg Tryd.prog 27 2 := ⟨by kernel_rfl, by kernel_rfl⟩
instance : TyZero Tryd.prog 27 (.agg #[.int .i64 0, .slice none 0 0]) := ⟨by kernel_rfl⟩
instance : TyField Tryd.prog 27 0 0 2 1 := ⟨by kernel_rfl, by kernel_rfl⟩
instance : TyField Tryd.prog 27 1 1 25 1 := ⟨by kernel_rfl, by kernel_rfl⟩
instance : TyAgg Tryd.prog 28 4 := ⟨by kernel_rfl, by kernel_rfl⟩
instance : TyZero Tryd.prog 28 (.agg #[.int .i64 0, .int .i64 0, .int .i64 0, .int .i64 0]) := ⟨by kernel_rfl⟩
instance : TyField Tryd.prog 28 0 0 2 1 := ⟨by kernel_rfl, by kernel_rfl⟩
instance : TyField Tryd.prog 28 1 1 2 1 := ⟨by kernel_rfl, by kernel_rfl⟩
instance : TyField Tryd.prog 28 2 2 2 1 := ⟨by kernel_rfl, by kernel_rfl⟩
instance : TyField Tryd.prog 28 3 3 2 1 := ⟨by kernel_rfl, by kernel_rfl⟩
instance : TyAgg Tryd.prog 29 4 := ⟨by kernel_rfl, by kernel_rfl⟩
instance : TyZero Tryd.prog 29 (.agg #[.int .i64 0, .int .i64 0, .int .i64 0, .int .i64 0]) := ⟨by kernel_rfl⟩
instance : TyField Tryd.prog 29 0 0 2 1 := ⟨by kernel_rfl, by kernel_rfl⟩
instance : TyField Tryd.prog 29 1 1 2 1 := ⟨by kernel_rfl, by kernel_rfl⟩
instance : TyField Tryd.prog 29 2 2 2 1 := ⟨by kernel_rfl, by kernel_rfl⟩
instance : TyField Tryd.prog 29 3 3 2 1 := ⟨by kernel_rfl, by kernel_rfl⟩
instance : TyAgg Tryd.prog 30 6 := ⟨by kernel_rfl, by kernel_rfl⟩
instance : TyZero Tryd.prog 30 (.agg #[.int .i64 0, .int .i64 0, .int .i64 0, .int .i64 0, .int .i64 0, .int .i64 0]) := ⟨by kernel_rfl⟩
instance : TyField Tryd.prog 30 0 0 2 1 := ⟨by kernel_rfl, by kernel_rfl⟩
instance : TyField Tryd.prog 30 1 1 2 1 := ⟨by kernel_rfl, by kernel_rfl⟩
instance : TyField Tryd.prog 30 2 2 29 4 := ⟨by kernel_rfl, by kernel_rfl⟩
instance : TyAgg Tryd.prog 31 6 := ⟨by kernel_rfl, by kernel_rfl⟩
instance : TyZero Tryd.prog 31 (.agg #[.int .i64 0, .int .i64 0, .int .i64 0, .int .i64 0, .int .i64 0, .int .i64 0]) := ⟨by kernel_rfl⟩
instance : TyField Tryd.prog 31 0 0 2 1 := ⟨by kernel_rfl, by kernel_rfl⟩
instance : TyField Tryd.prog 31 1 1 2 1 := ⟨by kernel_rfl, by kernel_rfl⟩
instance : TyField Tryd.prog 31 2 2 29 4 := ⟨by kernel_rfl, by kernel_rfl⟩
instance : TyCell Tryd.prog 32 := ⟨by kernel_rfl, by kernel_rfl⟩
instance : TyCell Tryd.prog 33 := ⟨by kernel_rfl, by kernel_rfl⟩
instance : TyZero Tryd.prog 33 (.nilFunc) := ⟨by kernel_rfl⟩
instance : TyCell Tryd.prog 34 := ⟨by kernel_rfl, by kernel_rfl⟩
instance : TyCell Tryd.prog 35 := ⟨by kernel_rfl, by kernel_rfl⟩
instance : TyZero Tryd.prog 35 (.nilFunc) := ⟨by kernel_rfl⟩
instance : TyCell Tryd.prog 36 := ⟨by kernel_rfl, by kernel_rfl⟩
instance : TyCell Tryd.prog 37 := ⟨by kernel_rfl, by kernel_rfl⟩
instance : TyZero Tryd.prog 37 (.nilFunc) := ⟨by kernel_rfl⟩
instance : TyCell Tryd.prog 38 := ⟨by kernel_rfl, by kernel_rfl⟩
instance : TyZero Tryd.prog 38 (.nilFunc) := ⟨by kernel_rfl⟩
instance : TyCell Tryd.prog 39 := ⟨by kernel_rfl, by kernel_rfl⟩
instance : TyZero Tryd.prog 39 (.nilFunc) := ⟨by kernel_rfl⟩
instance : TyCell Tryd.prog 40 := ⟨by kernel_rfl, by kernel_rfl⟩
instance : TyCell Tryd.prog 41 := ⟨by kernel_rfl, by kernel_rfl⟩
instance : TyZero Tryd.prog 41 (.nilFunc) := ⟨by kernel_rfl⟩
instance : TyCell Tryd.prog 42 := ⟨by kernel_rfl, by kernel_rfl⟩
instance : TyZero Tryd.prog 42 (.nilFunc) := ⟨by kernel_rfl⟩
instance : TyCell Tryd.prog 43 := ⟨by kernel_rfl, by kernel_rfl⟩
instance : TyZero Tryd.prog 43 (.nilFunc) := ⟨by kernel_rfl⟩
instance : TyCell Tryd.prog 44 := ⟨by kernel_rfl, by kernel_rfl⟩
instance : TyZero Tryd.prog 44 (.nilFunc) := ⟨by kernel_rfl⟩
instance : TyCell Tryd.prog 45 := ⟨by kernel_rfl, by kernel_rfl⟩
instance : TyZero Tryd.prog 45 (.nilFunc) := ⟨by kernel_rfl⟩
instance : TyCell Tryd.prog 46 := ⟨by kernel_rfl, by kernel_rfl⟩
instance : TyZero Tryd.prog 46 (.slice none 0 0) := ⟨by kernel_rfl⟩
instance : TySlice Tryd.prog 46 2 1 8 (.int .i64 0) := ⟨by kernel_rfl, by kernel_rfl, by kernel_rfl⟩
instance : TyCell Tryd.prog 47 := ⟨by kernel_rfl, by kernel_rfl⟩
instance : TyCell Tryd.prog 48 := ⟨by kernel_rfl, by kernel_rfl⟩
instance : TyZero Tryd.prog 48 (.nilFunc) := ⟨by kernel_rfl⟩
instance : TyCell Tryd.prog 49 := ⟨by kernel_rfl, by kernel_rfl⟩
instance : TyCell Tryd.prog 50 := ⟨by kernel_rfl, by kernel_rfl⟩
instance : TyZero Tryd.prog 50 (.nilFunc) := ⟨by kernel_rfl⟩
instance : TyCell Tryd.prog 51 := ⟨by kernel_rfl, by kernel_rfl⟩
instance : TyZero Tryd.prog 51 (.nilFunc) := ⟨by kernel_rfl⟩
instance : TyCell Tryd.prog 52 := ⟨by kernel_rfl, by kernel_rfl⟩
instance : TyZero Tryd.prog 52 (.nilFunc) := ⟨by kernel_rfl⟩
instance : TyCell Tryd.prog 53 := ⟨by kernel_rfl, by kernel_rfl⟩
instance : TyZero Tryd.prog 53 (.nilFunc) := ⟨by kernel_rfl⟩
instance : TyCell Tryd.prog 54 := ⟨by kernel_rfl, by kernel_rfl⟩
instance : TyZero Tryd.prog 54 (.pointer none) := ⟨by kernel_rfl⟩
instance : TyCell Tryd.prog 55 := ⟨by kernel_rfl, by kernel_rfl⟩
instance : TyZero Tryd.prog 55 (.nilFunc) := ⟨by kernel_rfl⟩
instance : TyCell Tryd.prog 56 := ⟨by kernel_rfl, by kernel_rfl⟩
instance : TyZero Tryd.prog 56 (.nilFunc) := ⟨by kernel_rfl⟩
instance : TyCell Tryd.prog 57 := ⟨by kernel_rfl, by kernel_rfl⟩
instance : TyZero Tryd.prog 57 (.nilFunc) := ⟨by kernel_rfl⟩
instance : TyCell Tryd.prog 58 := ⟨by kernel_rfl, by kernel_rfl⟩
instance : TyZero Tryd.prog 58 (.nilFunc) := ⟨by kernel_rfl⟩
instance : TyCell Tryd.prog 59 := ⟨by kernel_rfl, by kernel_rfl⟩
instance : TyZero Tryd.prog 59 (.nilFunc) := ⟨by kernel_rfl⟩
instance : TyCell Tryd.prog 60 := ⟨by kernel_rfl, by kernel_rfl⟩
instance : TyZero Tryd.prog 60 (.nilFunc) := ⟨by kernel_rfl⟩
instance : TyCell Tryd.prog 61 := ⟨by kernel_rfl, by kernel_rfl⟩
instance : TyCell Tryd.prog 62 := ⟨by kernel_rfl, by kernel_rfl⟩
instance : TyZero Tryd.prog 62 (.nilFunc) := ⟨by kernel_rfl⟩
instance : TyCell Tryd.prog 63 := ⟨by kernel_rfl, by kernel_rfl⟩
instance : TyCell Tryd.prog 64 := ⟨by kernel_rfl, by kernel_rfl⟩
instance : TyZero Tryd.prog 64 (.nilFunc) := ⟨by kernel_rfl⟩
instance : TyCell Tryd.prog 65 := ⟨by kernel_rfl, by kernel_rfl⟩
instance : TyCell Tryd.prog 66 := ⟨by kernel_rfl, by kernel_rfl⟩
instance : TyZero Tryd.prog 66 (.nilFunc) := ⟨by kernel_rfl⟩
instance : TyCell Tryd.prog 67 := ⟨by kernel_rfl, by kernel_rfl⟩
instance : TyZero Tryd.prog 67 (.nilFunc) := ⟨by kernel_rfl⟩
instance : TyCell Tryd.prog 68 := ⟨by kernel_rfl, by kernel_rfl⟩
instance : TyZero Tryd.prog 68 (.nilFunc) := ⟨by kernel_rfl⟩
instance : TyCell Tryd.prog 69 := ⟨by kernel_rfl, by kernel_rfl⟩
instance : TyZero Tryd.prog 69 (.slice none 0 0) := ⟨by kernel_rfl⟩
instance : TySlice Tryd.prog 69 9 1 16 (.string ⟨#[]⟩) := ⟨by kernel_rfl, by kernel_rfl, by kernel_rfl⟩
instance : TyCell Tryd.prog 70 := ⟨by kernel_rfl, by kernel_rfl⟩
instance : TyZero Tryd.prog 70 (.nilFunc) := ⟨by kernel_rfl⟩
instance : TyCell Tryd.prog 71 := ⟨by kernel_rfl, by kernel_rfl⟩
instance : TyZero Tryd.prog 71 (.nilFunc) := ⟨by kernel_rfl⟩
instance : TyCell Tryd.prog 72 := ⟨by kernel_rfl, by kernel_rfl⟩
instance : TyZero Tryd.prog 72 (.nilFunc) := ⟨by kernel_rfl⟩
instance : TyCell Tryd.prog 73 := ⟨by kernel_rfl, by kernel_rfl⟩
instance : TyZero Tryd.prog 73 (.nilFunc) := ⟨by kernel_rfl⟩
instance : TyCell Tryd.prog 74 := ⟨by kernel_rfl, by kernel_rfl⟩
instance : TyZero Tryd.prog 74 (.nilFunc) := ⟨by kernel_rfl⟩
instance : TyCell Tryd.prog 75 := ⟨by kernel_rfl, by kernel_rfl⟩
instance : TyZero Tryd.prog 75 (.nilFunc) := ⟨by kernel_rfl⟩
instance : TyCell Tryd.prog 76 := ⟨by kernel_rfl, by kernel_rfl⟩
instance : TyCell Tryd.prog 77 := ⟨by kernel_rfl, by kernel_rfl⟩
instance : TyZero Tryd.prog 77 (.nilFunc) := ⟨by kernel_rfl⟩
instance : TyCell Tryd.prog 78 := ⟨by kernel_rfl, by kernel_rfl⟩
instance : TyZero Tryd.prog 78 (.nilFunc) := ⟨by kernel_rfl⟩
instance : TyCell Tryd.prog 79 := ⟨by kernel_rfl, by kernel_rfl⟩
instance : TyZero Tryd.prog 79 (.nilFunc) := ⟨by kernel_rfl⟩
instance : TyCell Tryd.prog 80 := ⟨by kernel_rfl, by kernel_rfl⟩
instance : TyZero Tryd.prog 80 (.nilFunc) := ⟨by kernel_rfl⟩
instance : TyCell Tryd.prog 81 := ⟨by kernel_rfl, by kernel_rfl⟩
instance : TyZero Tryd.prog 81 (.nilFunc) := ⟨by kernel_rfl⟩
instance : TyCell Tryd.prog 82 := ⟨by kernel_rfl, by kernel_rfl⟩
instance : TyZero Tryd.prog 82 (.nilFunc) := ⟨by kernel_rfl⟩
instance : TyCell Tryd.prog 83 := ⟨by kernel_rfl, by kernel_rfl⟩
instance : TyZero Tryd.prog 83 (.nilFunc) := ⟨by kernel_rfl⟩
instance : TyAgg Tryd.prog 84 3 := ⟨by kernel_rfl, by kernel_rfl⟩
instance : TyZero Tryd.prog 84 (.agg #[.slice none 0 0, .int .i64 0, .int .i64 0]) := ⟨by kernel_rfl⟩
instance : TyField Tryd.prog 84 0 0 23 1 := ⟨by kernel_rfl, by kernel_rfl⟩
instance : TyField Tryd.prog 84 1 1 3 1 := ⟨by kernel_rfl, by kernel_rfl⟩
instance : TyField Tryd.prog 84 2 2 2 1 := ⟨by kernel_rfl, by kernel_rfl⟩
instance : TyAgg Tryd.prog 85 3 := ⟨by kernel_rfl, by kernel_rfl⟩
instance : TyZero Tryd.prog 85 (.agg #[.slice none 0 0, .int .i64 0, .int .i64 0]) := ⟨by kernel_rfl⟩
instance : TyField Tryd.prog 85 0 0 23 1 := ⟨by kernel_rfl, by kernel_rfl⟩
instance : TyField Tryd.prog 85 1 1 3 1 := ⟨by kernel_rfl, by kernel_rfl⟩
instance : TyField Tryd.prog 85 2 2 2 1 := ⟨by kernel_rfl, by kernel_rfl⟩
instance : TyCell Tryd.prog 86 := ⟨by kernel_rfl, by kernel_rfl⟩
instance : TyZero Tryd.prog 86 (.nilFunc) := ⟨by kernel_rfl⟩
instance : TyCell Tryd.prog 87 := ⟨by kernel_rfl, by kernel_rfl⟩
instance : TyZero Tryd.prog 87 (.nilFunc) := ⟨by kernel_rfl⟩
instance : TyCell Tryd.prog 88 := ⟨by kernel_rfl, by kernel_rfl⟩
instance : TyZero Tryd.prog 88 (.nilIface) := ⟨by kernel_rfl⟩
instance : TyCell Tryd.prog 89 := ⟨by kernel_rfl, by kernel_rfl⟩
instance : TyZero Tryd.prog 89 (.nilIface) := ⟨by kernel_rfl⟩
instance : TyCell Tryd.prog 90 := ⟨by kernel_rfl, by kernel_rfl⟩
instance : TyCell Tryd.prog 91 := ⟨by kernel_rfl, by kernel_rfl⟩
instance : TyZero Tryd.prog 91 (.nilFunc) := ⟨by kernel_rfl⟩
instance : TyAgg Tryd.prog 92 4 := ⟨by kernel_rfl, by kernel_rfl⟩
instance : TyZero Tryd.prog 92 (.agg #[.int .i64 0, .int .i64 0, .int .i64 0, .int .i64 0]) := ⟨by kernel_rfl⟩
instance : TyAgg Tryd.prog 93 4 := ⟨by kernel_rfl, by kernel_rfl⟩
instance : TyZero Tryd.prog 93 (.agg #[.string ⟨#[]⟩, .string ⟨#[]⟩, .string ⟨#[]⟩, .string ⟨#[]⟩]) := ⟨by kernel_rfl⟩
instance : TyCell Tryd.prog 94 := ⟨by kernel_rfl, by kernel_rfl⟩
instance : TyZero Tryd.prog 94 (.nilFunc) := ⟨by kernel_rfl⟩
instance : TyCell Tryd.prog 95 := ⟨by kernel_rfl, by kernel_rfl⟩
instance : TyZero Tryd.prog 95 (.nilFunc) := ⟨by kernel_rfl⟩
instance : TyCell Tryd.prog 96 := ⟨by kernel_rfl, by kernel_rfl⟩
instance : TyZero Tryd.prog 96 (.nilFunc) := ⟨by kernel_rfl⟩
instance : TyCell Tryd.prog 97 := ⟨by kernel_rfl, by kernel_rfl⟩
instance : TyZero Tryd.prog 97 (.nilFunc) := ⟨by kernel_rfl⟩
instance : TyCell Tryd.prog 98 := ⟨by kernel_rfl, by kernel_rfl⟩
instance : TyZero Tryd.prog 98 (.nilFunc) := ⟨by kernel_rfl⟩
instance : TyCell Tryd.prog 99 := ⟨by kernel_rfl, by kernel_rfl⟩
instance : TyZero Tryd.prog 99 (.nilFunc) := ⟨by kernel_rfl⟩
instance : TyCell Tryd.prog 100 := ⟨by kernel_rfl, by kernel_rfl⟩
instance : TyZero Tryd.prog 100 (.nilFunc) := ⟨by kernel_rfl⟩
instance : TyCell Tryd.prog 101 := ⟨by kernel_rfl, by kernel_rfl⟩
instance : TyZero Tryd.prog 101 (.nilFunc) := ⟨by kernel_rfl⟩
instance : TyCell Tryd.prog 102 := ⟨by kernel_rfl, by kernel_rfl⟩
instance : TyZero Tryd.prog 102 (.nilFunc) := ⟨by kernel_rfl⟩
instance : TyCell Tryd.prog 103 := ⟨by kernel_rfl, by kernel_rfl⟩
instance : TyZero Tryd.prog 103 (.nilFunc) := ⟨by kernel_rfl⟩
instance : TyCell Tryd.prog 104 := ⟨by kernel_rfl, by kernel_rfl⟩
instance : TyZero Tryd.prog 104 (.nilFunc) := ⟨by kernel_rfl⟩
instance : TyAgg Tryd.prog 105 24 := ⟨by kernel_rfl, by kernel_rfl⟩
instance : TyZero Tryd.prog 105 (.agg #[.int .u8 0, .int .u8 0, .int .u8 0, .int .u8 0, .int .u8 0, .int .u8 0, .int .u8 0, .int .u8 0, .int .u8 0, .int .u8 0, .int .u8 0, .int .u8 0, .int .u8 0, .int .u8 0, .int .u8 0, .int .u8 0, .int .u8 0, .int .u8 0, .int .u8 0, .int .u8 0, .int .u8 0, .int .u8 0, .int .u8 0, .int .u8 0]) := ⟨by kernel_rfl⟩
instance : TyCell Tryd.prog 106 := ⟨by kernel_rfl, by kernel_rfl⟩
instance : TyZero Tryd.prog 106 (.int .u64 0) := ⟨by kernel_rfl⟩
instance : TyCell Tryd.prog 107 := ⟨by kernel_rfl, by kernel_rfl⟩
instance : TyZero Tryd.prog 107 (.nilFunc) := ⟨by kernel_rfl⟩
instance : TyCell Tryd.prog 108 := ⟨by kernel_rfl, by kernel_rfl⟩
instance : TyZero Tryd.prog 108 (.nilFunc) := ⟨by kernel_rfl⟩
instance : TyCell Tryd.prog 109 := ⟨by kernel_rfl, by kernel_rfl⟩
instance : TyCell Tryd.prog 110 := ⟨by kernel_rfl, by kernel_rfl⟩
instance : TyZero Tryd.prog 110 (.nilFunc) := ⟨by kernel_rfl⟩
instance : TyCell Tryd.prog 111 := ⟨by kernel_rfl, by kernel_rfl⟩
instance : TyZero Tryd.prog 111 (.nilFunc) := ⟨by kernel_rfl⟩
instance : TyCell Tryd.prog 112 := ⟨by kernel_rfl, by kernel_rfl⟩
instance : TyZero Tryd.prog 112 (.nilFunc) := ⟨by kernel_rfl⟩
instance : TyCell Tryd.prog 113 := ⟨by kernel_rfl, by kernel_rfl⟩
instance : TyZero Tryd.prog 113 (.int .u64 0) := ⟨by kernel_rfl⟩
instance : TyCell Tryd.prog 114 := ⟨by kernel_rfl, by kernel_rfl⟩
instance : TyZero Tryd.prog 114 (.int .i64 0) := ⟨by kernel_rfl⟩
instance : TyCell Tryd.prog 115 := ⟨by kernel_rfl, by kernel_rfl⟩
instance : TyCell Tryd.prog 116 := ⟨by kernel_rfl, by kernel_rfl⟩
instance : TyZero Tryd.prog 116 (.nilFunc) := ⟨by kernel_rfl⟩
instance : TyCell Tryd.prog 117 := ⟨by kernel_rfl, by kernel_rfl⟩
instance : TyZero Tryd.prog 117 (.pointer none) := ⟨by kernel_rfl⟩
instance : TyCell Tryd.prog 118 := ⟨by kernel_rfl, by kernel_rfl⟩
instance : TyZero Tryd.prog 118 (.nilFunc) := ⟨by kernel_rfl⟩
instance : TyCell Tryd.prog 119 := ⟨by kernel_rfl, by kernel_rfl⟩
instance : TyZero Tryd.prog 119 (.nilFunc) := ⟨by kernel_rfl⟩
instance : TyCell Tryd.prog 120 := ⟨by kernel_rfl, by kernel_rfl⟩
instance : TyCell Tryd.prog 121 := ⟨by kernel_rfl, by kernel_rfl⟩
instance : TyZero Tryd.prog 121 (.nilFunc) := ⟨by kernel_rfl⟩
instance : TyCell Tryd.prog 122 := ⟨by kernel_rfl, by kernel_rfl⟩
instance : TyZero Tryd.prog 122 (.nilFunc) := ⟨by kernel_rfl⟩
instance : TyCell Tryd.prog 123 := ⟨by kernel_rfl, by kernel_rfl⟩
instance : TyZero Tryd.prog 123 (.nilFunc) := ⟨by kernel_rfl⟩
instance : TyAgg Tryd.prog 124 20 := ⟨by kernel_rfl, by kernel_rfl⟩
instance : TyZero Tryd.prog 124 (.agg #[.int .u64 0, .int .u64 0, .int .u64 0, .int .u64 0, .int .u64 0, .int .u64 0, .int .u64 0, .int .u64 0, .int .u64 0, .int .u64 0, .int .u64 0, .int .u64 0, .int .u64 0, .int .u64 0, .int .u64 0, .int .u64 0, .int .u64 0, .int .u64 0, .int .u64 0, .int .u64 0]) := ⟨by kernel_rfl⟩
instance : TyCell Tryd.prog 125 := ⟨by kernel_rfl, by kernel_rfl⟩
instance : TyZero Tryd.prog 125 (.int .u32 0) := ⟨by kernel_rfl⟩
instance : TyAgg Tryd.prog 126 65 := ⟨by kernel_rfl, by kernel_rfl⟩
instance : TyCell Tryd.prog 127 := ⟨by kernel_rfl, by kernel_rfl⟩
instance : TyZero Tryd.prog 127 (.nilFunc) := ⟨by kernel_rfl⟩
instance : TyCell Tryd.prog 128 := ⟨by kernel_rfl, by kernel_rfl⟩
instance : TyZero Tryd.prog 128 (.nilFunc) := ⟨by kernel_rfl⟩
instance : TyCell Tryd.prog 129 := ⟨by kernel_rfl, by kernel_rfl⟩
instance : TyCell Tryd.prog 130 := ⟨by kernel_rfl, by kernel_rfl⟩
instance : TyZero Tryd.prog 130 (.nilFunc) := ⟨by kernel_rfl⟩
instance : TyCell Tryd.prog 131 := ⟨by kernel_rfl, by kernel_rfl⟩
instance : TyZero Tryd.prog 131 (.nilFunc) := ⟨by kernel_rfl⟩
instance : TyCell Tryd.prog 132 := ⟨by kernel_rfl, by kernel_rfl⟩
instance : TyZero Tryd.prog 132 (.nilFunc) := ⟨by kernel_rfl⟩
instance : TyAgg Tryd.prog 133 3 := ⟨by kernel_rfl, by kernel_rfl⟩
instance : TyZero Tryd.prog 133 (.agg #[.string ⟨#[]⟩, .string ⟨#[]⟩, .nilIface]) := ⟨by kernel_rfl⟩
instance : TyField Tryd.prog 133 0 0 9 1 := ⟨by kernel_rfl, by kernel_rfl⟩
instance : TyField Tryd.prog 133 1 1 9 1 := ⟨by kernel_rfl, by kernel_rfl⟩
instance : TyField Tryd.prog 133 2 2 89 1 := ⟨by kernel_rfl, by kernel_rfl⟩
instance : TyAgg Tryd.prog 134 3 := ⟨by kernel_rfl, by kernel_rfl⟩
instance : TyZero Tryd.prog 134 (.agg #[.string ⟨#[]⟩, .string ⟨#[]⟩, .nilIface]) := ⟨by kernel_rfl⟩
instance : TyField Tryd.prog 134 0 0 9 1 := ⟨by kernel_rfl, by kernel_rfl⟩
instance : TyField Tryd.prog 134 1 1 9 1 := ⟨by kernel_rfl, by kernel_rfl⟩
instance : TyField Tryd.prog 134 2 2 89 1 := ⟨by kernel_rfl, by kernel_rfl⟩
instance : TyCell Tryd.prog 135 := ⟨by kernel_rfl, by kernel_rfl⟩
instance : TyZero Tryd.prog 135 (.nilFunc) := ⟨by kernel_rfl⟩
instance : TyCell Tryd.prog 136 := ⟨by kernel_rfl, by kernel_rfl⟩
instance : TyZero Tryd.prog 136 (.nilFunc) := ⟨by kernel_rfl⟩
instance : TyCell Tryd.prog 137 := ⟨by kernel_rfl, by kernel_rfl⟩
instance : TyZero Tryd.prog 137 (.pointer none) := ⟨by kernel_rfl⟩
instance : TyCell Tryd.prog 138 := ⟨by kernel_rfl, by kernel_rfl⟩
instance : TyZero Tryd.prog 138 (.pointer none) := ⟨by kernel_rfl⟩
instance : TyAgg Tryd.prog 139 1 := ⟨by kernel_rfl, by kernel_rfl⟩
instance : TyZero Tryd.prog 139 (.agg #[.string ⟨#[]⟩]) := ⟨by kernel_rfl⟩
instance : TyField Tryd.prog 139 0 0 9 1 := ⟨by kernel_rfl, by kernel_rfl⟩
instance : TyAgg Tryd.prog 140 1 := ⟨by kernel_rfl, by kernel_rfl⟩
instance : TyZero Tryd.prog 140 (.agg #[.string ⟨#[]⟩]) := ⟨by kernel_rfl⟩
instance : TyField Tryd.prog 140 0 0 9 1 := ⟨by kernel_rfl, by kernel_rfl⟩
instance : TyAgg Tryd.prog 141 256 := ⟨by kernel_rfl, by kernel_rfl⟩
instance : TyAgg Tryd.prog 142 2 := ⟨by kernel_rfl, by kernel_rfl⟩
instance : TyZero Tryd.prog 142 (.agg #[.int .u8 0, .int .u8 0]) := ⟨by kernel_rfl⟩
instance : TyField Tryd.prog 142 0 0 5 1 := ⟨by kernel_rfl, by kernel_rfl⟩
instance : TyField Tryd.prog 142 1 1 5 1 := ⟨by kernel_rfl, by kernel_rfl⟩
instance : TyAgg Tryd.prog 143 2 := ⟨by kernel_rfl, by kernel_rfl⟩
instance : TyZero Tryd.prog 143 (.agg #[.int .u8 0, .int .u8 0]) := ⟨by kernel_rfl⟩
instance : TyField Tryd.prog 143 0 0 5 1 := ⟨by kernel_rfl, by kernel_rfl⟩
instance : TyField Tryd.prog 143 1 1 5 1 := ⟨by kernel_rfl, by kernel_rfl⟩
instance : TyAgg Tryd.prog 144 32 := ⟨by kernel_rfl, by kernel_rfl⟩
instance : TyZero Tryd.prog 144 (.agg #[.int .u8 0, .int .u8 0, .int .u8 0, .int .u8 0, .int .u8 0, .int .u8 0, .int .u8 0, .int .u8 0, .int .u8 0, .int .u8 0, .int .u8 0, .int .u8 0, .int .u8 0, .int .u8 0, .int .u8 0, .int .u8 0, .int .u8 0, .int .u8 0, .int .u8 0, .int .u8 0, .int .u8 0, .int .u8 0, .int .u8 0, .int .u8 0, .int .u8 0, .int .u8 0, .int .u8 0, .int .u8 0, .int .u8 0, .int .u8 0, .int .u8 0, .int .u8 0]) := ⟨by kernel_rfl⟩
instance : TyAgg Tryd.prog 145 32 := ⟨by kernel_rfl, by kernel_rfl⟩
instance : TyZero Tryd.prog 145 (.agg #[.int .u8 0, .int .u8 0, .int .u8 0, .int .u8 0, .int .u8 0, .int .u8 0, .int .u8 0, .int .u8 0, .int .u8 0, .int .u8 0, .int .u8 0, .int .u8 0, .int .u8 0, .int .u8 0, .int .u8 0, .int .u8 0, .int .u8 0, .int .u8 0, .int .u8 0, .int .u8 0, .int .u8 0, .int .u8 0, .int .u8 0, .int .u8 0, .int .u8 0, .int .u8 0, .int .u8 0, .int .u8 0, .int .u8 0, .int .u8 0, .int .u8 0, .int .u8 0]) := ⟨by kernel_rfl⟩
instance : TyAgg Tryd.prog 146 64 := ⟨by kernel_rfl, by kernel_rfl⟩
instance : TyCell Tryd.prog 147 := ⟨by kernel_rfl, by kernel_rfl⟩
instance : TyZero Tryd.prog 147 (.nilFunc) := ⟨by kernel_rfl⟩
instance : TyAgg Tryd.prog 148 4 := ⟨by kernel_rfl, by kernel_rfl⟩
instance : TyZero Tryd.prog 148 (.agg #[.pointer none, .pointer none, .pointer none, .string ⟨#[]⟩]) := ⟨by kernel_rfl⟩
instance : TyField Tryd.prog 148 0 0 17 1 := ⟨by kernel_rfl, by kernel_rfl⟩
instance : TyField Tryd.prog 148 1 1 17 1 := ⟨by kernel_rfl, by kernel_rfl⟩
instance : TyField Tryd.prog 148 2 2 17 1 := ⟨by kernel_rfl, by kernel_rfl⟩
instance : TyField Tryd.prog 148 3 3 9 1 := ⟨by kernel_rfl, by kernel_rfl⟩
instance : TyAgg Tryd.prog 149 4 := ⟨by kernel_rfl, by kernel_rfl⟩
instance : TyZero Tryd.prog 149 (.agg #[.pointer none, .pointer none, .pointer none, .string ⟨#[]⟩]) := ⟨by kernel_rfl⟩
instance : TyField Tryd.prog 149 0 0 17 1 := ⟨by kernel_rfl, by kernel_rfl⟩
instance : TyField Tryd.prog 149 1 1 17 1 := ⟨by kernel_rfl, by kernel_rfl⟩
instance : TyField Tryd.prog 149 2 2 17 1 := ⟨by kernel_rfl, by kernel_rfl⟩
instance : TyField Tryd.prog 149 3 3 9 1 := ⟨by kernel_rfl, by kernel_rfl⟩
instance : TyAgg Tryd.prog 150 0 := ⟨by kernel_rfl, by kernel_rfl⟩
instance : TyZero Tryd.prog 150 (.agg #[]) := ⟨by kernel_rfl⟩
instance : TyAgg Tryd.prog 151 0 := ⟨by kernel_rfl, by kernel_rfl⟩
instance : TyZero Tryd.prog 151 (.agg #[]) := ⟨by kernel_rfl⟩
instance : TyField Tryd.prog 151 0 0 150 0 := ⟨by kernel_rfl, by kernel_rfl⟩
instance : TyAgg Tryd.prog 152 0 := ⟨by kernel_rfl, by kernel_rfl⟩
instance : TyZero Tryd.prog 152 (.agg #[]) := ⟨by kernel_rfl⟩
instance : TyField Tryd.prog 152 0 0 150 0 := ⟨by kernel_rfl, by kernel_rfl⟩
instance : TyCell Tryd.prog 153 := ⟨by kernel_rfl, by kernel_rfl⟩
instance : TyZero Tryd.prog 153 (.nilFunc) := ⟨by kernel_rfl⟩
instance : TyCell Tryd.prog 154 := ⟨by kernel_rfl, by kernel_rfl⟩
instance : TyZero Tryd.prog 154 (.int .u8 0) := ⟨by kernel_rfl⟩
instance : TyCell Tryd.prog 155 := ⟨by kernel_rfl, by kernel_rfl⟩
instance : TyZero Tryd.prog 155 (.int .u8 0) := ⟨by kernel_rfl⟩
instance : TyCell Tryd.prog 156 := ⟨by kernel_rfl, by kernel_rfl⟩
instance : TyZero Tryd.prog 156 (.nilFunc) := ⟨by kernel_rfl⟩
instance : TyCell Tryd.prog 157 := ⟨by kernel_rfl, by kernel_rfl⟩
instance : TyZero Tryd.prog 157 (.int .i32 0) := ⟨by kernel_rfl⟩
instance : TyCell Tryd.prog 158 := ⟨by kernel_rfl, by kernel_rfl⟩
instance : TyZero Tryd.prog 158 (.int .i32 0) := ⟨by kernel_rfl⟩
instance : TyAgg Tryd.prog 159 11 := ⟨by kernel_rfl, by kernel_rfl⟩
instance : TyZero Tryd.prog 159 (.agg #[.int .u64 0, .int .u64 0, .int .u32 0, .int .u8 0, .int .u8 0, .int .u8 0, .int .u8 0, .nilFunc, .pointer none, .int .i32 0, .int .i32 0]) := ⟨by kernel_rfl⟩
instance : TyField Tryd.prog 159 0 0 12 1 := ⟨by kernel_rfl, by kernel_rfl⟩
instance : TyField Tryd.prog 159 1 1 12 1 := ⟨by kernel_rfl, by kernel_rfl⟩
instance : TyField Tryd.prog 159 2 2 125 1 := ⟨by kernel_rfl, by kernel_rfl⟩
instance : TyField Tryd.prog 159 3 3 154 1 := ⟨by kernel_rfl, by kernel_rfl⟩
instance : TyField Tryd.prog 159 4 4 5 1 := ⟨by kernel_rfl, by kernel_rfl⟩
instance : TyField Tryd.prog 159 5 5 5 1 := ⟨by kernel_rfl, by kernel_rfl⟩
instance : TyField Tryd.prog 159 6 6 155 1 := ⟨by kernel_rfl, by kernel_rfl⟩
instance : TyField Tryd.prog 159 7 7 156 1 := ⟨by kernel_rfl, by kernel_rfl⟩
instance : TyField Tryd.prog 159 8 8 137 1 := ⟨by kernel_rfl, by kernel_rfl⟩
instance : TyField Tryd.prog 159 9 9 157 1 := ⟨by kernel_rfl, by kernel_rfl⟩
instance : TyField Tryd.prog 159 10 10 158 1 := ⟨by kernel_rfl, by kernel_rfl⟩
instance : TyAgg Tryd.prog 160 11 := ⟨by kernel_rfl, by kernel_rfl⟩
instance : TyZero Tryd.prog 160 (.agg #[.int .u64 0, .int .u64 0, .int .u32 0, .int .u8 0, .int .u8 0, .int .u8 0, .int .u8 0, .nilFunc, .pointer none, .int .i32 0, .int .i32 0]) := ⟨by kernel_rfl⟩
instance : TyField Tryd.prog 160 0 0 12 1 := ⟨by kernel_rfl, by kernel_rfl⟩
instance : TyField Tryd.prog 160 1 1 12 1 := ⟨by kernel_rfl, by kernel_rfl⟩
instance : TyField Tryd.prog 160 2 2 125 1 := ⟨by kernel_rfl, by kernel_rfl⟩
instance : TyField Tryd.prog 160 3 3 154 1 := ⟨by kernel_rfl, by kernel_rfl⟩
instance : TyField Tryd.prog 160 4 4 5 1 := ⟨by kernel_rfl, by kernel_rfl⟩
instance : TyField Tryd.prog 160 5 5 5 1 := ⟨by kernel_rfl, by kernel_rfl⟩
instance : TyField Tryd.prog 160 6 6 155 1 := ⟨by kernel_rfl, by kernel_rfl⟩
instance : TyField Tryd.prog 160 7 7 156 1 := ⟨by kernel_rfl, by kernel_rfl⟩
instance : TyField Tryd.prog 160 8 8 137 1 := ⟨by kernel_rfl, by kernel_rfl⟩
instance : TyField Tryd.prog 160 9 9 157 1 := ⟨by kernel_rfl, by kernel_rfl⟩
instance : TyField Tryd.prog 160 10 10 158 1 := ⟨by kernel_rfl, by kernel_rfl⟩
instance : TyCell Tryd.prog 161 := ⟨by kernel_rfl, by kernel_rfl⟩
instance : TyZero Tryd.prog 161 (.pointer none) := ⟨by kernel_rfl⟩
instance : FnBody Tryd.prog 2 := ⟨by kernel_rfl⟩
instance : FnBody Tryd.prog 3 := ⟨by kernel_rfl⟩
instance : FnBody Tryd.prog 4 := ⟨by kernel_rfl⟩
instance : FnBody Tryd.prog 5 := ⟨by kernel_rfl⟩
instance : FnBody Tryd.prog 6 := ⟨by kernel_rfl⟩
instance : FnBody Tryd.prog 7 := ⟨by kernel_rfl⟩
instance : FnBody Tryd.prog 8 := ⟨by kernel_rfl⟩
instance : FnBody Tryd.prog 9 := ⟨by kernel_rfl⟩
instance : FnBody Tryd.prog 10 := ⟨by kernel_rfl⟩
instance : FnBody Tryd.prog 11 := ⟨by kernel_rfl⟩
instance : FnBody Tryd.prog 12 := ⟨by kernel_rfl⟩
instance : FnBody Tryd.prog 13 := ⟨by kernel_rfl⟩
instance : FnBody Tryd.prog 14 := ⟨by kernel_rfl⟩
instance : FnBody Tryd.prog 15 := ⟨by kernel_rfl⟩
instance : FnBody Tryd.prog 16 := ⟨by kernel_rfl⟩
instance : FnBody Tryd.prog 17 := ⟨by kernel_rfl⟩
instance : FnBody Tryd.prog 18 := ⟨by kernel_rfl⟩
instance : FnBody Tryd.prog 19 := ⟨by kernel_rfl⟩
instance : FnBody Tryd.prog 20 := ⟨by kernel_rfl⟩
instance : FnBody Tryd.prog 21 := ⟨by kernel_rfl⟩
instance : FnBody Tryd.prog 22 := ⟨by kernel_rfl⟩
instance : FnBody Tryd.prog 23 := ⟨by kernel_rfl⟩
instance : FnBody Tryd.prog 24 := ⟨by kernel_rfl⟩
instance : FnBody Tryd.prog 25 := ⟨by kernel_rfl⟩
instance : FnBody Tryd.prog 26 := ⟨by kernel_rfl⟩
instance : FnBody Tryd.prog 27 := ⟨by kernel_rfl⟩
instance : FnBody Tryd.prog 28 := ⟨by kernel_rfl⟩
instance : FnBody Tryd.prog 29 := ⟨by kernel_rfl⟩
instance : FnBody Tryd.prog 30 := ⟨by kernel_rfl⟩
instance : FnBody Tryd.prog 31 := ⟨by kernel_rfl⟩
instance : FnBody Tryd.prog 32 := ⟨by kernel_rfl⟩
instance : FnBody Tryd.prog 33 := ⟨by kernel_rfl⟩
instance : FnBody Tryd.prog 34 := ⟨by kernel_rfl⟩
instance : FnBody Tryd.prog 35 := ⟨by kernel_rfl⟩
instance : FnBody Tryd.prog 36 := ⟨by kernel_rfl⟩
instance : FnBody Tryd.prog 37 := ⟨by kernel_rfl⟩
instance : FnBody Tryd.prog 38 := ⟨by kernel_rfl⟩
instance : FnBody Tryd.prog 39 := ⟨by kernel_rfl⟩
instance : FnBody Tryd.prog 40 := ⟨by kernel_rfl⟩
instance : FnBody Tryd.prog 41 := ⟨by kernel_rfl⟩
instance : FnBody Tryd.prog 42 := ⟨by kernel_rfl⟩
instance : FnBody Tryd.prog 43 := ⟨by kernel_rfl⟩
instance : FnBody Tryd.prog 44 := ⟨by kernel_rfl⟩
instance : FnBody Tryd.prog 45 := ⟨by kernel_rfl⟩
instance : FnBody Tryd.prog 46 := ⟨by kernel_rfl⟩
instance : FnBody Tryd.prog 47 := ⟨by kernel_rfl⟩
instance : FnBody Tryd.prog 48 := ⟨by kernel_rfl⟩
instance : FnBody Tryd.prog 49 := ⟨by kernel_rfl⟩
instance : FnBody Tryd.prog 50 := ⟨by kernel_rfl⟩
instance : FnBody Tryd.prog 51 := ⟨by kernel_rfl⟩
instance : FnBody Tryd.prog 52 := ⟨by kernel_rfl⟩
instance : FnBody Tryd.prog 53 := ⟨by kernel_rfl⟩
instance : FnBody Tryd.prog 54 := ⟨by kernel_rfl⟩
instance : FnBody Tryd.prog 55 := ⟨by kernel_rfl⟩
instance : FnBody Tryd.prog 56 := ⟨by kernel_rfl⟩
instance : FnBody Tryd.prog 57 := ⟨by kernel_rfl⟩
instance : FnBody Tryd.prog 58 := ⟨by kernel_rfl⟩
instance : FnBody Tryd.prog 59 := ⟨by kernel_rfl⟩
instance : FnBody Tryd.prog 60 := ⟨by kernel_rfl⟩
instance : FnBody Tryd.prog 61 := ⟨by kernel_rfl⟩
instance : FnBody Tryd.prog 62 := ⟨by kernel_rfl⟩
instance : FnBody Tryd.prog 63 := ⟨by kernel_rfl⟩
instance : FnBody Tryd.prog 64 := ⟨by kernel_rfl⟩
instance : FnBody Tryd.prog 65 := ⟨by kernel_rfl⟩
instance : FnBody Tryd.prog 66 := ⟨by kernel_rfl⟩
instance : FnBody Tryd.prog 67 := ⟨by kernel_rfl⟩
instance : FnBody Tryd.prog 68 := ⟨by kernel_rfl⟩
instance : FnBody Tryd.prog 69 := ⟨by kernel_rfl⟩
instance : FnBody Tryd.prog 70 := ⟨by kernel_rfl⟩
instance : FnBody Tryd.prog 71 := ⟨by kernel_rfl⟩
instance : FnBody Tryd.prog 73 := ⟨by kernel_rfl⟩
instance : FnBody Tryd.prog 74 := ⟨by kernel_rfl⟩
instance : FnBody Tryd.prog 75 := ⟨by kernel_rfl⟩
instance : FnBody Tryd.prog 76 := ⟨by kernel_rfl⟩
instance : FnBody Tryd.prog 77 := ⟨by kernel_rfl⟩
instance : FnBody Tryd.prog 78 := ⟨by kernel_rfl⟩
instance : FnBody Tryd.prog 79 := ⟨by kernel_rfl⟩
instance : FnBody Tryd.prog 80 := ⟨by kernel_rfl⟩
instance : FnBody Tryd.prog 81 := ⟨by kernel_rfl⟩
instance : FnBody Tryd.prog 82 := ⟨by kernel_rfl⟩
instance : FnBody Tryd.prog 83 := ⟨by kernel_rfl⟩
instance : FnBody Tryd.prog 84 := ⟨by kernel_rfl⟩
instance : FnBody Tryd.prog 85 := ⟨by kernel_rfl⟩
instance : FnBody Tryd.prog 86 := ⟨by kernel_rfl⟩
instance : FnBody Tryd.prog 87 := ⟨by kernel_rfl⟩
instance : FnBody Tryd.prog 89 := ⟨by kernel_rfl⟩
instance : FnBody Tryd.prog 90 := ⟨by kernel_rfl⟩
instance : FnBody Tryd.prog 91 := ⟨by kernel_rfl⟩
instance : FnBody Tryd.prog 92 := ⟨by kernel_rfl⟩
instance : FnBody Tryd.prog 93 := ⟨by kernel_rfl⟩
instance : FnBody Tryd.prog 94 := ⟨by kernel_rfl⟩
instance : FnBody Tryd.prog 95 := ⟨by kernel_rfl⟩
instance : FnBody Tryd.prog 96 := ⟨by kernel_rfl⟩
instance : FnBody Tryd.prog 97 := ⟨by kernel_rfl⟩
instance : FnBody Tryd.prog 99 := ⟨by kernel_rfl⟩
instance : FnBody Tryd.prog 100 := ⟨by kernel_rfl⟩
instance : FnBody Tryd.prog 101 := ⟨by kernel_rfl⟩
instance : FnBody Tryd.prog 102 := ⟨by kernel_rfl⟩
instance : FnBody Tryd.prog 103 := ⟨by kernel_rfl⟩
instance : FnBody Tryd.prog 104 := ⟨by kernel_rfl⟩
instance : FnBody Tryd.prog 106 := ⟨by kernel_rfl⟩
instance : FnBody Tryd.prog 107 := ⟨by kernel_rfl⟩
instance : FnBody Tryd.prog 108 := ⟨by kernel_rfl⟩
instance : FnBody Tryd.prog 109 := ⟨by kernel_rfl⟩
instance : FnBody Tryd.prog 110 := ⟨by kernel_rfl⟩
instance : FnBody Tryd.prog 111 := ⟨by kernel_rfl⟩
instance : FnBody Tryd.prog 112 := ⟨by kernel_rfl⟩
instance : FnBody Tryd.prog 113 := ⟨by kernel_rfl⟩
instance : FnBody Tryd.prog 114 := ⟨by kernel_rfl⟩
instance : FnBody Tryd.prog 115 := ⟨by kernel_rfl⟩
instance : FnBody Tryd.prog 144 := ⟨by kernel_rfl⟩
instance : TyBuild Tryd.prog 7 [(0, 1), (1, 1), (2, 1), (3, 1)] [.int .i64 0, .int .i64 0, .bool false, .int .u8 0] := ⟨by kernel_rfl, by kernel_rfl⟩
instance : TyBuild Tryd.prog 8 [(0, 1), (1, 1), (2, 1), (3, 1)] [.int .i64 0, .int .i64 0, .bool false, .int .u8 0] := ⟨by kernel_rfl, by kernel_rfl⟩
instance : TyBuild Tryd.prog 13 [(0, 1), (1, 1)] [.string ⟨#[]⟩, .int .u64 0] := ⟨by kernel_rfl, by kernel_rfl⟩
instance : TyBuild Tryd.prog 14 [(0, 1), (1, 1)] [.string ⟨#[]⟩, .int .u64 0] := ⟨by kernel_rfl, by kernel_rfl⟩
instance : TyBuild Tryd.prog 18 [(0, 1)] [.pointer none] := ⟨by kernel_rfl, by kernel_rfl⟩
instance : TyBuild Tryd.prog 19 [(0, 1)] [.pointer none] := ⟨by kernel_rfl, by kernel_rfl⟩
instance : TyBuild Tryd.prog 26 [(0, 1), (1, 1)] [.int .i64 0, .slice none 0 0] := ⟨by kernel_rfl, by kernel_rfl⟩
instance : TyBuild Tryd.prog 27 [(0, 1), (1, 1)] [.int .i64 0, .slice none 0 0] := ⟨by kernel_rfl, by kernel_rfl⟩
instance : TyBuild Tryd.prog 28 [(0, 1), (1, 1), (2, 1), (3, 1)] [.int .i64 0, .int .i64 0, .int .i64 0, .int .i64 0] := ⟨by kernel_rfl, by kernel_rfl⟩
instance : TyBuild Tryd.prog 29 [(0, 1), (1, 1), (2, 1), (3, 1)] [.int .i64 0, .int .i64 0, .int .i64 0, .int .i64 0] := ⟨by kernel_rfl, by kernel_rfl⟩
instance : TyBuild Tryd.prog 30 [(0, 1), (1, 1), (2, 4)] [.int .i64 0, .int .i64 0, .int .i64 0, .int .i64 0, .int .i64 0, .int .i64 0] := ⟨by kernel_rfl, by kernel_rfl⟩
instance : TyBuild Tryd.prog 31 [(0, 1), (1, 1), (2, 4)] [.int .i64 0, .int .i64 0, .int .i64 0, .int .i64 0, .int .i64 0, .int .i64 0] := ⟨by kernel_rfl, by kernel_rfl⟩
instance : TyBuild Tryd.prog 84 [(0, 1), (1, 1), (2, 1)] [.slice none 0 0, .int .i64 0, .int .i64 0] := ⟨by kernel_rfl, by kernel_rfl⟩
instance : TyBuild Tryd.prog 85 [(0, 1), (1, 1), (2, 1)] [.slice none 0 0, .int .i64 0, .int .i64 0] := ⟨by kernel_rfl, by kernel_rfl⟩
instance : TyBuild Tryd.prog 133 [(0, 1), (1, 1), (2, 1)] [.string ⟨#[]⟩, .string ⟨#[]⟩, .nilIface] := ⟨by kernel_rfl, by kernel_rfl⟩
instance : TyBuild Tryd.prog 134 [(0, 1), (1, 1), (2, 1)] [.string ⟨#[]⟩, .string ⟨#[]⟩, .nilIface] := ⟨by kernel_rfl, by kernel_rfl⟩
instance : TyBuild Tryd.prog 139 [(0, 1)] [.string ⟨#[]⟩] := ⟨by kernel_rfl, by kernel_rfl⟩
instance : TyBuild Tryd.prog 140 [(0, 1)] [.string ⟨#[]⟩] := ⟨by kernel_rfl, by kernel_rfl⟩
instance : TyBuild Tryd.prog 142 [(0, 1), (1, 1)] [.int .u8 0, .int .u8 0] := ⟨by kernel_rfl, by kernel_rfl⟩
instance : TyBuild Tryd.prog 143 [(0, 1), (1, 1)] [.int .u8 0, .int .u8 0] := ⟨by kernel_rfl, by kernel_rfl⟩
instance : TyBuild Tryd.prog 148 [(0, 1), (1, 1), (2, 1), (3, 1)] [.pointer none, .pointer none, .pointer none, .string ⟨#[]⟩] := ⟨by kernel_rfl, by kernel_rfl⟩
instance : TyBuild Tryd.prog 149 [(0, 1), (1, 1), (2, 1), (3, 1)] [.pointer none, .pointer none, .pointer none, .string ⟨#[]⟩] := ⟨by kernel_rfl, by kernel_rfl⟩
instance : TyBuild Tryd.prog 151 [(0, 0)] [] := ⟨by kernel_rfl, by kernel_rfl⟩
instance : TyBuild Tryd.prog 152 [(0, 0)] [] := ⟨by kernel_rfl, by kernel_rfl⟩
instance : TyBuild Tryd.prog 159 [(0, 1), (1, 1), (2, 1), (3, 1), (4, 1), (5, 1), (6, 1), (7, 1), (8, 1), (9, 1), (10, 1)] [.int .u64 0, .int .u64 0, .int .u32 0, .int .u8 0, .int .u8 0, .int .u8 0, .int .u8 0, .nilFunc, .pointer none, .int .i32 0, .int .i32 0] := ⟨by kernel_rfl, by kernel_rfl⟩
instance : TyBuild Tryd.prog 160 [(0, 1), (1, 1), (2, 1), (3, 1), (4, 1), (5, 1), (6, 1), (7, 1), (8, 1), (9, 1), (10, 1)] [.int .u64 0, .int .u64 0, .int .u32 0, .int .u8 0, .int .u8 0, .int .u8 0, .int .u8 0, .nilFunc, .pointer none, .int .i32 0, .int .i32 0] := ⟨by kernel_rfl, by kernel_rfl⟩
theorem mixedA : Tryd.prog.follows .mixedOrders = true := by kernel_rfl
end Go.Proofs.YtofakjlamoigcaaDoor
end

section
namespace Go.Proofs.YtofakjlamoigcaaDoor
set_option linter.unusedSimpArgs false
set_option linter.unusedVariables false
open Go.RowKit

def Ed.eq (p q : Ed) : Bool := p.kind == q.kind && p.idx == q.idx && p.pl.eq q.pl
theorem Ed.eq_iff (p q : Ed) : p.eq q = true ↔ p = q := by
  cases p; cases q; simp [Ed.eq, Pl.eq_iff, and_assoc]
theorem stay_grown' {w w' : World} {r : Option Nat} (h : w.grownBy w' r) {a : Addr} {v : Value} (hc : w.cell? a = some v) (hne : r ≠ some a.block) : w'.cell? a = some v :=
  (World.cell?_of_block (w := w) (h.block _ (World.block_lt_of_cell? _ _ hc) (fun e => hne e.symm))).trans hc
theorem SlR.grown {α : Type} {w w' : World} {k : Nat} {enc : α → List Value} {ad : Option Addr} {xs : List α} {r : Option Nat} (h : SlR w k enc ad xs) (hg : w.grownBy w' r) (hne : ∀ a, ad = some a → r ≠ some a.block) : SlR w' k enc ad xs :=
  fun i x hx => let ⟨b, off, e, hc⟩ := h i x hx; ⟨b, off, e, fun j c hj => stay_grown' hg (hc j c hj) (by simpa using hne _ e)⟩
theorem FlR.grown {w w' : World} {ad : Option Addr} {cs : List Value} {r : Option Nat} (h : FlR w ad cs) (hg : w.grownBy w' r) (hne : ∀ a, ad = some a → r ≠ some a.block) : FlR w' ad cs :=
  fun j c hj => let ⟨b, off, e, hc⟩ := h j c hj; ⟨b, off, e, stay_grown' hg hc (by simpa using hne _ e)⟩
theorem FlR.stay {w w' : World} {ad : Option Addr} {cs : List Value} (h : FlR w ad cs) (hb : Below w.heap.size w w') : FlR w' ad cs :=
  fun j c hj => let ⟨b, off, e, hc⟩ := h j c hj; ⟨b, off, e, YtofakjlamoigcaaDoor.stay hb (Nat.le_refl _) hc⟩
theorem FlR.alloc {w : World} {ad : Option Addr} {cs : List Value} (h : FlR w ad cs) (o : Obj) : FlR (w.alloc o) ad cs := h.stay ((Below.refl _ _).alloc (Nat.le_refl _) o)
theorem FlR.drew {w : World} {ad : Option Addr} {cs : List Value} (h : FlR w ad cs) : FlR w.drew ad cs := h.stay (Below.refl _ _).drew
theorem SlR.set {α : Type} {w : World} {k : Nat} {enc : α → List Value} {ad : Option Addr} {xs : List α} {a : Addr} {u : Value} (h : SlR w k enc ad xs) (hne : ∀ b, ad = some b → b.block ≠ a.block) : SlR (w.setCell a u) k enc ad xs :=
  h.grown (r := some a.block) ⟨rfl, rfl, rfl, by simp, fun k _ hk => Below.heap_setCell _ _ _ _ (fun e => hk (by rw [e]))⟩ (fun b hb e => hne b hb (Option.some.inj e).symm)
end Go.Proofs.YtofakjlamoigcaaDoor
end

section
namespace Go.Proofs.YtofakjlamoigcaaDoor
open Go Go.RowKit
set_option linter.unusedSimpArgs false
set_option linter.unusedVariables false

instance : DecidableEq Pl := fun p q => decidable_of_iff (p.eq q = true) (Pl.eq_iff p q)
instance : DecidableEq Ed := fun p q => decidable_of_iff (p.eq q = true) (Ed.eq_iff p q)
abbrev Bx (k id : Nat) : AV := .ptr k ⟨id, []⟩ 0 0
def Pl.row (p : Pl) : List D := [DI p.f, DI p.t, DI p.d, DI p.k]
abbrev Pl.av (p : Pl) : AV := .agg [I p.f, I p.t, I p.d, I p.k]
def Ed.row (e : Ed) : List D := [DI e.kind, DI e.idx, DI e.pl.f, DI e.pl.t, DI e.pl.d, DI e.pl.k]
abbrev Ed.av (e : Ed) : AV := .agg [I e.kind, I e.idx, I e.pl.f, I e.pl.t, I e.pl.d, I e.pl.k]
abbrev PL (xs : List Pl) : AV := .d (.sl 4 (xs.map Pl.row))
abbrev grD (ev : Int) (xs : List Pl) : AV := .agg [I ev, .d (.sl 4 (xs.map Pl.row))]
theorem row_get [Mode] {α : Type} {row : α → List D} {xs : List α} {k : Nat} {p : α} (h : xs[k]? = some p) : (xs.map row)[((k : Nat) : Int).toNat]? = some (row p) := by simp [h]
/-- The index of the first that fits, counted from i on; -1: none does. -/
def idxOf {α : Type} (f : α → Bool) : List α → Nat → Int
  | [], _ => -1
  | x :: xs, i => if f x then i else idxOf f xs (i + 1)
theorem idxOf_at [Mode] {α : Type} {f : α → Bool} {xs : List α} {k : Nat} {x : α} (h : xs[k]? = some x) (i : Nat) : idxOf f (xs.drop k) i = if f x then (i : Int) else idxOf f (xs.drop (k + 1)) (i + 1) := by
  obtain ⟨h1, rfl⟩ := List.getElem?_eq_some_iff.1 h
  rw [List.drop_eq_getElem_cons h1, idxOf]
theorem idxOf_any [Mode] {α : Type} {f : α → Bool} : ∀ (xs : List α) (i : Nat), decide (0 ≤ idxOf f xs i) = xs.any f
  | [], i => by simp [idxOf]
  | x :: xs, i => by
    unfold idxOf
    cases h : f x
    · simp [h, idxOf_any xs (i + 1)]
    · simp [h]
/-- A function value, made. -/
theorem OpOk.makeFunc [Mode] {P : Program} {o : Oper} {A : Operand → AV} {H : Heap} {new : Nat} {fn : Fn} {fs cs : Array Operand} {fv cv : List AV} (ho : o.op = .makeFunc fn fs cs) (hf : fs.toList.map A = fv) (hc : cs.toList.map A = cv) : OpOk P o A [] H new (.clo fn fv cv) [] :=
  .still [] fun ι F w H1 ρ _ _ hv => by
    refine ⟨.func fn (fs.map ρ) (cs.map ρ), by simp [execOp, ho, Instr.makeFunc], ?_⟩
    have e1 : fs.map ρ = (fs.toList.map ρ).toArray := by apply Array.ext'; simp
    have e2 : cs.map ρ = (cs.toList.map ρ).toArray := by apply Array.ext'; simp
    rw [e1, e2]
    subst hf hc
    refine .clo fn _ _ _ _ (by simp) (by simp) (fun i c v hc hv' => ?_) (fun i c v hc hv' => ?_)
    all_goals
      simp only [List.getElem?_map, Option.map_eq_some_iff] at hc hv'
      obtain ⟨x, hx, rfl⟩ := hc
      obtain ⟨x', hx', rfl⟩ := hv'
      rw [hx] at hx'; cases hx'
      refine hv x ?_
      simp only [ho, Op.operands]
      have := List.mem_of_getElem? hx
      simp at this ⊢
      first | exact .inl this | exact .inr this
end Go.Proofs.YtofakjlamoigcaaDoor
end

section
namespace Go.Proofs.YtofakjlamoigcaaDoor
open Go Go.RowKit
set_option linter.unusedSimpArgs false
set_option linter.unusedVariables false

theorem eqPl_run [Mode] (a b c d a' b' c' d' : Int) (w : World) : (binOp .eql 29 (.agg #[.int .i64 a, .int .i64 b, .int .i64 c, .int .i64 d]) (.agg #[.int .i64 a', .int .i64 b', .int .i64 c', .int .i64 d'])).run Tryd.prog w = .ok (.bool (decide ((⟨a, b, c, d⟩ : Pl) = ⟨a', b', c', d'⟩))) w := by
  have u := Tryd.underlying2
  have hS : Tryd.prog.underlying 29 = some (.struct (Tryd.prog.fieldsOf 29)) := by kernel_rfl
  have hp : Tryd.prog.stoodInHeld 29 = false := by kernel_rfl
  rw [run_eql_struct, show (10000 : Nat) = 9999 + 1 from rfl, run_equalIn_agg w 9999 29 _ _ hS hp]
  simp only [Program.fieldsOf, Tryd.underlying29]
  go_simp
  try simp only [Pl.mk.injEq]
  by_cases h1 : a = a' <;> by_cases h2 : b = b' <;> by_cases h3 : c = c' <;> by_cases h4 : d = d' <;> simp [h1, h2, h3, h4]
theorem neqPl_run [Mode] (a b c d a' b' c' d' : Int) (w : World) : (binOp .neq 29 (.agg #[.int .i64 a, .int .i64 b, .int .i64 c, .int .i64 d]) (.agg #[.int .i64 a', .int .i64 b', .int .i64 c', .int .i64 d'])).run Tryd.prog w = .ok (.bool (decide ((⟨a, b, c, d⟩ : Pl) ≠ ⟨a', b', c', d'⟩))) w := by
  have u := Tryd.underlying2
  have hS : Tryd.prog.underlying 29 = some (.struct (Tryd.prog.fieldsOf 29)) := by kernel_rfl
  have hp : Tryd.prog.stoodInHeld 29 = false := by kernel_rfl
  rw [run_neq_struct, show (10000 : Nat) = 9999 + 1 from rfl, run_equalIn_agg w 9999 29 _ _ hS hp]
  simp only [Program.fieldsOf, Tryd.underlying29]
  go_simp
  try simp only [ne_eq, Pl.mk.injEq]
  by_cases h1 : a = a' <;> by_cases h2 : b = b' <;> by_cases h3 : c = c' <;> by_cases h4 : d = d' <;> simp [h1, h2, h3, h4]
theorem plGuard [Mode] (op : BinOp) (x y : Operand) (a b c d a' b' c' d' : Int) (w : World) : (eqGuard op 29 x y (.agg #[.int .i64 a, .int .i64 b, .int .i64 c, .int .i64 d]) (.agg #[.int .i64 a', .int .i64 b', .int .i64 c', .int .i64 d'])).run Tryd.prog w = .ok () w :=
  run_eqGuard_agg w op _ x y _ _ (by kernel_rfl)
theorem VR.ints4 [Mode] {ι : Iota} {F : Nat → Prop} {w : World} {a b c d : Int} {v : Value} (h : VR ι F w (.agg [I a, I b, I c, I d]) v) : v = .agg #[.int .i64 a, .int .i64 b, .int .i64 c, .int .i64 d] := by
  obtain ⟨vs, rfl, h1, h2⟩ := h.agg_inv
  match vs, h1 with
  | [v0, v1, v2, v3], _ =>
    have e0 := (h2 0 _ v0 rfl rfl).v_inv
    have e1 := (h2 1 _ v1 rfl rfl).v_inv
    have e2 := (h2 2 _ v2 rfl rfl).v_inv
    have e3 := (h2 3 _ v3 rfl rfl).v_inv
    rw [e0, e1, e2, e3]
section
variable {o : Oper} {A : Operand → AV} {H : Heap} {new : Nat} {t' : TypeId} {x y : Operand} {a b c d a' b' c' d' : Int}
theorem OpOk.eqPl [Mode] (ho : o.op = .binOp .eql 29 x y t') (hx : A x = .agg [I a, I b, I c, I d]) (hy : A y = .agg [I a', I b', I c', I d']) : OpOk Tryd.prog o A [] H new (Bo (decide ((⟨a, b, c, d⟩ : Pl) = ⟨a', b', c', d'⟩))) [] :=
  .still [] fun ι F w H1 ρ _ hs hv => by
    have h1 := hv x (by simp [ho, Op.operands])
    have h2 := hv y (by simp [ho, Op.operands])
    rw [hx] at h1; rw [hy] at h2
    refine ⟨_, ?_, .d (.v _)⟩
    simp [execOp, ho, h1.ints4, h2.ints4, plGuard .eql x y a b c d a' b' c' d' w, eqPl_run a b c d a' b' c' d' w]
theorem OpOk.neqPl [Mode] (ho : o.op = .binOp .neq 29 x y t') (hx : A x = .agg [I a, I b, I c, I d]) (hy : A y = .agg [I a', I b', I c', I d']) : OpOk Tryd.prog o A [] H new (Bo (decide ((⟨a, b, c, d⟩ : Pl) ≠ ⟨a', b', c', d'⟩))) [] :=
  .still [] fun ι F w H1 ρ _ hs hv => by
    have h1 := hv x (by simp [ho, Op.operands])
    have h2 := hv y (by simp [ho, Op.operands])
    rw [hx] at h1; rw [hy] at h2
    refine ⟨_, ?_, .d (.v _)⟩
    simp [execOp, ho, h1.ints4, h2.ints4, plGuard .neq x y a b c d a' b' c' d' w, neqPl_run a b c d a' b' c' d' w]
end
end Go.Proofs.YtofakjlamoigcaaDoor
end

section
namespace Go.Proofs.YtofakjlamoigcaaDoor
open Go Go.RowKit
set_option linter.unusedSimpArgs false
set_option linter.unusedVariables false

theorem run_sliceBound [Mode] {P : Program} {w : World} {kd : IntKind} {i : Int} {y : Nat} {code : BoundsCode} (h0 : 0 ≤ i) (h1 : i ≤ y) : (Instr.sliceBound (.int kd i) y code).run P w = .ok i.toNat w := by
  simp [Instr.sliceBound, asIntOf, h0, h1]
theorem run_sliceAt [Mode] {P : Program} {w : World} {t e : TypeId} {k b : Nat} {z : Value} [h : TySlice P t e k b z] {a : Option Addr} {len cap l hb : Nat} {lo hi : Option Value} (hlo : (lo = none ∧ l = 0) ∨ ∃ kd i, lo = some (.int kd i) ∧ 0 ≤ i ∧ i.toNat = l) (hhi : (hi = none ∧ hb = len) ∨ ∃ kd i, hi = some (.int kd i) ∧ 0 ≤ i ∧ i.toNat = hb) (hl : l ≤ hb) (hh : hb ≤ len) (hc : len ≤ cap) :
    (Instr.sliceAt t (.slice a len cap) lo hi none).run P w = .ok (.slice (if cap = l then a else a.map (·.add (l * k))) (hb - l) (cap - l)) w := by
  have hs : (sizeOf e).run P w = .ok k w := run_sizeOf' (by
    have := h.s
    cases hi : P.info? e with
    | none => rw [hi] at this; cases this
    | some i => rw [hi] at this; simp only [Option.map_some, Option.some.injEq, Prod.mk.injEq] at this; simp [this.1])
  have hb1 : (match hi with | some v => Instr.sliceBound v cap .sliceAcap | none => pure len).run P w = .ok hb w := by
    rcases hhi with ⟨rfl, rfl⟩ | ⟨kd, i, rfl, h0, rfl⟩
    · simp
    · exact run_sliceBound h0 (by omega)
  have hb2 : (match lo with | some v => Instr.sliceBound v hb .sliceB | none => pure 0).run P w = .ok l w := by
    rcases hlo with ⟨rfl, rfl⟩ | ⟨kd, i, rfl, h0, rfl⟩
    · simp
    · exact run_sliceBound h0 (by omega)
  have hbd : (Instr.sliceBounds true len cap lo hi none).run P w = .ok (l, hb, cap) w := by
    unfold Instr.sliceBounds
    rcases hhi with ⟨rfl, rfl⟩ | ⟨kd, i, rfl, h0, rfl⟩ <;> rcases hlo with ⟨rfl, rfl⟩ | ⟨kd', i', rfl, h0', rfl⟩
    · simp
    · simp [run_sliceBound (P := P) (w := w) h0' (by omega : i' ≤ (hb : Int))]
    · simp [run_sliceBound (P := P) (w := w) h0 (by omega : i ≤ (cap : Int))]
    · simp [run_sliceBound (P := P) (w := w) h0 (by omega : i ≤ (cap : Int)), run_sliceBound (P := P) (w := w) h0' (by omega : i' ≤ (i.toNat : Int))]
  simp [Instr.sliceAt, Instr.slice, run_underlying h.u, hbd, hs]
/-- A bound of a cut: left out, or a number. -/
def BndIs (A : Operand → AV) (x : Option Operand) (dflt v : Nat) : Prop := (x = none ∧ v = dflt) ∨ ∃ y kd i, x = some y ∧ A y = .d (.v (.int kd i)) ∧ 0 ≤ i ∧ i.toNat = v
theorem BndIs.none [Mode] {A : Operand → AV} {d : Nat} : BndIs A none d d := .inl ⟨rfl, rfl⟩
theorem BndIs.some [Mode] {A : Operand → AV} {d : Nat} {y : Operand} {kd : IntKind} {i : Int} {v : Nat} (h : A y = .d (.v (.int kd i))) (h0 : 0 ≤ i) (h1 : i.toNat = v) : BndIs A (some y) d v := .inr ⟨y, kd, i, rfl, h, h0, h1⟩
section
variable {P : Program} {o : Oper} {A : Operand → AV} {H : Heap} {new : Nat}
theorem BndIs.val [Mode] {ι : Iota} {F : Nat → Prop} {w : World} {ρ : Operand → Value} {x : Option Operand} {d v : Nat} (h : BndIs A x d v) (hv : ∀ y, x = Option.some y → VR ι F w (A y) (ρ y)) : (x.map ρ = Option.none ∧ v = d) ∨ ∃ kd i, x.map ρ = Option.some (.int kd i) ∧ 0 ≤ i ∧ i.toNat = v := by
  rcases h with ⟨rfl, rfl⟩ | ⟨y, kd, i, rfl, h1, h0, h2⟩
  · exact .inl ⟨rfl, rfl⟩
  · have := hv y rfl
    rw [h1] at this
    have := this.v_inv
    exact .inr ⟨kd, i, by simp [this], h0, h2⟩
theorem OpOk.sliceD [Mode] {t e : TypeId} {x : Operand} {lo hi : Option Operand} {k b l hb : Nat} {z : Value} {rows : List (List D)} (ho : o.op = .slice t x lo hi none) [h : TySlice P t e k b z] (hx : A x = .d (.sl k rows)) (hlo : BndIs A lo 0 l) (hhi : BndIs A hi rows.length hb) (hl : l ≤ hb) (hh : hb ≤ rows.length) :
    OpOk P o A [] H new (.d (.sl k ((rows.drop l).take (hb - l)))) [] :=
  .still [] fun ι F w H1 ρ _ hs hv => by
    have h1 := hv x (by simp [ho, Op.operands])
    rw [hx] at h1
    generalize hq : ρ x = q at h1
    cases h1 with
    | d h1 =>
      cases h1 with
      | sl _ _ a cap g hcap hcl hd =>
        have hr := run_sliceAt (P := P) (w := w) (a := a) (cap := cap) (h := h) (hlo.val (ρ := ρ) fun y hy => hv y (by subst hy; simp [ho, Op.operands])) (hhi.val (ρ := ρ) fun y hy => hv y (by subst hy; simp [ho, Op.operands])) hl hh hcap
        refine ⟨.slice (if cap = l then a else a.map (·.add (l * k))) (hb - l) (cap - l), by simp [execOp, ho, hq, hr], ?_⟩
        have hlen : ((rows.drop l).take (hb - l)).length = hb - l := by simp; omega
        have hget : ∀ (i : Nat) r, ((rows.drop l).take (hb - l))[i]? = some r → rows[l + i]? = some r ∧ i < hb - l := fun i r hi => by
          have hlt : i < hb - l := by rw [← hlen]; exact (List.getElem?_eq_some_iff.1 hi).1
          rw [List.getElem?_take, if_pos hlt, List.getElem?_drop] at hi
          exact ⟨hi, hlt⟩
        generalize (rows.drop l).take (hb - l) = R at hlen hget ⊢
        rw [← hlen]
        refine .d (.sl k _ _ _ (fun i j => g (l + i) j) (by omega) (fun i r j c hi hj => ?_) (fun i r j c hi hj => hd _ r j c (hget i r hi).1 hj))
        obtain ⟨h2, h3⟩ := hget i r hi
        obtain ⟨b', off, e1, hF, hcell⟩ := hcl (l + i) r j c h2 hj
        refine ⟨b', off + l * k, ?_, hF, ?_⟩
        · have hne : ¬ cap = l := by omega
          rw [if_neg hne, e1]
          simp [addr_add]
        · rw [show off + l * k + i * k + j = off + (l + i) * k + j by rw [Nat.add_mul]; omega]
          exact hcell
theorem OpOk.sliceO [Mode] {t e : TypeId} {x : Operand} {lo hi : Option Operand} {k b l hb off n : Nat} {z : Value} {l0 : Loc} (ho : o.op = .slice t x lo hi none) [h : TySlice P t e k b z] (hx : A x = .own k l0 off n) (hlo : BndIs A lo 0 l) (hhi : BndIs A hi n hb) (hl : l < hb ∨ l = 0) (hh : hb ≤ n) (hl' : l ≤ hb) :
    OpOk P o A [] H new (.own k l0 (off + l) (hb - l)) [] :=
  .still [] fun ι F w H1 ρ _ hs hv => by
    have h1 := hv x (by simp [ho, Op.operands])
    rw [hx] at h1
    generalize hq : ρ x = q at h1
    cases h1 with
    | own _ _ _ _ bb sz cap hi2 hn hsz =>
      have hr := run_sliceAt (P := P) (w := w) (a := some ⟨bb, off * k, none⟩) (cap := cap) (h := h) (hlo.val (ρ := ρ) fun y hy => hv y (by subst hy; simp [ho, Op.operands])) (hhi.val (ρ := ρ) fun y hy => hv y (by subst hy; simp [ho, Op.operands])) hl' hh hn
      refine ⟨.slice (if cap = l then some ⟨bb, off * k, none⟩ else (some ⟨bb, off * k, none⟩ : Option Addr).map (·.add (l * k))) (hb - l) (cap - l), by simp [execOp, ho, hq, hr], ?_⟩
      have e : (if cap = l then some ⟨bb, off * k, none⟩ else (some ⟨bb, off * k, none⟩ : Option Addr).map (·.add (l * k))) = some ⟨bb, (off + l) * k, none⟩ := by
        split
        · have : l = 0 := by omega
          subst this; simp
        · simp [addr_add, Nat.add_mul]
      rw [e]
      refine .own k l0 (off + l) (hb - l) bb sz (cap - l) hi2 (by omega) ?_
      rw [show off + l + (cap - l) = off + cap by omega]; exact hsz
    | ownNil _ _ hi2 =>
      have hr := run_sliceAt (P := P) (w := w) (a := none) (cap := 0) (len := 0) (h := h) (hlo.val (ρ := ρ) fun y hy => hv y (by subst hy; simp [ho, Op.operands])) (hhi.val (ρ := ρ) fun y hy => hv y (by subst hy; simp [ho, Op.operands])) hl' hh (Nat.le_refl _)
      have e1 : hb = 0 := by omega
      have e2 : l = 0 := by omega
      subst e1 e2
      refine ⟨.slice none 0 0, by simp [execOp, ho, hq, hr], ?_⟩
      exact .ownNil k l0 hi2
end
end Go.Proofs.YtofakjlamoigcaaDoor
end

section
namespace Go.Proofs.YtofakjlamoigcaaDoor
open Go Go.RowKit
set_option linter.unusedSimpArgs false
set_option linter.unusedVariables false

/-- An operation that writes nothing and answers one of several values. -/
def OpAny [Mode] {α : Type} (P : Program) (o : Oper) (A : Operand → AV) (H : Heap) (val : α → AV) (cond : α → Prop) : Prop :=
  ∀ (ι : Iota) (F : Nat → Prop) (w : World) (ρ : Operand → Value), Sim ι F H w → (∀ x ∈ o.op.operands, VR ι F w (A x) (ρ x)) → ∃ i v, cond i ∧ (execOp ρ o).run P w = .ok (.value v) w ∧ VR ι F w (val i) v
section
variable {P : Program} {C : Ctx} {ops : Array Oper} {Q : Exit → AS → Prop} {rest : List Oper} {o : Oper} {H : Heap}
theorem AL.any [Mode] {α : Type} {val : α → AV} {cond : α → Prop} {fr : List AV} {n : Nat} (hg : o.guard = none) (h1 : OpAny P o (evalF fr) H val cond) (h2 : ∀ i, cond i → AL P C ops Q rest ⟨putF fr o.dst (val i), H, n + 1⟩) : AL P C ops Q (o :: rest) ⟨fr, H, n⟩ := by
  intro a w r
  have hw : Region.wanted o (yielded ops a.tmps) = true := by obtain ⟨ι, F, _, hv, _⟩ := r; exact GuardIs.wanted (fr := fr) (ops := ops) (by unfold GuardIs; rw [hg]) hv
  unfold wpList
  rw [hw, if_pos rfl]
  left
  obtain ⟨ι, F, hs, hv, hd, hi, hu⟩ := r
  obtain ⟨i, v, hc, hr, hvr⟩ := h1 ι F w a.eval hs (fun x _ => hv.eval x)
  have hup : Upon P (fun v' w' => v' = v ∧ w' = w) ((execOp a.eval o).run P w) := by rw [hr]; exact ⟨rfl, rfl⟩
  refine hup.wp ?_
  rintro _ _ ⟨rfl, rfl⟩
  refine h2 i hc _ _ ⟨ι, F, hs, hv.put hvr, ?_, hi, fun id hid k => hu id (Nat.le_of_lt hid) k⟩
  cases o.dst <;> exact hd
theorem AL.stAny [Mode] {α : Type} {val : α → AV} {cond : α → Prop} {fr : List AV} {n n' t : Nat} {op : Op} {ty : TypeId} {pos : String} {after : Array Edge} (h1 : OpAny P ⟨some t, op, ty, pos, after, none⟩ (evalF fr) H val cond) (hn : n + 1 = n') (h2 : ∀ i, cond i → AL P C ops Q rest ⟨fr.set t (val i), H, n'⟩) : AL P C ops Q (⟨some t, op, ty, pos, after, none⟩ :: rest) ⟨fr, H, n⟩ := by
  subst hn; exact AL.any rfl h1 h2
theorem OpAny.eqNilD [Mode] {A : Operand → AV} {t t' e : TypeId} {x : Operand} {k k' b : Nat} {z : Value} {rows : List (List D)} (ho : o.op = .binOp .eql t x (.const (.slice none 0 0)) t') [h : TySlice P t e k b z] (hx : A x = .d (.sl k' rows)) (hc : A (.const (.slice none 0 0)) = .d (.v (.slice none 0 0))) (hk : ∀ r ∈ rows, r ≠ []) : OpAny P o A H (fun b : Bool => Bo b) (fun b => b = true → rows = []) := fun ι F w ρ _ hv => by
  have h1 := hv x (by simp [ho, Op.operands])
  have h2 := hv (.const (.slice none 0 0)) (by simp [ho, Op.operands])
  rw [hx] at h1
  rw [hc] at h2
  have h3 := h2.v_inv
  generalize hq : ρ x = q at h1
  cases h1 with
  | d h1 =>
    cases h1 with
    | sl _ _ a cap g hcap hcl hd =>
      refine ⟨a.isNone, .bool a.isNone, fun hn => ?_, ?_, .d (.v _)⟩
      · cases rows with
        | nil => rfl
        | cons r rs =>
          cases r with
          | nil => exact absurd rfl (hk [] (by simp))
          | cons c cs =>
            obtain ⟨b', off, e1, _⟩ := hcl 0 (c :: cs) 0 c rfl rfl
            rw [e1] at hn; cases hn
      · have hr := Lib.run_eql_slice_nil (P := P) w t e a rows.length cap 0 0 h.u
        have hgd := run_eqGuard (P := P) (op := .eql) (t := t) (x := x) (y := .const (.slice none 0 0)) (a := .slice a rows.length cap) (b := .slice none 0 0) (w := w) rfl
        simp [execOp, ho, hq, h3, hgd, hr]
/-- The end of a function that hands back a nil slice: told as an empty row. -/
theorem end1nil [Mode] {fr : List AV} {n : Nat} {fn : Func} {e : Exit} {rv : ResultVar} {k : Nat} (he : e = .ret ∨ e = .normal) (hr : fn.results.toList = [rv]) (h : ResOf P fr H rv (.d (.v (.slice none 0 0)))) (hD : ∀ l, ¬ C.D0 l) :
    EndQ P C fn (.own k ⟨0, []⟩ 0 0) (upd H0 ⟨0, []⟩ (some ⟨k, []⟩)) e ⟨fr, H, n⟩ := by
  refine end1 he hr h rfl ((Le.nilR k (.nil (l := ⟨n, []⟩))).trans (Le.head [(⟨0, []⟩, ⟨n, []⟩, ⟨k, []⟩)] (n' := 1) (fun l h => absurd h (hD l)) ?_ ?_ (by simp) (by simp) (by simp [AllP])))
  · exact ⟨⟨_, upd_same .., rfl, rfl, fun i r r' h => by simp at h⟩, trivial⟩
  · exact ARs.cons (AR.own k ⟨0, []⟩ 0 0 (by simp [heapL, upd])) ARs.nil
/-- Rows of data, appended. -/
theorem Ok.appendD [Mode] {A : Operand → AV} {new : Nat} {t t' e e' : TypeId} {ts : Array TypeId} {s x : Operand} {k b b' n m : Nat} {z z' : Value} {rows R : List (List D)} {l : Loc} (ho : o.op = .call { callee := .builtin .append, args := #[s, x], argTypes := ts }) (hts : ts = #[t, t']) [h : TySlice P t e k b z] [h' : TySlice P t' e' k b' z'] (hk0 : 0 < k)
    (hs : A s = .own k l 0 n) (hl : H l = some (dobj k rows)) (hn : rows.length = n) (hx : A x = .d (.sl k R)) (hR : R.length = m) (hk : ∀ r ∈ R, r.length = k) (hone : ∀ r ∈ R, (r.map AV.d).all AV.one = true) (hsz : (n + m) * b ≤ 140737488355328) (h63 : n + m ≤ 9223372036854775807) :
    OpOk P o A [l] H new (.own k ⟨new, []⟩ 0 (n + m)) [.one l none, .one ⟨new, []⟩ (some (dobj k (rows ++ R)))] := by
  subst hR
  have hd : (dobj k rows).rows.length = n := by simp [dobj, hn]
  have := OpOk.append (P := P) (H := H) (new := new) (A := A) (S := rows.map fun r => r.map .d) (R := R.map fun r => r.map .d) (rd := []) (rs := [l]) (wr := [.one l none, .one ⟨new, []⟩ (some ⟨k, (rows.map fun r => r.map .d) ++ R.map fun r => r.map .d⟩)]) (n := n) ho hts hk0
    (.inl ⟨l, _, hs, hl, rfl, by rw [hd]; exact Nat.le_refl _, by simp only [dobj]; rw [List.take_of_length_le (by simp [hn])], rfl, rfl⟩) (by rw [hx]; exact .data R hk) (by intro r hr; obtain ⟨r', hr', rfl⟩ := List.mem_map.1 hr; exact hone r' hr') (by simpa using hsz) (by simpa using h63)
  simpa [dobj] using this
theorem Ok.build0 [Mode] {A : Operand → AV} {new : Nat} {t : TypeId} {pl : List (Nat × Nat)} {zs : List Value} {cs : List AV} (ho : o.op = .build t #[]) [h : TyBuild P t pl zs] (hc : zs.map (fun x => AV.d (.v x)) = cs) : OpOk P o A [] H new (.agg cs) [] :=
  OpOk.build ho (by simp) rfl hc
/-- Rows of data, cut at their end, or at their start. -/
theorem Ok.sliceTo [Mode] {A : Operand → AV} {new : Nat} {α : Type} {row : α → List D} {xs : List α} {t e : TypeId} {x y : Operand} {k b : Nat} {i : Int} {z : Value} (ho : o.op = .slice t x none (some y) none) [h : TySlice P t e k b z] (hx : A x = .d (.sl k (xs.map row))) (hy : A y = I i) (h0 : 0 ≤ i) (h1 : i ≤ xs.length) : OpOk P o A [] H new (.d (.sl k ((xs.take i.toNat).map row))) [] := by
  have := OpOk.sliceD (P := P) (H := H) (new := new) (A := A) (hb := i.toNat) ho hx BndIs.none (BndIs.some hy h0 rfl) (Nat.zero_le _) (by simp; omega)
  simpa [List.map_take] using this
theorem Ok.sliceFrom [Mode] {A : Operand → AV} {new : Nat} {α : Type} {row : α → List D} {xs : List α} {t e : TypeId} {x y : Operand} {k b : Nat} {i : Int} {z : Value} (ho : o.op = .slice t x (some y) none none) [h : TySlice P t e k b z] (hx : A x = .d (.sl k (xs.map row))) (hy : A y = I i) (h0 : 0 ≤ i) (h1 : i ≤ xs.length) : OpOk P o A [] H new (.d (.sl k ((xs.drop i.toNat).map row))) [] := by
  have := OpOk.sliceD (P := P) (H := H) (new := new) (A := A) (l := i.toNat) ho hx (BndIs.some hy h0 rfl) BndIs.none (by simp; omega) (Nat.le_refl _)
  rw [List.take_of_length_le (by simp)] at this
  simpa [List.map_drop] using this
/-- The end of a function that hands back a struct of a number and a nil slice, and a number. -/
theorem end2nilG [Mode] {fr : List AV} {n : Nat} {fn : Func} {e : Exit} {rv rv' : ResultVar} {k : Nat} {y0 y : D} {c0 : AV} (he : e = .ret ∨ e = .normal) (hr : fn.results.toList = [rv, rv']) (h : ResOf P fr H rv c0) (hc0 : c0 = .agg [.d y0, .d (.v (.slice none 0 0))]) (h' : ResOf P fr H rv' (.d y)) (hD : ∀ l, ¬ C.D0 l) :
    EndQ P C fn (.tup [.agg [.d y0, .own k ⟨0, []⟩ 0 0], .d y]) (upd H0 ⟨0, []⟩ (some ⟨k, []⟩)) e ⟨fr, H, n⟩ := by
  subst hc0
  refine end2 he hr h h' rfl ((Le.nilR k (.tup [.agg [.d y0, .d (.v (.slice none 0 0))], .d y] [.agg [.d y0, .own k ⟨n, []⟩ 0 0], .d y] rfl fun i c c' h1 h2 => ?_)).trans (Le.head [(⟨0, []⟩, ⟨n, []⟩, ⟨k, []⟩)] (n' := 1) (fun l h => absurd h (hD l)) ?_ ?_ (by simp) (by simp) (by simp [AllP])))
  · match i with
    | 0 =>
      simp at h1 h2; subst h1; subst h2
      refine .agg _ _ rfl fun i c c' h1 h2 => ?_
      match i with
      | 0 => simp at h1 h2; subst h1; subst h2; exact .refl _
      | 1 => simp at h1 h2; subst h1; subst h2; exact .nil
      | i + 2 => simp at h1
    | 1 => simp at h1 h2; subst h1; subst h2; exact .refl _
    | i + 2 => simp at h1
  · exact ⟨⟨_, upd_same .., rfl, rfl, fun i r r' h => by simp at h⟩, trivial⟩
  · exact ARs.cons (ARs.tup (ARs.cons (ARs.agg (ARs.cons (AR.dd _) (ARs.cons (AR.own k ⟨0, []⟩ 0 0 (by simp [heapL, upd])) ARs.nil))) (ARs.cons (AR.dd _) ARs.nil))) ARs.nil
end
end Go.Proofs.YtofakjlamoigcaaDoor
end

section
namespace Go.Proofs.YtofakjlamoigcaaDoor
open Go Go.RowKit
set_option linter.unusedSimpArgs false
set_option linter.unusedVariables false

/-- A string, told by its bytes. -/
abbrev Str (l : List UInt8) : AV := .d (.v (.string ⟨l.toArray⟩))
/-- A string as data. -/
abbrev StrD (l : List UInt8) : D := .v (.string ⟨l.toArray⟩)
/-- A byte. -/
abbrev Byt (c : UInt8) : AV := .d (.v (.int .u8 c.toNat))
abbrev BytD (c : UInt8) : D := .v (.int .u8 c.toNat)
/-- Bytes as rows. -/
def byR (l : List UInt8) : List (List D) := l.map fun c => [BytD c]
theorem size_mk [Mode] (l : List UInt8) : (ByteArray.mk l.toArray).size = l.length := by simp [ByteArray.size]
theorem mk_append [Mode] (a b : List UInt8) : ByteArray.mk a.toArray ++ ByteArray.mk b.toArray = ByteArray.mk (a ++ b).toArray := by
  apply ByteArray.ext
  simp [ByteArray.data_append]
theorem mk_inj [Mode] {a b : List UInt8} (h : ByteArray.mk a.toArray = ByteArray.mk b.toArray) : a = b := by
  have := congrArg (fun s : ByteArray => s.data.toList) h
  simpa using this
section
variable {P : Program} {o : Oper} {A : Operand → AV} {H : Heap} {new : Nat} {t t' : TypeId} {x y : Operand} {a b : List UInt8}
theorem Ok.sjoin [Mode] (ho : o.op = .binOp .add t x y t') (hx : A x = Str a) (hy : A y = Str b) (h : a.length + b.length ≤ 9223372036854775807) : OpOk P o A [] H new (Str (a ++ b)) [] := by
  have := Ok.sadd (P := P) (H := H) (new := new) ho hx hy (by rw [size_mk, size_mk]; exact h)
  rwa [mk_append] at this
theorem Ok.slen [Mode] (ho : o.op = .call { callee := .builtin .len, args := #[x], argTypes := #[t] }) (hx : A x = Str a) [TyString P t] : OpOk P o A [] H new (I a.length) [] := by
  have := Ok.lenS (P := P) (H := H) (new := new) (t := t) ho hx
  rwa [size_mk] at this
theorem Ok.seqS [Mode] (ho : o.op = .binOp .eql t x y t') (hx : A x = Str a) (hy : A y = Str b) : OpOk P o A [] H new (Bo (decide (a = b))) [] := by
  have := Ok.seql (P := P) (H := H) (new := new) ho hx hy
  have e : decide (ByteArray.mk a.toArray = ByteArray.mk b.toArray) = decide (a = b) := by
    by_cases h : a = b
    · simp [h]
    · have : ¬ ByteArray.mk a.toArray = ByteArray.mk b.toArray := fun e => h (mk_inj e)
      simp [h, this]
  rwa [e] at this
theorem Ok.sneS [Mode] (ho : o.op = .binOp .neq t x y t') (hx : A x = Str a) (hy : A y = Str b) : OpOk P o A [] H new (Bo (decide (a ≠ b))) [] := OpOk.bin ho hx hy rfl fun w => by
  have : ((ByteArray.mk a.toArray).toList != (ByteArray.mk b.toArray).toList) = decide (a ≠ b) := by
    by_cases h : a = b <;> simp [h]
  simp only [binOp, Op.stringOp]
  have e : (!((ByteArray.mk a.toArray).toList == (ByteArray.mk b.toArray).toList)) = decide (a ≠ b) := this
  rw [e]; rfl
theorem Ok.sidx [Mode] {k : IntKind} {i : Int} {c : UInt8} (ho : o.op = .index t x y) (hx : A x = Str a) (hy : A y = .d (.v (.int k i))) [h : TyString P t] (h0 : 0 ≤ i) (hc : a[i.toNat]? = some c) : OpOk P o A [] H new (Byt c) [] :=
  .known2 hx hy (by simp [ho, Op.operands]) (by simp [ho, Op.operands]) fun ρ w h1 h2 => by
    have hlt := (List.getElem?_eq_some_iff.1 hc).1
    have hsz : i.toNat < (ByteArray.mk a.toArray).size := by rw [size_mk]; exact hlt
    have hcond : 0 ≤ i ∧ i < (ByteArray.mk a.toArray).size := ⟨h0, by omega⟩
    have he : (ByteArray.mk a.toArray)[i.toNat]'(by omega) = c := by
      have h3 := (List.getElem?_eq_some_iff.1 hc).2
      rw [← h3]; rfl
    simp only [execOp, ho, h1, h2, Sem.run_bind, run_index_string (P := P) w t _ k i h.u, dif_pos hcond, Result.andThen_ok, he]
    rfl
theorem ext_mk [Mode] (a : List UInt8) (i j : Nat) : (ByteArray.mk a.toArray).extract i j = ByteArray.mk ((a.drop i).take (j - i)).toArray := ByteArray.extract_mk a i j
/-- A string cut. -/
theorem OpOk.scut [Mode] {lo hi : Option Operand} {l hb : Nat} (ho : o.op = .slice t x lo hi none) (hx : A x = Str a) [h : TyString P t] (hlo : BndIs A lo 0 l) (hhi : BndIs A hi a.length hb) (hl : l ≤ hb) (hh : hb ≤ a.length) : OpOk P o A [] H new (Str ((a.drop l).take (hb - l))) [] :=
  .still [] fun ι F w H1 ρ _ _ hv => by
    have h1 := hv x (by simp [ho, Op.operands])
    rw [hx] at h1
    have h2 := h1.v_inv
    refine ⟨.string ⟨((a.drop l).take (hb - l)).toArray⟩, ?_, .d (.v _)⟩
    have vlo := hlo.val (ρ := ρ) fun y hy => hv y (by subst hy; simp [ho, Op.operands])
    have vhi := hhi.val (ρ := ρ) fun y hy => hv y (by subst hy; simp [ho, Op.operands])
    have key : (Instr.sliceAt t (.string ⟨a.toArray⟩) (lo.map ρ) (hi.map ρ) none).run P w = .ok (.string ⟨((a.drop l).take (hb - l)).toArray⟩) w := by
      rw [run_sliceAt_string (P := P) w t _ _ _ _ h.u]
      have hsz := size_mk a
      rcases vlo with ⟨e1, e2⟩ | ⟨k1, i1, e1, p1, q1⟩ <;> rcases vhi with ⟨e3, e4⟩ | ⟨k2, i2, e3, p2, q2⟩
      · rw [e1, e3]; subst e2 e4
        rw [run_slice_string_all (P := P) w t _ h.u, hsz, ext_mk]
      · rw [e1, e3]; subst e2
        rw [run_slice_string_to_if (P := P) w t _ k2 i2 h.u, if_pos ⟨p2, by rw [hsz]; omega⟩, ext_mk, q2]
      · rw [e1, e3]; subst e4
        rw [run_slice_string_from_if (P := P) w t _ k1 i1 h.u, if_pos ⟨p1, by rw [hsz]; omega⟩, hsz, ext_mk, q1]
      · rw [e1, e3]
        rw [run_slice_string (P := P) w t _ k1 k2 i1 i2 h.u p1 (by omega) (by rw [hsz]; omega), ext_mk, q1, q2]
    simp only [execOp, ho, h2, Option.map_none, Sem.run_bind, key, Result.andThen_ok]
    rfl
theorem Ok.sTo [Mode] {hi : Operand} {j : Nat} {jz : Int} (ho : o.op = .slice t x none (some hi) none) (hx : A x = Str a) (hj : A hi = I jz) [h : TyString P t] (e : jz = j) (hh : j ≤ a.length) : OpOk P o A [] H new (Str (a.take j)) [] := by
  have := OpOk.scut (P := P) (H := H) (new := new) (l := 0) (hb := j) ho hx (.inl ⟨rfl, rfl⟩) (.inr ⟨hi, .i64, jz, rfl, hj, by omega, by omega⟩) (Nat.zero_le _) hh
  simpa using this
theorem Ok.sFrom [Mode] {lo : Operand} {j : Nat} {jz : Int} (ho : o.op = .slice t x (some lo) none none) (hx : A x = Str a) (hj : A lo = I jz) [h : TyString P t] (e : jz = j) (hh : j ≤ a.length) : OpOk P o A [] H new (Str (a.drop j)) [] := by
  have := OpOk.scut (P := P) (H := H) (new := new) (l := j) (hb := a.length) ho hx (.inr ⟨lo, .i64, jz, rfl, hj, by omega, by omega⟩) (.inl ⟨rfl, rfl⟩) hh (Nat.le_refl _)
  rw [List.take_of_length_le (by simp)] at this
  exact this
theorem Ok.sBoth [Mode] {lo hi : Operand} {i j : Nat} {iz jz : Int} (ho : o.op = .slice t x (some lo) (some hi) none) (hx : A x = Str a) (hi' : A lo = I iz) (hj : A hi = I jz) [h : TyString P t] (e : iz = i) (e' : jz = j) (hij : i ≤ j) (hh : j ≤ a.length) : OpOk P o A [] H new (Str ((a.drop i).take (j - i))) [] :=
  OpOk.scut (P := P) (H := H) (new := new) (l := i) (hb := j) ho hx (.inr ⟨lo, .i64, iz, rfl, hi', by omega, by omega⟩) (.inr ⟨hi, .i64, jz, rfl, hj, by omega, by omega⟩) hij hh
/-- Bytes of one's own, turned into a string. -/
theorem foldl_push [Mode] (ns : List UInt8) : ∀ s : ByteArray, (ns.map fun c : UInt8 => (c.toNat : Int)).foldl (fun r n => r.push (UInt8.ofNat n.toNat)) s = s ++ ByteArray.mk ns.toArray := by
  induction ns with
  | nil =>
    intro s
    apply ByteArray.ext
    simp [ByteArray.data_append]
  | cons c ns ih =>
    intro s
    simp only [List.map_cons, List.foldl_cons]
    rw [ih]
    apply ByteArray.ext
    simp [ByteArray.data_append, ByteArray.push]
theorem Ok.strOf [Mode] {src e : TypeId} {l : Loc} {n : Nat} (ho : o.op = .convert src t x) (hx : A x = .own 1 l 0 n) (hl : H l = some (dobj 1 (byR a))) (hn : a.length = n) {b : Nat} {z : Value} [hs : TySlice P src e 1 b z] [hd : TyString P t] (he : P.underlying e = some (.int .u8)) : OpOk P o A [l] H new (Str a) [] :=
  .still [l] fun ι F w H1 ρ hH hsim hv => by
    have h1 := hv x (by simp [ho, Op.operands])
    rw [hx] at h1
    refine ⟨.string ⟨a.toArray⟩, ?_, .d (.v _)⟩
    have hl1 := (hH l (.mem (by simp))).trans hl
    have hrun : ∀ v, ρ x = v → (convert src t v).run P w = .ok (.string ⟨a.toArray⟩) w → (execOp ρ o).run P w = .ok (.value (.string ⟨a.toArray⟩)) w := fun v hv hr => by
      simp only [execOp, ho, hv, Sem.run_bind, hr, Result.andThen_ok]
      rfl
    rcases h1.own_inv with ⟨g, sz, cap, eι, hcap, hfit, hp⟩ | ⟨eι, _, hn0, hp⟩
    · refine hrun _ hp ?_
      rw [run_convert_bytes_string (P := P) w src t e _ _ _ hs.u he hd.u]
      rcases hsim.obj l _ hl1 with ⟨e', _⟩ | ⟨g', cs, T, e', hb, hlen, hrows⟩
      · rw [eι] at e'; cases e'
      · rw [eι] at e'; simp only [Option.some.injEq, Prod.mk.injEq] at e'
        obtain ⟨rfl, rfl⟩ := e'
        have hcell : ∀ i (hi : i < a.length), w.cell? ⟨g, i, none⟩ = some (.int .u8 a[i].toNat) := fun i hi => by
          have hr : (dobj 1 (byR a)).rows[i]? = some [Byt a[i]] := by simp [dobj, byR, hi]
          obtain ⟨_, h3⟩ := hrows i _ hr
          obtain ⟨v, h4, h5⟩ := h3 0 (Byt a[i]) rfl
          have h6 := h5.v_inv
          subst h6
          have := cell_of_cells (w := w) hb h4
          simpa [dobj] using this
        have hload : (loadCells ⟨g, 0 * 1, none⟩ n).run P w = .ok (((a.map fun c : UInt8 => (c.toNat : Int)).map (Value.int .u8)).toArray) w := by
          have key := run_firstCells_some (P := P) w 1 n ⟨g, 0 * 1, none⟩ n cap ((a.map fun c : UInt8 => (c.toNat : Int)).map (Value.int .u8)) (by simp [hn]) (fun j v hj => ?_)
          · simpa [Builtin.firstCells] using key
          simp only [List.getElem?_map, Option.map_map, Option.map_eq_some_iff] at hj
          obtain ⟨c, hc, rfl⟩ := hj
          have hlt := (List.getElem?_eq_some_iff.1 hc).1
          have := hcell j hlt
          rw [addr_add]
          simp only [Nat.zero_mul, Nat.zero_add]
          rw [this, ← (List.getElem?_eq_some_iff.1 hc).2]; rfl
        rw [run_bytesToString (P := P) w _ n cap _ hload, foldl_push]
        congr 2
    · refine hrun _ hp ?_
      rw [run_convert_bytes_string (P := P) w src t e _ _ _ hs.u he hd.u]
      have : a = [] := List.length_eq_zero_iff.1 (by omega)
      subst this
      simp [Conv.bytesToString]; rfl
end
end Go.Proofs.YtofakjlamoigcaaDoor
end

section
namespace Go.Proofs.YtofakjlamoigcaaDoor
open Go Go.RowKit
set_option linter.unusedSimpArgs false
set_option linter.unusedVariables false

theorem AC.ofCalls [Mode] {P : Program} {f : FuncId} {args : List AV} {res : AV}
    (h : ∀ (ι : Iota) (F : Nat → Prop) (w : World) (vs : List Value), Sim ι F H0 w → VRs ι F w args vs → Calls P f vs.toArray w fun e w' => ∃ v, e = .returned v ∧ (∀ ι F, VR ι F w' res v) ∧ Below w.heap.size w w') : AC P f args H0 res H0 := by
  intro ι F w vs hs hdom hv
  refine (h ι F w vs hs hv).mono ?_
  rintro e w' ⟨v, rfl, hr, hb⟩
  exact ⟨v, ι, F, rfl, hr _ _, ⟨fun l o h => (by cases h), fun l l' b s s' h => absurd rfl h, fun l b s h => absurd rfl h, fun b hb' => Nat.lt_of_lt_of_le (hs.lt b hb') hb.size, hs.gl.mono (fun _ h => h) (fun b hb' => hb.block b (hs.lt b hb'))⟩,
    ⟨hb.os, hb.tape, hb.output, hb.size, fun b hb' _ => hb.block b hb'⟩, fun _ h => h, fun _ h => .inl h, fun b ⟨l, h, _⟩ => absurd rfl h, fun l x h => absurd rfl h⟩
theorem VRs.inv2 [Mode] {ι : Iota} {F : Nat → Prop} {w : World} {a b : Value} {vs : List Value} (h : VRs ι F w [.d (.v a), .d (.v b)] vs) : vs = [a, b] := by
  obtain ⟨hl, hv⟩ := h
  match vs, hl with
  | [v, u], _ => rw [(hv 0 _ v rfl rfl).v_inv, (hv 1 _ u rfl rfl).v_inv]
/-- What the world at the beginning held is held still. -/
theorem Glb.held [Mode] {F : Nat → Prop} {w : World} (h : Glb F w) : ∃ w0 : World, Mode.good w0 ∧ (∀ a v, w0.cell? a = some v → w.cell? a = some v) ∧ ∀ (P : Program) (name : String) (cs : Array Value), w0.var? P name = some cs → w.var? P name = some cs := by
  obtain ⟨w0, hg, h⟩ := h
  refine ⟨w0, hg, fun a v hc => ?_, fun P name cs hc => ?_⟩
  · have hlt : a.block < w0.heap.size := by
      refine Nat.lt_of_not_le fun hn => ?_
      have hb : w0.heap[a.block]? = none := by simp [hn]
      simp [World.cell?, hb] at hc
    exact (World.cell?_of_block (w := w0) (h _ hlt).2).trans hc
  · unfold World.var? at hc ⊢
    rw [Option.bind_eq_some_iff] at hc ⊢
    obtain ⟨g, h1, h2⟩ := hc
    refine ⟨g, h1, ?_⟩
    have hlt : g < w0.heap.size := by
      refine Nat.lt_of_not_le fun hn => ?_
      have hb : w0.heap[g]? = none := by simp [hn]
      simp [hb] at h2
    rw [(h _ hlt).2]; exact h2
end Go.Proofs.YtofakjlamoigcaaDoor
end

section
namespace Go.Proofs.YtofakjlamoigcaaDoor
open Go Go.RowKit
set_option linter.unusedSimpArgs false
set_option linter.unusedVariables false

/-! ### The capacity forgotten -/
def fgt : AV → AV
  | .ownc k l off n _ => .own k l off n
  | a => a
theorem VR.fgt [Mode] {ι : Iota} {F : Nat → Prop} {w : World} {a : AV} {v : Value} (h : VR ι F w a v) : VR ι F w (fgt a) v := by
  cases h with
  | ownc k l off n cap b sz h hn hs => exact .own k l off n b sz cap h hn hs
  | owncNil k l h => exact .ownNil k l h
  | d h => exact .d h
  | agg cs vs hl h => exact .agg cs vs hl h
  | tup cs vs hl h => exact .tup cs vs hl h
  | own k l off n b sz cap h hn hs => exact .own k l off n b sz cap h hn hs
  | ownNil k l h => exact .ownNil k l h
  | ptr k l i j b sz h => exact .ptr k l i j b sz h
  | dptr cs b off g hF h hd => exact .dptr cs b off g hF h hd
  | clo fn fs cs fv cv hf hc h h' => exact .clo fn fs cs fv cv hf hc h h'
  | dead v => exact .dead v
section
variable {P : Program} {o : Oper} {A : Operand → AV} {H : Heap} {new : Nat}
theorem OpOk.forget [Mode] {reads : List Loc} {val : AV} {wr : List W} (h : OpOk P o (fun x => fgt (A x)) reads H new val wr) : OpOk P o A reads H new val wr :=
  fun ι F w H1 ρ h1 h2 h3 h4 => h ι F w H1 ρ h1 h2 h3 fun x hx => (h4 x hx).fgt

/-! ### Rows of a place overwritten -/
theorem Post.rows [Mode] {ι : Iota} {F : Nat → Prop} {w : World} {H : Heap} (hs : Sim ι F H w) {l : Loc} {ob : AObj} {b off c : Nat} {cs news : List Value} {T : TypeId} {R : List (List AV)} (hl : H l = some ob) (he : ι l = some (some (b, cs.length))) (hb : w.heap[b]? = some (.cells cs.toArray T (0, 0))) (hoff : off ≤ ob.rows.length)
    (hfit : (off + c) * ob.k ≤ cs.length) (hlen : ob.rows.length * ob.k ≤ cs.length) (hrows : ∀ (i : Nat) r, ob.rows[i]? = some r → r.length = ob.k ∧ ∀ (j : Nat) c, r[j]? = some c → ∃ v, cs[i * ob.k + j]? = some v ∧ VR ι F w c v) (hnl : news.length = c * ob.k) (hRl : R.length = c)
    (hcell : ∀ (i : Nat) r, R[i]? = some r → r.length = ob.k ∧ ∀ (j : Nat) c, r[j]? = some c → ∃ u, news[i * ob.k + j]? = some u ∧ VR ι F w c u) (reads : List Loc) (hr : Cov reads l) (new : Nat) :
    Post ι F H w reads new ι F (upd H l (some ⟨ob.k, ob.rows.take off ++ R ++ ob.rows.drop (off + c)⟩)) (w.setRow b (cs.take (off * ob.k) ++ news ++ cs.drop (off * ob.k + news.length)).toArray) := by
  have hfit2 : off * ob.k + c * ob.k ≤ cs.length := by rw [← Nat.add_mul]; exact hfit
  have hlen' : (cs.take (off * ob.k) ++ news ++ cs.drop (off * ob.k + news.length)).length = cs.length := by
    simp only [List.length_append, List.length_take, List.length_drop, hnl]; omega
  have htl : (cs.take (off * ob.k)).length = off * ob.k := by simp; omega
  have hTl : (ob.rows.take off).length = off := by simp; omega
  refine Post.write hs hl he hb hlen' (o' := ⟨ob.k, ob.rows.take off ++ R ++ ob.rows.drop (off + c)⟩) ?_ (fun i r hr' => ?_) reads hr new
  · rw [hlen']
    simp only [List.length_append, hTl, hRl, List.length_drop]
    rcases Nat.le_total ob.rows.length (off + c) with h | h
    · rw [Nat.sub_eq_zero_of_le h, Nat.add_zero]; exact hfit
    · rw [Nat.add_sub_cancel' h]; exact hlen
  · rw [List.append_assoc, List.getElem?_append, hTl] at hr'
    show r.length = ob.k ∧ ∀ (j : Nat) c_1, r[j]? = some c_1 → ∃ v, (cs.take (off * ob.k) ++ news ++ cs.drop (off * ob.k + news.length))[i * ob.k + j]? = some v ∧ VR ι F w c_1 v
    split at hr'
    · rename_i hin
      rw [List.getElem?_take, if_pos hin] at hr'
      obtain ⟨h1, h2⟩ := hrows i r hr'
      refine ⟨h1, fun j c hc => ?_⟩
      obtain ⟨u, h3, h4⟩ := h2 j c hc
      refine ⟨u, ?_, h4⟩
      have hj : j < ob.k := by rw [← h1]; exact (List.getElem?_eq_some_iff.1 hc).1
      have hlt : i * ob.k + j < off * ob.k := by
        have : (i + 1) * ob.k ≤ off * ob.k := Nat.mul_le_mul_right _ hin
        rw [Nat.succ_mul] at this; omega
      rw [List.append_assoc, List.getElem?_append_left (by omega), List.getElem?_take, if_pos hlt]; exact h3
    · rename_i hin
      rw [List.getElem?_append, hRl] at hr'
      split at hr'
      · rename_i hin2
        obtain ⟨h1, h2⟩ := hcell (i - off) r hr'
        refine ⟨h1, fun j c hc => ?_⟩
        obtain ⟨u, h3, h4⟩ := h2 j c hc
        refine ⟨u, ?_, h4⟩
        have h3l := (List.getElem?_eq_some_iff.1 h3).1
        have hik : i * ob.k = off * ob.k + (i - off) * ob.k := by rw [← Nat.add_mul]; congr 1; omega
        rw [List.getElem?_append_left (by rw [List.length_append, htl]; omega), List.getElem?_append_right (by rw [htl]; omega), htl, show i * ob.k + j - off * ob.k = (i - off) * ob.k + j by omega]
        exact h3
      · rename_i hin2
        rw [List.getElem?_drop, show off + c + (i - off - c) = i by omega] at hr'
        obtain ⟨h1, h2⟩ := hrows i r hr'
        refine ⟨h1, fun j c' hc => ?_⟩
        obtain ⟨u, h3, h4⟩ := h2 j c' hc
        refine ⟨u, ?_, h4⟩
        have hge : off * ob.k + c * ob.k ≤ i * ob.k := by rw [← Nat.add_mul]; exact Nat.mul_le_mul_right _ (by omega)
        rw [List.getElem?_append_right (by rw [List.length_append, htl, hnl]; omega), List.length_append, htl, List.getElem?_drop, show off * ob.k + news.length + (i * ob.k + j - (off * ob.k + news.length)) = i * ob.k + j by rw [hnl]; omega]
        exact h3

/-! ### Copies -/
theorem run_copy_at [Mode] {t t' ty e : TypeId} {k b : Nat} {z : Value} [h : TySlice P t e k b z] {g o dLen dCap m c n : Nat} {a : Option Addr} {cs news : List Value} {T : TypeId} {v : Value} {w : World} (hv : v = .slice a m c) (hn : n = Nat.min m dLen) (hf : (Builtin.firstCells k n v).run P w = .ok news.toArray w)
    (hb : w.heap[g]? = some (.cells cs.toArray T (0, 0))) (h1 : ∀ u ∈ news, u.oneCell' = true) (hfit : o + news.length ≤ cs.length) :
    (Builtin.copy_ #[t, t'] ty #[.slice (some ⟨g, o, none⟩) dLen dCap, v]).run P w = .ok (goInt n) (w.setRow g (cs.take o ++ news ++ cs.drop (o + news.length)).toArray) := by
  obtain ⟨i, hi, rfl, rfl, hz⟩ := rows_eq (P := P) (t := t) (e := e) (k := k) (b := b) (z := z)
  subst hv hn
  have hst := run_storeCells_at P g o T news 0 cs.toArray w hb (by simpa using hfit) h1
  simp only [Nat.add_zero] at hst
  simp only [Builtin.copy_, run_underlying h.u, sizeOf, typeInfo, hi, Builtin.lenOf, List.getElem?_toArray, List.getElem?_cons_zero, List.getElem?_cons_succ, Sem.run_bind, Sem.run_pure, Result.andThen_ok, run_program, hf, hst]
theorem run_copy_none [Mode] {t t' ty e : TypeId} {k b : Nat} {z : Value} [h : TySlice P t e k b z] {m c : Nat} {a : Option Addr} {cs : Array Value} {v : Value} {w : World} (hv : v = .slice a m c) (hf : (Builtin.firstCells k 0 v).run P w = .ok cs w) :
    (Builtin.copy_ #[t, t'] ty #[.slice none 0 0, v]).run P w = .ok (goInt 0) w := by
  obtain ⟨i, hi, rfl, rfl, hz⟩ := rows_eq (P := P) (t := t) (e := e) (k := k) (b := b) (z := z)
  subst hv
  simp [Builtin.copy_, run_underlying h.u, sizeOf, typeInfo, hi, Builtin.lenOf, hf]
theorem Ok.cellOf [Mode] {k : Nat} {R : List (List AV)} (hk0 : 0 < k) {ι : Iota} {F : Nat → Prop} {w : World} {news : List Value} (hone : ∀ r ∈ R, r.all AV.one = true) (hlen : news.length = R.length * k) (h : ∀ (i : Nat) r, R[i]? = some r → r.length = k ∧ ∀ (j : Nat) c, r[j]? = some c → ∃ u, news[i * k + j]? = some u ∧ VR ι F w c u) : ∀ u ∈ news, u.oneCell' = true := by
  intro u hu
  obtain ⟨q, hq⟩ := List.getElem?_of_mem hu
  have hql : q < R.length * k := by rw [← hlen]; exact (List.getElem?_eq_some_iff.1 hq).1
  have hqi : q / k < R.length := (Nat.div_lt_iff_lt_mul hk0).2 hql
  obtain ⟨h1, h2⟩ := h (q / k) _ (List.getElem?_eq_getElem hqi)
  have hqj : q % k < R[q / k].length := by rw [h1]; exact Nat.mod_lt _ hk0
  obtain ⟨u', h3, h4⟩ := h2 (q % k) _ (List.getElem?_eq_getElem hqj)
  rw [Nat.div_add_mod', hq] at h3
  cases h3
  exact h4.one (List.all_eq_true.1 (hone _ (List.getElem_mem hqi)) _ (List.getElem_mem hqj))
theorem SrcIs.congr [Mode] {H H1 : Heap} {k : Nat} {a : AV} {R : List (List AV)} {rd : List Loc} (h : SrcIs H k a R rd) (hH : ∀ l ∈ rd, H1 l = H l) : SrcIs H1 k a R rd := by
  cases h with
  | data rows hk => exact .data rows hk
  | own l off n ob hl hk hn => exact .own l off n ob ((hH l (by simp)).trans hl) hk hn
  | nil => exact .nil
/-- A row read as a shorter one. -/
theorem VR.shorter [Mode] {ι : Iota} {F : Nat → Prop} {w : World} {k off n m c : Nat} {l : Loc} {a : Option Addr} (h : VR ι F w (.own k l off n) (.slice a n c)) (hm : m ≤ n) : VR ι F w (.own k l off m) (.slice a m c) := by
  rcases h.own_inv with ⟨b, sz, cap, e, h1, h2, h3⟩ | ⟨e, rfl, rfl, h3⟩
  · cases h3; exact .own k l off m b sz _ e (Nat.le_trans hm h1) h2
  · cases h3
    have : m = 0 := by omega
    subst this; exact .ownNil k l e
theorem firstCells_len [Mode] {k n m m' c : Nat} {a : Option Addr} : Builtin.firstCells k n (.slice a m c) = Builtin.firstCells k n (.slice a m' c) := by cases a <;> rfl
/-- A copy into a row of one's own, of as many rows as the source says: n of them. -/
theorem OpOk.copyC [Mode] {t t' e : TypeId} {ts : Array TypeId} {d x : Operand} {k b n m off : Nat} {z : Value} {l : Loc} {ob : AObj} {R : List (List AV)} {rd : List Loc} (ho : o.op = .call { callee := .builtin .copy, args := #[d, x], argTypes := ts }) (hts : ts = #[t, t']) [h : TySlice P t e k b z] (hk0 : 0 < k)
    (hd : A d = .own k l off n) (hl : H l = some ob) (hk : ob.k = k) (hn : off + n ≤ ob.rows.length)
    (hx : (SrcIs H k (A x) R rd ∧ R.length = m ∧ m ≤ n) ∨ (∃ l' off' m' ob', A x = .own k l' off' m' ∧ n ≤ m' ∧ m = n ∧ H l' = some ob' ∧ ob'.k = k ∧ off' + m' ≤ ob'.rows.length ∧ R = (ob'.rows.drop off').take n ∧ rd = [l'])) (hone : ∀ r ∈ R, r.all AV.one = true) :
    OpOk P o A (l :: rd) H new (I (m : Nat)) [.one l (some ⟨k, ob.rows.take off ++ R ++ ob.rows.drop (off + m)⟩)] := by
  intro ι F w H1 ρ hH hnew hs hv
  subst hk
  have hvd := hv d (by simp [ho, Op.operands, Call.operands])
  have hvx := hv x (by simp [ho, Op.operands, Call.operands])
  have hl1 := (hH l (.mem (by simp))).trans hl
  rw [hd] at hvd
  -- the source
  have hsrc : ∃ (a : Option Addr) (ms cap : Nat) (news : List Value), ρ x = .slice a ms cap ∧ Nat.min ms n = m ∧ R.length = m ∧ news.length = R.length * ob.k ∧ (Builtin.firstCells ob.k m (.slice a ms cap)).run P w = .ok news.toArray w ∧
      ∀ (i : Nat) r, R[i]? = some r → r.length = ob.k ∧ ∀ (j : Nat) c, r[j]? = some c → ∃ u, news[i * ob.k + j]? = some u ∧ VR ι F w c u := by
    rcases hx with ⟨hx, hRl, hmn⟩ | ⟨l', off', m', ob', hA, hnm, rfl, hl', hk', hn', hR, rfl⟩
    · obtain ⟨a, cap, news, hxv, hnl, hfc, hcell, hno⟩ := src_cells (P := P) hk0 (hx.congr fun l' hl' => hH l' (.mem (by simp [hl']))) hs hvx hone
      refine ⟨a, R.length, cap, news, hxv, ?_, hRl, hnl, ?_, hcell⟩
      · rw [hRl]; exact Nat.min_eq_left hmn
      · have := hfc w (fun _ => rfl); rw [hxv, hRl] at this; rw [hRl]; exact this
    · rw [hA] at hvx
      have hvx' : ∃ a cap, ρ x = .slice a m' cap := by
        rcases hvx.own_inv with ⟨b, sz, cap, _, _, _, e⟩ | ⟨_, _, rfl, e⟩
        · exact ⟨_, _, e⟩
        · exact ⟨_, _, e⟩
      obtain ⟨a, cap, hxv⟩ := hvx'
      rw [hxv] at hvx
      have hsh := hvx.shorter hnm
      have hRl : R.length = m := by rw [hR]; simp; omega
      obtain ⟨a2, cap2, news, hxv2, hnl, hfc, hcell, hno⟩ := src_cells (P := P) hk0 (SrcIs.own (H := H1) (k := ob.k) l' off' m ob' ((hH l' (.mem (by simp))).trans hl') hk' (by omega)) hs hsh (by rw [← hR]; exact hone)
      rw [← hR] at hxv2 hnl hfc hcell
      cases hxv2
      refine ⟨a, m', cap, news, hxv, Nat.min_eq_right hnm, hRl, hnl, ?_, hcell⟩
      rw [firstCells_len (m' := R.length)]; exact hfc w (fun _ => rfl)
  obtain ⟨a, ms, cap, news, hxv, hmin, hRl, hnl, hfc, hcell⟩ := hsrc
  have hno := Ok.cellOf hk0 hone hnl hcell
  have hmn : m ≤ n := by rw [← hmin]; exact Nat.min_le_right _ _
  have hrunop : ∀ r dv, ρ d = dv → (Builtin.copy_ #[t, t'] o.type #[dv, ρ x]).run P w = r → (execOp ρ o).run P w = r.andThen fun v w' => .ok (.value v) w' := fun r sv hsv hr => by
    subst hsv
    simp [execOp, ho, hts, resolve, invoke, builtin, hr]
  rcases hvd.own_inv with ⟨g, sz, dCap, eι, hcap, hfit, hdv⟩ | ⟨eι, h0, hn0, hdv⟩
  · rcases hs.obj l ob hl1 with ⟨e', _⟩ | ⟨g', cs, T, e', hb, hlen, hrows⟩
    · rw [eι] at e'; cases e'
    · rw [eι] at e'; simp only [Option.some.injEq, Prod.mk.injEq] at e'
      obtain ⟨rfl, rfl⟩ := e'
      have hfit1 : (off + m) * ob.k ≤ cs.length := Nat.le_trans (Nat.mul_le_mul_right _ (by omega)) hlen
      have hr := run_copy_at (P := P) (t := t) (t' := t') (ty := o.type) (e := e) (k := ob.k) (b := b) (z := z) (w := w) (g := g) (o := off * ob.k) (dLen := n) (dCap := dCap) (v := ρ x) (n := m) (news := news) (cs := cs) hxv hmin.symm (by rw [hxv]; exact hfc) hb hno (by rw [hnl, hRl, ← Nat.add_mul]; exact hfit1)
      rw [hrunop _ _ hdv hr]
      simp only [Result.andThen_ok]
      refine ⟨ι, F, .d (.v _), Post.rows hs hl1 eι hb (by omega) hfit1 hlen hrows (by rw [hnl, hRl]) hRl hcell _ (.mem (by simp)) new⟩
  · have hm0 : m = 0 := by omega
    subst hm0 h0 hn0
    have hR0 : R = [] := List.length_eq_zero_iff.1 hRl
    have hr := run_copy_none (P := P) (t := t) (t' := t') (ty := o.type) (e := e) (k := ob.k) (b := b) (z := z) (w := w) (v := ρ x) hxv (by rw [hxv]; exact hfc)
    rw [hrunop _ _ hdv hr]
    simp only [Result.andThen_ok]
    refine ⟨ι, F, .d (.v _), ?_⟩
    have : upds H1 [.one l (some ⟨ob.k, ob.rows.take 0 ++ R ++ ob.rows.drop (0 + 0)⟩)] = H1 := by
      funext l'
      simp only [upds, W.app, upd]
      split
      · rename_i e; subst e; rw [hl1, hR0]; simp
      · rfl
    rw [this]
    exact Post.same hs _ _

/-! ### Appended in place, or anew -/
theorem OpOk.appendIn [Mode] {t t' e e' : TypeId} {ts : Array TypeId} {s x : Operand} {k b b' n N : Nat} {z z' : Value} {l : Loc} {ob : AObj} {R : List (List AV)} {rd : List Loc} (ho : o.op = .call { callee := .builtin .append, args := #[s, x], argTypes := ts }) (hts : ts = #[t, t']) [h : TySlice P t e k b z] [h' : TySlice P t' e' k b' z'] (hk0 : 0 < k)
    (hd : A s = .ownc k l 0 n N) (hN : 0 < N) (hl : H l = some ob) (hk : ob.k = k) (hn : n ≤ ob.rows.length) (hx : SrcIs H k (fgt (A x)) R rd) (hone : ∀ r ∈ R, r.all AV.one = true) (hroom : n + R.length ≤ N) :
    OpOk P o A (l :: rd) H new (.ownc k l 0 (n + R.length) N) [.one l (some ⟨k, ob.rows.take n ++ R ++ ob.rows.drop (n + R.length)⟩)] := by
  intro ι F w H1 ρ hH hnew hs hv
  subst hk
  have hvs := hv s (by simp [ho, Op.operands, Call.operands])
  have hvx := (hv x (by simp [ho, Op.operands, Call.operands])).fgt
  have hl1 := (hH l (.mem (by simp))).trans hl
  obtain ⟨a, cap, news, hxv, hnl, hfc, hcell, hno⟩ := src_cells (P := P) hk0 (hx.congr fun l' hl' => hH l' (.mem (by simp [hl']))) hs hvx hone
  have hrunop : ∀ r sv, ρ s = sv → (Builtin.append_ #[t, t'] o.type #[sv, ρ x]).run P w = r → (execOp ρ o).run P w = r.andThen fun v w' => .ok (.value v) w' := fun r sv hsv hr => by
    subst hsv
    simp [execOp, ho, hts, resolve, invoke, builtin, hr]
  rw [hd] at hvs
  rcases hvs.ownc_inv with ⟨g, sz, eι, hcap, hfit, hsv⟩ | ⟨_, _, _, h0, _⟩
  · rcases hs.obj l ob hl1 with ⟨e', _⟩ | ⟨g', cs, T, e', hb, hlen, hrows⟩
    · rw [eι] at e'; cases e'
    · rw [eι] at e'; simp only [Option.some.injEq, Prod.mk.injEq] at e'
      obtain ⟨rfl, rfl⟩ := e'
      simp only [Nat.zero_add, Nat.zero_mul] at hfit hsv
      have hr := run_append_room' (P := P) (w := w) (t := t) (t' := t') (ty := o.type) (e := e) (k := ob.k) (b := b) (z := z) (sLen := n) (v := ρ x) (.inl ⟨_, _, _, h'.u, hxv⟩) (hfc w (fun _ => rfl)) hnl hb hno hroom hfit
      rw [hrunop _ _ hsv hr]
      simp only [Result.andThen_ok]
      refine ⟨ι, F, ?_, ?_⟩
      · have := VR.ownc (ι := ι) (F := F) (w := w.setRow g (cs.take (n * ob.k) ++ news ++ cs.drop (n * ob.k + R.length * ob.k)).toArray) ob.k l 0 (n + R.length) N g cs.length eι hroom (by simpa using hfit)
        simpa using this
      · have := Post.rows hs hl1 eι hb hn (Nat.le_trans (Nat.mul_le_mul_right _ hroom) hfit) hlen hrows hnl rfl hcell (l :: rd) (.mem (by simp)) new
        rw [hnl] at this
        exact this
  · omega
theorem zeroCells_made [Mode] {z : Value} {n : Nat} : Builtin.zeroCells z.cells n = madeCells z.cells (n * z.cells.size) := rfl
theorem run_append_zgrow [Mode] {t t' ty e : TypeId} {kd : IntKind} {k b m : Nat} {z : Value} [h : TySlice P t e k b z] (ht' : P.underlying t' = some (.int kd)) {base : Option Addr} {sLen sCap : Nat} {olds : List Value} {w : World} (hk0 : 0 < k)
    (hfo : (Builtin.firstCells k sLen (.slice base sLen sCap)).run P w.drew = .ok olds.toArray w.drew) (hg : sCap < sLen + m) (h63 : sLen + m ≤ 9223372036854775807) (hb : (sLen + m) * b ≤ 140737488355328) (hm : 0 < m) :
    (Builtin.append_ #[t, t'] ty #[.slice base sLen sCap, .int .i64 (m : Nat)]).run P w = .ok (.slice (some ⟨w.heap.size, 0, none⟩) (sLen + m) (grownCap w (sLen + m) sCap e))
      (w.drew.alloc (.cells (olds.toArray ++ madeCells z.cells (m * k) ++ madeCells z.cells ((grownCap w (sLen + m) sCap e - (sLen + m)) * k)) e)) := by
  obtain ⟨i, hi, rfl, rfl, hz⟩ := rows_eq (P := P) (t := t) (e := e) (k := k) (b := b) (z := z)
  have hn : ¬ (sLen + m ≤ sCap) := by omega
  have h63' : ¬ (9223372036854775807 < ((sLen : Int) + (m : Int))) := by omega
  have hfit := growslice_fits hg hb
  have h48' : ¬ (281474976710656 < Builtin.nextslicecap (sLen + m) sCap * i.bytes) := by omega
  have hw : IntKind.i64.wrap (m : Int) = m := wrap64_id (by omega) (by omega)
  have hneg : ¬ ((m : Int) < 0) := by omega
  have hmb : m * i.bytes ≤ 140737488355328 := Nat.le_trans (Nat.mul_le_mul_right _ (by omega)) hb
  have hmb' : ¬ (281474976710656 < (m : Int) * (i.bytes : Int)) := by
    have : ((m * i.bytes : Nat) : Int) ≤ (140737488355328 : Nat) := Int.ofNat_le.2 hmb
    rw [Int.natCast_mul] at this; omega
  have hms : ¬ (m = 0 ∨ i.size = 0) := by omega
  have hzs : z.cells.size = i.size := h.zs
  have hz2 : ∀ n, Builtin.zeroCells z.cells n = madeCells z.cells (n * i.size) := fun n => by rw [zeroCells_made, hzs]
  simp [Builtin.append_, run_underlying h.u, run_underlying ht', sizeOf, typeInfo, zeroValue, hi, hz, asInt, asIntOf, hw, hneg, hmb', hms, Builtin.lenOf, hn, h63', h48', Question.forced, hfo, Go.newRow, grownCap, hz2]
  intro h0; exact absurd (Nat.mul_eq_zero.1 h0) hms
end
end Go.Proofs.YtofakjlamoigcaaDoor
end

section
namespace Go.Proofs.YtofakjlamoigcaaDoor
open Go Go.RowKit
set_option linter.unusedSimpArgs false
set_option linter.unusedVariables false

section
variable {P : Program} {o : Oper} {A : Operand → AV} {H : Heap} {new : Nat}
/-- Zeros appended beyond the capacity: a new row. -/
theorem OpOk.appendZ [Mode] {t t' e : TypeId} {ts : Array TypeId} {s x : Operand} {k b n m N : Nat} {z : Value} {kd : IntKind} {l : Loc} {ob : AObj} (ho : o.op = .call { callee := .builtin .append, args := #[s, x], argTypes := ts }) (hts : ts = #[t, t']) [h : TySlice P t e k b z] (ht' : P.underlying t' = some (.int kd)) (hk0 : 0 < k)
    (hd : A s = .ownc k l 0 n N) (hN : 0 < N) (hl : H l = some ob) (hk : ob.k = k) (hn : n ≤ ob.rows.length) (hx : A x = I (m : Nat)) (hm : 0 < m) (hroom : N < n + m) (hsz : (n + m) * b ≤ 140737488355328) (h63 : n + m ≤ 9223372036854775807) :
    OpOk P o A [l] H new (.own k ⟨new, []⟩ 0 (n + m)) [.one ⟨new, []⟩ (some ⟨k, ob.rows.take n ++ List.replicate m (z.cells.toList.map fun x => .d (.v x))⟩)] := by
  subst hk
  intro ι F w H1 ρ hH hnew hs hv
  have hl1 := (hH l (.mem (by simp))).trans hl
  have hvs := hv s (by simp [ho, Op.operands, Call.operands])
  have hvx := hv x (by simp [ho, Op.operands, Call.operands])
  rw [hd] at hvs
  rw [hx] at hvx
  have hxv := hvx.v_inv
  rcases hvs.ownc_inv with ⟨g, sz, eι, hcap, hfit, hsv⟩ | ⟨_, _, _, h0, _⟩
  · rcases hs.obj l ob hl1 with ⟨e', _⟩ | ⟨g', cs, T, e', hb, hlen, hrows⟩
    · rw [eι] at e'; cases e'
    · rw [eι] at e'; simp only [Option.some.injEq, Prod.mk.injEq] at e'
      obtain ⟨rfl, rfl⟩ := e'
      simp only [Nat.zero_add, Nat.zero_mul] at hfit hsv
      have hnk : n * ob.k ≤ cs.length := Nat.le_trans (Nat.mul_le_mul_right _ hn) hlen
      have htl : (cs.take (n * ob.k)).length = n * ob.k := by simp; omega
      have hfo : (Builtin.firstCells ob.k n (.slice (some ⟨g, 0, none⟩) n N)).run P w.drew = .ok (cs.take (n * ob.k)).toArray w.drew :=
        run_firstCells_some (P := P) w.drew ob.k n ⟨g, 0, none⟩ n N _ (by simp; omega) (fun q u hq => by
          rw [List.getElem?_take] at hq
          split at hq
          · rw [addr_add]; simpa using cell_of_cells (w := w) hb hq
          · cases hq)
      have hr := run_append_zgrow (P := P) (t := t) (t' := t') (ty := o.type) (e := e) (k := ob.k) (b := b) (z := z) (base := some ⟨g, 0, none⟩) (sLen := n) (sCap := N) (m := m) (w := w) ht' hk0 hfo hroom h63 hsz hm
      have hrunop : (execOp ρ o).run P w = ((Builtin.append_ #[t, t'] o.type #[ρ s, ρ x]).run P w).andThen fun v w' => .ok (.value v) w' := by
        simp [execOp, ho, hts, resolve, invoke, builtin]
      rw [hrunop, hsv, hxv, hr]
      simp only [Result.andThen_ok]
      have hgc := grownCap_le (w := w) (need := n + m) (old := N) (e := e)
      generalize grownCap w (n + m) N e = gc at hgc
      have hcs : ((cs.take (n * ob.k)).toArray ++ madeCells z.cells (m * ob.k) ++ madeCells z.cells ((gc - (n + m)) * ob.k)) = (cs.take (n * ob.k) ++ (madeCells z.cells (m * ob.k)).toList ++ (madeCells z.cells ((gc - (n + m)) * ob.k)).toList).toArray := by
        apply Array.ext'; simp
      rw [hcs]
      have hlen2 : (cs.take (n * ob.k) ++ (madeCells z.cells (m * ob.k)).toList ++ (madeCells z.cells ((gc - (n + m)) * ob.k)).toList).length = gc * ob.k := by
        simp only [List.length_append, Array.length_toList, htl, size_madeCells]
        rw [← Nat.add_mul, ← Nat.add_mul]; congr 1; omega
      generalize hbig : (cs.take (n * ob.k) ++ (madeCells z.cells (m * ob.k)).toList ++ (madeCells z.cells ((gc - (n + m)) * ob.k)).toList) = big at hlen2
      have hSl : (ob.rows.take n).length = n := by simp; omega
      have hp := Post.alloc hs.drew (new := new) hnew big e ⟨ob.k, ob.rows.take n ++ List.replicate m (z.cells.toList.map fun x => .d (.v x))⟩ (by
          rw [hlen2]; simp only [List.length_append, hSl, List.length_replicate]; exact Nat.mul_le_mul_right _ hgc) (fun i r hr' => by
          rw [List.getElem?_append, hSl] at hr'
          split at hr'
          · rename_i hin
            rw [List.getElem?_take, if_pos hin] at hr'
            obtain ⟨h1, h2⟩ := hrows i r hr'
            refine ⟨h1, fun j c hc => ?_⟩
            obtain ⟨u, h3, h4⟩ := h2 j c hc
            refine ⟨u, ?_, h4.mono (ext_rfl ι) (fun _ h => h) (fun _ _ => rfl)⟩
            have hj : j < ob.k := by rw [← h1]; exact (List.getElem?_eq_some_iff.1 hc).1
            have hlt : i * ob.k + j < n * ob.k := by
              have : (i + 1) * ob.k ≤ n * ob.k := Nat.mul_le_mul_right _ hin
              rw [Nat.succ_mul] at this; omega
            show big[i * ob.k + j]? = some u
            rw [← hbig, List.append_assoc, List.getElem?_append_left (by rw [htl]; omega), List.getElem?_take, if_pos hlt]; exact h3
          · rename_i hin
            rw [List.getElem?_replicate] at hr'
            split at hr'
            · rename_i hin2
              cases hr'
              refine ⟨by simpa using h.zs, fun j c hc => ?_⟩
              simp only [List.getElem?_map, Option.map_eq_some_iff] at hc
              obtain ⟨v, h5, rfl⟩ := hc
              have hjk : j < ob.k := by have := (List.getElem?_eq_some_iff.1 h5).1; rw [← h.zs]; simpa using this
              refine ⟨v, ?_, .d (.v _)⟩
              have hik : i * ob.k = n * ob.k + (i - n) * ob.k := by rw [← Nat.add_mul]; congr 1; omega
              have hlt : (i - n) * ob.k + j < m * ob.k := by
                have : (i - n + 1) * ob.k ≤ m * ob.k := Nat.mul_le_mul_right _ (by omega)
                rw [Nat.succ_mul] at this; omega
              show big[i * ob.k + j]? = some v
              rw [← hbig, List.getElem?_append_left (by rw [List.length_append, htl, Array.length_toList, size_madeCells]; omega), List.getElem?_append_right (by rw [htl]; omega), htl, show i * ob.k + j - n * ob.k = (i - n) * ob.k + j by omega, madeCells_get h.zs hin2 hjk]
              simpa using h5
            · cases hr') [l]
      refine ⟨updι ι ⟨new, []⟩ (some (w.heap.size, big.length)), F, ?_, ⟨hp.sim, hp.ext, hp.dom, hp.sub, hp.sup, ⟨hp.step.os, hp.step.tape, hp.step.output, hp.step.size, hp.step.block⟩, hp.own⟩⟩
      have := VR.own (ι := updι ι ⟨new, []⟩ (some (w.heap.size, big.length))) (F := F) (w := w.drew.alloc (.cells big.toArray e)) ob.k ⟨new, []⟩ 0 (n + m) w.heap.size big.length gc (by simp [updι]) hgc (by rw [hlen2]; simp)
      simpa using this
  · omega

/-! ### Cut -/
theorem run_sliceAtC [Mode] {w : World} {t e : TypeId} {k b : Nat} {z : Value} [h : TySlice P t e k b z] {a : Option Addr} {len cap l hb : Nat} {lo hi : Option Value} (hlo : (lo = none ∧ l = 0) ∨ ∃ kd i, lo = some (.int kd i) ∧ 0 ≤ i ∧ i.toNat = l) (hhi : (hi = none ∧ hb = len) ∨ ∃ kd i, hi = some (.int kd i) ∧ 0 ≤ i ∧ i.toNat = hb) (hl : l ≤ hb) (hh : hb ≤ cap) :
    (Instr.sliceAt t (.slice a len cap) lo hi none).run P w = .ok (.slice (if cap = l then a else a.map (·.add (l * k))) (hb - l) (cap - l)) w := by
  have hs : (sizeOf e).run P w = .ok k w := run_sizeOf' (by
    have := h.s
    cases hi : P.info? e with
    | none => rw [hi] at this; cases this
    | some i => rw [hi] at this; simp only [Option.map_some, Option.some.injEq, Prod.mk.injEq] at this; simp [this.1])
  have hbd : (Instr.sliceBounds true len cap lo hi none).run P w = .ok (l, hb, cap) w := by
    unfold Instr.sliceBounds
    rcases hhi with ⟨rfl, rfl⟩ | ⟨kd, i, rfl, h0, rfl⟩ <;> rcases hlo with ⟨rfl, rfl⟩ | ⟨kd', i', rfl, h0', rfl⟩
    · simp
    · simp [run_sliceBound (P := P) (w := w) h0' (by omega : i' ≤ (hb : Int))]
    · simp [run_sliceBound (P := P) (w := w) h0 (by omega : i ≤ (cap : Int))]
    · simp [run_sliceBound (P := P) (w := w) h0 (by omega : i ≤ (cap : Int)), run_sliceBound (P := P) (w := w) h0' (by omega : i' ≤ (i.toNat : Int))]
  simp [Instr.sliceAt, Instr.slice, run_underlying h.u, hbd, hs]
theorem OpOk.sliceC [Mode] {t e : TypeId} {x : Operand} {lo hi : Option Operand} {k b l hb off n N : Nat} {z : Value} {l0 : Loc} (ho : o.op = .slice t x lo hi none) [h : TySlice P t e k b z] (hx : A x = .ownc k l0 off n N) (hlo : BndIs A lo 0 l) (hhi : BndIs A hi n hb) (hl : l ≤ hb) (hh : hb ≤ N) (hN : 0 < N) :
    OpOk P o A [] H new (.ownc k l0 (if l = N then off else off + l) (hb - l) (N - l)) [] :=
  .still [] fun ι F w H1 ρ _ hs hv => by
    have h1 := hv x (by simp [ho, Op.operands])
    rw [hx] at h1
    generalize hq : ρ x = q at h1
    rcases h1.ownc_inv with ⟨g, sz, eι, hcap, hfit, rfl⟩ | ⟨_, _, _, h0, _⟩
    · have hr := run_sliceAtC (P := P) (w := w) (a := some ⟨g, off * k, none⟩) (len := n) (cap := N) (h := h) (hlo.val (ρ := ρ) fun y hy => hv y (by subst hy; simp [ho, Op.operands])) (hhi.val (ρ := ρ) fun y hy => hv y (by subst hy; simp [ho, Op.operands])) hl hh
      refine ⟨_, by simp [execOp, ho, hq, hr]; rfl, ?_⟩
      by_cases hlN : l = N
      · subst hlN
        rw [if_pos rfl, if_pos rfl]
        refine .ownc k l0 off _ _ g sz eι (by omega) ?_
        exact Nat.le_trans (Nat.mul_le_mul_right _ (by omega)) hfit
      · rw [if_neg hlN, if_neg (fun e => hlN e.symm)]
        have := VR.ownc (ι := ι) (F := F) (w := w) k l0 (off + l) (hb - l) (N - l) g sz eι (by omega) (by rw [show off + l + (N - l) = off + N by omega]; exact hfit)
        simpa [addr_add, Nat.add_mul] using this
    · omega
/-- A cut of which nothing is asked. -/
theorem OpOk.sliceX [Mode] {t e : TypeId} {x : Operand} {lo hi : Option Operand} {k b l hb off n : Nat} {z : Value} {l0 : Loc} (ho : o.op = .slice t x lo hi none) [h : TySlice P t e k b z] (hx : fgt (A x) = .own k l0 off n) (hlo : BndIs A lo 0 l) (hhi : BndIs A hi n hb) (hl : l ≤ hb) (hh : hb ≤ n) :
    OpOk P o A [] H new .dead [] :=
  .still [] fun ι F w H1 ρ _ hs hv => by
    have h1 := (hv x (by simp [ho, Op.operands])).fgt
    rw [hx] at h1
    have hq : ∃ a cap, ρ x = .slice a n cap ∧ n ≤ cap := by
      rcases h1.own_inv with ⟨g, sz, cap, _, hc, _, e⟩ | ⟨_, _, rfl, e⟩
      · exact ⟨_, _, e, hc⟩
      · exact ⟨_, _, e, Nat.le_refl _⟩
    obtain ⟨a, cap, hq, hcap⟩ := hq
    have hr := run_sliceAtC (P := P) (w := w) (a := a) (len := n) (cap := cap) (h := h) (hlo.val (ρ := ρ) fun y hy => hv y (by subst hy; simp [ho, Op.operands])) (hhi.val (ρ := ρ) fun y hy => hv y (by subst hy; simp [ho, Op.operands])) hl (by omega)
    exact ⟨_, by simp [execOp, ho, hq, hr]; rfl, .dead _⟩
theorem OpOk.sliceX3 [Mode] {t e : TypeId} {x lo hi mx : Operand} {k b off n : Nat} {z : Value} {l0 : Loc} {kd kd' kd'' : IntKind} {i i' i'' : Int} (ho : o.op = .slice t x (some lo) (some hi) (some mx)) [h : TySlice P t e k b z] (hx : fgt (A x) = .own k l0 off n) (hlo : A lo = .d (.v (.int kd i))) (hhi : A hi = .d (.v (.int kd' i'))) (hmx : A mx = .d (.v (.int kd'' i''))) (h0 : 0 ≤ i) (h1 : i ≤ i') (h2 : i' ≤ i'') (h3 : i'' ≤ n) :
    OpOk P o A [] H new .dead [] :=
  .still [] fun ι F w H1 ρ _ hs hv => by
    have g1 := (hv x (by simp [ho, Op.operands])).fgt
    rw [hx] at g1
    have gl := hv lo (by simp [ho, Op.operands])
    have gh := hv hi (by simp [ho, Op.operands])
    have gm := hv mx (by simp [ho, Op.operands])
    rw [hlo] at gl; rw [hhi] at gh; rw [hmx] at gm
    have gl' := gl.v_inv
    have gh' := gh.v_inv
    have gm' := gm.v_inv
    have hq : ∃ a cap, ρ x = .slice a n cap ∧ n ≤ cap := by
      rcases g1.own_inv with ⟨g, sz, cap, _, hc, _, e⟩ | ⟨_, _, rfl, e⟩
      · exact ⟨_, _, e, hc⟩
      · exact ⟨_, _, e, Nat.le_refl _⟩
    obtain ⟨a, cap, hq, hcap⟩ := hq
    have hs : (sizeOf e).run P w = .ok k w := run_sizeOf' (by
      have := h.s
      cases hi : P.info? e with
      | none => rw [hi] at this; cases this
      | some i => rw [hi] at this; simp only [Option.map_some, Option.some.injEq, Prod.mk.injEq] at this; simp [this.1])
    have hbd : (Instr.sliceBounds true n cap (some (.int kd i)) (some (.int kd' i')) (some (.int kd'' i''))).run P w = .ok (i.toNat, i'.toNat, i''.toNat) w := by
      unfold Instr.sliceBounds
      simp [run_sliceBound (P := P) (w := w) (by omega : 0 ≤ i'') (by omega : i'' ≤ (cap : Int)), run_sliceBound (P := P) (w := w) (by omega : 0 ≤ i') (by omega : i' ≤ (i''.toNat : Int)), run_sliceBound (P := P) (w := w) h0 (by omega : i ≤ (i'.toNat : Int))]
    refine ⟨_, by simp [execOp, ho, hq, gl', gh', gm', Instr.sliceAt, Instr.slice, run_underlying h.u, hbd, hs]; rfl, .dead _⟩
/-- The capacity. -/
theorem OpOk.capC [Mode] {t e : TypeId} {ts : Array TypeId} {x : Operand} {k b off n N : Nat} {z : Value} {l0 : Loc} (ho : o.op = .call { callee := .builtin .cap, args := #[x], argTypes := ts }) (hts : ts = #[t]) [h : TySlice P t e k b z] (hx : A x = .ownc k l0 off n N) : OpOk P o A [] H new (I (N : Nat)) [] :=
  .still [] fun ι F w H1 ρ _ hs hv => by
    have h1 := hv x (by simp [ho, Op.operands, Call.operands])
    rw [hx] at h1
    have hq : ∃ a, ρ x = .slice a n N := by
      rcases h1.ownc_inv with ⟨g, sz, _, hc, _, e⟩ | ⟨_, _, rfl, rfl, e⟩
      · exact ⟨_, e⟩
      · exact ⟨_, e⟩
    obtain ⟨a, hq⟩ := hq
    exact ⟨.int .i64 (N : Nat), by simp [execOp, ho, hts, resolve, invoke, builtin, hq, Builtin.cap_, run_underlying h.u, goInt], .d (.v _)⟩

/-! ### Cleared -/
theorem OpOk.clearC [Mode] {t e : TypeId} {ts : Array TypeId} {x : Operand} {k b off n : Nat} {z : Value} {l : Loc} {ob : AObj} (ho : o.op = .call { callee := .builtin .clear, args := #[x], argTypes := ts }) (hts : ts = #[t]) [h : TySlice P t e k b z] (hk0 : 0 < k) (hz1 : ∀ u ∈ z.cells.toList, u.oneCell' = true)
    (hd : fgt (A x) = .own k l off n) (hl : H l = some ob) (hk : ob.k = k) (hn : off + n ≤ ob.rows.length) (hn0 : 0 < n) :
    OpOk P o A [l] H new .dead [.one l (some ⟨k, ob.rows.take off ++ List.replicate n (z.cells.toList.map fun x => .d (.v x)) ++ ob.rows.drop (off + n)⟩)] := by
  intro ι F w H1 ρ hH hnew hs hv
  subst hk
  have hvd := (hv x (by simp [ho, Op.operands, Call.operands])).fgt
  have hl1 := (hH l (.mem (by simp))).trans hl
  rw [hd] at hvd
  rcases hvd.own_inv with ⟨g, sz, dCap, eι, hcap, hfit, hdv⟩ | ⟨eι, h0, h1, hdv⟩
  · rcases hs.obj l ob hl1 with ⟨e', _⟩ | ⟨g', cs, T, e', hb, hlen, hrows⟩
    · rw [eι] at e'; cases e'
    · rw [eι] at e'; simp only [Option.some.injEq, Prod.mk.injEq] at e'
      obtain ⟨rfl, rfl⟩ := e'
      have hfit1 : (off + n) * ob.k ≤ cs.length := Nat.le_trans (Nat.mul_le_mul_right _ hn) hlen
      have hml : (madeCells z.cells (n * ob.k)).toList.length = n * ob.k := by simp [size_madeCells]
      have hcell : ∀ (i : Nat) r, (List.replicate n (z.cells.toList.map fun x => AV.d (.v x)))[i]? = some r → r.length = ob.k ∧ ∀ (j : Nat) c, r[j]? = some c → ∃ u, (madeCells z.cells (n * ob.k)).toList[i * ob.k + j]? = some u ∧ VR ι F w c u := by
        intro i r hr
        rw [List.getElem?_replicate] at hr
        split at hr
        · rename_i hin
          cases hr
          refine ⟨by simpa using h.zs, fun j c hc => ?_⟩
          simp only [List.getElem?_map, Option.map_eq_some_iff] at hc
          obtain ⟨v, h5, rfl⟩ := hc
          have hjk : j < ob.k := by have := (List.getElem?_eq_some_iff.1 h5).1; rw [← h.zs]; simpa using this
          exact ⟨v, by rw [madeCells_get h.zs hin hjk]; simpa using h5, .d (.v _)⟩
        · cases hr
      have hno : ∀ u ∈ (madeCells z.cells (n * ob.k)).toList, u.oneCell' = true := by
        refine Ok.cellOf (k := ob.k) (R := List.replicate n (z.cells.toList.map fun x => AV.d (.v x))) hk0 (fun r hr => ?_) (by rw [hml]; simp) hcell
        rw [List.eq_of_mem_replicate hr, List.all_map, List.all_eq_true]
        intro u hu
        exact hz1 u hu
      have hst := run_storeCells_at P g (off * ob.k) T (madeCells z.cells (n * ob.k)).toList 0 cs.toArray w hb (by rw [hml, Nat.add_zero, ← Nat.add_mul]; simpa using hfit1) hno
      simp only [Nat.add_zero] at hst
      have hrun : (execOp ρ o).run P w = .ok (.value (.tuple #[])) (w.setRow g (cs.take (off * ob.k) ++ (madeCells z.cells (n * ob.k)).toList ++ cs.drop (off * ob.k + (madeCells z.cells (n * ob.k)).toList.length)).toArray) := by
        obtain ⟨i, hi, hi1, hi2, hz⟩ := rows_eq (P := P) (t := t) (e := e) (k := ob.k) (b := b) (z := z)
        have hzm : Builtin.zeroCells z.cells n = madeCells z.cells (n * ob.k) := by rw [zeroCells_made, h.zs]
        have hne : n ≠ 0 := by omega
        have hcl : (Builtin.clear_ #[t] o.type #[.slice (some ⟨g, off * ob.k, none⟩) n dCap]).run P w = .ok (.tuple #[]) (w.setRow g (cs.take (off * ob.k) ++ (madeCells z.cells (n * ob.k)).toList ++ cs.drop (off * ob.k + (madeCells z.cells (n * ob.k)).toList.length)).toArray) := by
          obtain ⟨n', rfl⟩ : ∃ n', n = n' + 1 := ⟨n - 1, by omega⟩
          simp only [Builtin.clear_, List.getElem?_toArray, List.getElem?_cons_zero, Sem.run_bind, run_underlying h.u, Result.andThen_ok, zeroValue, typeInfo, run_program, hi, hz, Sem.run_pure, hzm, hst]
        simp [execOp, ho, hts, resolve, invoke, builtin, hdv, hcl]
      rw [hrun]
      exact ⟨ι, F, .dead _, Post.rows hs hl1 eι hb (by omega) hfit1 hlen hrows hml (by simp) hcell _ (.mem (by simp)) new⟩
  · omega
end
end Go.Proofs.YtofakjlamoigcaaDoor
end

section
namespace Go.Proofs.YtofakjlamoigcaaDoor
open Go Go.RowKit
set_option linter.unusedSimpArgs false
set_option linter.unusedVariables false

class FnOver (P : Program) (f : FuncId) (tS tR : outParam TypeId) : Prop where
  a : (P.funcs[f]?).map (fun fn => (fn.name == "runtime.NumGoroutine", fn.body.isNone)) = some (false, true)
  b : (P.funcs[f]?).map (fun fn => (Extern.findNext fn).isNone) = some true
  c : (P.funcs[f]?).map (fun fn => Extern.find fn) = some (some (Extern.SlicesOverlaps.overlaps #[tS, tS] #[tR]))
theorem run_over [Mode] {P : Program} {f : FuncId} {tS tR : TypeId} [h : FnOver P f tS tR] {args : Array Value} {w : World} : (callFunc f args).run P w = ((Extern.SlicesOverlaps.overlaps #[tS, tS] #[tR] args).run P w).andThen fun v w' => .ok (.value v) w' := by
  have h1 := h.a; have h2 := h.b; have h3 := h.c
  cases hf : P.funcs[f]? with
  | none => rw [hf] at h1; cases h1
  | some fn =>
    rw [hf] at h1 h2 h3
    simp only [Option.map_some, Option.some.injEq, Prod.mk.injEq, Option.isNone_iff_eq_none] at h1 h2 h3
    exact run_callFunc_extern hf h1.1 (by rw [Option.isNone_iff_eq_none]; exact h1.2) h2 h3 args w
section
variable {P : Program} {o : Oper} {A : Operand → AV} {H : Heap} {new : Nat}
theorem OpOk.over [Mode] {fo x y : Operand} {ts : Array TypeId} {f : FuncId} {tS tR e : TypeId} {k b off n off' n' : Nat} {z : Value} {l l' : Loc} {ob ob' : AObj} (ho : o.op = .call { callee := .value fo, args := #[x, y], argTypes := ts }) [FnOver P f tS tR] [h : TySlice P tS e k b z] (hfo : A fo = .clo (.func f) [] [])
    (hk0 : 0 < k) (hx : fgt (A x) = .own k l off n) (hy : fgt (A y) = .own k l' off' n') (hne : l ≠ l') (hl : H l = some ob) (hl' : H l' = some ob') (hn' : 0 < n') (hn : 0 < n) : OpOk P o A [l, l'] H new (Bo false) [] :=
  .still [l, l'] fun ι F w H1 ρ hH hs hv => by
    have hf := hv fo (by simp [ho, Op.operands, Call.operands])
    have h1 := (hv x (by simp [ho, Op.operands, Call.operands])).fgt
    have h2 := (hv y (by simp [ho, Op.operands, Call.operands])).fgt
    rw [hfo] at hf
    rw [hx] at h1
    rw [hy] at h2
    have hl1 := (hH l (.mem (by simp))).trans hl
    have hl2 := (hH l' (.mem (by simp))).trans hl'
    refine ⟨.bool false, ?_, .d (.v _)⟩
    generalize hq : ρ fo = q at hf
    cases hf with
    | clo _ _ _ fv cv g1 g2 g3 g4 =>
      have hfv : fv = [] := List.length_eq_zero_iff.1 g1
      have hcv : cv = [] := List.length_eq_zero_iff.1 g2
      subst hfv hcv
      rcases h1.own_inv with ⟨B, sz, cap, e1, c1, f1, v1⟩ | ⟨_, _, c0, _⟩
      · rcases h2.own_inv with ⟨B', sz', cap', e2, c2, f2, v2⟩ | ⟨_, _, c0, _⟩
        · rcases hs.obj l ob hl1 with ⟨e3, _⟩ | ⟨b1, cs1, T1, e3, hb1, _, _⟩
          · rw [e1] at e3; cases e3
          · rcases hs.obj l' ob' hl2 with ⟨e4, _⟩ | ⟨b2, cs2, T2, e4, hb2, _, _⟩
            · rw [e2] at e4; cases e4
            · rw [e1] at e3; rw [e2] at e4
              simp only [Option.some.injEq, Prod.mk.injEq] at e3 e4
              obtain ⟨rfl, rfl⟩ := e3
              obtain ⟨rfl, rfl⟩ := e4
              have hneB : B ≠ B' := fun e => hne (hs.inj l l' B _ _ (by rw [hl1]; simp) (by rw [hl2]; simp) e1 (by rw [e]; exact e2))
              have hk2 : cs2.toArray.size ≠ 0 := by
                have : 1 * k ≤ (off' + cap') * k := Nat.mul_le_mul_right _ (by omega)
                simp; intro e0; rw [e0] at f2; simp at f2; omega
              have hsz : ∀ w, (Go.sizeOf e).run P w = .ok k w := fun w => run_sizeOf' (by
                have := h.s
                cases hi : P.info? e with
                | none => rw [hi] at this; cases this
                | some i => rw [hi] at this; simp only [Option.map_some, Option.some.injEq, Prod.mk.injEq] at this; simp [this.1])
              have hr := Lib.run_overlaps_apart (P := P) w tS tR e h.u k hsz ⟨B, off * k, none⟩ ⟨B', off' * k, none⟩ n cap n' cap' hneB T1 T2 cs1.toArray.size cs2.toArray.size
                (by simp [World.shape?, hb1]) (by simp [World.shape?, hb2]) hk2 (by simp [World.frozen?, hb1]) (by simp [World.frozen?, hb1])
              have hrun := run_over (P := P) (f := f) (args := #[ρ x, ρ y]) (w := w)
              rw [v1, v2, hr] at hrun
              simp only [Result.andThen_ok] at hrun
              simp [execOp, ho, resolve, hq, Deferred.ofValue, invoke, v1, v2, hrun]
        · omega
      · omega
end

/-! ### States of which less is told -/
inductive Fgt : AV → AV → Prop
  | refl (a : AV) : Fgt a a
  | own (k : Nat) (l : Loc) (off n c : Nat) : Fgt (.ownc k l off n c) (.own k l off n)
theorem Fgt.vr [Mode] {ι : Iota} {F : Nat → Prop} {w : World} {a a' : AV} (h : Fgt a a') {v : Value} (hv : VR ι F w a v) : VR ι F w a' v := by
  cases h with
  | refl => exact hv
  | own k l off n c => exact hv.fgt
/-- Of a place's rows the first ones are told. -/
theorem Le.cut [Mode] {C : Ctx} {H H' : Heap} {n : Nat} {a a' : AV} (h : Fgt a a') (hob : ∀ l ob, H' l = some ob → ∃ ob', H l = some ob' ∧ ob'.k = ob.k ∧ ∃ more, ob'.rows = ob.rows ++ more) : Le C ⟨[a], H, n⟩ ⟨[a'], H', n⟩ := by
  rintro ac w ⟨ι, F, hs, hv, hdf, hi, hu⟩
  have hne : ∀ l, H' l ≠ none → H l ≠ none := fun l hl => by
    cases h1 : H' l with
    | none => exact absurd h1 hl
    | some ob => obtain ⟨ob', h2, _⟩ := hob l ob h1; rw [h2]; simp
  refine ⟨ι, F, ⟨fun l ob h1 => ?_, fun l l' b s s' h1 h2 => hs.inj l l' b s s' (hne l h1) (hne l' h2), fun l b s h1 => hs.notF l b s (hne l h1), hs.lt, hs.gl⟩, ?_, hdf, ⟨hi.step, hi.sub, hi.sup, fun l b ⟨h1, s, e⟩ => hi.own l b ⟨hne l h1, s, e⟩, hi.keep⟩, hu⟩
  · obtain ⟨ob', h2, hk, more, hrows⟩ := hob l ob h1
    rcases hs.obj l ob' h2 with ⟨e, h3⟩ | ⟨b, cs, T, e, hb, hlen, h3⟩
    · refine .inl ⟨e, ?_⟩
      rw [hrows] at h3
      exact (List.append_eq_nil_iff.1 h3).1
    · refine .inr ⟨b, cs, T, e, hb, ?_, fun i r hr => ?_⟩
      · rw [hrows, hk, List.length_append] at hlen
        exact Nat.le_trans (Nat.mul_le_mul_right _ (Nat.le_add_right _ _)) hlen
      · have := h3 i r (by rw [hrows, List.getElem?_append_left (List.getElem?_eq_some_iff.1 hr).1]; exact hr)
        rw [hk] at this; exact this
  · refine ⟨by simpa using hv.1, fun i c v hc hv' => ?_⟩
    cases i with
    | zero => simp at hc; subst hc; exact h.vr (hv.2 0 a v rfl hv')
    | succ i => simp at hc

/-! ### A contract for every capacity -/
def deadRows (k m : Nat) : List (List AV) := List.replicate m (List.replicate k .dead)
theorem AC.ofCaps [Mode] {P : Program} {f : FuncId} {k n : Nat} {l : Loc} {args : List AV} {H : Heap} {ob : AObj} {res : AV} {H' : Heap} (hl : H l = some ob) (hk : ob.k = k) (hn : ob.rows.length = n)
    (h : ∀ N, n ≤ N → AC P f (.ownc k l 0 n N :: args) (upd H l (some ⟨k, ob.rows ++ deadRows k (N - n)⟩)) res H') : AC P f (.own k l 0 n :: args) H res H' := by
  intro ι F w vs hs hdom hv
  subst hk hn
  obtain ⟨v0, h0, hv0⟩ := hv.get (i := 0) (c := .own ob.k l 0 ob.rows.length) rfl
  have hne : ∀ N l', upd H l (some ⟨ob.k, ob.rows ++ deadRows ob.k (N - ob.rows.length)⟩) l' ≠ none ↔ H l' ≠ none := fun N l' => by
    by_cases e : l' = l
    · subst e; simp [upd_same, hl]
    · rw [upd_ne e]
  -- the capacity
  have key : ∃ N, ob.rows.length ≤ N ∧ VR ι F w (.ownc ob.k l 0 ob.rows.length N) v0 ∧ ObjR ι F w l ⟨ob.k, ob.rows ++ deadRows ob.k (N - ob.rows.length)⟩ := by
    rcases hv0.own_inv with ⟨b, sz, cap, e, hcap, hfit, hvv⟩ | ⟨e, _, hn0, hvv⟩
    · rcases hs.obj l ob hl with ⟨e', _⟩ | ⟨b', cs, T, e', hb, hlen, hrows⟩
      · rw [e] at e'; cases e'
      · rw [e] at e'; simp only [Option.some.injEq, Prod.mk.injEq] at e'
        obtain ⟨rfl, rfl⟩ := e'
        refine ⟨cap, hcap, hvv ▸ .ownc _ _ _ _ _ b _ e hcap hfit, .inr ⟨b, cs, T, e, hb, ?_, fun i r hr => ?_⟩⟩
        · simp only [List.length_append, deadRows, List.length_replicate]
          rw [Nat.add_sub_cancel' hcap]; simpa using hfit
        · rw [List.getElem?_append] at hr
          split at hr
          · exact hrows i r hr
          · rename_i hi
            rw [deadRows, List.getElem?_replicate] at hr
            split at hr
            · rename_i hi2
              cases hr
              refine ⟨by simp, fun j c hc => ?_⟩
              rw [List.getElem?_replicate] at hc
              split at hc
              · rename_i hj
                cases hc
                have hlt : i * ob.k + j < cs.length := by
                  have : (i + 1) * ob.k ≤ (0 + cap) * ob.k := Nat.mul_le_mul_right _ (by omega)
                  rw [Nat.succ_mul] at this; omega
                exact ⟨cs[i * ob.k + j], List.getElem?_eq_getElem hlt, .dead _⟩
              · cases hc
            · cases hr
    · refine ⟨0, by omega, ?_, ?_⟩
      · rw [hvv, hn0]; exact .owncNil _ _ e
      · have : ob.rows ++ deadRows ob.k (0 - ob.rows.length) = ob.rows := by simp [deadRows]
        rw [this]; exact hs.obj l ob hl
  obtain ⟨N, hN, hvN, hoN⟩ := key
  have hsN : Sim ι F (upd H l (some ⟨ob.k, ob.rows ++ deadRows ob.k (N - ob.rows.length)⟩)) w := by
    refine ⟨fun l' o ho => ?_, fun l1 l2 b s s' h1 h2 => hs.inj l1 l2 b s s' ((hne N l1).1 h1) ((hne N l2).1 h2), fun l1 b s h1 => hs.notF l1 b s ((hne N l1).1 h1), hs.lt, hs.gl⟩
    by_cases e : l' = l
    · subst e; rw [upd_same] at ho; cases ho; exact hoN
    · rw [upd_ne e] at ho; exact hs.obj l' o ho
  have hvs : VRs ι F w (.ownc ob.k l 0 ob.rows.length N :: args) vs := ⟨by simpa using hv.1, fun i c v hc hv' => by
    cases i with
    | zero => simp at hc; subst hc; rw [h0] at hv'; cases hv'; exact hvN
    | succ i => exact hv.2 (i + 1) c v hc hv'⟩
  have hO : ∀ b, OwnB ι (upd H l (some ⟨ob.k, ob.rows ++ deadRows ob.k (N - ob.rows.length)⟩)) b ↔ OwnB ι H b := fun b =>
    ⟨fun ⟨l', h1, h2⟩ => ⟨l', (hne N l').1 h1, h2⟩, fun ⟨l', h1, h2⟩ => ⟨l', (hne N l').2 h1, h2⟩⟩
  refine (h N hN ι F w vs hsN (fun l' h' => hdom l' ?_) hvs).mono ?_
  · cases h1 : H l' with
    | none => rfl
    | some o => exact absurd h' ((hne N l').2 (by rw [h1]; simp))
  · rintro e w' ⟨v, ι', F', rfl, hres, hs', hstep, hsub, hsup, hown, hkeep⟩
    refine ⟨v, ι', F', rfl, hres, hs', hstep.mono fun b hb => (hO b).1 hb, hsub, fun b hb => ?_, fun b hb => ?_, fun l' x h1 => hkeep l' x ((hne N l').2 h1)⟩
    · rcases hsup b hb with h | h | h
      · exact .inl h
      · exact .inr (.inl ((hO b).1 h))
      · exact .inr (.inr h)
    · exact (hown b hb).imp (hO b).1 id
/-! ### Rows handed over to a call -/
theorem upds_app [Mode] (H : Heap) : ∀ (a b : List W), upds H (a ++ b) = upds (upds H a) b
  | [], b => rfl
  | x :: a, b => by rw [List.cons_append]; exact upds_app (x.app H) a b
theorem upds_none [Mode] (H : Heap) : ∀ (ls : List Loc) (l : Loc), upds H (ls.map fun l => .one l none) l = if l ∈ ls then none else H l
  | [], l => by simp [upds]
  | x :: ls, l => by
    rw [List.map_cons]
    show upds (upd H x none) _ l = _
    rw [upds_none (upd H x none) ls l]
    by_cases h : l ∈ ls
    · simp [h]
    · by_cases e : l = x
      · subst e; simp [upd]
      · simp [h, e, upd]
theorem OpOk.callV [Mode] {P : Program} {o : Oper} {A : Operand → AV} {H : Heap} {new : Nat} {fo : Operand} {xs : List Operand} {ts : Array TypeId} {f : FuncId} {caps args : List AV} {res res' : AV} {ob : AObj} (hs : HL) (m : Nat) (ho : o.op = .call { callee := .value fo, args := xs.toArray, argTypes := ts }) [FnBody P f] (hfo : A fo = .clo (.func f) [] caps)
    (hc : AC P f args (heapL hs) res (upd H0 ⟨m, []⟩ (some ob))) (hm : (⟨m, []⟩ : Loc) ∉ hs.map (·.1)) (hinj : ∀ l ∈ hs.map (·.1), ∀ l' ∈ hs.map (·.1), tauL hs l = tauL hs l' → l = l')
    (hob : ∀ l ob, heapL hs l = some ob → ∃ k rows, ob = dobj k rows ∧ H (tauL hs l) = some ob) (hrn : ∀ g, rnO g ob = ob) (hargs : ARs H (fun _ => False) (tauL hs) (· ∈ hs.map (·.1)) args (xs.map A ++ caps)) (hr : rn (emb (tauL hs) (hs.map (·.1)) new) res = res') :
    OpOk P o A ((hs.map (·.1)).map (tauL hs)) H new res' (((hs.map (·.1)).map (tauL hs)).map (fun l => .one l none) ++ [.one ⟨new, [m]⟩ (some ob)]) := by
  have h := OpOk.callGen (P := P) (o := o) (A := A) (H := H) (new := new) (wr := ((hs.map (·.1)).map (tauL hs)).map (fun l => .one l none) ++ [.one ⟨new, [m]⟩ (some ob)]) (fun _ => False) ((hs.map (·.1)).map (tauL hs)) (tauL hs) (hs.map (·.1)) (fun _ h => h.elim) (fun l hl => .mem (by simpa using List.mem_map_of_mem hl)) ho hfo hc (fun l => heapL_iff) hinj (fun l _ h => h) (fun l ob hl => by
      obtain ⟨k, rows, rfl, h1⟩ := hob l ob hl
      refine ⟨_, h1, rfl, rfl, fun i r r' hr hr' => ?_⟩
      rw [hr] at hr'; cases hr'
      refine ⟨rfl, fun j c c' hc hc' => ?_⟩
      rw [hc] at hc'; cases hc'
      simp only [dobj, List.getElem?_map, Option.map_eq_some_iff] at hr
      obtain ⟨r2, _, rfl⟩ := hr
      simp only [List.getElem?_map, Option.map_eq_some_iff] at hc
      obtain ⟨c2, _, rfl⟩ := hc
      exact AR.dd _) (.inl fun _ h => h) hargs (fun H1 h1 h2 => by
      have hne : ∀ l ∈ (hs.map (·.1)).map (tauL hs), l.id ≠ new := fun l hl e => by
        obtain ⟨lc, hlc, rfl⟩ := List.mem_map.1 hl
        cases hb : heapL hs lc with
        | none => exact absurd hb (heapL_iff.2 hlc)
        | some ob2 =>
          obtain ⟨_, _, _, h3⟩ := hob lc ob2 hb
          have h4 := h2 lc hlc
          rw [h3] at h4
          have h5 := h1 (tauL hs lc).sub
          rw [← e] at h5
          exact absurd (h5.symm.trans h4) (by simp)
      funext l
      rw [upds_app]
      show upd _ _ _ l = _
      unfold upd merge
      cases hf : (hs.map (·.1)).find? (fun lc => tauL hs lc == l) with
      | some lc =>
        have hlc := List.mem_of_find?_eq_some hf
        have he : tauL hs lc = l := by have := List.find?_some hf; simpa using this
        have hlm : l ∈ (hs.map (·.1)).map (tauL hs) := List.mem_map.2 ⟨lc, hlc, he⟩
        rw [if_neg (fun e => hne l hlm (by rw [e])), upds_none, if_pos hlm]
        simp only
        rw [if_neg (fun e => hm (by rw [← e]; exact hlc))]; rfl
      | none =>
        have hno : l ∉ (hs.map (·.1)).map (tauL hs) := fun hl => by
          obtain ⟨lc, hlc, e⟩ := List.mem_map.1 hl
          have := List.find?_eq_none.1 hf lc hlc
          simp [e] at this
        rw [upds_none, if_neg hno]
        simp only
        obtain ⟨id, sub⟩ := l
        by_cases e : id = new
        · subst e
          rw [if_pos rfl]
          cases sub with
          | nil => simp [h1]
          | cons i s =>
            simp only
            by_cases e2 : i = m ∧ s = []
            · obtain ⟨rfl, rfl⟩ := e2
              rw [if_pos rfl, if_neg hm, if_pos rfl]
              simp [hrn]
            · have e3 : ¬ ((⟨id, i :: s⟩ : Loc) = ⟨id, [m]⟩) := by simpa using e2
              have e4 : ¬ ((⟨i, s⟩ : Loc) = ⟨m, []⟩) := by simpa using e2
              rw [if_neg e3, h1, if_neg e4]
              split <;> rfl
        · rw [if_neg e, if_neg (fun e' => e (by cases e'; rfl))])
  rw [← hr]
  simpa using h
theorem Ok.callV [Mode] {P : Program} {o : Oper} {A : Operand → AV} {H : Heap} {new : Nat} {fo : Operand} {xs : List Operand} {ts : Array TypeId} {f : FuncId} {caps args : List AV} {res res' : AV} {ob : AObj} (hs : HL) (m : Nat) (ho : o.op = .call { callee := .value fo, args := xs.toArray, argTypes := ts }) [FnBody P f] (hfo : A fo = .clo (.func f) [] caps)
    (hc : AC P f args (heapL hs) res (upd H0 ⟨m, []⟩ (some ob))) (hm : (⟨m, []⟩ : Loc) ∉ hs.map (·.1)) (hnd : (hs.map (·.1)).Nodup) (hnd' : (hs.map (·.2.1)).Nodup)
    (hob : AllP (fun p => (∃ k rows, p.2.2 = dobj k rows) ∧ H p.2.1 = some p.2.2) hs) (hrn : ∀ g, rnO g ob = ob) (hargs : ARs H (fun _ => False) (tauL hs) (· ∈ hs.map (·.1)) args (xs.map A ++ caps)) (hr : rn (emb (tauL hs) (hs.map (·.1)) new) res = res') :
    OpOk P o A ((hs.map (·.1)).map (tauL hs)) H new res' (((hs.map (·.1)).map (tauL hs)).map (fun l => .one l none) ++ [.one ⟨new, [m]⟩ (some ob)]) := by
  refine OpOk.callV hs m ho hfo hc hm (fun l hl l' hl' e => ?_) (fun l ob hl => ?_) hrn hargs hr
  · obtain ⟨p, hp, rfl⟩ := List.mem_map.1 hl
    obtain ⟨q, hq, rfl⟩ := List.mem_map.1 hl'
    rw [tauL_of hnd hp, tauL_of hnd hq] at e
    clear hob hc hm hargs hr hl hl'
    induction hs with
    | nil => cases hp
    | cons x r ih =>
      simp only [List.map_cons, List.nodup_cons] at hnd hnd'
      rcases List.mem_cons.1 hp with rfl | hp' <;> rcases List.mem_cons.1 hq with rfl | hq'
      · rfl
      · exact absurd (List.mem_map.2 ⟨q, hq', e.symm⟩) hnd'.1
      · exact absurd (List.mem_map.2 ⟨p, hp', e⟩) hnd'.1
      · exact ih hnd.2 hnd'.2 hp' hq'
  · obtain ⟨p, hp, rfl, rfl⟩ := heapL_mem hl
    obtain ⟨⟨k, rows, e⟩, h⟩ := hob.all p hp
    exact ⟨k, rows, e, by rw [tauL_of hnd hp]; exact h⟩
section
variable {P : Program} {o : Oper} {A : Operand → AV} {H : Heap} {new : Nat}
/-! ### The same, as a walk uses them -/
theorem Ok.cTo [Mode] {t e : TypeId} {x y : Operand} {k b off n N h : Nat} {z : Value} {l0 : Loc} {i : Int} (ho : o.op = .slice t x none (some y) none) [TySlice P t e k b z] (hx : A x = .ownc k l0 off n N) (hy : A y = I i) (h0 : 0 ≤ i) (h1 : i.toNat = h) (h2 : h ≤ N) (hN : 0 < N) : OpOk P o A [] H new (.ownc k l0 off h N) [] := by
  have := OpOk.sliceC (P := P) (H := H) (new := new) (A := A) ho hx BndIs.none (BndIs.some hy h0 h1) (Nat.zero_le _) h2 hN
  rw [if_neg (by omega)] at this
  simpa using this
theorem Ok.cFrom [Mode] {t e : TypeId} {x y : Operand} {k b off n N h m : Nat} {z : Value} {l0 : Loc} {i : Int} (ho : o.op = .slice t x (some y) none none) [TySlice P t e k b z] (hx : A x = .ownc k l0 off n N) (hy : A y = I i) (h0 : 0 ≤ i) (h1 : i.toNat = h) (h2 : h ≤ n) (h3 : n ≤ N) (hN : h < N) (hm : n - h = m) : OpOk P o A [] H new (.ownc k l0 (off + h) m (N - h)) [] := by
  have := OpOk.sliceC (P := P) (H := H) (new := new) (A := A) ho hx (BndIs.some hy h0 h1) BndIs.none h2 h3 (by omega)
  rw [if_neg (by omega), hm] at this
  exact this
theorem Ok.cEnd [Mode] {t e : TypeId} {x y : Operand} {k b off n N : Nat} {z : Value} {l0 : Loc} {i : Int} (ho : o.op = .slice t x (some y) none none) [TySlice P t e k b z] (hx : A x = .ownc k l0 off n N) (hy : A y = I i) (h0 : 0 ≤ i) (h1 : i.toNat = n) (h2 : n = N) (h3 : 0 < N) : OpOk P o A [] H new (.ownc k l0 off 0 0) [] := by
  subst h2
  have := OpOk.sliceC (P := P) (H := H) (new := new) (A := A) ho hx (BndIs.some hy h0 h1) BndIs.none (Nat.le_refl _) (Nat.le_refl _) h3
  rw [if_pos rfl, Nat.sub_self] at this
  exact this
theorem Ok.cBoth [Mode] {t e : TypeId} {x y y' : Operand} {k b off n N h h' m : Nat} {z : Value} {l0 : Loc} {i i' : Int} (ho : o.op = .slice t x (some y) (some y') none) [TySlice P t e k b z] (hx : A x = .ownc k l0 off n N) (hy : A y = I i) (hy' : A y' = I i') (h0 : 0 ≤ i) (h1 : i.toNat = h) (h0' : 0 ≤ i') (h1' : i'.toNat = h') (h2 : h ≤ h') (h3 : h' ≤ N) (hN : h < N) (hm : h' - h = m) : OpOk P o A [] H new (.ownc k l0 (off + h) m (N - h)) [] := by
  have := OpOk.sliceC (P := P) (H := H) (new := new) (A := A) ho hx (BndIs.some hy h0 h1) (BndIs.some hy' h0' h1') h2 h3 (by omega)
  rw [if_neg (by omega), hm] at this
  exact this
theorem Ok.oFrom [Mode] {t e : TypeId} {x y : Operand} {k b off n h m : Nat} {z : Value} {l0 : Loc} {i : Int} (ho : o.op = .slice t x (some y) none none) [TySlice P t e k b z] (hx : A x = .own k l0 off n) (hy : A y = I i) (h0 : 0 ≤ i) (h1 : i.toNat = h) (h2 : h < n ∨ h = 0) (hm : n - h = m) : OpOk P o A [] H new (.own k l0 (off + h) m) [] := by
  have := OpOk.sliceO (P := P) (H := H) (new := new) (A := A) ho hx (BndIs.some hy h0 h1) BndIs.none (by omega) (Nat.le_refl _) (by omega)
  rw [hm] at this
  exact this
theorem Ok.appendZ [Mode] {t t' e : TypeId} {ts : Array TypeId} {s x : Operand} {k b n m N nm : Nat} {z : Value} {kd : IntKind} {l : Loc} {ob : AObj} {j : Int} {zr : List AV} (ho : o.op = .call { callee := .builtin .append, args := #[s, x], argTypes := ts }) (hts : ts = #[t, t']) [h : TySlice P t e k b z] (ht' : P.underlying t' = some (.int kd)) (hk0 : 0 < k)
    (hd : A s = .ownc k l 0 n N) (hN : 0 < N) (hl : H l = some ob) (hk : ob.k = k) (hn : n ≤ ob.rows.length) (hx : A x = I j) (hj : j = (m : Nat)) (hm : 0 < m) (hroom : N < n + m) (hsz : (n + m) * b ≤ 140737488355328) (h63 : n + m ≤ 9223372036854775807) (hnm : n + m = nm) (hz : z.cells.toList.map (fun x => AV.d (.v x)) = zr) :
    OpOk P o A [l] H new (.own k ⟨new, []⟩ 0 nm) [.one ⟨new, []⟩ (some ⟨k, ob.rows.take n ++ List.replicate m zr⟩)] := by
  subst hj hnm hz
  exact OpOk.appendZ ho hts ht' hk0 hd hN hl hk hn hx hm hroom hsz h63
/-- Rows of one's own appended in place, within the capacity. -/
theorem Ok.appendIn [Mode] {t t' e e' : TypeId} {ts : Array TypeId} {s x : Operand} {k b b' n N off' m' m : Nat} {z z' : Value} {l l' : Loc} {ob ob' : AObj} (ho : o.op = .call { callee := .builtin .append, args := #[s, x], argTypes := ts }) (hts : ts = #[t, t']) [h : TySlice P t e k b z] [h' : TySlice P t' e' k b' z'] (hk0 : 0 < k)
    (hd : A s = .ownc k l 0 n N) (hN : 0 < N) (hl : H l = some ob) (hk : ob.k = k) (hn : n ≤ ob.rows.length) (hx : fgt (A x) = .own k l' off' m') (hl' : H l' = some ob') (hk' : ob'.k = k) (hn' : off' + m' ≤ ob'.rows.length) (hone : ∀ r ∈ (ob'.rows.drop off').take m', r.all AV.one = true) (hroom : n + m' ≤ N) (hm : n + m' = m) :
    OpOk P o A [l, l'] H new (.ownc k l 0 m N) [.one l (some ⟨k, ob.rows.take n ++ (ob'.rows.drop off').take m' ++ ob.rows.drop (n + ((ob'.rows.drop off').take m').length)⟩)] := by
  have hRl : ((ob'.rows.drop off').take m').length = m' := by simp; omega
  have := OpOk.appendIn (P := P) (H := H) (new := new) (A := A) (R := (ob'.rows.drop off').take m') (rd := [l']) ho hts hk0 hd hN hl hk hn (by rw [hx]; exact .own l' off' m' ob' hl' hk' hn') hone (by omega)
  rw [hRl, hm] at this
  rw [hRl, hm]; exact this
theorem Ok.clearC [Mode] {t e : TypeId} {ts : Array TypeId} {x : Operand} {k b off n : Nat} {z : Value} {l : Loc} {ob : AObj} {zr : List AV} (ho : o.op = .call { callee := .builtin .clear, args := #[x], argTypes := ts }) (hts : ts = #[t]) [h : TySlice P t e k b z] (hk0 : 0 < k) (hz1 : ∀ u ∈ z.cells.toList, u.oneCell' = true)
    (hd : fgt (A x) = .own k l off n) (hl : H l = some ob) (hk : ob.k = k) (hn : off + n ≤ ob.rows.length) (hn0 : 0 < n) (hz : z.cells.toList.map (fun x => AV.d (.v x)) = zr) :
    OpOk P o A [l] H new .dead [.one l (some ⟨k, ob.rows.take off ++ List.replicate n zr ++ ob.rows.drop (off + n)⟩)] := by
  subst hz
  exact OpOk.clearC ho hts hk0 hz1 hd hl hk hn hn0
/-- Copies of rows of one's own: as many as fit, or as there are. -/
theorem Ok.copyGe [Mode] {t t' e : TypeId} {ts : Array TypeId} {d x : Operand} {k b n off off' m' : Nat} {z : Value} {l l' : Loc} {ob ob' : AObj} (ho : o.op = .call { callee := .builtin .copy, args := #[d, x], argTypes := ts }) (hts : ts = #[t, t']) [h : TySlice P t e k b z] (hk0 : 0 < k)
    (hd : fgt (A d) = .own k l off n) (hl : H l = some ob) (hk : ob.k = k) (hn : off + n ≤ ob.rows.length) (hx : fgt (A x) = .own k l' off' m') (hnm : n ≤ m') (hl' : H l' = some ob') (hk' : ob'.k = k) (hn' : off' + m' ≤ ob'.rows.length) (hone : ∀ r ∈ (ob'.rows.drop off').take n, r.all AV.one = true) :
    OpOk P o A [l, l'] H new (I (n : Nat)) [.one l (some ⟨k, ob.rows.take off ++ (ob'.rows.drop off').take n ++ ob.rows.drop (off + n)⟩)] :=
  OpOk.forget (OpOk.copyC (m := n) (rd := [l']) ho hts hk0 hd hl hk hn (.inr ⟨l', off', m', ob', hx, hnm, rfl, hl', hk', hn', rfl, rfl⟩) hone)
theorem Ok.copyLe [Mode] {t t' e : TypeId} {ts : Array TypeId} {d x : Operand} {k b n off off' m : Nat} {z : Value} {l l' : Loc} {ob ob' : AObj} (ho : o.op = .call { callee := .builtin .copy, args := #[d, x], argTypes := ts }) (hts : ts = #[t, t']) [h : TySlice P t e k b z] (hk0 : 0 < k)
    (hd : fgt (A d) = .own k l off n) (hl : H l = some ob) (hk : ob.k = k) (hn : off + n ≤ ob.rows.length) (hx : fgt (A x) = .own k l' off' m) (hnm : m ≤ n) (hl' : H l' = some ob') (hk' : ob'.k = k) (hn' : off' + m ≤ ob'.rows.length) (hone : ∀ r ∈ (ob'.rows.drop off').take m, r.all AV.one = true) :
    OpOk P o A [l, l'] H new (I (m : Nat)) [.one l (some ⟨k, ob.rows.take off ++ (ob'.rows.drop off').take m ++ ob.rows.drop (off + m)⟩)] :=
  OpOk.forget (OpOk.copyC (m := m) (rd := [l']) ho hts hk0 hd hl hk hn (.inl ⟨by rw [hx]; exact .own l' off' m ob' hl' hk' hn', by simp; omega, hnm⟩) hone)
end
/-- The end of a function that hands back a row of which more is known: its place called anew, its first rows told. -/
theorem end1cut [Mode] {C : Ctx} {P : Program} {fr : List AV} {H : Heap} {n m k nn : Nat} {l : Loc} {c : AV} {ob : AObj} {fn : Func} {e : Exit} {rv : ResultVar} {rows : List (List D)} (he : e = .ret ∨ e = .normal) (hr : fn.results.toList = [rv]) (h : ResOf P fr H rv c) (hc : fgt c = .own k l 0 nn) (hl : H l = some ob) (hk : ob.k = k) (hrows : ∃ more, ob.rows = rows.map (fun r => r.map .d) ++ more)
    (hD : ∀ l, C.D0 l → l.id < m ∧ l ≠ ⟨m, []⟩) : EndQ P C fn (.own k ⟨m, []⟩ 0 nn) (upd H0 ⟨m, []⟩ (some (dobj k rows))) e ⟨fr, H, n⟩ := by
  have hf : Fgt c (.own k l 0 nn) := by
    cases c with
    | ownc k' l' off n' c => simp only [fgt, AV.own.injEq] at hc; obtain ⟨rfl, rfl, rfl, rfl⟩ := hc; exact .own _ _ _ _ _
    | _ => simp only [fgt] at hc; first | (rw [hc]; exact .refl _) | cases hc
  refine end1 he hr h rfl ((Le.cut (H' := upd H0 l (some (dobj k rows))) hf (fun l' ob' ho => ?_)).trans (Le.head [(⟨m, []⟩, l, dobj k rows)] (n' := m + 1) (fun l' h => ⟨Nat.lt_succ_of_lt (hD l' h).1, by simp [tauL, (hD l' h).2]⟩) ?_ ?_ (by simp) (by simp) (by simp [AllP])))
  · by_cases e : l' = l
    · subst e; rw [upd_same] at ho; cases ho
      obtain ⟨more, hm⟩ := hrows
      exact ⟨ob, hl, hk, more, hm⟩
    · rw [upd_ne e] at ho; cases ho
  · exact ⟨⟨_, upd_same, ObA.data⟩, trivial⟩
  · refine ARs.cons ?_ ARs.nil
    have := AR.own (H := upd H0 l (some (dobj k rows))) (lent := fun _ => False) (τ := tauL [(⟨m, []⟩, l, dobj k rows)]) (L := fun l' => heapL [(⟨m, []⟩, l, dobj k rows)] l' ≠ none) k ⟨m, []⟩ 0 nn (by simp [heapL, upd])
    simpa [tauL] using this
end Go.Proofs.YtofakjlamoigcaaDoor
end

section
namespace Go.Proofs.YtofakjlamoigcaaDoor
open Go Go.RowKit
set_option linter.unusedSimpArgs false
set_option linter.unusedVariables false

abbrev hp2 (a b : AObj) : Heap := upd (upd H0 ⟨1, []⟩ (some b)) ⟨0, []⟩ (some a)
theorem hp2_some [Mode] {a b : AObj} {l : Loc} {ob : AObj} (h : hp2 a b l = some ob) : ob = a ∨ ob = b := by
  simp only [hp2, upd] at h
  split at h
  · cases h; exact .inl rfl
  · split at h
    · cases h; exact .inr rfl
    · cases h
section
variable {P : Program} {o : Oper} {A : Operand → AV} {H : Heap} {new : Nat}
/-- A function that hands back two new rows of its own. -/
theorem OpOk.call2n [Mode] {fo : Operand} {xs : List Operand} {ts : Array TypeId} {f : FuncId} {caps args : List AV} {res res' : AV} {ob ob' : AObj} (lent : List Loc) (ho : o.op = .call { callee := .value fo, args := xs.toArray, argTypes := ts }) [FnBody P f] (hfo : A fo = .clo (.func f) [] caps) (hc : AC P f args H0 res (hp2 ob ob'))
    (hfree : lent = [] ∨ (FreeF res ∧ (∀ r ∈ ob.rows, ∀ c ∈ r, FreeF c) ∧ ∀ r ∈ ob'.rows, ∀ c ∈ r, FreeF c)) (hrn : ∀ g, rnO g ob = ob) (hrn' : ∀ g, rnO g ob' = ob') (hargs : ARs H (Cov lent) id (fun _ => False) args (xs.map A ++ caps)) (hr : rn (fun l => ⟨new, l.id :: l.sub⟩) res = res') : OpOk P o A lent H new res' [.one ⟨new, [0]⟩ (some ob), .one ⟨new, [1]⟩ (some ob')] := by
  subst hr
  have h := OpOk.callGen (P := P) (o := o) (A := A) (H := H) (new := new) (wr := [.one ⟨new, [0]⟩ (some ob), .one ⟨new, [1]⟩ (some ob')]) (Cov lent) lent id [] (fun _ h => h) (fun l hl => by simp at hl) ho hfo hc (fun l => by simp) (fun l hl => by simp at hl) (fun l hl => by simp at hl) (fun l ob hob => by cases hob)
    (hfree.imp (fun e l => by subst e; exact Cov.nil) fun h => ⟨h.1, fun l ob2 hob => by
      rcases hp2_some hob with rfl | rfl
      · exact h.2.1
      · exact h.2.2⟩) (by simpa using hargs) (fun H1 h1 _ => by
      rw [merge_nil]
      funext l
      obtain ⟨id, sub⟩ := l
      simp only [upds, W.app, upd, hp2, heapL]
      by_cases e : id = new
      · subst e
        cases sub with
        | nil => simp [h1]
        | cons i s =>
          by_cases e2 : i = 0 ∧ s = []
          · obtain ⟨rfl, rfl⟩ := e2; simp [hrn]
          · have e3 : ¬ (i :: s = [0]) := by simpa using e2
            have e4 : ¬ ((⟨i, s⟩ : Loc) = ⟨0, []⟩) := by simpa using e2
            by_cases e5 : i = 1 ∧ s = []
            · obtain ⟨rfl, rfl⟩ := e5; simp [hrn']
            · have e6 : ¬ (i :: s = [1]) := by simpa using e5
              have e7 : ¬ ((⟨i, s⟩ : Loc) = ⟨1, []⟩) := by simpa using e5
              simp [e3, e4, e6, e7, h1]
      · simp [e])
  have e : emb id [] new = fun l => ⟨new, l.id :: l.sub⟩ := by funext l; simp [emb]
  rw [e] at h
  simpa using h
/-- A call that changes one place of the caller's, passed whole, and hands back what names no place. -/
theorem OpOk.callMg [Mode] {fo : Operand} {xs : List Operand} {ts : Array TypeId} {f : FuncId} {caps args : List AV} {res : AV} {l : Loc} {k k' : Nat} {rows rows' : List (List D)} (ho : o.op = .call { callee := .value fo, args := xs.toArray, argTypes := ts }) [FnBody P f] (hfo : A fo = .clo (.func f) [] caps)
    (hc : AC P f args (upd H0 ⟨0, []⟩ (some (dobj k rows))) res (upd H0 ⟨0, []⟩ (some (dobj k' rows')))) (hl : H l = some (dobj k rows)) (hres : ∀ g, rn g res = res) (hargs : ARs H (fun _ => False) (fun _ => l) (· = ⟨0, []⟩) args (xs.map A ++ caps)) : OpOk P o A [l] H new res [.one l (some (dobj k' rows'))] := by
  have h := OpOk.callGen (P := P) (o := o) (A := A) (H := H) (new := new) (wr := [.one l (some (dobj k' rows'))]) (fun _ => False) [l] (fun _ => l) [⟨0, []⟩] (fun _ h => h.elim) (fun l hl => .mem (by first | (simp; done) | simpa using hl)) ho hfo hc (fun l' => by
      by_cases e : l' = ⟨0, []⟩
      · subst e; rw [upd_same]; simp
      · simp [upd_ne e, e]) (fun l1 h1 l2 h2 _ => by simp at h1 h2; rw [h1, h2]) (fun _ _ h => h) (fun l' ob hob => by
      by_cases e : l' = ⟨0, []⟩
      · subst e; rw [upd_same] at hob; cases hob
        exact ⟨_, hl, ObA.data (H := H) (lent := fun _ => False) (τ := fun _ => l) (L := fun _ => True) |>.1, rfl, fun i r r' hr hr' => ⟨(ObA.data (H := H) (lent := fun _ => False) (τ := fun _ => l) (L := (· ∈ [(⟨0, []⟩ : Loc)]) )).2.2 i r r' hr hr' |>.1, (ObA.data (H := H) (lent := fun _ => False) (τ := fun _ => l) (L := (· ∈ [(⟨0, []⟩ : Loc)]) )).2.2 i r r' hr hr' |>.2⟩⟩
      · rw [upd_ne e] at hob; cases hob) (.inl fun _ h => h) (by simpa using hargs) (fun H1 h1 h2 => by
      have h3 : H1 l = some (dobj k rows) := (h2 ⟨0, []⟩ (by simp)).trans hl
      funext l'
      simp only [upds, W.app, merge, upd]
      by_cases e : l' = l
      · subst e; simp [rnO_dobj]
      · have e2 : (l == l') = false := by simpa using fun h => e h.symm
        simp only [List.find?_cons, e2, List.find?_nil, e, if_false]
        split
        · rename_i e3
          obtain ⟨id, sub⟩ := l'
          simp only at e3; subst e3
          cases sub with
          | nil => simp [h1]
          | cons i s =>
            by_cases e4 : (⟨i, s⟩ : Loc) = ⟨0, []⟩
            · simp [h1, e4]
            · simp [h1, e4]
        · rfl)
  rw [hres] at h
  simpa using h
end
end Go.Proofs.YtofakjlamoigcaaDoor
end

section
namespace Go.Proofs.YtofakjlamoigcaaDoor
open Go Go.RowKit
set_option linter.unusedSimpArgs false
set_option linter.unusedVariables false

theorem DRel.more [Mode] {H : Heap} {lent lent' : Loc → Prop} (hl : ∀ l, lent l → lent' l) {x : D} {a : AV} (h : DRel H lent x a) : DRel H lent' x a := by
  induction h with
  | d x => exact .d x
  | nil k => exact .nil k
  | own k l off n ob rows h1 hm hk hn hr hll h ih => exact .own k l off n ob rows h1 (hl _ hm) hk hn hr hll ih
theorem AR.more [Mode] {H : Heap} {lent lent' : Loc → Prop} {τ : Loc → Loc} {L : Loc → Prop} (hl : ∀ l, lent l → lent' l) {a a' : AV} (h : AR H lent τ L a a') : AR H lent' τ L a a' := by
  induction h with
  | d h => exact .d (h.more hl)
  | agg cs cs' hl h ih => exact .agg cs cs' hl ih
  | tup cs cs' hl h ih => exact .tup cs cs' hl ih
  | own k l off n h => exact .own k l off n h
  | ptr k l i j h => exact .ptr k l i j h
  | dptr cs => exact .dptr cs
  | clo fn fs fs' cs cs' hl hl' h h' ih ih' => exact .clo fn fs fs' cs cs' hl hl' ih ih'
  | dead a => exact .dead a
theorem ARs.more [Mode] {H : Heap} {lent lent' : Loc → Prop} {τ : Loc → Loc} {L : Loc → Prop} (hl : ∀ l, lent l → lent' l) {a a' : List AV} (h : ARs H lent τ L a a') : ARs H lent' τ L a a' :=
  ⟨h.1, fun i c c' hc hc' => (h.2 i c c' hc hc').more hl⟩

/-- The arguments as the callee reads them; lent: the places into which it looks. -/
def CA (H : Heap) (lent : List Loc) (args vs : List AV) : Prop := ARs H (Cov lent) id (fun _ => False) args vs
section
variable {H : Heap} {lent lent' : List Loc} {cs cs' vs vs' : List AV}
theorem CA.nil [Mode] : CA H [] [] [] := ARs.nil
theorem CA.d [Mode] {x : D} (h : CA H lent cs vs) : CA H lent (.d x :: cs) (.d x :: vs) := ARs.cons (AR.dd _) h
theorem CA.w [Mode] {k n : Nat} {l : Loc} {rows : List (List D)} (hl : H l = some (dobj k rows)) (hn : rows.length = n) (h : CA H lent cs vs) : CA H (l :: lent) (.d (.sl k rows) :: cs) (.own k l 0 n :: vs) :=
  ARs.cons (AR.whole hl (.mem (by simp)) hn) (ARs.more (fun _ h => h.mono fun _ h => List.mem_cons_of_mem _ h) h)
theorem CA.n [Mode] {k : Nat} (h : CA H lent cs vs) : CA H lent (.d (.sl k []) :: cs) (.d (.v (.slice none 0 0)) :: vs) := ARs.cons (.d (.nil k)) h
theorem CA.a [Mode] (h' : CA H lent' cs' vs') (h : CA H lent cs vs) : CA H (lent' ++ lent) (.agg cs' :: cs) (.agg vs' :: vs) :=
  ARs.cons (ARs.agg (ARs.more (fun _ h => h.mono fun _ h => List.mem_append_left _ h) h')) (ARs.more (fun _ h => h.mono fun _ h => List.mem_append_right _ h) h)
end
section
variable {P : Program} {o : Oper} {A : Operand → AV} {H : Heap} {new : Nat} {fo : Operand} {xs : List Operand} {ts : Array TypeId} {f : FuncId} {caps args : List AV} {res res' : AV} {lent : List Loc}
theorem Ok.c0 [Mode] (ho : o.op = .call { callee := .value fo, args := xs.toArray, argTypes := ts }) [FnBody P f] (hfo : A fo = .clo (.func f) [] caps) (hc : AC P f args H0 res H0)
    (hargs : CA H lent args (xs.map A ++ caps)) (hfree : FreeF res) (hrn : ∀ g, rn g res = res) : OpOk P o A lent H new res [] := OpOk.call0 lent ho hfo hc (.inr hfree) hrn hargs
theorem Ok.c1 [Mode] {ob : AObj} (ho : o.op = .call { callee := .value fo, args := xs.toArray, argTypes := ts }) [FnBody P f] (hfo : A fo = .clo (.func f) [] caps) (hc : AC P f args H0 res (upd H0 ⟨0, []⟩ (some ob)))
    (hargs : CA H lent args (xs.map A ++ caps)) (hfree : FreeF res) (hf' : ∀ r ∈ ob.rows, ∀ c ∈ r, FreeF c) (hrn : ∀ g, rnO g ob = ob) (hr : rn (fun l => ⟨new, l.id :: l.sub⟩) res = res') : OpOk P o A lent H new res' [.one ⟨new, [0]⟩ (some ob)] :=
  OpOk.call1n lent ho hfo hc (.inr ⟨hfree, hf'⟩) hrn hargs hr
theorem Ok.c2 [Mode] {ob ob' : AObj} (ho : o.op = .call { callee := .value fo, args := xs.toArray, argTypes := ts }) [FnBody P f] (hfo : A fo = .clo (.func f) [] caps) (hc : AC P f args H0 res (hp2 ob ob'))
    (hargs : CA H lent args (xs.map A ++ caps)) (hfree : FreeF res) (hf : ∀ r ∈ ob.rows, ∀ c ∈ r, FreeF c) (hf' : ∀ r ∈ ob'.rows, ∀ c ∈ r, FreeF c) (hrn : ∀ g, rnO g ob = ob) (hrn' : ∀ g, rnO g ob' = ob') (hr : rn (fun l => ⟨new, l.id :: l.sub⟩) res = res') : OpOk P o A lent H new res' [.one ⟨new, [0]⟩ (some ob), .one ⟨new, [1]⟩ (some ob')] :=
  OpOk.call2n lent ho hfo hc (.inr ⟨hfree, hf, hf'⟩) hrn hrn' hargs hr
end
def D.isV : D → Bool
  | .v _ => true
  | .sl _ _ => false
theorem free_rowsG [Mode] {α : Type} {row : α → List D} {k : Nat} {xs : List α} (h : ∀ x, (row x).all D.isV = true) : ∀ r ∈ (dobj k (xs.map row)).rows, ∀ c ∈ r, FreeF c := by
  intro r hr c hc
  simp only [dobj, List.map_map, List.mem_map, Function.comp_def] at hr
  obtain ⟨x, _, rfl⟩ := hr
  obtain ⟨y, hy, rfl⟩ := List.mem_map.1 hc
  have := List.all_eq_true.1 (h x) y hy
  cases y with
  | v v => exact FreeF.v v
  | sl k r => cases this
/-- A loop's head or a function's end: where the places lay before, is told apart. -/
def srcs : HL → List Loc → HL
  | p :: r, s :: q => (p.1, s, p.2.2) :: srcs r q
  | _, _ => []
theorem heapL_srcs [Mode] : ∀ {hs : HL} {ss : List Loc}, ss.length = hs.length → heapL (srcs hs ss) = heapL hs
  | [], [], _ => rfl
  | p :: r, s :: q, h => by simp only [srcs, heapL]; rw [heapL_srcs (by simpa using h)]
section
variable {P : Program} {o : Oper} {A : Operand → AV} {H : Heap} {new : Nat} {t t' : TypeId} {x y : Operand}
theorem run_beq [Mode] {w : World} {a b : Bool} (hu : P.underlying t = some .bool) : (Op.equal t (.bool a) (.bool b)).run P w = .ok (a == b) w := by
  show (Op.equalIn (9999 + 1) t (.bool a) (.bool b)).run P w = _
  rw [Op.equalIn]
  simp [run_underlying hu]
theorem Ok.beq [Mode] {a b : Bool} (ho : o.op = .binOp .eql t x y t') (hx : A x = Bo a) (hy : A y = Bo b) (hu : P.underlying t = some .bool) : OpOk P o A [] H new (Bo (decide (a = b))) [] := OpOk.bin ho hx hy rfl fun w => by
  simp [binOp, run_beq hu]
  cases a <;> cases b <;> rfl
theorem Ok.bne [Mode] {a b : Bool} (ho : o.op = .binOp .neq t x y t') (hx : A x = Bo a) (hy : A y = Bo b) (hu : P.underlying t = some .bool) : OpOk P o A [] H new (Bo (decide (a ≠ b))) [] := OpOk.bin ho hx hy rfl fun w => by
  simp [binOp, run_beq hu]
  cases a <;> cases b <;> rfl
theorem Ok.beqS [Mode] {a : Bool} (ho : o.op = .binOp .eql t x y t') (hx : A x = Bo a) (hy : A y = Bo a) (hu : P.underlying t = some .bool) : OpOk P o A [] H new (Bo true) [] := by
  have := Ok.beq (H := H) (new := new) ho hx hy hu
  simpa using this
theorem Ok.bneS [Mode] {a : Bool} (ho : o.op = .binOp .neq t x y t') (hx : A x = Bo a) (hy : A y = Bo a) (hu : P.underlying t = some .bool) : OpOk P o A [] H new (Bo false) [] := by
  have := Ok.bne (H := H) (new := new) ho hx hy hu
  simpa using this
end
end Go.Proofs.YtofakjlamoigcaaDoor
end

section
namespace Go.Proofs.YtofakjlamoigcaaDoor
open Go Go.RowKit
set_option linter.unusedSimpArgs false
set_option linter.unusedVariables false

def Loc.at (l : Loc) (i : Nat) : Loc := ⟨l.id, l.sub ++ [i]⟩
theorem Loc.cov_at [Mode] (l : Loc) (i : Nat) : l.cov (l.at i) = true := by simp [Loc.cov, Loc.at]
abbrev nilS : AV := .d (.v (.slice none 0 0))
/-- A table: inner rows of k cells each (R), then some that are nil. It is named l; its outer row lay at src, the inner ones at base.at i, the one with number cut at ext. -/
structure MI where
  l : Loc
  k : Nat
  R : List (List (List D))
  nils : Nat := 0
  src : Loc
  base : Loc
  cut : Nat := 0
  ext : Option Loc := none
def MI.row (m : MI) (i : Nat) : Loc := match m.ext with
  | none => m.base.at i
  | some e => if i = m.cut then e else m.base.at i
def outer (f : Nat → Loc) (k : Nat) (R : List (List (List D))) (nils : Nat) : AObj := ⟨1, (R.mapIdx fun i r => [AV.own k (f i) 0 r.length]) ++ List.replicate nils [nilS]⟩
def matG (l : Loc) (k : Nat) (R : List (List (List D))) (nils : Nat) (l' : Loc) : Option AObj :=
  if l' = l then some (outer l.at k R nils) else match l'.sub.drop l.sub.length with
  | [i] => (R[i]?).map (dobj k)
  | _ => none
def heapM : List MI → Heap
  | [] => H0
  | m :: r => fun l' => if m.l.cov l' = true then matG m.l m.k m.R m.nils l' else heapM r l'
def heapX : HL → List MI → Heap
  | [], ms => heapM ms
  | p :: r, ms => upd (heapX r ms) p.1 (some p.2.2)
def tauM : List MI → Loc → Loc
  | [], l => l
  | m :: r, l => if m.l.cov l = true then (match l.sub.drop m.l.sub.length with | [i] => m.row i | _ => m.src) else tauM r l
def tauX : HL → List MI → Loc → Loc
  | [], ms, l => tauM ms l
  | p :: r, ms, l => if l = p.1 then p.2.1 else tauX r ms l
/-- What lies where, before it is told anew. -/
def MI.ok (m : MI) (H : Heap) : Prop := H m.src = some (outer m.row m.k m.R m.nils) ∧ ∀ i r, m.R[i]? = some r → H (m.row i) = some (dobj m.k r)
/-- The places of such a heap. -/
inductive Dom (hs : HL) (ms : List MI) : Loc → Prop
  | one (p : Loc × Loc × AObj) (h : p ∈ hs) : Dom hs ms p.1
  | mat (m : MI) (h : m ∈ ms) : Dom hs ms m.l
  | row (m : MI) (h : m ∈ ms) (i : Nat) (hi : i < m.R.length) : Dom hs ms (m.l.at i)
/-! Where things lay: apart. -/
theorem outer_len [Mode] {f : Nat → Loc} {k : Nat} {R : List (List (List D))} {nils : Nat} : (outer f k R nils).rows.length = R.length + nils := by simp [outer]
theorem outer_lt [Mode] {f : Nat → Loc} {k : Nat} {R : List (List (List D))} {nils i : Nat} {x : List (List D)} (h : R[i]? = some x) : (outer f k R nils).rows[i]? = some [.own k (f i) 0 x.length] := by
  have hi := (List.getElem?_eq_some_iff.1 h).1
  simp only [outer]
  rw [List.getElem?_append_left (by simpa using hi)]
  simp [h]
end Go.Proofs.YtofakjlamoigcaaDoor
end

section
namespace Go.Proofs.YtofakjlamoigcaaDoor
open Go Go.RowKit
set_option linter.unusedSimpArgs false
set_option linter.unusedVariables false

/-- At l lies the table R. -/
structure IsM (H : Heap) (l : Loc) (k : Nat) (R : List (List (List D))) : Prop where
  o : H l = some (outer l.at k R 0)
  r : ∀ i x, R[i]? = some x → H (l.at i) = some (dobj k x)
abbrev mRows (k : Nat) (R : List (List (List D))) : List (List D) := R.map fun r => [D.sl k r]
theorem IsM.dr [Mode] {H : Heap} {l : Loc} {k : Nat} {R : List (List (List D))} {lent : Loc → Prop} (hm : IsM H l k R) (hl : lent l) (hr : ∀ i, lent (l.at i)) : DRel H lent (.sl 1 (mRows k R)) (.own 1 l 0 R.length) := by
  have hget : ∀ (i : Nat) r, (mRows k R)[i]? = some r → ∃ x, R[i]? = some x ∧ r = [D.sl k x] := fun i r h => by
    simp only [mRows, List.getElem?_map, Option.map_eq_some_iff] at h
    obtain ⟨x, hx, rfl⟩ := h
    exact ⟨x, hx, rfl⟩
  refine .own 1 l 0 R.length _ _ hm.o hl rfl (by simp [outer_len]) (by simp [mRows]) (fun i r r' h1 h2 => ?_) (fun i r r' h1 h2 j c c' h3 h4 => ?_)
  · obtain ⟨x, hx, rfl⟩ := hget i r h1
    rw [Nat.zero_add, outer_lt hx] at h2; cases h2
    rfl
  · obtain ⟨x, hx, rfl⟩ := hget i r h1
    rw [Nat.zero_add, outer_lt hx] at h2; cases h2
    cases j with
    | succ j => simp at h3
    | zero =>
      simp at h3 h4; subst h3; subst h4
      have := DRel.dobj (off := 0) (n := x.length) (hm.r i x hx) (hr i) (by omega)
      rwa [List.drop_zero, List.take_of_length_le (Nat.le_refl _)] at this
theorem CA.m [Mode] {H : Heap} {lent : List Loc} {cs vs : List AV} {l : Loc} {k n : Nat} {R : List (List (List D))} (hm : IsM H l k R) (hn : R.length = n) (h : CA H lent cs vs) : CA H (l :: lent) (.d (.sl 1 (mRows k R)) :: cs) (.own 1 l 0 n :: vs) := by
  subst hn
  exact ARs.cons (.d (hm.dr (.mem (by simp)) (fun i => ⟨l, by simp, l.cov_at i⟩))) (ARs.more (fun _ h => h.mono fun _ h => List.mem_cons_of_mem _ h) h)

/-! ### Handed back -/
section
variable {P : Program} {o : Oper} {A : Operand → AV} {H : Heap} {new : Nat} {fo : Operand} {xs : List Operand} {ts : Array TypeId} {f : FuncId} {caps args : List AV} {res res' : AV} {lent : List Loc}
end
end Go.Proofs.YtofakjlamoigcaaDoor
end

section
namespace Go.Proofs.YtofakjlamoigcaaDoor
open Go Go.RowKit
set_option linter.unusedSimpArgs false
set_option linter.unusedVariables false

/-- Values of data alone. -/
inductive DataAV : AV → Prop
  | d (x : D) : DataAV (.d x)
  | agg (cs : List AV) (h : ∀ c ∈ cs, DataAV c) : DataAV (.agg cs)
  | tup (cs : List AV) (h : ∀ c ∈ cs, DataAV c) : DataAV (.tup cs)
theorem DataAV.vr [Mode] {a : AV} (h : DataAV a) {ι ι' : Iota} {F : Nat → Prop} {w : World} : ∀ {v : Value}, VR ι F w a v → VR ι' F w a v := by
  induction h with
  | d x => intro v hv; cases hv with | d h => exact .d h
  | agg cs h ih =>
    intro v hv
    obtain ⟨vs, rfl, hvs⟩ := hv.agg_inv
    exact .agg cs vs hvs.1 fun i c v hc hv => ih c (List.mem_of_getElem? hc) (hvs.2 i c v hc hv)
  | tup cs h ih =>
    intro v hv
    obtain ⟨vs, rfl, hvs⟩ := hv.tup_inv
    exact .tup cs vs hvs.1 fun i c v hc hv => ih c (List.mem_of_getElem? hc) (hvs.2 i c v hc hv)
def dataB : AV → Bool
  | .d _ => true
  | .agg cs => dataBs cs
  | .tup cs => dataBs cs
  | _ => false
where dataBs : List AV → Bool
  | [] => true
  | c :: r => dataB c && dataBs r
mutual
theorem dataB_ok [Mode] : ∀ {a : AV}, dataB a = true → DataAV a
  | .d x, _ => .d x
  | .agg cs, h => .agg cs (dataBs_ok (by simpa [dataB] using h))
  | .tup cs, h => .tup cs (dataBs_ok (by simpa [dataB] using h))
  | .own .., h => by simp [dataB] at h
  | .ownc .., h => by simp [dataB] at h
  | .ptr .., h => by simp [dataB] at h
  | .dptr .., h => by simp [dataB] at h
  | .clo .., h => by simp [dataB] at h
  | .dead, h => by simp [dataB] at h
theorem dataBs_ok [Mode] : ∀ {cs : List AV}, dataB.dataBs cs = true → ∀ c ∈ cs, DataAV c
  | [], _, c, hc => by cases hc
  | a :: r, h, c, hc => by
    simp only [dataB.dataBs, Bool.and_eq_true] at h
    rcases List.mem_cons.1 hc with e | hc
    · rw [e]; exact dataB_ok h.1
    · exact dataBs_ok h.2 c hc
end
def dropW (l : Loc) : W := .un l fun _ => some none
theorem upds_drop [Mode] {l : Loc} : ∀ {ls : List Loc} {H : Heap}, (Cov ls l → upds H (ls.map dropW) l = none) ∧ (¬ Cov ls l → upds H (ls.map dropW) l = H l)
  | [], H => ⟨fun h => absurd h Cov.nil, fun _ => rfl⟩
  | r :: ls, H => by
    have ih := upds_drop (l := l) (ls := ls) (H := (dropW r).app H)
    simp only [List.map_cons, upds]
    by_cases hc : r.cov l = true
    · have happ : (dropW r).app H l = none := by simp [dropW, W.app, hc]
      refine ⟨fun _ => ?_, fun h => absurd ⟨r, by simp, hc⟩ h⟩
      by_cases h2 : Cov ls l
      · exact ih.1 h2
      · rw [ih.2 h2, happ]
    · have happ : (dropW r).app H l = H l := by simp [dropW, W.app, hc]
      refine ⟨fun ⟨r', hr', hc'⟩ => ?_, fun h => ?_⟩
      · rcases List.mem_cons.1 hr' with rfl | hr'
        · exact absurd hc' hc
        · exact ih.1 ⟨r', hr', hc'⟩
      · rw [ih.2 (fun ⟨r', hr', hc'⟩ => h ⟨r', by simp [hr'], hc'⟩), happ]
theorem Sim.freeze [Mode] {ι : Iota} {F : Nat → Prop} {H1 : Heap} {w : World} (hs : Sim ι F H1 w) (ls : List Loc) : Sim ι (fun b => F b ∨ ∃ l, Cov ls l ∧ Owned ι H1 l b) (upds H1 (ls.map dropW)) w := by
  have hsome : ∀ {l}, upds H1 (ls.map dropW) l ≠ none → ¬ Cov ls l ∧ H1 l ≠ none := fun {l} h => by
    by_cases hc : Cov ls l
    · exact absurd (upds_drop.1 hc) h
    · exact ⟨hc, by rwa [upds_drop.2 hc] at h⟩
  refine ⟨fun l o h => ?_, fun l l' b s s' h h' => hs.inj l l' b s s' (hsome h).2 (hsome h').2, fun l b s h e hF => ?_, fun b hb => ?_, hs.gl.mono (fun _ h => .inl h) (fun _ _ => rfl)⟩
  · have h1 := (hsome (l := l) (by rw [h]; simp)).1
    rw [upds_drop.2 h1] at h
    exact (hs.obj l o h).mono (ext_rfl _) (fun _ h => .inl h) (fun _ _ => rfl) (fun _ _ _ => rfl)
  · rcases hF with hF | ⟨l2, hc, h2, s2, e2⟩
    · exact hs.notF l b s (hsome h).2 e hF
    · have := hs.inj l l2 b s s2 (hsome h).2 h2 e e2
      subst this
      exact (hsome h).1 hc
  · rcases hb with hb | ⟨l2, hc, h2, s2, e2⟩
    · exact hs.lt b hb
    · exact hs.blt h2 e2
section
variable {P : Program} {o : Oper} {A : Operand → AV} {H : Heap} {new : Nat} {fo : Operand} {xs : List Operand} {ts : Array TypeId} {f : FuncId} {caps args : List AV} {res : AV} {ls : List Loc}
/-- A call that hands back data; what it borrows is written no more. -/
theorem OpOk.callZ [Mode] (ho : o.op = .call { callee := .value fo, args := xs.toArray, argTypes := ts }) [FnBody P f] (hfo : A fo = .clo (.func f) [] caps) (hc : AC P f args H0 res H0)
    (hargs : CA H ls args (xs.map A ++ caps)) (hd : DataAV res) : OpOk P o A ls H new res (ls.map dropW) := by
  intro ι F w H1 ρ hH hn hs hv
  have hvf := hv fo (by simp [ho, Op.operands, Call.operands])
  rw [hfo] at hvf
  generalize hq : ρ fo = q at hvf
  cases hvf with
  | clo _ _ _ fv cv h1 h2 h3 h4 =>
    have hfv : fv = [] := List.length_eq_zero_iff.1 h1
    subst hfv
    rw [run_call (P := P) (cap := cv) ho hq]
    have hvs : VRs ι F w (xs.map A ++ caps) (xs.map ρ ++ cv) := by
      refine VRs.append ⟨by simp, fun i c v hc hv' => ?_⟩ ⟨h2, h4⟩
      simp only [List.getElem?_map, Option.map_eq_some_iff] at hc hv'
      obtain ⟨x, hx, rfl⟩ := hc
      obtain ⟨x', hx', rfl⟩ := hv'
      rw [hx] at hx'; cases hx'
      exact hv x (by simp only [ho, Op.operands, Call.operands]; simp; exact .inr (List.mem_of_getElem? hx))
    let F2 : Nat → Prop := fun b => F b ∨ ∃ l, Cov ls l ∧ Owned ι H1 l b
    have hs2 := hs.freeze ls
    have hvc : VRs (fun _ => none) F2 w args (xs.map ρ ++ cv) := ⟨by rw [hvs.1, hargs.1], fun i c v hcc hvv => by
      have hi := (List.getElem?_eq_some_iff.1 hcc).1
      have hc' := List.getElem?_eq_getElem (l := xs.map A ++ caps) (i := i) (by have := hargs.1; omega)
      exact ((hargs.2 i c _ hcc hc').congr hH).vr hs (fun l hl => hl.elim) (hvs.2 i _ v hc' hvv)⟩
    show Calls P f _ w _
    refine (hc (fun _ => none) F2 w _ ⟨fun l o h => (by cases h), fun l l' b s s' h => absurd rfl h, fun l b s h => absurd rfl h, hs2.lt, hs2.gl⟩ (fun _ _ => rfl) hvc).mono ?_
    rintro e w' ⟨v, ι', F', rfl, hres, hs', hstep, hsub, hsup, hown, hkeep⟩
    have hstep' : Step (fun _ => False) w w' := hstep.mono fun b ⟨l, h, _⟩ => absurd rfl h
    have hblk : ∀ b, b < w.heap.size → w'.heap[b]? = w.heap[b]? := fun b hb => hstep'.block b hb id
    refine ⟨v, rfl, ι, F', hd.vr hres, ⟨fun l o h => ?_, hs2.inj, fun l b s h e hF => ?_, hs'.lt, hs'.gl⟩, ext_rfl _, fun l h => .inl h, fun b hb => hsub b (.inl hb), fun b hb => ?_, hstep'.mono fun _ h => h.elim, fun l b s h e => ?_⟩
    · exact (hs2.obj l o h).mono (ext_rfl _) hsub (fun b hb => hblk b (hs2.lt b hb)) (fun b s e => hblk b (hs2.blt (by rw [h]; simp) e))
    · rcases hsup b hF with h2 | ⟨l2, h2, _⟩ | h2
      · exact hs2.notF l b s h e h2
      · exact absurd rfl h2
      · have := hs2.blt h e; omega
    · rcases hsup b hb with (h2 | h2) | ⟨l2, h2, _⟩ | h2
      · exact .inl h2
      · exact .inr (.inl h2)
      · exact absurd rfl h2
      · exact .inr (.inr h2)
    · by_cases hcv : Cov ls l
      · exact absurd (upds_drop.1 hcv) h
      · rw [upds_drop.2 hcv] at h; exact .inl ⟨l, h, s, e⟩
end
/-- The same, without tables: whatever else there is may be told as data. -/
theorem Le.headZ [Mode] {C : Ctx} {fr : List AV} {H : Heap} {n : Nat} {hs : HL} (ss : List Loc) {fr' : List AV} {n' : Nat} (hlen : ss.length = hs.length) (hD : ∀ l, C.D0 l → l.id < n' ∧ tauL (srcs hs ss) l = l)
    (hfr : ARs H (fun l => l ∉ ss) (tauL (srcs hs ss)) (fun l => heapL (srcs hs ss) l ≠ none) fr' fr)
    (hob : AllP (fun p => ∃ ob', H p.2.1 = some ob' ∧ ObA H (fun l => l ∉ ss) (tauL (srcs hs ss)) (fun l => heapL (srcs hs ss) l ≠ none) p.2.2 ob') (srcs hs ss))
    (hn1 : ((srcs hs ss).map (·.1)).Nodup) (hn2 : ss.Nodup) (hn : AllP (fun p => p.1.id < n') (srcs hs ss)) : Le C ⟨fr, H, n⟩ ⟨fr', heapL hs, n'⟩ := by
  have hss : ∀ {hs : HL} {ss : List Loc}, ss.length = hs.length → (srcs hs ss).map (·.2.1) = ss := by
    intro hs
    induction hs with
    | nil => intro ss h; cases ss with | nil => rfl | cons => simp at h
    | cons p r ih => intro ss h; cases ss with | nil => simp at h | cons s q => simp [srcs, ih (by simpa using h)]
  have hmem : ∀ p ∈ srcs hs ss, ¬ p.2.1 ∉ ss := fun p hp h => h (by rw [← hss hlen]; exact List.mem_map_of_mem hp)
  have := Le.tellL (C := C) (s := ⟨fr, H, n⟩) (fun l => l ∉ ss) (srcs hs ss) fr' n' hfr hob.all hn1 (by rw [hss hlen]; exact hn2) hmem hn.all hD
  rwa [heapL_srcs hlen] at this
theorem AR.b [Mode] {H : Heap} {lent : Loc → Prop} {τ : Loc → Loc} {L : Loc → Prop} {a b : Bool} (h : a = b) : AR H lent τ L (Bo a) (Bo b) := h ▸ AR.dd _
theorem AR.iE [Mode] {H : Heap} {lent : Loc → Prop} {τ : Loc → Loc} {L : Loc → Prop} {a b : Int} (h : a = b) : AR H lent τ L (I a) (I b) := h ▸ AR.dd _
end Go.Proofs.YtofakjlamoigcaaDoor
end

section
namespace Go.Proofs.YtofakjlamoigcaaDoor
open Go Go.RowKit
set_option linter.unusedSimpArgs false
set_option linter.unusedVariables false

section
variable {P : Program} {o : Oper} {A : Operand → AV} {H : Heap} {new : Nat}
end
end Go.Proofs.YtofakjlamoigcaaDoor
end
