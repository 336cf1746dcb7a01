/-
  The abstract reading: struct literals, stores told out, appends of one, a nil slice as an empty row of one's own.
-/
import Derived.Test.YtemomjcgkpinfaaA13
namespace Go.Proofs.Ytemomjcgkpinfaa
open Go Go.RowKit
set_option linter.unusedSimpArgs false
set_option linter.unusedVariables false

section
variable {P : Program} {o : Oper} {A : Operand → AV} {H : Heap} {new : Nat}
theorem Ok.storeC {t : TypeId} {a x : Operand} {k i j : Nat} {l : Loc} {ob : AObj} {r : List AV} {v : AV} {rows : List (List AV)} (ho : o.op = .store t a x) (ha : A a = .ptr k l i j) [ht : TyCell P t] (hl : H l = some ob) (hk : ob.k = k) (hr : ob.rows[i]? = some r) (hn : j < r.length) (hx : A x = v) (hc : v.cells = [v]) (h1 : v.one = true) (hrows : ob.rows.set i (r.set j v) = rows) :
    OpOk P o A [l] H new (.d (.v undef)) [.one l (some ⟨k, rows⟩)] := by
  have := OpOk.store (P := P) (H := H) (new := new) (A := A) ho ha ht.s hl hk hr (by omega) (by rw [hx, hc]; rfl) (by rw [hx, hc]; simp [h1])
  rw [hx, hc] at this
  have e : r.take j ++ [v] ++ r.drop (j + 1) = r.set j v := by
    rw [List.set_eq_take_append_cons_drop, if_pos hn]; simp
  rw [e, hrows] at this
  exact this
theorem Ok.storeA {t : TypeId} {a x : Operand} {k i j n : Nat} {l : Loc} {ob : AObj} {r cs : List AV} {rows : List (List AV)} (ho : o.op = .store t a x) (ha : A a = .ptr k l i j) [ht : TyAgg P t n] (hl : H l = some ob) (hk : ob.k = k) (hr : ob.rows[i]? = some r) (hn : j + n ≤ r.length) (hx : A x = .agg cs) (hc : cs.length = n) (h1 : cs.all AV.one = true) (hrows : ob.rows.set i (r.take j ++ cs ++ r.drop (j + n)) = rows) :
    OpOk P o A [l] H new (.d (.v undef)) [.one l (some ⟨k, rows⟩)] := by
  have := OpOk.store (P := P) (H := H) (new := new) (A := A) ho ha ht.s hl hk hr hn (by rw [hx]; exact hc) (by rw [hx]; exact h1)
  rw [hx] at this
  rw [← hrows]
  exact this

/-! ### Struct literals -/
class TyBuild (P : Program) (t : TypeId) (pl : outParam (List (Nat × Nat))) (zs : outParam (List Value)) : Prop where
  z : (P.info? t).map (fun i => i.zero.map fun z => z.cells.toList) = some (some zs)
  u : (match P.underlying t with | some (.struct fs) => some (fs.toList.map fun f => (f.offset, (P.info? f.type).map (·.size))) | _ => none) = some (pl.map fun p => (p.1, some p.2))
theorem run_mapM_list {α β : Type} {P : Program} {w : World} {g : α → Sem β} : ∀ (l : List α) (vs : List β), l.length = vs.length → (∀ (i : Nat) rv v, l[i]? = some rv → vs[i]? = some v → (g rv).run P w = .ok v w) → (l.mapM g).run P w = .ok vs w
  | [], vs, hl, _ => by
    have : vs = [] := List.length_eq_zero_iff.1 hl.symm
    subst this; simp
  | rv :: l, vs, hl, h => by
    cases vs with
    | nil => simp at hl
    | cons v vs =>
      have h0 := h 0 rv v rfl rfl
      have ih := run_mapM_list (P := P) (w := w) (g := g) l vs (by simpa using hl) (fun i rv v h1 h2 => h (i + 1) rv v (by simpa using h1) (by simpa using h2))
      simp [List.mapM_cons, h0, ih]
theorem run_build' {t : TypeId} {pl : List (Nat × Nat)} {zs : List Value} [h : TyBuild P t pl zs] {parts : Array (Nat × Value)} {cells : Array Value} {w : World} (hf : Instr.fill (pl[·]?) zs.toArray parts.toList = some cells) : (Instr.build t parts).run P w = .ok (.agg cells) w := by
  have h1 := h.z
  have h2 := h.u
  cases hi : P.info? t with
  | none => rw [hi] at h1; cases h1
  | some i =>
    rw [hi] at h1
    simp only [Option.map_some, Option.some.injEq] at h1
    cases hz : i.zero with
    | none => rw [hz] at h1; cases h1
    | some z =>
      rw [hz] at h1
      simp only [Option.map_some, Option.some.injEq] at h1
      have hz' : z.cells = zs.toArray := by rw [← h1]
      cases hu : P.underlying t with
      | none => rw [hu] at h2; cases h2
      | some d =>
        rw [hu] at h2
        cases d with
        | struct fs =>
          simp only [Option.some.injEq] at h2
          have hm := run_mapM_list (P := P) (w := w) (g := fun f : Field => (do pure (f.offset, ← sizeOf f.type) : Sem (Nat × Nat))) fs.toList pl (by have := congrArg List.length h2; simpa using this) (fun i f p hf hp => by
            have h3 := congrArg (·[i]?) h2
            simp only [List.getElem?_map, hf, hp, Option.map_some, Option.some.injEq, Prod.mk.injEq] at h3
            rw [Sem.run_bind, run_sizeOf' h3.2]
            simp [h3.1])
          have hz2 : (zeroValue t).run P w = .ok z w := by simp [zeroValue, typeInfo, hi, hz]
          unfold Instr.build
          rw [Sem.run_bind, hz2]
          simp only [Result.andThen]
          rw [Sem.run_bind, run_underlying hu]
          simp only [Result.andThen]
          rw [Array.mapM_eq_mapM_toList, map_eq_pure_bind, Sem.run_bind, Sem.run_bind]
          erw [hm]
          simp [Result.andThen, hz', hf]
        | _ => cases h2
theorem OpOk.build {t : TypeId} {pl : List (Nat × Nat)} {zs : List Value} {parts : Array (Nat × Operand)} {cells cells' : List AV} (ho : o.op = .build t parts) [h : TyBuild P t pl zs] (hone : ∀ p ∈ parts.toList, (A p.2).cells.all AV.one = true) (hf : fillA (pl[·]?) (zs.map fun x => .d (.v x)) (parts.toList.map fun p => (p.1, A p.2)) = some cells) (hc : cells = cells') : OpOk P o A [] H new (.agg cells') [] := by
  subst hc
  refine .still [] fun ι F w H1 ρ _ hs hv => ?_
  have hops : ∀ p ∈ parts.toList, VR ι F w (A p.2) (ρ p.2) := fun p hp => hv p.2 (by
    simp only [ho, Op.operands]
    exact List.mem_toArray.2 (List.mem_map.2 ⟨p, hp, rfl⟩))
  have hz : VRs ι F w (zs.map fun x => .d (.v x)) zs.toArray.toList := by
    refine ⟨by simp, fun i c v hc hv => ?_⟩
    simp only [List.getElem?_map, Option.map_eq_some_iff] at hc
    obtain ⟨x, hx, rfl⟩ := hc
    simp only at hv
    rw [hx] at hv; cases hv
    exact .d (.v _)
  obtain ⟨cur', hf', hvs⟩ := fill_sound (place := (pl[·]?)) hz hops hone hf
  have hr := run_build' (P := P) (t := t) (pl := pl) (zs := zs) (w := w) (parts := parts.map fun p => (p.1, ρ p.2)) (cells := cur') (by rw [Array.toList_map]; exact hf')
  refine ⟨.agg cur', by simp [execOp, ho, hr], ?_⟩
  have := hvs.agg
  simpa using this
theorem Ok.build1 {t : TypeId} {pl : List (Nat × Nat)} {zs : List Value} {x0 : Operand} {i0 : Nat} {v0 : AV} {cells cells' : List AV} (ho : o.op = .build t #[(i0, x0)]) [h : TyBuild P t pl zs] (hx0 : A x0 = v0) (h0 : v0.cells.all AV.one = true) (hf : fillA (pl[·]?) (zs.map fun x => .d (.v x)) [(i0, v0)] = some cells) (hc : cells = cells') : OpOk P o A [] H new (.agg cells') [] :=
  OpOk.build ho (by intro p hp; simp at hp; rcases hp with rfl <;> simp only [hx0] <;> assumption) (by simpa [hx0] using hf) hc
theorem Ok.build2 {t : TypeId} {pl : List (Nat × Nat)} {zs : List Value} {x0 x1 : Operand} {i0 i1 : Nat} {v0 v1 : AV} {cells cells' : List AV} (ho : o.op = .build t #[(i0, x0), (i1, x1)]) [h : TyBuild P t pl zs] (hx0 : A x0 = v0) (hx1 : A x1 = v1) (h0 : v0.cells.all AV.one = true) (h1 : v1.cells.all AV.one = true) (hf : fillA (pl[·]?) (zs.map fun x => .d (.v x)) [(i0, v0), (i1, v1)] = some cells) (hc : cells = cells') : OpOk P o A [] H new (.agg cells') [] :=
  OpOk.build ho (by intro p hp; simp at hp; rcases hp with rfl | rfl <;> simp only [hx0, hx1] <;> assumption) (by simpa [hx0, hx1] using hf) hc
theorem Ok.build3 {t : TypeId} {pl : List (Nat × Nat)} {zs : List Value} {x0 x1 x2 : Operand} {i0 i1 i2 : Nat} {v0 v1 v2 : AV} {cells cells' : List AV} (ho : o.op = .build t #[(i0, x0), (i1, x1), (i2, x2)]) [h : TyBuild P t pl zs] (hx0 : A x0 = v0) (hx1 : A x1 = v1) (hx2 : A x2 = v2) (h0 : v0.cells.all AV.one = true) (h1 : v1.cells.all AV.one = true) (h2 : v2.cells.all AV.one = true) (hf : fillA (pl[·]?) (zs.map fun x => .d (.v x)) [(i0, v0), (i1, v1), (i2, v2)] = some cells) (hc : cells = cells') : OpOk P o A [] H new (.agg cells') [] :=
  OpOk.build ho (by intro p hp; simp at hp; rcases hp with rfl | rfl | rfl <;> simp only [hx0, hx1, hx2] <;> assumption) (by simpa [hx0, hx1, hx2] using hf) hc
theorem Ok.build4 {t : TypeId} {pl : List (Nat × Nat)} {zs : List Value} {x0 x1 x2 x3 : Operand} {i0 i1 i2 i3 : Nat} {v0 v1 v2 v3 : AV} {cells cells' : List AV} (ho : o.op = .build t #[(i0, x0), (i1, x1), (i2, x2), (i3, x3)]) [h : TyBuild P t pl zs] (hx0 : A x0 = v0) (hx1 : A x1 = v1) (hx2 : A x2 = v2) (hx3 : A x3 = v3) (h0 : v0.cells.all AV.one = true) (h1 : v1.cells.all AV.one = true) (h2 : v2.cells.all AV.one = true) (h3 : v3.cells.all AV.one = true) (hf : fillA (pl[·]?) (zs.map fun x => .d (.v x)) [(i0, v0), (i1, v1), (i2, v2), (i3, v3)] = some cells) (hc : cells = cells') : OpOk P o A [] H new (.agg cells') [] :=
  OpOk.build ho (by intro p hp; simp at hp; rcases hp with rfl | rfl | rfl | rfl <;> simp only [hx0, hx1, hx2, hx3] <;> assumption) (by simpa [hx0, hx1, hx2, hx3] using hf) hc
theorem Ok.build5 {t : TypeId} {pl : List (Nat × Nat)} {zs : List Value} {x0 x1 x2 x3 x4 : Operand} {i0 i1 i2 i3 i4 : Nat} {v0 v1 v2 v3 v4 : AV} {cells cells' : List AV} (ho : o.op = .build t #[(i0, x0), (i1, x1), (i2, x2), (i3, x3), (i4, x4)]) [h : TyBuild P t pl zs] (hx0 : A x0 = v0) (hx1 : A x1 = v1) (hx2 : A x2 = v2) (hx3 : A x3 = v3) (hx4 : A x4 = v4) (h0 : v0.cells.all AV.one = true) (h1 : v1.cells.all AV.one = true) (h2 : v2.cells.all AV.one = true) (h3 : v3.cells.all AV.one = true) (h4 : v4.cells.all AV.one = true) (hf : fillA (pl[·]?) (zs.map fun x => .d (.v x)) [(i0, v0), (i1, v1), (i2, v2), (i3, v3), (i4, v4)] = some cells) (hc : cells = cells') : OpOk P o A [] H new (.agg cells') [] :=
  OpOk.build ho (by intro p hp; simp at hp; rcases hp with rfl | rfl | rfl | rfl | rfl <;> simp only [hx0, hx1, hx2, hx3, hx4] <;> assumption) (by simpa [hx0, hx1, hx2, hx3, hx4] using hf) hc
theorem Ok.bs0 {t e : TypeId} {k b : Nat} {z : Value} (ho : o.op = .buildSlice t 0 #[]) [h : TySlice P t e k b z] : OpOk P o A [] H new (.own k ⟨new, []⟩ 0 0) [.one ⟨new, []⟩ (some ⟨k, []⟩)] :=
  OpOk.buildSlice [] ho rfl rfl (by simp) (by simp) (by simp)
theorem Ok.bs1 {t e : TypeId} {k b : Nat} {z : Value} {x : Operand} {v : AV} {cs : List AV} (ho : o.op = .buildSlice t 1 #[(0, x)]) [h : TySlice P t e k b z] (hx : A x = v) (hv : v.cells = cs) (hk : cs.length = k) (h1 : cs.all AV.one = true) (hsm : k ≤ 16777216) : OpOk P o A [] H new (.own k ⟨new, []⟩ 0 1) [.one ⟨new, []⟩ (some ⟨k, [cs]⟩)] := by
  have := OpOk.buildSlice (P := P) (H := H) (new := new) (A := A) [x] ho rfl rfl (by omega) (by simp [hx, hv] at h1 ⊢; exact h1) (by simp [hx, hv, hk])
  simpa [hx, hv] using this

/-! ### Appends of one row of data -/
theorem Ok.append1 {t t' e e' : TypeId} {ts : Array TypeId} {s x : Operand} {k b b' n : Nat} {z z' : Value} {rows : List (List D)} {l l' : Loc} {row : List D} {rw' : List AV} (ho : o.op = .call { callee := .builtin .append, args := #[s, x], argTypes := ts }) (hts : ts = #[t, t']) [h : TySlice P t e k b z] [h' : TySlice P t' e' k b' z'] (hk0 : 0 < k)
    (hs : A s = .own k l 0 n) (hl : H l = some (dobj k rows)) (hn : rows.length = n) (hx : A x = .own k l' 0 1) (hl' : H l' = some ⟨k, [rw']⟩) (hrow : rw' = row.map .d) (hone : rw'.all AV.one = true) (hsz : (n + 1) * b ≤ 140737488355328) (h63 : n + 1 ≤ 9223372036854775807) :
    OpOk P o A [l, l'] H new (.own k ⟨new, []⟩ 0 (n + 1)) [.one l none, .one ⟨new, []⟩ (some (dobj k (rows ++ [row])))] := by
  have hd : (dobj k rows).rows.length = n := by simp [dobj, hn]
  have := OpOk.append (P := P) (H := H) (new := new) (A := A) (S := rows.map fun r => r.map .d) (R := [rw']) (rd := [l']) (rs := [l]) (wr := [.one l none, .one ⟨new, []⟩ (some ⟨k, (rows.map fun r => r.map .d) ++ [rw']⟩)]) (n := n) ho hts hk0
    (.inl ⟨l, _, hs, hl, rfl, by rw [hd]; exact Nat.le_refl _, by simp only [dobj]; rw [List.take_of_length_le (by simp [hn])], rfl, rfl⟩) (by rw [hx]; exact .own l' 0 1 ⟨k, [rw']⟩ hl' rfl (by simp)) (by simpa using hone) (by simpa using hsz) (by simpa using h63)
  simpa [dobj, hrow] using this

theorem Ok.makeN {t e : TypeId} {x y : Operand} {k b n : Nat} {z : Value} (ho : o.op = .makeSlice t x y) (hx : A x = I (n : Nat)) (hy : A y = I (n : Nat)) [h : TySlice P t e k b z] (hb : b * n ≤ 281474976710656) (h63 : n ≤ 9223372036854775807) :
    OpOk P o A [] H new (.own k ⟨new, []⟩ 0 n) [.one ⟨new, []⟩ (some (dobj k (List.replicate n (z.cells.toList.map .v))))] := by
  have := OpOk.makeSlice (P := P) (H := H) (new := new) (A := A) ho hx hy (by omega) (by have := Int.ofNat_le.2 hb; rw [Int.natCast_mul] at this; exact this) (by omega)
  simpa [dobj, Function.comp_def] using this

/-! ### Rows filled one after the other -/
def fillRows {α : Type} (m : Nat) (row : α → List D) (z : List D) (xs : List α) (k : Nat) : AObj := dobj m ((xs.take k).map row ++ List.replicate (xs.length - k) z)
theorem fillRows_0 {α : Type} {m : Nat} {row : α → List D} {z : List D} {xs : List α} : fillRows m row z xs 0 = dobj m (List.replicate xs.length z) := by simp [fillRows]
theorem fillRows_all {α : Type} {m : Nat} {row : α → List D} {z : List D} {xs : List α} {k : Nat} (h : xs.length ≤ k) : fillRows m row z xs k = dobj m (xs.map row) := by
  simp [fillRows, List.take_of_length_le h, Nat.sub_eq_zero_of_le h]
theorem ObA.frE {α : Type} {H : Heap} {lent : Loc → Prop} {τ : Loc → Loc} {L : Loc → Prop} {m : Nat} {row : α → List D} {z : List D} {xs : List α} {k : Nat} {ob : AObj} (h : ob = fillRows m row z xs k) : ObA H lent τ L (fillRows m row z xs k) ob := by subst h; exact ObA.data
theorem fillRows_get {α : Type} {m : Nat} {row : α → List D} {z : List D} {xs : List α} {k : Nat} (h : k < xs.length) : (fillRows m row z xs k).rows[0 + ((k : Nat) : Int).toNat]? = some (z.map .d) := by
  simp only [fillRows, dobj, Int.toNat_natCast, Nat.zero_add, List.getElem?_map]
  rw [List.getElem?_append_right (by simp; omega)]
  simp [List.getElem?_replicate, Nat.min_eq_left (Nat.le_of_lt h), Nat.sub_ne_zero_of_lt h]
theorem fillRows_set {α : Type} {m : Nat} {row : α → List D} {z : List D} {xs : List α} {k : Nat} {x : α} {cs : List AV} (h : xs[k]? = some x) (hc : cs = (row x).map .d) : (fillRows m row z xs k).rows.set (0 + ((k : Nat) : Int).toNat) cs = (fillRows m row z xs (k + 1)).rows := by
  subst hc
  obtain ⟨hk, rfl⟩ := List.getElem?_eq_some_iff.1 h
  simp only [fillRows, dobj, Int.toNat_natCast, Nat.zero_add, ← List.map_set]
  congr 1
  have hl : ((xs.take k).map row).length = k := by simp; omega
  rw [List.set_append_right _ _ (by omega), hl, Nat.sub_self]
  have : xs.length - k = (xs.length - (k + 1)) + 1 := by omega
  rw [this, List.replicate_succ, List.set_cons_zero, List.take_succ_eq_append_getElem hk, List.map_append, List.append_assoc]
  rfl
theorem AR.ownE {H : Heap} {lent : Loc → Prop} {τ : Loc → Loc} {L : Loc → Prop} (k : Nat) (l : Loc) (off : Nat) {n n' : Nat} (hn : n = n') (h : L l) : AR H lent τ L (.own k l off n) (.own k (τ l) off n') := hn ▸ AR.own k l off n h

/-! ### A nil slice as an empty row -/
inductive NilR (k : Nat) (l : Loc) : AV → AV → Prop
  | refl (a : AV) : NilR k l a a
  | nil : NilR k l (.d (.v (.slice none 0 0))) (.own k l 0 0)
  | agg (cs cs' : List AV) (hl : cs.length = cs'.length) (h : ∀ (i : Nat) c c', cs[i]? = some c → cs'[i]? = some c' → NilR k l c c') : NilR k l (.agg cs) (.agg cs')
  | tup (cs cs' : List AV) (hl : cs.length = cs'.length) (h : ∀ (i : Nat) c c', cs[i]? = some c → cs'[i]? = some c' → NilR k l c c') : NilR k l (.tup cs) (.tup cs')
theorem NilR.vr {ι : Iota} {F : Nat → Prop} {w : World} {k : Nat} {l : Loc} (hl : ι l = some none) {a a' : AV} (h : NilR k l a a') : ∀ {v : Value}, VR ι F w a v → VR ι F w a' v := by
  induction h with
  | refl a => exact id
  | nil => intro v hv; have := hv.v_inv; subst this; exact .ownNil k l hl
  | agg cs cs' hl h ih =>
    intro v hv
    obtain ⟨vs, rfl, h1, h2⟩ := hv.agg_inv
    refine .agg cs' vs (by rw [h1, hl]) fun i c v hc hv => ?_
    have hi : i < cs.length := by rw [hl]; exact (List.getElem?_eq_some_iff.1 hc).1
    exact ih i _ c (List.getElem?_eq_getElem hi) hc (h2 i _ v (List.getElem?_eq_getElem hi) hv)
  | tup cs cs' hl h ih =>
    intro v hv
    cases hv with
    | tup _ vs h1 h2 =>
    refine .tup cs' vs (by rw [h1, hl]) fun i c v hc hv => ?_
    have hi : i < cs.length := by rw [hl]; exact (List.getElem?_eq_some_iff.1 hc).1
    exact ih i _ c (List.getElem?_eq_getElem hi) hc (h2 i _ v (List.getElem?_eq_getElem hi) hv)
theorem Le.nilR {C : Ctx} {H : Heap} {n : Nat} (k : Nat) {a a' : AV} (h : NilR k ⟨n, []⟩ a a') : Le C ⟨[a], H, n⟩ ⟨[a'], upd H ⟨n, []⟩ (some ⟨k, []⟩), n + 1⟩ := by
  rintro ac w ⟨ι, F, hs, hv, hdf, hi, hu⟩
  have hn : ∀ k, ι ⟨n, k⟩ = none := fun k => hu n (Nat.le_refl _) k
  have hp := Post.allocNil hs hn k []
  refine ⟨updι ι ⟨n, []⟩ none, F, hp.sim, ?_, hdf, ⟨hi.step, hi.sub, hi.sup, fun l b ⟨h1, sz, e1⟩ => ?_, fun l x hl e => hp.ext _ _ (hi.keep l x hl e)⟩, fun id hid k => ?_⟩
  · have hv' := hv.mono hp.ext hp.sub (fun b hb => rfl)
    refine ⟨by simpa using hv'.1, fun i c v hc hvv => ?_⟩
    cases i with
    | zero => simp at hc; subst hc; exact h.vr (by simp [updι]) (hv'.2 0 a v rfl hvv)
    | succ i => simp at hc
  · by_cases hl : l = ⟨n, []⟩
    · subst hl; simp [updι] at e1
    · simp only [updι, hl, if_false] at e1
      have h1' : upd H ⟨n, []⟩ (some ⟨k, []⟩) l ≠ none := h1
      rw [upd_ne hl] at h1'
      exact hi.own l b ⟨h1', sz, e1⟩
  · have hid' : n + 1 ≤ id := hid
    have : (⟨id, k⟩ : Loc) ≠ ⟨n, []⟩ := fun e => by cases e; omega
    simp only [updι, this, if_false]
    exact hu id (by show n ≤ id; omega) k
/-- The end of a function that hands back a nil slice and a number: the slice told as an empty row. -/
theorem end2nil {C : Ctx} {fr : List AV} {n : Nat} {fn : Func} {e : Exit} {rv rv' : ResultVar} {k : Nat} {y : D} (he : e = .ret ∨ e = .normal) (hr : fn.results.toList = [rv, rv']) (h : ResOf P fr H rv (.d (.v (.slice none 0 0)))) (h' : ResOf P fr H rv' (.d y)) (hD : ∀ l, ¬ C.D0 l) :
    EndQ P C fn (.tup [.own k ⟨0, []⟩ 0 0, .d y]) (upd H0 ⟨0, []⟩ (some ⟨k, []⟩)) e ⟨fr, H, n⟩ := by
  refine end2 he hr h h' rfl ((Le.nilR k (.tup [.d (.v (.slice none 0 0)), .d y] [.own k ⟨n, []⟩ 0 0, .d y] rfl fun i c c' h1 h2 => ?_)).trans (Le.head [(⟨0, []⟩, ⟨n, []⟩, ⟨k, []⟩)] (n' := 1) (fun l h => absurd h (hD l)) ?_ ?_ (by simp) (by simp) (by simp [AllP])))
  · match i with
    | 0 => simp at h1 h2; subst h1; subst h2; exact .nil
    | 1 => simp at h1 h2; subst h1; subst h2; exact .refl _
    | i + 2 => simp at h1
  · exact ⟨⟨_, upd_same .., rfl, rfl, fun i r r' h => by simp at h⟩, trivial⟩
  · exact ARs.cons (ARs.tup (ARs.cons (AR.own k ⟨0, []⟩ 0 0 (by simp [heapL, upd])) (ARs.cons (AR.dd _) ARs.nil))) ARs.nil
/-- A call that hands back a new row, its result told out. -/
theorem OpOk.call1n {fo : Operand} {xs : List Operand} {ts : Array TypeId} {f : FuncId} {caps args : List AV} {res res' : AV} {ob : AObj} (lent : List Loc) (ho : o.op = .call { callee := .value fo, args := xs.toArray, argTypes := ts }) [FnBody P f] (hfo : A fo = .clo (.func f) [] caps) (hc : AC P f args H0 res (upd H0 ⟨0, []⟩ (some ob)))
    (hfree : lent = [] ∨ (FreeF res ∧ ∀ r ∈ ob.rows, ∀ c ∈ r, FreeF c)) (hrn : ∀ g, rnO g ob = ob) (hargs : ARs H (· ∈ lent) id (fun _ => False) args (xs.map A ++ caps)) (hr : rn (fun l => ⟨new, l.id :: l.sub⟩) res = res') : OpOk P o A lent H new res' [.one ⟨new, [0]⟩ (some ob)] :=
  hr ▸ OpOk.call1 lent ho hfo hc hfree hrn hargs
theorem free_dobj {k : Nat} {rows : List (List Value)} : ∀ r ∈ (dobj k (rows.map fun r => r.map .v)).rows, ∀ c ∈ r, FreeF c := by
  intro r hr c hc
  simp only [dobj, List.map_map, List.mem_map] at hr
  obtain ⟨r', _, rfl⟩ := hr
  simp only [Function.comp_def, List.map_map, List.mem_map] at hc
  obtain ⟨x, _, rfl⟩ := hc
  exact FreeF.v x
/-- A call that changes one place of the caller's, passed whole. -/
theorem OpOk.callM {fo : Operand} {xs : List Operand} {ts : Array TypeId} {f : FuncId} {caps args : List AV} {res : AV} {l : Loc} {k k' : Nat} {rows rows' : List (List D)} {y : Value} (ho : o.op = .call { callee := .value fo, args := xs.toArray, argTypes := ts }) [FnBody P f] (hfo : A fo = .clo (.func f) [] caps)
    (hc : AC P f args (upd H0 ⟨0, []⟩ (some (dobj k rows))) res (upd H0 ⟨0, []⟩ (some (dobj k' rows')))) (hl : H l = some (dobj k rows)) (hres : res = .d (.v y)) (hargs : ARs H (fun _ => False) (fun _ => l) (· = ⟨0, []⟩) args (xs.map A ++ caps)) : OpOk P o A [l] H new res [.one l (some (dobj k' rows'))] := by
  have hfn : ∀ c, res = c → rn (emb (fun _ => l) [⟨0, []⟩] new) c = res := fun c h => by subst h; rw [hres, rn]
  have h := OpOk.callGen (P := P) (o := o) (A := A) (H := H) (new := new) (wr := [.one l (some (dobj k' rows'))]) [] (fun _ => l) [⟨0, []⟩] ho hfo hc (fun l' => by
      by_cases e : l' = ⟨0, []⟩
      · subst e; rw [upd_same]; simp
      · simp [upd_ne e, e]) (fun l1 h1 l2 h2 _ => by simp at h1 h2; rw [h1, h2]) (fun l' h => by simp) (fun l' ob hob => by
      by_cases e : l' = ⟨0, []⟩
      · subst e; rw [upd_same] at hob; cases hob
        exact ⟨_, hl, ObA.data (H := H) (lent := fun _ => False) (τ := fun _ => l) (L := fun _ => True) |>.1, rfl, fun i r r' hr hr' => ⟨(ObA.data (H := H) (lent := (· ∈ ([] : List Loc))) (τ := fun _ => l) (L := (· ∈ [(⟨0, []⟩ : Loc)]) )).2.2 i r r' hr hr' |>.1, (ObA.data (H := H) (lent := (· ∈ ([] : List Loc))) (τ := fun _ => l) (L := (· ∈ [(⟨0, []⟩ : Loc)]) )).2.2 i r r' hr hr' |>.2⟩⟩
      · rw [upd_ne e] at hob; cases hob) (.inl rfl) (by simpa using hargs) (fun H1 h1 h2 => by
      have h3 : H1 l = some (dobj k rows) := (h2 ⟨0, []⟩ (by simp)).trans hl
      funext l'
      simp only [upds, W.app, merge, upd]
      by_cases e : l' = l
      · subst e; simp [rnO_dobj]
      · have e2 : (l == l') = false := by simpa using fun h => e h.symm
        simp only [List.find?_cons, e2, List.find?_nil, e, if_false]
        split
        · rename_i e3
          obtain ⟨id, sub⟩ := l'
          simp only at e3; subst e3
          cases sub with
          | nil => simp [h1]
          | cons i s =>
            by_cases e4 : (⟨i, s⟩ : Loc) = ⟨0, []⟩
            · simp [h1, e4]
            · simp [h1, e4]
        · rfl)
  rw [hfn res rfl] at h
  simpa using h
end
end Go.Proofs.Ytemomjcgkpinfaa
