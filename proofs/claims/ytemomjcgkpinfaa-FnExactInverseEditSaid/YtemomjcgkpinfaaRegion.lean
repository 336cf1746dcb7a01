/-
  A law for regions that draw their order: one walk in the order of the text serves every order, where each operation either yields one value whatever the world, or is told of by a property that no other operation can break.
-/
import Derived.StillTail
import Derived.Test.YtemomjcgkpinfaaBase3
namespace Go.Proofs.Ytemomjcgkpinfaa
open Go.RowKit

/-- What is asked of an operation whose value is not known: it leaves, in a world of E, a value of which S holds. -/
def Tame (P : Program) (E : World → World → Prop) (w : World) (S : Value → World → Prop) : Result Next → Prop
  | .ok (.value u) w' => E w w' ∧ S u w'
  | .ok .skip w' => E w w' ∧ S undef w'
  | .ok (.enter f args) w' => Calls P f args w' fun e w'' => ∃ v, e = .returned v ∧ E w w'' ∧ S v w''
  | _ => False

/-- What is said of an operation's value: by itself; of the world, given the values of the operations for which it waits. -/
structure Spec where
  pure : Value → Prop
  here : (Nat → Value) → Value → World → Prop

section
variable {P : Program} {ops : Array Oper} {md : Region.Mode} {E : Nat → World → World → Prop} {F : World → Prop} {sp : Nat → Option Spec}

def upd (fs : Nat → Value) (k : Nat) (v : Value) : Nat → Value := fun j => if j = k then v else fs j
theorem upd_same {fs : Nat → Value} {k : Nat} {v : Value} : upd fs k v k = v := by simp [upd]
theorem upd_ne {fs : Nat → Value} {k j : Nat} {v : Value} (h : j ≠ k) : upd fs k v j = fs j := by simp [upd, h]
theorem upd_comm {fs : Nat → Value} {k j : Nat} {v u : Value} (h : j ≠ k) : upd (upd fs k v) j u = upd (upd fs j u) k v := by
  funext i; unfold upd; by_cases h1 : i = j <;> by_cases h2 : i = k <;> simp [h1, h2, h] <;> (intro e; exact absurd e (Ne.symm h) ) 

/-- Does o wait for number k? -/
def waits (md : Region.Mode) (o : Oper) (k : Nat) : Bool := o.after.any fun e => Region.binds md e && e.on == k
/-- The values of the operations for which o waits. -/
def mask (md : Region.Mode) (o : Oper) (fs : Nat → Value) : Nat → Value := fun k => if waits md o k then fs k else undef
theorem waits_of {o : Oper} {k : Nat} (h : waits md o k = true) : ∃ e ∈ o.after, Region.binds md e = true ∧ e.on = k := by
  obtain ⟨e, he, hb⟩ := Array.any_eq_true'.1 h
  simp only [Bool.and_eq_true, beq_iff_eq] at hb
  exact ⟨e, he, hb.1, hb.2⟩
theorem mask_upd {o : Oper} {fs : Nat → Value} {k : Nat} {v : Value} (h : ∀ e ∈ o.after, Region.binds md e = true → e.on ≠ k) : mask md o (upd fs k v) = mask md o fs := by
  funext j
  unfold mask
  split
  · rename_i hw
    obtain ⟨e, he, hb, rfl⟩ := waits_of hw
    exact upd_ne (h e he hb)
  · rfl
/-- What holds of the operations for which o waits. -/
def Deps (md : Region.Mode) (ops : Array Oper) (sp : Nat → Option Spec) (o : Oper) (fs : Nat → Value) (w : World) : Prop :=
  ∀ e ∈ o.after, Region.binds md e = true → ∀ s o', sp e.on = some s → ops[e.on]? = some o' → s.here (mask md o' fs) (fs e.on) w

/-- An exact operation: one value in every world of F, which stays as it is. -/
def Exact (P : Program) (ops : Array Oper) (F : World → Prop) (o : Oper) (a : Act) (x : Value) : Prop :=
  ∀ w, F w → if Region.wanted o (yielded ops a.tmps) = true then ((execOp a.eval o).run P w = .ok (.value x) w ∨ ((execOp a.eval o).run P w = .ok .skip w ∧ x = undef)) else x = undef
def Rel (P : Program) (ops : Array Oper) (md : Region.Mode) (E : World → World → Prop) (F : World → Prop) (sp : Nat → Option Spec) (s : Spec) (o : Oper) (a : Act) (fs : Nat → Value) : Prop :=
  (∀ w, F w → Deps md ops sp o fs w → if Region.wanted o (yielded ops a.tmps) = true then Tame P E w (fun v w' => s.pure v ∧ s.here (mask md o fs) v w') ((execOp a.eval o).run P w) else s.pure undef ∧ s.here (mask md o fs) undef w) ∧ ∃ v, s.pure v

/-- Operation number j comes up. -/
def rOp (P : Program) (ops : Array Oper) (md : Region.Mode) (E : Nat → World → World → Prop) (F : World → Prop) (sp : Nat → Option Spec) (j : Nat) (K : Act → (Nat → Value) → Prop) (a : Act) (fs : Nat → Value) : Prop :=
  match ops[j]? with
  | none => False
  | some o => match sp j with
    | none => ∃ x, Exact P ops F o a x ∧ K (a.put o.dst x) fs
    | some s => Rel P ops md (E j) F sp s o a fs ∧ ∀ v, s.pure v → K (a.put o.dst v) (upd fs j v)

/-- Whatever order is picked, till what is left satisfies L. -/
def wpAnyR (P : Program) (md : Region.Mode) (ops : Array Oper) (E : Nat → World → World → Prop) (F : World → Prop) (sp : Nat → Option Spec) (n : Nat) (L : Array Bool → Act → (Nat → Value) → Prop) : Nat → Array Bool → Act → (Nat → Value) → Prop
  | 0, listed, a, fs => L listed a fs
  | f + 1, listed, a, fs => Region.ready md ops listed ≠ [] ∧ ∀ i ∈ Region.ready md ops listed, i < n ∧ rOp P ops md E F sp i (wpAnyR P md ops E F sp n L f (listed.setIfInBounds i true)) a fs

theorem Tame.wp {E : World → World → Prop} {o : Oper} {a : Act} {w : World} {S : Value → World → Prop} {K : Act → World → Prop} {Q : Exit → Act → World → Prop} (h : Tame P E w S ((execOp a.eval o).run P w)) (hk : ∀ v w', E w w' → S v w' → K (a.put o.dst v) w') : o.wp P a w K Q := by
  unfold Oper.wp
  generalize (execOp a.eval o).run P w = r at *
  cases r with
  | ok x w' =>
    cases x <;> simp only [Tame] at h <;> simp only [Oper.upon]
    case value u => exact hk _ _ h.1 h.2
    case skip => exact hk _ _ h.1 h.2
    case enter f args => exact h.mono fun e w'' ⟨v, he, h1, h2⟩ => by subst he; exact hk _ _ h1 h2
  | halt x w' => simp only [Tame] at h

/-- It is a wpAny, from every world in which what is known so far holds. -/
theorem wpAny_of_R {n g : Nat} {L : Array Bool → Act → (Nat → Value) → Prop} {Q : Exit → Act → World → Prop} (hE : ∀ j w w', E j w w' → F w → F w') (hst : ∀ j k s, j ≠ k → sp k = some s → ∀ fs v w w', E j w w' → s.here fs v w → s.here fs v w')
    (hL : ∀ listed a fs w, L listed a fs → F w → (∀ k s o, sp k = some s → ops[k]? = some o → listed.getD k false = true → s.here (mask md o fs) (fs k) w) → wpAny P md ops Q g listed a w) :
    ∀ (f : Nat) (listed : Array Bool) (a : Act) (fs : Nat → Value) (w : World), listed.size = ops.size → (∀ j oj, ops[j]? = some oj → listed.getD j false = true → ∀ e ∈ oj.after, Region.binds md e = true → listed.getD e.on false = true) →
      wpAnyR P md ops E F sp n L f listed a fs → F w → (∀ k s o, sp k = some s → ops[k]? = some o → listed.getD k false = true → s.here (mask md o fs) (fs k) w) → wpAny P md ops Q (f + g) listed a w
  | 0, listed, a, fs, w, _, _, h, hF, hfs => by rw [Nat.zero_add]; exact hL _ _ _ _ h hF hfs
  | f + 1, listed, a, fs, w, hsz, hcl, h, hF, hfs => by
    rw [show f + 1 + g = (f + g) + 1 by omega]
    refine ⟨fun h0 => absurd h0 h.1, fun i hi => ?_⟩
    obtain ⟨hun, o, ho, hdep⟩ := mem_ready.1 hi
    have hin : i < listed.size := by rw [hsz]; exact (Array.getElem?_eq_some_iff.1 ho).1
    have hcl' : ∀ j oj, ops[j]? = some oj → (listed.setIfInBounds i true).getD j false = true → ∀ e ∈ oj.after, Region.binds md e = true → (listed.setIfInBounds i true).getD e.on false = true := by
      intro j oj hj hl e he hb
      by_cases hij : i = j
      · subst hij
        have : oj = o := Option.some.inj (hj.symm.trans ho)
        subst this
        exact getD_set_true (hdep e he hb)
      · rw [getD_set_ne false hij] at hl
        exact getD_set_true (hcl j oj hj hl e he hb)
    have hself : ∀ e ∈ o.after, Region.binds md e = true → e.on ≠ i := fun e he hb heq => by
      have h1 := hdep e he hb
      rw [heq, getD_both hun] at h1
      cases h1
    have h2 := (h.2 i hi).2
    unfold rOp at h2
    simp only [ho] at h2
    unfold wpOp
    simp only [ho]
    have step : ∀ (v : Value) (w' : World), E i w w' → (∀ s, sp i = some s → s.here (mask md o fs) v w') → wpAnyR P md ops E F sp n L f (listed.setIfInBounds i true) (a.put o.dst v) (upd fs i v) → wpAny P md ops Q (f + g) (listed.setIfInBounds i true) (a.put o.dst v) w' := by
      intro v w' he hv hK
      refine wpAny_of_R hE hst hL f _ _ (upd fs i v) w' (by simpa using hsz) hcl' hK (hE _ _ _ he hF) (fun k s ok hs hok hl => ?_)
      by_cases hki : k = i
      · subst hki
        have : ok = o := Option.some.inj (hok.symm.trans ho)
        subst this
        rw [upd_same, mask_upd hself]; exact hv s hs
      · rw [getD_set_ne false (Ne.symm hki)] at hl
        rw [upd_ne hki, mask_upd (fun e he hb heq => by
          have h1 := hcl k ok hok hl e he hb
          rw [heq, getD_both hun] at h1
          cases h1)]
        exact hst i k s (Ne.symm hki) hs _ _ _ _ he (hfs k s ok hs hok hl)
    have step0 : ∀ (v : Value), sp i = none → wpAnyR P md ops E F sp n L f (listed.setIfInBounds i true) (a.put o.dst v) fs → wpAny P md ops Q (f + g) (listed.setIfInBounds i true) (a.put o.dst v) w := by
      intro v hn hK
      refine wpAny_of_R hE hst hL f _ _ fs w (by simpa using hsz) hcl' hK hF (fun k s ok hs hok hl => ?_)
      by_cases hki : k = i
      · subst hki; rw [hn] at hs; cases hs
      · rw [getD_set_ne false (Ne.symm hki)] at hl
        exact hfs k s ok hs hok hl
    cases hs : sp i with
    | none =>
      simp only [hs] at h2
      obtain ⟨x, hx, hK⟩ := h2
      have hx' := hx w hF
      split at hx'
      · rename_i hw
        rw [if_pos hw]
        left
        unfold Oper.wp
        rcases hx' with hr | ⟨hr, rfl⟩
        · rw [hr]; exact step0 x hs hK
        · rw [hr]; exact step0 undef hs hK
      · rename_i hw
        rw [if_neg hw]
        subst hx'
        exact step0 undef hs hK
    | some s =>
      simp only [hs] at h2
      obtain ⟨⟨hr, _⟩, hK⟩ := h2
      have hr' := hr w hF (fun e he hb s' o' hs' ho' => hfs _ s' o' hs' ho' (hdep e he hb))
      split at hr'
      · rename_i hw
        rw [if_pos hw]
        left
        exact hr'.wp fun v w' he hv => step v w' he (fun s' hs' => by rw [hs] at hs'; cases hs'; exact hv.2) (hK v hv.1)
      · rename_i hw
        rw [if_neg hw]
        -- an operation that is passed over leaves the world as it is
        refine wpAny_of_R hE hst hL f _ _ (upd fs i undef) w (by simpa using hsz) hcl' (hK undef hr'.1) hF (fun k s' ok hs' hok hl => ?_)
        by_cases hki : k = i
        · subst hki
          have : ok = o := Option.some.inj (hok.symm.trans ho)
          subst this
          rw [hs] at hs'
          cases hs'
          rw [upd_same, mask_upd hself]; exact hr'.2
        · rw [getD_set_ne false (Ne.symm hki)] at hl
          rw [upd_ne hki, mask_upd (fun e he hb heq => by
            have h1 := hcl k ok hok hl e he hb
            rw [heq, getD_both hun] at h1
            cases h1)]
          exact hfs k s' ok hs' hok hl

theorem rOp_mono {j : Nat} {a : Act} {fs : Nat → Value} {K K' : Act → (Nat → Value) → Prop} (h : ∀ a fs, K a fs → K' a fs) (hh : rOp P ops md E F sp j K a fs) : rOp P ops md E F sp j K' a fs := by
  unfold rOp at *
  split
  · rename_i ho; simp only [ho] at hh
  · rename_i o ho
    simp only [ho] at hh
    split
    · rename_i hs; simp only [hs] at hh; obtain ⟨x, hx, hk⟩ := hh; exact ⟨x, hx, h _ _ hk⟩
    · rename_i s hs; simp only [hs] at hh; exact ⟨hh.1, fun v hv => h _ _ (hh.2 v hv)⟩

theorem Exact.of_same {o : Oper} {a a' : Act} {x : Value} (h : Exact P ops F o a x) (he : execOp a'.eval o = execOp a.eval o) (hw : Region.wanted o (yielded ops a'.tmps) = Region.wanted o (yielded ops a.tmps)) : Exact P ops F o a' x := by
  intro w hF
  have := h w hF
  rw [he, hw]
  exact this
theorem Exact.unique {o : Oper} {a : Act} {x y : Value} {w0 : World} (hF : F w0) (hx : Exact P ops F o a x) (hy : Exact P ops F o a y) : x = y := by
  have h1 := hx w0 hF
  have h2 := hy w0 hF
  split at h1
  · rename_i hw
    rw [if_pos hw] at h2
    rcases h1 with h1 | ⟨h1, rfl⟩ <;> rcases h2 with h2 | ⟨h2, rfl⟩
    · rw [h1] at h2; injection h2 with h2; injection h2
    · rw [h1] at h2; injection h2 with h2; cases h2
    · rw [h1] at h2; injection h2 with h2; cases h2
    · rfl
  · rename_i hw
    rw [if_neg hw] at h2
    rw [h1, h2]
theorem Deps_upd {o : Oper} {fs : Nat → Value} {k : Nat} {v : Value} {w : World} (h : ∀ e ∈ o.after, Region.binds md e = true → e.on ≠ k) (h' : ∀ e ∈ o.after, Region.binds md e = true → ∀ o', ops[e.on]? = some o' → ∀ e' ∈ o'.after, Region.binds md e' = true → e'.on ≠ k) : Deps md ops sp o (upd fs k v) w ↔ Deps md ops sp o fs w := by
  unfold Deps
  constructor
  · intro hd e he hb s o' hs ho'; have := hd e he hb s o' hs ho'; rwa [upd_ne (h e he hb), mask_upd (h' e he hb o' ho')] at this
  · intro hd e he hb s o' hs ho'; have := hd e he hb s o' hs ho'; rwa [upd_ne (h e he hb), mask_upd (h' e he hb o' ho')]
theorem Rel.of_same {E : World → World → Prop} {s : Spec} {o : Oper} {a a' : Act} {fs fs' : Nat → Value} (h : Rel P ops md E F sp s o a fs) (he : execOp a'.eval o = execOp a.eval o) (hw : Region.wanted o (yielded ops a'.tmps) = Region.wanted o (yielded ops a.tmps)) (hd : ∀ w, Deps md ops sp o fs' w → Deps md ops sp o fs w) (hm : mask md o fs' = mask md o fs) : Rel P ops md E F sp s o a' fs' := by
  refine ⟨fun w hF hd' => ?_, h.2⟩
  have := h.1 w hF (hd w hd')
  rw [he, hw, hm]
  exact this

theorem wpAnyR_first {n i : Nat} {oi : Oper} {L : Array Bool → Act → (Nat → Value) → Prop} {w0 : World} (hF0 : F w0) (hi : ops[i]? = some oi) (hsel : ∀ (j : Nat) (o : Oper) cs b, ops[j]? = some o → o.op ≠ .select cs b)
    (hnt : ∀ listed, HeadInv md ops n listed → ∀ i, i < n → listed.getD i true = false → ∀ t, n ≤ t → t ∉ Region.ready md ops listed) (hin : i < n)
    (hdone : ∀ listed a fs, L listed a fs → ∀ j ∈ Region.ready md ops listed, n ≤ j) :
    ∀ (f : Nat) (listed : Array Bool) (a : Act) (fs : Nat → Value), HeadInv md ops n listed →
      (∀ j oj, ops[j]? = some oj → j ≠ i → listed.getD j true = false → (∀ e ∈ oj.after, Region.binds md e = true → e.on ≠ i) → oi.apart ops oj = true) →
      i ∈ Region.ready md ops listed → rOp P ops md E F sp i (wpAnyR P md ops E F sp n L f (listed.setIfInBounds i true)) a fs → wpAnyR P md ops E F sp n L (f + 1) listed a fs := by
  intro f
  induction f with
  | zero =>
    intro listed a fs inv _ hr H
    have hun := (mem_ready.1 hr).1
    refine ⟨fun h => (by rw [h] at hr; cases hr), fun j hj => ?_⟩
    have hjn : j < n := by
      rcases Nat.lt_or_ge j n with h | h
      · exact h
      · exact absurd hj (hnt _ inv i hin hun j h)
    refine ⟨hjn, ?_⟩
    by_cases hji : j = i
    · subst hji; exact H
    · exfalso
      have : ∃ a' fs', L (listed.setIfInBounds i true) a' fs' := by
        unfold rOp at H
        simp only [hi] at H
        split at H
        · obtain ⟨x, _, h⟩ := H; exact ⟨_, _, h⟩
        · obtain ⟨⟨_, v, hv⟩, h⟩ := H; exact ⟨_, _, h v hv⟩
      obtain ⟨a', fs', hL⟩ := this
      have := hdone _ _ _ hL j (ready_mono hj hji)
      omega
  | succ f ih =>
    intro listed a fs inv hfree hr H
    have hun := (mem_ready.1 hr).1
    refine ⟨fun h => (by rw [h] at hr; cases hr), fun j hj => ?_⟩
    have hjn : j < n := by
      rcases Nat.lt_or_ge j n with h | h
      · exact h
      · exact absurd hj (hnt _ inv i hin hun j h)
    refine ⟨hjn, ?_⟩
    by_cases hji : j = i
    · subst hji; exact H
    · obtain ⟨hjun, oj, hoj, hall⟩ := mem_ready.1 hj
      have hnot : ∀ e ∈ oj.after, Region.binds md e = true → e.on ≠ i := fun e he hb heq => by
        have h1 := hall e he hb
        rw [heq, getD_both hun] at h1
        cases h1
      have hnot' : ∀ e ∈ oi.after, Region.binds md e = true → e.on ≠ j := fun e he hb heq => by
        obtain ⟨_, oi', hoi', hall'⟩ := mem_ready.1 hr
        have : oi' = oi := Option.some.inj (hoi'.symm.trans hi)
        subst this
        have h1 := hall' e he hb
        rw [heq, getD_both hjun] at h1
        cases h1
      have deepj : ∀ e ∈ oj.after, Region.binds md e = true → ∀ o', ops[e.on]? = some o' → ∀ e' ∈ o'.after, Region.binds md e' = true → e'.on ≠ i := fun e he hb o' ho' e' he' hb' heq => by
        have h1 := inv.closed _ o' ho' (hall e he hb) e' he' hb'
        rw [heq, getD_both hun] at h1
        cases h1
      have deepi : ∀ e ∈ oi.after, Region.binds md e = true → ∀ o', ops[e.on]? = some o' → ∀ e' ∈ o'.after, Region.binds md e' = true → e'.on ≠ j := fun e he hb o' ho' e' he' hb' heq => by
        obtain ⟨_, oi', hoi', hall'⟩ := mem_ready.1 hr
        have : oi' = oi := Option.some.inj (hoi'.symm.trans hi)
        subst this
        have h1 := inv.closed _ o' ho' (hall' e he hb) e' he' hb'
        rw [heq, getD_both hjun] at h1
        cases h1
      have hap := hfree j oj hoj hji hjun hnot
      obtain ⟨h1, h2, h3⟩ := Oper.apart_spec hap
      have ej : ∀ (a : Act) v, execOp (a.put oi.dst v).eval oj = execOp a.eval oj := fun a v => execOp_put oj (fun cs b => hsel j oj cs b hoj) a oi.dst v h1
      have wj : ∀ (a : Act) v, Region.wanted oj (yielded ops (a.put oi.dst v).tmps) = Region.wanted oj (yielded ops a.tmps) := fun a v => wanted_put oj a oi.dst v h1
      have ei : ∀ (a : Act) v, execOp (a.put oj.dst v).eval oi = execOp a.eval oi := fun a v => execOp_put oi (fun cs b => hsel i oi cs b hi) a oj.dst v h3
      have wi : ∀ (a : Act) v, Region.wanted oi (yielded ops (a.put oj.dst v).tmps) = Region.wanted oi (yielded ops a.tmps) := fun a v => wanted_put oi a oj.dst v h3
      have hfree' : ∀ k ok, ops[k]? = some ok → k ≠ i → (listed.setIfInBounds j true).getD k true = false →
          (∀ e ∈ ok.after, Region.binds md e = true → e.on ≠ i) → oi.apart ops ok = true := fun k ok hk hki hun hno => by
        refine hfree k ok hk hki ?_ hno
        by_cases hjk : j = k
        · subst hjk; exact hjun
        · rw [getD_set_ne true hjk] at hun; exact hun
      have goOn : ∀ u fs', rOp P ops md E F sp i (wpAnyR P md ops E F sp n L f ((listed.setIfInBounds j true).setIfInBounds i true)) (a.put oj.dst u) fs' → wpAnyR P md ops E F sp n L (f + 1) (listed.setIfInBounds j true) (a.put oj.dst u) fs' :=
        fun u fs' h => ih _ _ _ (inv.set hj hjn) hfree' (ready_mono hr (Ne.symm hji)) h
      -- what stands behind i, whatever its value
      have back : ∀ v fs', wpAnyR P md ops E F sp n L (f + 1) (listed.setIfInBounds i true) (a.put oi.dst v) fs' → rOp P ops md E F sp j (wpAnyR P md ops E F sp n L f ((listed.setIfInBounds i true).setIfInBounds j true)) (a.put oi.dst v) fs' :=
        fun v fs' h => (h.2 j (ready_mono hj hji)).2
      have swap : ∀ u v fs', wpAnyR P md ops E F sp n L f ((listed.setIfInBounds i true).setIfInBounds j true) ((a.put oi.dst v).put oj.dst u) fs' → wpAnyR P md ops E F sp n L f ((listed.setIfInBounds j true).setIfInBounds i true) ((a.put oj.dst u).put oi.dst v) fs' := by
        intro u v fs' h
        rw [Array.setIfInBounds_comm _ _ (Ne.symm hji), Act.put_comm a v u h2] at h
        exact h
      unfold rOp at H
      simp only [hi] at H
      unfold rOp
      simp only [hoj]
      cases hsi : sp i with
      | none =>
        simp only [hsi] at H
        obtain ⟨x, hx, hK⟩ := H
        have B := back x fs hK
        unfold rOp at B
        simp only [hoj] at B
        cases hsj : sp j with
        | none =>
          simp only [hsj] at B
          obtain ⟨y, hy, hK'⟩ := B
          refine ⟨y, hy.of_same (ej a x).symm (wj a x).symm, goOn y fs ?_⟩
          unfold rOp
          simp only [hi, hsi]
          exact ⟨x, hx.of_same (ei a y) (wi a y), swap y x fs hK'⟩
        | some sj =>
          simp only [hsj] at B
          refine ⟨B.1.of_same (ej a x).symm (wj a x).symm (fun w hd => hd) rfl, fun u hu => goOn u (upd fs j u) ?_⟩
          unfold rOp
          simp only [hi, hsi]
          exact ⟨x, hx.of_same (ei a u) (wi a u), swap u x (upd fs j u) (B.2 u hu)⟩
      | some si =>
        simp only [hsi] at H
        obtain ⟨hrel, hK⟩ := H
        obtain ⟨v0, hv0⟩ := hrel.2
        have B := back v0 (upd fs i v0) (hK v0 hv0)
        unfold rOp at B
        simp only [hoj] at B
        cases hsj : sp j with
        | none =>
          simp only [hsj] at B
          obtain ⟨y, hy, _⟩ := B
          have hy' : Exact P ops F oj a y := hy.of_same (ej a v0).symm (wj a v0).symm
          refine ⟨y, hy', goOn y fs ?_⟩
          unfold rOp
          simp only [hi, hsi]
          refine ⟨hrel.of_same (ei a y) (wi a y) (fun w hd => hd) rfl, fun v hv => ?_⟩
          have B' := back v (upd fs i v) (hK v hv)
          unfold rOp at B'
          simp only [hoj, hsj] at B'
          obtain ⟨z, hz, hK'⟩ := B'
          have hz' : Exact P ops F oj a z := hz.of_same (ej a v).symm (wj a v).symm
          obtain rfl := hz'.unique hF0 hy'
          exact swap _ v (upd fs i v) hK'
        | some sj =>
          simp only [hsj] at B
          refine ⟨B.1.of_same (ej a v0).symm (wj a v0).symm (fun w hd => (Deps_upd hnot deepj).2 hd) (mask_upd hnot).symm, fun u hu => goOn u (upd fs j u) ?_⟩
          unfold rOp
          simp only [hi, hsi]
          refine ⟨hrel.of_same (ei a u) (wi a u) (fun w hd => (Deps_upd hnot' deepi).1 hd) (mask_upd hnot'), fun v hv => ?_⟩
          have B' := back v (upd fs i v) (hK v hv)
          unfold rOp at B'
          simp only [hoj, hsj] at B'
          have := swap u v _ (B'.2 u hu)
          rw [upd_comm hji] at this
          exact this

/-! ### The order of the text -/
/-- The walk in the order of the text; what stands behind it: T. -/
def lexR (P : Program) (md : Region.Mode) (ops : Array Oper) (E : Nat → World → World → Prop) (F : World → Prop) (sp : Nat → Option Spec) (T : Act → (Nat → Value) → Prop) : Nat → List Oper → Act → (Nat → Value) → Prop
  | _, [], a, fs => T a fs
  | k, o :: rest, a, fs => match sp k with
    | none => ∃ x, Exact P ops F o a x ∧ lexR P md ops E F sp T (k + 1) rest (a.put o.dst x) fs
    | some s => Rel P ops md (E k) F sp s o a fs ∧ ∀ v, s.pure v → lexR P md ops E F sp T (k + 1) rest (a.put o.dst v) (upd fs k v)

theorem wpAnyR_lex {n g : Nat} {T : Act → (Nat → Value) → Prop} {w0 : World} (hF0 : F w0) (hsel : Region.noSelect ops = true) (hs : Region.sinkB md ops n = true) (hc : Region.chainB md ops n = true) (hn : n < ops.size) :
    ∀ (l : List Oper) (k : Nat) (listed : Array Bool) (a : Act) (fs : Nat → Value), (∀ j, j < l.length → l[j]? = ops[k + j]?) → k + l.length = n → HeadInv md ops n listed → (∀ j, j < k → listed.getD j false = true) →
    Region.lexHead md ops g l.length k listed = true → lexR P md ops E F sp T k l a fs →
    wpAnyR P md ops E F sp n (fun listed' a' fs' => Region.seqB md ops g n listed' = true ∧ (∀ j, j < n → listed'.getD j false = true) ∧ T a' fs') l.length listed a fs
  | [], k, listed, a, fs, _, hk, _, hli, hB, h => by
    have : k = n := by simpa using hk
    subst this
    exact ⟨by simpa [Region.lexHead] using hB, hli, h⟩
  | o :: l, k, listed, a, fs, hl, hk, inv, hli, hB, h => by
    have h0 : ops[k]? = some o := by simpa using (hl 0 (by simp)).symm
    simp only [List.length_cons, Region.lexHead, Bool.and_eq_true] at hB
    obtain ⟨⟨hr, hf⟩, hB'⟩ := hB
    have hkn : k < n := by simp only [List.length_cons] at hk; omega
    have hr' : k ∈ Region.ready md ops listed := by simpa using hr
    have go : ∀ a' fs', lexR P md ops E F sp T (k + 1) l a' fs' → wpAnyR P md ops E F sp n (fun listed' a' fs' => Region.seqB md ops g n listed' = true ∧ (∀ j, j < n → listed'.getD j false = true) ∧ T a' fs') l.length (listed.setIfInBounds k true) a' fs' :=
      fun a' fs' h' => wpAnyR_lex hF0 hsel hs hc hn l (k + 1) _ a' fs' (fun j hj => by have := hl (j + 1) (by simp; omega); simpa [Nat.add_assoc, Nat.add_comm 1 j] using this) (by simp only [List.length_cons] at hk; omega) (inv.set hr' hkn) (fun j hj => by
        by_cases hjk : j = k
        · subst hjk; have : j < listed.size := by rw [inv.size]; omega
          simp [this]
        · rw [getD_set_ne false (Ne.symm hjk)]; exact hli j (by omega)) hB' h'
    refine wpAnyR_first hF0 h0 (Region.noSelect_spec hsel) (fun listed' inv' i hi hun t ht => tail_waits hs hc hn inv' _ i rfl hi hun t ht) hkn (fun listed' a' fs' hL => seqB_ready hL.1) l.length listed a fs inv (Region.free_spec h0 hf) hr' ?_
    unfold rOp
    simp only [h0]
    unfold lexR at h
    cases hsk : sp k with
    | none => simp only [hsk] at h ⊢; obtain ⟨x, hx, h⟩ := h; exact ⟨x, hx, go _ _ h⟩
    | some s => simp only [hsk] at h ⊢; exact ⟨h.1, fun v hv => go _ _ (h.2 v hv)⟩

/-- **A region that draws its order, whose last operations wait for all others: ONE walk of the others in the order of the text, each under what it waits for; then the last ones.** -/
theorem wp_region_lex {id : Nat} {Q : Exit → Act → World → Prop} {a : Act} {w : World} {l : List Oper} (n : Nat) (E : Nat → World → World → Prop) (F : World → Prop) (sp : Nat → Option Spec)
    (hm : P.follows .mixedOrders = true) (hB : Region.lexTailB .any l.toArray n = true) (hE : ∀ j w w', E j w w' → F w → F w') (hst : ∀ j k s, j ≠ k → sp k = some s → ∀ fs v w w', E j w w' → s.here fs v w → s.here fs v w') (hF : F { w with drawn := w.drawn + 1 })
    (h : lexR P .any l.toArray E F sp (fun a' fs => ∀ w', F w' → (∀ k s o, k < n → sp k = some s → l[k]? = some o → s.here (mask .any o fs) (fs k) w') → wpList P l.toArray Q (l.drop n) a' w') 0 (l.take n) a (fun _ => undef)) : (Code.region id l.toArray true).wp P Q a w := by
  simp only [Region.lexTailB, Bool.and_eq_true, decide_eq_true_eq] at hB
  obtain ⟨⟨⟨⟨hsel, hn⟩, hs⟩, hc⟩, hlex⟩ := hB
  have hn' : n < l.length := by simpa using hn
  have htl : (l.take n).length = n := by simp; omega
  have hdl : (l.drop n).length = l.toArray.size - n := by simp
  have inv0 : HeadInv .any l.toArray n (Array.replicate l.toArray.size false) :=
    ⟨by simp, fun j oj _ hl => (by rw [getD_replicate_false] at hl; cases hl), fun t _ ht => getD_in (by simpa using ht) (getD_replicate_false _ _)⟩
  have H := wpAnyR_lex (md := .any) (g := l.toArray.size - n) hF hsel hs hc hn (l.take n) 0 _ a _ (fun j hj => by
    have hj' : j < n := by rw [htl] at hj; exact hj
    simp [hj']) (by simpa using htl) inv0 (fun j hj => by omega) (by rw [htl]; exact hlex) h
  refine wp_region_any hm ?_
  have := wpAny_of_R (md := .any) (Q := Q) (g := l.toArray.size - n) hE hst (fun listed a' fs w' hL hF' hfs => by
    have := wpAny_of_seq (md := .any) (Q' := Q) (l.drop n) n listed a' w' (fun j => by simp [List.getElem?_drop]) (by rw [hdl]; exact hL.1) (hL.2.2 w' hF' (fun k s o hk hs ho => hfs k s o hs (by simpa using ho) (hL.2.1 k hk)))
    rwa [hdl] at this) _ _ _ _ _ (by simp) inv0.closed H hF (fun k s o hs _ hl => by rw [getD_replicate_false] at hl; cases hl)
  rw [htl, show n + (l.toArray.size - n) = l.toArray.size by omega] at this
  exact this

/-! ### Steps -/
/-- Operations that never enter a Go function. -/
def plainOp : Op → Bool
  | .move _ | .assign _ | .pick .. | .build .. | .load .. | .binOp .. | .unOp .. | .convert .. | .slice .. | .fieldAddr .. | .field .. | .indexAddr .. | .index .. | .extract .. | .makeInterface .. => true
  | .call { callee := .builtin .len, .. } => true
  | _ => false
theorem run_value_ne {s : Sem Value} {w w' : World} {f : FuncId} {args : Array Value} : ((do pure (Next.value (← s))) : Sem Next).run P w ≠ .ok (.enter f args) w' := by
  rw [Sem.run_bind]
  cases s.run P w with
  | ok x w1 => intro h; simp at h
  | halt x w1 => intro h; simp [Result.andThen] at h
theorem run_value_ne' {α : Type} {s : Sem α} {g : α → Value} {w w' : World} {f : FuncId} {args : Array Value} : (s >>= fun a => (pure (Next.value (g a)) : Sem Next)).run P w ≠ .ok (.enter f args) w' := by
  rw [Sem.run_bind]
  cases s.run P w with
  | ok x w1 => intro h; simp at h
  | halt x w1 => intro h; simp [Result.andThen] at h
theorem plain_ne {o : Oper} {ρ : Operand → Value} {w w' : World} {f : FuncId} {args : Array Value} (h : plainOp o.op = true) : (execOp ρ o).run P w ≠ .ok (.enter f args) w' := by
  unfold plainOp at h
  unfold execOp
  split at h <;> rename_i ho <;> simp only [ho] <;> first
    | exact run_value_ne
    | (intro hh; simp at hh; done)
    | (cases h; done)
    | exact run_value_ne'
end

/-! ### The law at the worlds that come behind a world -/
/-- The worlds behind w in which all that lay in w is as it was. -/
def Behind (w : World) : World → Prop := fun x => ∃ y : Later w.heap.size w, x = y.W
def Ext (w w' : World) : Prop := Below w.heap.size w w'
/-- A step that may write into boxes of type T from block B on. -/
structure StoreIn (B : Nat) (T : TypeId) (w w' : World) : Prop where
  os : w'.os = w.os
  tape : w'.tape = w.tape
  output : w'.output = w.output
  size : w.heap.size ≤ w'.heap.size
  block : ∀ k, k < w.heap.size → (k < B ∨ ∀ (cs : Array Value) (fr : Nat × Nat), w.heap[k]? ≠ some (Obj.cells cs T fr)) → w'.heap[k]? = w.heap[k]?
  shape : ∀ (k : Nat) (cs : Array Value) (fr : Nat × Nat), w.heap[k]? = some (Obj.cells cs T fr) → ∃ cs' : Array Value, cs'.size = cs.size ∧ w'.heap[k]? = some (Obj.cells cs' T fr)
theorem Behind.ext {w x y : World} (h : Behind w x) (e : Ext x y) : Behind w y := by
  obtain ⟨z, rfl⟩ := h
  exact ⟨⟨y, below_trans' z.le e⟩, rfl⟩
theorem Behind.sto {w x y : World} {T : TypeId} (h : Behind w x) (e : StoreIn w.heap.size T x y) : Behind w y := by
  obtain ⟨z, rfl⟩ := h
  exact ⟨⟨y, z.le.trans ⟨e.os, e.tape, e.output, e.size, fun k hk => e.block k (Nat.lt_of_lt_of_le hk z.le.size) (.inl hk)⟩⟩, rfl⟩
theorem Behind.below {w x : World} (h : Behind w x) : Below w.heap.size w x := by obtain ⟨z, rfl⟩ := h; exact z.le
theorem Behind.mk {w x : World} (h : Below w.heap.size w x) : Behind w x := ⟨⟨x, h⟩, rfl⟩

/-- What is told of an operation's value, and is not broken by calls, by new memory, by a store into a box of type T. -/
structure Told (B : Nat) (T : TypeId) where
  s : Spec
  ext : ∀ fs v x x', Below x.heap.size x x' → s.here fs v x → s.here fs v x'
  sto : ∀ fs v x x', StoreIn B T x x' → s.here fs v x → s.here fs v x'
/-- A known value. -/
def Told.is (B : Nat) (T : TypeId) (v0 : Value) : Told B T := ⟨⟨fun v => v = v0, fun _ _ _ => True⟩, fun _ _ _ _ _ _ => trivial, fun _ _ _ _ _ _ => trivial⟩
/-- A value that holds a slice of new memory. -/
def Told.own (B : Nat) (T : TypeId) (V : Option Addr → Nat → Value) (B' E k n : Nat) (cs : List Value) (hne : E ≠ T) : Told B T :=
  ⟨⟨fun v => ∃ ad cap, v = V ad cap ∧ ∀ b, ad = some b → B' ≤ b.block, fun _ v x => ∃ ad cap, v = V ad cap ∧ x.ownsRow B' E k (.slice ad n cap) n cs⟩,
   fun _ _ _ _ hb ⟨ad, cap, e, h⟩ => ⟨ad, cap, e, own_below h hb⟩,
   fun _ _ _ _ hs ⟨ad, cap, e, h⟩ => ⟨ad, cap, e, h.1, h.2.imp id fun ⟨g, cap', cur, hv, hg, hh, r⟩ => ⟨g, cap', cur, hv, hg, (hs.block g (Array.getElem?_eq_some_iff.1 hh).1 (.inr fun cs fr he => by rw [hh] at he; simp at he; exact hne he.2.1)).trans hh, r⟩⟩⟩
/-- A new box. -/
def Told.box (B : Nat) (T : TypeId) (n : Nat) : Told B T :=
  ⟨⟨fun v => ∃ g, v = .pointer (some ⟨g, 0, none⟩) ∧ B ≤ g, fun _ v x => ∃ g, v = .pointer (some ⟨g, 0, none⟩) ∧ B ≤ g ∧ ∃ cs : List Value, cs.length = n ∧ Box x g T cs⟩,
   fun _ _ _ _ hb ⟨g, e, hg, cs, hl, h⟩ => ⟨g, e, hg, cs, hl, h.stay hb⟩,
   fun _ _ _ _ hs ⟨g, e, hg, cs, hl, h⟩ => by
    obtain ⟨cs', h1, h2⟩ := hs.shape g _ _ h
    exact ⟨g, e, hg, cs'.toList, by simpa [hl] using h1, by simpa [Box] using h2⟩⟩
/-- The store into the box that number j is. -/
def stored (T : TypeId) (j : Nat) (cs : List Value) : Spec := ⟨fun v => v = undef, fun fs _ x => ∀ g, fs j = .pointer (some ⟨g, 0, none⟩) → Box x g T cs⟩
/-- All that is told of a region: js is the store's number. -/
def toldOf {B : Nat} {T : TypeId} (sp : Nat → Option (Told B T)) (js : Nat) (ss : Spec) : Nat → Option Spec := fun k => if k = js then some ss else (sp k).map (·.s)
def stepOf (B : Nat) (T : TypeId) (js : Nat) : Nat → World → World → Prop := fun j => if j = js then StoreIn B T else Ext

section
variable {P : Program} {ops : Array Oper} {w : World} {E : Nat → World → World → Prop} {sp : Nat → Option Spec} {Z : Act → (Nat → Value) → Prop} {k : Nat} {o : Oper} {rest : List Oper} {a : Act} {fs : Nat → Value}
/-- A plain operation: its value by the kit's own step. -/
theorem lexR_ex (hs : sp k = none) (hp : plainOp o.op = true) (hg : o.guard = none) (h : ∀ K : Act → Prop, (∀ a', lexR P .any ops E (Behind w) sp Z (k + 1) rest a' fs → K a') → o.quiet P a (fun x => ∃ y : Later w.heap.size w, x = y.W) K) :
    lexR P .any ops E (Behind w) sp Z k (o :: rest) a fs := by
  unfold lexR
  simp only [hs]
  obtain ⟨v, hv, hK⟩ := h _ (fun _ h => h)
  refine ⟨v, fun x hx => ?_, hK⟩
  have hw : Region.wanted o (yielded ops a.tmps) = true := by unfold Region.wanted; rw [hg]
  rw [if_pos hw]
  have h1 := hv x hx
  unfold Oper.quietAt at h1
  generalize hr : (execOp a.eval o).run P x = r at *
  cases r with
  | ok n x' =>
    cases n <;> simp only [Oper.quietUpon] at h1
    case value u => obtain ⟨rfl, rfl⟩ := h1; exact .inl rfl
    case skip => obtain ⟨rfl, rfl⟩ := h1; exact .inr ⟨rfl, rfl⟩
    case enter f args => exact absurd hr (plain_ne hp)
  | halt e x' => simp only [Oper.quietUpon] at h1
/-- An operation that is told of. -/
theorem lexR_rel (s : Spec) (hs : sp k = some s) (hg : o.guard = none) (hv : ∃ v, s.pure v) (h : ∀ x, Below w.heap.size w x → Deps .any ops sp o fs x → Tame P (E k) x (fun v x' => s.pure v ∧ s.here (mask .any o fs) v x') ((execOp a.eval o).run P x))
    (k' : ∀ v, s.pure v → ∀ K : Act → Prop, (∀ a', lexR P .any ops E (Behind w) sp Z (k + 1) rest a' (upd fs k v) → K a') → K (a.put o.dst v)) : lexR P .any ops E (Behind w) sp Z k (o :: rest) a fs := by
  unfold lexR
  simp only [hs]
  have hw : Region.wanted o (yielded ops a.tmps) = true := by unfold Region.wanted; rw [hg]
  exact ⟨⟨fun x hx hd => by rw [if_pos hw]; exact h x hx.below hd, hv⟩, fun v hv => k' v hv _ fun _ h => h⟩
theorem lexR_nil (h : Z a fs) : lexR P .any ops E (Behind w) sp Z k [] a fs := h
/-- What is known of an operation for which o waits. -/
theorem Deps.at {x : World} {s : Spec} {o' : Oper} (h : Deps .any ops sp o fs x) (j : Nat) (hj : waits .any o j = true) (hs : sp j = some s) (ho : ops[j]? = some o') : s.here (mask .any o' fs) (fs j) x := by
  obtain ⟨e, he, hb, rfl⟩ := waits_of hj
  exact h e he hb s o' hs ho
theorem wp_region_ext {id : Nat} {Q : Exit → Act → World → Prop} {l : List Oper} (n : Nat) (T : TypeId) (sp : Nat → Option (Told w.heap.size T)) (js : Nat) (ss : Spec) (hm : P.follows .mixedOrders = true) (hB : Region.lexTailB .any l.toArray n = true)
    (hss : ∀ fs v x x', Below x.heap.size x x' → ss.here fs v x → ss.here fs v x')
    (h : lexR P .any l.toArray (stepOf w.heap.size T js) (Behind w) (toldOf sp js ss) (fun a' fs => ∀ x, Below w.heap.size w x → (∀ k s o, k < n → toldOf sp js ss k = some s → l[k]? = some o → s.here (mask .any o fs) (fs k) x) → wpList P l.toArray Q (l.drop n) a' x) 0 (l.take n) a (fun _ => undef)) : (Code.region id l.toArray true).wp P Q a w := by
  refine wp_region_lex n (stepOf w.heap.size T js) (Behind w) (toldOf sp js ss) hm hB (fun j x x' e hx => ?_) (fun j k s hjk hs fs v x x' e hh => ?_) (Behind.mk (Below.refl _ _).drew) ?_
  · unfold stepOf at e
    split at e
    · exact hx.sto e
    · exact hx.ext e
  · unfold stepOf at e
    unfold toldOf at hs
    split at hs
    · rename_i hk
      cases hs
      rw [if_neg (fun h => hjk (h.trans hk.symm))] at e
      exact hss fs v x x' e hh
    · cases ht : sp k with
      | none => rw [ht] at hs; cases hs
      | some t =>
        rw [ht] at hs
        cases hs
        split at e
        · exact t.sto fs v x x' e hh
        · exact t.ext fs v x x' e hh
  · have : (fun (a' : Act) (fs : Nat → Value) => ∀ w', Behind w w' → (∀ k s o, k < n → toldOf sp js ss k = some s → l[k]? = some o → s.here (mask .any o fs) (fs k) w') → wpList P l.toArray Q (l.drop n) a' w') = (fun (a' : Act) (fs : Nat → Value) => ∀ x, Below w.heap.size w x → (∀ k s o, k < n → toldOf sp js ss k = some s → l[k]? = some o → s.here (mask .any o fs) (fs k) x) → wpList P l.toArray Q (l.drop n) a' x) := by
      funext a' fs
      apply propext
      exact ⟨fun h x hx => h x (.mk hx), fun h x hx => h x hx.below⟩
    rw [this]; exact h
end
/-- What a store into a box does. -/
theorem StoreIn.set {B g j : Nat} {T : TypeId} {w w' : World} {v : Value} {cs : List Value} (h : StoreIn B T w w') (hg : B ≤ g) (hb : Box w' g T cs) : StoreIn B T w (w'.setCell ⟨g, j, none⟩ v) := by
  have hs := hb.set j v
  refine ⟨h.os, h.tape, h.output, by simpa using h.size, fun k hk hne => ?_, fun k cs0 fr hk => ?_⟩
  · by_cases hkg : k = g
    · subst hkg
      exfalso
      rcases hne with hne | hne
      · omega
      · have h1 := h.block k hk (.inr hne)
        have h2 : w'.heap[k]? = some (.cells cs.toArray T (0, 0)) := hb
        exact hne _ _ (h1.symm.trans h2)
    · exact (Below.heap_setCell _ _ _ _ hkg).trans (h.block k hk hne)
  · obtain ⟨cs', hl, h1⟩ := h.shape k cs0 fr hk
    by_cases hkg : k = g
    · subst hkg
      have h2 : w'.heap[k]? = some (.cells cs.toArray T (0, 0)) := hb
      rw [h1] at h2
      simp only [Option.some.injEq, Obj.cells.injEq, true_and] at h2
      obtain ⟨rfl, rfl⟩ := h2
      exact ⟨(cs.set j v).toArray, by simpa using hl, hs⟩
    · exact ⟨cs', hl, (Below.heap_setCell _ _ _ _ hkg).trans h1⟩
theorem StoreIn.refl (B : Nat) (T : TypeId) (w : World) : StoreIn B T w w := ⟨rfl, rfl, rfl, Nat.le_refl _, fun _ _ _ => rfl, fun _ cs _ h => ⟨cs, rfl, h⟩⟩
attribute [go_sem] Tame
end Go.Proofs.Ytemomjcgkpinfaa
