/-
  Regions that draw their order: one walk in the order of the text serves every order, if no two operations that may change places look at what the other writes.
-/
import Derived.Test.YtemomjcgkpinfaaA2
import Derived.StillTail
namespace Go.Proofs.Ytemomjcgkpinfaa
open Go Go.RowKit
set_option linter.unusedSimpArgs false
set_option linter.unusedVariables false

/-- What is known of an operation of a region: its value, the owned places that it looks at, what it writes; was it wanted? -/
structure TE where
  val : AV
  reads : List Loc
  wr : List W
  on : Bool
structure TO where
  i : Nat
  o : Oper
  t : TE
section
variable {P : Program} {ops : Array Oper} {n0 : Nat}
def EvOk (P : Program) (ops : Array Oper) (n0 : Nat) (x : TO) (fr : List AV) (H : Heap) : Prop :=
  GuardIs ops fr x.o x.t.on ∧ (x.t.on = true → OpOk P x.o (evalF fr) x.t.reads H (n0 + x.i) x.t.val x.t.wr) ∧ (x.t.on = false → x.t.val = .d (.v undef) ∧ x.t.wr = [])
def Seq (P : Program) (ops : Array Oper) (n0 : Nat) : List TO → List AV → Heap → List AV → Heap → Prop
  | [], fr, H, fr', H' => fr = fr' ∧ H = H'
  | x :: r, fr, H, fr', H' => EvOk P ops n0 x fr H ∧ Seq P ops n0 r (putF fr x.o.dst x.t.val) (upds H x.t.wr) fr' H'
def noConf (ops : Array Oper) (x y : TO) : Bool :=
  x.o.apart ops y.o && (x.t.wr.all fun p => !(y.t.reads.any fun l => p.hits l) && !(y.t.wr.any fun q => p.meets q)) && (y.t.wr.all fun p => !(x.t.reads.any fun l => p.hits l))

theorem evalF_put {fr : List AV} {dst : Option Tmp} {v : AV} {x : Operand} (h : ∀ d, dst = some d → x ≠ .tmp d) : evalF (putF fr dst v) x = evalF fr x := by
  cases dst with
  | none => rfl
  | some d =>
    cases x with
    | tmp t =>
      have hne : d ≠ t := fun e => h d rfl (e ▸ rfl)
      simp [evalF, putF, List.getElem?_set_ne hne]
    | _ => rfl
theorem putF_comm (fr : List AV) {x y : Option Tmp} (v u : AV) (h : ∀ d, x = some d → y ≠ some d) : putF (putF fr x v) y u = putF (putF fr y u) x v := by
  cases x with
  | none => rfl
  | some d =>
    cases y with
    | none => rfl
    | some e =>
      have hne : d ≠ e := fun he => h d rfl (he ▸ rfl)
      simp [putF, List.set_comm _ _ hne]
theorem W.app_other {H : Heap} {w : W} {l : Loc} (h : w.hits l = false) : w.app H l = H l := by
  cases w with
  | one l' o => simp only [W.hits, beq_eq_false_iff_ne] at h; exact upd_ne h
  | all id g => simp only [W.hits, beq_eq_false_iff_ne] at h; simp [W.app, h]
theorem W.app_agree {H H' : Heap} {w : W} {l : Loc} (h : H l = H' l ∨ w.hits l = true) : w.app H l = w.app H' l := by
  cases w with
  | one l' o =>
    simp only [W.hits, beq_iff_eq] at h
    by_cases e : l = l'
    · simp [W.app, upd, e]
    · simp [W.app, upd, e, h.resolve_right e]
  | all id g =>
    simp only [W.hits, beq_iff_eq] at h
    by_cases e : l.id = id
    · simp [W.app, e]
    · simp [W.app, e, h.resolve_right e]
theorem upds_other {l : Loc} : ∀ {wr : List W} {H : Heap}, (∀ p ∈ wr, p.hits l = false) → upds H wr l = H l
  | [], _, _ => rfl
  | w :: r, H, h => by
    simp only [upds]
    rw [upds_other (fun p hp => h p (by simp [hp]))]
    exact W.app_other (h w (by simp))
theorem upds_agree {l : Loc} : ∀ {wr : List W} {H H' : Heap}, (H l = H' l ∨ ∃ p ∈ wr, p.hits l = true) → upds H wr l = upds H' wr l
  | [], _, _, h => by simpa [upds] using h
  | w :: r, H, H', h => by
    simp only [upds]
    apply upds_agree
    cases e : w.hits l with
    | true => exact .inl (W.app_agree (.inr e))
    | false =>
      rcases h with h | ⟨p, hp, hl⟩
      · exact .inl (W.app_agree (.inl h))
      · rcases List.mem_cons.1 hp with rfl | hp
        · rw [e] at hl; cases hl
        · exact .inr ⟨p, hp, hl⟩
theorem W.meets_of {p q : W} {l : Loc} (hp : p.hits l = true) (hq : q.hits l = true) : p.meets q = true := by
  cases p <;> cases q <;> simp_all [W.hits, W.meets]
theorem upds_comm {H : Heap} {a b : List W} (h : ∀ p ∈ a, ∀ q ∈ b, p.meets q = false) : upds (upds H a) b = upds (upds H b) a := by
  funext l
  by_cases ha : ∃ p ∈ a, p.hits l = true
  · obtain ⟨p, hp, hl⟩ := ha
    have hb : ∀ q ∈ b, q.hits l = false := fun q hq => by
      cases e : q.hits l with
      | false => rfl
      | true => have := W.meets_of hl e; rw [h p hp q hq] at this; cases this
    rw [upds_other (wr := b) hb]
    exact upds_agree (.inr ⟨p, hp, hl⟩)
  · have ha' : ∀ p ∈ a, p.hits l = false := fun p hp => by
      cases e : p.hits l with
      | false => rfl
      | true => exact absurd ⟨p, hp, e⟩ ha
    rw [upds_other (H := upds H b) ha']
    exact upds_agree (.inl (upds_other ha'))
theorem OpOk.congr {o : Oper} {A A' : Operand → AV} {reads : List Loc} {H H' : Heap} {new : Nat} {val : AV} {wr : List W} (h : OpOk P o A reads H new val wr) (hA : ∀ x ∈ o.op.operands, A' x = A x) (hH : ∀ l ∈ reads, H' l = H l) : OpOk P o A' reads H' new val wr :=
  fun ι F w H1 ρ h1 h2 h3 h4 => h ι F w H1 ρ (fun l hl => (h1 l hl).trans (hH l hl)) h2 h3 (fun x hx => by rw [← hA x hx]; exact h4 x hx)
theorem noConf_spec {x y : TO} (h : noConf ops x y = true) : x.o.apart ops y.o = true ∧ (∀ p ∈ x.t.wr, (∀ l ∈ y.t.reads, p.hits l = false) ∧ ∀ q ∈ y.t.wr, p.meets q = false) ∧ (∀ p ∈ y.t.wr, ∀ l ∈ x.t.reads, p.hits l = false) := by
  simp only [noConf, Bool.and_eq_true, List.all_eq_true, Bool.not_eq_true', List.any_eq_false, Bool.not_eq_true] at h
  exact ⟨h.1.1, fun p hp => ⟨fun l hl => (h.1.2 p hp).1 l hl, fun q hq => (h.1.2 p hp).2 q hq⟩, fun p hp l hl => h.2 p hp l hl⟩
theorem guardIs_put {fr : List AV} {o : Oper} {on : Bool} {dst : Option Tmp} {v : AV} (h : ∀ d, dst = some d → d ∉ o.looksAt ops) : GuardIs ops (putF fr dst v) o on ↔ GuardIs ops fr o on := by
  cases dst with
  | none => exact Iff.rfl
  | some d =>
    unfold GuardIs
    cases hg : o.guard with
    | none => exact Iff.rfl
    | some jw =>
      obtain ⟨j, want⟩ := jw
      simp only []
      have key : ∀ t, (ops[j]?).bind (·.dst) = some t → (putF fr (some d) v)[t]? = fr[t]? := fun t ht => by
        have hne : d ≠ t := fun e => h d rfl (by subst e; simp [Oper.looksAt, hg, ht])
        simp [putF, List.getElem?_set_ne hne]
      constructor
      · rintro ⟨t, b, ht, hf, e⟩; exact ⟨t, b, ht, by rw [← key t ht]; exact hf, e⟩
      · rintro ⟨t, b, ht, hf, e⟩; exact ⟨t, b, ht, by rw [key t ht]; exact hf, e⟩
theorem looks_of_operand {o : Oper} {x : Operand} {d : Tmp} (hx : x ∈ o.op.operands) (h : d ∉ o.looksAt ops) : x ≠ .tmp d := by
  intro e; subst e
  exact h (List.mem_append_left _ (List.mem_filterMap.2 ⟨.tmp d, by simpa using hx, rfl⟩))
theorem evOk_put {y : TO} {fr : List AV} {H H' : Heap} {dst : Option Tmp} {v : AV} (h : ∀ d, dst = some d → d ∉ y.o.looksAt ops) (hH : ∀ l ∈ y.t.reads, H' l = H l) : EvOk P ops n0 y (putF fr dst v) H' ↔ EvOk P ops n0 y fr H := by
  unfold EvOk
  rw [guardIs_put h]
  have he : ∀ x ∈ y.o.op.operands, evalF (putF fr dst v) x = evalF fr x := fun x hx => evalF_put fun d hd => looks_of_operand (ops := ops) hx (h d hd)
  constructor
  · rintro ⟨h1, h2, h3⟩; exact ⟨h1, fun hon => (h2 hon).congr (fun x hx => (he x hx).symm) (fun l hl => (hH l hl).symm), h3⟩
  · rintro ⟨h1, h2, h3⟩; exact ⟨h1, fun hon => (h2 hon).congr he hH, h3⟩
/-- An operation that no earlier one hinders may come first. -/
theorem Seq.bubble {j : TO} {r2 : List TO} : ∀ {r1 : List TO} {fr : List AV} {H : Heap} {fr' : List AV} {H' : Heap}, Seq P ops n0 (r1 ++ j :: r2) fr H fr' H' → (∀ x ∈ r1, noConf ops x j = true) →
    EvOk P ops n0 j fr H ∧ Seq P ops n0 (r1 ++ r2) (putF fr j.o.dst j.t.val) (upds H j.t.wr) fr' H'
  | [], fr, H, fr', H', h, _ => h
  | x :: r1, fr, H, fr', H', h, hc => by
    obtain ⟨hx, hr⟩ := h
    obtain ⟨hj, hs⟩ := Seq.bubble (r1 := r1) hr fun y hy => hc y (by simp [hy])
    obtain ⟨hap, hw, hw'⟩ := noConf_spec (hc x (by simp))
    obtain ⟨h1, h2, h3⟩ := Oper.apart_spec hap
    refine ⟨(evOk_put h1 fun l hl => upds_other fun p hp => (hw p hp).1 l hl).1 hj, (evOk_put h3 fun l hl => upds_other fun p hp => hw' p hp l hl).2 hx, ?_⟩
    rw [putF_comm fr x.t.val j.t.val h2, upds_comm (fun p hp q hq => (hw p hp).2 q hq)] at hs
    exact hs

/-- Does number j wait, directly or through others, for number i? -/
def reach (ops : Array Oper) : Nat → Nat → Nat → Bool
  | 0, _, _ => false
  | f + 1, i, j => match ops[j]? with
    | none => false
    | some o => (o.after.any fun e => Region.binds .any e && e.on == i) || (o.after.any fun e => Region.binds .any e && reach ops f i e.on)
def Closed (ops : Array Oper) (listed : Array Bool) : Prop := ∀ j oj, ops[j]? = some oj → listed.getD j false = true → ∀ e ∈ oj.after, Region.binds .any e = true → listed.getD e.on false = true
theorem reach_listed {listed : Array Bool} (hcl : Closed ops listed) : ∀ (f i j : Nat) (o : Oper), ops[j]? = some o → (∀ e ∈ o.after, Region.binds .any e = true → listed.getD e.on false = true) → reach ops f i j = true → listed.getD i false = true
  | 0, i, j, o, _, _, h => by simp [reach] at h
  | f + 1, i, j, o, ho, hall, h => by
    simp only [reach, ho, Bool.or_eq_true, Array.any_eq_true', Bool.and_eq_true, beq_iff_eq] at h
    rcases h with ⟨e, he, hb, rfl⟩ | ⟨e, he, hb, hr⟩
    · exact hall e he hb
    · cases hm : ops[e.on]? with
      | none => cases f <;> simp [reach, hm] at hr
      | some om => exact reach_listed hcl f i e.on om hm (hcl e.on om hm (hall e he hb)) hr
/-- The check: pairs that hinder one another wait for one another; all wait for earlier ones alone. -/
def pairOk (ops : Array Oper) (x y : TO) : Bool := noConf ops x y || reach ops 24 x.i y.i
def allPairs (ops : Array Oper) : List TO → Bool
  | [] => true
  | x :: r => (r.all fun y => pairOk ops x y) && allPairs ops r
def textOk (ops : Array Oper) : Bool := (List.range ops.size).all fun i => match ops[i]? with | none => true | some o => o.after.all fun e => !Region.binds .any e || decide (e.on < i)
theorem allPairs_spec : ∀ {l : List TO}, allPairs ops l = true → l.Pairwise fun x y => pairOk ops x y = true
  | [], _ => .nil
  | x :: r, h => by
    simp only [allPairs, Bool.and_eq_true, List.all_eq_true] at h
    exact .cons (fun y hy => h.1 y hy) (allPairs_spec h.2)
theorem textOk_spec (h : textOk ops = true) : ∀ i o, ops[i]? = some o → ∀ e ∈ o.after, Region.binds .any e = true → e.on < i := by
  intro i o ho e he hb
  simp only [textOk, List.all_eq_true, List.mem_range] at h
  have := h i (Array.getElem?_eq_some_iff.1 ho).1
  simp only [ho, Array.all_eq_true_iff_forall_mem, Bool.or_eq_true, Bool.not_eq_true', decide_eq_true_eq] at this
  rcases this e he with h | h
  · rw [hb] at h; cases h
  · exact h

theorem any_of_seq {C : Ctx} {Q : Exit → Act → World → Prop} {fr' : List AV} {H' : Heap} (ht : textOk ops = true) (hfin : ∀ a w, RR C (fun id => n0 + ops.size ≤ id) fr' H' a w → Q .normal a w) :
    ∀ (fuel : Nat) (rem : List TO) (listed : Array Bool) (fr : List AV) (H : Heap) (a : Act) (w : World), rem.length = fuel → listed.size = ops.size → (∀ i, i < ops.size → (listed.getD i true = false ↔ ∃ x ∈ rem, x.i = i)) → (∀ x ∈ rem, ops[x.i]? = some x.o) →
      rem.Pairwise (fun x y => x.i < y.i) → rem.Pairwise (fun x y => pairOk ops x y = true) → Closed ops listed → Seq P ops n0 rem fr H fr' H' →
      RR C (fun id => n0 + ops.size ≤ id ∨ ∃ x ∈ rem, id = n0 + x.i) fr H a w → wpAny P .any ops Q fuel listed a w
  | 0, rem, listed, fr, H, a, w, hl, hsz, hidx, hops, hsort, hpair, hcl, hseq, hr => by
    have : rem = [] := List.length_eq_zero_iff.1 hl
    subst this
    obtain ⟨rfl, rfl⟩ := hseq
    refine ⟨?_, hfin _ _ (hr.less fun id h => .inl h)⟩
    cases hrd : Region.ready .any ops listed with
    | nil => rfl
    | cons x xs =>
      have hx : x ∈ Region.ready .any ops listed := by rw [hrd]; simp
      obtain ⟨hun, o, ho, _⟩ := mem_ready.1 hx
      obtain ⟨y, hy, _⟩ := (hidx x (Array.getElem?_eq_some_iff.1 ho).1).1 hun
      cases hy
  | fuel + 1, rem, listed, fr, H, a, w, hl, hsz, hidx, hops, hsort, hpair, hcl, hseq, hr => by
    refine ⟨fun hnil => ?_, fun i hi => ?_⟩
    · -- the first that is left is ready
      exfalso
      match rem, hl with
      | x :: r, _ =>
        have hxo := hops x (by simp)
        have hxl := (Array.getElem?_eq_some_iff.1 hxo).1
        have : x.i ∈ Region.ready .any ops listed := by
          refine mem_ready.2 ⟨(hidx x.i hxl).2 ⟨x, by simp, rfl⟩, x.o, hxo, fun e he hb => ?_⟩
          have hlt := textOk_spec ht x.i x.o hxo e he hb
          have hel : e.on < listed.size := by omega
          cases hle : listed.getD e.on false with
          | true => rfl
          | false =>
            exfalso
            have h2 : listed.getD e.on true = false := by
              simp [Array.getD, hel] at hle ⊢; exact hle
            obtain ⟨y, hy, hyi⟩ := (hidx e.on (by omega)).1 h2
            rcases List.mem_cons.1 hy with rfl | hy
            · omega
            · have := (List.pairwise_cons.1 hsort).1 y hy; omega
        rw [hnil] at this; cases this
    · obtain ⟨hun, o, ho, hdep⟩ := mem_ready.1 hi
      obtain ⟨j, hj, rfl⟩ := (hidx i (Array.getElem?_eq_some_iff.1 ho).1).1 hun
      have hjo : o = j.o := Option.some.inj (ho.symm.trans (hops j hj))
      subst hjo
      obtain ⟨r1, r2, rfl⟩ := List.append_of_mem hj
      have hno : ∀ x ∈ r1, noConf ops x j = true := fun x hx => by
        have h1 := (List.pairwise_append.1 hpair).2.2 x hx j (by simp)
        simp only [pairOk, Bool.or_eq_true] at h1
        rcases h1 with h1 | h1
        · exact h1
        · exfalso
          have h2 := reach_listed hcl 24 x.i j.i _ ho hdep h1
          have h3 := (hidx x.i (Array.getElem?_eq_some_iff.1 (hops x (by simp [hx]))).1).2 ⟨x, by simp [hx], rfl⟩
          rw [getD_both h3] at h2; cases h2
      obtain ⟨hev, hseq'⟩ := Seq.bubble hseq hno
      have hin : j.i < listed.size := by rw [hsz]; exact (Array.getElem?_eq_some_iff.1 ho).1
      have hne : ∀ x ∈ r1 ++ r2, x.i ≠ j.i := fun x hx => by
        have hs := List.pairwise_append.1 hsort
        rcases List.mem_append.1 hx with h | h
        · exact Nat.ne_of_lt (hs.2.2 x h j (by simp))
        · exact Nat.ne_of_gt ((List.pairwise_cons.1 hs.2.1).1 x h)
      have hcl' : Closed ops (listed.setIfInBounds j.i true) := by
        intro m om hm hlm e he hb
        by_cases hij : j.i = m
        · subst hij
          have : om = j.o := Option.some.inj (hm.symm.trans ho)
          subst this
          exact getD_set_true (hdep e he hb)
        · rw [getD_set_ne false hij] at hlm
          exact getD_set_true (hcl m om hm hlm e he hb)
      have hsub : (r1 ++ r2).Sublist (r1 ++ j :: r2) := List.Sublist.append_left (List.sublist_cons_self j r2) r1
      have next : ∀ a' w', RR C (fun id => n0 + ops.size ≤ id ∨ ∃ x ∈ r1 ++ r2, id = n0 + x.i) (putF fr j.o.dst j.t.val) (upds H j.t.wr) a' w' → wpAny P .any ops Q fuel (listed.setIfInBounds j.i true) a' w' := by
        intro a' w' hr'
        refine any_of_seq ht hfin fuel (r1 ++ r2) _ _ _ a' w' (by simp at hl ⊢; omega) (by simpa using hsz) (fun i hi => ?_) (fun x hx => hops x (hsub.subset hx)) (hsort.sublist hsub) (hpair.sublist hsub) hcl' hseq' hr'
        by_cases hij : j.i = i
        · subst hij
          constructor
          · intro h; simp [Array.getD, hin] at h
          · rintro ⟨x, hx, e⟩; exact absurd e (hne x hx)
        · rw [getD_set_ne true hij, hidx i hi]
          constructor
          · rintro ⟨x, hx, e⟩
            refine ⟨x, ?_, e⟩
            rcases List.mem_append.1 hx with h | h
            · exact List.mem_append_left _ h
            · rcases List.mem_cons.1 h with rfl | h
              · exact absurd e hij
              · exact List.mem_append_right _ h
          · rintro ⟨x, hx, e⟩; exact ⟨x, hsub.subset hx, e⟩
      unfold wpOp
      simp only [ho]
      obtain ⟨hg, h1, h0⟩ := hev
      have hw : Region.wanted j.o (yielded ops a.tmps) = j.t.on := by obtain ⟨ι, F, _, hv, _⟩ := hr; exact hg.wanted hv
      rw [hw]
      have hold : ∀ id, (n0 + ops.size ≤ id ∨ ∃ x ∈ r1 ++ r2, id = n0 + x.i) → (n0 + ops.size ≤ id ∨ ∃ x ∈ r1 ++ j :: r2, id = n0 + x.i) ∧ id ≠ n0 + j.i := by
        intro id hid
        have hjl := (Array.getElem?_eq_some_iff.1 ho).1
        rcases hid with h | ⟨x, hx, rfl⟩
        · exact ⟨.inl h, by omega⟩
        · exact ⟨.inr ⟨x, hsub.subset hx, rfl⟩, by have := hne x hx; omega⟩
      cases hon : j.t.on with
      | true =>
        rw [if_pos rfl]
        left
        exact RR.op hr (h1 hon) (.inr ⟨j, by simp, rfl⟩) (fun a' w' hr' => next a' w' (hr'.less hold))
      | false =>
        rw [if_neg (by simp)]
        obtain ⟨e1, e2⟩ := h0 hon
        have hr' := (hr.skip j.o.dst).less fun id hid => (hold id hid).1
        rw [← e1] at hr'
        refine next _ _ ?_
        rw [e2]; exact hr'

/-- A region in whatever order, walked in the order of the text. -/
def AD (P : Program) (ops : Array Oper) (n0 : Nat) (Z : List AV → Heap → List TO → Prop) : Nat → List Oper → List AV → Heap → List TO → Prop
  | _, [], fr, H, acc => Z fr H acc
  | i, o :: l, fr, H, acc => ∃ te : TE, EvOk P ops n0 ⟨i, o, te⟩ fr H ∧ AD P ops n0 Z (i + 1) l (putF fr o.dst te.val) (upds H te.wr) (acc ++ [⟨i, o, te⟩])
theorem AD.seq {Z : List AV → Heap → List TO → Prop} : ∀ {l : List Oper} {i : Nat} {fr : List AV} {H : Heap} {acc : List TO}, AD P ops n0 Z i l fr H acc →
    ∃ (tr : List TO) (fr' : List AV) (H' : Heap), tr.length = l.length ∧ (∀ k o, l[k]? = some o → ∃ x, tr[k]? = some x ∧ x.i = i + k ∧ x.o = o) ∧ Seq P ops n0 tr fr H fr' H' ∧ Z fr' H' (acc ++ tr)
  | [], i, fr, H, acc, h => ⟨[], fr, H, rfl, fun k o h => by simp at h, ⟨rfl, rfl⟩, by simpa [AD] using h⟩
  | o :: l, i, fr, H, acc, h => by
    obtain ⟨te, hev, h⟩ := h
    obtain ⟨tr, fr', H', hlen, hix, hseq, hz⟩ := AD.seq h
    refine ⟨⟨i, o, te⟩ :: tr, fr', H', by simp [hlen], fun k o' hk => ?_, ⟨hev, hseq⟩, by simpa using hz⟩
    cases k with
    | zero => simp at hk; subst hk; exact ⟨_, rfl, rfl, rfl⟩
    | succ k =>
      simp at hk
      obtain ⟨x, h1, h2, h3⟩ := hix k o' hk
      exact ⟨x, by simpa using h1, by omega, h3⟩
theorem AW.draw {C : Ctx} {Q : Exit → AS → Prop} {s : AS} {id : Nat} {l : List Oper} (hm : P.follows .mixedOrders = true) (ht : textOk l.toArray = true)
    (h : AD P l.toArray s.next (fun fr H tr => allPairs l.toArray tr = true ∧ Q .normal ⟨fr, H, s.next + l.length⟩) 0 l s.fr s.H []) : AW P C (.region id l.toArray true) Q s := by
  intro a w r
  obtain ⟨tr, fr', H', hlen, hix, hseq, hp, hq⟩ := h.seq
  simp only [List.nil_append] at hp
  have hget : ∀ x ∈ tr, ∃ k, tr[k]? = some x ∧ x.i = k ∧ l[k]? = some x.o := fun x hx => by
    obtain ⟨k, hk⟩ := List.getElem?_of_mem hx
    have hkl : k < l.length := by rw [← hlen]; exact (List.getElem?_eq_some_iff.1 hk).1
    obtain ⟨y, h1, h2, h3⟩ := hix k _ (List.getElem?_eq_getElem hkl)
    have : x = y := Option.some.inj (hk.symm.trans h1)
    subst this
    exact ⟨k, hk, by omega, by rw [h3]; exact List.getElem?_eq_getElem hkl⟩
  refine wp_region_any hm ?_
  refine any_of_seq (n0 := s.next) (fr' := fr') (H' := H') ht (fun a w r => ⟨_, hq, r.less fun id hid => by simpa using hid⟩) _ tr _ s.fr s.H a _ (by simpa using hlen) (by simp) (fun i hi => ?_) (fun x hx => ?_) ?_ (allPairs_spec hp) ?_ hseq (RR.drew (RR.less r ?_))
  · have hi' : i < l.length := by simpa using hi
    obtain ⟨y, h1, h2, h3⟩ := hix i _ (List.getElem?_eq_getElem hi')
    constructor
    · intro _; exact ⟨y, List.mem_of_getElem? h1, by omega⟩
    · intro _; simp [Array.getD, hi']
  · obtain ⟨k, _, rfl, h⟩ := hget x hx
    simpa using h
  · rw [List.pairwise_iff_getElem]
    intro i j hi hj hij
    have h1 := hget tr[i] (List.getElem_mem hi)
    have hi' := hix i _ (List.getElem?_eq_getElem (by omega : i < l.length))
    have hj' := hix j _ (List.getElem?_eq_getElem (by omega : j < l.length))
    obtain ⟨y, e1, e2, _⟩ := hi'
    obtain ⟨z, e3, e4, _⟩ := hj'
    rw [List.getElem?_eq_getElem hi] at e1; cases e1
    rw [List.getElem?_eq_getElem hj] at e3; cases e3
    omega
  · intro j oj _ hl
    rw [getD_replicate_false] at hl; cases hl
  · intro id hid
    rcases hid with h | ⟨x, _, rfl⟩
    · have h' : s.next + l.length ≤ id := by simpa using h
      show s.next ≤ id
      omega
    · show s.next ≤ s.next + x.i
      omega
end
end Go.Proofs.Ytemomjcgkpinfaa
