/-
  The abstract reading of the machine, part 3: values, operations, contracts, walks.
-/
import Derived.Test.YtofakjlamoigcaaDoorKeA2
section
namespace Go.Proofs.YtofakjlamoigcaaDoor
open Go Go.RowKit
set_option linter.unusedSimpArgs false
set_option linter.unusedVariables false

section
variable {P : Program} {o : Oper} {A : Operand → AV} {H : Heap} {new : Nat}
/-- A cell of a row of one cell each. -/
theorem Ok.ld1 [Mode] {t : TypeId} {a : Operand} {i : Nat} {l : Loc} {R : List (List D)} {c : D} (ho : o.op = .load t a) (ha : A a = .ptr 1 l (0 + ((i : Nat) : Int).toNat) 0) [TyCell P t] (hl : H l = some (dobj 1 R)) (hr : R[i]? = some [c]) : OpOk P o A [l] H new (.d c) [] := by
  have e : 0 + ((i : Nat) : Int).toNat = i := by omega
  refine OpOk.loadCell ho ha hl rfl (r := [.d c]) ?_ rfl
  rw [e]; simp [dobj, hr]
end
/-- A table told as data. -/
theorem AR.tab [Mode] {H : Heap} {lent : Loc → Prop} {τ : Loc → Loc} {L : Loc → Prop} {l : Loc} {k n : Nat} {R : List (List (List D))} (hm : IsM H l k R) (hn : R.length = n) (hl : lent l) (hr : ∀ i, lent (l.at i)) : AR H lent τ L (.d (.sl 1 (mRows k R))) (.own 1 l 0 n) := by
  subst hn; exact .d (hm.dr hl hr)
theorem CovL.at [Mode] {ls : List Loc} {l : Loc} (h : l ∈ ls) (i : Nat) : Cov ls (l.at i) := ⟨l, h, l.cov_at i⟩
end Go.Proofs.YtofakjlamoigcaaDoor
end

section
namespace Go.Proofs.YtofakjlamoigcaaDoor
open Go Go.RowKit
set_option linter.unusedSimpArgs false
set_option linter.unusedVariables false

section
variable {P : Program} {o : Oper} {A : Operand → AV} {H : Heap} {new : Nat}
end
end Go.Proofs.YtofakjlamoigcaaDoor
end

section
namespace Go.Proofs.YtofakjlamoigcaaDoor
open Go Go.RowKit
set_option linter.unusedSimpArgs false
set_option linter.unusedVariables false

theorem AC.frz [Mode] {P : Program} {f : FuncId} {args : List AV} {res resD : AV} {H' : Heap} (hc : AC P f args H0 res H') (hr : AR H' (fun _ => True) (fun l => l) (fun _ => False) resD res) : AC P f args H0 resD H0 := by
  intro ι F w vs hs hi hv
  refine (hc ι F w vs hs hi hv).mono ?_
  rintro e w' ⟨v, ι', F', rfl, hres, hs', hstep, hsub, hsup, hown, hkeep⟩
  refine ⟨v, fun _ => none, fun b => F' b ∨ ∃ l, True ∧ Owned ι' H' l b, rfl, hr.vr hs' (fun l hl => hl.elim) hres, ⟨fun l o h => (by cases h), fun l l' b s s' h => absurd rfl h, fun l b s h => absurd rfl h, fun b hb => ?_, hs'.gl.mono (fun _ h => .inl h) (fun _ _ => rfl)⟩, hstep, fun b hb => .inl (hsub b hb), fun b hb => ?_, fun b hb => ?_, fun l x h => absurd rfl h⟩
  · rcases hb with hb | ⟨l, _, h, s, e⟩
    · exact hs'.lt b hb
    · exact hs'.blt h e
  · rcases hb with hb | ⟨l, _, h⟩
    · exact hsup b hb
    · exact .inr (hown b ⟨l, h⟩)
  · obtain ⟨l, h, _⟩ := hb
    exact absurd rfl h
section
variable {P : Program} {o : Oper} {A : Operand → AV} {H : Heap} {new : Nat}
theorem Ok.bs2 [Mode] {t e : TypeId} {k b : Nat} {z : Value} {x y : Operand} {v u : AV} {cs ds : List AV} (ho : o.op = .buildSlice t 2 #[(0, x), (1, y)]) [h : TySlice P t e k b z] (hx : A x = v) (hy : A y = u) (hv : v.cells = cs) (hu : u.cells = ds) (hk : cs.length = k) (hk2 : ds.length = k) (h1 : cs.all AV.one = true) (h2 : ds.all AV.one = true) (hsm : 2 * k ≤ 16777216) :
    OpOk P o A [] H new (.own k ⟨new, []⟩ 0 2) [.one ⟨new, []⟩ (some ⟨k, [cs, ds]⟩)] := by
  have := OpOk.buildSlice (P := P) (H := H) (new := new) (A := A) [x, y] ho rfl rfl hsm (by intro p hp; simp at hp; rcases hp with rfl | rfl <;> simp only [hx, hy, hv, hu] <;> assumption) (by intro p hp; simp at hp; rcases hp with rfl | rfl <;> simp only [hx, hy, hv, hu] <;> assumption)
  simpa [hx, hy, hv, hu] using this
end
section
variable {P : Program} {o : Oper} {A : Operand → AV} {H : Heap} {new : Nat} {fo : Operand} {xs : List Operand} {ts : Array TypeId} {f : FuncId} {caps args : List AV} {res res' : AV}
end
end Go.Proofs.YtofakjlamoigcaaDoor
end

section
namespace Go.Proofs.YtofakjlamoigcaaDoor
open Go Go.RowKit
set_option linter.unusedSimpArgs false
set_option linter.unusedVariables false

/-! ### Lists reversed in place -/
/-! ### A state told anew without new names -/
theorem Le.same [Mode] {C : Ctx} {fr fr' : List AV} {H H' : Heap} {n n' : Nat} (hH : ∀ l, H l = H' l) (hok : ∀ l ob, H' l = some ob → ∀ r ∈ ob.rows, ∀ c ∈ r, Locs (fun l => H' l ≠ none) c) (hfr : ARs H (fun _ => False) id (fun l => H' l ≠ none) fr' fr) (hn : ∀ l, H' l ≠ none → l.id < n') (hD : ∀ l, C.D0 l → l.id < n') : Le C ⟨fr, H, n⟩ ⟨fr', H', n'⟩ := by
  have e : H = H' := funext hH
  subst e
  refine Le.tell (fun _ => False) id hfr (fun l ob h => ⟨ob, h, rfl, rfl, fun i r r' hr hr' => ?_⟩) (fun l l' _ _ e => e) (fun l _ h => h) hn (fun l h => ⟨hD l h, rfl⟩)
  rw [hr] at hr'; cases hr'
  refine ⟨rfl, fun j c c' hc hc' => ?_⟩
  rw [hc] at hc'; cases hc'
  exact (hok l ob h r (List.mem_of_getElem? hr) c (List.mem_of_getElem? hc)).ar
section
variable {P : Program} {o : Oper} {A : Operand → AV} {H : Heap} {new : Nat} {fo : Operand} {xs : List Operand} {ts : Array TypeId} {f : FuncId} {caps args : List AV} {res res' : AV}
end
end Go.Proofs.YtofakjlamoigcaaDoor
end

section
namespace Go.Proofs.YtofakjlamoigcaaDoor
set_option linter.unusedSimpArgs false
set_option linter.unusedVariables false
open Go Go.RowKit

abbrev Oo : AV := .dead
section
variable {P : Program} {C : Ctx} {ops : Array Oper} {Q : Exit → AS → Prop} {rest : List Oper} {fr : List AV} {H : Heap} {n t : Nat} {op : Op} {ty : TypeId} {pos : String} {after : Array Edge}
variable {n0 i : Nat} {Z : List AV → Heap → List TO → Prop} {acc : List TO}
def NA [Mode] (P : Program) (C : Ctx) (ops : Array Oper) (Q : Exit → AS → Prop) (rest : List Oper) (fr : List AV) (H : Heap) (n : Nat) : Prop := AL P C ops Q rest ⟨fr, H, n⟩
def ND [Mode] (P : Program) (ops : Array Oper) (n0 : Nat) (Z : List AV → Heap → List TO → Prop) (i : Nat) (rest : List Oper) (fr : List AV) (H : Heap) (acc : List TO) : Prop := AD P ops n0 Z i rest fr H acc
def NC [Mode] (P : Program) (C : Ctx) (ops : Array Oper) (Q : Exit → AS → Prop) (rest : List Oper) (fr : List AV) (H : Heap) (n : Nat) : Prop := AL P C ops Q rest ⟨fr, H, n⟩
def NE [Mode] (P : Program) (ops : Array Oper) (n0 : Nat) (Z : List AV → Heap → List TO → Prop) (i : Nat) (rest : List Oper) (fr : List AV) (H : Heap) (acc : List TO) : Prop := AD P ops n0 Z i rest fr H acc
theorem Ba [Mode] {reads : List Loc} {val : AV} {wr : List W} (h1 : OpOk P ⟨some t, op, ty, pos, after, none⟩ (evalF fr) reads H n val wr) (h2 : NA P C ops Q rest (fr.set t val) (upds H wr) (n + 1)) : AL P C ops Q (⟨some t, op, ty, pos, after, none⟩ :: rest) ⟨fr, H, n⟩ := AL.st h1 rfl rfl rfl h2
theorem Bb [Mode] {reads : List Loc} {val : AV} {wr : List W} {g : Nat} {want : Bool} {u : Nat} (hg : (ops[g]?).bind (·.dst) = some u) (hf : fr[u]? = some (Bo want)) (h1 : OpOk P ⟨some t, op, ty, pos, after, some (g, want)⟩ (evalF fr) reads H n val wr) (h2 : NA P C ops Q rest (fr.set t val) (upds H wr) (n + 1)) :
    AL P C ops Q (⟨some t, op, ty, pos, after, some (g, want)⟩ :: rest) ⟨fr, H, n⟩ := AL.on hg hf h1 rfl rfl rfl h2
theorem Bc [Mode] {new : Nat} {reads : List Loc} {val : AV} {wr : List W} (hnew : n0 + i = new) (h1 : OpOk P ⟨some t, op, ty, pos, after, none⟩ (evalF fr) reads H new val wr) (h2 : ND P ops n0 Z (i + 1) rest (fr.set t val) (upds H wr) (acc ++ [⟨i, ⟨some t, op, ty, pos, after, none⟩, ⟨val, reads, wr, true⟩⟩])) : AD P ops n0 Z i (⟨some t, op, ty, pos, after, none⟩ :: rest) fr H acc := AD.st hnew h1 rfl rfl rfl h2
theorem Bd [Mode] {new : Nat} {reads : List Loc} {val : AV} {wr : List W} {g : Nat} {want : Bool} {u : Nat} (hg : (ops[g]?).bind (·.dst) = some u) (hf : fr[u]? = some (Bo want)) (hnew : n0 + i = new) (h1 : OpOk P ⟨some t, op, ty, pos, after, some (g, want)⟩ (evalF fr) reads H new val wr) (h2 : ND P ops n0 Z (i + 1) rest (fr.set t val) (upds H wr) (acc ++ [⟨i, ⟨some t, op, ty, pos, after, some (g, want)⟩, ⟨val, reads, wr, true⟩⟩])) : AD P ops n0 Z i (⟨some t, op, ty, pos, after, some (g, want)⟩ :: rest) fr H acc := AD.on hg hf hnew h1 rfl rfl rfl h2
theorem Ca [Mode] {reads : List Loc} {val : AV} {wr : List W} (h1 : OpOk P ⟨none, op, ty, pos, after, none⟩ (evalF fr) reads H n val wr) (h2 : NC P C ops Q rest fr (upds H wr) (n + 1)) : AL P C ops Q (⟨none, op, ty, pos, after, none⟩ :: rest) ⟨fr, H, n⟩ := AL.st0 h1 rfl rfl h2
theorem Cb [Mode] {new : Nat} {reads : List Loc} {val : AV} {wr : List W} (hnew : n0 + i = new) (h1 : OpOk P ⟨none, op, ty, pos, after, none⟩ (evalF fr) reads H new val wr) (h2 : NE P ops n0 Z (i + 1) rest fr (upds H wr) (acc ++ [⟨i, ⟨none, op, ty, pos, after, none⟩, ⟨val, reads, wr, true⟩⟩])) : AD P ops n0 Z i (⟨none, op, ty, pos, after, none⟩ :: rest) fr H acc := AD.st0 hnew h1 rfl rfl h2
theorem Na [Mode] {val : AV} {wr : List W} {fr' : List AV} {H' : Heap} {n' : Nat} (h : AL P C ops Q rest ⟨fr', H', n'⟩) (e1 : fr.set t val = fr' := by simp only [List.set_cons_succ, List.set_cons_zero, List.take_succ_cons, List.drop_succ_cons, List.take_zero, List.drop_zero, List.take_nil, List.drop_nil, List.map_cons, List.map_nil]; exact rfl) (e2 : upds H wr = H' := by first | exact updsE | exact rfl) (e3 : n + 1 = n' := by first | (simp only [Nat.reduceAdd]; exact rfl) | exact rfl) : NA P C ops Q rest (fr.set t val) (upds H wr) (n + 1) := by subst e1 e2 e3; exact h
theorem Nb [Mode] {val : AV} {wr : List W} {fr' : List AV} {H' : Heap} {i' : Nat} (h : AD P ops n0 Z i' rest fr' H' acc) (e1 : fr.set t val = fr' := by simp only [List.set_cons_succ, List.set_cons_zero, List.take_succ_cons, List.drop_succ_cons, List.take_zero, List.drop_zero, List.take_nil, List.drop_nil, List.map_cons, List.map_nil]; exact rfl) (e2 : upds H wr = H' := by first | exact updsE | exact rfl) (e3 : i + 1 = i' := by first | (simp only [Nat.reduceAdd]; exact rfl) | exact rfl) : ND P ops n0 Z (i + 1) rest (fr.set t val) (upds H wr) acc := by subst e1 e2 e3; exact h
theorem Nc [Mode] {wr : List W} {H' : Heap} {n' : Nat} (h : AL P C ops Q rest ⟨fr, H', n'⟩) (e2 : upds H wr = H' := by exact rfl) (e3 : n + 1 = n' := by first | (simp only [Nat.reduceAdd]; exact rfl) | exact rfl) : NC P C ops Q rest fr (upds H wr) (n + 1) := by subst e2 e3; exact h
theorem Nd [Mode] {wr : List W} {H' : Heap} {i' : Nat} (h : AD P ops n0 Z i' rest fr H' acc) (e2 : upds H wr = H' := by exact rfl) (e3 : i + 1 = i' := by first | (simp only [Nat.reduceAdd]; exact rfl) | exact rfl) : NE P ops n0 Z (i + 1) rest fr (upds H wr) acc := by subst e2 e3; exact h
theorem Oa [Mode] {fr' : List AV} {n' : Nat} {g : Nat} {want : Bool} {v : Value} {u : Nat} (h2 : AL P C ops Q rest ⟨fr', H, n'⟩) (hg : (ops[g]?).bind (·.dst) = some u := by exact rfl) (hf : fr[u]? = some (.d (.v v)) := by exact rfl) (hb : (boolV v == some want) = false := by exact rfl) (hfr : fr.set t (.d (.v undef)) = fr' := by simp only [List.set_cons_succ, List.set_cons_zero, List.take_succ_cons, List.drop_succ_cons, List.take_zero, List.drop_zero, List.take_nil, List.drop_nil, List.map_cons, List.map_nil]; exact rfl) (hn : n + 1 = n' := by first | (simp only [Nat.reduceAdd]; exact rfl) | exact rfl) :
    AL P C ops Q (⟨some t, op, ty, pos, after, some (g, want)⟩ :: rest) ⟨fr, H, n⟩ := AL.off hg hf hb hfr hn h2
theorem Ob [Mode] {fr' : List AV} {i' : Nat} {g : Nat} {want : Bool} {v : Value} {u : Nat} (h2 : AD P ops n0 Z i' rest fr' H (acc ++ [⟨i, ⟨some t, op, ty, pos, after, some (g, want)⟩, ⟨.d (.v undef), [], [], false⟩⟩])) (hg : (ops[g]?).bind (·.dst) = some u := by exact rfl) (hf : fr[u]? = some (.d (.v v)) := by exact rfl) (hb : (boolV v == some want) = false := by exact rfl) (hfr : fr.set t (.d (.v undef)) = fr' := by simp only [List.set_cons_succ, List.set_cons_zero, List.take_succ_cons, List.drop_succ_cons, List.take_zero, List.drop_zero, List.take_nil, List.drop_nil, List.map_cons, List.map_nil]; exact rfl) (hi : i + 1 = i' := by first | (simp only [Nat.reduceAdd]; exact rfl) | exact rfl) :
    AD P ops n0 Z i (⟨some t, op, ty, pos, after, some (g, want)⟩ :: rest) fr H acc := AD.off hg hf hb hfr hi h2
theorem Ga [Mode] {g : Nat} {want : Bool} {u : Nat} {dst : Option Tmp} {p : Prop} [Decidable p] (h1 : p → AL P C ops Q (⟨dst, op, ty, pos, after, some (g, want)⟩ :: rest) ⟨fr.set u (Bo true), H, n⟩) (h0 : ¬ p → AL P C ops Q (⟨dst, op, ty, pos, after, some (g, want)⟩ :: rest) ⟨fr.set u (Bo false), H, n⟩) (hg : (ops[g]?).bind (·.dst) = some u := by exact rfl) (hf : fr[u]? = some (Bo (decide p)) := by exact rfl) :
    AL P C ops Q (⟨dst, op, ty, pos, after, some (g, want)⟩ :: rest) ⟨fr, H, n⟩ := AL.gsplit hg hf h1 h0
theorem Gd [Mode] {g : Nat} {want : Bool} {u : Nat} {dst : Option Tmp} {p : Prop} [Decidable p] (h1 : p → AD P ops n0 Z i (⟨dst, op, ty, pos, after, some (g, want)⟩ :: rest) (fr.set u (Bo true)) H acc) (h0 : ¬ p → AD P ops n0 Z i (⟨dst, op, ty, pos, after, some (g, want)⟩ :: rest) (fr.set u (Bo false)) H acc) (hg : (ops[g]?).bind (·.dst) = some u := by exact rfl) (hf : fr[u]? = some (Bo (decide p)) := by exact rfl) :
    AD P ops n0 Z i (⟨dst, op, ty, pos, after, some (g, want)⟩ :: rest) fr H acc := AD.gsplit hg hf h1 h0
attribute [irreducible] NA ND NC NE
end
section
variable {P : Program} {C : Ctx} {Q : Exit → AS → Prop} {s : AS} {x y : Code} {c : Operand}
theorem Wa [Mode] (h1 : AW P C x Q s) (hc : evalF s.fr c = Bo true := by exact rfl) : AW P C (.cond c x y) Q s := AW.condT hc h1
theorem Wb [Mode] (h1 : AW P C y Q s) (hc : evalF s.fr c = Bo false := by exact rfl) : AW P C (.cond c x y) Q s := AW.condF hc h1
end
section
variable {P : Program} {C : Ctx} {Q : Exit → AS → Prop} {K : AS → Prop} {ops : Array Oper} {fr fr' : List AV} {H : Heap} {n : Nat} {s : AS} {id id' : Nat} {x y : Code}
theorem Fa [Mode] {n0 i n' : Nat} {acc : List TO} (h : Q .normal ⟨fr', H, n'⟩) (hn : n = n' := by simp only [List.length_cons, List.length_nil, Nat.reduceAdd]; rfl) (hfr : fr = fr' := by exact rfl) (hp : allPairs ops acc = true := by kernel_rfl) : AD P ops n0 (fun fr H tr => allPairs ops tr = true ∧ Q .normal ⟨fr, H, n⟩) i [] fr H acc := AD.fin hn hfr hp h
theorem Fb [Mode] {l : List Oper} (h : AD P l.toArray n (fun fr H tr => allPairs l.toArray tr = true ∧ Q .normal ⟨fr, H, n + l.length⟩) 0 l fr H []) (hm : P.follows .mixedOrders = true := by exact mixedA) (ht : textOk l.toArray = true := by kernel_rfl) : AW P C (.region id l.toArray true) Q ⟨fr, H, n⟩ := AW.dr hm ht h
theorem Fc [Mode] (h : Q (.exit id') s) (hne : id' ≠ id := by decide) : blockQ id Q (.exit id') s := blockY hne h
theorem Qa [Mode] (h : Q .normal s) : AL P C ops Q [] s := AL.nil h
theorem Qb [Mode] (h : K s) : thenQ K Q .normal s := h
theorem Qc [Mode] (h : AW P C x (thenQ (AW P C y Q) Q) s) : AW P C (.seq x y) Q s := AW.seq h
theorem Qd [Mode] {l : List Oper} (h : AL P C l.toArray Q l ⟨fr, H, n⟩) : AW P C (.region id l.toArray false) Q ⟨fr, H, n⟩ := AW.reg h
theorem Qe [Mode] (h : AW P C x (blockQ id Q) s) : AW P C (.block id x) Q s := AW.block h
theorem Qf [Mode] (h : Q .ret s) : AW P C .ret Q s := AW.ret h
theorem Qg [Mode] (h : Q (.exit id) s) : AW P C (.exit id) Q s := AW.exit h
theorem Qh [Mode] (h : Q .normal s) : AW P C .skip Q s := AW.skip h
theorem Qi [Mode] (h : Q .ret s) : thenQ K Q .ret s := h
theorem Xa [Mode] (h : Q (.exit id) s) : thenQ K Q (.exit id) s := h
theorem Xb [Mode] (h : Q .normal s) : blockQ id Q .normal s := h
theorem Xc [Mode] (h : Q .ret s) : blockQ id Q .ret s := h
theorem Xd [Mode] (h : Q .normal s) : blockQ id Q (.exit id) s := blockX h
end
/-! Steps without a choice, as one; steps that split, as one. -/
theorem Sx [Mode] {p q : Prop} (h : q) (e : q → p := by first | exact fun h => Na h | exact fun h => Nb h | exact fun h => Nc h | exact fun h => Nd h | exact fun h => Oa h | exact fun h => Ob h | exact Qa | exact Qb | exact Qc | exact Qd | exact Qe | exact fun h => Fa h | exact fun h => Fb h | exact fun h => Wa h | exact fun h => Wb h | exact Qf | exact Qg | exact Qh | exact Qi | exact Xa | exact Xb | exact Xc | exact Xd | exact fun h => Fc h) : p := e h
theorem Sy [Mode] {p q r a b : Prop} (h1 : a → q) (h0 : b → r) (e : (a → q) → (b → r) → p := by first | exact fun h1 h0 => Ga h1 h0 | exact fun h1 h0 => Gd h1 h0 | exact fun h1 h0 => AW.ite rfl h1 h0) : p := e h1 h0
theorem Sz [Mode] {p q r a b : Prop} (h1 : a → q) (h0 : b → r) (e : (a → q) → (b → r) → p := by first | exact fun h1 h0 => AL.gsplitB rfl rfl h1 h0 | exact fun h1 h0 => AD.gsplitB rfl rfl h1 h0 | exact fun h1 h0 => AW.cond _ rfl h1 h0) : p := e h1 h0
/-! Calls. -/
section
variable {P : Program} {o : Oper} {A : Operand → AV} {H : Heap} {new : Nat} {fo : Operand} {xs : List Operand} {ts : Array TypeId} {f : FuncId} {caps args : List AV} {res res' : AV} {lent : List Loc} {cs cs' vs vs' : List AV}
theorem Kz [Mode] (ho : o.op = .call { callee := .value fo, args := xs.toArray, argTypes := ts }) [FnBody P f] (hfo : A fo = .clo (.func f) [] caps) (hc : AC P f args H0 res H0) (hargs : ARs H (Cov []) id (fun _ => False) args (xs.map A ++ caps)) (hrn : ∀ g, rn g res = res := by intro _; simp [Go.Proofs.YtofakjlamoigcaaDoor.rn]) : OpOk P o A [] H new res [] := OpOk.call0 [] ho hfo hc (.inl rfl) hrn hargs
theorem Ez [Mode] (ho : o.op = .call { callee := .value fo, args := xs.toArray, argTypes := ts }) [FnBody P f] (hfo : A fo = .clo (.func f) [] caps) (hc : AC P f args H0 res H0) (hargs : CA H lent args (xs.map A ++ caps)) (hfree : FreeF res := by first | exact free_rowsPl | exact free_rowsEd | exact free_rowsG (fun _ => rfl) | (repeat' (first | exact FreeF.own _ _ _ _ | exact FreeF.v _ | refine FreeF.tup ?_ | refine FreeF.agg ?_ | refine FreeF.cons ?_ ?_ | exact FreeF.nil))) (hrn : ∀ g, rn g res = res := by intro _; simp [Go.Proofs.YtofakjlamoigcaaDoor.rn]) : OpOk P o A lent H new res [] := Ok.c0 ho hfo hc hargs hfree hrn
theorem Zf [Mode] (ho : o.op = .call { callee := .value fo, args := xs.toArray, argTypes := ts }) [FnBody P f] (hfo : A fo = .clo (.func f) [] caps) (hc : AC P f args H0 res H0) (hargs : CA H lent args (xs.map A ++ caps)) (hd : dataB res = true := by exact rfl) : OpOk P o A lent H new res (lent.map dropW) := OpOk.callZ ho hfo hc hargs (dataB_ok hd)
theorem Sn [Mode] : CA H [] [] [] := CA.nil
theorem Sd [Mode] {x : D} (h : CA H lent cs vs) : CA H lent (.d x :: cs) (.d x :: vs) := CA.d h
theorem Sw [Mode] {k n : Nat} {l : Loc} {rows : List (List D)} (h : CA H lent cs vs) (hl : H l = some (dobj k rows) := by exact rfl) (hn : rows.length = n := by first | rfl | (simp; done) | (simp [mksE_len, mksP_len]; done) | (simp [rowF_len]; done)) : CA H (l :: lent) (.d (.sl k rows) :: cs) (.own k l 0 n :: vs) := CA.w hl hn h
theorem Su [Mode] {k : Nat} (h : CA H lent cs vs) : CA H lent (.d (.sl k []) :: cs) (.d (.v (.slice none 0 0)) :: vs) := CA.n h
theorem Sa [Mode] {lent' : List Loc} (h' : CA H lent' cs' vs') (h : CA H lent cs vs) : CA H (lent' ++ lent) (.agg cs' :: cs) (.agg vs' :: vs) := CA.a h' h
theorem An [Mode] {l : Loc → Prop} {τ : Loc → Loc} {L : Loc → Prop} : ARs H l τ L [] [] := ARs.nil
theorem Ad [Mode] {l : Loc → Prop} {τ : Loc → Loc} {L : Loc → Prop} {x : D} (h : ARs H l τ L cs vs) : ARs H l τ L (.d x :: cs) (.d x :: vs) := ARs.cons (AR.dd x) h
theorem Aa [Mode] {l : Loc → Prop} {τ : Loc → Loc} {L : Loc → Prop} (h' : ARs H l τ L cs' vs') (h : ARs H l τ L cs vs) : ARs H l τ L (.agg cs' :: cs) (.agg vs' :: vs) := ARs.cons (ARs.agg h') h
end
/-! States told anew. -/
theorem Lc [Mode] {p : Prop} (h : p := by first | exact trivial | exact ARs.nil | exact AR.dead _ | exact AR.dd _ | exact AR.i (by (try dsimp only); omega) | exact AR.ptr _ _ _ _ (by first | (simp [heapL, upd]; done) | (simp [heapX, upd]; done) | (simp [heapX, heapM, upd, matG, Loc.cov, Loc.at]; done) | (simp [heapX, heapM, upd, matG, Loc.cov, Loc.at, tabF_len, TR_len, rowF_len, IR_len]; done) | (simp [heapX, heapM, upd, matG, Loc.cov, Loc.at]; omega) | (simp [heapX, heapM, upd, matG, Loc.cov, Loc.at, tabF_len, TR_len, rowF_len, IR_len]; omega)) | exact AR.own _ _ _ _ (by first | (simp [heapL, upd]; done) | (simp [heapX, upd]; done) | (simp [heapX, heapM, upd, matG, Loc.cov, Loc.at]; done) | (simp [heapX, heapM, upd, matG, Loc.cov, Loc.at, tabF_len, TR_len, rowF_len, IR_len]; done) | (simp [heapX, heapM, upd, matG, Loc.cov, Loc.at]; omega) | (simp [heapX, heapM, upd, matG, Loc.cov, Loc.at, tabF_len, TR_len, rowF_len, IR_len]; omega)) | exact ObA.data | exact AR.clo' ARs.nil ARs.nil | exact AR.clo' ARs.nil (hca _ _) | exact AR.whole rfl (by simp) (by first | rfl | assumption | (simp; done)) |
  exact AR.tab ⟨rfl, fun i x hx => congrArg (Option.map (dobj 1)) hx⟩ (by first | rfl | assumption | (simp; done) | (simp; omega)) (by simp [Cov, Loc.cov]; done) (by intro i; simp [Cov, Loc.cov, Loc.at]; done) | exact AR.d (DRel.nil _)) : p := h
section
variable {H : Heap} {lent : Loc → Prop} {τ : Loc → Loc} {L : Loc → Prop}
theorem Lo [Mode] {k off n n' : Nat} {l : Loc} (hn : n = n') (h : L l := by first | (simp [heapL, upd]; done) | (simp [heapX, upd]; done) | (simp [heapX, heapM, upd, matG, Loc.cov, Loc.at]; done) | (simp [heapX, heapM, upd, matG, Loc.cov, Loc.at, tabF_len, TR_len, rowF_len, IR_len]; done) | (simp [heapX, heapM, upd, matG, Loc.cov, Loc.at]; omega) | (simp [heapX, heapM, upd, matG, Loc.cov, Loc.at, tabF_len, TR_len, rowF_len, IR_len]; omega)) : AR H lent τ L (.own k l off n) (.own k (τ l) off n') := AR.ownE k l off hn h
theorem La [Mode] {c c' : AV} {cs cs' : List AV} (h : AR H lent τ L c c') (h' : ARs H lent τ L cs cs') : ARs H lent τ L (c :: cs) (c' :: cs') := ARs.cons h h'
end
theorem Lx [Mode] {p q : Prop} (h : q) (e : q → p := by first | exact fun h => ObA.box h | exact fun h => ObA.frE h | exact fun h => ObA.dataE h | exact fun h => ARs.agg h | exact fun h => ARs.tup h | exact fun h => AR.b h | exact fun h => AR.iE h | exact fun h => AR.e h | exact fun h => AR.clo' ARs.nil h) : p := e h
theorem Ld [Mode] {p : Prop} (h : p := by first | exact fun l h => absurd h (hD l) | (intro l h; rcases hD l h with rfl; simp [tauL]; done) | (intro l h; rcases hD l h with rfl | rfl <;> simp [tauL]; done) | (intro l h; rcases hD l h with rfl | rfl | rfl <;> simp [tauL]; done) | (simp [AllP]; done) | (intro l h; rcases hD l h with rfl; simp [tauX, tauM, Loc.cov]; done) | (intro l h; rcases hD l h with rfl | rfl <;> simp [tauX, tauM, Loc.cov]; done) | (intro l h; rcases hD l h with rfl | ⟨i, rfl⟩ <;> simp [tauX, tauM, Loc.cov, Loc.at, MI.row]; done)) : p := h
section
variable {P : Program} {C : Ctx} {fr : List AV} {H : Heap} {n : Nat}
theorem Ya [Mode] {fn : Func} {res res' c : AV} {H' : Heap} {e : Exit} {rv : ResultVar} (hle : Le C ⟨[res'], H, n⟩ ⟨[res], H', 1000⟩) (he : e = .ret ∨ e = .normal := by first | exact .inl rfl | exact .inr rfl) (hr : fn.results.toList = [rv] := by exact rfl) (h : ResOf P fr H rv c := by first | exact rT rfl | exact rCA rfl rfl rfl rfl (by simp) | exact rCC rfl rfl rfl rfl rfl) (hc : c = res' := by first | (simp only [List.take_succ_cons, List.take_zero, List.take_nil, List.drop_succ_cons, List.drop_zero, List.drop_nil, AV.cells]; exact rfl) | exact rfl) : EndQ P C fn res H' e ⟨fr, H, n⟩ := end1 he hr h hc hle
theorem Yb [Mode] {fn : Func} {res res' c c' : AV} {H' : Heap} {e : Exit} {rv rv' : ResultVar} (hle : Le C ⟨[res'], H, n⟩ ⟨[res], H', 1000⟩) (he : e = .ret ∨ e = .normal := by first | exact .inl rfl | exact .inr rfl) (hr : fn.results.toList = [rv, rv'] := by exact rfl) (h : ResOf P fr H rv c := by first | exact rT rfl | exact rCA rfl rfl rfl rfl (by simp) | exact rCC rfl rfl rfl rfl rfl) (h' : ResOf P fr H rv' c' := by first | exact rT rfl | exact rCA rfl rfl rfl rfl (by simp) | exact rCC rfl rfl rfl rfl rfl) (hc : .tup [c, c'] = res' := by first | (simp only [List.take_succ_cons, List.take_zero, List.take_nil, List.drop_succ_cons, List.drop_zero, List.drop_nil, AV.cells]; exact rfl) | exact rfl) : EndQ P C fn res H' e ⟨fr, H, n⟩ := end2 he hr h h' hc hle
end
end Go.Proofs.YtofakjlamoigcaaDoor
end

section
namespace Go.Proofs.YtofakjlamoigcaaDoor
open Go Go.RowKit
set_option linter.unusedSimpArgs false
set_option linter.unusedVariables false

section
variable {P : Program} {o : Oper} {A : Operand → AV} {H : Heap} {new : Nat}
end
theorem free_rowsPl [Mode] {xs : List Pl} : ∀ r ∈ (dobj 4 (xs.map Pl.row)).rows, ∀ c ∈ r, FreeF c := by
  intro r hr c hc
  simp only [dobj, List.map_map, List.mem_map, Function.comp_def, Pl.row] at hr
  obtain ⟨x, _, rfl⟩ := hr
  simp at hc
  rcases hc with rfl | rfl | rfl | rfl <;> exact FreeF.v _
theorem free_rowsEd [Mode] {xs : List Ed} : ∀ r ∈ (dobj 6 (xs.map Ed.row)).rows, ∀ c ∈ r, FreeF c := by
  intro r hr c hc
  simp only [dobj, List.map_map, List.mem_map, Function.comp_def, Ed.row] at hr
  obtain ⟨x, _, rfl⟩ := hr
  simp at hc
  rcases hc with rfl | rfl | rfl | rfl | rfl | rfl <;> exact FreeF.v _
theorem FreeF.cons [Mode] {a : AV} {r : List AV} (h : FreeF a) (h' : ∀ c ∈ r, FreeF c) : ∀ c ∈ a :: r, FreeF c := fun c hc => by
  rcases List.mem_cons.1 hc with rfl | hc
  · exact h
  · exact h' c hc
theorem FreeF.nil [Mode] : ∀ c ∈ ([] : List AV), FreeF c := fun c hc => by cases hc
/-- The marks of places and of edits, counted from k on. -/
def mkP (k : Int) (i : Nat) : Pl := ⟨k + 4 * i, k + 4 * i + 1, k + 4 * i + 1 + 1, k + 4 * i + 1 + 1 + 1⟩
def mkE (k : Int) (i : Nat) : Ed := ⟨k + 6 * i, k + 6 * i + 1, ⟨k + 6 * i + 1 + 1, k + 6 * i + 1 + 1 + 1, k + 6 * i + 1 + 1 + 1 + 1, k + 6 * i + 1 + 1 + 1 + 1 + 1⟩⟩
def mksP (k : Int) (n : Nat) : List Pl := (List.range n).map (mkP k)
def mksE (k : Int) (n : Nat) : List Ed := (List.range n).map (mkE k)
theorem mksP_len [Mode] (k : Int) (n : Nat) : (mksP k n).length = n := by simp [mksP]
theorem mksE_len [Mode] (k : Int) (n : Nat) : (mksE k n).length = n := by simp [mksE]
end Go.Proofs.YtofakjlamoigcaaDoor
end

section
namespace Go.Proofs.YtofakjlamoigcaaDoor
open Go Go.RowKit
set_option linter.unusedSimpArgs false
set_option linter.unusedVariables false

section
variable {P : Program} {o : Oper} {A : Operand → AV} {H : Heap} {new : Nat} {t e : TypeId} {x y : Operand}
theorem run_arrAt [Mode] {n b o' : Nat} {kd : IntKind} {i : Int} {w : World} (hu : P.underlying t = some (.array n e)) [ht : TyCell P e] (h0 : 0 ≤ i) (h1 : i < n) :
    (Instr.indexAt t (.pointer (some ⟨b, o', none⟩)) (.int kd i)).run P w = .ok (.pointer (some ⟨b, o' + i.toNat, none⟩)) w := by
  simp [Instr.indexAt, asIntOf, run_underlying hu, Instr.sureAddr, h0, h1, run_sizeOf' ht.s, addr_add]
theorem Ok.aptr [Mode] {n k i j : Nat} {l : Loc} {kd : IntKind} {m : Int} (ho : o.op = .indexAddr t x y) (hx : A x = .ptr k l i j) (hy : A y = .d (.v (.int kd m))) (hu : P.underlying t = some (.array n e)) [ht : TyCell P e] (h0 : 0 ≤ m) (h1 : m < n) :
    OpOk P o A [] H new (.ptr k l i (j + m.toNat)) [] :=
  .still [] fun ι F w H1 ρ _ _ hv => by
    have h2 := hv x (by simp [ho, Op.operands])
    have h3 := hv y (by simp [ho, Op.operands])
    rw [hx] at h2; rw [hy] at h3
    have h4 := h3.v_inv
    obtain ⟨b, sz, e', hp⟩ := h2.ptr_inv
    refine ⟨.pointer (some ⟨b, i * k + j + m.toNat, none⟩), by simp [execOp, ho, hp, h4, run_arrAt (P := P) hu h0 h1], ?_⟩
    rw [Nat.add_assoc]
    exact .ptr k l i (j + m.toNat) b sz e'
theorem Ok.aidx [Mode] {n : Nat} {cs : List AV} {c : AV} {kd : IntKind} {m : Int} (ho : o.op = .index t x y) (hx : A x = .agg cs) (hy : A y = .d (.v (.int kd m))) (hu : P.underlying t = some (.array n e)) [ht : TyCell P e] (h0 : 0 ≤ m) (h1 : m < n) (hc : cs[m.toNat]? = some c) :
    OpOk P o A [] H new c [] :=
  .still [] fun ι F w H1 ρ _ _ hv => by
    have h2 := hv x (by simp [ho, Op.operands])
    have h3 := hv y (by simp [ho, Op.operands])
    rw [hx] at h2; rw [hy] at h3
    have h4 := h3.v_inv
    obtain ⟨vs, hp, hvs⟩ := h2.agg_inv
    obtain ⟨v, h5, h6⟩ := hvs.get hc
    exact ⟨v, by simp [execOp, ho, hp, h4, Instr.index, asIntOf, run_underlying hu, h0, h1, run_sizeOf' ht.s, part, run_isAgg ht.u, h5], h6⟩
theorem Ok.aptrN [Mode] {n k i j j' : Nat} {l : Loc} {kd : IntKind} {m : Int} (ho : o.op = .indexAddr t x y) (hx : A x = .ptr k l i j) (hy : A y = .d (.v (.int kd m))) (hu : P.underlying t = some (.array n e)) [ht : TyCell P e] (h0 : 0 ≤ m) (h1 : m < n) (hj : j + m.toNat = j') :
    OpOk P o A [] H new (.ptr k l i j') [] := hj ▸ Ok.aptr ho hx hy hu h0 h1
theorem run_arrBuild [Mode] {a b c d z : Value} {w : World} (hu : P.underlying t = some (.array 4 e)) [ht : TyCell P e] [hz : TyZero P t (.agg #[z, z, z, z])] (ca : a.cells = #[a]) (cb : b.cells = #[b]) (cc : c.cells = #[c]) (cd : d.cells = #[d]) :
    (Instr.build t #[(0, a), (1, b), (2, c), (3, d)]).run P w = .ok (.agg #[a, b, c, d]) w := by
  have h1 := hz.z
  cases hi : P.info? t with
  | none => rw [hi] at h1; cases h1
  | some i =>
    rw [hi] at h1
    simp only [Option.map_some, Option.some.injEq] at h1
    have hz2 : (zeroValue t).run P w = .ok (.agg #[z, z, z, z]) w := by simp [zeroValue, typeInfo, hi, h1]
    unfold Instr.build
    rw [Sem.run_bind, hz2]
    simp only [Result.andThen]
    rw [Sem.run_bind, run_underlying hu]
    simp only [Result.andThen]
    rw [Sem.run_bind, run_sizeOf' ht.s]
    have hzc : (Value.agg #[z, z, z, z]).cells = #[z, z, z, z] := rfl
    simp [Result.andThen, Instr.fill, ca, cb, cc, cd, hzc]
theorem Ok.abuild4 [Mode] {x0 x1 x2 x3 : Operand} {a b c d z : Value} (ho : o.op = .build t #[(0, x0), (1, x1), (2, x2), (3, x3)]) (h0 : A x0 = .d (.v a)) (h1 : A x1 = .d (.v b)) (h2 : A x2 = .d (.v c)) (h3 : A x3 = .d (.v d)) (hu : P.underlying t = some (.array 4 e)) [ht : TyCell P e] [hz : TyZero P t (.agg #[z, z, z, z])]
    (ca : a.cells = #[a]) (cb : b.cells = #[b]) (cc : c.cells = #[c]) (cd : d.cells = #[d]) : OpOk P o A [] H new (.agg [.d (.v a), .d (.v b), .d (.v c), .d (.v d)]) [] :=
  .still [] fun ι F w H1 ρ _ _ hv => by
    have k0 := hv x0 (by simp [ho, Op.operands])
    have k1 := hv x1 (by simp [ho, Op.operands])
    have k2 := hv x2 (by simp [ho, Op.operands])
    have k3 := hv x3 (by simp [ho, Op.operands])
    rw [h0] at k0; rw [h1] at k1; rw [h2] at k2; rw [h3] at k3
    have j0 := k0.v_inv
    have j1 := k1.v_inv
    have j2 := k2.v_inv
    have j3 := k3.v_inv
    refine ⟨.agg #[a, b, c, d], by simp [execOp, ho, j0, j1, j2, j3, run_arrBuild (P := P) hu ca cb cc cd], ?_⟩
    exact VRs.agg (.cons (.d (.v _)) (.cons (.d (.v _)) (.cons (.d (.v _)) (.cons (.d (.v _)) .nil))))
end
end Go.Proofs.YtofakjlamoigcaaDoor
end

section
namespace Go.Proofs.YtofakjlamoigcaaDoor
set_option linter.unusedSimpArgs false
set_option linter.unusedVariables false
open Go Go.RowKit

theorem neqEd_run [Mode] (k i a b c d : Int) (w : World) : (binOp .neq 31 (.agg #[.int .i64 k, .int .i64 i, .int .i64 a, .int .i64 b, .int .i64 c, .int .i64 d]) (.agg #[.int .i64 k, .int .i64 i, .int .i64 a, .int .i64 b, .int .i64 c, .int .i64 d])).run Tryd.prog w = .ok (.bool false) w := by
  have u := Tryd.underlying2
  have hI : ∀ k : Int, (Op.equalIn 9999 2 (.int .i64 k) (.int .i64 k)).run Tryd.prog w = .ok true w := fun k => by go_simp
  have hE : (Op.equalIn 9999 29 (.agg #[.int .i64 a, .int .i64 b, .int .i64 c, .int .i64 d]) (.agg #[.int .i64 a, .int .i64 b, .int .i64 c, .int .i64 d])).run Tryd.prog w = .ok true w := by
    rw [show (9999 : Nat) = 9998 + 1 from rfl, run_equalIn_agg w 9998 29 _ _ (by kernel_rfl) (by kernel_rfl)]
    simp only [Program.fieldsOf, Tryd.underlying29]
    clear hI
    go_simp
  rw [run_neq_struct, show (10000 : Nat) = 9999 + 1 from rfl, run_equalIn_agg w 9999 31 _ _ (by kernel_rfl) (by kernel_rfl)]
  simp only [Program.fieldsOf, Tryd.underlying31]
  have hk := hI k
  have hi := hI i
  clear hI
  generalize (9999 : Nat) = N at *
  go_simp
theorem edGuard [Mode] (op : BinOp) (x y : Operand) (xs ys : Array Value) (w : World) : (eqGuard op 31 x y (.agg xs) (.agg ys)).run Tryd.prog w = .ok () w :=
  run_eqGuard_agg w op _ x y _ _ (by kernel_rfl)
theorem VR.ints6 [Mode] {ι : Iota} {F : Nat → Prop} {w : World} {k i a b c d : Int} {v : Value} (h : VR ι F w (.agg [I k, I i, I a, I b, I c, I d]) v) : v = .agg #[.int .i64 k, .int .i64 i, .int .i64 a, .int .i64 b, .int .i64 c, .int .i64 d] := by
  obtain ⟨vs, rfl, h1, h2⟩ := h.agg_inv
  match vs, h1 with
  | [v0, v1, v2, v3, v4, v5], _ =>
    have e0 := (h2 0 _ v0 rfl rfl).v_inv
    have e1 := (h2 1 _ v1 rfl rfl).v_inv
    have e2 := (h2 2 _ v2 rfl rfl).v_inv
    have e3 := (h2 3 _ v3 rfl rfl).v_inv
    have e4 := (h2 4 _ v4 rfl rfl).v_inv
    have e5 := (h2 5 _ v5 rfl rfl).v_inv
    rw [e0, e1, e2, e3, e4, e5]
section
variable {o : Oper} {A : Operand → AV} {H : Heap} {new : Nat} {t' : TypeId} {x y : Operand} {k i a b c d : Int}
theorem Ok.neqEdS [Mode] (ho : o.op = .binOp .neq 31 x y t') (hx : A x = .agg [I k, I i, I a, I b, I c, I d]) (hy : A y = .agg [I k, I i, I a, I b, I c, I d]) : OpOk Tryd.prog o A [] H new (Bo false) [] :=
  .still [] fun ι F w H1 ρ _ hs hv => by
    have h1 := hv x (by simp [ho, Op.operands])
    have h2 := hv y (by simp [ho, Op.operands])
    rw [hx] at h1; rw [hy] at h2
    refine ⟨_, ?_, .d (.v _)⟩
    simp [execOp, ho, h1.ints6, h2.ints6, edGuard .neq x y _ _ w, neqEd_run k i a b c d w]
end
end Go.Proofs.YtofakjlamoigcaaDoor
end

section
namespace Go.Proofs.YtofakjlamoigcaaDoor
open Go Go.RowKit
set_option linter.unusedSimpArgs false
set_option linter.unusedVariables false

section
variable {P : Program} {o : Oper} {A : Operand → AV} {H : Heap} {new : Nat}
end
end Go.Proofs.YtofakjlamoigcaaDoor
end

section
namespace Go.Proofs.YtofakjlamoigcaaDoor
open Go Go.RowKit
set_option linter.unusedSimpArgs false
set_option linter.unusedVariables false
section
variable {P : Program} {o : Oper} {A : Operand → AV} {H : Heap} {new : Nat} {fo : Operand} {xs : List Operand} {ts : Array TypeId} {f : FuncId} {caps args : List AV} {res res' : AV}
end
end Go.Proofs.YtofakjlamoigcaaDoor
end

section
namespace Go.Proofs.YtofakjlamoigcaaDoor
open Go Go.RowKit
set_option linter.unusedSimpArgs false
set_option linter.unusedVariables false
section
variable {P : Program} {o : Oper} {A : Operand → AV} {H : Heap} {new : Nat}
theorem OpOk.nilCheck [Mode] {x : Operand} {k i j : Nat} {l : Loc} (ho : o.op = .nilCheck x) (hx : A x = .ptr k l i j) : OpOk P o A [] H new (.ptr k l i j) [] :=
  .still [] fun ι F w H1 ρ _ _ hv => by
    have h1 := hv x (by simp [ho, Op.operands])
    rw [hx] at h1
    obtain ⟨b, sz, e, hp⟩ := h1.ptr_inv
    exact ⟨.pointer (some ⟨b, i * k + j, none⟩), by simp [execOp, ho, hp], .ptr k l i j b sz e⟩
end
section
variable {P : Program} {o : Oper} {A : Operand → AV} {H : Heap} {new : Nat} {fo : Operand} {xs : List Operand} {ts : Array TypeId} {f : FuncId} {caps args : List AV} {res res' : AV}
/-- The two places of a call. -/
def two (l l2 : Loc) : Loc → Loc := fun x => if x = ⟨0, []⟩ then l else l2
/-- A call that changes one place of the caller's, reads another, which is left then, and hands back a number. -/
theorem OpOk.callM2 [Mode] {l l2 : Loc} {k k' k2 : Nat} {rows rows' rows2 : List (List D)} {y : Value} (ho : o.op = .call { callee := .value fo, args := xs.toArray, argTypes := ts }) [FnBody P f] (hfo : A fo = .clo (.func f) [] caps)
    (hc : AC P f args (upd (upd H0 ⟨1, []⟩ (some (dobj k2 rows2))) ⟨0, []⟩ (some (dobj k rows))) res (upd H0 ⟨0, []⟩ (some (dobj k' rows')))) (hl : H l = some (dobj k rows)) (hl2 : H l2 = some (dobj k2 rows2)) (hne : l ≠ l2) (hres : res = .d (.v y))
    (hargs : ARs H (fun _ => False) (two l l2) (· ∈ [(⟨0, []⟩ : Loc), ⟨1, []⟩]) args (xs.map A ++ caps)) : OpOk P o A [l, l2] H new res [.one l2 none, .one l (some (dobj k' rows'))] := by
  have t0 : two l l2 ⟨0, []⟩ = l := if_pos rfl
  have t1 : two l l2 ⟨1, []⟩ = l2 := if_neg (by decide)
  have hfn : ∀ c, res = c → rn (emb (two l l2) [⟨0, []⟩, ⟨1, []⟩] new) c = res := fun c h => by subst h; rw [hres, rn]
  have h := OpOk.callGen (P := P) (o := o) (A := A) (H := H) (new := new) (wr := [.one l2 none, .one l (some (dobj k' rows'))]) (fun _ => False) [l, l2] (two l l2) [⟨0, []⟩, ⟨1, []⟩] (fun _ h => h.elim) (fun l' hl' => .mem (by simp at hl'; rcases hl' with rfl | rfl <;> simp [t0, t1])) ho hfo hc (fun l' => by
      by_cases e : l' = ⟨0, []⟩
      · subst e; rw [upd_same]; simp
      · rw [upd_ne e]
        by_cases e2 : l' = ⟨1, []⟩
        · subst e2; rw [upd_same]; simp
        · simp [upd_ne e2, e, e2]) (fun a h1 b h2 e => by
      simp at h1 h2
      rcases h1 with rfl | rfl <;> rcases h2 with rfl | rfl
      · rfl
      · rw [t0, t1] at e; exact absurd e hne
      · rw [t0, t1] at e; exact absurd e.symm hne
      · rfl) (fun _ _ h => h) (fun l' ob hob => by
      by_cases e : l' = ⟨0, []⟩
      · subst e; rw [upd_same] at hob; cases hob
        exact ⟨_, by rw [t0]; exact hl, ObA.data (H := H) (lent := fun _ => False) (τ := fun _ => l) (L := fun _ => True) |>.1, rfl, fun i r r' hr hr' => ⟨(ObA.data (H := H) (lent := fun _ => False) (τ := two l l2) (L := (· ∈ [(⟨0, []⟩ : Loc), ⟨1, []⟩]) )).2.2 i r r' hr hr' |>.1, (ObA.data (H := H) (lent := fun _ => False) (τ := two l l2) (L := (· ∈ [(⟨0, []⟩ : Loc), ⟨1, []⟩]) )).2.2 i r r' hr hr' |>.2⟩⟩
      · rw [upd_ne e] at hob
        by_cases e2 : l' = ⟨1, []⟩
        · subst e2; rw [upd_same] at hob; cases hob
          exact ⟨_, by rw [t1]; exact hl2, ObA.data (H := H) (lent := fun _ => False) (τ := fun _ => l) (L := fun _ => True) |>.1, rfl, fun i r r' hr hr' => ⟨(ObA.data (H := H) (lent := fun _ => False) (τ := two l l2) (L := (· ∈ [(⟨0, []⟩ : Loc), ⟨1, []⟩]) )).2.2 i r r' hr hr' |>.1, (ObA.data (H := H) (lent := fun _ => False) (τ := two l l2) (L := (· ∈ [(⟨0, []⟩ : Loc), ⟨1, []⟩]) )).2.2 i r r' hr hr' |>.2⟩⟩
        · rw [upd_ne e2] at hob; cases hob) (.inl fun _ h => h) hargs (fun H1 h1 h2 => by
      funext l'
      simp only [upds, W.app, merge, upd, List.find?_cons, List.find?_nil, t0, t1]
      by_cases e : l' = l
      · subst e
        simp only [beq_self_eq_true, if_true, Option.map_some]
        rw [rnO_dobj]
      · rw [if_neg e, show (l == l') = false by simp [Ne.symm e]]
        simp only
        by_cases e2 : l' = l2
        · subst e2
          simp
        · rw [if_neg e2, show (l2 == l') = false by simp [Ne.symm e2]]
          simp only
          obtain ⟨id', sub⟩ := l'
          by_cases e3 : id' = new
          · subst e3
            simp only [if_true]
            rw [h1]
            cases sub with
            | nil => rfl
            | cons i s =>
              simp only
              split
              · rfl
              · rename_i hm
                rw [if_neg (fun e => hm (by rw [e]; simp))]; rfl
          · simp [e3])
  rwa [hfn res rfl] at h
end
end Go.Proofs.YtofakjlamoigcaaDoor
end

section
namespace Go.Proofs.YtofakjlamoigcaaDoor
open Go Go.RowKit
set_option linter.unusedSimpArgs false
set_option linter.unusedVariables false
section
variable {P : Program} {o : Oper} {A : Operand → AV} {H : Heap} {new : Nat} {fo : Operand} {xs : List Operand} {ts : Array TypeId} {f : FuncId} {caps args : List AV} {res res' : AV}
end
section
variable {P : Program} {o : Oper} {A : Operand → AV} {H : Heap} {new : Nat}
end
end Go.Proofs.YtofakjlamoigcaaDoor
end

section
namespace Go.Proofs.YtofakjlamoigcaaDoor
open Go Go.RowKit
set_option linter.unusedSimpArgs false
set_option linter.unusedVariables false
section
variable {P : Program} {C : Ctx} {fr : List AV} {H : Heap} {n : Nat}
end
end Go.Proofs.YtofakjlamoigcaaDoor
end

section
namespace Go.Proofs.YtofakjlamoigcaaDoor
open Go Go.RowKit
set_option linter.unusedSimpArgs false
set_option linter.unusedVariables false

theorem AC.frzS [Mode] {P : Program} {f : FuncId} {args : List AV} {k k' : Nat} {rows rows' : List (List D)} {res resD : AV} {H' : Heap} (hc : AC P f args (upd H0 ⟨0, []⟩ (some (dobj k rows))) res H') (ho : H' ⟨0, []⟩ = some (dobj k' rows'))
    (hr : AR H' (fun l => l ≠ ⟨0, []⟩) id (fun l => l = ⟨0, []⟩) resD res) : AC P f args (upd H0 ⟨0, []⟩ (some (dobj k rows))) resD (upd H0 ⟨0, []⟩ (some (dobj k' rows'))) := by
  intro ι F w vs hs hi hv
  refine (hc ι F w vs hs hi hv).mono ?_
  rintro e w' ⟨v, ι', F', rfl, hres, hs', hstep, hsub, hsup, hown, hkeep⟩
  have hH : ∀ l o, upd H0 ⟨0, []⟩ (some (dobj k' rows')) l = some o → l = ⟨0, []⟩ ∧ o = dobj k' rows' := fun l o h => by
    unfold upd at h; split at h
    · rename_i he; exact ⟨he, by cases h; rfl⟩
    · cases h
  have hH2 : ∀ l, upd H0 ⟨0, []⟩ (some (dobj k' rows')) l ≠ none → l = ⟨0, []⟩ := fun l h => by
    unfold upd at h; split at h
    · rename_i he; exact he
    · exact absurd rfl h
  have hne : H' ⟨0, []⟩ ≠ none := by rw [ho]; simp
  refine ⟨v, ι', fun b => F' b ∨ ∃ l, l ≠ ⟨0, []⟩ ∧ Owned ι' H' l b, rfl, hr.vr hs' (fun l hl => by rfl) hres, ⟨fun l o h => ?_, fun l l' b s s' h h' _ _ => (hH2 l h).trans (hH2 l' h').symm, fun l b s h e hF => ?_, fun b hb => ?_, hs'.gl.mono (fun _ h => .inl h) (fun _ _ => rfl)⟩, hstep, fun b hb => .inl (hsub b hb), fun b hb => ?_, fun b ⟨l, h, s, e⟩ => ?_, hkeep⟩
  · obtain ⟨rfl, rfl⟩ := hH l o h
    exact (hs'.obj _ _ ho).mono (fun _ _ h => h) (fun _ h => .inl h) (fun _ _ => rfl) (fun _ _ _ => rfl)
  · obtain rfl := hH2 l h
    rcases hF with hF | ⟨l2, h1, h2, s2, e2⟩
    · exact hs'.notF _ b s hne e hF
    · exact h1 (hs'.inj _ _ b s2 s h2 hne e2 e)
  · rcases hb with hb | ⟨l, _, h, s, e⟩
    · exact hs'.lt b hb
    · exact hs'.blt h e
  · rcases hb with hb | ⟨l, _, h⟩
    · exact hsup b hb
    · exact .inr (hown b ⟨l, h⟩)
  · obtain rfl := hH2 l h
    exact hown b ⟨_, hne, s, e⟩
end Go.Proofs.YtofakjlamoigcaaDoor
end
