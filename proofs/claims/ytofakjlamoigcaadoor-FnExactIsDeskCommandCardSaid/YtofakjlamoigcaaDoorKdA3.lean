/-
  The abstract reading of the machine, part 3: values, operations, contracts, walks.
-/
import Derived.Test.YtofakjlamoigcaaDoorKdA2
section
namespace Go.Proofs.YtofakjlamoigcaaDoor
open Go Go.RowKit
set_option linter.unusedSimpArgs false
set_option linter.unusedVariables false

section
variable {P : Program} {o : Oper} {A : Operand → AV} {H : Heap} {new : Nat}
end
/-- A table told as data. -/
theorem AR.tab [Mode] {H : Heap} {lent : Loc → Prop} {τ : Loc → Loc} {L : Loc → Prop} {l : Loc} {k n : Nat} {R : List (List (List D))} (hm : IsM H l k R) (hn : R.length = n) (hl : lent l) (hr : ∀ i, lent (l.at i)) : AR H lent τ L (.d (.sl 1 (mRows k R))) (.own 1 l 0 n) := by
  subst hn; exact .d (hm.dr hl hr)
theorem CovL.at [Mode] {ls : List Loc} {l : Loc} (h : l ∈ ls) (i : Nat) : Cov ls (l.at i) := ⟨l, h, l.cov_at i⟩
end Go.Proofs.YtofakjlamoigcaaDoor
end

section
namespace Go.Proofs.YtofakjlamoigcaaDoor
open Go Go.RowKit
set_option linter.unusedSimpArgs false
set_option linter.unusedVariables false

section
variable {P : Program} {o : Oper} {A : Operand → AV} {H : Heap} {new : Nat}
end
end Go.Proofs.YtofakjlamoigcaaDoor
end

section
namespace Go.Proofs.YtofakjlamoigcaaDoor
open Go Go.RowKit
set_option linter.unusedSimpArgs false
set_option linter.unusedVariables false

theorem AC.frz [Mode] {P : Program} {f : FuncId} {args : List AV} {res resD : AV} {H' : Heap} (hc : AC P f args H0 res H') (hr : AR H' (fun _ => True) (fun l => l) (fun _ => False) resD res) : AC P f args H0 resD H0 := by
  intro ι F w vs hs hi hv
  refine (hc ι F w vs hs hi hv).mono ?_
  rintro e w' ⟨v, ι', F', rfl, hres, hs', hstep, hsub, hsup, hown, hkeep⟩
  refine ⟨v, fun _ => none, fun b => F' b ∨ ∃ l, True ∧ Owned ι' H' l b, rfl, hr.vr hs' (fun l hl => hl.elim) hres, ⟨fun l o h => (by cases h), fun l l' b s s' h => absurd rfl h, fun l b s h => absurd rfl h, fun b hb => ?_, hs'.gl.mono (fun _ h => .inl h) (fun _ _ => rfl)⟩, hstep, fun b hb => .inl (hsub b hb), fun b hb => ?_, fun b hb => ?_, fun l x h => absurd rfl h⟩
  · rcases hb with hb | ⟨l, _, h, s, e⟩
    · exact hs'.lt b hb
    · exact hs'.blt h e
  · rcases hb with hb | ⟨l, _, h⟩
    · exact hsup b hb
    · exact .inr (hown b ⟨l, h⟩)
  · obtain ⟨l, h, _⟩ := hb
    exact absurd rfl h
section
variable {P : Program} {o : Oper} {A : Operand → AV} {H : Heap} {new : Nat}
end
section
variable {P : Program} {o : Oper} {A : Operand → AV} {H : Heap} {new : Nat} {fo : Operand} {xs : List Operand} {ts : Array TypeId} {f : FuncId} {caps args : List AV} {res res' : AV}
end
end Go.Proofs.YtofakjlamoigcaaDoor
end

section
namespace Go.Proofs.YtofakjlamoigcaaDoor
open Go Go.RowKit
set_option linter.unusedSimpArgs false
set_option linter.unusedVariables false

/-! ### Lists reversed in place -/
/-! ### A state told anew without new names -/
theorem Le.same [Mode] {C : Ctx} {fr fr' : List AV} {H H' : Heap} {n n' : Nat} (hH : ∀ l, H l = H' l) (hok : ∀ l ob, H' l = some ob → ∀ r ∈ ob.rows, ∀ c ∈ r, Locs (fun l => H' l ≠ none) c) (hfr : ARs H (fun _ => False) id (fun l => H' l ≠ none) fr' fr) (hn : ∀ l, H' l ≠ none → l.id < n') (hD : ∀ l, C.D0 l → l.id < n') : Le C ⟨fr, H, n⟩ ⟨fr', H', n'⟩ := by
  have e : H = H' := funext hH
  subst e
  refine Le.tell (fun _ => False) id hfr (fun l ob h => ⟨ob, h, rfl, rfl, fun i r r' hr hr' => ?_⟩) (fun l l' _ _ e => e) (fun l _ h => h) hn (fun l h => ⟨hD l h, rfl⟩)
  rw [hr] at hr'; cases hr'
  refine ⟨rfl, fun j c c' hc hc' => ?_⟩
  rw [hc] at hc'; cases hc'
  exact (hok l ob h r (List.mem_of_getElem? hr) c (List.mem_of_getElem? hc)).ar
section
variable {P : Program} {o : Oper} {A : Operand → AV} {H : Heap} {new : Nat} {fo : Operand} {xs : List Operand} {ts : Array TypeId} {f : FuncId} {caps args : List AV} {res res' : AV}
end
end Go.Proofs.YtofakjlamoigcaaDoor
end

section
namespace Go.Proofs.YtofakjlamoigcaaDoor
set_option linter.unusedSimpArgs false
set_option linter.unusedVariables false
open Go Go.RowKit

abbrev Oo : AV := .dead
section
variable {P : Program} {C : Ctx} {ops : Array Oper} {Q : Exit → AS → Prop} {rest : List Oper} {fr : List AV} {H : Heap} {n t : Nat} {op : Op} {ty : TypeId} {pos : String} {after : Array Edge}
variable {n0 i : Nat} {Z : List AV → Heap → List TO → Prop} {acc : List TO}
def NA [Mode] (P : Program) (C : Ctx) (ops : Array Oper) (Q : Exit → AS → Prop) (rest : List Oper) (fr : List AV) (H : Heap) (n : Nat) : Prop := AL P C ops Q rest ⟨fr, H, n⟩
def ND [Mode] (P : Program) (ops : Array Oper) (n0 : Nat) (Z : List AV → Heap → List TO → Prop) (i : Nat) (rest : List Oper) (fr : List AV) (H : Heap) (acc : List TO) : Prop := AD P ops n0 Z i rest fr H acc
def NC [Mode] (P : Program) (C : Ctx) (ops : Array Oper) (Q : Exit → AS → Prop) (rest : List Oper) (fr : List AV) (H : Heap) (n : Nat) : Prop := AL P C ops Q rest ⟨fr, H, n⟩
def NE [Mode] (P : Program) (ops : Array Oper) (n0 : Nat) (Z : List AV → Heap → List TO → Prop) (i : Nat) (rest : List Oper) (fr : List AV) (H : Heap) (acc : List TO) : Prop := AD P ops n0 Z i rest fr H acc
theorem Ba [Mode] {reads : List Loc} {val : AV} {wr : List W} (h1 : OpOk P ⟨some t, op, ty, pos, after, none⟩ (evalF fr) reads H n val wr) (h2 : NA P C ops Q rest (fr.set t val) (upds H wr) (n + 1)) : AL P C ops Q (⟨some t, op, ty, pos, after, none⟩ :: rest) ⟨fr, H, n⟩ := AL.st h1 rfl rfl rfl h2
theorem Bb [Mode] {reads : List Loc} {val : AV} {wr : List W} {g : Nat} {want : Bool} {u : Nat} (hg : (ops[g]?).bind (·.dst) = some u) (hf : fr[u]? = some (Bo want)) (h1 : OpOk P ⟨some t, op, ty, pos, after, some (g, want)⟩ (evalF fr) reads H n val wr) (h2 : NA P C ops Q rest (fr.set t val) (upds H wr) (n + 1)) :
    AL P C ops Q (⟨some t, op, ty, pos, after, some (g, want)⟩ :: rest) ⟨fr, H, n⟩ := AL.on hg hf h1 rfl rfl rfl h2
theorem Bc [Mode] {new : Nat} {reads : List Loc} {val : AV} {wr : List W} (hnew : n0 + i = new) (h1 : OpOk P ⟨some t, op, ty, pos, after, none⟩ (evalF fr) reads H new val wr) (h2 : ND P ops n0 Z (i + 1) rest (fr.set t val) (upds H wr) (acc ++ [⟨i, ⟨some t, op, ty, pos, after, none⟩, ⟨val, reads, wr, true⟩⟩])) : AD P ops n0 Z i (⟨some t, op, ty, pos, after, none⟩ :: rest) fr H acc := AD.st hnew h1 rfl rfl rfl h2
theorem Bd [Mode] {new : Nat} {reads : List Loc} {val : AV} {wr : List W} {g : Nat} {want : Bool} {u : Nat} (hg : (ops[g]?).bind (·.dst) = some u) (hf : fr[u]? = some (Bo want)) (hnew : n0 + i = new) (h1 : OpOk P ⟨some t, op, ty, pos, after, some (g, want)⟩ (evalF fr) reads H new val wr) (h2 : ND P ops n0 Z (i + 1) rest (fr.set t val) (upds H wr) (acc ++ [⟨i, ⟨some t, op, ty, pos, after, some (g, want)⟩, ⟨val, reads, wr, true⟩⟩])) : AD P ops n0 Z i (⟨some t, op, ty, pos, after, some (g, want)⟩ :: rest) fr H acc := AD.on hg hf hnew h1 rfl rfl rfl h2
theorem Ca [Mode] {reads : List Loc} {val : AV} {wr : List W} (h1 : OpOk P ⟨none, op, ty, pos, after, none⟩ (evalF fr) reads H n val wr) (h2 : NC P C ops Q rest fr (upds H wr) (n + 1)) : AL P C ops Q (⟨none, op, ty, pos, after, none⟩ :: rest) ⟨fr, H, n⟩ := AL.st0 h1 rfl rfl h2
theorem Cb [Mode] {new : Nat} {reads : List Loc} {val : AV} {wr : List W} (hnew : n0 + i = new) (h1 : OpOk P ⟨none, op, ty, pos, after, none⟩ (evalF fr) reads H new val wr) (h2 : NE P ops n0 Z (i + 1) rest fr (upds H wr) (acc ++ [⟨i, ⟨none, op, ty, pos, after, none⟩, ⟨val, reads, wr, true⟩⟩])) : AD P ops n0 Z i (⟨none, op, ty, pos, after, none⟩ :: rest) fr H acc := AD.st0 hnew h1 rfl rfl h2
theorem Na [Mode] {val : AV} {wr : List W} {fr' : List AV} {H' : Heap} {n' : Nat} (h : AL P C ops Q rest ⟨fr', H', n'⟩) (e1 : fr.set t val = fr' := by simp only [List.set_cons_succ, List.set_cons_zero, List.take_succ_cons, List.drop_succ_cons, List.take_zero, List.drop_zero, List.take_nil, List.drop_nil, List.map_cons, List.map_nil]; exact rfl) (e2 : upds H wr = H' := by first | exact updsE | exact rfl) (e3 : n + 1 = n' := by first | (simp only [Nat.reduceAdd]; exact rfl) | exact rfl) : NA P C ops Q rest (fr.set t val) (upds H wr) (n + 1) := by subst e1 e2 e3; exact h
theorem Nb [Mode] {val : AV} {wr : List W} {fr' : List AV} {H' : Heap} {i' : Nat} (h : AD P ops n0 Z i' rest fr' H' acc) (e1 : fr.set t val = fr' := by simp only [List.set_cons_succ, List.set_cons_zero, List.take_succ_cons, List.drop_succ_cons, List.take_zero, List.drop_zero, List.take_nil, List.drop_nil, List.map_cons, List.map_nil]; exact rfl) (e2 : upds H wr = H' := by first | exact updsE | exact rfl) (e3 : i + 1 = i' := by first | (simp only [Nat.reduceAdd]; exact rfl) | exact rfl) : ND P ops n0 Z (i + 1) rest (fr.set t val) (upds H wr) acc := by subst e1 e2 e3; exact h
theorem Nc [Mode] {wr : List W} {H' : Heap} {n' : Nat} (h : AL P C ops Q rest ⟨fr, H', n'⟩) (e2 : upds H wr = H' := by exact rfl) (e3 : n + 1 = n' := by first | (simp only [Nat.reduceAdd]; exact rfl) | exact rfl) : NC P C ops Q rest fr (upds H wr) (n + 1) := by subst e2 e3; exact h
theorem Nd [Mode] {wr : List W} {H' : Heap} {i' : Nat} (h : AD P ops n0 Z i' rest fr H' acc) (e2 : upds H wr = H' := by exact rfl) (e3 : i + 1 = i' := by first | (simp only [Nat.reduceAdd]; exact rfl) | exact rfl) : NE P ops n0 Z (i + 1) rest fr (upds H wr) acc := by subst e2 e3; exact h
theorem Oa [Mode] {fr' : List AV} {n' : Nat} {g : Nat} {want : Bool} {v : Value} {u : Nat} (h2 : AL P C ops Q rest ⟨fr', H, n'⟩) (hg : (ops[g]?).bind (·.dst) = some u := by exact rfl) (hf : fr[u]? = some (.d (.v v)) := by exact rfl) (hb : (boolV v == some want) = false := by exact rfl) (hfr : fr.set t (.d (.v undef)) = fr' := by simp only [List.set_cons_succ, List.set_cons_zero, List.take_succ_cons, List.drop_succ_cons, List.take_zero, List.drop_zero, List.take_nil, List.drop_nil, List.map_cons, List.map_nil]; exact rfl) (hn : n + 1 = n' := by first | (simp only [Nat.reduceAdd]; exact rfl) | exact rfl) :
    AL P C ops Q (⟨some t, op, ty, pos, after, some (g, want)⟩ :: rest) ⟨fr, H, n⟩ := AL.off hg hf hb hfr hn h2
theorem Ob [Mode] {fr' : List AV} {i' : Nat} {g : Nat} {want : Bool} {v : Value} {u : Nat} (h2 : AD P ops n0 Z i' rest fr' H (acc ++ [⟨i, ⟨some t, op, ty, pos, after, some (g, want)⟩, ⟨.d (.v undef), [], [], false⟩⟩])) (hg : (ops[g]?).bind (·.dst) = some u := by exact rfl) (hf : fr[u]? = some (.d (.v v)) := by exact rfl) (hb : (boolV v == some want) = false := by exact rfl) (hfr : fr.set t (.d (.v undef)) = fr' := by simp only [List.set_cons_succ, List.set_cons_zero, List.take_succ_cons, List.drop_succ_cons, List.take_zero, List.drop_zero, List.take_nil, List.drop_nil, List.map_cons, List.map_nil]; exact rfl) (hi : i + 1 = i' := by first | (simp only [Nat.reduceAdd]; exact rfl) | exact rfl) :
    AD P ops n0 Z i (⟨some t, op, ty, pos, after, some (g, want)⟩ :: rest) fr H acc := AD.off hg hf hb hfr hi h2
theorem Ga [Mode] {g : Nat} {want : Bool} {u : Nat} {dst : Option Tmp} {p : Prop} [Decidable p] (h1 : p → AL P C ops Q (⟨dst, op, ty, pos, after, some (g, want)⟩ :: rest) ⟨fr.set u (Bo true), H, n⟩) (h0 : ¬ p → AL P C ops Q (⟨dst, op, ty, pos, after, some (g, want)⟩ :: rest) ⟨fr.set u (Bo false), H, n⟩) (hg : (ops[g]?).bind (·.dst) = some u := by exact rfl) (hf : fr[u]? = some (Bo (decide p)) := by exact rfl) :
    AL P C ops Q (⟨dst, op, ty, pos, after, some (g, want)⟩ :: rest) ⟨fr, H, n⟩ := AL.gsplit hg hf h1 h0
theorem Gd [Mode] {g : Nat} {want : Bool} {u : Nat} {dst : Option Tmp} {p : Prop} [Decidable p] (h1 : p → AD P ops n0 Z i (⟨dst, op, ty, pos, after, some (g, want)⟩ :: rest) (fr.set u (Bo true)) H acc) (h0 : ¬ p → AD P ops n0 Z i (⟨dst, op, ty, pos, after, some (g, want)⟩ :: rest) (fr.set u (Bo false)) H acc) (hg : (ops[g]?).bind (·.dst) = some u := by exact rfl) (hf : fr[u]? = some (Bo (decide p)) := by exact rfl) :
    AD P ops n0 Z i (⟨dst, op, ty, pos, after, some (g, want)⟩ :: rest) fr H acc := AD.gsplit hg hf h1 h0
attribute [irreducible] NA ND NC NE
end
section
variable {P : Program} {C : Ctx} {Q : Exit → AS → Prop} {s : AS} {x y : Code} {c : Operand}
theorem Wa [Mode] (h1 : AW P C x Q s) (hc : evalF s.fr c = Bo true := by exact rfl) : AW P C (.cond c x y) Q s := AW.condT hc h1
theorem Wb [Mode] (h1 : AW P C y Q s) (hc : evalF s.fr c = Bo false := by exact rfl) : AW P C (.cond c x y) Q s := AW.condF hc h1
end
section
variable {P : Program} {C : Ctx} {Q : Exit → AS → Prop} {K : AS → Prop} {ops : Array Oper} {fr fr' : List AV} {H : Heap} {n : Nat} {s : AS} {id id' : Nat} {x y : Code}
theorem Fa [Mode] {n0 i n' : Nat} {acc : List TO} (h : Q .normal ⟨fr', H, n'⟩) (hn : n = n' := by simp only [List.length_cons, List.length_nil, Nat.reduceAdd]; rfl) (hfr : fr = fr' := by exact rfl) (hp : allPairs ops acc = true := by kernel_rfl) : AD P ops n0 (fun fr H tr => allPairs ops tr = true ∧ Q .normal ⟨fr, H, n⟩) i [] fr H acc := AD.fin hn hfr hp h
theorem Fb [Mode] {l : List Oper} (h : AD P l.toArray n (fun fr H tr => allPairs l.toArray tr = true ∧ Q .normal ⟨fr, H, n + l.length⟩) 0 l fr H []) (hm : P.follows .mixedOrders = true := by exact mixedA) (ht : textOk l.toArray = true := by kernel_rfl) : AW P C (.region id l.toArray true) Q ⟨fr, H, n⟩ := AW.dr hm ht h
theorem Fc [Mode] (h : Q (.exit id') s) (hne : id' ≠ id := by decide) : blockQ id Q (.exit id') s := blockY hne h
theorem Qa [Mode] (h : Q .normal s) : AL P C ops Q [] s := AL.nil h
theorem Qb [Mode] (h : K s) : thenQ K Q .normal s := h
theorem Qc [Mode] (h : AW P C x (thenQ (AW P C y Q) Q) s) : AW P C (.seq x y) Q s := AW.seq h
theorem Qd [Mode] {l : List Oper} (h : AL P C l.toArray Q l ⟨fr, H, n⟩) : AW P C (.region id l.toArray false) Q ⟨fr, H, n⟩ := AW.reg h
theorem Qe [Mode] (h : AW P C x (blockQ id Q) s) : AW P C (.block id x) Q s := AW.block h
theorem Qf [Mode] (h : Q .ret s) : AW P C .ret Q s := AW.ret h
theorem Qg [Mode] (h : Q (.exit id) s) : AW P C (.exit id) Q s := AW.exit h
theorem Qh [Mode] (h : Q .normal s) : AW P C .skip Q s := AW.skip h
theorem Qi [Mode] (h : Q .ret s) : thenQ K Q .ret s := h
theorem Xa [Mode] (h : Q (.exit id) s) : thenQ K Q (.exit id) s := h
theorem Xb [Mode] (h : Q .normal s) : blockQ id Q .normal s := h
theorem Xc [Mode] (h : Q .ret s) : blockQ id Q .ret s := h
theorem Xd [Mode] (h : Q .normal s) : blockQ id Q (.exit id) s := blockX h
end
/-! Steps without a choice, as one; steps that split, as one. -/
theorem Sx [Mode] {p q : Prop} (h : q) (e : q → p := by first | exact fun h => Na h | exact fun h => Nb h | exact fun h => Nc h | exact fun h => Nd h | exact fun h => Oa h | exact fun h => Ob h | exact Qa | exact Qb | exact Qc | exact Qd | exact Qe | exact fun h => Fa h | exact fun h => Fb h | exact fun h => Wa h | exact fun h => Wb h | exact Qf | exact Qg | exact Qh | exact Qi | exact Xa | exact Xb | exact Xc | exact Xd | exact fun h => Fc h) : p := e h
theorem Sy [Mode] {p q r a b : Prop} (h1 : a → q) (h0 : b → r) (e : (a → q) → (b → r) → p := by first | exact fun h1 h0 => Ga h1 h0 | exact fun h1 h0 => Gd h1 h0 | exact fun h1 h0 => AW.ite rfl h1 h0) : p := e h1 h0
theorem Sz [Mode] {p q r a b : Prop} (h1 : a → q) (h0 : b → r) (e : (a → q) → (b → r) → p := by first | exact fun h1 h0 => AL.gsplitB rfl rfl h1 h0 | exact fun h1 h0 => AD.gsplitB rfl rfl h1 h0 | exact fun h1 h0 => AW.cond _ rfl h1 h0) : p := e h1 h0
/-! Calls. -/
section
variable {P : Program} {o : Oper} {A : Operand → AV} {H : Heap} {new : Nat} {fo : Operand} {xs : List Operand} {ts : Array TypeId} {f : FuncId} {caps args : List AV} {res res' : AV} {lent : List Loc} {cs cs' vs vs' : List AV}
theorem Kz [Mode] (ho : o.op = .call { callee := .value fo, args := xs.toArray, argTypes := ts }) [FnBody P f] (hfo : A fo = .clo (.func f) [] caps) (hc : AC P f args H0 res H0) (hargs : ARs H (Cov []) id (fun _ => False) args (xs.map A ++ caps)) (hrn : ∀ g, rn g res = res := by intro _; simp [Go.Proofs.YtofakjlamoigcaaDoor.rn]) : OpOk P o A [] H new res [] := OpOk.call0 [] ho hfo hc (.inl rfl) hrn hargs
theorem An [Mode] {l : Loc → Prop} {τ : Loc → Loc} {L : Loc → Prop} : ARs H l τ L [] [] := ARs.nil
theorem Ad [Mode] {l : Loc → Prop} {τ : Loc → Loc} {L : Loc → Prop} {x : D} (h : ARs H l τ L cs vs) : ARs H l τ L (.d x :: cs) (.d x :: vs) := ARs.cons (AR.dd x) h
end
/-! States told anew. -/
theorem Lc [Mode] {p : Prop} (h : p := by first | exact trivial | exact ARs.nil | exact AR.dead _ | exact AR.dd _ | exact AR.i (by (try dsimp only); omega) | exact AR.ptr _ _ _ _ (by first | (simp [heapL, upd]; done) | (simp [heapX, upd]; done) | (simp [heapX, heapM, upd, matG, Loc.cov, Loc.at]; done) | (simp [heapX, heapM, upd, matG, Loc.cov, Loc.at, tabF_len, TR_len, rowF_len, IR_len]; done) | (simp [heapX, heapM, upd, matG, Loc.cov, Loc.at]; omega) | (simp [heapX, heapM, upd, matG, Loc.cov, Loc.at, tabF_len, TR_len, rowF_len, IR_len]; omega)) | exact AR.own _ _ _ _ (by first | (simp [heapL, upd]; done) | (simp [heapX, upd]; done) | (simp [heapX, heapM, upd, matG, Loc.cov, Loc.at]; done) | (simp [heapX, heapM, upd, matG, Loc.cov, Loc.at, tabF_len, TR_len, rowF_len, IR_len]; done) | (simp [heapX, heapM, upd, matG, Loc.cov, Loc.at]; omega) | (simp [heapX, heapM, upd, matG, Loc.cov, Loc.at, tabF_len, TR_len, rowF_len, IR_len]; omega)) | exact ObA.data | exact AR.clo' ARs.nil ARs.nil | exact AR.clo' ARs.nil (hca _ _) | exact AR.whole rfl (by simp) (by first | rfl | assumption | (simp; done)) |
  exact AR.tab ⟨rfl, fun i x hx => congrArg (Option.map (dobj 1)) hx⟩ (by first | rfl | assumption | (simp; done) | (simp; omega)) (by simp [Cov, Loc.cov]; done) (by intro i; simp [Cov, Loc.cov, Loc.at]; done) | exact AR.d (DRel.nil _)) : p := h
section
variable {H : Heap} {lent : Loc → Prop} {τ : Loc → Loc} {L : Loc → Prop}
theorem Lo [Mode] {k off n n' : Nat} {l : Loc} (hn : n = n') (h : L l := by first | (simp [heapL, upd]; done) | (simp [heapX, upd]; done) | (simp [heapX, heapM, upd, matG, Loc.cov, Loc.at]; done) | (simp [heapX, heapM, upd, matG, Loc.cov, Loc.at, tabF_len, TR_len, rowF_len, IR_len]; done) | (simp [heapX, heapM, upd, matG, Loc.cov, Loc.at]; omega) | (simp [heapX, heapM, upd, matG, Loc.cov, Loc.at, tabF_len, TR_len, rowF_len, IR_len]; omega)) : AR H lent τ L (.own k l off n) (.own k (τ l) off n') := AR.ownE k l off hn h
theorem La [Mode] {c c' : AV} {cs cs' : List AV} (h : AR H lent τ L c c') (h' : ARs H lent τ L cs cs') : ARs H lent τ L (c :: cs) (c' :: cs') := ARs.cons h h'
end
theorem Lx [Mode] {p q : Prop} (h : q) (e : q → p := by first | exact fun h => ObA.box h | exact fun h => ObA.frE h | exact fun h => ObA.dataE h | exact fun h => ARs.agg h | exact fun h => ARs.tup h | exact fun h => AR.b h | exact fun h => AR.iE h | exact fun h => AR.e h | exact fun h => AR.clo' ARs.nil h) : p := e h
theorem Ld [Mode] {p : Prop} (h : p := by first | exact fun l h => absurd h (hD l) | (intro l h; rcases hD l h with rfl; simp [tauL]; done) | (intro l h; rcases hD l h with rfl | rfl <;> simp [tauL]; done) | (intro l h; rcases hD l h with rfl | rfl | rfl <;> simp [tauL]; done) | (simp [AllP]; done) | (intro l h; rcases hD l h with rfl; simp [tauX, tauM, Loc.cov]; done) | (intro l h; rcases hD l h with rfl | rfl <;> simp [tauX, tauM, Loc.cov]; done) | (intro l h; rcases hD l h with rfl | ⟨i, rfl⟩ <;> simp [tauX, tauM, Loc.cov, Loc.at, MI.row]; done)) : p := h
section
variable {P : Program} {C : Ctx} {fr : List AV} {H : Heap} {n : Nat}
theorem Ya [Mode] {fn : Func} {res res' c : AV} {H' : Heap} {e : Exit} {rv : ResultVar} (hle : Le C ⟨[res'], H, n⟩ ⟨[res], H', 1000⟩) (he : e = .ret ∨ e = .normal := by first | exact .inl rfl | exact .inr rfl) (hr : fn.results.toList = [rv] := by exact rfl) (h : ResOf P fr H rv c := by first | exact rT rfl | exact rCA rfl rfl rfl rfl (by simp) | exact rCC rfl rfl rfl rfl rfl) (hc : c = res' := by first | (simp only [List.take_succ_cons, List.take_zero, List.take_nil, List.drop_succ_cons, List.drop_zero, List.drop_nil, AV.cells]; exact rfl) | exact rfl) : EndQ P C fn res H' e ⟨fr, H, n⟩ := end1 he hr h hc hle
theorem Yb [Mode] {fn : Func} {res res' c c' : AV} {H' : Heap} {e : Exit} {rv rv' : ResultVar} (hle : Le C ⟨[res'], H, n⟩ ⟨[res], H', 1000⟩) (he : e = .ret ∨ e = .normal := by first | exact .inl rfl | exact .inr rfl) (hr : fn.results.toList = [rv, rv'] := by exact rfl) (h : ResOf P fr H rv c := by first | exact rT rfl | exact rCA rfl rfl rfl rfl (by simp) | exact rCC rfl rfl rfl rfl rfl) (h' : ResOf P fr H rv' c' := by first | exact rT rfl | exact rCA rfl rfl rfl rfl (by simp) | exact rCC rfl rfl rfl rfl rfl) (hc : .tup [c, c'] = res' := by first | (simp only [List.take_succ_cons, List.take_zero, List.take_nil, List.drop_succ_cons, List.drop_zero, List.drop_nil, AV.cells]; exact rfl) | exact rfl) : EndQ P C fn res H' e ⟨fr, H, n⟩ := end2 he hr h h' hc hle
theorem Yc [Mode] {fn : Func} {res res' c c' c'' : AV} {H' : Heap} {e : Exit} {rv rv' rv'' : ResultVar} (hle : Le C ⟨[res'], H, n⟩ ⟨[res], H', 1000⟩) (he : e = .ret ∨ e = .normal := by first | exact .inl rfl | exact .inr rfl) (hr : fn.results.toList = [rv, rv', rv''] := by exact rfl) (h : ResOf P fr H rv c := by first | exact rT rfl | exact rCA rfl rfl rfl rfl (by simp) | exact rCC rfl rfl rfl rfl rfl) (h' : ResOf P fr H rv' c' := by first | exact rT rfl | exact rCA rfl rfl rfl rfl (by simp) | exact rCC rfl rfl rfl rfl rfl) (h'' : ResOf P fr H rv'' c'' := by first | exact rT rfl | exact rCA rfl rfl rfl rfl (by simp) | exact rCC rfl rfl rfl rfl rfl) (hc : .tup [c, c', c''] = res' := by first | (simp only [List.take_succ_cons, List.take_zero, List.take_nil, List.drop_succ_cons, List.drop_zero, List.drop_nil, AV.cells]; exact rfl) | exact rfl) : EndQ P C fn res H' e ⟨fr, H, n⟩ := end3 he hr h h' h'' hc hle
end
end Go.Proofs.YtofakjlamoigcaaDoor
end

section
namespace Go.Proofs.YtofakjlamoigcaaDoor
open Go Go.RowKit
set_option linter.unusedSimpArgs false
set_option linter.unusedVariables false

section
variable {P : Program} {o : Oper} {A : Operand → AV} {H : Heap} {new : Nat}
end
theorem FreeF.cons [Mode] {a : AV} {r : List AV} (h : FreeF a) (h' : ∀ c ∈ r, FreeF c) : ∀ c ∈ a :: r, FreeF c := fun c hc => by
  rcases List.mem_cons.1 hc with rfl | hc
  · exact h
  · exact h' c hc
theorem FreeF.nil [Mode] : ∀ c ∈ ([] : List AV), FreeF c := fun c hc => by cases hc
end Go.Proofs.YtofakjlamoigcaaDoor
end

section
namespace Go.Proofs.YtofakjlamoigcaaDoor
open Go Go.RowKit
set_option linter.unusedSimpArgs false
set_option linter.unusedVariables false

section
variable {P : Program} {o : Oper} {A : Operand → AV} {H : Heap} {new : Nat} {t e : TypeId} {x y : Operand}
end
end Go.Proofs.YtofakjlamoigcaaDoor
end
