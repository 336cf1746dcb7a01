/-
  The abstract reading, made ready for walks: one lemma a kind of operation, its conditions in the order in which a walk meets them.
-/
import Derived.Test.YtemomjcgkpinfaaA10
namespace Go.Proofs.Ytemomjcgkpinfaa
open Go Go.RowKit
set_option linter.unusedSimpArgs false
set_option linter.unusedVariables false

abbrev I (n : Int) : AV := .d (.v (.int .i64 n))
abbrev Bo (b : Bool) : AV := .d (.v (.bool b))
abbrev DI (n : Int) : D := .v (.int .i64 n)

/-! ### Lists of operations, step by step -/
section
variable {P : Program} {C : Ctx} {ops : Array Oper} {Q : Exit → AS → Prop} {rest : List Oper} {fr : List AV} {H : Heap} {n t : Nat} {op : Op} {ty : TypeId} {pos : String} {after : Array Edge}
theorem AL.st {fr' : List AV} {H' : Heap} {n' : Nat} {reads : List Loc} {val : AV} {wr : List W} (h1 : OpOk P ⟨some t, op, ty, pos, after, none⟩ (evalF fr) reads H n val wr) (hfr : fr.set t val = fr') (hH : upds H wr = H') (hn : n + 1 = n') (h2 : AL P C ops Q rest ⟨fr', H', n'⟩) : AL P C ops Q (⟨some t, op, ty, pos, after, none⟩ :: rest) ⟨fr, H, n⟩ := by (try subst hfr); (try subst hH); subst hn; exact AL.op rfl h1 h2
theorem AL.st0 {H' : Heap} {n' : Nat} {reads : List Loc} {val : AV} {wr : List W} (h1 : OpOk P ⟨none, op, ty, pos, after, none⟩ (evalF fr) reads H n val wr) (hH : upds H wr = H') (hn : n + 1 = n') (h2 : AL P C ops Q rest ⟨fr, H', n'⟩) : AL P C ops Q (⟨none, op, ty, pos, after, none⟩ :: rest) ⟨fr, H, n⟩ := by (try subst hfr); (try subst hH); subst hn; exact AL.op rfl h1 h2
theorem AL.stP {fr' : List AV} {n' : Nat} {reads : List Loc} {val : AV} (h1 : OpOk P ⟨some t, op, ty, pos, after, none⟩ (evalF fr) reads H n val []) (hfr : fr.set t val = fr') (hn : n + 1 = n') (h2 : AL P C ops Q rest ⟨fr', H, n'⟩) : AL P C ops Q (⟨some t, op, ty, pos, after, none⟩ :: rest) ⟨fr, H, n⟩ := by (try subst hfr); (try subst hH); subst hn; exact AL.op rfl h1 h2
theorem AL.onP {fr' : List AV} {n' : Nat} {reads : List Loc} {val : AV} {g : Nat} {want : Bool} {u : Nat} (hg : (ops[g]?).bind (·.dst) = some u) (hf : fr[u]? = some (Bo want)) (h1 : OpOk P ⟨some t, op, ty, pos, after, some (g, want)⟩ (evalF fr) reads H n val []) (hfr : fr.set t val = fr') (hn : n + 1 = n') (h2 : AL P C ops Q rest ⟨fr', H, n'⟩) : AL P C ops Q (⟨some t, op, ty, pos, after, some (g, want)⟩ :: rest) ⟨fr, H, n⟩ :=
  by (try subst hfr); (try subst hH); subst hn; exact AL.cons true ⟨u, want, hg, hf, by simp⟩ (fun _ => ⟨h1, h2⟩) (fun h => by cases h)
theorem AL.on {fr' : List AV} {H' : Heap} {n' : Nat} {reads : List Loc} {val : AV} {wr : List W} {g : Nat} {want : Bool} {u : Nat} (hg : (ops[g]?).bind (·.dst) = some u) (hf : fr[u]? = some (Bo want)) (h1 : OpOk P ⟨some t, op, ty, pos, after, some (g, want)⟩ (evalF fr) reads H n val wr) (hfr : fr.set t val = fr') (hH : upds H wr = H') (hn : n + 1 = n') (h2 : AL P C ops Q rest ⟨fr', H', n'⟩) : AL P C ops Q (⟨some t, op, ty, pos, after, some (g, want)⟩ :: rest) ⟨fr, H, n⟩ :=
  by (try subst hfr); (try subst hH); subst hn; exact AL.cons true ⟨u, want, hg, hf, by simp⟩ (fun _ => ⟨h1, h2⟩) (fun h => by cases h)
theorem AL.off {fr' : List AV} {n' : Nat} {g : Nat} {want b : Bool} {u : Nat} (hg : (ops[g]?).bind (·.dst) = some u) (hf : fr[u]? = some (Bo b)) (hb : b = !want) (hfr : fr.set t (.d (.v undef)) = fr') (hn : n + 1 = n') (h2 : AL P C ops Q rest ⟨fr', H, n'⟩) : AL P C ops Q (⟨some t, op, ty, pos, after, some (g, want)⟩ :: rest) ⟨fr, H, n⟩ :=
  by subst hfr; subst hn; exact AL.cons (reads := []) (val := .dead) (wr := []) false ⟨u, b, hg, hf, by subst hb; cases want <;> rfl⟩ (fun h => by cases h) (fun _ => h2)
theorem set_self {fr : List AV} {u : Nat} {x : AV} (h : fr[u]? = some x) : fr.set u x = fr := by
  apply List.ext_getElem?
  intro i
  rw [List.getElem?_set]
  split
  · rename_i e; subst e
    split
    · exact h.symm
    · rename_i h2; rw [List.getElem?_eq_none (by omega)]
  · rfl
theorem AL.split {o : Oper} (u : Nat) {b : Bool} (hf : fr[u]? = some (Bo b)) (h1 : b = true → AL P C ops Q (o :: rest) ⟨fr.set u (Bo true), H, n⟩) (h0 : b = false → AL P C ops Q (o :: rest) ⟨fr.set u (Bo false), H, n⟩) : AL P C ops Q (o :: rest) ⟨fr, H, n⟩ := by
  cases b
  · have := h0 rfl; rwa [set_self hf] at this
  · have := h1 rfl; rwa [set_self hf] at this
theorem AL.splitP {o : Oper} (u : Nat) {p : Prop} [Decidable p] (hf : fr[u]? = some (Bo (decide p))) (h1 : p → AL P C ops Q (o :: rest) ⟨fr.set u (Bo true), H, n⟩) (h0 : ¬ p → AL P C ops Q (o :: rest) ⟨fr.set u (Bo false), H, n⟩) : AL P C ops Q (o :: rest) ⟨fr, H, n⟩ :=
  AL.split u hf (fun h => h1 (of_decide_eq_true h)) (fun h => h0 (of_decide_eq_false h))
theorem AL.gsplit {g : Nat} {want : Bool} {u : Nat} {dst : Option Tmp} {p : Prop} [Decidable p] (hg : (ops[g]?).bind (·.dst) = some u) (hf : fr[u]? = some (Bo (decide p))) (h1 : p → AL P C ops Q (⟨dst, op, ty, pos, after, some (g, want)⟩ :: rest) ⟨fr.set u (Bo true), H, n⟩) (h0 : ¬ p → AL P C ops Q (⟨dst, op, ty, pos, after, some (g, want)⟩ :: rest) ⟨fr.set u (Bo false), H, n⟩) : AL P C ops Q (⟨dst, op, ty, pos, after, some (g, want)⟩ :: rest) ⟨fr, H, n⟩ := AL.splitP u hf h1 h0
theorem AL.gsplitB {g : Nat} {want : Bool} {u : Nat} {dst : Option Tmp} {b : Bool} (hg : (ops[g]?).bind (·.dst) = some u) (hf : fr[u]? = some (Bo b)) (h1 : b = true → AL P C ops Q (⟨dst, op, ty, pos, after, some (g, want)⟩ :: rest) ⟨fr.set u (Bo true), H, n⟩) (h0 : b = false → AL P C ops Q (⟨dst, op, ty, pos, after, some (g, want)⟩ :: rest) ⟨fr.set u (Bo false), H, n⟩) : AL P C ops Q (⟨dst, op, ty, pos, after, some (g, want)⟩ :: rest) ⟨fr, H, n⟩ := AL.split u hf h1 h0
/-! Regions in whatever order. -/
variable {n0 i : Nat} {Z : List AV → Heap → List TO → Prop} {acc : List TO}
theorem AD.nil (h : Z fr H acc) : AD P ops n0 Z i [] fr H acc := h
theorem AD.st {fr' : List AV} {H' : Heap} {i' new : Nat} {reads : List Loc} {val : AV} {wr : List W} (hnew : n0 + i = new) (h1 : OpOk P ⟨some t, op, ty, pos, after, none⟩ (evalF fr) reads H new val wr) (hfr : fr.set t val = fr') (hH : upds H wr = H') (hi : i + 1 = i') (h2 : AD P ops n0 Z i' rest fr' H' (acc ++ [⟨i, ⟨some t, op, ty, pos, after, none⟩, ⟨val, reads, wr, true⟩⟩])) : AD P ops n0 Z i (⟨some t, op, ty, pos, after, none⟩ :: rest) fr H acc := by
  (try subst hnew); (try subst hfr); (try subst hH); subst hi
  exact ⟨⟨val, reads, wr, true⟩, ⟨rfl, fun _ => h1, fun h => by cases h⟩, h2⟩
theorem AD.st0 {H' : Heap} {i' new : Nat} {reads : List Loc} {val : AV} {wr : List W} (hnew : n0 + i = new) (h1 : OpOk P ⟨none, op, ty, pos, after, none⟩ (evalF fr) reads H new val wr) (hH : upds H wr = H') (hi : i + 1 = i') (h2 : AD P ops n0 Z i' rest fr H' (acc ++ [⟨i, ⟨none, op, ty, pos, after, none⟩, ⟨val, reads, wr, true⟩⟩])) : AD P ops n0 Z i (⟨none, op, ty, pos, after, none⟩ :: rest) fr H acc := by
  (try subst hnew); (try subst hfr); (try subst hH); subst hi
  exact ⟨⟨val, reads, wr, true⟩, ⟨rfl, fun _ => h1, fun h => by cases h⟩, h2⟩
theorem AD.stP {fr' : List AV} {i' new : Nat} {reads : List Loc} {val : AV} (hnew : n0 + i = new) (h1 : OpOk P ⟨some t, op, ty, pos, after, none⟩ (evalF fr) reads H new val []) (hfr : fr.set t val = fr') (hi : i + 1 = i') (h2 : AD P ops n0 Z i' rest fr' H (acc ++ [⟨i, ⟨some t, op, ty, pos, after, none⟩, ⟨val, reads, [], true⟩⟩])) : AD P ops n0 Z i (⟨some t, op, ty, pos, after, none⟩ :: rest) fr H acc := by
  (try subst hnew); (try subst hfr); (try subst hH); subst hi
  exact ⟨⟨val, reads, [], true⟩, ⟨rfl, fun _ => h1, fun h => by cases h⟩, h2⟩
theorem AD.onP {fr' : List AV} {i' new : Nat} {reads : List Loc} {val : AV} {g : Nat} {want : Bool} {u : Nat} (hg : (ops[g]?).bind (·.dst) = some u) (hf : fr[u]? = some (Bo want)) (hnew : n0 + i = new) (h1 : OpOk P ⟨some t, op, ty, pos, after, some (g, want)⟩ (evalF fr) reads H new val []) (hfr : fr.set t val = fr') (hi : i + 1 = i') (h2 : AD P ops n0 Z i' rest fr' H (acc ++ [⟨i, ⟨some t, op, ty, pos, after, some (g, want)⟩, ⟨val, reads, [], true⟩⟩])) : AD P ops n0 Z i (⟨some t, op, ty, pos, after, some (g, want)⟩ :: rest) fr H acc := by
  (try subst hnew); (try subst hfr); (try subst hH); subst hi
  exact ⟨⟨val, reads, [], true⟩, ⟨⟨u, want, hg, hf, by simp⟩, fun _ => h1, fun h => by cases h⟩, h2⟩
theorem AD.on {fr' : List AV} {H' : Heap} {i' new : Nat} {reads : List Loc} {val : AV} {wr : List W} {g : Nat} {want : Bool} {u : Nat} (hg : (ops[g]?).bind (·.dst) = some u) (hf : fr[u]? = some (Bo want)) (hnew : n0 + i = new) (h1 : OpOk P ⟨some t, op, ty, pos, after, some (g, want)⟩ (evalF fr) reads H new val wr) (hfr : fr.set t val = fr') (hH : upds H wr = H') (hi : i + 1 = i') (h2 : AD P ops n0 Z i' rest fr' H' (acc ++ [⟨i, ⟨some t, op, ty, pos, after, some (g, want)⟩, ⟨val, reads, wr, true⟩⟩])) : AD P ops n0 Z i (⟨some t, op, ty, pos, after, some (g, want)⟩ :: rest) fr H acc := by
  (try subst hnew); (try subst hfr); (try subst hH); subst hi
  exact ⟨⟨val, reads, wr, true⟩, ⟨⟨u, want, hg, hf, by simp⟩, fun _ => h1, fun h => by cases h⟩, h2⟩
theorem AD.off {fr' : List AV} {i' : Nat} {g : Nat} {want b : Bool} {u : Nat} (hg : (ops[g]?).bind (·.dst) = some u) (hf : fr[u]? = some (Bo b)) (hb : b = !want) (hfr : fr.set t (.d (.v undef)) = fr') (hi : i + 1 = i') (h2 : AD P ops n0 Z i' rest fr' H (acc ++ [⟨i, ⟨some t, op, ty, pos, after, some (g, want)⟩, ⟨.d (.v undef), [], [], false⟩⟩])) : AD P ops n0 Z i (⟨some t, op, ty, pos, after, some (g, want)⟩ :: rest) fr H acc := by
  (try subst hnew); (try subst hfr); (try subst hH); subst hi
  exact ⟨⟨.d (.v undef), [], [], false⟩, ⟨⟨u, b, hg, hf, by subst hb; cases want <;> rfl⟩, fun h => (by cases h), fun _ => ⟨rfl, rfl⟩⟩, h2⟩
theorem AD.split {o : Oper} (u : Nat) {b : Bool} (hf : fr[u]? = some (Bo b)) (h1 : b = true → AD P ops n0 Z i (o :: rest) (fr.set u (Bo true)) H acc) (h0 : b = false → AD P ops n0 Z i (o :: rest) (fr.set u (Bo false)) H acc) : AD P ops n0 Z i (o :: rest) fr H acc := by
  cases b
  · have := h0 rfl; rwa [set_self hf] at this
  · have := h1 rfl; rwa [set_self hf] at this
theorem AD.splitP {o : Oper} (u : Nat) {p : Prop} [Decidable p] (hf : fr[u]? = some (Bo (decide p))) (h1 : p → AD P ops n0 Z i (o :: rest) (fr.set u (Bo true)) H acc) (h0 : ¬ p → AD P ops n0 Z i (o :: rest) (fr.set u (Bo false)) H acc) : AD P ops n0 Z i (o :: rest) fr H acc :=
  AD.split u hf (fun h => h1 (of_decide_eq_true h)) (fun h => h0 (of_decide_eq_false h))
theorem AD.gsplit {g : Nat} {want : Bool} {u : Nat} {dst : Option Tmp} {p : Prop} [Decidable p] (hg : (ops[g]?).bind (·.dst) = some u) (hf : fr[u]? = some (Bo (decide p))) (h1 : p → AD P ops n0 Z i (⟨dst, op, ty, pos, after, some (g, want)⟩ :: rest) (fr.set u (Bo true)) H acc) (h0 : ¬ p → AD P ops n0 Z i (⟨dst, op, ty, pos, after, some (g, want)⟩ :: rest) (fr.set u (Bo false)) H acc) : AD P ops n0 Z i (⟨dst, op, ty, pos, after, some (g, want)⟩ :: rest) fr H acc := AD.splitP u hf h1 h0
theorem AD.gsplitB {g : Nat} {want : Bool} {u : Nat} {dst : Option Tmp} {b : Bool} (hg : (ops[g]?).bind (·.dst) = some u) (hf : fr[u]? = some (Bo b)) (h1 : b = true → AD P ops n0 Z i (⟨dst, op, ty, pos, after, some (g, want)⟩ :: rest) (fr.set u (Bo true)) H acc) (h0 : b = false → AD P ops n0 Z i (⟨dst, op, ty, pos, after, some (g, want)⟩ :: rest) (fr.set u (Bo false)) H acc) : AD P ops n0 Z i (⟨dst, op, ty, pos, after, some (g, want)⟩ :: rest) fr H acc := AD.split u hf h1 h0
end
section
variable {P : Program} {C : Ctx} {Q : Exit → AS → Prop} {fr : List AV} {H : Heap} {n : Nat}
theorem AW.reg {id : Nat} {l : List Oper} (h : AL P C l.toArray Q l ⟨fr, H, n⟩) : AW P C (.region id l.toArray false) Q ⟨fr, H, n⟩ := AW.region h
theorem AW.dr {id : Nat} {l : List Oper} (hm : P.follows .mixedOrders = true) (ht : textOk l.toArray = true) (h : AD P l.toArray n (fun fr H tr => allPairs l.toArray tr = true ∧ Q .normal ⟨fr, H, n + l.length⟩) 0 l fr H []) : AW P C (.region id l.toArray true) Q ⟨fr, H, n⟩ := AW.draw hm ht h
theorem AW.seqK {x y : Code} {s : AS} (h : ∀ K : AS → Prop, (∀ s, AW P C y Q s → K s) → AW P C x (thenQ K Q) s) : AW P C (.seq x y) Q s := AW.seq (h _ fun _ h => h)
theorem AW.ite {c : Operand} {x y : Code} {s : AS} {p : Prop} [Decidable p] (hc : evalF s.fr c = Bo (decide p)) (h1 : p → AW P C x Q s) (h0 : ¬ p → AW P C y Q s) : AW P C (.cond c x y) Q s :=
  AW.cond (decide p) hc (fun h => h1 (of_decide_eq_true h)) (fun h => h0 (of_decide_eq_false h))
theorem AW.condT {c : Operand} {x y : Code} {s : AS} (hc : evalF s.fr c = Bo true) (h1 : AW P C x Q s) : AW P C (.cond c x y) Q s := AW.cond true hc (fun _ => h1) (fun h => by cases h)
theorem AW.condF {c : Operand} {x y : Code} {s : AS} (hc : evalF s.fr c = Bo false) (h1 : AW P C y Q s) : AW P C (.cond c x y) Q s := AW.cond false hc (fun h => by cases h) (fun _ => h1)
end

/-! ### From one piece of code to the next -/
section
variable {P : Program} {C : Ctx} {ops : Array Oper} {Q : Exit → AS → Prop} {K : AS → Prop} {fr fr' : List AV} {H : Heap} {n : Nat} {s : AS} {id id' : Nat}
theorem AL.fin {n' : Nat} (hfr : fr = fr') (hn : n = n') (h : Q .normal ⟨fr', H, n'⟩) : AL P C ops Q [] ⟨fr, H, n⟩ := by subst hfr; subst hn; exact AL.nil h
theorem AD.fin {n0 i n' : Nat} {acc : List TO} (hn : n = n') (hfr : fr = fr') (hp : allPairs ops acc = true) (h : Q .normal ⟨fr', H, n'⟩) : AD P ops n0 (fun fr H tr => allPairs ops tr = true ∧ Q .normal ⟨fr, H, n⟩) i [] fr H acc := by subst hfr; subst hn; exact ⟨hp, h⟩
theorem thenN (h : K s) : thenQ K Q .normal s := h
theorem thenR (h : Q .ret s) : thenQ K Q .ret s := h
theorem thenX (h : Q (.exit id) s) : thenQ K Q (.exit id) s := h
theorem blockN (h : Q .normal s) : blockQ id Q .normal s := h
theorem blockR (h : Q .ret s) : blockQ id Q .ret s := h
theorem blockX (h : Q .normal s) : blockQ id Q (.exit id) s := by simp only [blockQ, if_true]; exact h
theorem blockY (hne : id' ≠ id) (h : Q (.exit id') s) : blockQ id Q (.exit id') s := by simp only [blockQ, if_neg hne]; exact h
theorem res1 {t : Nat} {c : AV} (h : fr[t]? = some c) : ResAll P fr H [.tmp t] c := ⟨[c], rfl, fun i rv c' h1 h2 => by
  cases i with
  | zero => simp at h1 h2; subst h1; subst h2; exact h
  | succ i => simp at h1, rfl⟩
theorem res2 {rv rv' : ResultVar} {c c' : AV} (h : ResOf P fr H rv c) (h' : ResOf P fr H rv' c') : ResAll P fr H [rv, rv'] (.tup [c, c']) := ⟨[c, c'], rfl, fun i rv0 c0 h1 h2 => by
  match i with
  | 0 => simp at h1 h2; subst h1; subst h2; exact h
  | 1 => simp at h1 h2; subst h1; subst h2; exact h'
  | i + 2 => simp at h1, rfl⟩
theorem res3 {rv rv' rv'' : ResultVar} {c c' c'' : AV} (h : ResOf P fr H rv c) (h' : ResOf P fr H rv' c') (h'' : ResOf P fr H rv'' c'') : ResAll P fr H [rv, rv', rv''] (.tup [c, c', c'']) := ⟨[c, c', c''], rfl, fun i rv0 c0 h1 h2 => by
  match i with
  | 0 => simp at h1 h2; subst h1; subst h2; exact h
  | 1 => simp at h1 h2; subst h1; subst h2; exact h'
  | 2 => simp at h1 h2; subst h1; subst h2; exact h''
  | i + 3 => simp at h1, rfl⟩
theorem end1 {fn : Func} {res res' c : AV} {H' : Heap} {e : Exit} {n' : Nat} {rv : ResultVar} (he : e = .ret ∨ e = .normal) (hr : fn.results.toList = [rv]) (h : ResOf P fr H rv c) (hc : c = res') (hle : Le C ⟨[res'], H, n⟩ ⟨[res], H', n'⟩) : EndQ P C fn res H' e ⟨fr, H, n⟩ := by
  subst hc
  have h1 : ResAll P fr H fn.results.toList (c) := by
    rw [hr]
    exact ⟨[c], rfl, fun i rv' c' h1 h2 => by
      cases i with
      | zero => simp at h1 h2; subst h1; subst h2; exact h
      | succ i => simp at h1, rfl⟩
  rcases he with rfl | rfl <;> exact ⟨_, n', h1, hle⟩
theorem end2 {fn : Func} {res res' c c' : AV} {H' : Heap} {e : Exit} {n' : Nat} {rv rv' : ResultVar} (he : e = .ret ∨ e = .normal) (hr : fn.results.toList = [rv, rv']) (h : ResOf P fr H rv c) (h' : ResOf P fr H rv' c') (hc : .tup [c, c'] = res') (hle : Le C ⟨[res'], H, n⟩ ⟨[res], H', n'⟩) : EndQ P C fn res H' e ⟨fr, H, n⟩ := by
  subst hc
  have h1 : ResAll P fr H fn.results.toList (.tup [c, c']) := by
    rw [hr]
    exact res2 h h'
  rcases he with rfl | rfl <;> exact ⟨_, n', h1, hle⟩
theorem end3 {fn : Func} {res res' c c' c'' : AV} {H' : Heap} {e : Exit} {n' : Nat} {rv rv' rv'' : ResultVar} (he : e = .ret ∨ e = .normal) (hr : fn.results.toList = [rv, rv', rv'']) (h : ResOf P fr H rv c) (h' : ResOf P fr H rv' c') (h'' : ResOf P fr H rv'' c'') (hc : .tup [c, c', c''] = res') (hle : Le C ⟨[res'], H, n⟩ ⟨[res], H', n'⟩) : EndQ P C fn res H' e ⟨fr, H, n⟩ := by
  subst hc
  have h1 : ResAll P fr H fn.results.toList (.tup [c, c', c'']) := by
    rw [hr]
    exact res3 h h' h''
  rcases he with rfl | rfl <;> exact ⟨_, n', h1, hle⟩
theorem end1p {fn : Func} {res c : AV} {H' : Heap} {e : Exit} {n' : Nat} {rv : ResultVar} (he : e = .ret ∨ e = .normal) (hr : fn.results.toList = [rv]) (h : ResOf P fr H rv c) (hc : c = res) (hle : Le C ⟨[res], H, n⟩ ⟨[res], H', n'⟩) : EndQ P C fn res H' e ⟨fr, H, n⟩ := end1 he hr h hc hle
theorem end2p {fn : Func} {res c c' : AV} {H' : Heap} {e : Exit} {n' : Nat} {rv rv' : ResultVar} (he : e = .ret ∨ e = .normal) (hr : fn.results.toList = [rv, rv']) (h : ResOf P fr H rv c) (h' : ResOf P fr H rv' c') (hc : .tup [c, c'] = res) (hle : Le C ⟨[res], H, n⟩ ⟨[res], H', n'⟩) : EndQ P C fn res H' e ⟨fr, H, n⟩ := end2 he hr h h' hc hle
theorem end3p {fn : Func} {res c c' c'' : AV} {H' : Heap} {e : Exit} {n' : Nat} {rv rv' rv'' : ResultVar} (he : e = .ret ∨ e = .normal) (hr : fn.results.toList = [rv, rv', rv'']) (h : ResOf P fr H rv c) (h' : ResOf P fr H rv' c') (h'' : ResOf P fr H rv'' c'') (hc : .tup [c, c', c''] = res) (hle : Le C ⟨[res], H, n⟩ ⟨[res], H', n'⟩) : EndQ P C fn res H' e ⟨fr, H, n⟩ := end3 he hr h h' h'' hc hle
theorem resC {rv : ResultVar} {c : AV} (h : ResOf P fr H rv c) : ResAll P fr H [rv] c := ⟨[c], rfl, fun i rv' c' h1 h2 => by
  cases i with
  | zero => simp at h1 h2; subst h1; subst h2; exact h
  | succ i => simp at h1, rfl⟩
theorem rT {t : Nat} {c : AV} (h : fr[t]? = some c) : ResOf P fr H (.tmp t) c := h
theorem rCA {a k i j m : Nat} {t : TypeId} {l : Loc} {ob : AObj} {r : List AV} [ht : TyAgg P t m] (h : fr[a]? = some (.ptr k l i j)) (hl : H l = some ob) (hk : ob.k = k) (hr : ob.rows[i]? = some r) (hm : j + m ≤ r.length) : ResOf P fr H (.cell a t) (.agg ((r.drop j).take m)) := ⟨k, l, i, j, ob, r, h, hl, hk, hr, .inl ⟨m, ht, hm, rfl⟩⟩
theorem rCC {a k i j : Nat} {t : TypeId} {l : Loc} {ob : AObj} {r : List AV} {c : AV} [ht : TyCell P t] (h : fr[a]? = some (.ptr k l i j)) (hl : H l = some ob) (hk : ob.k = k) (hr : ob.rows[i]? = some r) (hc : r[j]? = some c) : ResOf P fr H (.cell a t) c := ⟨k, l, i, j, ob, r, h, hl, hk, hr, .inr ⟨ht, hc⟩⟩
end

theorem rn_d (f : Loc → Loc) (x : D) : rn f (.d x) = .d x := by rw [rn]
attribute [simp] rn_d rnO_dobj
/-! ### Operations, ready for walks -/
section
variable {P : Program} {o : Oper} {A : Operand → AV} {H : Heap} {new : Nat} {t t' : TypeId} {x y : Operand}
theorem Ok.move {v : AV} (ho : o.op = .move x) (hx : A x = v) : OpOk P o A [] H new v [] := hx ▸ OpOk.move ho
theorem Ok.assign {v : AV} (ho : o.op = .assign x) (hx : A x = v) : OpOk P o A [] H new v [] := hx ▸ OpOk.assign ho
theorem Ok.boxA {cs : List AV} {n : Nat} (ho : o.op = .box t x) (hx : A x = .agg cs) (hn : cs.length = n) (h1 : cs.all AV.one = true) : OpOk P o A [] H new (.ptr n ⟨new, []⟩ 0 0) [.one ⟨new, []⟩ (some ⟨n, [cs]⟩)] := by
  have := OpOk.box (P := P) (A := A) (H := H) (new := new) ho (by rw [hx]; exact h1)
  rw [hx] at this; subst hn; exact this
theorem Ok.boxC {c : AV} (ho : o.op = .box t x) (hx : A x = c) (h1 : c.one = true) : OpOk P o A [] H new (.ptr 1 ⟨new, []⟩ 0 0) [.one ⟨new, []⟩ (some ⟨1, [[c]]⟩)] := by
  have hc : c.cells = [c] := by cases c <;> first | rfl | cases h1
  have := OpOk.box (P := P) (A := A) (H := H) (new := new) ho (by rw [hx, hc]; simpa using h1)
  rw [hx, hc] at this; exact this
theorem Ok.alloc {z : Value} {cs : List AV} {n : Nat} (ho : o.op = .alloc t) [hz : TyZero P t z] (hn : z.cells.size = n) (hc : (z.cells.toList.map fun x => AV.d (.v x)) = cs) : OpOk P o A [] H new (.ptr n ⟨new, []⟩ 0 0) [.one ⟨new, []⟩ (some ⟨n, [cs]⟩)] := by
  subst hn hc; exact OpOk.alloc ho
theorem Ok.fieldAddr {s ft : TypeId} {f off fn i j j' : Nat} {k : Nat} {l : Loc} (ho : o.op = .fieldAddr s x f) (hx : A x = .ptr k l i j) [TyField P s f off ft fn] (hn : fn ≠ 0) (hj : j + off = j') : OpOk P o A [] H new (.ptr k l i j') [] := hj ▸ OpOk.fieldAddr ho hx hn
theorem Ok.lenO {e : TypeId} {k b n k' : Nat} {z : Value} {l : Loc} {off : Nat} (ho : o.op = .call { callee := .builtin .len, args := #[x], argTypes := #[t] }) (hx : A x = .own k' l off n) [TySlice P t e k b z] : OpOk P o A [] H new (I n) [] := OpOk.len (t := t) ho rfl (.inl ⟨l, off, hx⟩)
theorem Ok.lenD {e : TypeId} {k b n k' : Nat} {z : Value} {rows : List (List D)} (ho : o.op = .call { callee := .builtin .len, args := #[x], argTypes := #[t] }) (hx : A x = .d (.sl k' rows)) [TySlice P t e k b z] (hn : rows.length = n) : OpOk P o A [] H new (I n) [] := OpOk.len (t := t) ho rfl (.inr (.inl ⟨rows, hx, hn⟩))
theorem Ok.lenN {e : TypeId} {k b : Nat} {z : Value} (ho : o.op = .call { callee := .builtin .len, args := #[x], argTypes := #[t] }) (hx : A x = .d (.v (.slice none 0 0))) [TySlice P t e k b z] : OpOk P o A [] H new (I 0) [] := OpOk.len (t := t) (k' := 0) (n := 0) ho rfl (.inr (.inr ⟨hx, rfl⟩))
theorem Ok.lenS {s : ByteArray} (ho : o.op = .call { callee := .builtin .len, args := #[x], argTypes := #[t] }) (hx : A x = .d (.v (.string s))) [TyString P t] : OpOk P o A [] H new (I s.size) [] := OpOk.lenStr (t := t) ho rfl hx
theorem Ok.pickT {c : Operand} {v : AV} (ho : o.op = .pick c x y) (hc : A c = Bo true) (hx : A x = v) : OpOk P o A [] H new v [] := by have := OpOk.pick (P := P) (H := H) (new := new) ho hc; simpa [hx] using this
theorem Ok.pickF {c : Operand} {v : AV} (ho : o.op = .pick c x y) (hc : A c = Bo false) (hy : A y = v) : OpOk P o A [] H new v [] := by have := OpOk.pick (P := P) (H := H) (new := new) ho hc; simpa [hy] using this
theorem Ok.pick {c : Operand} {b : Bool} {u v : AV} (ho : o.op = .pick c x y) (hc : A c = Bo b) (hx : A x = u) (hy : A y = v) : OpOk P o A [] H new (if b then u else v) [] := hx ▸ hy ▸ OpOk.pick ho hc
theorem wrap64_id {n : Int} (h0 : -9223372036854775808 ≤ n) (h1 : n ≤ 9223372036854775807) : IntKind.i64.wrap n = n := by rw [IntKind.wrap_i64]; omega
variable {k : IntKind} {a b : Int}
theorem Ok.add (ho : o.op = .binOp .add t x y t') (hx : A x = I a) (hy : A y = I b) (h0 : -9223372036854775808 ≤ a + b) (h1 : a + b ≤ 9223372036854775807) : OpOk P o A [] H new (I (a + b)) [] :=
  OpOk.bin ho hx hy rfl fun w => by simp [binOp, Op.intArith, wrap64_id h0 h1]
theorem Ok.sub (ho : o.op = .binOp .sub t x y t') (hx : A x = I a) (hy : A y = I b) (h0 : -9223372036854775808 ≤ a - b) (h1 : a - b ≤ 9223372036854775807) : OpOk P o A [] H new (I (a - b)) [] :=
  OpOk.bin ho hx hy rfl fun w => by simp [binOp, Op.intArith, wrap64_id h0 h1]
theorem Ok.mul (ho : o.op = .binOp .mul t x y t') (hx : A x = I a) (hy : A y = I b) (h0 : -9223372036854775808 ≤ a * b) (h1 : a * b ≤ 9223372036854775807) : OpOk P o A [] H new (I (a * b)) [] :=
  OpOk.bin ho hx hy rfl fun w => by simp [binOp, Op.intArith, wrap64_id h0 h1]
theorem Ok.addW (ho : o.op = .binOp .add t x y t') (hx : A x = .d (.v (.int k a))) (hy : A y = .d (.v (.int k b))) : OpOk P o A [] H new (.d (.v (.int k (k.wrap (a + b))))) [] := OpOk.bin ho hx hy rfl fun w => by simp [binOp, Op.intArith]
theorem Ok.subW (ho : o.op = .binOp .sub t x y t') (hx : A x = .d (.v (.int k a))) (hy : A y = .d (.v (.int k b))) : OpOk P o A [] H new (.d (.v (.int k (k.wrap (a - b))))) [] := OpOk.bin ho hx hy rfl fun w => by simp [binOp, Op.intArith]
theorem Ok.mulW (ho : o.op = .binOp .mul t x y t') (hx : A x = .d (.v (.int k a))) (hy : A y = .d (.v (.int k b))) : OpOk P o A [] H new (.d (.v (.int k (k.wrap (a * b))))) [] := OpOk.bin ho hx hy rfl fun w => by simp [binOp, Op.intArith]
theorem Ok.quo (ho : o.op = .binOp .quo t x y t') (hx : A x = I a) (hy : A y = I b) (h : 0 < b) (h0 : -9223372036854775808 ≤ a) (h1 : a ≤ 9223372036854775807) : OpOk P o A [] H new (I (a.tdiv b)) [] := by
  have hb : b ≠ 0 := by omega
  have h2 : -9223372036854775808 ≤ a.tdiv b ∧ a.tdiv b ≤ 9223372036854775807 := by
    rcases Int.le_total 0 a with ha | ha
    · rw [Int.tdiv_eq_ediv_of_nonneg ha]
      exact ⟨by have := Int.ediv_nonneg ha (Int.le_of_lt h); omega, by have := Int.ediv_le_self b ha; omega⟩
    · have : a.tdiv b = -((-a) / b) := by
        have := Int.neg_tdiv (a := a) (b := b)
        rw [Int.tdiv_eq_ediv_of_nonneg (by omega : 0 ≤ -a)] at this
        omega
      have h3 := Int.ediv_le_self b (by omega : 0 ≤ -a)
      have h4 := Int.ediv_nonneg (by omega : 0 ≤ -a) (Int.le_of_lt h)
      omega
  exact OpOk.bin ho hx hy rfl fun w => by simp [binOp, Op.intDiv, hb, wrap64_id h2.1 h2.2]
theorem Ok.rem (ho : o.op = .binOp .rem t x y t') (hx : A x = I a) (hy : A y = I b) (h : b ≠ 0) : OpOk P o A [] H new (I (a.tmod b)) [] := OpOk.bin ho hx hy rfl fun w => by simp [binOp, Op.intDiv, h]
theorem Ok.eql (ho : o.op = .binOp .eql t x y t') (hx : A x = .d (.v (.int k a))) (hy : A y = .d (.v (.int k b))) : OpOk P o A [] H new (Bo (decide (a = b))) [] := OpOk.bin ho hx hy rfl fun w => by
  have : (a == b) = decide (a = b) := by by_cases h : a = b <;> simp [h]
  simp [binOp, Op.intCmp, this]
theorem Ok.neq (ho : o.op = .binOp .neq t x y t') (hx : A x = .d (.v (.int k a))) (hy : A y = .d (.v (.int k b))) : OpOk P o A [] H new (Bo (decide (a ≠ b))) [] := OpOk.bin ho hx hy rfl fun w => by
  have : (a != b) = decide (a ≠ b) := by by_cases h : a = b <;> simp [h]
  simp [binOp, Op.intCmp, this]
theorem Ok.lss (ho : o.op = .binOp .lss t x y t') (hx : A x = .d (.v (.int k a))) (hy : A y = .d (.v (.int k b))) : OpOk P o A [] H new (Bo (decide (a < b))) [] := OpOk.bin ho hx hy rfl fun w => by simp [binOp, Op.intCmp]
theorem Ok.leq (ho : o.op = .binOp .leq t x y t') (hx : A x = .d (.v (.int k a))) (hy : A y = .d (.v (.int k b))) : OpOk P o A [] H new (Bo (decide (a ≤ b))) [] := OpOk.bin ho hx hy rfl fun w => by simp [binOp, Op.intCmp]
theorem Ok.gtr (ho : o.op = .binOp .gtr t x y t') (hx : A x = .d (.v (.int k a))) (hy : A y = .d (.v (.int k b))) : OpOk P o A [] H new (Bo (decide (b < a))) [] := OpOk.bin ho hx hy rfl fun w => by simp [binOp, Op.intCmp]
theorem Ok.geq (ho : o.op = .binOp .geq t x y t') (hx : A x = .d (.v (.int k a))) (hy : A y = .d (.v (.int k b))) : OpOk P o A [] H new (Bo (decide (b ≤ a))) [] := OpOk.bin ho hx hy rfl fun w => by simp [binOp, Op.intCmp]
theorem Ok.notP {p : Prop} [Decidable p] (ho : o.op = .unOp .not t x) (hx : A x = Bo (decide p)) : OpOk P o A [] H new (Bo (decide (¬ p))) [] := OpOk.un ho hx fun w => by simp [Op.unary]
theorem Ok.not {b : Bool} (ho : o.op = .unOp .not t x) (hx : A x = Bo b) : OpOk P o A [] H new (Bo (!b)) [] := OpOk.un ho hx fun w => by simp [Op.unary]
theorem Ok.neg (ho : o.op = .unOp .neg t x) (hx : A x = I a) (h0 : -9223372036854775808 ≤ -a) (h1 : -a ≤ 9223372036854775807) : OpOk P o A [] H new (I (-a)) [] := OpOk.un ho hx fun w => by simp [Op.unary, Op.intArith, wrap64_id h0 h1]
/-! Strings. -/
variable {s u : ByteArray}
theorem Ok.sadd (ho : o.op = .binOp .add t x y t') (hx : A x = .d (.v (.string s))) (hy : A y = .d (.v (.string u))) (h : s.size + u.size ≤ 9223372036854775807) : OpOk P o A [] H new (.d (.v (.string (s ++ u)))) [] := OpOk.bin ho hx hy rfl fun w => by
  have h' : ¬ (((s.size + u.size : Nat) : Int) > IntKind.i64.max) := by simp [IntKind.max, IntKind.bits, IntKind.signed]; omega
  simp only [binOp, Op.stringOp, if_neg h']
  rfl
theorem Ok.seql (ho : o.op = .binOp .eql t x y t') (hx : A x = .d (.v (.string s))) (hy : A y = .d (.v (.string u))) : OpOk P o A [] H new (Bo (decide (s = u))) [] := OpOk.bin ho hx hy rfl fun w => by
  have : (s.toList == u.toList) = decide (s = u) := by
    by_cases h : s = u
    · simp [h]
    · have : s.toList ≠ u.toList := fun e => h (by
        have h1 := congrArg List.toArray e
        simp only [ByteArray.toList_eq] at h1
        cases s; cases u; simp_all)
      simp [h, this]
  simp [binOp, Op.stringOp, this]
/-! Numbers among one another. -/
theorem Ok.convII {k' : IntKind} (ho : o.op = .convert t t' x) (hx : A x = .d (.v (.int k a))) (hu : P.underlying t' = some (.int k')) (hs : (P.underlying t).isSome = true) (h : k'.wrap a = b) : OpOk P o A [] H new (.d (.v (.int k' b))) [] := OpOk.conv ho hx fun w => by
  obtain ⟨d, hd⟩ := Option.isSome_iff_exists.1 hs
  simp [convert, run_underlying hd, run_underlying hu, Conv.intToInt, h]
theorem Ok.minII {ts : Array TypeId} (ho : o.op = .call { callee := .builtin .min, args := #[x, y], argTypes := ts }) (hx : A x = .d (.v (.int k a))) (hy : A y = .d (.v (.int k b))) : OpOk P o A [] H new (.d (.v (.int k (min a b)))) [] :=
  .known2 hx hy (by simp [ho, Op.operands, Call.operands]) (by simp [ho, Op.operands, Call.operands]) fun ρ w h1 h2 => by
    have : (if b < a then b else a) = min a b := by split <;> omega
    simp [execOp, ho, resolve, invoke, builtin, Builtin.min_, Builtin.min2, h1, h2, this]
theorem Ok.maxII {ts : Array TypeId} (ho : o.op = .call { callee := .builtin .max, args := #[x, y], argTypes := ts }) (hx : A x = .d (.v (.int k a))) (hy : A y = .d (.v (.int k b))) : OpOk P o A [] H new (.d (.v (.int k (max a b)))) [] :=
  .known2 hx hy (by simp [ho, Op.operands, Call.operands]) (by simp [ho, Op.operands, Call.operands]) fun ρ w h1 h2 => by
    have : (if b > a then b else a) = max a b := by split <;> omega
    simp [execOp, ho, resolve, invoke, builtin, Builtin.max_, Builtin.max2, h1, h2]
    omega
end
end Go.Proofs.Ytemomjcgkpinfaa
