/-
  Walks in the abstract reading, part 2.
-/
import Derived.Test.YtcjidnpkeliieaaKA3
import Derived.Test.YtcjidnpkeliieaaKA2
import Derived.Test.YtcjidnpkeliieaaKU1
section
namespace Go.Proofs.Ytcjidnpkeliieaa
set_option linter.unusedSimpArgs false
set_option linter.unusedVariables false
open Go Go.RowKit

abbrev Oo : AV := .dead
section
variable {P : Program} {C : Ctx} {ops : Array Oper} {Q : Exit → AS → Prop} {rest : List Oper} {fr : List AV} {H : Heap} {n t : Nat} {op : Op} {ty : TypeId} {pos : String} {after : Array Edge}
variable {n0 i : Nat} {Z : List AV → Heap → List TO → Prop} {acc : List TO}
def NA (P : Program) (C : Ctx) (ops : Array Oper) (Q : Exit → AS → Prop) (rest : List Oper) (fr : List AV) (H : Heap) (n : Nat) : Prop := AL P C ops Q rest ⟨fr, H, n⟩
def ND (P : Program) (ops : Array Oper) (n0 : Nat) (Z : List AV → Heap → List TO → Prop) (i : Nat) (rest : List Oper) (fr : List AV) (H : Heap) (acc : List TO) : Prop := AD P ops n0 Z i rest fr H acc
theorem Ba {reads : List Loc} {val : AV} {wr : List W} (h1 : OpOk P ⟨some t, op, ty, pos, after, none⟩ (evalF fr) reads H n val wr) (h2 : NA P C ops Q rest (fr.set t val) (upds H wr) (n + 1)) : AL P C ops Q (⟨some t, op, ty, pos, after, none⟩ :: rest) ⟨fr, H, n⟩ := AL.st h1 rfl rfl rfl h2
theorem Bb {reads : List Loc} {val : AV} {wr : List W} {g : Nat} {want : Bool} {u : Nat} (hg : (ops[g]?).bind (·.dst) = some u) (hf : fr[u]? = some (Bo want)) (h1 : OpOk P ⟨some t, op, ty, pos, after, some (g, want)⟩ (evalF fr) reads H n val wr) (h2 : NA P C ops Q rest (fr.set t val) (upds H wr) (n + 1)) :
    AL P C ops Q (⟨some t, op, ty, pos, after, some (g, want)⟩ :: rest) ⟨fr, H, n⟩ := AL.on hg hf h1 rfl rfl rfl h2
theorem Bc {new : Nat} {reads : List Loc} {val : AV} {wr : List W} (hnew : n0 + i = new) (h1 : OpOk P ⟨some t, op, ty, pos, after, none⟩ (evalF fr) reads H new val wr) (h2 : ND P ops n0 Z (i + 1) rest (fr.set t val) (upds H wr) (acc ++ [⟨i, ⟨some t, op, ty, pos, after, none⟩, ⟨val, reads, wr, true⟩⟩])) : AD P ops n0 Z i (⟨some t, op, ty, pos, after, none⟩ :: rest) fr H acc := AD.st hnew h1 rfl rfl rfl h2
theorem Bd {new : Nat} {reads : List Loc} {val : AV} {wr : List W} {g : Nat} {want : Bool} {u : Nat} (hg : (ops[g]?).bind (·.dst) = some u) (hf : fr[u]? = some (Bo want)) (hnew : n0 + i = new) (h1 : OpOk P ⟨some t, op, ty, pos, after, some (g, want)⟩ (evalF fr) reads H new val wr) (h2 : ND P ops n0 Z (i + 1) rest (fr.set t val) (upds H wr) (acc ++ [⟨i, ⟨some t, op, ty, pos, after, some (g, want)⟩, ⟨val, reads, wr, true⟩⟩])) : AD P ops n0 Z i (⟨some t, op, ty, pos, after, some (g, want)⟩ :: rest) fr H acc := AD.on hg hf hnew h1 rfl rfl rfl h2
theorem Ca {reads : List Loc} {val : AV} {wr : List W} (h1 : OpOk P ⟨none, op, ty, pos, after, none⟩ (evalF fr) reads H n val wr) (h2 : NA P C ops Q rest fr (upds H wr) (n + 1)) : AL P C ops Q (⟨none, op, ty, pos, after, none⟩ :: rest) ⟨fr, H, n⟩ := AL.st0 h1 rfl rfl h2
theorem Cb {new : Nat} {reads : List Loc} {val : AV} {wr : List W} (hnew : n0 + i = new) (h1 : OpOk P ⟨none, op, ty, pos, after, none⟩ (evalF fr) reads H new val wr) (h2 : ND P ops n0 Z (i + 1) rest fr (upds H wr) (acc ++ [⟨i, ⟨none, op, ty, pos, after, none⟩, ⟨val, reads, wr, true⟩⟩])) : AD P ops n0 Z i (⟨none, op, ty, pos, after, none⟩ :: rest) fr H acc := AD.st0 hnew h1 rfl rfl h2
theorem Na {val : AV} {wr : List W} {fr' : List AV} {H' : Heap} {n' : Nat} (h : AL P C ops Q rest ⟨fr', H', n'⟩) (e1 : fr.set t val = fr' := by simp only [List.set_cons_succ, List.set_cons_zero, List.take_succ_cons, List.drop_succ_cons, List.take_zero, List.drop_zero, List.take_nil, List.drop_nil, List.map_cons, List.map_nil]; exact rfl) (e2 : upds H wr = H' := by first | exact updsE | exact rfl) (e3 : n + 1 = n' := by first | (simp only [Nat.reduceAdd]; exact rfl) | exact rfl) : NA P C ops Q rest (fr.set t val) (upds H wr) (n + 1) := by subst e1 e2 e3; exact h
theorem Nb {val : AV} {wr : List W} {fr' : List AV} {H' : Heap} {i' : Nat} (h : AD P ops n0 Z i' rest fr' H' acc) (e1 : fr.set t val = fr' := by simp only [List.set_cons_succ, List.set_cons_zero, List.take_succ_cons, List.drop_succ_cons, List.take_zero, List.drop_zero, List.take_nil, List.drop_nil, List.map_cons, List.map_nil]; exact rfl) (e2 : upds H wr = H' := by first | exact updsE | exact rfl) (e3 : i + 1 = i' := by first | (simp only [Nat.reduceAdd]; exact rfl) | exact rfl) : ND P ops n0 Z (i + 1) rest (fr.set t val) (upds H wr) acc := by subst e1 e2 e3; exact h
theorem Nc {wr : List W} {H' : Heap} {n' : Nat} (h : AL P C ops Q rest ⟨fr, H', n'⟩) (e2 : upds H wr = H' := by exact rfl) (e3 : n + 1 = n' := by first | (simp only [Nat.reduceAdd]; exact rfl) | exact rfl) : NA P C ops Q rest fr (upds H wr) (n + 1) := by subst e2 e3; exact h
theorem Nd {wr : List W} {H' : Heap} {i' : Nat} (h : AD P ops n0 Z i' rest fr H' acc) (e2 : upds H wr = H' := by exact rfl) (e3 : i + 1 = i' := by first | (simp only [Nat.reduceAdd]; exact rfl) | exact rfl) : ND P ops n0 Z (i + 1) rest fr (upds H wr) acc := by subst e2 e3; exact h
theorem Oa {fr' : List AV} {n' : Nat} {g : Nat} {want : Bool} {v : Value} {u : Nat} (h2 : AL P C ops Q rest ⟨fr', H, n'⟩) (hg : (ops[g]?).bind (·.dst) = some u := by exact rfl) (hf : fr[u]? = some (.d (.v v)) := by exact rfl) (hb : (boolV v == some want) = false := by exact rfl) (hfr : fr.set t (.d (.v undef)) = fr' := by simp only [List.set_cons_succ, List.set_cons_zero, List.take_succ_cons, List.drop_succ_cons, List.take_zero, List.drop_zero, List.take_nil, List.drop_nil, List.map_cons, List.map_nil]; exact rfl) (hn : n + 1 = n' := by first | (simp only [Nat.reduceAdd]; exact rfl) | exact rfl) :
    AL P C ops Q (⟨some t, op, ty, pos, after, some (g, want)⟩ :: rest) ⟨fr, H, n⟩ := AL.off hg hf hb hfr hn h2
theorem Ob {fr' : List AV} {i' : Nat} {g : Nat} {want : Bool} {v : Value} {u : Nat} (h2 : AD P ops n0 Z i' rest fr' H (acc ++ [⟨i, ⟨some t, op, ty, pos, after, some (g, want)⟩, ⟨.d (.v undef), [], [], false⟩⟩])) (hg : (ops[g]?).bind (·.dst) = some u := by exact rfl) (hf : fr[u]? = some (.d (.v v)) := by exact rfl) (hb : (boolV v == some want) = false := by exact rfl) (hfr : fr.set t (.d (.v undef)) = fr' := by simp only [List.set_cons_succ, List.set_cons_zero, List.take_succ_cons, List.drop_succ_cons, List.take_zero, List.drop_zero, List.take_nil, List.drop_nil, List.map_cons, List.map_nil]; exact rfl) (hi : i + 1 = i' := by first | (simp only [Nat.reduceAdd]; exact rfl) | exact rfl) :
    AD P ops n0 Z i (⟨some t, op, ty, pos, after, some (g, want)⟩ :: rest) fr H acc := AD.off hg hf hb hfr hi h2
theorem Ga {g : Nat} {want : Bool} {u : Nat} {dst : Option Tmp} {p : Prop} [Decidable p] (h1 : p → AL P C ops Q (⟨dst, op, ty, pos, after, some (g, want)⟩ :: rest) ⟨fr.set u (Bo true), H, n⟩) (h0 : ¬ p → AL P C ops Q (⟨dst, op, ty, pos, after, some (g, want)⟩ :: rest) ⟨fr.set u (Bo false), H, n⟩) (hg : (ops[g]?).bind (·.dst) = some u := by exact rfl) (hf : fr[u]? = some (Bo (decide p)) := by exact rfl) :
    AL P C ops Q (⟨dst, op, ty, pos, after, some (g, want)⟩ :: rest) ⟨fr, H, n⟩ := AL.gsplit hg hf h1 h0
end
section
variable {P : Program} {C : Ctx} {Q : Exit → AS → Prop} {s : AS} {x y : Code} {c : Operand}
theorem Wa (h1 : AW P C x Q s) (hc : evalF s.fr c = Bo true := by exact rfl) : AW P C (.cond c x y) Q s := AW.condT hc h1
theorem Wb (h1 : AW P C y Q s) (hc : evalF s.fr c = Bo false := by exact rfl) : AW P C (.cond c x y) Q s := AW.condF hc h1
end
section
variable {P : Program} {C : Ctx} {Q : Exit → AS → Prop} {K : AS → Prop} {ops : Array Oper} {fr fr' : List AV} {H : Heap} {n : Nat} {s : AS} {id id' : Nat} {x y : Code}
theorem Fa {n0 i n' : Nat} {acc : List TO} (h : Q .normal ⟨fr', H, n'⟩) (hn : n = n' := by simp only [List.length_cons, List.length_nil, Nat.reduceAdd]; rfl) (hfr : fr = fr' := by exact rfl) (hp : allPairs ops acc = true := by kernel_rfl) : AD P ops n0 (fun fr H tr => allPairs ops tr = true ∧ Q .normal ⟨fr, H, n⟩) i [] fr H acc := AD.fin hn hfr hp h
theorem Fb {l : List Oper} (h : AD P l.toArray n (fun fr H tr => allPairs l.toArray tr = true ∧ Q .normal ⟨fr, H, n + l.length⟩) 0 l fr H []) (hm : P.follows .mixedOrders = true := by exact mixedA) (ht : textOk l.toArray = true := by kernel_rfl) : AW P C (.region id l.toArray true) Q ⟨fr, H, n⟩ := AW.dr hm ht h
theorem Fc (h : Q (.exit id') s) (hne : id' ≠ id := by decide) : blockQ id Q (.exit id') s := blockY hne h
theorem Qa (h : Q .normal s) : AL P C ops Q [] s := AL.nil h
theorem Qb (h : K s) : thenQ K Q .normal s := h
theorem Qc (h : AW P C x (thenQ (AW P C y Q) Q) s) : AW P C (.seq x y) Q s := AW.seq h
theorem Qd {l : List Oper} (h : AL P C l.toArray Q l ⟨fr, H, n⟩) : AW P C (.region id l.toArray false) Q ⟨fr, H, n⟩ := AW.reg h
theorem Qe (h : AW P C x (blockQ id Q) s) : AW P C (.block id x) Q s := AW.block h
theorem Qf (h : Q .ret s) : AW P C .ret Q s := AW.ret h
theorem Qg (h : Q (.exit id) s) : AW P C (.exit id) Q s := AW.exit h
theorem Qh (h : Q .normal s) : AW P C .skip Q s := AW.skip h
theorem Qi (h : Q .ret s) : thenQ K Q .ret s := h
theorem Xa (h : Q (.exit id) s) : thenQ K Q (.exit id) s := h
theorem Xb (h : Q .normal s) : blockQ id Q .normal s := h
theorem Xc (h : Q .ret s) : blockQ id Q .ret s := h
theorem Xd (h : Q .normal s) : blockQ id Q (.exit id) s := blockX h
end
/-! Calls. -/
section
variable {P : Program} {o : Oper} {A : Operand → AV} {H : Heap} {new : Nat} {fo : Operand} {xs : List Operand} {ts : Array TypeId} {f : FuncId} {caps args : List AV} {res res' : AV} {lent : List Loc} {cs cs' vs vs' : List AV}
theorem Kz (ho : o.op = .call { callee := .value fo, args := xs.toArray, argTypes := ts }) [FnBody P f] (hfo : A fo = .clo (.func f) [] caps) (hc : AC P f args H0 res H0) (hargs : ARs H (Cov []) id (fun _ => False) args (xs.map A ++ caps)) (hrn : ∀ g, rn g res = res := by intro _; simp [Go.Proofs.Ytcjidnpkeliieaa.rn]) : OpOk P o A [] H new res [] := OpOk.call0 [] ho hfo hc (.inl rfl) hrn hargs
theorem Ez (ho : o.op = .call { callee := .value fo, args := xs.toArray, argTypes := ts }) [FnBody P f] (hfo : A fo = .clo (.func f) [] caps) (hc : AC P f args H0 res H0) (hargs : CA H lent args (xs.map A ++ caps)) (hfree : FreeF res := by first | exact free_rowsPl | exact free_rowsEd | exact free_rowsG (fun _ => rfl) | (repeat' (first | exact FreeF.own _ _ _ _ | exact FreeF.v _ | refine FreeF.tup ?_ | refine FreeF.agg ?_ | refine FreeF.cons ?_ ?_ | exact FreeF.nil))) (hrn : ∀ g, rn g res = res := by intro _; simp [Go.Proofs.Ytcjidnpkeliieaa.rn]) : OpOk P o A lent H new res [] := Ok.c0 ho hfo hc hargs hfree hrn
theorem Eo {ob : AObj} (ho : o.op = .call { callee := .value fo, args := xs.toArray, argTypes := ts }) [FnBody P f] (hfo : A fo = .clo (.func f) [] caps) (hc : AC P f args H0 res (upd H0 ⟨0, []⟩ (some ob))) (hargs : CA H lent args (xs.map A ++ caps)) (hfree : FreeF res := by first | exact free_rowsPl | exact free_rowsEd | exact free_rowsG (fun _ => rfl) | (repeat' (first | exact FreeF.own _ _ _ _ | exact FreeF.v _ | refine FreeF.tup ?_ | refine FreeF.agg ?_ | refine FreeF.cons ?_ ?_ | exact FreeF.nil))) (hf' : ∀ r ∈ ob.rows, ∀ c ∈ r, FreeF c := by first | exact free_rowsPl | exact free_rowsEd | exact free_rowsG (fun _ => rfl) | (repeat' (first | exact FreeF.own _ _ _ _ | exact FreeF.v _ | refine FreeF.tup ?_ | refine FreeF.agg ?_ | refine FreeF.cons ?_ ?_ | exact FreeF.nil))) (hrn : ∀ g, rnO g ob = ob := by intro _; first | exact rnO_dobj _ _ _ | (simp [rnO_dobj]; done))
    (hr : rn (fun l => ⟨new, l.id :: l.sub⟩) res = res' := by simp only [Go.Proofs.Ytcjidnpkeliieaa.rn, List.map_cons, List.map_nil]; exact rfl) : OpOk P o A lent H new res' [.one ⟨new, [0]⟩ (some ob)] := Ok.c1 ho hfo hc hargs hfree hf' hrn hr
theorem Tb {ms : List MI} (ho : o.op = .call { callee := .value fo, args := xs.toArray, argTypes := ts }) [FnBody P f] (hfo : A fo = .clo (.func f) [] caps) (hc : AC P f args H0 res (heapX [] ms)) (hargs : CA H lent args (xs.map A ++ caps)) (hfree : FreeF res := by first | exact free_rowsPl | exact free_rowsEd | exact free_rowsG (fun _ => rfl) | (repeat' (first | exact FreeF.own _ _ _ _ | exact FreeF.v _ | refine FreeF.tup ?_ | refine FreeF.agg ?_ | refine FreeF.cons ?_ ?_ | exact FreeF.nil))) (hf2 : AllP (fun m => plainR m.R) ms := by exact ⟨TR_plain, trivial⟩) (hr : rn (relo new) res = res' := by simp only [Go.Proofs.Ytcjidnpkeliieaa.rn, List.map_cons, List.map_nil]; exact rfl) :
    OpOk P o A lent H new res' [.all new fun sub => heapX (reHL new []) (reML new ms) ⟨new, sub⟩] := OpOk.callX [] ms ho hfo hc hargs hfree trivial hf2 hr
theorem Zf (ho : o.op = .call { callee := .value fo, args := xs.toArray, argTypes := ts }) [FnBody P f] (hfo : A fo = .clo (.func f) [] caps) (hc : AC P f args H0 res H0) (hargs : CA H lent args (xs.map A ++ caps)) (hd : dataB res = true := by exact rfl) : OpOk P o A lent H new res (lent.map dropW) := OpOk.callZ ho hfo hc hargs (dataB_ok hd)
theorem Sn : CA H [] [] [] := CA.nil
theorem Sd {x : D} (h : CA H lent cs vs) : CA H lent (.d x :: cs) (.d x :: vs) := CA.d h
theorem Sw {k n : Nat} {l : Loc} {rows : List (List D)} (h : CA H lent cs vs) (hl : H l = some (dobj k rows) := by exact rfl) (hn : rows.length = n := by first | rfl | (simp; done) | (simp [mksE_len, mksP_len]; done) | (simp [rowF_len]; done)) : CA H (l :: lent) (.d (.sl k rows) :: cs) (.own k l 0 n :: vs) := CA.w hl hn h
theorem Sm {l : Loc} {n : Nat} {R : List (List (List D))} (h : CA H lent cs vs) (h1 : H l = some (outer l.at 1 R 0) := by exact rfl) (h2 : ∀ i x, R[i]? = some x → H (l.at i) = some (dobj 1 x) := by first | exact fun i x hx => congrArg (Option.map (dobj 1)) hx | exact fun i x hx => unAt hx) (hn : R.length = n := by first | rfl | assumption | (simp; done) | (simp; omega) | (simp [mkAt_len]; done)) :
    CA H (l :: lent) (.d (.sl 1 (mRows 1 R)) :: cs) (.own 1 l 0 n :: vs) := CA.m ⟨h1, h2⟩ hn h
theorem Sa {lent' : List Loc} (h' : CA H lent' cs' vs') (h : CA H lent cs vs) : CA H (lent' ++ lent) (.agg cs' :: cs) (.agg vs' :: vs) := CA.a h' h
theorem An {l : Loc → Prop} {τ : Loc → Loc} {L : Loc → Prop} : ARs H l τ L [] [] := ARs.nil
theorem Ad {l : Loc → Prop} {τ : Loc → Loc} {L : Loc → Prop} {x : D} (h : ARs H l τ L cs vs) : ARs H l τ L (.d x :: cs) (.d x :: vs) := ARs.cons (AR.dd x) h
theorem Aa {l : Loc → Prop} {τ : Loc → Loc} {L : Loc → Prop} (h' : ARs H l τ L cs' vs') (h : ARs H l τ L cs vs) : ARs H l τ L (.agg cs' :: cs) (.agg vs' :: vs) := ARs.cons (ARs.agg h') h
theorem Cg {α : Type} {R : List α} {g : α → AObj} (i : Nat) (x : α) (hx : R[i]? = some x) : Option.map g R[i]? = some (g x) := congrArg (Option.map g) hx
end
/-! States told anew. -/
theorem Lc {p : Prop} (h : p := by first | exact trivial | exact ARs.nil | exact AR.dead _ | exact AR.dd _ | exact AR.i (by (try dsimp only); omega) | exact AR.ptr _ _ _ _ (by first | (simp [heapL, upd]; done) | (simp [heapX, upd]; done) | (simp [heapX, heapM, upd, matG, Loc.cov, Loc.at]; done) | (simp [heapX, heapM, upd, matG, Loc.cov, Loc.at, tabF_len, TR_len, rowF_len, IR_len]; done) | (simp [heapX, heapM, upd, matG, Loc.cov, Loc.at]; omega) | (simp [heapX, heapM, upd, matG, Loc.cov, Loc.at, tabF_len, TR_len, rowF_len, IR_len]; omega)) | exact AR.own _ _ _ _ (by first | (simp [heapL, upd]; done) | (simp [heapX, upd]; done) | (simp [heapX, heapM, upd, matG, Loc.cov, Loc.at]; done) | (simp [heapX, heapM, upd, matG, Loc.cov, Loc.at, tabF_len, TR_len, rowF_len, IR_len]; done) | (simp [heapX, heapM, upd, matG, Loc.cov, Loc.at]; omega) | (simp [heapX, heapM, upd, matG, Loc.cov, Loc.at, tabF_len, TR_len, rowF_len, IR_len]; omega)) | exact ObA.data | exact AR.clo' ARs.nil ARs.nil | exact AR.clo' ARs.nil (hca _ _) | exact AR.whole rfl (by simp) (by first | rfl | assumption | (simp; done)) |
  exact AR.tab ⟨rfl, fun i x hx => congrArg (Option.map (dobj 1)) hx⟩ (by first | rfl | assumption | (simp; done) | (simp; omega)) (by simp [Cov, Loc.cov]; done) (by intro i; simp [Cov, Loc.cov, Loc.at]; done) | exact AR.d (DRel.nil _)) : p := h
section
variable {H : Heap} {lent : Loc → Prop} {τ : Loc → Loc} {L : Loc → Prop}
theorem Lo {k off n n' : Nat} {l : Loc} (hn : n = n') (h : L l := by first | (simp [heapL, upd]; done) | (simp [heapX, upd]; done) | (simp [heapX, heapM, upd, matG, Loc.cov, Loc.at]; done) | (simp [heapX, heapM, upd, matG, Loc.cov, Loc.at, tabF_len, TR_len, rowF_len, IR_len]; done) | (simp [heapX, heapM, upd, matG, Loc.cov, Loc.at]; omega) | (simp [heapX, heapM, upd, matG, Loc.cov, Loc.at, tabF_len, TR_len, rowF_len, IR_len]; omega)) : AR H lent τ L (.own k l off n) (.own k (τ l) off n') := AR.ownE k l off hn h
theorem La {c c' : AV} {cs cs' : List AV} (h : AR H lent τ L c c') (h' : ARs H lent τ L cs cs') : ARs H lent τ L (c :: cs) (c' :: cs') := ARs.cons h h'
end
theorem Ld {p : Prop} (h : p := by first | exact fun l h => absurd h (hD l) | (intro l h; rcases hD l h with rfl; simp [tauL]; done) | (intro l h; rcases hD l h with rfl | rfl <;> simp [tauL]; done) | (intro l h; rcases hD l h with rfl | rfl | rfl <;> simp [tauL]; done) | (simp [AllP]; done) | (intro l h; rcases hD l h with rfl; simp [tauX, tauM, Loc.cov]; done) | (intro l h; rcases hD l h with rfl | rfl <;> simp [tauX, tauM, Loc.cov]; done) | (intro l h; rcases hD l h with rfl | ⟨i, rfl⟩ <;> simp [tauX, tauM, Loc.cov, Loc.at, MI.row]; done)) : p := h
section
variable {P : Program} {C : Ctx} {fr : List AV} {H : Heap} {n : Nat}
theorem Ya {fn : Func} {res res' c : AV} {H' : Heap} {e : Exit} {rv : ResultVar} (hle : Le C ⟨[res'], H, n⟩ ⟨[res], H', 1000⟩) (he : e = .ret ∨ e = .normal := by first | exact .inl rfl | exact .inr rfl) (hr : fn.results.toList = [rv] := by exact rfl) (h : ResOf P fr H rv c := by first | exact rT rfl | exact rCA rfl rfl rfl rfl (by simp) | exact rCC rfl rfl rfl rfl rfl) (hc : c = res' := by first | (simp only [List.take_succ_cons, List.take_zero, List.take_nil, List.drop_succ_cons, List.drop_zero, List.drop_nil, AV.cells]; exact rfl) | exact rfl) : EndQ P C fn res H' e ⟨fr, H, n⟩ := end1 he hr h hc hle
theorem Yb {fn : Func} {res res' c c' : AV} {H' : Heap} {e : Exit} {rv rv' : ResultVar} (hle : Le C ⟨[res'], H, n⟩ ⟨[res], H', 1000⟩) (he : e = .ret ∨ e = .normal := by first | exact .inl rfl | exact .inr rfl) (hr : fn.results.toList = [rv, rv'] := by exact rfl) (h : ResOf P fr H rv c := by first | exact rT rfl | exact rCA rfl rfl rfl rfl (by simp) | exact rCC rfl rfl rfl rfl rfl) (h' : ResOf P fr H rv' c' := by first | exact rT rfl | exact rCA rfl rfl rfl rfl (by simp) | exact rCC rfl rfl rfl rfl rfl) (hc : .tup [c, c'] = res' := by first | (simp only [List.take_succ_cons, List.take_zero, List.take_nil, List.drop_succ_cons, List.drop_zero, List.drop_nil, AV.cells]; exact rfl) | exact rfl) : EndQ P C fn res H' e ⟨fr, H, n⟩ := end2 he hr h h' hc hle
end
end Go.Proofs.Ytcjidnpkeliieaa
end

section
namespace Go.Proofs.Ytcjidnpkeliieaa
set_option linter.unusedSimpArgs false
set_option linter.unusedVariables false

abbrev BOT : Int := -1000000000000000
def tryAll {α : Type} (f : Nat → List α) : List Nat → List α
  | [] => []
  | v :: r => if f v ≠ [] then f v else tryAll f r
theorem tryAll_ne {α : Type} {f : Nat → List α} : ∀ {l : List Nat}, tryAll f l ≠ [] ↔ ∃ v ∈ l, f v ≠ []
  | [] => by simp [tryAll]
  | v :: r => by
    unfold tryAll
    split
    · rename_i h; exact ⟨fun _ => ⟨v, by simp, h⟩, fun _ => h⟩
    · rename_i h
      rw [tryAll_ne]
      constructor
      · rintro ⟨u, hu, h2⟩; exact ⟨u, by simp [hu], h2⟩
      · rintro ⟨u, hu, h2⟩
        rcases List.mem_cons.1 hu with rfl | hu
        · exact absurd h2 h
        · exact ⟨u, hu, h2⟩
theorem tryAll_mem {α : Type} {f : Nat → List α} : ∀ {l : List Nat}, tryAll f l ≠ [] → ∃ v ∈ l, f v ≠ [] ∧ tryAll f l = f v
  | [], h => by simp [tryAll] at h
  | v :: r, h => by
    unfold tryAll at h ⊢
    split
    · rename_i h2; exact ⟨v, by simp, h2, rfl⟩
    · rename_i h2
      rw [if_neg h2] at h
      obtain ⟨u, hu, h3, h4⟩ := tryAll_mem h
      exact ⟨u, by simp [hu], h3, h4⟩
def hdN (p : List Nat) : Nat := p.headD 0
def lsN (p : List Nat) : Nat := p.getLastD 0
/-- The search of cycles: a v u is the weight of the arc from u to v. -/
def growF (a : Nat → Nat → Int) (n : Nat) (over : Int) : Nat → List Nat → Int → List Nat
  | 0, _, _ => []
  | k + 1, path, w => if a (hdN path) (lsN path) ≠ BOT ∧ over < w + a (hdN path) (lsN path) then path else
      tryAll (fun v => if a v (lsN path) = BOT ∨ v ∈ path then [] else growF a n over k (path ++ [v]) (w + a v (lsN path))) (List.range' (hdN path + 1) (n - (hdN path + 1)))
def overF (a : Nat → Nat → Int) (n : Nat) (over : Int) : List Nat := tryAll (fun v => growF a n over n [v] 0) (List.range' 0 n)

/-- Each node has an arc to the next one. -/
def pathP (a : Nat → Nat → Int) (c : List Nat) : Prop := ∀ i, i + 1 < c.length → a (c.getD (i + 1) 0) (c.getD i 0) ≠ BOT
structure Cyc (a : Nat → Nat → Int) (n : Nat) (c : List Nat) : Prop where
  ne : c ≠ []
  lt : ∀ v ∈ c, v < n
  path : pathP a c
  close : a (hdN c) (lsN c) ≠ BOT
theorem lsN_getD {c : List Nat} : lsN c = c.getD (c.length - 1) 0 := by
  cases c with
  | nil => rfl
  | cons x r =>
    unfold lsN
    rw [List.getLastD_eq_getLast?, List.getLast?_eq_getElem?, List.getD_eq_getElem?_getD]
theorem hdN_getD {c : List Nat} : hdN c = c.getD 0 0 := by cases c <;> rfl
theorem hdN_app {p q : List Nat} (h : p ≠ []) : hdN (p ++ q) = hdN p := by cases p with | nil => exact absurd rfl h | cons => rfl
theorem pathP_snoc {a : Nat → Nat → Int} {c : List Nat} {v : Nat} (h : pathP a c) (hv : a v (lsN c) ≠ BOT) : pathP a (c ++ [v]) := by
  intro i hi
  simp only [List.length_append, List.length_cons, List.length_nil] at hi
  by_cases h1 : i + 1 < c.length
  · have := h i h1
    simpa [List.getD_eq_getElem?_getD, List.getElem?_append_left h1, List.getElem?_append_left (show i < c.length by omega)] using this
  · have h2 : i + 1 = c.length := by omega
    have h3 : (c ++ [v]).getD (i + 1) 0 = v := by simp [List.getD_eq_getElem?_getD, h2]
    have h4 : (c ++ [v]).getD i 0 = lsN c := by
      rw [lsN_getD, ← h2]
      simp [List.getD_eq_getElem?_getD, List.getElem?_append_left (show i < c.length by omega)]
    rw [h3, h4]; exact hv
theorem growF_cyc {a : Nat → Nat → Int} {n : Nat} {over : Int} : ∀ {k : Nat} {path : List Nat} {w : Int}, path ≠ [] → (∀ v ∈ path, v < n) → pathP a path → growF a n over k path w ≠ [] → Cyc a n (growF a n over k path w)
  | 0, _, _, _, _, _, h => by simp [growF] at h
  | k + 1, path, w, h0, h1, h2, h => by
    unfold growF at h ⊢
    split
    · rename_i hc; exact ⟨h0, h1, h2, hc.1⟩
    · rename_i hc
      rw [if_neg hc] at h
      obtain ⟨v, hv, h3, h4⟩ := tryAll_mem h
      rw [h4]
      split at h3
      · exact absurd rfl h3
      · rename_i hn
        rw [if_neg hn]
        simp only [List.mem_range'_1] at hv
        exact growF_cyc (by simp) (fun u hu => by
          rcases List.mem_append.1 hu with hu | hu
          · exact h1 u hu
          · simp at hu; omega) (pathP_snoc h2 (fun e => hn (.inl e))) h3
theorem overF_cyc {a : Nat → Nat → Int} {n : Nat} {over : Int} (h : overF a n over ≠ []) : Cyc a n (overF a n over) := by
  obtain ⟨v, hv, h3, h4⟩ := tryAll_mem h
  simp only [List.mem_range'_1] at hv
  unfold overF
  rw [h4]
  exact growF_cyc (by simp) (by simp; omega) (fun i hi => by simp at hi) h3
/-- A cycle without a node twice, whose first node is its least one, is not overlooked. -/
theorem growF_finds {a : Nat → Nat → Int} {n : Nat} {c : List Nat} (ha : ∀ u v, a u v = BOT ∨ 0 ≤ a u v) (hc : Cyc a n c) (hmin : ∀ i, 0 < i → i < c.length → c.getD 0 0 < c.getD i 0) (hd : c.Nodup) :
    ∀ (k i : Nat) (w : Int), 0 ≤ w → 1 ≤ i → i ≤ c.length → c.length < k + i → growF a n (-1) k (c.take i) w ≠ []
  | 0, i, w, _, _, h2, h3 => by omega
  | k + 1, i, w, hw, h1, h2, h3 => by
    unfold growF
    have hhd : hdN (c.take i) = c.getD 0 0 := by rw [hdN_getD]; simp [List.getD_eq_getElem?_getD, List.getElem?_take, show 0 < i by omega]
    have hls : lsN (c.take i) = c.getD (i - 1) 0 := by
      rw [lsN_getD, List.length_take, Nat.min_eq_left h2, List.getD_eq_getElem?_getD, List.getElem?_take, if_pos (by omega), List.getD_eq_getElem?_getD]
    split
    · intro e
      have := congrArg List.length e
      rw [List.length_take, Nat.min_eq_left h2] at this; simp at this; omega
    · rename_i hno
      by_cases hi : i = c.length
      · exfalso
        apply hno
        have hcl := hc.close
        rw [hdN_getD, lsN_getD] at hcl
        rw [hhd, hls, hi]
        refine ⟨hcl, ?_⟩
        rcases ha (c.getD 0 0) (c.getD (c.length - 1) 0) with h | h
        · exact absurd h hcl
        · omega
      · have hi' : i < c.length := by omega
        rw [tryAll_ne]
        refine ⟨c.getD i 0, ?_, ?_⟩
        · rw [List.mem_range'_1, hhd]
          have h4 := hmin i (by omega) hi'
          have h5 : c.getD i 0 < n := hc.lt _ (by rw [List.getD_eq_getElem?_getD, List.getElem?_eq_getElem hi']; exact List.getElem_mem hi')
          omega
        · have harc := hc.path (i - 1) (by omega)
          rw [show i - 1 + 1 = i by omega] at harc
          rw [hls]
          rw [if_neg]
          · have : c.take i ++ [c.getD i 0] = c.take (i + 1) := by
              rw [List.take_succ_eq_append_getElem hi', List.getD_eq_getElem?_getD, List.getElem?_eq_getElem hi']; rfl
            rw [this]
            refine growF_finds ha hc hmin hd k (i + 1) _ ?_ (by omega) (by omega) (by omega)
            rcases ha (c.getD i 0) (c.getD (i - 1) 0) with h | h
            · exact absurd h harc
            · omega
          · rintro (h | h)
            · exact harc h
            · obtain ⟨j, hj, hje⟩ := List.getElem_of_mem h
              simp at hj
              rw [List.getElem_take, List.getD_eq_getElem?_getD, List.getElem?_eq_getElem hi', Option.getD_some] at hje
              have hpw := List.pairwise_iff_getElem.1 hd
              exact hpw j i (by omega) hi' (by omega) hje
end Go.Proofs.Ytcjidnpkeliieaa
end

section
namespace Go.Proofs.Ytcjidnpkeliieaa
set_option linter.unusedSimpArgs false
set_option linter.unusedVariables false

theorem nodup_le : ∀ (n : Nat) (l : List Nat), l.Nodup → (∀ x ∈ l, x < n) → l.length ≤ n
  | 0, l, _, h => by
    cases l with
    | nil => simp
    | cons x r => have := h x (by simp); omega
  | n + 1, l, hn, h => by
    by_cases hm : n ∈ l
    · have h1 := nodup_le n (l.erase n) (hn.erase n) (fun x hx => by
        have h2 := (hn.mem_erase_iff).1 hx
        have := h x h2.2
        omega)
      have := List.length_erase_of_mem hm
      omega
    · have := nodup_le n l hn (fun x hx => by
        have h1 := h x hx
        have : x ≠ n := fun e => hm (e ▸ hx)
        omega)
      omega
theorem nodup_sub : ∀ (l o : List Nat), l.Nodup → (∀ x ∈ l, x ∈ o) → l.length ≤ o.length
  | [], o, _, _ => by simp
  | x :: r, o, hn, h => by
    have hx := h x (by simp)
    obtain ⟨h1, h2⟩ := List.nodup_cons.1 hn
    have := nodup_sub r (o.erase x) h2 (fun y hy => (List.mem_erase_of_ne (fun e => h1 (by rw [← e]; exact hy))).2 (h y (by simp [hy])))
    have h3 := List.length_erase_of_mem hx
    have h4 := List.length_pos_of_mem hx
    simp; omega
/-- A list without a number twice, of all numbers below n, has each of them. -/
theorem nodup_full {n : Nat} {l : List Nat} (hn : l.Nodup) (h : ∀ x ∈ l, x < n) (hl : l.length = n) {x : Nat} (hx : x < n) : x ∈ l := by
  apply Classical.byContradiction
  intro hm
  have := nodup_le n (x :: l) (List.nodup_cons.2 ⟨hm, hn⟩) (fun y hy => by
    rcases List.mem_cons.1 hy with rfl | hy
    · exact hx
    · exact h y hy)
  simp at this; omega
def iter (f : Nat → Nat) : Nat → Nat → Nat
  | 0, x => x
  | k + 1, x => f (iter f k x)
theorem iter_add (f : Nat → Nat) : ∀ (i j x : Nat), iter f (i + j) x = iter f i (iter f j x)
  | 0, j, x => by simp [iter]
  | i + 1, j, x => by rw [show i + 1 + j = (i + j) + 1 by omega]; simp only [iter]; rw [iter_add f i j x]
theorem iter_lt {f : Nat → Nat} {n : Nat} (hf : ∀ x, x < n → f x < n) : ∀ (k x : Nat), x < n → iter f k x < n
  | 0, _, h => h
  | k + 1, x, h => hf _ (iter_lt hf k x h)
theorem exists_min (p : Nat → Prop) : ∀ (m : Nat), p m → ∃ k, p k ∧ ∀ j, p j → k ≤ j := by
  intro m
  induction m using Nat.strongRecOn with
  | _ m ih =>
    intro hm
    by_cases h : ∃ j, j < m ∧ p j
    · obtain ⟨j, hj, hp⟩ := h; exact ih j hj hp
    · exact ⟨m, hm, fun j hp => by
        apply Classical.byContradiction
        intro hlt
        exact h ⟨j, by omega, hp⟩⟩
/-- A function of finitely many numbers comes back: at its least number there. -/
theorem orbit {f : Nat → Nat} {n x0 : Nat} (hf : ∀ x, x < n → f x < n) (h0 : x0 < n) : ∃ v L m, v = iter f m x0 ∧ 0 < L ∧ iter f L v = v ∧ (∀ k, v ≤ iter f k v) ∧ ∀ s t, 0 < s → s < t → t ≤ L → iter f s v ≠ iter f t v := by
  have hrep : ∃ i j, i < j ∧ iter f i x0 = iter f j x0 := by
    apply Classical.byContradiction
    intro hno
    have hnd : ((List.range (n + 1)).map fun i => iter f i x0).Nodup := by
      rw [List.nodup_iff_pairwise_ne] <;> skip
      rw [List.pairwise_iff_getElem]
      intro i j hi hj hij e
      simp at e
      exact hno ⟨i, j, hij, e⟩
    have := nodup_le n _ hnd (fun x hx => by
      obtain ⟨i, _, rfl⟩ := List.mem_map.1 hx
      exact iter_lt hf i x0 h0)
    simp at this
    omega
  obtain ⟨i, j, hij, e⟩ := hrep
  have hp : iter f (j - i) (iter f i x0) = iter f i x0 := by
    rw [← iter_add, show j - i + i = j by omega, e]
  obtain ⟨v, ⟨t0, hv⟩, hmin⟩ := exists_min (fun y => ∃ t, iter f t (iter f i x0) = y) (iter f i x0) ⟨0, rfl⟩
  have hvp : iter f (j - i) v = v := by
    rw [← hv, ← iter_add, Nat.add_comm, iter_add, hp]
  obtain ⟨L, ⟨hL0, hL⟩, hLm⟩ := exists_min (fun L => 0 < L ∧ iter f L v = v) (j - i) ⟨by omega, hvp⟩
  refine ⟨v, L, t0 + i, by rw [iter_add, hv], hL0, hL, fun k => hmin _ ⟨k + t0, by rw [iter_add, hv]⟩, fun s t hs hst ht e2 => ?_⟩
  have h3 : iter f (L - t + s) v = v := by
    rw [iter_add, e2, ← iter_add, show L - t + t = L by omega, hL]
  have := hLm (L - t + s) ⟨by omega, h3⟩
  omega
/-- If each of some nodes waits for one of them, there is a cycle that the search finds. -/
theorem cyc_of_wait {a : Nat → Nat → Int} {n : Nat} {S : Nat → Prop} {x0 : Nat} (h0 : S x0) (hlt : ∀ x, S x → x < n) (hw : ∀ x, S x → ∃ u, S u ∧ a x u ≠ BOT) :
    ∃ c, Cyc a n c ∧ (∀ i, 0 < i → i < c.length → c.getD 0 0 < c.getD i 0) ∧ c.Nodup := by
  classical
  let f : Nat → Nat := fun x => if h : S x then Classical.choose (hw x h) else x0
  have hfS : ∀ x, S x → S (f x) ∧ a x (f x) ≠ BOT := fun x hx => by
    have : f x = Classical.choose (hw x hx) := by simp only [f]; rw [dif_pos hx]
    rw [this]
    exact Classical.choose_spec (hw x hx)
  have hfn : ∀ x, x < n → f x < n := fun x _ => by
    by_cases hx : S x
    · exact hlt _ (hfS x hx).1
    · simp only [f]; rw [dif_neg hx]; exact hlt _ h0
  obtain ⟨v, L, m, hv, hL0, hL, hmin, hdist⟩ := orbit hfn (hlt _ h0)
  have hSi : ∀ k, S (iter f k x0) := fun k => by
    induction k with
    | zero => exact h0
    | succ k ih => exact (hfS _ ih).1
  have hSv : ∀ k, S (iter f k v) := fun k => by rw [hv, ← iter_add]; exact hSi _
  have hget : ∀ i, i < L → ((List.range L).map fun t => iter f (L - t) v).getD i 0 = iter f (L - i) v := fun i hi => by
    simp [List.getD_eq_getElem?_getD, hi]
  have hlen : ((List.range L).map fun t => iter f (L - t) v).length = L := by simp
  have hstep : ∀ k, 0 < k → iter f k v = f (iter f (k - 1) v) := fun k hk => by
    obtain ⟨k', rfl⟩ : ∃ k', k = k' + 1 := ⟨k - 1, by omega⟩
    rfl
  refine ⟨(List.range L).map fun t => iter f (L - t) v, ⟨?_, ?_, ?_, ?_⟩, ?_, ?_⟩
  · intro e; have := congrArg List.length e; rw [hlen] at this; simp at this; omega
  · intro x hx
    obtain ⟨t, _, rfl⟩ := List.mem_map.1 hx
    exact hlt _ (hSv _)
  · intro i hi
    rw [hlen] at hi
    rw [hget (i + 1) hi, hget i (by omega), hstep (L - i) (by omega), show L - i - 1 = L - (i + 1) by omega]
    exact (hfS _ (hSv _)).2
  · rw [hdN_getD, lsN_getD, hlen, hget 0 hL0, hget (L - 1) (by omega), show L - 0 = L by omega, hL, show L - (L - 1) = 1 by omega]
    exact (hfS _ (hSv 0)).2
  · intro i hi hil
    rw [hlen] at hil
    rw [hget 0 hL0, hget i hil, show L - 0 = L by omega, hL]
    have h1 := hmin (L - i)
    have h2 := hdist (L - i) L (by omega) (by omega) (Nat.le_refl _)
    rw [hL] at h2
    omega
  · rw [List.nodup_iff_pairwise_ne] <;> skip
    rw [List.pairwise_iff_getElem]
    intro i j hi hj hij e
    simp at hi hj e
    exact hdist (L - j) (L - i) (by omega) (by omega) (by omega) e.symm

/-! ### Firing orders -/
/-- The least node that is not yet there and waits for none that is not there. -/
def nextE (w : Nat → Nat → Bool) (n : Nat) (ord : List Nat) : Option Nat := (List.range n).find? fun e => !ord.contains e && (List.range n).all fun u => !w e u || ord.contains u
def ordF (w : Nat → Nat → Bool) (n : Nat) : Nat → List Nat → Option (List Nat)
  | 0, ord => some ord
  | k + 1, ord => match nextE w n ord with
    | none => none
    | some e => ordF w n k (ord ++ [e])
structure OrdOk (w : Nat → Nat → Bool) (n : Nat) (ord : List Nat) : Prop where
  nd : ord.Nodup
  lt : ∀ x ∈ ord, x < n
  wait : ∀ i, i < ord.length → ∀ u, u < n → w (ord.getD i 0) u = true → u ∈ ord.take i
theorem OrdOk.nil {w : Nat → Nat → Bool} {n : Nat} : OrdOk w n [] := ⟨List.nodup_nil, fun x h => (by cases h), fun i h => (by simp at h)⟩
theorem nextE_some {w : Nat → Nat → Bool} {n : Nat} {ord : List Nat} {e : Nat} (h : nextE w n ord = some e) : e < n ∧ e ∉ ord ∧ ∀ u, u < n → w e u = true → u ∈ ord := by
  have h1 := List.mem_of_find?_eq_some h
  have h2 := List.find?_some h
  simp at h1 h2
  refine ⟨h1, h2.1, fun u hu hw => ?_⟩
  rcases h2.2 u hu with h3 | h3
  · rw [h3] at hw; cases hw
  · exact h3
theorem nextE_none {w : Nat → Nat → Bool} {n : Nat} {ord : List Nat} (h : nextE w n ord = none) {e : Nat} (he : e < n) (hn : e ∉ ord) : ∃ u, u < n ∧ w e u = true ∧ u ∉ ord := by
  have h1 := List.find?_eq_none.1 h e (by simpa using he)
  simp [hn] at h1
  obtain ⟨u, hu, h2, h3⟩ := h1
  exact ⟨u, hu, h2, h3⟩
theorem OrdOk.snoc {w : Nat → Nat → Bool} {n : Nat} {ord : List Nat} {e : Nat} (h : OrdOk w n ord) (hx : nextE w n ord = some e) : OrdOk w n (ord ++ [e]) := by
  obtain ⟨h1, h2, h3⟩ := nextE_some hx
  refine ⟨?_, fun x hx => ?_, fun i hi u hu hw => ?_⟩
  · rw [List.nodup_append]
    exact ⟨h.nd, by simp, fun a ha b hb => by simp at hb; subst hb; intro e2; subst e2; exact h2 ha⟩
  · rcases List.mem_append.1 hx with hx | hx
    · exact h.lt x hx
    · simp at hx; omega
  · by_cases hil : i < ord.length
    · have := h.wait i hil u hu (by simpa [List.getD_eq_getElem?_getD, List.getElem?_append_left hil] using hw)
      rwa [List.take_append_of_le_length (by omega)]
    · simp at hi
      have hie : i = ord.length := by omega
      subst hie
      have hw' : w e u = true := by simpa [List.getD_eq_getElem?_getD] using hw
      rw [List.take_append_of_le_length (Nat.le_refl _), List.take_length]
      exact h3 u hu hw'
theorem ordF_some {w : Nat → Nat → Bool} {n : Nat} : ∀ {k : Nat} {ord r : List Nat}, OrdOk w n ord → ordF w n k ord = some r → OrdOk w n r ∧ r.length = ord.length + k
  | 0, ord, r, h, e => by simp [ordF] at e; subst e; exact ⟨h, rfl⟩
  | k + 1, ord, r, h, e => by
    unfold ordF at e
    split at e
    · cases e
    · rename_i x hx
      obtain ⟨h1, h2⟩ := ordF_some (h.snoc hx) e
      exact ⟨h1, by simp at h2; omega⟩
theorem ordF_none {w : Nat → Nat → Bool} {n : Nat} : ∀ {k : Nat} {ord : List Nat}, OrdOk w n ord → ord.length + k = n → ordF w n k ord = none → ∃ o, OrdOk w n o ∧ o.length < n ∧ nextE w n o = none
  | 0, ord, h, _, e => by simp [ordF] at e
  | k + 1, ord, h, hl, e => by
    unfold ordF at e
    split at e
    · rename_i hx; exact ⟨ord, h, by omega, hx⟩
    · rename_i x hx
      exact ordF_none (h.snoc hx) (by simp; omega) e
/-- No order: a cycle. -/
theorem cyc_of_none {w : Nat → Nat → Bool} {a : Nat → Nat → Int} {n : Nat} (ha : ∀ e u, e < n → u < n → w e u = true → a e u ≠ BOT) (h : ordF w n n [] = none) :
    ∃ c, Cyc a n c ∧ (∀ i, 0 < i → i < c.length → c.getD 0 0 < c.getD i 0) ∧ c.Nodup := by
  obtain ⟨o, ho, hl, hx⟩ := ordF_none OrdOk.nil (by simp) h
  have : ∃ x0, x0 < n ∧ x0 ∉ o := by
    apply Classical.byContradiction
    intro hno
    have := nodup_sub (List.range n) o List.nodup_range (fun x hx => Classical.byContradiction fun hm => hno ⟨x, by simpa using hx, hm⟩)
    simp at this; omega
  obtain ⟨x0, h0, hm⟩ := this
  exact cyc_of_wait (S := fun x => x < n ∧ x ∉ o) (x0 := x0) ⟨h0, hm⟩ (fun x h => h.1) (fun x h => by
    obtain ⟨u, hu, h1, h2⟩ := nextE_none hx h.1 h.2
    exact ⟨u, ⟨hu, h2⟩, ha x u h.1 hu h1⟩)
/-- A cycle: no order. -/
theorem none_of_cyc {w : Nat → Nat → Bool} {a : Nat → Nat → Int} {n : Nat} {c : List Nat} (ha : ∀ e u, e < n → u < n → a e u ≠ BOT → w e u = true) (hc : Cyc a n c) : ordF w n n [] = none := by
  cases h : ordF w n n [] with
  | none => rfl
  | some ord =>
    exfalso
    obtain ⟨ho, hl⟩ := ordF_some OrdOk.nil h
    simp at hl
    have hmem : ∀ x, x < n → x ∈ ord := fun x hx => nodup_full ho.nd ho.lt hl hx
    have hpos : 0 < c.length := List.length_pos_iff.2 hc.ne
    have hclt : ∀ j, j < c.length → c.getD j 0 < n := fun j hj => hc.lt _ (by rw [List.getD_eq_getElem?_getD, List.getElem?_eq_getElem hj]; exact List.getElem_mem hj)
    have key : ∀ m, ∀ j, j < c.length → ord.getD m 0 = c.getD j 0 → m < ord.length → False := by
      intro m
      induction m using Nat.strongRecOn with
      | _ m ih =>
        intro j hj he hm
        have hpred : ∃ j', j' < c.length ∧ a (c.getD j 0) (c.getD j' 0) ≠ BOT := by
          by_cases h0 : j = 0
          · subst h0
            have := hc.close
            rw [hdN_getD, lsN_getD] at this
            exact ⟨c.length - 1, by omega, this⟩
          · have := hc.path (j - 1) (by omega)
            rw [show j - 1 + 1 = j by omega] at this
            exact ⟨j - 1, by omega, this⟩
        obtain ⟨j', hj', harc⟩ := hpred
        have hw := ha _ _ (hclt j hj) (hclt j' hj') harc
        have hin := ho.wait m hm _ (hclt j' hj') (by rw [he]; exact hw)
        obtain ⟨m', hm', hme⟩ := List.getElem_of_mem hin
        simp at hm'
        rw [List.getElem_take] at hme
        exact ih m' (by omega) j' hj' (by rw [List.getD_eq_getElem?_getD, List.getElem?_eq_getElem (by omega)]; exact hme) (by omega)
    obtain ⟨m, hm, hme⟩ := List.getElem_of_mem (hmem _ (hclt 0 hpos))
    exact key m 0 hpos (by rw [List.getD_eq_getElem?_getD, List.getElem?_eq_getElem hm]; exact hme) hm
/-- The search over all zero weights finds nothing exactly if there is an order. -/
theorem live_iff {w : Nat → Nat → Bool} {a : Nat → Nat → Int} {n : Nat} (h0 : ∀ u v, a u v = BOT ∨ 0 ≤ a u v) (ha : ∀ e u, e < n → u < n → (a e u ≠ BOT ↔ w e u = true)) : overF a n (-1) = [] ↔ ordF w n n [] ≠ none := by
  constructor
  · intro h hn
    obtain ⟨c, hc, hmin, hnd⟩ := cyc_of_none (fun e u he hu hw => (ha e u he hu).2 hw) hn
    have hpos : 0 < c.length := List.length_pos_iff.2 hc.ne
    have hlen := nodup_le n c hnd hc.lt
    have hf := growF_finds h0 hc hmin hnd n 1 0 (by omega) (by omega) (by omega) (by omega)
    have h1 : c.take 1 = [c.getD 0 0] := by cases c with | nil => simp at hpos | cons x r => simp
    rw [h1] at hf
    have : overF a n (-1) ≠ [] := tryAll_ne.2 ⟨c.getD 0 0, by
      rw [List.mem_range'_1]
      have := hc.lt (c.getD 0 0) (by rw [List.getD_eq_getElem?_getD, List.getElem?_eq_getElem hpos]; exact List.getElem_mem hpos)
      omega, hf⟩
    exact this h
  · intro h
    apply Classical.byContradiction
    intro hn
    exact h (none_of_cyc (fun e u he hu h => (ha e u he hu).1 h) (overF_cyc hn))
end Go.Proofs.Ytcjidnpkeliieaa
end

section
namespace Go.Proofs.Ytcjidnpkeliieaa
set_option linter.unusedSimpArgs false
set_option linter.unusedVariables false
open Go Go.RowKit
attribute [local irreducible] AL AD AW OpOk Le AC thenQ blockQ EndQ

abbrev IR (xs : List Int) : List (List D) := xs.map fun n => [DI n]
theorem IR_len {xs : List Int} : (IR xs).length = xs.length := by simp [IR]
theorem IR_get {xs : List Int} {k : Nat} {x : Int} (h : xs[k]? = some x) : (IR xs)[((k : Nat) : Int).toNat]? = some [DI x] := by simp [IR, h]
theorem IR_all {xs : List Int} : ∀ r ∈ IR xs, (r.map AV.d).all AV.one = true := fun r hr => by obtain ⟨p, _, rfl⟩ := List.mem_map.1 hr; rfl
theorem IR_row {xs : List Int} : ∀ r ∈ IR xs, r.length = 1 := fun r hr => by obtain ⟨p, _, rfl⟩ := List.mem_map.1 hr; rfl
theorem IR_plain {xs : List Int} : ∀ r ∈ IR xs, ∀ c ∈ r, ∃ v, c = D.v v := fun r hr c hc => by
  obtain ⟨p, _, rfl⟩ := List.mem_map.1 hr
  simp at hc; exact ⟨_, hc⟩
abbrev IL (xs : List Int) : AV := .d (.sl 1 (IR xs))
abbrev IO (xs : List Int) : AObj := dobj 1 (IR xs)
abbrev TR (t : List (List Int)) : List (List (List D)) := t.map IR
abbrev TD (t : List (List Int)) : D := .sl 1 (mRows 1 (TR t))
abbrev TL (t : List (List Int)) : AV := .d (TD t)
theorem TR_len {t : List (List Int)} : (TR t).length = t.length := by simp [TR]
theorem mTR_len {t : List (List Int)} : (mRows 1 (TR t)).length = t.length := by simp [TR, mRows]
theorem TR_get {t : List (List Int)} {k : Nat} {r : List Int} (h : t[k]? = some r) : (mRows 1 (TR t))[((k : Nat) : Int).toNat]? = some [.sl 1 (IR r)] := by simp [TR, mRows, h]
theorem TR_plain {t : List (List Int)} : plainR (TR t) := fun x hx r hr c hc => by
  obtain ⟨y, _, rfl⟩ := List.mem_map.1 hx
  exact IR_plain r hr c hc
theorem l01Has_ac (xs : List Int) (y : Int) (hn : xs.length ≤ 100000000) : AC Try.prog 218 [IL xs, I y] H0 (Bo (xs.any (fun x => decide (x = y)))) H0 := by
  refine AC.of_body 0 Try.func218 rfl (fun l h => absurd rfl h) (fun C hC => ?_)
  have hD : ∀ l, ¬ C.D0 l := fun l h => (hC l).1 h rfl
  simp only [startFr, Try.ntmps218, List.length_cons, List.length_nil, Nat.reduceAdd, Nat.reduceSub, List.replicate_succ, List.replicate_zero, List.cons_append, List.nil_append]
  repeat' (first | refine Qa ?_ | ((first | apply Ba | (apply Bb; (· rfl); (· rfl)) | (apply Bc; (· exact nxE)) | (apply Bd; (· rfl); (· rfl); (· exact nxE))); (· first | exact Ok.pe); (first | refine Na ?_ | refine Nb ?_)) | ((first | apply Ca | (apply Cb; (· exact nxE))); (· first | exact Ok.e0); (first | refine Nc ?_ | refine Nd ?_)) | refine Oa ?_ | refine Ob ?_ | ((first | refine Ga (fun h => ?_) (fun h => ?_) | refine AD.gsplit rfl rfl (fun h => ?_) (fun h => ?_)) <;> try (exfalso; omega; done)) | (first | refine AL.gsplitB rfl rfl (fun h => ?_) (fun h => ?_) | refine AD.gsplitB rfl rfl (fun h => ?_) (fun h => ?_)) | refine Fa ?_ | refine Qb ?_ | refine Qc ?_ | refine Qd ?_ | refine Fb ?_ | refine Qe ?_ | refine Wa ?_ | refine Wb ?_ | (refine AW.ite rfl (fun h => ?_) (fun h => ?_) <;> try (exfalso; omega; done)) | refine AW.cond _ rfl (fun h => ?_) (fun h => ?_) | refine Qf ?_ | refine Qg ?_ | refine Qh ?_ | refine Qi ?_ | refine Xa ?_ | refine Xb ?_ | refine Xc ?_ | refine Xd ?_ | refine Fc ?_)
  refine AW.loop (X := {k : Nat // k ≤ xs.length ∧ xs.any (fun x => decide (x = y)) = (xs.drop k).any (fun x => decide (x = y))}) (fun k => ⟨[IL xs, I y, Oo, Oo, Oo, I (k.1 : Nat), Oo, Oo, Oo, Oo, Oo, Oo, Oo, Oo, Oo, Oo, Oo, Oo], heapL [], 900⟩) (fun k => xs.length - k.1) ⟨0, Nat.zero_le _, by simp⟩ ?_ (fun k => ?_)
  ·
    (apply Le.headZ [] rfl)
    all_goals (try dsimp only [srcs])
    (case' hfr | hob => (repeat' (first | refine La ?_ ?_ | exact Lc | refine Lo ?_ | refine ⟨⟨_, rfl, ?_⟩, ?_⟩ | refine ObA.box ?_ | refine ObA.frE ?_ | refine ObA.dataE ?_ | refine ARs.agg ?_ | refine ARs.tup ?_ | refine AR.b ?_ | refine AR.iE ?_ | refine AR.e ?_ | refine AR.clo' ARs.nil ?_)))
    all_goals (first | (rfl) | exact Ld)
  obtain ⟨k, hk, hall⟩ := k
  simp only
  by_cases hlt : k < xs.length
  · obtain ⟨x, hx⟩ : ∃ x, xs[k]? = some x := ⟨xs[k], by simp⟩
    have hrow := IR_get hx
    have hdr : xs.drop k = x :: xs.drop (k + 1) := by
      obtain ⟨hk', rfl⟩ := List.getElem?_eq_some_iff.1 hx
      exact List.drop_eq_getElem_cons hk'
    repeat' (first | refine Qa ?_ | ((first | apply Ba | (apply Bb; (· rfl); (· rfl)) | (apply Bc; (· exact nxE)) | (apply Bd; (· rfl); (· rfl); (· exact nxE))); (· first | exact Ok.pe); (first | refine Na ?_ | refine Nb ?_)) | ((first | apply Ca | (apply Cb; (· exact nxE))); (· first | exact Ok.e0); (first | refine Nc ?_ | refine Nd ?_)) | refine Oa ?_ | refine Ob ?_ | ((first | refine Ga (fun h => ?_) (fun h => ?_) | refine AD.gsplit rfl rfl (fun h => ?_) (fun h => ?_)) <;> try (exfalso; omega; done)) | (first | refine AL.gsplitB rfl rfl (fun h => ?_) (fun h => ?_) | refine AD.gsplitB rfl rfl (fun h => ?_) (fun h => ?_)) | refine Fa ?_ | refine Qb ?_ | refine Qc ?_ | refine Qd ?_ | refine Fb ?_ | refine Qe ?_ | refine Wa ?_ | refine Wb ?_ | (refine AW.ite rfl (fun h => ?_) (fun h => ?_) <;> try (exfalso; omega; done)) | refine AW.cond _ rfl (fun h => ?_) (fun h => ?_) | refine Qf ?_ | refine Qg ?_ | refine Qh ?_ | refine Qi ?_ | refine Xa ?_ | refine Xb ?_ | refine Xc ?_ | refine Xd ?_ | refine Fc ?_)
    ·
      refine Ya ?_
      (apply Le.headZ (hs := []) [] rfl)
      all_goals (try dsimp only [srcs])
      (case' hfr => (repeat' (first | refine La ?_ ?_ | exact Lc | refine Lo ?_ | refine ⟨⟨_, rfl, ?_⟩, ?_⟩ | refine ObA.box ?_ | refine ObA.frE ?_ | refine ObA.dataE ?_ | refine ARs.agg ?_ | refine ARs.tup ?_ | refine AR.b ?_ | refine AR.iE ?_ | refine AR.e ?_ | refine AR.clo' ARs.nil ?_)))
      all_goals (first | exact Ld | exact trivial | ((rw [hall, hdr]; simp [h])))
    · refine ⟨⟨k + 1, by omega, by rw [hall, hdr]; simp [h]⟩, ?_, by simp only; omega⟩
      (apply Le.headZ [] rfl)
      all_goals (try dsimp only [srcs])
      (case' hfr | hob => (repeat' (first | refine La ?_ ?_ | exact Lc | refine Lo ?_ | refine ⟨⟨_, rfl, ?_⟩, ?_⟩ | refine ObA.box ?_ | refine ObA.frE ?_ | refine ObA.dataE ?_ | refine ARs.agg ?_ | refine ARs.tup ?_ | refine AR.b ?_ | refine AR.iE ?_ | refine AR.e ?_ | refine AR.clo' ARs.nil ?_)))
      all_goals (first | (rfl) | exact Ld)
  ·
    repeat' (first | refine Qa ?_ | ((first | apply Ba | (apply Bb; (· rfl); (· rfl)) | (apply Bc; (· exact nxE)) | (apply Bd; (· rfl); (· rfl); (· exact nxE))); (· first | exact Ok.pe); (first | refine Na ?_ | refine Nb ?_)) | ((first | apply Ca | (apply Cb; (· exact nxE))); (· first | exact Ok.e0); (first | refine Nc ?_ | refine Nd ?_)) | refine Oa ?_ | refine Ob ?_ | ((first | refine Ga (fun h => ?_) (fun h => ?_) | refine AD.gsplit rfl rfl (fun h => ?_) (fun h => ?_)) <;> try (exfalso; omega; done)) | (first | refine AL.gsplitB rfl rfl (fun h => ?_) (fun h => ?_) | refine AD.gsplitB rfl rfl (fun h => ?_) (fun h => ?_)) | refine Fa ?_ | refine Qb ?_ | refine Qc ?_ | refine Qd ?_ | refine Fb ?_ | refine Qe ?_ | refine Wa ?_ | refine Wb ?_ | (refine AW.ite rfl (fun h => ?_) (fun h => ?_) <;> try (exfalso; omega; done)) | refine AW.cond _ rfl (fun h => ?_) (fun h => ?_) | refine Qf ?_ | refine Qg ?_ | refine Qh ?_ | refine Qi ?_ | refine Xa ?_ | refine Xb ?_ | refine Xc ?_ | refine Xd ?_ | refine Fc ?_)
    refine Ya ?_
    (apply Le.headZ (hs := []) [] rfl)
    all_goals (try dsimp only [srcs])
    (case' hfr => (repeat' (first | refine La ?_ ?_ | exact Lc | refine Lo ?_ | refine ⟨⟨_, rfl, ?_⟩, ?_⟩ | refine ObA.box ?_ | refine ObA.frE ?_ | refine ObA.dataE ?_ | refine ARs.agg ?_ | refine ARs.tup ?_ | refine AR.b ?_ | refine AR.iE ?_ | refine AR.e ?_ | refine AR.clo' ARs.nil ?_)))
    all_goals (first | exact Ld | exact trivial | ((rw [hall, List.drop_of_length_le (by omega)]; rfl)))
theorem l01Own_ac (xs : List Int) (hn : xs.length ≤ 100000000) : AC Try.prog 180 [IL xs] H0 (own1 1 xs.length) (hp1 (IO xs)) := by
  refine AC.of_body 0 Try.func180 rfl (fun l h => absurd rfl h) (fun C hC => ?_)
  have hD : ∀ l, ¬ C.D0 l := fun l h => (hC l).1 h rfl
  simp only [startFr, Try.ntmps180, List.length_cons, List.length_nil, Nat.reduceAdd, Nat.reduceSub, List.replicate_succ, List.replicate_zero, List.cons_append, List.nil_append]
  repeat' (first | refine Qa ?_ | ((first | apply Ba | (apply Bb; (· rfl); (· rfl)) | (apply Bc; (· exact nxE)) | (apply Bd; (· rfl); (· rfl); (· exact nxE))); (· first | exact Ok.appendD (rows := []) rfl rfl (by decide) rfl rfl rfl rfl IR_len IR_row IR_all (by omega) (by omega) | exact Ok.pe); (first | refine Na ?_ | refine Nb ?_)) | ((first | apply Ca | (apply Cb; (· exact nxE))); (· first | exact Ok.appendD (rows := []) rfl rfl (by decide) rfl rfl rfl rfl IR_len IR_row IR_all (by omega) (by omega) | exact Ok.e0); (first | refine Nc ?_ | refine Nd ?_)) | refine Oa ?_ | refine Ob ?_ | ((first | refine Ga (fun h => ?_) (fun h => ?_) | refine AD.gsplit rfl rfl (fun h => ?_) (fun h => ?_)) <;> try (exfalso; omega; done)) | (first | refine AL.gsplitB rfl rfl (fun h => ?_) (fun h => ?_) | refine AD.gsplitB rfl rfl (fun h => ?_) (fun h => ?_)) | refine Fa ?_ | refine Qb ?_ | refine Qc ?_ | refine Qd ?_ | refine Fb ?_ | refine Qe ?_ | refine Wa ?_ | refine Wb ?_ | (refine AW.ite rfl (fun h => ?_) (fun h => ?_) <;> try (exfalso; omega; done)) | refine AW.cond _ rfl (fun h => ?_) (fun h => ?_) | refine Qf ?_ | refine Qg ?_ | refine Qh ?_ | refine Qi ?_ | refine Xa ?_ | refine Xb ?_ | refine Xc ?_ | refine Xd ?_ | refine Fc ?_)
  refine Ya ?_
  (apply Le.head [(⟨0, []⟩, _, _)])
  (case' hfr | hob => (repeat' (first | refine La ?_ ?_ | exact Lc | refine Lo ?_ | refine ⟨⟨_, rfl, ?_⟩, ?_⟩ | refine ObA.box ?_ | refine ObA.frE ?_ | refine ObA.dataE ?_ | refine ARs.agg ?_ | refine ARs.tup ?_ | refine AR.b ?_ | refine AR.iE ?_ | refine AR.e ?_ | refine AR.clo' ARs.nil ?_)))
  all_goals (first | exact Ld | (rfl))
end Go.Proofs.Ytcjidnpkeliieaa
end

section
namespace Go.Proofs.Ytcjidnpkeliieaa
set_option linter.unusedSimpArgs false
set_option linter.unusedVariables false
open Go Go.RowKit
attribute [local irreducible] AL AD AW OpOk Le AC thenQ blockQ EndQ

def entN (t : List (List Int)) (i j : Nat) : Int := (((t[i]?).getD [])[j]?).getD 0
structure Sq (t : List (List Int)) (n : Nat) : Prop where
  l : t.length = n
  r : ∀ r ∈ t, r.length = n
theorem Sq.get {t : List (List Int)} {n i j : Nat} (h : Sq t n) (hi : i < n) (hj : j < n) : ∃ r, t[i]? = some r ∧ r[j]? = some (entN t i j) ∧ r.length = n := by
  have h1 : i < t.length := by rw [h.l]; exact hi
  have h2 := h.r t[i] (List.getElem_mem h1)
  refine ⟨t[i], List.getElem?_eq_getElem h1, ?_, h2⟩
  unfold entN
  rw [List.getElem?_eq_getElem h1, Option.getD_some, List.getElem?_eq_getElem (by rw [h2]; exact hj), Option.getD_some]
abbrev cN (p : List Nat) : List Int := p.map fun v : Nat => (v : Int)
theorem any_cN {p : List Nat} {v : Nat} : (cN p).any (fun x => decide (x = (v : Int))) = decide (v ∈ p) := by
  rw [Bool.eq_iff_iff]
  simp only [List.any_map, List.any_eq_true, Function.comp_def, decide_eq_true_eq]
  constructor
  · rintro ⟨x, hx, e⟩; have : x = v := by omega
    subst this; exact hx
  · intro h; exact ⟨v, h, rfl⟩
theorem range'_cons {v n : Nat} (h : v < n) : List.range' v (n - v) = v :: List.range' (v + 1) (n - (v + 1)) := by
  rw [show n - v = (n - (v + 1)) + 1 by omega, List.range'_succ]
def bigB (t : List (List Int)) : Prop := ∀ i j, entN t i j = -1000000000000000 ∨ (-1000000000000 ≤ entN t i j ∧ entN t i j ≤ 1000000000000)
set_option maxHeartbeats 2000000 in
theorem l03Grow_ac (t : List (List Int)) (n : Nat) (ht : Sq t n) (hn : n ≤ 1000) (hb : bigB t) (over : Int) : ∀ (k : Nat) (path : List Nat) (w : Int), path ≠ [] → (∀ v ∈ path, v < n) → path.Nodup → path.length + k = n + 1 → (-1000000000000 * (path.length : Int) ≤ w ∧ w ≤ 1000000000000 * (path.length : Int)) →
    AC Try.prog 207 [TL t, IL (cN path), I w, I over] H0 (IL (cN (growF (entN t) n over k path w))) H0
  | 0, path, w, h0, h1, h2, h3, _ => by
    have := nodup_le n path h2 h1
    omega
  | k + 1, path, w, h0, h1, h2, h3, hw => by
    have ih := l03Grow_ac t n ht hn hb over k
    have hpl : 0 < path.length := List.length_pos_iff.2 h0
    have hpn := nodup_le n path h2 h1
    have hfn : hdN path < n := h1 _ (by rw [hdN_getD, List.getD_eq_getElem?_getD, List.getElem?_eq_getElem hpl]; exact List.getElem_mem hpl)
    have hln : lsN path < n := h1 _ (by rw [lsN_getD, List.getD_eq_getElem?_getD, List.getElem?_eq_getElem (by omega)]; exact List.getElem_mem _)
    have h00 : (IR (cN path))[(0 : Int).toNat]? = some [DI (hdN path)] := by
      rw [hdN_getD, List.getD_eq_getElem?_getD]; simp [List.getElem?_eq_getElem hpl]
    have hls : (IR (cN path))[((path.length : Int) - 1).toNat]? = some [DI (lsN path)] := by
      rw [lsN_getD, List.getD_eq_getElem?_getD, show ((path.length : Int) - 1).toNat = path.length - 1 by omega]; simp [List.getElem?_eq_getElem (show path.length - 1 < path.length by omega)]
    obtain ⟨rf, hf1, hf2, hf3⟩ := ht.get hfn hln
    have hf := TR_get hf1
    have hfl := IR_get hf2
    have hbf := hb (hdN path) (lsN path)
    rw [growF, show BOT = -1000000000000000 from rfl]
    refine AC.of_body 0 Try.func207 rfl (fun l h => absurd rfl h) (fun C hC => ?_)
    have hD : ∀ l, ¬ C.D0 l := fun l h => (hC l).1 h rfl
    simp only [startFr, Try.ntmps207, List.length_cons, List.length_nil, Nat.reduceAdd, Nat.reduceSub, List.replicate_succ, List.replicate_zero, List.cons_append, List.nil_append]
    repeat' (first | refine Qa ?_ | ((first | apply Ba | (apply Bb; (· rfl); (· rfl)) | (apply Bc; (· exact nxE)) | (apply Bd; (· rfl); (· rfl); (· exact nxE))); (· first | exact Ok.pe); (first | refine Na ?_ | refine Nb ?_)) | ((first | apply Ca | (apply Cb; (· exact nxE))); (· first | exact Ok.e0); (first | refine Nc ?_ | refine Nd ?_)) | refine Oa ?_ | refine Ob ?_ | ((first | refine Ga (fun h => ?_) (fun h => ?_) | refine AD.gsplit rfl rfl (fun h => ?_) (fun h => ?_)) <;> try (exfalso; omega; done)) | (first | refine AL.gsplitB rfl rfl (fun h => ?_) (fun h => ?_) | refine AD.gsplitB rfl rfl (fun h => ?_) (fun h => ?_)) | refine Fa ?_ | refine Qb ?_ | refine Qc ?_ | refine Qd ?_ | refine Fb ?_ | refine Qe ?_ | refine Wa ?_ | refine Wb ?_ | (refine AW.ite rfl (fun h => ?_) (fun h => ?_) <;> try (exfalso; omega; done)) | refine AW.cond _ rfl (fun h => ?_) (fun h => ?_) | refine Qf ?_ | refine Qg ?_ | refine Qh ?_ | refine Qi ?_ | refine Xa ?_ | refine Xb ?_ | refine Xc ?_ | refine Xd ?_ | refine Fc ?_)
    ·
      refine Ya ?_
      (apply Le.headZ (hs := []) [] rfl)
      all_goals (try dsimp only [srcs])
      (case' hfr => (repeat' (first | refine La ?_ ?_ | exact Lc | refine Lo ?_ | refine ⟨⟨_, rfl, ?_⟩, ?_⟩ | refine ObA.box ?_ | refine ObA.frE ?_ | refine ObA.dataE ?_ | refine ARs.agg ?_ | refine ARs.tup ?_ | refine AR.b ?_ | refine AR.iE ?_ | refine AR.e ?_ | refine AR.clo' ARs.nil ?_)))
      all_goals (first | exact Ld | exact trivial | ((rw [if_pos ⟨by assumption, by assumption⟩]; done)))
    all_goals
      have hno : ¬ (entN t (hdN path) (lsN path) ≠ -1000000000000000 ∧ over < w + entN t (hdN path) (lsN path)) := by omega
      simp only [if_neg hno]
      generalize hf0 : (fun v => if entN t v (lsN path) = -1000000000000000 ∨ v ∈ path then [] else growF (entN t) n over k (path ++ [v]) (w + entN t v (lsN path))) = f
      refine AW.loop (X := {v : Nat // hdN path + 1 ≤ v ∧ v ≤ n ∧ tryAll f (List.range' (hdN path + 1) (n - (hdN path + 1))) = tryAll f (List.range' v (n - v))}) (fun v => ⟨[TL t, IL (cN path), I w, I over, Oo, Oo, Oo, Oo, Oo, Oo, I (lsN path : Nat), I (v.1 : Nat), Oo, Oo, Oo, Oo, Oo, Oo, Oo, Oo, Oo, Oo, Oo, Oo, Oo, Oo, Oo, Oo, Oo, Oo, Oo, Oo, Oo, Oo, Oo, Oo, Oo, Oo, Oo, Oo, Oo, Oo, Oo, Oo, Oo, Oo, Oo, Oo, Oo, Oo, Oo, Oo, Oo, Oo, Oo, Oo, Oo, Oo, Oo, Oo, Oo, Oo, Oo, Oo, Oo, Oo, Oo, Oo, Oo, Oo, Oo, Oo, Oo, Oo, Oo, Oo, Oo, Oo, Oo, Oo, Oo, Oo, Oo, Oo, Oo, Oo], heapL [], 900⟩) (fun v => n - v.1) ⟨hdN path + 1, Nat.le_refl _, by omega, rfl⟩ ?_ (fun v => ?_)
      ·
        (apply Le.headZ [] rfl)
        all_goals (try dsimp only [srcs])
        (case' hfr | hob => (repeat' (first | refine La ?_ ?_ | exact Lc | refine Lo ?_ | refine ⟨⟨_, rfl, ?_⟩, ?_⟩ | refine ObA.box ?_ | refine ObA.frE ?_ | refine ObA.dataE ?_ | refine ARs.agg ?_ | refine ARs.tup ?_ | refine AR.b ?_ | refine AR.iE ?_ | refine AR.e ?_ | refine AR.clo' ARs.nil ?_)))
        all_goals (first | (rfl) | exact Ld)
      obtain ⟨v, hv1, hv2, hv3⟩ := v
      simp only
      have htl := ht.l
      by_cases hlt : v < n
      · obtain ⟨rv, hv4, hv5, hv6⟩ := ht.get hlt hln
        have hvr := TR_get hv4
        have hvl := IR_get hv5
        have hbv := hb v (lsN path)
        have hst := range'_cons hlt
        rw [hst, tryAll] at hv3
        have hfv : f v = if entN t v (lsN path) = -1000000000000000 ∨ v ∈ path then [] else growF (entN t) n over k (path ++ [v]) (w + entN t v (lsN path)) := by rw [← hf0]
        have hH := l01Has_ac (cN path) (v : Int) (by simp; omega)
        rw [any_cN] at hH
        by_cases hskip : entN t v (lsN path) = -1000000000000000 ∨ v ∈ path
        · rw [if_pos hskip] at hfv
          have hnx : tryAll f (List.range' (hdN path + 1) (n - (hdN path + 1))) = tryAll f (List.range' (v + 1) (n - (v + 1))) := by rw [hv3, hfv]; simp
          repeat' (first | refine Qa ?_ | ((first | apply Ba | (apply Bb; (· rfl); (· rfl)) | (apply Bc; (· exact nxE)) | (apply Bd; (· rfl); (· rfl); (· exact nxE))); (· first | exact Kz rfl rfl (hH) (Ad (Ad An)) | exact Ok.pe); (first | refine Na ?_ | refine Nb ?_)) | ((first | apply Ca | (apply Cb; (· exact nxE))); (· first | exact Ok.e0); (first | refine Nc ?_ | refine Nd ?_)) | refine Oa ?_ | refine Ob ?_ | ((first | refine Ga (fun h => ?_) (fun h => ?_) | refine AD.gsplit rfl rfl (fun h => ?_) (fun h => ?_)) <;> try (exfalso; omega; done)) | (first | refine AL.gsplitB rfl rfl (fun h => ?_) (fun h => ?_) | refine AD.gsplitB rfl rfl (fun h => ?_) (fun h => ?_)) | refine Fa ?_ | refine Qb ?_ | refine Qc ?_ | refine Qd ?_ | refine Fb ?_ | refine Qe ?_ | refine Wa ?_ | refine Wb ?_ | (refine AW.ite rfl (fun h => ?_) (fun h => ?_) <;> try (exfalso; omega; done)) | refine AW.cond _ rfl (fun h => ?_) (fun h => ?_) | refine Qf ?_ | refine Qg ?_ | refine Qh ?_ | refine Qi ?_ | refine Xa ?_ | refine Xb ?_ | refine Xc ?_ | refine Xd ?_ | refine Fc ?_)
          all_goals try (exfalso; rcases hskip with h5 | h5 <;> contradiction)
          all_goals
            refine ⟨⟨v + 1, by omega, by omega, hnx⟩, ?_, by simp only; omega⟩
            (apply Le.headZ [] rfl)
            all_goals (try dsimp only [srcs])
            (case' hfr | hob => (repeat' (first | refine La ?_ ?_ | exact Lc | refine Lo ?_ | refine ⟨⟨_, rfl, ?_⟩, ?_⟩ | refine ObA.box ?_ | refine ObA.frE ?_ | refine ObA.dataE ?_ | refine ARs.agg ?_ | refine ARs.tup ?_ | refine AR.b ?_ | refine AR.iE ?_ | refine AR.e ?_ | refine AR.clo' ARs.nil ?_)))
            all_goals (first | (rfl) | exact Ld)
        · have hG := ih (path ++ [v]) (w + entN t v (lsN path)) (by simp) (fun u hu => by
            rcases List.mem_append.1 hu with hu | hu
            · exact h1 u hu
            · simp at hu; omega) (List.nodup_append.2 ⟨h2, by simp, fun a ha b hb e => by simp at hb; subst hb; subst e; exact hskip (.inr ha)⟩) (by simp; omega) (by simp; omega)
          have happ : IR (cN (path ++ [v])) = IR (cN path) ++ [[DI v]] := by simp
          unfold IL at hG
          rw [happ] at hG
          have hO := l01Own_ac (cN path) (by simp; omega)
          rw [show (cN path).length = path.length by simp] at hO
          repeat' (first | refine Qa ?_ | ((first | apply Ba | (apply Bb; (· rfl); (· rfl)) | (apply Bc; (· exact nxE)) | (apply Bd; (· rfl); (· rfl); (· exact nxE))); (· first | exact Kz rfl rfl (hH) (Ad (Ad An)) | exact Zf rfl rfl (hG) (Sd (Sw (Sd (Sd Sn)))) | exact Eo rfl rfl (hO) (Sd Sn) | exact Ok.append1 (row := [DI v]) rfl rfl (by decide) rfl rfl (by simp; done) rfl rfl rfl (by rfl) (by omega) (by omega) | exact Ok.pe); (first | refine Na ?_ | refine Nb ?_)) | ((first | apply Ca | (apply Cb; (· exact nxE))); (· first | exact Eo rfl rfl (hO) (Sd Sn) | exact Ok.append1 (row := [DI v]) rfl rfl (by decide) rfl rfl (by simp; done) rfl rfl rfl (by rfl) (by omega) (by omega) | exact Ok.e0); (first | refine Nc ?_ | refine Nd ?_)) | refine Oa ?_ | refine Ob ?_ | ((first | refine Ga (fun h => ?_) (fun h => ?_) | refine AD.gsplit rfl rfl (fun h => ?_) (fun h => ?_)) <;> try (exfalso; omega; done)) | (first | refine AL.gsplitB rfl rfl (fun h => ?_) (fun h => ?_) | refine AD.gsplitB rfl rfl (fun h => ?_) (fun h => ?_)) | refine Fa ?_ | refine Qb ?_ | refine Qc ?_ | refine Qd ?_ | refine Fb ?_ | refine Qe ?_ | refine Wa ?_ | refine Wb ?_ | (refine AW.ite rfl (fun h => ?_) (fun h => ?_) <;> try (exfalso; omega; done)) | refine AW.cond _ rfl (fun h => ?_) (fun h => ?_) | refine Qf ?_ | refine Qg ?_ | refine Qh ?_ | refine Qi ?_ | refine Xa ?_ | refine Xb ?_ | refine Xc ?_ | refine Xd ?_ | refine Fc ?_)
          all_goals try (exfalso; first | exact hskip (.inl (by assumption)) | exact hskip (.inr (by assumption)))
          ·
            refine Ya ?_
            (apply Le.headZ (hs := []) [] rfl)
            all_goals (try dsimp only [srcs])
            (case' hfr => (repeat' (first | refine La ?_ ?_ | exact Lc | refine Lo ?_ | refine ⟨⟨_, rfl, ?_⟩, ?_⟩ | refine ObA.box ?_ | refine ObA.frE ?_ | refine ObA.dataE ?_ | refine ARs.agg ?_ | refine ARs.tup ?_ | refine AR.b ?_ | refine AR.iE ?_ | refine AR.e ?_ | refine AR.clo' ARs.nil ?_)))
            all_goals (first | exact Ld | exact trivial | ((rw [hv3, hfv, if_neg hskip, if_pos (by intro e; rw [e] at h; simp at h)]; done)))
          · have hnx : tryAll f (List.range' (hdN path + 1) (n - (hdN path + 1))) = tryAll f (List.range' (v + 1) (n - (v + 1))) := by
              rw [hv3, hfv, if_neg hskip, if_neg (by intro e; exact h (by have := List.length_pos_iff.2 e; omega))]
            refine ⟨⟨v + 1, by omega, by omega, hnx⟩, ?_, by simp only; omega⟩
            (apply Le.headZ [] rfl)
            all_goals (try dsimp only [srcs])
            (case' hfr | hob => (repeat' (first | refine La ?_ ?_ | exact Lc | refine Lo ?_ | refine ⟨⟨_, rfl, ?_⟩, ?_⟩ | refine ObA.box ?_ | refine ObA.frE ?_ | refine ObA.dataE ?_ | refine ARs.agg ?_ | refine ARs.tup ?_ | refine AR.b ?_ | refine AR.iE ?_ | refine AR.e ?_ | refine AR.clo' ARs.nil ?_)))
            all_goals (first | (rfl) | exact Ld)
      ·
        rw [show n - v = 0 by omega, List.range'_zero] at hv3
        rw [hv3]
        repeat' (first | refine Qa ?_ | ((first | apply Ba | (apply Bb; (· rfl); (· rfl)) | (apply Bc; (· exact nxE)) | (apply Bd; (· rfl); (· rfl); (· exact nxE))); (· first | exact Ok.pe); (first | refine Na ?_ | refine Nb ?_)) | ((first | apply Ca | (apply Cb; (· exact nxE))); (· first | exact Ok.e0); (first | refine Nc ?_ | refine Nd ?_)) | refine Oa ?_ | refine Ob ?_ | ((first | refine Ga (fun h => ?_) (fun h => ?_) | refine AD.gsplit rfl rfl (fun h => ?_) (fun h => ?_)) <;> try (exfalso; omega; done)) | (first | refine AL.gsplitB rfl rfl (fun h => ?_) (fun h => ?_) | refine AD.gsplitB rfl rfl (fun h => ?_) (fun h => ?_)) | refine Fa ?_ | refine Qb ?_ | refine Qc ?_ | refine Qd ?_ | refine Fb ?_ | refine Qe ?_ | refine Wa ?_ | refine Wb ?_ | (refine AW.ite rfl (fun h => ?_) (fun h => ?_) <;> try (exfalso; omega; done)) | refine AW.cond _ rfl (fun h => ?_) (fun h => ?_) | refine Qf ?_ | refine Qg ?_ | refine Qh ?_ | refine Qi ?_ | refine Xa ?_ | refine Xb ?_ | refine Xc ?_ | refine Xd ?_ | refine Fc ?_)
        refine Ya ?_
        (apply Le.headZ (hs := []) [] rfl)
        all_goals (try dsimp only [srcs])
        (case' hfr => (repeat' (first | refine La ?_ ?_ | exact Lc | refine Lo ?_ | refine ⟨⟨_, rfl, ?_⟩, ?_⟩ | refine ObA.box ?_ | refine ObA.frE ?_ | refine ObA.dataE ?_ | refine ARs.agg ?_ | refine ARs.tup ?_ | refine AR.b ?_ | refine AR.iE ?_ | refine AR.e ?_ | refine AR.clo' ARs.nil ?_)))
        all_goals (first | exact Ld | exact trivial | (rfl))
end Go.Proofs.Ytcjidnpkeliieaa
end
