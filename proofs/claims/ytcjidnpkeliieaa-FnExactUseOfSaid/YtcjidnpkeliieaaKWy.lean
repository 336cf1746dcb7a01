/-
  The steps of a walk under short names; what is left to check as default arguments.
-/
import Derived.Test.YtcjidnpkeliieaaKA3
import Derived.Test.YtcjidnpkeliieaaKA2
namespace Go.Proofs.Ytcjidnpkeliieaa
set_option linter.unusedSimpArgs false
set_option linter.unusedVariables false
open Go Go.RowKit

abbrev Oo : AV := .dead
section
variable {P : Program} {C : Ctx} {ops : Array Oper} {Q : Exit → AS → Prop} {rest : List Oper} {fr : List AV} {H : Heap} {n t : Nat} {op : Op} {ty : TypeId} {pos : String} {after : Array Edge}
variable {n0 i : Nat} {Z : List AV → Heap → List TO → Prop} {acc : List TO}
def NA (P : Program) (C : Ctx) (ops : Array Oper) (Q : Exit → AS → Prop) (rest : List Oper) (fr : List AV) (H : Heap) (n : Nat) : Prop := AL P C ops Q rest ⟨fr, H, n⟩
def ND (P : Program) (ops : Array Oper) (n0 : Nat) (Z : List AV → Heap → List TO → Prop) (i : Nat) (rest : List Oper) (fr : List AV) (H : Heap) (acc : List TO) : Prop := AD P ops n0 Z i rest fr H acc
theorem Ba {reads : List Loc} {val : AV} {wr : List W} (h1 : OpOk P ⟨some t, op, ty, pos, after, none⟩ (evalF fr) reads H n val wr) (h2 : NA P C ops Q rest (fr.set t val) (upds H wr) (n + 1)) : AL P C ops Q (⟨some t, op, ty, pos, after, none⟩ :: rest) ⟨fr, H, n⟩ := AL.st h1 rfl rfl rfl h2
theorem Bb {reads : List Loc} {val : AV} {wr : List W} {g : Nat} {want : Bool} {u : Nat} (hg : (ops[g]?).bind (·.dst) = some u) (hf : fr[u]? = some (Bo want)) (h1 : OpOk P ⟨some t, op, ty, pos, after, some (g, want)⟩ (evalF fr) reads H n val wr) (h2 : NA P C ops Q rest (fr.set t val) (upds H wr) (n + 1)) :
    AL P C ops Q (⟨some t, op, ty, pos, after, some (g, want)⟩ :: rest) ⟨fr, H, n⟩ := AL.on hg hf h1 rfl rfl rfl h2
theorem Bc {new : Nat} {reads : List Loc} {val : AV} {wr : List W} (hnew : n0 + i = new) (h1 : OpOk P ⟨some t, op, ty, pos, after, none⟩ (evalF fr) reads H new val wr) (h2 : ND P ops n0 Z (i + 1) rest (fr.set t val) (upds H wr) (acc ++ [⟨i, ⟨some t, op, ty, pos, after, none⟩, ⟨val, reads, wr, true⟩⟩])) : AD P ops n0 Z i (⟨some t, op, ty, pos, after, none⟩ :: rest) fr H acc := AD.st hnew h1 rfl rfl rfl h2
theorem Bd {new : Nat} {reads : List Loc} {val : AV} {wr : List W} {g : Nat} {want : Bool} {u : Nat} (hg : (ops[g]?).bind (·.dst) = some u) (hf : fr[u]? = some (Bo want)) (hnew : n0 + i = new) (h1 : OpOk P ⟨some t, op, ty, pos, after, some (g, want)⟩ (evalF fr) reads H new val wr) (h2 : ND P ops n0 Z (i + 1) rest (fr.set t val) (upds H wr) (acc ++ [⟨i, ⟨some t, op, ty, pos, after, some (g, want)⟩, ⟨val, reads, wr, true⟩⟩])) : AD P ops n0 Z i (⟨some t, op, ty, pos, after, some (g, want)⟩ :: rest) fr H acc := AD.on hg hf hnew h1 rfl rfl rfl h2
theorem Ca {reads : List Loc} {val : AV} {wr : List W} (h1 : OpOk P ⟨none, op, ty, pos, after, none⟩ (evalF fr) reads H n val wr) (h2 : NA P C ops Q rest fr (upds H wr) (n + 1)) : AL P C ops Q (⟨none, op, ty, pos, after, none⟩ :: rest) ⟨fr, H, n⟩ := AL.st0 h1 rfl rfl h2
theorem Cb {new : Nat} {reads : List Loc} {val : AV} {wr : List W} (hnew : n0 + i = new) (h1 : OpOk P ⟨none, op, ty, pos, after, none⟩ (evalF fr) reads H new val wr) (h2 : ND P ops n0 Z (i + 1) rest fr (upds H wr) (acc ++ [⟨i, ⟨none, op, ty, pos, after, none⟩, ⟨val, reads, wr, true⟩⟩])) : AD P ops n0 Z i (⟨none, op, ty, pos, after, none⟩ :: rest) fr H acc := AD.st0 hnew h1 rfl rfl h2
theorem Na {val : AV} {wr : List W} {fr' : List AV} {H' : Heap} {n' : Nat} (h : AL P C ops Q rest ⟨fr', H', n'⟩) (e1 : fr.set t val = fr' := by simp only [List.set_cons_succ, List.set_cons_zero, List.take_succ_cons, List.drop_succ_cons, List.take_zero, List.drop_zero, List.take_nil, List.drop_nil, List.map_cons, List.map_nil]; exact rfl) (e2 : upds H wr = H' := by first | exact updsE | exact rfl) (e3 : n + 1 = n' := by first | (simp only [Nat.reduceAdd]; exact rfl) | exact rfl) : NA P C ops Q rest (fr.set t val) (upds H wr) (n + 1) := by subst e1 e2 e3; exact h
theorem Nb {val : AV} {wr : List W} {fr' : List AV} {H' : Heap} {i' : Nat} (h : AD P ops n0 Z i' rest fr' H' acc) (e1 : fr.set t val = fr' := by simp only [List.set_cons_succ, List.set_cons_zero, List.take_succ_cons, List.drop_succ_cons, List.take_zero, List.drop_zero, List.take_nil, List.drop_nil, List.map_cons, List.map_nil]; exact rfl) (e2 : upds H wr = H' := by first | exact updsE | exact rfl) (e3 : i + 1 = i' := by first | (simp only [Nat.reduceAdd]; exact rfl) | exact rfl) : ND P ops n0 Z (i + 1) rest (fr.set t val) (upds H wr) acc := by subst e1 e2 e3; exact h
theorem Nc {wr : List W} {H' : Heap} {n' : Nat} (h : AL P C ops Q rest ⟨fr, H', n'⟩) (e2 : upds H wr = H' := by exact rfl) (e3 : n + 1 = n' := by first | (simp only [Nat.reduceAdd]; exact rfl) | exact rfl) : NA P C ops Q rest fr (upds H wr) (n + 1) := by subst e2 e3; exact h
theorem Nd {wr : List W} {H' : Heap} {i' : Nat} (h : AD P ops n0 Z i' rest fr H' acc) (e2 : upds H wr = H' := by exact rfl) (e3 : i + 1 = i' := by first | (simp only [Nat.reduceAdd]; exact rfl) | exact rfl) : ND P ops n0 Z (i + 1) rest fr (upds H wr) acc := by subst e2 e3; exact h
theorem Oa {fr' : List AV} {n' : Nat} {g : Nat} {want : Bool} {v : Value} {u : Nat} (h2 : AL P C ops Q rest ⟨fr', H, n'⟩) (hg : (ops[g]?).bind (·.dst) = some u := by exact rfl) (hf : fr[u]? = some (.d (.v v)) := by exact rfl) (hb : (boolV v == some want) = false := by exact rfl) (hfr : fr.set t (.d (.v undef)) = fr' := by simp only [List.set_cons_succ, List.set_cons_zero, List.take_succ_cons, List.drop_succ_cons, List.take_zero, List.drop_zero, List.take_nil, List.drop_nil, List.map_cons, List.map_nil]; exact rfl) (hn : n + 1 = n' := by first | (simp only [Nat.reduceAdd]; exact rfl) | exact rfl) :
    AL P C ops Q (⟨some t, op, ty, pos, after, some (g, want)⟩ :: rest) ⟨fr, H, n⟩ := AL.off hg hf hb hfr hn h2
theorem Ob {fr' : List AV} {i' : Nat} {g : Nat} {want : Bool} {v : Value} {u : Nat} (h2 : AD P ops n0 Z i' rest fr' H (acc ++ [⟨i, ⟨some t, op, ty, pos, after, some (g, want)⟩, ⟨.d (.v undef), [], [], false⟩⟩])) (hg : (ops[g]?).bind (·.dst) = some u := by exact rfl) (hf : fr[u]? = some (.d (.v v)) := by exact rfl) (hb : (boolV v == some want) = false := by exact rfl) (hfr : fr.set t (.d (.v undef)) = fr' := by simp only [List.set_cons_succ, List.set_cons_zero, List.take_succ_cons, List.drop_succ_cons, List.take_zero, List.drop_zero, List.take_nil, List.drop_nil, List.map_cons, List.map_nil]; exact rfl) (hi : i + 1 = i' := by first | (simp only [Nat.reduceAdd]; exact rfl) | exact rfl) :
    AD P ops n0 Z i (⟨some t, op, ty, pos, after, some (g, want)⟩ :: rest) fr H acc := AD.off hg hf hb hfr hi h2
theorem Ga {g : Nat} {want : Bool} {u : Nat} {dst : Option Tmp} {p : Prop} [Decidable p] (h1 : p → AL P C ops Q (⟨dst, op, ty, pos, after, some (g, want)⟩ :: rest) ⟨fr.set u (Bo true), H, n⟩) (h0 : ¬ p → AL P C ops Q (⟨dst, op, ty, pos, after, some (g, want)⟩ :: rest) ⟨fr.set u (Bo false), H, n⟩) (hg : (ops[g]?).bind (·.dst) = some u := by exact rfl) (hf : fr[u]? = some (Bo (decide p)) := by exact rfl) :
    AL P C ops Q (⟨dst, op, ty, pos, after, some (g, want)⟩ :: rest) ⟨fr, H, n⟩ := AL.gsplit hg hf h1 h0
end
section
variable {P : Program} {C : Ctx} {Q : Exit → AS → Prop} {s : AS} {x y : Code} {c : Operand}
theorem Wa (h1 : AW P C x Q s) (hc : evalF s.fr c = Bo true := by exact rfl) : AW P C (.cond c x y) Q s := AW.condT hc h1
theorem Wb (h1 : AW P C y Q s) (hc : evalF s.fr c = Bo false := by exact rfl) : AW P C (.cond c x y) Q s := AW.condF hc h1
end
section
variable {P : Program} {C : Ctx} {Q : Exit → AS → Prop} {K : AS → Prop} {ops : Array Oper} {fr fr' : List AV} {H : Heap} {n : Nat} {s : AS} {id id' : Nat} {x y : Code}
theorem Fa {n0 i n' : Nat} {acc : List TO} (h : Q .normal ⟨fr', H, n'⟩) (hn : n = n' := by simp only [List.length_cons, List.length_nil, Nat.reduceAdd]; rfl) (hfr : fr = fr' := by exact rfl) (hp : allPairs ops acc = true := by kernel_rfl) : AD P ops n0 (fun fr H tr => allPairs ops tr = true ∧ Q .normal ⟨fr, H, n⟩) i [] fr H acc := AD.fin hn hfr hp h
theorem Fb {l : List Oper} (h : AD P l.toArray n (fun fr H tr => allPairs l.toArray tr = true ∧ Q .normal ⟨fr, H, n + l.length⟩) 0 l fr H []) (hm : P.follows .mixedOrders = true := by exact mixedA) (ht : textOk l.toArray = true := by kernel_rfl) : AW P C (.region id l.toArray true) Q ⟨fr, H, n⟩ := AW.dr hm ht h
theorem Fc (h : Q (.exit id') s) (hne : id' ≠ id := by decide) : blockQ id Q (.exit id') s := blockY hne h
theorem Qa (h : Q .normal s) : AL P C ops Q [] s := AL.nil h
theorem Qb (h : K s) : thenQ K Q .normal s := h
theorem Qc (h : AW P C x (thenQ (AW P C y Q) Q) s) : AW P C (.seq x y) Q s := AW.seq h
theorem Qd {l : List Oper} (h : AL P C l.toArray Q l ⟨fr, H, n⟩) : AW P C (.region id l.toArray false) Q ⟨fr, H, n⟩ := AW.reg h
theorem Qe (h : AW P C x (blockQ id Q) s) : AW P C (.block id x) Q s := AW.block h
theorem Qf (h : Q .ret s) : AW P C .ret Q s := AW.ret h
theorem Qg (h : Q (.exit id) s) : AW P C (.exit id) Q s := AW.exit h
theorem Qh (h : Q .normal s) : AW P C .skip Q s := AW.skip h
theorem Qi (h : Q .ret s) : thenQ K Q .ret s := h
theorem Xa (h : Q (.exit id) s) : thenQ K Q (.exit id) s := h
theorem Xb (h : Q .normal s) : blockQ id Q .normal s := h
theorem Xc (h : Q .ret s) : blockQ id Q .ret s := h
theorem Xd (h : Q .normal s) : blockQ id Q (.exit id) s := blockX h
end
/-! Calls. -/
section
variable {P : Program} {o : Oper} {A : Operand → AV} {H : Heap} {new : Nat} {fo : Operand} {xs : List Operand} {ts : Array TypeId} {f : FuncId} {caps args : List AV} {res res' : AV} {lent : List Loc} {cs cs' vs vs' : List AV}
theorem Kz (ho : o.op = .call { callee := .value fo, args := xs.toArray, argTypes := ts }) [FnBody P f] (hfo : A fo = .clo (.func f) [] caps) (hc : AC P f args H0 res H0) (hargs : ARs H (Cov []) id (fun _ => False) args (xs.map A ++ caps)) (hrn : ∀ g, rn g res = res := by intro _; simp [Go.Proofs.Ytcjidnpkeliieaa.rn]) : OpOk P o A [] H new res [] := OpOk.call0 [] ho hfo hc (.inl rfl) hrn hargs
theorem Ez (ho : o.op = .call { callee := .value fo, args := xs.toArray, argTypes := ts }) [FnBody P f] (hfo : A fo = .clo (.func f) [] caps) (hc : AC P f args H0 res H0) (hargs : CA H lent args (xs.map A ++ caps)) (hfree : FreeF res := by first | exact free_rowsPl | exact free_rowsEd | exact free_rowsG (fun _ => rfl) | (repeat' (first | exact FreeF.own _ _ _ _ | exact FreeF.v _ | refine FreeF.tup ?_ | refine FreeF.agg ?_ | refine FreeF.cons ?_ ?_ | exact FreeF.nil))) (hrn : ∀ g, rn g res = res := by intro _; simp [Go.Proofs.Ytcjidnpkeliieaa.rn]) : OpOk P o A lent H new res [] := Ok.c0 ho hfo hc hargs hfree hrn
theorem Eo {ob : AObj} (ho : o.op = .call { callee := .value fo, args := xs.toArray, argTypes := ts }) [FnBody P f] (hfo : A fo = .clo (.func f) [] caps) (hc : AC P f args H0 res (upd H0 ⟨0, []⟩ (some ob))) (hargs : CA H lent args (xs.map A ++ caps)) (hfree : FreeF res := by first | exact free_rowsPl | exact free_rowsEd | exact free_rowsG (fun _ => rfl) | (repeat' (first | exact FreeF.own _ _ _ _ | exact FreeF.v _ | refine FreeF.tup ?_ | refine FreeF.agg ?_ | refine FreeF.cons ?_ ?_ | exact FreeF.nil))) (hf' : ∀ r ∈ ob.rows, ∀ c ∈ r, FreeF c := by first | exact free_rowsPl | exact free_rowsEd | exact free_rowsG (fun _ => rfl) | (repeat' (first | exact FreeF.own _ _ _ _ | exact FreeF.v _ | refine FreeF.tup ?_ | refine FreeF.agg ?_ | refine FreeF.cons ?_ ?_ | exact FreeF.nil))) (hrn : ∀ g, rnO g ob = ob := by intro _; first | exact rnO_dobj _ _ _ | (simp [rnO_dobj]; done))
    (hr : rn (fun l => ⟨new, l.id :: l.sub⟩) res = res' := by simp only [Go.Proofs.Ytcjidnpkeliieaa.rn, List.map_cons, List.map_nil]; exact rfl) : OpOk P o A lent H new res' [.one ⟨new, [0]⟩ (some ob)] := Ok.c1 ho hfo hc hargs hfree hf' hrn hr
theorem Tb {ms : List MI} (ho : o.op = .call { callee := .value fo, args := xs.toArray, argTypes := ts }) [FnBody P f] (hfo : A fo = .clo (.func f) [] caps) (hc : AC P f args H0 res (heapX [] ms)) (hargs : CA H lent args (xs.map A ++ caps)) (hfree : FreeF res := by first | exact free_rowsPl | exact free_rowsEd | exact free_rowsG (fun _ => rfl) | (repeat' (first | exact FreeF.own _ _ _ _ | exact FreeF.v _ | refine FreeF.tup ?_ | refine FreeF.agg ?_ | refine FreeF.cons ?_ ?_ | exact FreeF.nil))) (hf2 : AllP (fun m => plainR m.R) ms := by exact ⟨TR_plain, trivial⟩) (hr : rn (relo new) res = res' := by simp only [Go.Proofs.Ytcjidnpkeliieaa.rn, List.map_cons, List.map_nil]; exact rfl) :
    OpOk P o A lent H new res' [.all new fun sub => heapX (reHL new []) (reML new ms) ⟨new, sub⟩] := OpOk.callX [] ms ho hfo hc hargs hfree trivial hf2 hr
theorem Zf (ho : o.op = .call { callee := .value fo, args := xs.toArray, argTypes := ts }) [FnBody P f] (hfo : A fo = .clo (.func f) [] caps) (hc : AC P f args H0 res H0) (hargs : CA H lent args (xs.map A ++ caps)) (hd : dataB res = true := by exact rfl) : OpOk P o A lent H new res (lent.map dropW) := OpOk.callZ ho hfo hc hargs (dataB_ok hd)
theorem Sn : CA H [] [] [] := CA.nil
theorem Sd {x : D} (h : CA H lent cs vs) : CA H lent (.d x :: cs) (.d x :: vs) := CA.d h
theorem Sw {k n : Nat} {l : Loc} {rows : List (List D)} (h : CA H lent cs vs) (hl : H l = some (dobj k rows) := by exact rfl) (hn : rows.length = n := by first | rfl | (simp; done) | (simp [mksE_len, mksP_len]; done) | (simp [rowF_len]; done)) : CA H (l :: lent) (.d (.sl k rows) :: cs) (.own k l 0 n :: vs) := CA.w hl hn h
theorem Sm {l : Loc} {n : Nat} {R : List (List (List D))} (h : CA H lent cs vs) (h1 : H l = some (outer l.at 1 R 0) := by exact rfl) (h2 : ∀ i x, R[i]? = some x → H (l.at i) = some (dobj 1 x) := by first | exact fun i x hx => congrArg (Option.map (dobj 1)) hx | exact fun i x hx => unAt hx) (hn : R.length = n := by first | rfl | assumption | (simp; done) | (simp; omega) | (simp [mkAt_len]; done)) :
    CA H (l :: lent) (.d (.sl 1 (mRows 1 R)) :: cs) (.own 1 l 0 n :: vs) := CA.m ⟨h1, h2⟩ hn h
theorem Sa {lent' : List Loc} (h' : CA H lent' cs' vs') (h : CA H lent cs vs) : CA H (lent' ++ lent) (.agg cs' :: cs) (.agg vs' :: vs) := CA.a h' h
theorem An {l : Loc → Prop} {τ : Loc → Loc} {L : Loc → Prop} : ARs H l τ L [] [] := ARs.nil
theorem Ad {l : Loc → Prop} {τ : Loc → Loc} {L : Loc → Prop} {x : D} (h : ARs H l τ L cs vs) : ARs H l τ L (.d x :: cs) (.d x :: vs) := ARs.cons (AR.dd x) h
theorem Aa {l : Loc → Prop} {τ : Loc → Loc} {L : Loc → Prop} (h' : ARs H l τ L cs' vs') (h : ARs H l τ L cs vs) : ARs H l τ L (.agg cs' :: cs) (.agg vs' :: vs) := ARs.cons (ARs.agg h') h
theorem Cg {α : Type} {R : List α} {g : α → AObj} (i : Nat) (x : α) (hx : R[i]? = some x) : Option.map g R[i]? = some (g x) := congrArg (Option.map g) hx
end
/-! States told anew. -/
theorem Lc {p : Prop} (h : p := by first | exact trivial | exact ARs.nil | exact AR.dead _ | exact AR.dd _ | exact AR.i (by (try dsimp only); omega) | exact AR.ptr _ _ _ _ (by first | (simp [heapL, upd]; done) | (simp [heapX, upd]; done) | (simp [heapX, heapM, upd, matG, Loc.cov, Loc.at]; done) | (simp [heapX, heapM, upd, matG, Loc.cov, Loc.at, tabF_len, TR_len, rowF_len, IR_len]; done) | (simp [heapX, heapM, upd, matG, Loc.cov, Loc.at]; omega) | (simp [heapX, heapM, upd, matG, Loc.cov, Loc.at, tabF_len, TR_len, rowF_len, IR_len]; omega)) | exact AR.own _ _ _ _ (by first | (simp [heapL, upd]; done) | (simp [heapX, upd]; done) | (simp [heapX, heapM, upd, matG, Loc.cov, Loc.at]; done) | (simp [heapX, heapM, upd, matG, Loc.cov, Loc.at, tabF_len, TR_len, rowF_len, IR_len]; done) | (simp [heapX, heapM, upd, matG, Loc.cov, Loc.at]; omega) | (simp [heapX, heapM, upd, matG, Loc.cov, Loc.at, tabF_len, TR_len, rowF_len, IR_len]; omega)) | exact ObA.data | exact AR.clo' ARs.nil ARs.nil | exact AR.clo' ARs.nil (hca _ _) | exact AR.whole rfl (by simp) (by first | rfl | assumption | (simp; done)) |
  exact AR.tab ⟨rfl, fun i x hx => congrArg (Option.map (dobj 1)) hx⟩ (by first | rfl | assumption | (simp; done) | (simp; omega)) (by simp [Cov, Loc.cov]; done) (by intro i; simp [Cov, Loc.cov, Loc.at]; done) | exact AR.d (DRel.nil _)) : p := h
section
variable {H : Heap} {lent : Loc → Prop} {τ : Loc → Loc} {L : Loc → Prop}
theorem Lo {k off n n' : Nat} {l : Loc} (hn : n = n') (h : L l := by first | (simp [heapL, upd]; done) | (simp [heapX, upd]; done) | (simp [heapX, heapM, upd, matG, Loc.cov, Loc.at]; done) | (simp [heapX, heapM, upd, matG, Loc.cov, Loc.at, tabF_len, TR_len, rowF_len, IR_len]; done) | (simp [heapX, heapM, upd, matG, Loc.cov, Loc.at]; omega) | (simp [heapX, heapM, upd, matG, Loc.cov, Loc.at, tabF_len, TR_len, rowF_len, IR_len]; omega)) : AR H lent τ L (.own k l off n) (.own k (τ l) off n') := AR.ownE k l off hn h
theorem La {c c' : AV} {cs cs' : List AV} (h : AR H lent τ L c c') (h' : ARs H lent τ L cs cs') : ARs H lent τ L (c :: cs) (c' :: cs') := ARs.cons h h'
end
theorem Ld {p : Prop} (h : p := by first | exact fun l h => absurd h (hD l) | (intro l h; rcases hD l h with rfl; simp [tauL]; done) | (intro l h; rcases hD l h with rfl | rfl <;> simp [tauL]; done) | (intro l h; rcases hD l h with rfl | rfl | rfl <;> simp [tauL]; done) | (simp [AllP]; done) | (intro l h; rcases hD l h with rfl; simp [tauX, tauM, Loc.cov]; done) | (intro l h; rcases hD l h with rfl | rfl <;> simp [tauX, tauM, Loc.cov]; done) | (intro l h; rcases hD l h with rfl | ⟨i, rfl⟩ <;> simp [tauX, tauM, Loc.cov, Loc.at, MI.row]; done)) : p := h
section
variable {P : Program} {C : Ctx} {fr : List AV} {H : Heap} {n : Nat}
theorem Ya {fn : Func} {res res' c : AV} {H' : Heap} {e : Exit} {rv : ResultVar} (hle : Le C ⟨[res'], H, n⟩ ⟨[res], H', 1000⟩) (he : e = .ret ∨ e = .normal := by first | exact .inl rfl | exact .inr rfl) (hr : fn.results.toList = [rv] := by exact rfl) (h : ResOf P fr H rv c := by first | exact rT rfl | exact rCA rfl rfl rfl rfl (by simp) | exact rCC rfl rfl rfl rfl rfl) (hc : c = res' := by first | (simp only [List.take_succ_cons, List.take_zero, List.take_nil, List.drop_succ_cons, List.drop_zero, List.drop_nil, AV.cells]; exact rfl) | exact rfl) : EndQ P C fn res H' e ⟨fr, H, n⟩ := end1 he hr h hc hle
theorem Yb {fn : Func} {res res' c c' : AV} {H' : Heap} {e : Exit} {rv rv' : ResultVar} (hle : Le C ⟨[res'], H, n⟩ ⟨[res], H', 1000⟩) (he : e = .ret ∨ e = .normal := by first | exact .inl rfl | exact .inr rfl) (hr : fn.results.toList = [rv, rv'] := by exact rfl) (h : ResOf P fr H rv c := by first | exact rT rfl | exact rCA rfl rfl rfl rfl (by simp) | exact rCC rfl rfl rfl rfl rfl) (h' : ResOf P fr H rv' c' := by first | exact rT rfl | exact rCA rfl rfl rfl rfl (by simp) | exact rCC rfl rfl rfl rfl rfl) (hc : .tup [c, c'] = res' := by first | (simp only [List.take_succ_cons, List.take_zero, List.take_nil, List.drop_succ_cons, List.drop_zero, List.drop_nil, AV.cells]; exact rfl) | exact rfl) : EndQ P C fn res H' e ⟨fr, H, n⟩ := end2 he hr h h' hc hle
end
end Go.Proofs.Ytcjidnpkeliieaa
