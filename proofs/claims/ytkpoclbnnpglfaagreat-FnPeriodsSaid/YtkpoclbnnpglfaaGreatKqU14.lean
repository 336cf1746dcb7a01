/-
  Walks in the abstract reading, part 14.
-/
import Derived.Test.YtkpoclbnnpglfaaGreatKqR3
import Derived.Test.YtkpoclbnnpglfaaGreatKqU6
import Derived.Test.YtkpoclbnnpglfaaGreatKqA3
import Derived.Test.YtkpoclbnnpglfaaGreatKqU4
set_option linter.unusedSimpArgs false
set_option linter.unusedVariables false
namespace Go.Proofs.YtkpoclbnnpglfaaGreat
section
open Go Go.RowKit
attribute [local irreducible] AL AD AW OpOk Le AC thenQ blockQ EndQ
section
variable {P : Program} {o : Oper} {A : Operand → AV} {H : Heap} {new : Nat}
theorem Ok.bs2I [Mode] {t e:TypeId}{k b:Nat}{z:Value}{x y:Operand}{n1 n2:Int} (ho:o.op = .buildSlice t 2 #[(0,x),(1,y)]) [h:TySlice P t e k b z] (hx:A x=I n1) (hy:A y=I n2) (hk:k=1) :
  OpOk P o A [] H new (.own k ⟨new,[]⟩ 0 2) [.one ⟨new,[]⟩ (some (IO [n1,n2]))]:=by
 subst hk
 have:=OpOk.buildSlice (P:=P) (H:=H) (new:=new) (A:=A) [x,y] ho rfl rfl (by decide) (by intro p hp;simp at hp;rcases hp with rfl|rfl<;>simp only[hx,hy]<;>rfl) (by intro p hp;simp at hp;rcases hp with rfl|rfl<;>simp only[hx,hy]<;>rfl)
 simpa [hx,hy,AV.cells,dobj] using this
theorem Zx [Mode] {fo x:Operand}{xs:List Operand}{ts:Array TypeId}{f:FuncId}{code:List Int}{s s':Src}{args:List AV}{res:AV} (hc:AC P f (Bx 3 0 :: args) (srcH code s) res (srcH code s')) (ho:o.op = .call { callee:=.value fo,args:=(x :: xs).toArray,argTypes:=ts }) [FnBody P f] (hfo:A fo = .clo (.func f) [] [])
  (hx:A x=Bx 3 0) (hl:H ⟨0,[]⟩=some (srcO code s)) (hy:ARs H (fun _=>False) (fun _=>⟨0,[]⟩) (· = ⟨0,[]⟩) args (xs.map A)) (hres:∀ g,rn g res=res):OpOk P o A [⟨0,[]⟩] H new res [.one ⟨0,[]⟩ (some (srcO code s'))]:=
 OpOk.callMg ho hfo hc hl hres (by
  rw[List.append_nil]
  show ARs _ _ _ _ _ (A x :: xs.map A)
  rw[hx];exact .cons (AR.ptr 3 ⟨0,[]⟩ 0 0 rfl) hy)
end
theorem DrOk.st [Mode] {code:List Int}{g:DrG} (h:DrOk code g):RStOk code 40 (g.s,g.xs):=⟨h.s,h.xs,h.len⟩
end
section
open Go Go.RowKit
attribute [local irreducible] AL AD AW OpOk Le AC thenQ blockQ EndQ
def stP (k e:Nat) (F:Nat→Nat→Int) (p:Pl):Nat→Nat→Int:=
 if p.t=(e:Int)∧p.k≤(k:Int) then fun a b=>if a=k∧b=e then max (F k e) (F (k - p.k.toNat) p.f.toNat+p.d) else F a b else F
def stE (xs:List Pl) (k:Nat) (F:Nat→Nat→Int) (e:Nat):Nat→Nat→Int:=xs.foldl (stP k e) F
def stR (xs:List Pl) (ord:List Nat) (k:Nat) (F:Nat→Nat→Int):Nat→Nat→Int:=ord.foldl (stE xs k) F
def stZ (s0:Nat→Int) (k:Nat) (F:Nat→Nat→Int):Nat→Nat→Int:=fun a b=>if a=k then s0 b else F a b
def stT (xs:List Pl) (ord:List Nat) (s0:Nat→Int):Nat→Nat→Nat→Int
 | 0=>fun _ _=>0
 | k+1=>stR xs ord k (stZ s0 k (stT xs ord s0 k))
end
section
open Go Go.RowKit
attribute [local irreducible] AL AD AW OpOk Le AC thenQ blockQ EndQ
end
section
open Go Go.RowKit
attribute [local irreducible] AL AD AW OpOk Le AC thenQ blockQ EndQ
abbrev QF:=Src × (Nat→Nat→Int)
structure TabOk (T:List (List Int)):Prop where
 l:T.length≤100
 r:∀ r∈T,r.length≤100
theorem tabF_ok [Mode] {n v:Nat}{F:Nat→Nat→Int} (hn:n≤11) (hv:v≤50):TabOk (tabF v n F):=⟨by rw[tabF_len];omega,fun r hr=>by rw[tabF_row2 r hr];omega⟩
section
variable {H : Heap} {lent : Loc → Prop} {τ : Loc → Loc} {L : Loc → Prop}
end
end
section
open Go Go.RowKit
attribute [local irreducible] AL AD AW OpOk Le AC thenQ blockQ EndQ
section
variable {P : Program} {o : Oper} {A : Operand → AV} {H : Heap} {new : Nat}
theorem Fx [Mode] {fo x:Operand}{ts:Array TypeId}{f:FuncId}{code:List Int}{s:Src} (hc:AC P f [.d (BD code)] H0 (Bx 3 0) (srcH code s)) (ho:o.op = .call { callee:=.value fo,args:=#[x],argTypes:=ts }) [FnBody P f] (hfo:A fo = .clo (.func f) [] [])
  (hx:A x = .d (BD code)):OpOk P o A [] H new (.ptr 3 ⟨new,[0]⟩ 0 0) [.one ⟨new,[0]⟩ (some (srcO code s))]:=
 OpOk.call1n (xs:=[x]) [] ho hfo hc (.inl rfl) (fun g=>rnO_dobj _ _ _) (by
  show ARs _ _ _ _ _ [A x]
  rw[hx];exact .cons (AR.dd _) .nil) (by rw[rn])
theorem Nl [Mode] {fo x y:Operand}{ts:Array TypeId}{f:FuncId}{l:Loc}{code:List Int}{s s':Src}{n a:Int} (hc:AC P f [Bx 3 0,I n] (srcH code s) (I a) (srcH code s')) (ho:o.op = .call { callee:=.value fo,args:=#[x,y],argTypes:=ts }) [FnBody P f] (hfo:A fo = .clo (.func f) [] [])
  (hx:A x = .ptr 3 l 0 0) (hy:A y=I n) (hl:H l=some (srcO code s)):OpOk P o A [l] H new (I a) [.one l (some (srcO code s'))]:=
 OpOk.callM (xs:=[x,y]) ho hfo hc hl rfl (by
  show ARs _ _ _ _ _ [A x,A y]
  rw[hx,hy];exact .cons (AR.ptr 3 ⟨0,[]⟩ 0 0 rfl) (.cons (.dd _) .nil))
theorem Kl [Mode] {fo x y:Operand}{ts:Array TypeId}{f:FuncId}{l0:Loc}{code:List Int}{s s':Src}{m:Nat}{xs:List Int}{a:Int}{l:Loc} (hc:AC P f [Bx 3 0,.own 1 ⟨1,[]⟩ 0 m] (upd (upd H0 ⟨1,[]⟩ (some (IO xs))) ⟨0,[]⟩ (some (srcO code s))) (I a) (srcH code s')) (ho:o.op = .call { callee:=.value fo,args:=#[x,y],argTypes:=ts }) [FnBody P f] (hfo:A fo = .clo (.func f) [] [])
  (hx:A x = .ptr 3 l0 0 0) (hy:A y = .own 1 l 0 m) (hl:H l0=some (srcO code s)) (hl2:H l=some (IO xs)) (hne:l0≠l):OpOk P o A [l0,l] H new (I a) [.one l none,.one l0 (some (srcO code s'))]:=
 OpOk.callM2 (xs:=[x,y]) ho hfo hc hl hl2 hne rfl (by
  show ARs _ _ _ _ _ [A x,A y]
  rw[hx,hy]
  refine .cons ?_ (.cons ?_ .nil)
  ·have:=AR.ptr (H:=H) (lent:=fun _=>False) (τ:=two l0 l) (L:=(·∈[(⟨0,[]⟩:Loc),⟨1,[]⟩])) 3 ⟨0,[]⟩ 0 0 (by simp)
   rwa [show two l0 l ⟨0,[]⟩=l0 from if_pos rfl] at this
  ·have:=AR.own (H:=H) (lent:=fun _=>False) (τ:=two l0 l) (L:=(·∈[(⟨0,[]⟩:Loc),⟨1,[]⟩])) 1 ⟨1,[]⟩ 0 m (by simp)
   rwa [show two l0 l ⟨1,[]⟩=l from if_neg (by decide)] at this)
theorem Zl [Mode] {fo x:Operand}{xs:List Operand}{ts:Array TypeId}{f:FuncId}{l:Loc}{code:List Int}{s s':Src}{args:List AV}{res:AV} (hc:AC P f (Bx 3 0 :: args) (srcH code s) res (srcH code s')) (ho:o.op = .call { callee:=.value fo,args:=(x :: xs).toArray,argTypes:=ts }) [FnBody P f] (hfo:A fo = .clo (.func f) [] [])
  (hx:A x = .ptr 3 l 0 0) (hl:H l=some (srcO code s)) (hy:ARs H (fun _=>False) (fun _=>l) (· = ⟨0,[]⟩) args (xs.map A)) (hres:∀ g,rn g res=res):OpOk P o A [l] H new res [.one l (some (srcO code s'))]:=
 OpOk.callMg ho hfo hc hl hres (by
  rw[List.append_nil]
  show ARs _ _ _ _ _ (A x :: xs.map A)
  rw[hx];exact .cons (AR.ptr 3 ⟨0,[]⟩ 0 0 rfl) hy)
end
theorem big_ac [Mode] (code:List Int) (hl:code.length≤9223372036854775807):AC Tryz.prog 5 [.d (BD code)] H0 (Bo (decide (4096<(code.length:Int)))) H0:=by
 refine AC.of_body 0 Tryz.func5 rfl (fun l h=>absurd rfl h) (fun C hC=>?_)
 have hD:∀ l,¬ C.D0 l:=fun l h=>(hC l).1 h rfl
 simp only[startFr,Tryz.ntmps5,List.length_cons,List.length_nil,Nat.reduceAdd,Nat.reduceSub,List.replicate_succ,List.replicate_zero,List.cons_append,List.nil_append]
 repeat' (first|((first|apply Ba|(apply Bb;(· rfl);(· rfl))|(apply Bc;(· exact nxE))|(apply Bd;(· rfl);(· rfl);(· exact nxE)));(· first|exact Ok.pe))|((first|apply Ca|(apply Cb;(· exact nxE)));(· first|exact Ok.e0))|refine Sx ?_|(refine Sy (fun h=>?_) (fun h=>?_)<;>try (exfalso;omega;done))|refine Sz (fun h=>?_) (fun h=>?_))
 refine Ya ?_
 (apply Le.headZ (hs:=[]) [] rfl)
 all_goals (try dsimp only[srcs])
 (case' hfr=>(repeat' (first|refine La ?_ ?_|exact Lc|refine Lo ?_|refine ⟨⟨_,rfl,?_⟩,?_⟩|refine Lx ?_)))
 all_goals (first|exact Ld|exact trivial|(rfl))
set_option maxHeartbeats 1000000 in
theorem likeInts_refl [Mode] (xs:List Int) (hn:xs.length≤100000000):AC Tryz.prog 9 [IL xs,IL xs] H0 (Bo true) H0:=by
 refine AC.of_body 0 Tryz.func9 rfl (fun l h=>absurd rfl h) (fun C hC=>?_)
 have hD:∀ l,¬ C.D0 l:=fun l h=>(hC l).1 h rfl
 simp only[startFr,Tryz.ntmps9,List.length_cons,List.length_nil,Nat.reduceAdd,Nat.reduceSub,List.replicate_succ,List.replicate_zero,List.cons_append,List.nil_append]
 repeat' (first|((first|apply Ba|(apply Bb;(· rfl);(· rfl))|(apply Bc;(· exact nxE))|(apply Bd;(· rfl);(· rfl);(· exact nxE)));(· first|exact Ok.pe))|((first|apply Ca|(apply Cb;(· exact nxE)));(· first|exact Ok.e0))|refine Sx ?_|(refine Sy (fun h=>?_) (fun h=>?_)<;>try (exfalso;omega;done))|refine Sz (fun h=>?_) (fun h=>?_))
 refine AW.loop (X:={k:Nat // k≤xs.length}) (fun k=>⟨[IL xs,IL xs,Oo,Oo,Oo,I (k.1:Nat),Oo,Oo,Oo,Oo,Oo,Oo,Oo,Oo,Oo,Oo,Oo,Oo,Oo,Oo,Oo,Oo,Oo,Oo,Oo,Oo],heapL [],900⟩) (fun k=>xs.length - k.1) ⟨0,Nat.zero_le _⟩ ?_ (fun k=>?_)
 ·
  (apply Le.headZ [] rfl)
  all_goals (try dsimp only[srcs])
  (case' hfr|hob=>(repeat' (first|refine La ?_ ?_|exact Lc|refine Lo ?_|refine ⟨⟨_,rfl,?_⟩,?_⟩|refine Lx ?_)))
  all_goals (first|(rfl)|exact Ld)
 obtain ⟨k,hk⟩:=k
 simp only
 by_cases hlt:k<xs.length
 ·obtain ⟨x,hx⟩:∃ x,xs[k]? = some x:=⟨xs[k],by simp⟩
  have hrow:=IR_get hx
  repeat' (first|((first|apply Ba|(apply Bb;(· rfl);(· rfl))|(apply Bc;(· exact nxE))|(apply Bd;(· rfl);(· rfl);(· exact nxE)));(· first|exact Ok.pe))|((first|apply Ca|(apply Cb;(· exact nxE)));(· first|exact Ok.e0))|refine Sx ?_|(refine Sy (fun h=>?_) (fun h=>?_)<;>try (exfalso;omega;done))|refine Sz (fun h=>?_) (fun h=>?_))
  refine ⟨⟨k+1,by omega⟩,?_,by simp only;omega⟩
  (apply Le.headZ [] rfl)
  all_goals (try dsimp only[srcs])
  (case' hfr|hob=>(repeat' (first|refine La ?_ ?_|exact Lc|refine Lo ?_|refine ⟨⟨_,rfl,?_⟩,?_⟩|refine Lx ?_)))
  all_goals (first|(rfl)|exact Ld)
 ·obtain rfl:k=xs.length:=by omega
  repeat' (first|((first|apply Ba|(apply Bb;(· rfl);(· rfl))|(apply Bc;(· exact nxE))|(apply Bd;(· rfl);(· rfl);(· exact nxE)));(· first|exact Ok.pe))|((first|apply Ca|(apply Cb;(· exact nxE)));(· first|exact Ok.e0))|refine Sx ?_|(refine Sy (fun h=>?_) (fun h=>?_)<;>try (exfalso;omega;done))|refine Sz (fun h=>?_) (fun h=>?_))
  refine Ya ?_
  (apply Le.headZ (hs:=[]) [] rfl)
  all_goals (try dsimp only[srcs])
  (case' hfr=>(repeat' (first|refine La ?_ ?_|exact Lc|refine Lo ?_|refine ⟨⟨_,rfl,?_⟩,?_⟩|refine Lx ?_)))
  all_goals (first|exact Ld|exact trivial|(rfl))
end
section
open Go Go.RowKit
attribute [local irreducible] AL AD AW OpOk Le AC thenQ blockQ EndQ
set_option maxHeartbeats 1000000 in
theorem likeTables9_refl [Mode] (t:List (List Int)) (hn:t.length≤100000000) (hr:∀ r∈t,r.length≤100000000):AC Tryz.prog 28 [TL t,TL t] H0 (Bo true) H0:=by
 have htl:(mRows 1 (TR t)).length=t.length:=by simp
 refine AC.of_body 0 Tryz.func28 rfl (fun l h=>absurd rfl h) (fun C hC=>?_)
 have hD:∀ l,¬ C.D0 l:=fun l h=>(hC l).1 h rfl
 simp only[startFr,Tryz.ntmps28,List.length_cons,List.length_nil,Nat.reduceAdd,Nat.reduceSub,List.replicate_succ,List.replicate_zero,List.cons_append,List.nil_append]
 repeat' (first|((first|apply Ba|(apply Bb;(· rfl);(· rfl))|(apply Bc;(· exact nxE))|(apply Bd;(· rfl);(· rfl);(· exact nxE)));(· first|exact Ok.pe))|((first|apply Ca|(apply Cb;(· exact nxE)));(· first|exact Ok.e0))|refine Sx ?_|(refine Sy (fun h=>?_) (fun h=>?_)<;>try (exfalso;omega;done))|refine Sz (fun h=>?_) (fun h=>?_))
 refine AW.loop (X:={k:Nat // k≤t.length}) (fun k=>⟨[TL t,TL t,Oo,Oo,Oo,I (k.1:Nat),Oo,Oo,Oo,Oo,Oo,Oo,Oo,Oo,Oo,Oo,Oo,Oo,Oo,Oo,Oo,Oo,Oo,Oo,Oo,Oo,Oo],heapL [],900⟩) (fun k=>t.length - k.1) ⟨0,Nat.zero_le _⟩ ?_ (fun k=>?_)
 ·
  (apply Le.headZ [] rfl)
  all_goals (try dsimp only[srcs])
  (case' hfr|hob=>(repeat' (first|refine La ?_ ?_|exact Lc|refine Lo ?_|refine ⟨⟨_,rfl,?_⟩,?_⟩|refine Lx ?_)))
  all_goals (first|(rfl)|exact Ld)
 obtain ⟨k,hk⟩:=k
 simp only
 by_cases hlt:k<t.length
 ·obtain ⟨x,hx⟩:∃ x,t[k]? = some x:=⟨t[k],by simp⟩
  have hrow:=TR_get hx
  repeat' (first|((first|apply Ba|(apply Bb;(· rfl);(· rfl))|(apply Bc;(· exact nxE))|(apply Bd;(· rfl);(· rfl);(· exact nxE)));(· first|exact Kz rfl rfl (likeInts_refl x (hr x (List.mem_of_getElem? hx))) (Ad (Ad An))|exact Ok.pe))|((first|apply Ca|(apply Cb;(· exact nxE)));(· first|exact Ok.e0))|refine Sx ?_|(refine Sy (fun h=>?_) (fun h=>?_)<;>try (exfalso;omega;done))|refine Sz (fun h=>?_) (fun h=>?_))
  refine ⟨⟨k+1,by omega⟩,?_,by simp only;omega⟩
  (apply Le.headZ [] rfl)
  all_goals (try dsimp only[srcs])
  (case' hfr|hob=>(repeat' (first|refine La ?_ ?_|exact Lc|refine Lo ?_|refine ⟨⟨_,rfl,?_⟩,?_⟩|refine Lx ?_)))
  all_goals (first|(rfl)|exact Ld)
 ·obtain rfl:k=t.length:=by omega
  repeat' (first|((first|apply Ba|(apply Bb;(· rfl);(· rfl))|(apply Bc;(· exact nxE))|(apply Bd;(· rfl);(· rfl);(· exact nxE)));(· first|exact Ok.pe))|((first|apply Ca|(apply Cb;(· exact nxE)));(· first|exact Ok.e0))|refine Sx ?_|(refine Sy (fun h=>?_) (fun h=>?_)<;>try (exfalso;omega;done))|refine Sz (fun h=>?_) (fun h=>?_))
  refine Ya ?_
  (apply Le.headZ (hs:=[]) [] rfl)
  all_goals (try dsimp only[srcs])
  (case' hfr=>(repeat' (first|refine La ?_ ?_|exact Lc|refine Lo ?_|refine ⟨⟨_,rfl,?_⟩,?_⟩|refine Lx ?_)))
  all_goals (first|exact Ld|exact trivial|(rfl))
end
section
open Go Go.RowKit
attribute [local irreducible] AL AD AW OpOk Le AC thenQ blockQ EndQ
section
variable {P : Program} {o : Oper} {A : Operand → AV} {H : Heap} {new : Nat}
theorem Ok.bs7I [Mode] {t e:TypeId}{k b:Nat}{z:Value}{x1 x2 x3 x4 x5 x6 x7:Operand}{n1 n2 n3 n4 n5 n6 n7:Int} (ho:o.op = .buildSlice t 7 #[(0,x1),(1,x2),(2,x3),(3,x4),(4,x5),(5,x6),(6,x7)]) [h:TySlice P t e k b z] (h1:A x1=I n1) (h2:A x2=I n2) (h3:A x3=I n3) (h4:A x4=I n4) (h5:A x5=I n5) (h6:A x6=I n6) (h7:A x7=I n7) (hk:k=1) :
  OpOk P o A [] H new (.own k ⟨new,[]⟩ 0 7) [.one ⟨new,[]⟩ (some (IO [n1,n2,n3,n4,n5,n6,n7]))]:=by
 subst hk
 have:=OpOk.buildSlice (P:=P) (H:=H) (new:=new) (A:=A) [x1,x2,x3,x4,x5,x6,x7] ho rfl rfl (by decide) (by intro p hp;simp at hp;rcases hp with rfl|rfl|rfl|rfl|rfl|rfl|rfl<;>simp only[h1,h2,h3,h4,h5,h6,h7]<;>rfl) (by intro p hp;simp at hp;rcases hp with rfl|rfl|rfl|rfl|rfl|rfl|rfl<;>simp only[h1,h2,h3,h4,h5,h6,h7]<;>rfl)
 simpa [h1,h2,h3,h4,h5,h6,h7,AV.cells,dobj] using this
end
section
variable {H : Heap} {lent : Loc → Prop} {τ : Loc → Loc} {L : Loc → Prop}
theorem AR.tabG [Mode] {m:MI}{n:Nat} (h:m.ok H) (h0:m.nils=0) (hn:m.R.length=n) (hl:lent m.src) (hr:∀ i,i<n→lent (m.row i)):AR H lent τ L (.d (.sl 1 (mRows m.k m.R))) (.own 1 m.src 0 n):=by
 obtain ⟨ho,hw⟩:=h
 refine .d (.own 1 m.src 0 n _ _ ho hl rfl (by rw[outer_len];omega) (by simp[mRows,hn]) (fun i q q' hq hq'=>?_) (fun i q q' hq hq' j c c' hc hc'=>?_))
 all_goals
  rw[Nat.zero_add] at hq'
  simp only[mRows,List.getElem?_map,Option.map_eq_some_iff] at hq
  obtain ⟨x,hx,rfl⟩:=hq
  rw[outer_lt hx] at hq'
  obtain rfl:=Option.some.inj hq'
 ·rfl
 ·cases j with
  | succ j=>simp at hc
  | zero=>
   simp at hc hc';subst hc;subst hc'
   have:=DRel.dobj (H:=H) (lent:=lent) (off:=0) (n:=x.length) (hw i x hx) (hr i (by rw[← hn];exact (List.getElem?_eq_some_iff.1 hx).1)) (by omega)
   rwa [List.drop_zero,List.take_of_length_le (Nat.le_refl _)] at this
theorem AR.two [Mode] {l a b : Loc} {ra rb : List (List D)} {na nb : Nat} (ho : H l = some ⟨1, [[.own 1 a 0 na], [.own 1 b 0 nb]]⟩) (ha : H a = some (dobj 1 ra)) (hb : H b = some (dobj 1 rb)) (hna : ra.length = na) (hnb : rb.length = nb) (h1 : lent l) (h2 : lent a) (h3 : lent b) : AR H lent τ L (.d (.sl 1 [[.sl 1 ra], [.sl 1 rb]])) (.own 1 l 0 2) := by
  subst hna; subst hnb
  have ka := DRel.dobj (H := H) (lent := lent) (off := 0) (n := ra.length) ha h2 (by omega)
  have kb := DRel.dobj (H := H) (lent := lent) (off := 0) (n := rb.length) hb h3 (by omega)
  rw [List.drop_zero, List.take_of_length_le (Nat.le_refl _)] at ka kb
  refine .d (.own 1 l 0 2 _ _ ho h1 rfl (by simp) (by simp) (fun i q q' hq hq' => ?_) (fun i q q' hq hq' j c c' hc hc' => ?_))
  all_goals
    rw [Nat.zero_add] at hq'
    match i with
    | 0 =>
      simp at hq hq'; subst hq; subst hq'
      first
        | rfl
        | (cases j with
           | succ j => simp at hc
           | zero => simp at hc hc'; subst hc; subst hc'; exact ka)
    | 1 =>
      simp at hq hq'; subst hq; subst hq'
      first
        | rfl
        | (cases j with
           | succ j => simp at hc
           | zero => simp at hc hc'; subst hc; subst hc'; exact kb)
    | i + 2 => simp at hq
end
theorem l01DrawValue_ex [Mode] (code:List Int) (hc:CodeOk code) (s:Src) (hs:SrcOk code s):∃ (v:Int) (s':Src),(-9223372036854775808≤v∧v≤9223372036854775807)∧SrcOk code s'∧AC Tryz.prog 182 [Bx 3 0] (srcH code s) (I v) (srcH code s'):=by
 obtain ⟨a,s1,a1,a2,h1,q1,N1⟩:=next_ex hc hs 24
 by_cases c0:a≤2
 ·refine ⟨-1000000000000000,s1,by omega,h1,?_⟩
  show AC _ _ _ (heapL [(⟨0,[]⟩,⟨0,[]⟩,srcO code s)]) _ _
  refine AC.of_body 1 Tryz.func182 rfl (fun l h=>by simp[heapL,upd] at h;simp[h]) (fun C hC=>?_)
  simp only[startFr,Tryz.ntmps182,List.length_cons,List.length_nil,Nat.reduceAdd,Nat.reduceSub,List.replicate_succ,List.replicate_zero,List.cons_append,List.nil_append]
  have hD:∀ l,C.D0 l→l=⟨0,[]⟩:=fun l h=>by have:=(hC l).1 h;simp[heapL,upd] at this;exact this
  repeat' (first|((first|apply Ba|(apply Bb;(· rfl);(· rfl))|(apply Bc;(· exact nxE))|(apply Bd;(· rfl);(· rfl);(· exact nxE)));(· first|exact Nx N1 rfl rfl rfl rfl rfl|exact Ok.pe))|((first|apply Ca|(apply Cb;(· exact nxE)));(· first|exact Nx N1 rfl rfl rfl rfl rfl|exact Ok.e0))|refine Sx ?_|(refine Sy (fun h=>?_) (fun h=>?_)<;>try (exfalso;omega;done))|refine Sz (fun h=>?_) (fun h=>?_))
  all_goals
   refine Ya ?_
   (apply Le.headZ (hs:=[(⟨0,[]⟩,⟨0,[]⟩,_)]) [⟨0,[]⟩] rfl)
   all_goals (try dsimp only[srcs])
   (case' hfr|hob=>(repeat' (first|refine La ?_ ?_|exact Lc|refine Lo ?_|refine ⟨⟨_,rfl,?_⟩,?_⟩|refine Lx ?_)))
   all_goals (first|exact Ld|exact trivial|(rfl))
 by_cases c3:a=3
 ·obtain ⟨b,s2,hb,h2,p2,q2,K2⟩:=pick_ex hc h1 [1000000,1000001,-1000000,-1000001,-999999999999999,-1000000000000001,9223372036854775807] 7 rfl
  refine ⟨b,s2,by simp at hb;omega,h2,?_⟩
  show AC _ _ _ (heapL [(⟨0,[]⟩,⟨0,[]⟩,srcO code s)]) _ _
  refine AC.of_body 1 Tryz.func182 rfl (fun l h=>by simp[heapL,upd] at h;simp[h]) (fun C hC=>?_)
  simp only[startFr,Tryz.ntmps182,List.length_cons,List.length_nil,Nat.reduceAdd,Nat.reduceSub,List.replicate_succ,List.replicate_zero,List.cons_append,List.nil_append]
  have hD:∀ l,C.D0 l→l=⟨0,[]⟩:=fun l h=>by have:=(hC l).1 h;simp[heapL,upd] at this;exact this
  repeat' (first|((first|apply Ba|(apply Bb;(· rfl);(· rfl))|(apply Bc;(· exact nxE))|(apply Bd;(· rfl);(· rfl);(· exact nxE)));(· first|exact Nx N1 rfl rfl rfl rfl rfl|exact Kx K2 rfl rfl rfl rfl rfl rfl (by decide)|exact Ok.bs7I rfl rfl rfl rfl rfl rfl rfl rfl rfl|exact Ok.pe))|((first|apply Ca|(apply Cb;(· exact nxE)));(· first|exact Nx N1 rfl rfl rfl rfl rfl|exact Kx K2 rfl rfl rfl rfl rfl rfl (by decide)|exact Ok.bs7I rfl rfl rfl rfl rfl rfl rfl rfl rfl|exact Ok.e0))|refine Sx ?_|(refine Sy (fun h=>?_) (fun h=>?_)<;>try (exfalso;omega;done))|refine Sz (fun h=>?_) (fun h=>?_))
  all_goals
   refine Ya ?_
   (apply Le.headZ (hs:=[(⟨0,[]⟩,⟨0,[]⟩,_)]) [⟨0,[]⟩] rfl)
   all_goals (try dsimp only[srcs])
   (case' hfr|hob=>(repeat' (first|refine La ?_ ?_|exact Lc|refine Lo ?_|refine ⟨⟨_,rfl,?_⟩,?_⟩|refine Lx ?_)))
   all_goals (first|exact Ld|exact trivial|(rfl))
 by_cases c4:a=4
 ·obtain ⟨b,s2,b1,b2,h2,q2,N2⟩:=next_ex hc h1 2000
  refine ⟨(b - 1000)*701,s2,by omega,h2,?_⟩
  show AC _ _ _ (heapL [(⟨0,[]⟩,⟨0,[]⟩,srcO code s)]) _ _
  refine AC.of_body 1 Tryz.func182 rfl (fun l h=>by simp[heapL,upd] at h;simp[h]) (fun C hC=>?_)
  simp only[startFr,Tryz.ntmps182,List.length_cons,List.length_nil,Nat.reduceAdd,Nat.reduceSub,List.replicate_succ,List.replicate_zero,List.cons_append,List.nil_append]
  have hD:∀ l,C.D0 l→l=⟨0,[]⟩:=fun l h=>by have:=(hC l).1 h;simp[heapL,upd] at this;exact this
  repeat' (first|((first|apply Ba|(apply Bb;(· rfl);(· rfl))|(apply Bc;(· exact nxE))|(apply Bd;(· rfl);(· rfl);(· exact nxE)));(· first|exact Nx N1 rfl rfl rfl rfl rfl|exact Nx N2 rfl rfl rfl rfl rfl|exact Ok.pe))|((first|apply Ca|(apply Cb;(· exact nxE)));(· first|exact Nx N1 rfl rfl rfl rfl rfl|exact Nx N2 rfl rfl rfl rfl rfl|exact Ok.e0))|refine Sx ?_|(refine Sy (fun h=>?_) (fun h=>?_)<;>try (exfalso;omega;done))|refine Sz (fun h=>?_) (fun h=>?_))
  all_goals
   refine Ya ?_
   (apply Le.headZ (hs:=[(⟨0,[]⟩,⟨0,[]⟩,_)]) [⟨0,[]⟩] rfl)
   all_goals (try dsimp only[srcs])
   (case' hfr|hob=>(repeat' (first|refine La ?_ ?_|exact Lc|refine Lo ?_|refine ⟨⟨_,rfl,?_⟩,?_⟩|refine Lx ?_)))
   all_goals (first|exact Ld|exact trivial|(rfl))
 ·obtain ⟨b,s2,b1,b2,h2,q2,N2⟩:=next_ex hc h1 41
  refine ⟨b - 20,s2,by omega,h2,?_⟩
  show AC _ _ _ (heapL [(⟨0,[]⟩,⟨0,[]⟩,srcO code s)]) _ _
  refine AC.of_body 1 Tryz.func182 rfl (fun l h=>by simp[heapL,upd] at h;simp[h]) (fun C hC=>?_)
  simp only[startFr,Tryz.ntmps182,List.length_cons,List.length_nil,Nat.reduceAdd,Nat.reduceSub,List.replicate_succ,List.replicate_zero,List.cons_append,List.nil_append]
  have hD:∀ l,C.D0 l→l=⟨0,[]⟩:=fun l h=>by have:=(hC l).1 h;simp[heapL,upd] at this;exact this
  repeat' (first|((first|apply Ba|(apply Bb;(· rfl);(· rfl))|(apply Bc;(· exact nxE))|(apply Bd;(· rfl);(· rfl);(· exact nxE)));(· first|exact Nx N1 rfl rfl rfl rfl rfl|exact Nx N2 rfl rfl rfl rfl rfl|exact Ok.pe))|((first|apply Ca|(apply Cb;(· exact nxE)));(· first|exact Nx N1 rfl rfl rfl rfl rfl|exact Nx N2 rfl rfl rfl rfl rfl|exact Ok.e0))|refine Sx ?_|(refine Sy (fun h=>?_) (fun h=>?_)<;>try (exfalso;omega;done))|refine Sz (fun h=>?_) (fun h=>?_))
  all_goals
   refine Ya ?_
   (apply Le.headZ (hs:=[(⟨0,[]⟩,⟨0,[]⟩,_)]) [⟨0,[]⟩] rfl)
   all_goals (try dsimp only[srcs])
   (case' hfr|hob=>(repeat' (first|refine La ?_ ?_|exact Lc|refine Lo ?_|refine ⟨⟨_,rfl,?_⟩,?_⟩|refine Lx ?_)))
   all_goals (first|exact Ld|exact trivial|(rfl))
def mzC (code:List Int) (many:Int) (i k:Nat) (q:QF):QF:=
 if 0<(nxt code q.1 many).1 then ((nxt code (nxt code q.1 many).2 26).2,fun a b=>if a=i∧b=k then (nxt code (nxt code q.1 many).2 26).1 - 10 else q.2 a b) else ((nxt code q.1 many).2,q.2)
def mzR (code:List Int) (many:Int) (i:Nat) (q:QF):Nat→QF
 | 0=>q
 | k+1=>mzC code many i k (mzR code many i q k)
def mzA (code:List Int) (many:Int) (n:Nat) (q:QF):Nat→QF
 | 0=>q
 | i+1=>mzR code many i (mzA code many n q i) n
theorem mzC_ok [Mode] {code:List Int} (hc:CodeOk code) {many:Int}{i k:Nat}{q:QF} (h:SrcOk code q.1):SrcOk code (mzC code many i k q).1:=by
 obtain ⟨_,_,a3⟩:=nxt_ok hc h many
 obtain ⟨_,_,b3⟩:=nxt_ok hc a3 26
 unfold mzC;split<;>assumption
theorem mzR_ok [Mode] {code:List Int} (hc:CodeOk code) {many:Int}{i:Nat}{q:QF} (h:SrcOk code q.1):∀ k,SrcOk code (mzR code many i q k).1
 | 0=>h
 | k+1=>mzC_ok hc (mzR_ok hc h k)
theorem mzA_ok [Mode] {code:List Int} (hc:CodeOk code) {many:Int}{n:Nat}{q:QF} (h:SrcOk code q.1):∀ i,SrcOk code (mzA code many n q i).1
 | 0=>h
 | i+1=>mzR_ok hc (mzA_ok hc h i) n
theorem botF_tabR [Mode] {m n:Nat}:tabF m n (fun _ _=>BOT)=botT m n:=by
 unfold tabF rowF botT
 simp[List.map_const']
end
end Go.Proofs.YtkpoclbnnpglfaaGreat
