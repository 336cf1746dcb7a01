/-
  Walks in the abstract reading, part 5.
-/
import Derived.Test.YtkpoclbnnpglfaaGreatKtR3
import Derived.Test.YtkpoclbnnpglfaaGreatKtU3
import Derived.Test.YtkpoclbnnpglfaaGreatKtA3
import Derived.Test.YtkpoclbnnpglfaaGreatKtU2
import Derived.Test.YtkpoclbnnpglfaaGreatKtG3
set_option linter.unusedSimpArgs false
set_option linter.unusedVariables false
namespace Go.Proofs.YtkpoclbnnpglfaaGreat
section
open Go Go.RowKit
attribute [local irreducible] AL AD AW OpOk Le AC thenQ blockQ EndQ
section
variable {P : Program} {o : Oper} {A : Operand → AV} {H : Heap} {new : Nat}
theorem Ok.bs4 [Mode] {t e:TypeId}{k b:Nat}{z:Value}{x y w v:Operand}{n1 n2 n3 n4:Int} (ho:o.op = .buildSlice t 4 #[(0,x),(1,y),(2,w),(3,v)]) [h:TySlice P t e k b z] (hx:A x=I n1) (hy:A y=I n2) (hw:A w=I n3) (hv:A v=I n4) (hk:k=1) :
  OpOk P o A [] H new (.own k ⟨new,[]⟩ 0 4) [.one ⟨new,[]⟩ (some (IO [n1,n2,n3,n4]))]:=by
 subst hk
 have:=OpOk.buildSlice (P:=P) (H:=H) (new:=new) (A:=A) [x,y,w,v] ho rfl rfl (by decide) (by intro p hp;simp at hp;rcases hp with rfl|rfl|rfl|rfl<;>simp only[hx,hy,hw,hv]<;>rfl) (by intro p hp;simp at hp;rcases hp with rfl|rfl|rfl|rfl<;>simp only[hx,hy,hw,hv]<;>rfl)
 simpa [hx,hy,hw,hv,AV.cells,dobj] using this
theorem Zx [Mode] {fo x:Operand}{xs:List Operand}{ts:Array TypeId}{f:FuncId}{code:List Int}{s s':Src}{args:List AV}{res:AV} (hc:AC P f (Bx 3 0 :: args) (srcH code s) res (srcH code s')) (ho:o.op = .call { callee:=.value fo,args:=(x :: xs).toArray,argTypes:=ts }) [FnBody P f] (hfo:A fo = .clo (.func f) [] [])
  (hx:A x=Bx 3 0) (hl:H ⟨0,[]⟩=some (srcO code s)) (hy:ARs H (fun _=>False) (fun _=>⟨0,[]⟩) (· = ⟨0,[]⟩) args (xs.map A)) (hres:∀ g,rn g res=res):OpOk P o A [⟨0,[]⟩] H new res [.one ⟨0,[]⟩ (some (srcO code s'))]:=
 OpOk.callMg ho hfo hc hl hres (by
  rw[List.append_nil]
  show ARs _ _ _ _ _ (A x :: xs.map A)
  rw[hx];exact .cons (AR.ptr 3 ⟨0,[]⟩ 0 0 rfl) hy)
theorem Gx [Mode] {fo x:Operand}{ts:Array TypeId}{f:FuncId}{code:List Int}{s s':Src}{ev:Int}{n:Nat}{ys:List Pl} (hc:AC P f [Bx 3 0] (srcH code s) (.agg [I ev,.own 4 ⟨1,[]⟩ 0 n]) (heapL [(⟨0,[]⟩,⟨0,[]⟩,srcO code s'),(⟨1,[]⟩,⟨1,[]⟩,PO ys)])) (ho:o.op = .call { callee:=.value fo,args:=#[x],argTypes:=ts }) [FnBody P f] (hfo:A fo = .clo (.func f) [] [])
  (hx:A x=Bx 3 0) (hl:H ⟨0,[]⟩=some (srcO code s)):OpOk P o A [⟨0,[]⟩] H new (.agg [I ev,.own 4 ⟨new,[1]⟩ 0 n]) [.all new (fun sub=>heapX [(⟨new,[1]⟩,⟨new,[1]⟩,PO ys)] [] ⟨new,sub⟩),.one ⟨0,[]⟩ (some (srcO code s'))]:=
 OpOk.callMX (xs:=[x]) [(⟨1,[]⟩,⟨1,[]⟩,PO ys)] [] ho hfo hc hl (by
  show ARs _ _ _ _ _ [A x]
  rw[hx];exact .cons (AR.ptr 3 ⟨0,[]⟩ 0 0 rfl) .nil) ⟨⟨fun g=>rnO_dobj _ _ _,by simp⟩,trivial⟩ trivial (by
  simp only[rn,List.map_cons,List.map_nil]
  rw[emb_one (by decide)];rfl)
end
def zeroK (xs:List Pl) (i:Nat):List Pl:=xs.set i ⟨(plA xs i).f,(plA xs i).t,(plA xs i).d,0⟩
def d12 (code:List Int) (q:RSt):Nat→RSt
 | 0=>q
 | k+1=>((nxt code (d12 code q k).1 12).2,if (nxt code (d12 code q k).1 12).1=0 then zeroK (d12 code q k).2 k else (d12 code q k).2)
theorem plA_mem [Mode] {xs:List Pl}{i:Nat} (h:i<xs.length):plA xs i∈xs:=by
 rw[plA_get (List.getElem?_eq_getElem h)];exact List.getElem_mem _
theorem d12_ok [Mode] {code:List Int} (hc:CodeOk code) {q:RSt}{m:Nat} (h:RStOk code m q):∀ k,RStOk code m (d12 code q k)∧(d12 code q k).2.length=q.2.length
 | 0=>⟨h,rfl⟩
 | k+1=>by
  obtain ⟨⟨h1,h2,h3⟩,h4⟩:=d12_ok hc h k
  obtain ⟨z1,z2,z3⟩:=nxt_ok hc h1 12
  refine ⟨⟨z3,fun p hp=>?_,?_⟩,?_⟩
  ·simp only[d12] at hp
   split at hp
   ·by_cases hk:k<(d12 code q k).2.length
    ·rcases List.mem_or_eq_of_mem_set hp with hp|rfl
     ·exact h2 p hp
     ·have:=h2 _ (plA_mem hk)
      exact ⟨this.f,this.t,this.d,by simp⟩
    ·rw[zeroK,List.set_eq_of_length_le (by omega)] at hp;exact h2 p hp
   ·exact h2 p hp
  ·simp only[d12];split
   ·rw[zeroK,List.length_set];exact h3
   ·exact h3
  ·simp only[d12];split
   ·rw[zeroK,List.length_set];exact h4
   ·exact h4
def dr12 (code:List Int) (s:Src):DrG:=
 let g:=dr11 code s
 ⟨g.ev,(d12 code (g.s,g.xs) (min g.xs.length 9)).2,(d12 code (g.s,g.xs) (min g.xs.length 9)).1⟩
theorem DrOk.st [Mode] {code:List Int}{g:DrG} (h:DrOk code g):RStOk code 40 (g.s,g.xs):=⟨h.s,h.xs,h.len⟩
theorem dr12_ok [Mode] {code:List Int} (hc:CodeOk code) {s:Src} (hs:SrcOk code s):DrOk code (dr12 code s):=by
 have h:=dr11_ok hc hs
 have h2:=(d12_ok hc h.st (min (dr11 code s).xs.length 9)).1
 exact ⟨h.ev,h2.xs,h2.len,h2.s⟩
set_option maxHeartbeats 2000000 in
theorem l12Draw_ac [Mode] (code:List Int) (hc:CodeOk code) (s:Src) (hs:SrcOk code s):AC Tryz.prog 99 [Bx 3 0] (srcH code s) (.agg [I (dr12 code s).ev,.own 4 ⟨1,[]⟩ 0 (dr12 code s).xs.length]) (heapL [(⟨0,[]⟩,⟨0,[]⟩,srcO code (dr12 code s).s),(⟨1,[]⟩,⟨1,[]⟩,PO (dr12 code s).xs)]):=by
 have hG:=l11Draw_ac code hc s hs
 have hok:=dr11_ok hc hs
 unfold dr12
 generalize dr11 code s=g at *
 obtain ⟨ev,xs,s1⟩:=g
 have hst:=hok.st
 obtain ⟨_,_,hl,_⟩:=hok
 simp only at *
 show AC _ _ _ (heapL [(⟨0,[]⟩,⟨0,[]⟩,srcO code s)]) _ _
 refine AC.of_body 1 Tryz.func99 rfl (fun l h=>by simp[heapL,upd] at h;simp[h]) (fun C hC=>?_)
 simp only[startFr,Tryz.ntmps99,List.length_cons,List.length_nil,Nat.reduceAdd,Nat.reduceSub,List.replicate_succ,List.replicate_zero,List.cons_append,List.nil_append]
 have hD:∀ l,C.D0 l→l=⟨0,[]⟩:=fun l h=>by have:=(hC l).1 h;simp[heapL,upd] at this;exact this
 repeat' (first|((first|apply Ba|(apply Bb;(· rfl);(· rfl))|(apply Bc;(· exact nxE))|(apply Bd;(· rfl);(· rfl);(· exact nxE)));(· first|exact Gx hG rfl rfl rfl rfl|exact Ok.pe))|((first|apply Ca|(apply Cb;(· exact nxE)));(· first|exact Gx hG rfl rfl rfl rfl|exact Ok.e0))|refine Sx ?_|(refine Sy (fun h=>?_) (fun h=>?_)<;>try (exfalso;omega;done))|refine Sz (fun h=>?_) (fun h=>?_))
 refine AW.loop (X:={k:Nat // k≤min xs.length 9}) (fun k=>⟨[Bx 3 0,Oo,Bx 2 1,Bx 2 2,I (k.1:Nat),Oo,Oo,Oo,Oo,Oo,Oo,Oo,Oo,Oo,Oo,Oo,Oo,Oo,Oo,Oo,Oo,Oo,Oo,Oo,Oo,Oo,Oo],heapL [(⟨0,[]⟩,⟨0,[]⟩,srcO code (d12 code (s1,xs) k.1).1),(⟨1,[]⟩,⟨1,[]⟩,⟨2,[[I 0,nilS]]⟩),(⟨2,[]⟩,⟨2,[]⟩,⟨2,[[I ev,.own 4 ⟨3,[]⟩ 0 xs.length]]⟩),(⟨3,[]⟩,⟨3,[]⟩,PO (d12 code (s1,xs) k.1).2)],900⟩) (fun k=>min xs.length 9 - k.1) ⟨0,Nat.zero_le _⟩ ?_ (fun k=>?_)
 ·
  (apply Le.headZ [_,_,_,_] rfl)
  all_goals (try dsimp only[srcs])
  (case' hfr|hob=>(repeat' (first|refine La ?_ ?_|exact Lc|refine Lo ?_|refine ⟨⟨_,rfl,?_⟩,?_⟩|refine Lx ?_)))
  all_goals (first|(rfl)|exact Ld)
 obtain ⟨k,hk⟩:=k
 simp only
 have hI:=d12_ok hc hst k
 by_cases hlt:k<min xs.length 9
 ·have hstep:d12 code (s1,xs) (k+1)=((nxt code (d12 code (s1,xs) k).1 12).2,if (nxt code (d12 code (s1,xs) k).1 12).1=0 then zeroK (d12 code (s1,xs) k).2 k else (d12 code (s1,xs) k).2):=rfl
  generalize d12 code (s1,xs) k=q at *
  obtain ⟨s3,ys⟩:=q
  obtain ⟨⟨i1,i2,i3⟩,i4⟩:=hI
  simp only at *
  obtain ⟨z,s4,z1,z2,h4,q4,N4⟩:=next_ex hc i1 12
  rw[q4] at hstep
  simp only at hstep
  have hkk:k<ys.length:=by omega
  have hr:=ownPl_row hkk
  have hsP:=ownPl_set (xs:=ys) (i:=k) (p:=⟨(plA ys k).f,(plA ys k).t,(plA ys k).d,0⟩)
  have hzk:zeroK ys k=ys.set k ⟨(plA ys k).f,(plA ys k).t,(plA ys k).d,0⟩:=rfl
  generalize plA ys k=p at *
  obtain ⟨pf,pt,pd,pk⟩:=p
  simp only at hr hsP hzk
  have hyl:(ys.map Pl.row).length=xs.length:=by rw[List.length_map];exact i4
  have hyl2:(PO ys).rows.length=xs.length:=by simp[dobj,i4]
  repeat' (first|((first|apply Ba|(apply Bb;(· rfl);(· rfl))|(apply Bc;(· exact nxE))|(apply Bd;(· rfl);(· rfl);(· exact nxE)));(· first|exact Nx N4 rfl rfl rfl rfl rfl|exact Ok.storeC rfl rfl rfl rfl hr (by simp only[List.length_cons,List.length_nil,Nat.reduceAdd,Nat.reduceLT]) (by conv=>lhs;whnf) (by rfl) (by rfl) hsP|exact Ok.pe))|((first|apply Ca|(apply Cb;(· exact nxE)));(· first|exact Nx N4 rfl rfl rfl rfl rfl|exact Ok.storeC rfl rfl rfl rfl hr (by simp only[List.length_cons,List.length_nil,Nat.reduceAdd,Nat.reduceLT]) (by conv=>lhs;whnf) (by rfl) (by rfl) hsP|exact Ok.e0))|refine Sx ?_|(refine Sy (fun h=>?_) (fun h=>?_)<;>try (exfalso;omega;done))|refine Sz (fun h=>?_) (fun h=>?_))
  all_goals
   refine ⟨⟨k+1,by omega⟩,?_,by simp only;omega⟩
   simp only[hstep]
   (apply Le.headZ [_,_,_,_] rfl)
   all_goals (try dsimp only[srcs])
   (case' hfr|hob=>(repeat' (first|refine La ?_ ?_|exact Lc|refine Lo ?_|refine ⟨⟨_,rfl,?_⟩,?_⟩|refine Lx ?_)))
   all_goals (first|(first|(rw[if_pos (by assumption),hzk];rfl)|(rw[if_neg (by assumption)];done)|(simp[*];done))|exact Ld)
 ·obtain rfl:k=min xs.length 9:=by omega
  generalize d12 code (s1,xs) (min xs.length 9)=q at *
  obtain ⟨s3,ys⟩:=q
  obtain ⟨⟨i1,i2,i3⟩,i4⟩:=hI
  simp only at *
  repeat' (first|((first|apply Ba|(apply Bb;(· rfl);(· rfl))|(apply Bc;(· exact nxE))|(apply Bd;(· rfl);(· rfl);(· exact nxE)));(· first|exact Ok.pe))|((first|apply Ca|(apply Cb;(· exact nxE)));(· first|exact Ok.e0))|refine Sx ?_|(refine Sy (fun h=>?_) (fun h=>?_)<;>try (exfalso;omega;done))|refine Sz (fun h=>?_) (fun h=>?_))
  all_goals
   refine Ya ?_
   (apply Le.head [(⟨0,[]⟩,⟨0,[]⟩,srcO code s3),(⟨1,[]⟩,⟨3,[]⟩,PO ys)])
   (case' hfr|hob=>(repeat' (first|refine La ?_ ?_|exact Lc|refine Lo ?_|refine ⟨⟨_,rfl,?_⟩,?_⟩|refine Lx ?_)))
   all_goals (first|exact Ld|(first|exact i4|(simp[*];done)))
theorem l12DrawZ_ac [Mode] (code:List Int) (hc:CodeOk code) (s:Src) (hs:SrcOk code s):AC Tryz.prog 99 [Bx 3 0] (srcH code s) (grD (dr12 code s).ev (dr12 code s).xs) (srcH code (dr12 code s).s):=
 (l12Draw_ac code hc s hs).frzS rfl (ARs.agg (.cons (.dd _) (.cons (AR.whole rfl (by simp) (List.length_map _)) .nil)))
end
section
open Go Go.RowKit
attribute [local irreducible] AL AD AW OpOk Le AC thenQ blockQ EndQ
end
section
open Go Go.RowKit
attribute [local irreducible] AL AD AW OpOk Le AC thenQ blockQ EndQ
set_option maxHeartbeats 1000000 in
theorem l02Own_ac [Mode] (t:List (List Int)) (hn:t.length≤10000000) (hr:∀ r∈t,r.length≤100000000):AC Tryz.prog 172 [TL t] H0 (own1 1 t.length) (hpM 1 (TR t)):=by
 refine AC.of_body 0 Tryz.func172 rfl (fun l h=>absurd rfl h) (fun C hC=>?_)
 have hD:∀ l,¬ C.D0 l:=fun l h=>(hC l).1 h rfl
 simp only[startFr,Tryz.ntmps172,List.length_cons,List.length_nil,Nat.reduceAdd,Nat.reduceSub,List.replicate_succ,List.replicate_zero,List.cons_append,List.nil_append]
 repeat' (first|((first|apply Ba|(apply Bb;(· rfl);(· rfl))|(apply Bc;(· exact nxE))|(apply Bd;(· rfl);(· rfl);(· exact nxE)));(· first|exact Ok.pe))|((first|apply Ca|(apply Cb;(· exact nxE)));(· first|exact Ok.e0))|refine Sx ?_|(refine Sy (fun h=>?_) (fun h=>?_)<;>try (exfalso;omega;done))|refine Sz (fun h=>?_) (fun h=>?_))
 refine AW.loop (X:={k:Nat // k≤t.length}) (fun k=>⟨[TL t,Oo,Oo,.own 1 ⟨1,[]⟩ 0 (k.1:Nat),I (k.1:Nat),Oo,Oo,Oo,Oo,Oo,Oo,Oo,Oo,Oo,Oo,Oo,Oo,Oo,Oo,Oo,Oo],heapX [] [mi1 ⟨1,[]⟩ (TR (t.take k.1))],900⟩) (fun k=>t.length - k.1) ⟨0,Nat.zero_le _⟩ ?_ (fun k=>?_)
 ·
  (apply Le.headG [] [{ l:=⟨1,[]⟩,k:=1,R:=[],src:=⟨1,[]⟩,base:=⟨1,[]⟩ }] (fun _=>False))
  (case' hlen=>rfl)
  (case' hms=>rfl)
  all_goals (try dsimp only[srcs])
  (case' hfr|hob=>(repeat' (first|refine La ?_ ?_|exact Lc|refine Lo ?_|refine ⟨⟨_,rfl,?_⟩,?_⟩|refine Lx ?_)))
  (case' hok=>first|exact ⟨MI.ok_same rfl (fun i x hx=>by simp at hx),trivial⟩|exact trivial)
  (case' hN=>rfl)
  (case' hS=>rfl)
  all_goals (first|exact Ld|(rfl))
 obtain ⟨k,hk⟩:=k
 simp only
 by_cases hlt:k<t.length
 ·obtain ⟨r,hr1⟩:∃ r,t[k]? = some r:=⟨t[k],by simp⟩
  have hrow:=TR_get hr1
  have htk:(TR (t.take k)).length=k:=by simp;omega
  repeat' (first|((first|apply Ba|(apply Bb;(· rfl);(· rfl))|(apply Bc;(· exact nxE))|(apply Bd;(· rfl);(· rfl);(· exact nxE)));(· first|exact Eo rfl rfl (l01Own_ac r (hr r (List.mem_of_getElem? hr1))) (Sd Sn)|exact Ok.appendT rfl rfl (by decide) rfl rfl rfl (by rw[outer_len,htk];rfl) rfl rfl (by rfl) (by omega) (by omega) rfl|exact Ok.pe))|((first|apply Ca|(apply Cb;(· exact nxE)));(· first|exact Eo rfl rfl (l01Own_ac r (hr r (List.mem_of_getElem? hr1))) (Sd Sn)|exact Ok.appendT rfl rfl (by decide) rfl rfl rfl (by rw[outer_len,htk];rfl) rfl rfl (by rfl) (by omega) (by omega) rfl|exact Ok.e0))|refine Sx ?_|(refine Sy (fun h=>?_) (fun h=>?_)<;>try (exfalso;omega;done))|refine Sz (fun h=>?_) (fun h=>?_))
  refine ⟨⟨k+1,by omega⟩,?_,by simp only;omega⟩
  (apply Le.headG [] [{ l:=⟨1,[]⟩,k:=1,R:=TR (t.take (k+1)),src:=⟨911,[]⟩,base:=⟨1,[]⟩,cut:=k,ext:=some ⟨909,[0]⟩ }] (fun _=>False))
  (case' hlen=>rfl)
  (case' hms=>rfl)
  all_goals (try dsimp only[srcs])
  (case' hfr|hob=>(repeat' (first|refine La ?_ ?_|exact Lc|refine Lo ?_|refine ⟨⟨_,rfl,?_⟩,?_⟩|refine Lx ?_)))
  (case' hok=>first|exact ⟨MI.ok_app (TR_take hr1) htk IR_len rfl (Cg) rfl,trivial⟩|exact trivial)
  (case' hN=>rfl)
  (case' hS=>rfl)
  all_goals (first|exact Ld|((simp[AllP];omega)))
 ·
  have hkn:k=t.length:=by omega
  subst hkn
  rw[List.take_length]
  repeat' (first|((first|apply Ba|(apply Bb;(· rfl);(· rfl))|(apply Bc;(· exact nxE))|(apply Bd;(· rfl);(· rfl);(· exact nxE)));(· first|exact Ok.pe))|((first|apply Ca|(apply Cb;(· exact nxE)));(· first|exact Ok.e0))|refine Sx ?_|(refine Sy (fun h=>?_) (fun h=>?_)<;>try (exfalso;omega;done))|refine Sz (fun h=>?_) (fun h=>?_))
  refine Ya ?_
  (apply Le.headG [] [{ l:=⟨0,[]⟩,k:=1,R:=TR t,src:=⟨1,[]⟩,base:=⟨1,[]⟩ }] (fun _=>False))
  (case' hlen=>rfl)
  (case' hms=>rfl)
  all_goals (try dsimp only[srcs])
  (case' hfr|hob=>(repeat' (first|refine La ?_ ?_|exact Lc|refine Lo ?_|refine ⟨⟨_,rfl,?_⟩,?_⟩|refine Lx ?_)))
  (case' hok=>first|exact ⟨MI.ok_same rfl (Cg),trivial⟩|exact trivial)
  (case' hN=>rfl)
  (case' hS=>rfl)
  all_goals (first|exact Ld|(rfl))
end
section
open Go Go.RowKit
attribute [local irreducible] AL AD AW OpOk Le AC thenQ blockQ EndQ
section
variable {P : Program} {o : Oper} {A : Operand → AV} {H : Heap} {new : Nat}
theorem Ok.ldTj [Mode] {t:TypeId}{a:Operand}{k nils i j n:Nat}{l:Loc}{f:Nat→Loc}{R:List (List (List D))}{r:List (List D)} (ho:o.op = .load t a) (ha:A a = .ptr 1 l j 0) [TyCell P t] (hl:H l=some (outer f k R nils)) (hr:R[i]? = some r) (hn:r.length=n) (hj:j=i):OpOk P o A [l] H new (.own k (f i) 0 n) []:=by
 subst hj
 exact Ok.ldTn ho (by rw[ha];simp) hl hr hn
end
def bndF (f:Nat→Nat→Int) (B:Int):Prop:=∀ a b,0≤f a b∧f a b≤B
theorem cN_get [Mode] {ord:List Nat}{J e:Nat} (h:ord[J]? = some e):(IR (cN ord))[((J:Nat):Int).toNat]? = some [DI (e:Int)]:=IR_get (by simp[h])
end
section
open Go Go.RowKit
attribute [local irreducible] AL AD AW OpOk Le AC thenQ blockQ EndQ
def fillF (x:Int) (K:Nat):Nat→Int:=fun v=>if v<K then x else 0
theorem fillF_0 [Mode] {n:Nat}{x:Int}:dobj 1 (List.replicate n [DI 0])=IO (rowF n (fillF x 0)):=by
 show dobj 1 _=dobj 1 (IR (rowF n (fillF x 0)))
 congr 1
 apply List.ext_getElem?
 intro i
 by_cases hi:i<n
 ·rw[IRF_get hi,List.getElem?_replicate,if_pos hi];simp[fillF]
 ·rw[List.getElem?_eq_none (by simp;omega),List.getElem?_eq_none (by rw[IR_len,rowF_len];omega)]
theorem fillF_set [Mode] {n K:Nat}{x:Int}:(IR (rowF n (fillF x K))).set K [DI x]=IR (rowF n (fillF x (K+1))):=by
 rw[IR_set,rowF_set]
 congr 1
 refine rowF_congr fun j _=>?_
 simp only[fillF]
 by_cases h:j=K
 ·rw[if_pos h,if_pos (by omega)]
 ·rw[if_neg h]
  by_cases h2:j<K
  ·rw[if_pos h2,if_pos (by omega)]
  ·rw[if_neg h2,if_neg (by omega)]
theorem td0_set [Mode] {n u:Nat}:(IR (rowF n (fillF (-1) n))).set u [DI 0]=IR (rowF n (fun v=>if v=u then 0 else -1)):=by
 rw[IR_set,rowF_set]
 congr 1
 exact rowF_congr fun j hj=>by simp only[fillF,hj,if_true]
theorem rowI_at [Mode] {n j:Nat}{g:Nat→Int} (h:j<n):(IR (rowF n g))[j]? = some [DI (g j)]:=IRF_get h
theorem tdPl [Mode] {n:Nat}{xs:List Pl} (hv:∀ p∈xs,okPl n p):∀ i,i<xs.length→(0≤(plA xs i).f∧(plA xs i).f<n)∧(0≤(plA xs i).t∧(plA xs i).t<n)∧(0≤(plA xs i).k∧(plA xs i).k≤5):=fun i hi=>by
 have:=okPl_at hv i hi
 exact ⟨this.1,this.2.1,this.2.2.2⟩
abbrev tdSt (p:(Nat→Int) × Bool) (xs:List Pl) (n u:Nat):Prop:=TdInv xs n u p.1∧(p.2=false→tdF xs u=p.1)
set_option maxHeartbeats 4000000 in
theorem tokenDistances_ac [Mode] (n : Nat) (xs : List Pl) (u : Nat) (hu : u < n) (hn : n ≤ 10) (hx : xs.length ≤ 100000000) (hv : ∀ p ∈ xs, okPl n p) : AC Tryz.prog 132 [grD n xs, I u] H0 (own1 1 n) (hp1 (IO (rowF n (tdF xs u)))) := by
  refine AC.of_body 0 Tryz.func132 rfl (fun l h => absurd rfl h) (fun C hC => ?_)
  have hD : ∀ l, ¬ C.D0 l := fun l h => (hC l).1 h rfl
  simp only [startFr, Tryz.ntmps132, List.length_cons, List.length_nil, Nat.reduceAdd, Nat.reduceSub, List.replicate_succ, List.replicate_zero, List.cons_append, List.nil_append]
  repeat' (first | ((first | apply Ba | (apply Bb; (· rfl); (· rfl)) | (apply Bc; (· exact nxE)) | (apply Bd; (· rfl); (· rfl); (· exact nxE))); (· first | exact Ok.pe)) | ((first | apply Ca | (apply Cb; (· exact nxE))); (· first | exact Ok.e0)) | refine Sx ?_ | (refine Sy (fun h => ?_) (fun h => ?_) <;> try (exfalso; omega; done)) | refine Sz (fun h => ?_) (fun h => ?_))
  refine AW.loop (X := {k : Nat // k ≤ n}) (fun k => ⟨[Oo, I u, Bx 2 0, Oo, Oo, .own 1 ⟨1, []⟩ 0 n, Oo, Oo, Oo, Oo, Oo, Oo, Oo, Oo, Oo, I n, I (k.1 : Nat), Oo, Oo, Oo, Oo, Oo, Oo, Oo, Oo, Oo, Oo, Oo, Oo, Oo, Oo, Oo, Oo, Oo, Oo, Oo, Oo, Oo, Oo, Oo, Oo, Oo, Oo, Oo, Oo, Oo, Oo, Oo, Oo, Oo, Oo, Oo, Oo, Oo, Oo, Oo, Oo, Oo, Oo, Oo, Oo, Oo, Oo, Oo, Oo, Oo, Oo, Oo, Oo, Oo], heapL [(⟨0, []⟩, ⟨0, []⟩, ⟨2, [[I n, PL xs]]⟩), (⟨1, []⟩, ⟨1, []⟩, IO (rowF n (fillF (-1) k.1)))], 900⟩) (fun k => n - k.1) ⟨0, Nat.zero_le _⟩ ?_ (fun k => ?_)
  ·
    (apply Le.headZ [_, _] rfl)
    all_goals (try dsimp only [srcs])
    (case' hfr | hob => (repeat' (first | refine La ?_ ?_ | exact Lc | refine Lo ?_ | refine ⟨⟨_, rfl, ?_⟩, ?_⟩ | refine Lx ?_)))
    all_goals (first | ((first | exact fillF_0 | (rw [fillF_0]; done))) | exact Ld)
  obtain ⟨i, hi⟩ := k
  simp only
  by_cases hlt : i < n
  · have hown := rowI_at (g := fillF (-1) i) hlt
    repeat' (first | ((first | apply Ba | (apply Bb; (· rfl); (· rfl)) | (apply Bc; (· exact nxE)) | (apply Bd; (· rfl); (· rfl); (· exact nxE))); (· first | exact Ok.st1 rfl rfl rfl (by simp [rowF_len]; omega) (by rw [hown]; rfl) rfl rfl fillF_set | exact Ok.pe)) | ((first | apply Ca | (apply Cb; (· exact nxE))); (· first | exact Ok.st1 rfl rfl rfl (by simp [rowF_len]; omega) (by rw [hown]; rfl) rfl rfl fillF_set | exact Ok.e0)) | refine Sx ?_ | (refine Sy (fun h => ?_) (fun h => ?_) <;> try (exfalso; omega; done)) | refine Sz (fun h => ?_) (fun h => ?_))
    refine ⟨⟨i + 1, by omega⟩, ?_, by simp only; omega⟩
    (apply Le.headZ [_, _] rfl)
    all_goals (try dsimp only [srcs])
    (case' hfr | hob => (repeat' (first | refine La ?_ ?_ | exact Lc | refine Lo ?_ | refine ⟨⟨_, rfl, ?_⟩, ?_⟩ | refine Lx ?_)))
    all_goals (first | (rfl) | exact Ld)
  obtain rfl : i = n := by omega
  have hown0 := rowI_at (n := i) (g := fillF (-1) i) hu
  repeat' (first | ((first | apply Ba | (apply Bb; (· rfl); (· rfl)) | (apply Bc; (· exact nxE)) | (apply Bd; (· rfl); (· rfl); (· exact nxE))); (· first | exact Ok.st1 rfl rfl rfl (by simp [rowF_len]; omega) (by rw [hown0]; rfl) rfl rfl td0_set | exact Ok.pe)) | ((first | apply Ca | (apply Cb; (· exact nxE))); (· first | exact Ok.st1 rfl rfl rfl (by simp [rowF_len]; omega) (by rw [hown0]; rfl) rfl rfl td0_set | exact Ok.e0)) | refine Sx ?_ | (refine Sy (fun h => ?_) (fun h => ?_) <;> try (exfalso; omega; done)) | refine Sz (fun h => ?_) (fun h => ?_))
  refine AW.loop (X := {p : (Nat → Int) × Bool // tdSt p xs i u}) (fun p => ⟨[Oo, Oo, Bx 2 0, Oo, Oo, .own 1 ⟨1, []⟩ 0 i, Oo, Bo p.1.2, Oo, Oo, Oo, Oo, Oo, Oo, Oo, Oo, Oo, Oo, Oo, Oo, Oo, Oo, Oo, Oo, Oo, Oo, Oo, Oo, Oo, Oo, Oo, Oo, Oo, Oo, Oo, Oo, Oo, Oo, Oo, Oo, Oo, Oo, Oo, Oo, Oo, Oo, Oo, Oo, Oo, Oo, Oo, Oo, Oo, Oo, Oo, Oo, Oo, Oo, Oo, Oo, Oo, Oo, Oo, Oo, Oo, Oo, Oo, Oo, Oo, Oo], heapL [(⟨0, []⟩, ⟨0, []⟩, ⟨2, [[I i, PL xs]]⟩), (⟨1, []⟩, ⟨1, []⟩, IO (rowF i p.1.1))], 900⟩) (fun p => 2 * mesN p.1.1 i + if p.1.2 then 1 else 0) ⟨(fun v => if v = u then 0 else -1, true), TdInv.start hu, fun h => by cases h⟩ ?_ (fun p => ?_)
  ·
    (apply Le.headZ [_, _] rfl)
    all_goals (try dsimp only [srcs])
    (case' hfr | hob => (repeat' (first | refine La ?_ ?_ | exact Lc | refine Lo ?_ | refine ⟨⟨_, rfl, ?_⟩, ?_⟩ | refine Lx ?_)))
    all_goals (first | (rfl) | exact Ld)
  obtain ⟨⟨d, ch⟩, hI, hf⟩ := p
  simp only at hI hf ⊢
  cases ch
  · have hfin := hf rfl
    repeat' (first | ((first | apply Ba | (apply Bb; (· rfl); (· rfl)) | (apply Bc; (· exact nxE)) | (apply Bd; (· rfl); (· rfl); (· exact nxE))); (· first | exact Ok.pe)) | ((first | apply Ca | (apply Cb; (· exact nxE))); (· first | exact Ok.e0)) | refine Sx ?_ | (refine Sy (fun h => ?_) (fun h => ?_) <;> try (exfalso; omega; done)) | refine Sz (fun h => ?_) (fun h => ?_))
    refine Ya ?_
    (apply Le.head [(⟨0, []⟩, _, _)])
    (case' hfr | hob => (repeat' (first | refine La ?_ ?_ | exact Lc | refine Lo ?_ | refine ⟨⟨_, rfl, ?_⟩, ?_⟩ | refine Lx ?_)))
    all_goals (first | exact Ld | ((first | rfl | (rw [hfin]; done))))
  ·
    have hP := hI.places hn (tdPl hv)
    repeat' (first | ((first | apply Ba | (apply Bb; (· rfl); (· rfl)) | (apply Bc; (· exact nxE)) | (apply Bd; (· rfl); (· rfl); (· exact nxE))); (· first | exact Ok.pe)) | ((first | apply Ca | (apply Cb; (· exact nxE))); (· first | exact Ok.e0)) | refine Sx ?_ | (refine Sy (fun h => ?_) (fun h => ?_) <;> try (exfalso; omega; done)) | refine Sz (fun h => ?_) (fun h => ?_))
    refine AW.loop (X := {k : Nat // k ≤ xs.length}) (fun k => ⟨[Oo, Oo, Bx 2 0, Oo, Oo, .own 1 ⟨1, []⟩ 0 i, Oo, Bo (tdAt xs d k.1).ch, Oo, Oo, Oo, Oo, Oo, Oo, Oo, Oo, Oo, Oo, Oo, Oo, Oo, Oo, Oo, Oo, Oo, Oo, Oo, Oo, PL xs, I xs.length, I (k.1 : Nat), Oo, Oo, Oo, Oo, Oo, Oo, Oo, Oo, Oo, Oo, Oo, Oo, Oo, Oo, Oo, Oo, Oo, Oo, Oo, Oo, Oo, Oo, Oo, Oo, Oo, Oo, Oo, Oo, Oo, Oo, Oo, Oo, Oo, Oo, Oo, Oo, Oo, Oo, Oo], heapL [(⟨0, []⟩, ⟨0, []⟩, ⟨2, [[I i, PL xs]]⟩), (⟨1, []⟩, ⟨1, []⟩, IO (rowF i (tdAt xs d k.1).d))], 900⟩) (fun k => xs.length - k.1) ⟨0, Nat.zero_le _⟩ ?_ (fun k => ?_)
    ·
      (apply Le.headZ [_, _] rfl)
      all_goals (try dsimp only [srcs])
      (case' hfr | hob => (repeat' (first | refine La ?_ ?_ | exact Lc | refine Lo ?_ | refine ⟨⟨_, rfl, ?_⟩, ?_⟩ | refine Lx ?_)))
      all_goals (first | (rfl) | exact Ld)
    obtain ⟨k, hk⟩ := k
    simp only
    by_cases hlt2 : k < xs.length
    · have hrow := pl_row (n := 0) hlt2
      obtain ⟨⟨g1, g2⟩, ⟨g3, g4⟩, ⟨g5, g6⟩⟩ := tdPl hv k hlt2
      have hle := (hP k hk).1.le
      have hnn := (hP k hk).1.nn
      have hcnt := cntN_le (d := (tdAt xs d k).d) i
      have hstep : tdAt xs d (k + 1) = tdStep xs (tdAt xs d k) k := rfl
      unfold tdStep at hstep
      simp only [plF, plTo] at hstep
      obtain ⟨s, hs⟩ : ∃ s, tdAt xs d k = s := ⟨_, rfl⟩
      rw [hs] at hstep hle hnn hcnt ⊢
      obtain ⟨e, ch⟩ := s
      simp only at hstep hle hnn hcnt ⊢
      generalize plA xs k = p at *
      obtain ⟨pf, pt, pd, pk⟩ := p
      obtain ⟨f, rfl⟩ : ∃ f : Nat, pf = f := ⟨pf.toNat, by simp at g1; omega⟩
      obtain ⟨t, rfl⟩ : ∃ t : Nat, pt = t := ⟨pt.toNat, by simp at g3; omega⟩
      simp only [Int.toNat_natCast] at hrow g2 g4 g5 g6 hstep
      have hF := rowI_at (n := i) (g := e) (show f < i by omega)
      have hT := rowI_at (n := i) (g := e) (show t < i by omega)
      have hlf := hle f
      have hlt3 := hle t
      have hset : (IR (rowF i e)).set t [DI (e f + pk)] = IR (rowF i (fun v => if v = t then e f + pk else e v)) := by rw [IR_set, rowF_set]
      repeat' (first | ((first | apply Ba | (apply Bb; (· rfl); (· rfl)) | (apply Bc; (· exact nxE)) | (apply Bd; (· rfl); (· rfl); (· exact nxE))); (· first | exact Ok.ld1 rfl rfl rfl hF | exact Ok.ld1 rfl rfl rfl hT | exact Ok.st1 rfl rfl rfl (by simp [rowF_len]; omega) (by rw [hT]; rfl) rfl rfl hset | exact Ok.pe)) | ((first | apply Ca | (apply Cb; (· exact nxE))); (· first | exact Ok.st1 rfl rfl rfl (by simp [rowF_len]; omega) (by rw [hT]; rfl) rfl rfl hset | exact Ok.e0)) | refine Sx ?_ | (refine Sy (fun h => ?_) (fun h => ?_) <;> try (exfalso; omega; done)) | refine Sz (fun h => ?_) (fun h => ?_))
      all_goals first
        | (have hno : ¬ (0 ≤ e f ∧ (e t < 0 ∨ e f + pk < e t)) := by omega
           rw [if_neg hno] at hstep
           refine ⟨⟨k + 1, by omega⟩, ?_, by simp only; omega⟩
           simp only
           rw [hstep]
           (apply Le.headZ [_, _] rfl)
           all_goals (try dsimp only [srcs])
           (case' hfr | hob => (repeat' (first | refine La ?_ ?_ | exact Lc | refine Lo ?_ | refine ⟨⟨_, rfl, ?_⟩, ?_⟩ | refine Lx ?_)))
           all_goals (first | (rfl) | exact Ld)
           done)
        | (have hyes : 0 ≤ e f ∧ (e t < 0 ∨ e f + pk < e t) := by omega
           rw [if_pos hyes] at hstep
           refine ⟨⟨k + 1, by omega⟩, ?_, by simp only; omega⟩
           simp only
           rw [hstep]
           (apply Le.headZ [_, _] rfl)
           all_goals (try dsimp only [srcs])
           (case' hfr | hob => (repeat' (first | refine La ?_ ?_ | exact Lc | refine Lo ?_ | refine ⟨⟨_, rfl, ?_⟩, ?_⟩ | refine Lx ?_)))
           all_goals (first | (rfl) | exact Ld)
           done)
    · obtain rfl : k = xs.length := by omega
      obtain ⟨h1, h2⟩ := hP xs.length (Nat.le_refl _)
      repeat' (first | ((first | apply Ba | (apply Bb; (· rfl); (· rfl)) | (apply Bc; (· exact nxE)) | (apply Bd; (· rfl); (· rfl); (· exact nxE))); (· first | exact Ok.pe)) | ((first | apply Ca | (apply Cb; (· exact nxE))); (· first | exact Ok.e0)) | refine Sx ?_ | (refine Sy (fun h => ?_) (fun h => ?_) <;> try (exfalso; omega; done)) | refine Sz (fun h => ?_) (fun h => ?_))
      refine ⟨⟨((tdAt xs d xs.length).d, (tdAt xs d xs.length).ch), h1, fun hc => ?_⟩, ?_, ?_⟩
      · rcases h2 with ⟨_, e2, e3⟩ | ⟨e1, _⟩
        · simp only; rw [e2]; exact hI.fin (tdPl hv) e3
        · simp only at hc; rw [hc] at e1; cases e1
      ·
        (apply Le.headZ [_, _] rfl)
        all_goals (try dsimp only [srcs])
        (case' hfr | hob => (repeat' (first | refine La ?_ ?_ | exact Lc | refine Lo ?_ | refine ⟨⟨_, rfl, ?_⟩, ?_⟩ | refine Lx ?_)))
        all_goals (first | (rfl) | exact Ld)
      · simp only
        rcases h2 with ⟨e1, e2, _⟩ | ⟨e1, e2⟩
        · simp only [e1, e2]; simp
        · simp only [e1]; simp; omega
theorem tdOk [Mode] {n:Nat}{xs:List Pl}{u:Nat} (hv:∀ p∈xs,okPl n p) (hn:n≤10) (hu:u<n):TdOk xs u (tdF xs u):=td_exists hn (tdPl hv) _ _ (Nat.le_refl _) (TdInv.start hu)
set_option maxHeartbeats 1000000 in
theorem hasFn_ac [Mode] (n:Nat) (xs:List Pl) (p:Pl) (hp:okPl n p) (hn:n≤10) (hx:xs.length≤100000000) (hv:∀ p∈xs,okPl n p):AC Tryz.prog 131 [p.av,Bx 2 0] (heapL [(⟨0,[]⟩,⟨0,[]⟩,⟨2,[[I n,PL xs]]⟩)]) (Bo (decide (0≤tdF xs p.t p.f.toNat))) (heapL [(⟨0,[]⟩,⟨0,[]⟩,⟨2,[[I n,PL xs]]⟩)]):=by
 obtain ⟨⟨h1,h2⟩,⟨h3,h4⟩,_⟩:=hp
 obtain ⟨pf,pt,pd,pk⟩:=p
 obtain ⟨f,rfl⟩:∃ f:Nat,pf=f:=⟨pf.toNat,by simp at h1;omega⟩
 obtain ⟨t,rfl⟩:∃ t:Nat,pt=t:=⟨pt.toNat,by simp at h3;omega⟩
 simp only[Int.toNat_natCast] at h2 h4 ⊢
 have hT:=tokenDistances_ac n xs t (by omega) hn hx hv
 have hF:=rowI_at (n:=n) (g:=tdF xs t) (show f<n by omega)
 refine AC.of_body 1 Tryz.func131 rfl (fun l h=>by simp[heapL,upd] at h;simp[h]) (fun C hC=>?_)
 simp only[startFr,Tryz.ntmps131,List.length_cons,List.length_nil,Nat.reduceAdd,Nat.reduceSub,List.replicate_succ,List.replicate_zero,List.cons_append,List.nil_append]
 have hD:∀ l,C.D0 l→l=⟨0,[]⟩:=fun l h=>by have:=(hC l).1 h;simp[heapL,upd] at this;exact this
 repeat' (first|((first|apply Ba|(apply Bb;(· rfl);(· rfl))|(apply Bc;(· exact nxE))|(apply Bd;(· rfl);(· rfl);(· exact nxE)));(· first|exact Ok.ld1 rfl rfl rfl hF|exact Eo rfl rfl (hT) (Sa (Sd (Sd Sn)) (Sd Sn))|exact Ok.pe))|((first|apply Ca|(apply Cb;(· exact nxE)));(· first|exact Eo rfl rfl (hT) (Sa (Sd (Sd Sn)) (Sd Sn))|exact Ok.e0))|refine Sx ?_|(refine Sy (fun h=>?_) (fun h=>?_)<;>try (exfalso;omega;done))|refine Sz (fun h=>?_) (fun h=>?_))
 (refine end1p (by first|exact .inl rfl|exact .inr rfl) rfl (by first|exact rT rfl|exact rCA rfl rfl rfl rfl (by simp)|exact rCC rfl rfl rfl rfl rfl) ?_ (Le.head ([(⟨0,[]⟩,⟨0,[]⟩,⟨2,[[I n,PL xs]]⟩)]) (by first|exact fun l h=>absurd h (hD l)|(intro l h;rcases hD l h with rfl;simp[tauL])|(intro l h;rcases hD l h with rfl|rfl<;>simp[tauL];done)|(intro l h;rcases hD l h with rfl|rfl|rfl<;>simp[tauL])) ?_ ?_ (by simp) (by simp) (by simp[AllP]) (n':=1000));(· rfl))<;>(repeat' (first|exact trivial|exact ARs.nil|refine ARs.cons ?_ ?_|exact AR.dead _|exact AR.dd _|exact AR.i (by (try dsimp only);omega)|exact AR.ptr _ _ _ _ (by simp[heapL,upd])|exact AR.own _ _ _ _ (by simp[heapL,upd])|refine AR.ownE _ _ _ ?_ (by simp[heapL,upd])|refine ⟨⟨_,rfl,?_⟩,?_⟩|exact ObA.data|refine ObA.box ?_|refine ObA.frE ?_|refine ObA.dataE ?_|refine ARs.agg ?_|refine ARs.tup ?_|exact AR.clo' ARs.nil ARs.nil|exact AR.clo' ARs.nil (hca _ _)))
set_option maxHeartbeats 1000000 in
theorem hasCircuit_ac [Mode] (n:Nat) (xs:List Pl) (hn:n≤10) (hx:xs.length≤100000000) (hv:∀ p∈xs,okPl n p):AC Tryz.prog 82 [grD n xs] H0 (Bo (xs.any fun p=>decide (0≤tdF xs p.t p.f.toNat))) H0:=by
 have hc:=containsFuncPl_ac xs hx 131 [Bx 2 0] [(⟨0,[]⟩,⟨0,[]⟩,⟨2,[[I n,PL xs]]⟩)] (by simp) (by simp) (by intro p hp r hr c hc;simp at hp;subst hp;simp at hr;subst hr;simp at hc;rcases hc with rfl|rfl<;>exact .d _)
  (by intro c hc;simp at hc;subst hc;exact .ptr _ _ _ _ (by simp)) 1 (by simp) (fun p=>decide (0≤tdF xs p.t p.f.toNat)) (fun p hp=>hasFn_ac n xs p (hv p hp) hn hx hv)
 refine AC.of_body 0 Tryz.func82 rfl (fun l h=>absurd rfl h) (fun C hC=>?_)
 have hD:∀ l,¬ C.D0 l:=fun l h=>(hC l).1 h rfl
 simp only[startFr,Tryz.ntmps82,List.length_cons,List.length_nil,Nat.reduceAdd,Nat.reduceSub,List.replicate_succ,List.replicate_zero,List.cons_append,List.nil_append]
 repeat' (first|((first|apply Ba|(apply Bb;(· rfl);(· rfl))|(apply Bc;(· exact nxE))|(apply Bd;(· rfl);(· rfl);(· exact nxE)));(· first|exact OpOk.callS _ rfl rfl hc (by simp[heapL,upd,upds,W.app]) (by intro p hp r hr c hc;simp at hp;subst hp;simp at hr;subst hr;simp at hc;rcases hc with rfl|rfl<;>exact .d _) (.d _) (.cons (.dd _) (.cons (AR.clo' .nil (.cons (AR.ptr _ _ _ _ (by simp)) .nil)) .nil))|exact Ok.pe))|((first|apply Ca|(apply Cb;(· exact nxE)));(· first|exact Ok.e0))|refine Sx ?_|(refine Sy (fun h=>?_) (fun h=>?_)<;>try (exfalso;omega;done))|refine Sz (fun h=>?_) (fun h=>?_))
 (refine end1p (by first|exact .inl rfl|exact .inr rfl) rfl (by first|exact rT rfl|exact rCA rfl rfl rfl rfl (by simp)|exact rCC rfl rfl rfl rfl rfl) ?_ (Le.head ([]) (by first|exact fun l h=>absurd h (hD l)|(intro l h;rcases hD l h with rfl;simp[tauL])|(intro l h;rcases hD l h with rfl|rfl<;>simp[tauL];done)|(intro l h;rcases hD l h with rfl|rfl|rfl<;>simp[tauL])) ?_ ?_ (by simp) (by simp) (by simp[AllP]) (n':=1000));(· rfl))<;>(repeat' (first|exact trivial|exact ARs.nil|refine ARs.cons ?_ ?_|exact AR.dead _|exact AR.dd _|exact AR.i (by (try dsimp only);omega)|exact AR.ptr _ _ _ _ (by simp[heapL,upd])|exact AR.own _ _ _ _ (by simp[heapL,upd])|refine AR.ownE _ _ _ ?_ (by simp[heapL,upd])|refine ⟨⟨_,rfl,?_⟩,?_⟩|exact ObA.data|refine ObA.box ?_|refine ObA.frE ?_|refine ObA.dataE ?_|refine ARs.agg ?_|refine ARs.tup ?_|exact AR.clo' ARs.nil ARs.nil|exact AR.clo' ARs.nil (hca _ _)))
theorem hasC_any [Mode] {n:Nat}{xs:List Pl} (hn:n≤10) (hv:∀ p∈xs,okPl n p):(xs.any fun p=>decide (0≤tdF xs p.t p.f.toNat))=true↔hasC xs:=by
 rw[hasC_iff (n:=n) (fun i hi=>⟨(okPl_at hv i hi).1,(okPl_at hv i hi).2.1,(okPl_at hv i hi).2.2.1.1⟩) (fun u hu=>⟨_,tdOk hv hn hu⟩),List.any_eq_true]
 constructor
 ·rintro ⟨p,hp,h⟩
  obtain ⟨i,hi,rfl⟩:=List.getElem_of_mem hp
  refine ⟨i,hi,?_⟩
  have e:plA xs i=xs[i]:=by simp[plA,hi]
  simp only[plF]
  rw[e]
  exact of_decide_eq_true h
 ·rintro ⟨i,hi,h⟩
  have e:plA xs i=xs[i]:=by simp[plA,hi]
  simp only[plF] at h
  rw[e] at h
  exact ⟨xs[i],List.getElem_mem hi,decide_eq_true h⟩
end
section
def WM (W:Nat→Nat→Int):Nat→List Nat→Nat→Prop
 | u,[],v=>W v u≠BOT
 | u,m :: c,v=>W m u≠BOT∧WM W m c v
def wM (W:Nat→Nat→Int):Nat→List Nat→Nat→Int
 | u,[],v=>W v u
 | u,m :: c,v=>W m u+wM W m c v
theorem WM.app {W:Nat→Nat→Int}:∀ {a b:List Nat}{u k v:Nat},WM W u (a++k :: b) v↔WM W u a k∧WM W k b v
 | [],b,u,k,v=>by simp[WM]
 | x :: a,b,u,k,v=>by simp only[List.cons_append,WM,WM.app (a:=a)];exact and_assoc.symm
theorem wM_app {W:Nat→Nat→Int}:∀ (a b:List Nat) (u k v:Nat),wM W u (a++k :: b) v=wM W u a k+wM W k b v
 | [],b,u,k,v=>by simp[wM]
 | x :: a,b,u,k,v=>by simp only[List.cons_append,wM,wM_app a b];omega
def NoPos (W:Nat→Nat→Int) (n:Nat):Prop:=∀ (u:Nat) (c:List Nat),u<n→(∀ x∈c,x<n)→WM W u c u→wM W u c u≤0
theorem walk_short {W:Nat→Nat→Int}{n:Nat} (hn:NoPos W n):∀ (m:Nat) (c:List Nat) (u v:Nat),c.length≤m→u<n→(∀ x∈c,x<n)→WM W u c v→∃ c',WM W u c' v∧c'.length+1≤n∧(∀ x∈c',x<n)∧wM W u c v≤wM W u c' v
 | m,c,u,v,hm,hu,hc,h=>by
  by_cases hnd:((u :: c).map id).Nodup
  ·exact ⟨c,h,by simpa using nodup_le n (u :: c) (by simpa using hnd) (fun x hx=>by
    rcases List.mem_cons.1 hx with rfl|hx
    ·exact hu
    ·exact hc x hx),hc,Int.le_refl _⟩
  ·by_cases huc:u∈c
   ·obtain ⟨a,e,rfl⟩:=List.append_of_mem huc
    rw[WM.app] at h
    cases m with
    | zero=>simp at hm
    | succ m=>
     have hp:=hn u a hu (fun x hx=>hc x (by simp[hx])) h.1
     obtain ⟨c',g1,g2,g3,g4⟩:=walk_short hn m e u v (by simp at hm ⊢;omega) hu (fun x hx=>hc x (by simp[hx])) h.2
     exact ⟨c',g1,g2,g3,by rw[wM_app];omega⟩
   ·have hnd2:¬ (c.map id).Nodup:=fun h2=>hnd (by simp at h2 ⊢;exact ⟨huc,h2⟩)
    obtain ⟨a,i,b,j,e,rfl,hij⟩:=not_nodup_split hnd2
    simp only[id] at hij
    subst hij
    rw[WM.app] at h
    obtain ⟨h1,h2⟩:=h
    rw[WM.app] at h1
    obtain ⟨h3,h4⟩:=h1
    cases m with
    | zero=>simp at hm
    | succ m=>
     have hp:=hn i b (hc i (by simp)) (fun x hx=>hc x (by simp[hx])) h4
     obtain ⟨c',g1,g2,g3,g4⟩:=walk_short hn m (a++i :: e) u v (by simp at hm ⊢;omega) hu (fun x hx=>hc x (by
      simp only[List.mem_append,List.mem_cons] at hx ⊢
      rcases hx with hx|hx|hx
      ·exact .inl (.inl hx)
      ·exact .inr (.inl hx)
      ·exact .inr (.inr hx))) (by rw[WM.app];exact ⟨h3,h2⟩)
     refine ⟨c',g1,g2,g3,?_⟩
     rw[wM_app] at g4
     rw[wM_app,wM_app]
     omega
theorem wM_le {W:Nat→Nat→Int}{M:Int} (hW:∀ u v,W v u≠BOT→-M≤W v u∧W v u≤M):∀ {c:List Nat}{u v:Nat},WM W u c v→-M*(c.length+1)≤wM W u c v∧wM W u c v≤M*(c.length+1)
 | [],u,v,h=>by
  have:=hW u v h
  simp only[wM,List.length_nil]
  constructor<;>simp<;>omega
 | m :: c,u,v,h=>by
  have h1:=hW u m h.1
  have h2:=wM_le hW h.2
  simp only[wM,List.length_cons,Int.natCast_add,Int.mul_add] at h2 ⊢
  have e : -M*((c.length:Int))=-(M*c.length):=Int.neg_mul _ _
  rw[e] at h2 ⊢
  simp at h2 ⊢
  omega
structure StarOk (W:Nat→Nat→Int) (n:Nat) (s:Nat→Nat→Int):Prop where
 some:∀ u v,u<n→v<n→s v u=BOT∨(u=v∧s v u=0)∨∃ c,WM W u c v∧(∀ x∈c,x<n)∧s v u=wM W u c v
 dia:∀ u,u<n→s u u≠BOT∧0≤s u u
 all:∀ u v c,u<n→v<n→(∀ x∈c,x<n)→WM W u c v→s v u≠BOT∧wM W u c v≤s v u
theorem StarOk.uniq {W:Nat→Nat→Int}{n:Nat}{s s':Nat→Nat→Int} (h:StarOk W n s) (h':StarOk W n s') {u v:Nat} (hu:u<n) (hv:v<n):s v u=s' v u:=by
 rcases h.some u v hu hv with e|⟨e1,e2⟩|⟨c,c1,c2,c3⟩
 ·rcases h'.some u v hu hv with e'|⟨e1',e2'⟩|⟨c',c1',c2',c3'⟩
  ·rw[e,e']
  ·subst e1';exact absurd e (h.dia u hu).1
  ·exact absurd e (h.all u v c' hu hv c2' c1').1
 ·subst e1
  have:=h'.dia u hu
  rcases h'.some u u hu hu with e'|⟨_,e2'⟩|⟨c',c1',c2',c3'⟩
  ·exact absurd e' this.1
  ·omega
  ·have:=h.all u u c' hu hu c2' c1';omega
 ·have h1:=h'.all u v c hu hv c2 c1
  rcases h'.some u v hu hv with e'|⟨e1',e2'⟩|⟨c',c1',c2',c3'⟩
  ·exact absurd e' h1.1
  ·subst e1';have:=(h.dia u hu).2;omega
  ·have:=h.all u v c' hu hv c2' c1';omega
def timesB (a b:Int):Int:=if a=BOT∨b=BOT then BOT else a+b
structure FW (W:Nat→Nat→Int) (n:Nat) (M:Int) (k:Nat) (s:Nat→Nat→Int):Prop where
 some:∀ u v,u<n→v<n→s v u=BOT∨(u=v∧s v u=0)∨∃ c,WM W u c v∧(∀ x∈c,x<n)∧s v u=wM W u c v
 dia:∀ u,u<n→s u u≠BOT∧0≤s u u
 all:∀ u v c,u<n→v<n→(∀ x∈c,x<k)→WM W u c v→s v u≠BOT∧wM W u c v≤s v u
 low:∀ u v,u<n→v<n→s v u≠BOT→-(M*2 ^ k)≤s v u
theorem star_hi {W:Nat→Nat→Int}{n:Nat}{M:Int} (hn:NoPos W n) (hM:0≤M) (hW:∀ u v,W v u≠BOT→-M≤W v u∧W v u≤M) {s:Nat→Nat→Int} (h:∀ u v,u<n→v<n→s v u=BOT∨(u=v∧s v u=0)∨∃ c,WM W u c v∧(∀ x∈c,x<n)∧s v u=wM W u c v) {u v:Nat} (hu:u<n) (hv:v<n):s v u≤M*n:=by
 have h0:0≤M*n:=Int.mul_nonneg hM (by omega)
 rcases h u v hu hv with e|⟨_,e⟩|⟨c,h1,h2,e⟩
 ·rw[e];simp only[BOT];omega
 ·omega
 ·obtain ⟨c',g1,g2,g3,g4⟩:=walk_short hn c.length c u v (Nat.le_refl _) hu h2 h1
  have h5:=(wM_le hW g1).2
  have h6:M*((c'.length:Int)+1)≤M*n:=Int.mul_le_mul_of_nonneg_left (by omega) hM
  omega
theorem star_dia0 {W:Nat→Nat→Int}{n:Nat} (hn:NoPos W n) {s:Nat→Nat→Int} (h:∀ u v,u<n→v<n→s v u=BOT∨(u=v∧s v u=0)∨∃ c,WM W u c v∧(∀ x∈c,x<n)∧s v u=wM W u c v) (hd:∀ u,u<n→s u u≠BOT∧0≤s u u) {k:Nat} (hk:k<n):s k k=0:=by
 have h1:=hd k hk
 rcases h k k hk hk with e|⟨_,e⟩|⟨c,h2,h3,e⟩
 ·exact absurd e h1.1
 ·exact e
 ·have:=hn k c hk h3 h2;omega
def fwS (s:Nat→Nat→Int) (k:Nat):Nat→Nat→Int:=fun i j=>max (s i j) (timesB (s i k) (s k j))
theorem timesB_ne {a b:Int} (ha:a≠BOT) (hb:b≠BOT):timesB a b=a+b:=by simp[timesB,ha,hb]
theorem zero_ne_bot:(0:Int)≠BOT:=by decide
theorem timesB_0 {a:Int}:timesB a 0=a:=by
 by_cases h:a=BOT
 ·rw[timesB,if_pos (.inl h),h]
 ·rw[timesB_ne h zero_ne_bot];omega
theorem timesB_0' {a:Int}:timesB 0 a=a:=by
 by_cases h:a=BOT
 ·rw[timesB,if_pos (.inr h),h]
 ·rw[timesB_ne zero_ne_bot h];omega
theorem FW.step {W:Nat→Nat→Int}{n k:Nat}{M:Int}{s:Nat→Nat→Int} (hn:NoPos W n) (hM:0≤M) (hMb:M*2 ^ (k+1)<1000000000000000) (hk:k<n) (h:FW W n M k s):FW W n M (k+1) (fwS s k)∧(∀ i,i<n→fwS s k i k=s i k)∧∀ j,j<n→fwS s k k j=s k j:=by
 have hkk:=star_dia0 hn h.some h.dia hk
 have hpow:M*2 ^ (k+1)=M*2 ^ k*2:=by rw[Int.pow_succ,Int.mul_assoc]
 have hp0:0≤M*2 ^ k:=Int.mul_nonneg hM (Int.pow_nonneg (by omega))
 have hge:∀ v u,s v u≤fwS s k v u:=fun v u=>by simp only[fwS];omega
 have hbot:∀ v u,u<n→v<n→BOT≤s v u:=fun v u hu hv=>by
  by_cases e:s v u=BOT
  ·omega
  ·have:=h.low u v hu hv e;simp only[BOT];omega
 have hmono:∀ v u,u<n→v<n→s v u≠BOT→fwS s k v u≠BOT:=fun v u hu hv hne=>by
  have h1:=hge v u
  have h2:=hbot v u hu hv
  omega
 refine ⟨⟨fun u v hu hv=>?_,fun u hu=>⟨hmono u u hu hu (h.dia u hu).1,by have:=hge u u;have:=(h.dia u hu).2;omega⟩,fun u v c hu hv hc hw=>?_,fun u v hu hv hne=>?_⟩,fun i hi=>?_,fun j hj=>?_⟩
 ·by_cases hb:timesB (s v k) (s k u)≤s v u
  ·have e:fwS s k v u=s v u:=by simp only[fwS];omega
   rw[e];exact h.some u v hu hv
  ·have e:fwS s k v u=timesB (s v k) (s k u):=by simp only[fwS];omega
   rw[e]
   have h1:s v k≠BOT:=fun e1=>hb (by rw[timesB,if_pos (.inl e1)];exact hbot v u hu hv)
   have h2:s k u≠BOT:=fun e1=>hb (by rw[timesB,if_pos (.inr e1)];exact hbot v u hu hv)
   rw[timesB_ne h1 h2]
   right
   rcases h.some k v hk hv with e1|⟨e1,e2⟩|⟨c2,g1,g2,g3⟩
   ·exact absurd e1 h1
   ·rw[e2,Int.zero_add,← e1]
    rcases h.some u k hu hk with e3|e3|e3
    ·exact absurd e3 h2
    ·exact .inl e3
    ·exact .inr e3
   ·rcases h.some u k hu hk with e3|⟨e3,e4⟩|⟨c1,g4,g5,g6⟩
    ·exact absurd e3 h2
    ·rw[e4,Int.add_zero,e3]
     exact .inr ⟨c2,g1,g2,g3⟩
    ·refine .inr ⟨c1++k :: c2,by rw[WM.app];exact ⟨g4,g1⟩,fun x hx=>?_,by rw[wM_app,g3,g6];omega⟩
     simp only[List.mem_append,List.mem_cons] at hx
     rcases hx with hx|hx|hx
     ·exact g5 x hx
     ·omega
     ·exact g2 x hx
 ·have key:∀ (m:Nat) (c:List Nat),c.length≤m→(∀ x∈c,x<k+1)→WM W u c v→fwS s k v u≠BOT∧wM W u c v≤fwS s k v u:=by
   intro m
   induction m with
   | zero=>
    intro c hm hc hw
    obtain rfl:c=[]:=List.length_eq_zero_iff.1 (by omega)
    have:=h.all u v [] hu hv (by simp) hw
    exact ⟨hmono v u hu hv this.1,Int.le_trans this.2 (hge v u)⟩
   | succ m ih=>
    intro c hm hc hw
    by_cases hkc:k∈c
    ·obtain ⟨a,e,he,hka⟩:=List.eq_append_cons_of_mem hkc
     subst he
     by_cases hke:k∈e
     ·obtain ⟨b,e',rfl⟩:=List.append_of_mem hke
      rw[WM.app,WM.app] at hw
      have hp:=hn k b hk (fun x hx=>by have:=hc x (by simp[hx]);omega) hw.2.1
      have:=ih (a++k :: e') (by simp at hm ⊢;omega) (fun x hx=>hc x (by
       simp only[List.mem_append,List.mem_cons] at hx ⊢
       rcases hx with hx|hx|hx
       ·exact .inl hx
       ·exact .inr (.inl hx)
       ·exact .inr (.inr (.inr (.inr hx))))) (by rw[WM.app];exact ⟨hw.1,hw.2.2⟩)
      refine ⟨this.1,?_⟩
      rw[wM_app,wM_app]
      have h2:=this.2
      rw[wM_app] at h2
      omega
     ·rw[WM.app] at hw
      have hlt:∀ x,x<k+1→x≠k→x<k:=fun x h1 h2=>by omega
      have h1:=h.all u k a hu hk (fun x hx=>hlt x (hc x (by simp[hx])) (fun e2=>hka (e2▸hx))) hw.1
      have h2:=h.all k v e hk hv (fun x hx=>hlt x (hc x (by simp[hx])) (fun e2=>hke (e2▸hx))) hw.2
      have h3:timesB (s v k) (s k u)≤fwS s k v u:=by simp only[fwS];omega
      rw[timesB_ne h2.1 h1.1] at h3
      have h4:=h.low u k hu hk h1.1
      have h5:=h.low k v hk hv h2.1
      rw[wM_app]
      refine ⟨fun e2=>?_,by omega⟩
      simp only[BOT] at e2
      omega
    ·have:=h.all u v c hu hv (fun x hx=>by have:=hc x hx;have:x≠k:=fun e2=>hkc (e2▸hx);omega) hw
     exact ⟨hmono v u hu hv this.1,Int.le_trans this.2 (hge v u)⟩
  exact key c.length c (Nat.le_refl _) hc hw
 ·rw[hpow]
  by_cases hb:timesB (s v k) (s k u)≤s v u
  ·have e:fwS s k v u=s v u:=by simp only[fwS];omega
   rw[e] at hne ⊢
   have:=h.low u v hu hv hne
   omega
  ·have e:fwS s k v u=timesB (s v k) (s k u):=by simp only[fwS];omega
   rw[e] at hne ⊢
   have h1:s v k≠BOT:=fun e1=>hne (by rw[timesB,if_pos (.inl e1)])
   have h2:s k u≠BOT:=fun e1=>hne (by rw[timesB,if_pos (.inr e1)])
   rw[timesB_ne h1 h2]
   have h3:=h.low k v hk hv h1
   have h4:=h.low u k hu hk h2
   omega
 ·simp only[fwS,hkk,timesB_0];omega
 ·simp only[fwS,hkk,timesB_0'];omega
theorem FW.start {W:Nat→Nat→Int}{n:Nat}{M:Int} (hM:0≤M) (hMb:M<1000000000000000) (hW:∀ u v,W v u≠BOT→-M≤W v u∧W v u≤M):FW W n M 0 (fun i j=>max (W i j) (if i=j then 0 else BOT)):=by
 have hWb:∀ u v,BOT≤W v u:=fun u v=>by
  by_cases e:W v u=BOT
  ·omega
  ·have:=(hW u v e).1;simp only[BOT];omega
 refine ⟨fun u v hu hv=>?_,fun u hu=>?_,fun u v c hu hv hc hw=>?_,fun u v hu hv hne=>?_⟩
 ·have h1:=hWb u v
  by_cases e:v=u
  ·subst e
   simp only[if_true]
   by_cases h2:W v v≤0
   ·right;left;exact ⟨by trivial,by omega⟩
   ·right;right;exact ⟨[],by simp only[WM,BOT];omega,by simp,by simp only[wM];omega⟩
  ·simp only[if_neg e]
   by_cases h2:W v u=BOT
   ·left;omega
   ·right;right;exact ⟨[],h2,by simp,by simp only[wM];omega⟩
 ·simp only[if_true,BOT];constructor<;>omega
 ·obtain rfl:c=[]:=by cases c with
   | nil=>rfl
   | cons x c=>exact absurd (hc x (by simp)) (by omega)
  have h1:W v u≠BOT:=hw
  have h2:=hWb u v
  simp only[wM]
  constructor
  ·intro e;apply h1;split at e<;>omega
  ·omega
 ·by_cases h2:W v u=BOT
  ·rw[h2] at hne ⊢
   by_cases e:v=u
   ·rw[if_pos e];simp only[BOT,Int.pow_zero,Int.mul_one];omega
   ·rw[if_neg e] at hne;exact absurd (by omega) hne
  ·have:=(hW u v h2).1
   simp only[Int.pow_zero,Int.mul_one]
   omega
theorem FW.star {W:Nat→Nat→Int}{n:Nat}{M:Int}{s:Nat→Nat→Int} (h:FW W n M n s):StarOk W n s:=⟨h.some,h.dia,h.all⟩
def unitF (i j:Nat):Int:=if i=j then 0 else BOT
def maxN (f:Nat→Int):Nat→Int
 | 0=>BOT
 | k+1=>max (maxN f k) (f k)
theorem maxN_ge {f:Nat→Int}:∀ {n k:Nat},k<n→f k≤maxN f n
 | 0,k,h=>by omega
 | n+1,k,h=>by
  simp only[maxN]
  by_cases e:k=n
  ·subst e;omega
  ·have:=maxN_ge (f:=f) (show k<n by omega);omega
theorem maxN_at {f:Nat→Int}:∀ {n:Nat},maxN f n=BOT∨∃ k,k<n∧maxN f n=f k
 | 0=>.inl rfl
 | n+1=>by
  simp only[maxN]
  rcases maxN_at (f:=f) (n:=n) with e|⟨k,hk,e⟩
  ·by_cases h:f n≤maxN f n
   ·left;omega
   ·right;exact ⟨n,by omega,by omega⟩
  ·by_cases h:f n≤maxN f n
   ·right;exact ⟨k,by omega,by omega⟩
   ·right;exact ⟨n,by omega,by omega⟩
def powS (W:Nat→Nat→Int) (n:Nat) (s:Nat→Nat→Int):Nat→Nat→Int:=fun i j=>max (unitF i j) (maxN (fun k=>timesB (W i k) (s k j)) n)
def powN (W:Nat→Nat→Int) (n:Nat):Nat→Nat→Nat→Int
 | 0=>unitF
 | m+1=>powS W n (powN W n m)
structure PX (W:Nat→Nat→Int) (n:Nat) (M:Int) (m:Nat) (s:Nat→Nat→Int):Prop where
 some:∀ u v,u<n→v<n→s v u=BOT∨(u=v∧s v u=0)∨∃ c,WM W u c v∧(∀ x∈c,x<n)∧s v u=wM W u c v
 dia:∀ u,u<n→s u u≠BOT∧0≤s u u
 all:∀ u v c,u<n→v<n→c.length+1≤m→(∀ x∈c,x<n)→WM W u c v→s v u≠BOT∧wM W u c v≤s v u
 bnd:∀ u v,u<n→v<n→s v u≠BOT→-(M*m)≤s v u∧s v u≤M*m
theorem PX.start {W:Nat→Nat→Int}{n:Nat}{M:Int}:PX W n M 0 unitF:=by
 refine ⟨fun u v hu hv=>?_,fun u hu=>⟨by simp only[unitF,if_true];exact zero_ne_bot,by simp[unitF]⟩,fun u v c hu hv hc=>by omega,fun u v hu hv hne=>?_⟩
 ·unfold unitF
  by_cases e:v=u
  ·subst e;exact .inr (.inl ⟨rfl,by simp⟩)
  ·exact .inl (by simp[e])
 ·unfold unitF at hne ⊢
  split at hne<;>simp_all
theorem WM.lastArc {W:Nat→Nat→Int}:∀ {c:List Nat}{u v:Nat},WM W u c v→(c=[]∧W v u≠BOT)∨∃ c' k,c=c'++[k]∧WM W u c' k∧W v k≠BOT∧wM W u c v=wM W u c' k+W v k
 | [],u,v,h=>.inl ⟨rfl,h⟩
 | m :: c,u,v,h=>by
  right
  rcases h.2.lastArc with ⟨e,h1⟩|⟨c',k,e,h1,h2,h3⟩
  ·subst e;exact ⟨[],m,rfl,h.1,h1,by simp[wM]⟩
  ·subst e
   refine ⟨m :: c',k,rfl,⟨h.1,h1⟩,h2,?_⟩
   simp only[List.cons_append,wM] at h3 ⊢
   omega
theorem PX.step {W:Nat→Nat→Int}{n m:Nat}{M:Int}{s:Nat→Nat→Int} (hM:0≤M) (hMb:M*(m+1)<1000000000000000) (hW:∀ u v,W v u≠BOT→-M≤W v u∧W v u≤M) (h:PX W n M m s):PX W n M (m+1) (powS W n s):=by
 have e1:M*((m:Int)+1)=M*m+M:=by rw[Int.mul_add,Int.mul_one]
 have hm0:0≤M*(m:Int):=Int.mul_nonneg hM (by omega)
 have hub:∀ i j,BOT≤unitF i j:=fun i j=>by unfold unitF;split<;>simp only[BOT]<;>omega
 refine ⟨fun u v hu hv=>?_,fun u hu=>?_,fun u v c hu hv hl hc hw=>?_,fun u v hu hv hne=>?_⟩
 ·unfold powS
  by_cases hb:maxN (fun k=>timesB (W v k) (s k u)) n≤unitF v u
  ·have e:max (unitF v u) (maxN (fun k=>timesB (W v k) (s k u)) n)=unitF v u:=by omega
   rw[e]
   unfold unitF
   by_cases e2:v=u
   ·subst e2;exact .inr (.inl ⟨rfl,by simp⟩)
   ·exact .inl (by simp[e2])
  ·have e:max (unitF v u) (maxN (fun k=>timesB (W v k) (s k u)) n)=maxN (fun k=>timesB (W v k) (s k u)) n:=by omega
   rw[e]
   rcases maxN_at (f:=fun k=>timesB (W v k) (s k u)) (n:=n) with e2|⟨k,hk,e2⟩
   ·exact .inl e2
   ·rw[e2]
    by_cases h1:W v k=BOT
    ·left;simp[timesB,h1]
    ·by_cases h2:s k u=BOT
     ·left;simp[timesB,h2]
     ·simp only[timesB_ne h1 h2]
      right;right
      rcases h.some u k hu hk with e3|⟨e3,e4⟩|⟨c,g1,g2,g3⟩
      ·exact absurd e3 h2
      ·subst e3;exact ⟨[],h1,by simp,by simp[wM,e4]⟩
      ·refine ⟨c++[k],by rw[WM.app];exact ⟨g1,h1⟩,fun x hx=>?_,by rw[wM_app,g3];simp[wM];omega⟩
       simp only[List.mem_append,List.mem_singleton] at hx
       rcases hx with hx|hx
       ·exact g2 x hx
       ·omega
 ·unfold powS unitF;simp only[if_true,BOT];constructor<;>omega
 ·rcases hw.lastArc with ⟨e,h1⟩|⟨c',k,e,h1,h2,h3⟩
  ·subst e
   have h4:=maxN_ge (f:=fun k=>timesB (W v k) (s k u)) hu
   have h5:=h.dia u hu
   simp only[timesB_ne h1 h5.1] at h4
   have h6:=hW u v h1
   unfold powS
   simp only[wM]
   refine ⟨fun e=>?_,by omega⟩
   simp only[BOT] at e;omega
  ·subst e
   have hk:k<n:=hc k (by simp)
   have h5:=h.all u k c' hu hk (by simp at hl;omega) (fun x hx=>hc x (by simp[hx])) h1
   have h4:=maxN_ge (f:=fun k=>timesB (W v k) (s k u)) hk
   simp only[timesB_ne h2 h5.1] at h4
   have h6:=hW k v h2
   have h7:=h.bnd u k hu hk h5.1
   unfold powS
   rw[h3]
   refine ⟨fun e=>?_,by omega⟩
   simp only[BOT] at e;omega
 ·unfold powS at hne ⊢
  simp only[Int.natCast_add,Int.natCast_one,e1]
  by_cases hb:maxN (fun k=>timesB (W v k) (s k u)) n≤unitF v u
  ·have e:max (unitF v u) (maxN (fun k=>timesB (W v k) (s k u)) n)=unitF v u:=by omega
   rw[e] at hne ⊢
   unfold unitF at hne ⊢
   split at hne
   ·rename_i e2;rw[if_pos e2];omega
   ·exact absurd rfl hne
  ·have e:max (unitF v u) (maxN (fun k=>timesB (W v k) (s k u)) n)=maxN (fun k=>timesB (W v k) (s k u)) n:=by omega
   rw[e] at hne ⊢
   rcases maxN_at (f:=fun k=>timesB (W v k) (s k u)) (n:=n) with e2|⟨k,hk,e2⟩
   ·exact absurd e2 hne
   ·rw[e2] at hne ⊢
    by_cases h1:W v k=BOT
    ·exact absurd (by simp[timesB,h1]) hne
    ·by_cases h2:s k u=BOT
     ·exact absurd (by simp[timesB,h2]) hne
     ·simp only[timesB_ne h1 h2]
      have h6:=hW k v h1
      have h7:=h.bnd u k hu hk h2
      omega
theorem PX.star {W:Nat→Nat→Int}{n m:Nat}{M:Int}{s:Nat→Nat→Int} (hn:NoPos W n) (hm:n≤m) (h:PX W n M m s):StarOk W n s:=by
 refine ⟨h.some,h.dia,fun u v c hu hv hc hw=>?_⟩
 obtain ⟨c',g1,g2,g3,g4⟩:=walk_short hn c.length c u v (Nat.le_refl _) hu hc hw
 have:=h.all u v c' hu hv (by omega) g3 g1
 exact ⟨this.1,by omega⟩
theorem powN_px {W:Nat→Nat→Int}{n:Nat}{M:Int} (hM:0≤M) (hW:∀ u v,W v u≠BOT→-M≤W v u∧W v u≤M):∀ m:Nat,M*(m+1)<1000000000000000→PX W n M m (powN W n m)
 | 0,_=>PX.start
 | m+1,h=>by
  have e1:M*(((m+1:Nat):Int)+1)=M*((m:Int)+1)+M:=by rw[Int.natCast_add,Int.mul_add];simp
  exact PX.step hM (by omega) hW (powN_px hM hW m (by omega))
noncomputable def starF (W:Nat→Nat→Int) (n:Nat):Nat→Nat→Int:=open Classical in if h:∃ s,StarOk W n s then Classical.choose h else fun _ _=>0
theorem starF_eq {W:Nat→Nat→Int}{n:Nat}{s:Nat→Nat→Int} (h:StarOk W n s) {u v:Nat} (hu:u<n) (hv:v<n):starF W n v u=s v u:=by
 have he:∃ s,StarOk W n s:=⟨s,h⟩
 unfold starF
 rw[dif_pos he]
 exact (Classical.choose_spec he).uniq h hu hv
end
end Go.Proofs.YtkpoclbnnpglfaaGreat
