/-
  Walks in the abstract reading, part 12.
-/
import Derived.Test.YtkpoclbnnpglfaaGreatKtU11
import Derived.Test.YtkpoclbnnpglfaaGreatKtU8
import Derived.Test.YtkpoclbnnpglfaaGreatKtU10
import Derived.Test.YtkpoclbnnpglfaaGreatKtU9
import Derived.Test.YtkpoclbnnpglfaaGreatKtA3
set_option linter.unusedSimpArgs false
set_option linter.unusedVariables false
namespace Go.Proofs.YtkpoclbnnpglfaaGreat
section
open Go Go.RowKit
attribute [local irreducible] AL AD AW OpOk Le AC thenQ blockQ EndQ
theorem frzV2 [Mode] {P:Program}{f:FuncId}{args:List AV}{n:Nat}{d:D}{xs:List Int} (hc:AC P f args H0 (.tup [own1 1 n,.d d]) (hp1 (IO xs))) (hn:xs.length=n):AC P f args H0 (.tup [IL xs,.d d]) H0:=
 hc.frz (ARs.tup (.cons (AR.whole rfl trivial (by rw[IR_len];exact hn)) (.cons (.dd _) .nil)))
theorem mulK [Mode] {u k:Int} (h1 : -2000000≤u∧u≤2000000) (h2:0≤k∧k≤5) : -10000000≤u*k∧u*k≤10000000:=by
 have:=mulB (q:=k) (w:=u) (Q:=5) (M:=2000000) h2.1 h2.2 h1.1 h1.2 (by decide)
 rw[Int.mul_comm]
 omega
theorem plW_leG [Mode] {n:Nat}{xs:List Pl}{u1 u2:Int} (hv:∀ p∈xs,okPl n p) (hu1 : -2000000≤u1∧u1≤2000000) (hu2:0≤u2∧u2≤1000000) (i:Nat) (hi:i<xs.length):(0≤u2*(plA xs i).d∧u2*(plA xs i).d≤10000000000)∧(-10000000≤u1*(plA xs i).k∧u1*(plA xs i).k≤10000000):=by
 have ho:=okPl_at hv i hi
 have h1:=mul_in hu2 ho.2.2.1
 exact ⟨by omega,mulK hu1 ho.2.2.2⟩
theorem wm_bndG [Mode] {n:Nat}{xs:List Pl} (hv:∀ p∈xs,okPl n p) {u1 u2:Int} (h1 : -2000000≤u1∧u1≤2000000) (h2:0≤u2∧u2≤1000000) (p:Pl) (hp:p∈xs) : -20000000000≤pw u1 u2 p∧pw u1 u2 p≤20000000000:=by
 obtain ⟨i,hi,rfl⟩:=List.getElem_of_mem hp
 have:=plW_leG hv h1 h2 i hi
 have e:plA xs i=xs[i]:=by simp[plA,hi]
 rw[e] at this
 unfold pw;omega
theorem wm_okG [Mode] {n:Nat}{xs:List Pl}{r:Int × Int} (hv:∀ p∈xs,okPl n p) (h1 : -2000000≤r.1∧r.1≤2000000) (h2:0≤r.2∧r.2≤1000000):WmOk n xs r (wmT n xs r):=
 wm_ok (M:=20000000000) (by decide) xs (fun p hp=>⟨hv p hp,(wm_bndG hv h1 h2 p hp).1⟩)
theorem starB_wm [Mode] {n:Nat}{xs:List Pl}{r:Int × Int} (hn:n≤10) (h0:0<n) (hv:∀ p∈xs,okPl n p) (h1 : -2000000≤r.1∧r.1≤2000000) (h2:0≤r.2∧r.2≤1000000):StarB (wmT n xs r) n:=by
 have hb:=wm_bndG hv h1 h2
 have hw:=wm_okG hv h1 h2
 have hrc:Rc (wmT n xs r) n n:=⟨hw.sq.l,hw.sq.r⟩
 refine ⟨hrc,h0,hn,fun u v hne=>?_⟩
 by_cases hvn:v<n
 ·by_cases hun:u<n
  ·rcases hw.some u v hun hvn with e|⟨p,hp,e1,e2,e3⟩
   ·exact absurd e hne
   ·have:=hb p hp
    rw[← e3];omega
  ·rw[entN_out hrc hvn hun];decide
 ·rw[entN_out2 hrc hvn];decide
theorem placeWeightG_ac [Mode] (p:Pl) (u1 u2:Int) (h1:0≤u2*p.d∧u2*p.d≤10000000000) (h2 : -10000000≤u1*p.k∧u1*p.k≤10000000):AC Tryz.prog 54 [p.av,.agg [I u1,I u2]] H0 (I (pw u1 u2 p)) H0:=by
 unfold pw
 obtain ⟨pf,pt,pd,pk⟩:=p
 simp only at h1 h2 ⊢
 refine AC.of_body 0 Tryz.func54 rfl (fun l h=>absurd rfl h) (fun C hC=>?_)
 have hD:∀ l,¬ C.D0 l:=fun l h=>(hC l).1 h rfl
 simp only[startFr,Tryz.ntmps54,List.length_cons,List.length_nil,Nat.reduceAdd,Nat.reduceSub,List.replicate_succ,List.replicate_zero,List.cons_append,List.nil_append]
 repeat' (first|((first|apply Ba|(apply Bb;(· rfl);(· rfl))|(apply Bc;(· exact nxE))|(apply Bd;(· rfl);(· rfl);(· exact nxE)));(· first|exact Ok.pe))|((first|apply Ca|(apply Cb;(· exact nxE)));(· first|exact Ok.e0))|refine Sx ?_|(refine Sy (fun h=>?_) (fun h=>?_)<;>try (exfalso;omega;done))|refine Sz (fun h=>?_) (fun h=>?_))
 refine Ya ?_
 (apply Le.headZ (hs:=[]) [] rfl)
 all_goals (try dsimp only[srcs])
 (case' hfr=>(repeat' (first|refine La ?_ ?_|exact Lc|refine Lo ?_|refine ⟨⟨_,rfl,?_⟩,?_⟩|refine Lx ?_)))
 all_goals (first|exact Ld|exact trivial|(rfl))
set_option maxHeartbeats 2000000 in
theorem weightMatrixG_ac [Mode] (n:Nat) (xs:List Pl) (u1 u2:Int) (hn:n≤10) (hx:xs.length≤1000) (hv:∀ p∈xs,okPl n p) (h1 : -2000000≤u1∧u1≤2000000) (h2:0≤u2∧u2≤1000000):AC Tryz.prog 84 [grD n xs,.agg [I u1,I u2]] H0 (own1 1 n) (hpM 1 (TR (wmT n xs (u1,u2)))):=by
 have hB:=bottomMatrix_ac n (by omega)
 refine AC.of_body 0 Tryz.func84 rfl (fun l h=>absurd rfl h) (fun C hC=>?_)
 have hD:∀ l,¬ C.D0 l:=fun l h=>(hC l).1 h rfl
 simp only[startFr,Tryz.ntmps84,List.length_cons,List.length_nil,Nat.reduceAdd,Nat.reduceSub,List.replicate_succ,List.replicate_zero,List.cons_append,List.nil_append]
 repeat' (first|((first|apply Ba|(apply Bb;(· rfl);(· rfl))|(apply Bc;(· exact nxE))|(apply Bd;(· rfl);(· rfl);(· exact nxE)));(· first|exact Tb rfl rfl (hB) (Sd (Sd Sn))|exact Ok.pe))|((first|apply Ca|(apply Cb;(· exact nxE)));(· first|exact Tb rfl rfl (hB) (Sd (Sd Sn))|exact Ok.e0))|refine Sx ?_|(refine Sy (fun h=>?_) (fun h=>?_)<;>try (exfalso;omega;done))|refine Sz (fun h=>?_) (fun h=>?_))
 refine AW.loop (X:={k:Nat // k≤xs.length}) (fun k=>⟨[Oo,Oo,Oo,Bx 2 1,Oo,.own 1 ⟨2,[]⟩ 0 n,Oo,Oo,Oo,Oo,Oo,Oo,Oo,Oo,PL xs,I xs.length,I (k.1:Nat),Oo,Oo,Oo,Oo,Oo,Oo,Oo,Oo,Oo,Oo,Oo,Oo,Oo,Oo,Oo,Oo,Oo,Oo,Oo,Oo,Oo,Oo,Oo,Oo,Oo,Oo],heapX [(⟨1,[]⟩,⟨1,[]⟩,⟨2,[[I u1,I u2]]⟩)] [mi1 ⟨2,[]⟩ (TR ((xs.take k.1).foldl (wmS (u1,u2)) (botT n n)))],900⟩) (fun k=>xs.length - k.1) ⟨0,Nat.zero_le _⟩ ?_ (fun k=>?_)
 ·
  (apply Le.headG [_] [{ l:=⟨2,[]⟩,k:=1,R:=TR (botT n n),src:=⟨7,[0]⟩,base:=⟨7,[0]⟩ }] (fun _=>False))
  (case' hlen=>rfl)
  (case' hms=>rfl)
  all_goals (try dsimp only[srcs])
  (case' hfr|hob=>(repeat' (first|refine La ?_ ?_|exact Lc|refine Lo ?_|refine ⟨⟨_,rfl,?_⟩,?_⟩|refine Lx ?_)))
  (case' hok=>first|exact ⟨MI.ok_same rfl (Cg),trivial⟩|exact trivial)
  (case' hN=>rfl)
  (case' hS=>rfl)
  all_goals (first|exact Ld|(rfl))
 obtain ⟨k,hk⟩:=k
 simp only
 by_cases hlt:k<xs.length
 ·have hrow:=pl_row (n:=0) hlt
  have hst:=wm_take (r:=(u1,u2)) (n:=n) hlt
  have hpw:=plW_leG hv h1 h2 k hlt
  have hPW:=placeWeightG_ac (plA xs k) u1 u2 (by omega) (by omega)
  obtain ⟨⟨g1,g2⟩,⟨g3,g4⟩,_⟩:=okPl_at hv k hlt
  have hsq:Sq ((xs.take k).foldl (wmS (u1,u2)) (botT n n)) n:=wm_sq (Sq.bot n)
  generalize hT:(xs.take k).foldl (wmS (u1,u2)) (botT n n)=T at hst hsq
  generalize hw:pw u1 u2 (plA xs k)=w at hPW
  rw[show wmS (u1,u2) T (plA xs k)=setT T (plA xs k).t.toNat (plA xs k).f.toNat (max (entN T (plA xs k).t.toNat (plA xs k).f.toNat) (pw u1 u2 (plA xs k))) from rfl,hw] at hst
  generalize plA xs k=p at *
  obtain ⟨pf,pt,pd,pk⟩:=p
  obtain ⟨f,rfl⟩:∃ f:Nat,pf=f:=⟨pf.toNat,by simp at g1;omega⟩
  obtain ⟨t,rfl⟩:∃ t:Nat,pt=t:=⟨pt.toNat,by simp at g3;omega⟩
  simp only[Int.toNat_natCast] at hrow g2 g4 hpw hst
  obtain ⟨r,hr1,hr2,hr3⟩:=hsq.get (show t<n by omega) (show f<n by omega)
  have hr1':(TR T)[t]? = some (IR r):=by simp[hr1]
  have hrl:(IR r).length=n:=by rw[IR_len,hr3]
  have hrf:(IR r)[f]? = some [DI (entN T t f)]:=by simp[hr2]
  repeat' (first|((first|apply Ba|(apply Bb;(· rfl);(· rfl))|(apply Bc;(· exact nxE))|(apply Bd;(· rfl);(· rfl);(· exact nxE)));(· first|exact Kz rfl rfl (hPW) (Aa (Ad (Ad (Ad (Ad An)))) (Aa (Ad (Ad An)) An))|exact Ok.ldTn rfl rfl rfl hr1' hrl|exact Ok.ld1 rfl rfl (congrArg (Option.map (dobj 1)) hr1') hrf|exact Ok.st1 rfl rfl (congrArg (Option.map (dobj 1)) hr1') (by omega) (by rw[hrf];rfl) rfl rfl IR_set|exact Ok.pe))|((first|apply Ca|(apply Cb;(· exact nxE)));(· first|exact Ok.st1 rfl rfl (congrArg (Option.map (dobj 1)) hr1') (by omega) (by rw[hrf];rfl) rfl rfl IR_set|exact Ok.e0))|refine Sx ?_|(refine Sy (fun h=>?_) (fun h=>?_)<;>try (exfalso;omega;done))|refine Sz (fun h=>?_) (fun h=>?_))
  refine ⟨⟨k+1,by omega⟩,?_,by simp only;omega⟩
  (apply Le.headG [_] [{ l:=⟨2,[]⟩,k:=1,R:=TR ((xs.take (k+1)).foldl (wmS (u1,u2)) (botT n n)),src:=⟨2,[]⟩,base:=⟨2,[]⟩ }] (fun _=>False))
  (case' hlen=>rfl)
  (case' hms=>rfl)
  all_goals (try dsimp only[srcs])
  (case' hfr|hob=>(repeat' (first|refine La ?_ ?_|exact Lc|refine Lo ?_|refine ⟨⟨_,rfl,?_⟩,?_⟩|refine Lx ?_)))
  (case' hok=>first|exact ⟨MI.ok_row (r0:=IR r) (r:=IR (r.set f (max (entN T t f) w))) (by rw[hst];exact setT_TR hr1) hr1' (by simp) rfl (Cg),trivial⟩|exact trivial)
  (case' hN=>rfl)
  (case' hS=>rfl)
  all_goals (first|exact Ld|(rfl))
 ·
  obtain rfl:k=xs.length:=by omega
  rw[List.take_length]
  repeat' (first|((first|apply Ba|(apply Bb;(· rfl);(· rfl))|(apply Bc;(· exact nxE))|(apply Bd;(· rfl);(· rfl);(· exact nxE)));(· first|exact Ok.pe))|((first|apply Ca|(apply Cb;(· exact nxE)));(· first|exact Ok.e0))|refine Sx ?_|(refine Sy (fun h=>?_) (fun h=>?_)<;>try (exfalso;omega;done))|refine Sz (fun h=>?_) (fun h=>?_))
  refine Ya ?_
  (apply Le.headG [] [{ l:=⟨0,[]⟩,k:=1,R:=TR (wmT n xs (u1,u2)),src:=⟨2,[]⟩,base:=⟨2,[]⟩ }] (fun _=>False))
  (case' hlen=>rfl)
  (case' hms=>rfl)
  all_goals (try dsimp only[srcs])
  (case' hfr|hob=>(repeat' (first|refine La ?_ ?_|exact Lc|refine Lo ?_|refine ⟨⟨_,rfl,?_⟩,?_⟩|refine Lx ?_)))
  (case' hok=>first|exact ⟨MI.ok_same rfl (Cg),trivial⟩|exact trivial)
  (case' hN=>rfl)
  (case' hS=>rfl)
  all_goals (first|exact Ld|(rfl))
noncomputable def tpC (ev:Int) (xs:List Pl) (r:Int × Int):Int:=open Classical in
 if isEG ev xs=true∧isRtG r=true then (if NoPos (entN (wmT ev.toNat xs r)) ev.toNat then (if (ptL ev.toNat xs r).all isVal=true then 0 else 3) else 5) else 1
noncomputable def tpX (ev:Int) (xs:List Pl) (r:Int × Int):List Int:=if tpC ev xs r=0 then ptL ev.toNat xs r else []
structure DrT (r:Int × Int):Prop where
 n : -2000000≤r.1∧r.1≤2000000
 d : -1≤r.2∧r.2≤1000000
theorem isRtG_pos [Mode] {r:Int × Int} (h:isRtG r=true):(-1000000≤r.1∧r.1≤1000000)∧(1≤r.2∧r.2≤1000000)∧Nat.gcd r.1.natAbs r.2.toNat=1:=by
 unfold isRtG at h
 rw[Bool.and_eq_true,Bool.and_eq_true,wi_iff,wi_iff,beq_iff_eq] at h
 exact ⟨h.1,h.2.1,h.2.2⟩
theorem tp_inv [Mode] {ev:Int}{xs:List Pl}{r:Int × Int} (h:¬ (isEG ev xs=true∧isRtG r=true)):tpC ev xs r=1∧tpX ev xs r=[]:=by
 have h1:tpC ev xs r=1:=by unfold tpC;rw[if_neg h]
 exact ⟨h1,by unfold tpX;rw[h1];rfl⟩
theorem tp_pos [Mode] {n:Nat}{xs:List Pl}{r:Int × Int} (h1:isEG n xs=true) (h2:isRtG r=true) (h3:¬ NoPos (entN (wmT n xs r)) n):tpC n xs r=5∧tpX n xs r=[]:=by
 have h1:tpC n xs r=5:=by unfold tpC;rw[if_pos ⟨h1,h2⟩,Int.toNat_natCast,if_neg h3]
 exact ⟨h1,by unfold tpX;rw[h1];rfl⟩
theorem tp_lim [Mode] {n:Nat}{xs:List Pl}{r:Int × Int} (h1:isEG n xs=true) (h2:isRtG r=true) (h3:NoPos (entN (wmT n xs r)) n) (h4:(ptL n xs r).all isVal=false):tpC n xs r=3∧tpX n xs r=[]:=by
 have h1:tpC n xs r=3:=by unfold tpC;rw[if_pos ⟨h1,h2⟩,Int.toNat_natCast,if_pos h3,h4];rfl
 exact ⟨h1,by unfold tpX;rw[h1];rfl⟩
theorem tp_yes [Mode] {n:Nat}{xs:List Pl}{r:Int × Int} (h1:isEG n xs=true) (h2:isRtG r=true) (h3:NoPos (entN (wmT n xs r)) n) (h4:(ptL n xs r).all isVal=true):tpC n xs r=0∧tpX n xs r=ptL n xs r:=by
 have h1:tpC n xs r=0:=by unfold tpC;rw[if_pos ⟨h1,h2⟩,Int.toNat_natCast,if_pos h3,h4];rfl
 exact ⟨h1,by unfold tpX;rw[h1];rfl⟩
theorem isVal_fin [Mode] {x:List Int} (h1:∀ a∈x,a≠BOT) (h2:x.all isVal=true):∀ a∈x,-1000000≤a∧a≤1000000:=fun a ha=>by
 have h3:=isVal_iff.1 (List.all_eq_true.1 h2 a ha)
 have h4:=h1 a ha
 unfold BOT at h3 h4
 omega
noncomputable def npB (n:Nat) (xs:List Pl) (r:Int × Int):Bool:=open Classical in decide (NoPos (entN (wmT n xs r)) n)
theorem npB_no [Mode] {n:Nat}{xs:List Pl}{r:Int × Int} (h:¬ NoPos (entN (wmT n xs r)) n):npB n xs r=false:=open Classical in decide_eq_false h
theorem npB_yes [Mode] {n:Nat}{xs:List Pl}{r:Int × Int} (h:NoPos (entN (wmT n xs r)) n):npB n xs r=true:=open Classical in decide_eq_true h
theorem npB_iff [Mode] {n:Nat}{xs:List Pl}{r:Int × Int}:npB n xs r=true↔NoPos (entN (wmT n xs r)) n:=open Classical in decide_eq_true_iff
set_option maxHeartbeats 4000000 in
theorem timePotentialG_ac [Mode] (n:Nat) (xs:List Pl) (r:Int × Int) (h0:1≤n) (hn:n≤10) (hx:xs.length≤1000) (hv:∀ p∈xs,okPl n p) (h1 : -2000000≤r.1∧r.1≤2000000) (h2:0≤r.2∧r.2≤1000000):AC Tryz.prog 34 [grD n xs,.agg [I r.1,I r.2]] H0 (.tup [IL (if npB n xs r=true then ptL n xs r else []),Bo (npB n xs r)]) H0:=by
 have hB:=starB_wm (r:=r) hn (by omega) hv h1 h2
 have hW:=(weightMatrixG_ac n xs r.1 r.2 hn hx hv h1 h2).frzT (by rw[TR_len];exact hB.rc.l)
 have hWl:(mRows 1 (TR (wmT n xs r))).length=n:=by rw[mTR_len];exact hB.rc.l
 rw[show ((r.1,r.2):Int × Int)=r from rfl] at hW
 by_cases hnp:NoPos (entN (wmT n xs r)) n
 case neg=>
  rw[npB_no hnp]
  simp only[Bool.false_eq_true,if_false]
  have hS:=starOf_no (wmT n xs r) n hB hnp
  generalize wmT n xs r=wm at *
  refine AC.of_body 0 Tryz.func34 rfl (fun l h=>absurd rfl h) (fun C hC=>?_)
  have hD:∀ l,¬ C.D0 l:=fun l h=>(hC l).1 h rfl
  simp only[startFr,Tryz.ntmps34,List.length_cons,List.length_nil,Nat.reduceAdd,Nat.reduceSub,List.replicate_succ,List.replicate_zero,List.cons_append,List.nil_append]
  repeat' (first|((first|apply Ba|(apply Bb;(· rfl);(· rfl))|(apply Bc;(· exact nxE))|(apply Bd;(· rfl);(· rfl);(· exact nxE)));(· first|exact Kz rfl rfl (hW) (Aa (Ad (Ad An)) (Aa (Ad (Ad An)) An))|exact Kz rfl rfl (hS) (Ad An)|exact Ok.pe))|((first|apply Ca|(apply Cb;(· exact nxE)));(· first|exact Ok.e0))|refine Sx ?_|(refine Sy (fun h=>?_) (fun h=>?_)<;>try (exfalso;omega;done))|refine Sz (fun h=>?_) (fun h=>?_))
  refine Yb ?_
  (apply Le.headZ (hs:=[]) [] rfl)
  all_goals (try dsimp only[srcs])
  (case' hfr=>(repeat' (first|refine La ?_ ?_|exact Lc|refine Lo ?_|refine ⟨⟨_,rfl,?_⟩,?_⟩|refine Lx ?_)))
  all_goals (first|exact Ld|exact trivial|(rfl))
 rw[npB_yes hnp,if_pos rfl]
 have hst:=hB.m hnp
 have hS:=(starOf_ac (wmT n xs r) n hst).frzT2 (by rw[TR_len,tabF_len])
 have hT:AC Tryz.prog 85 [TL (tabF n n (starF (entN (wmT n xs r)) n)),.d (.sl 1 (List.replicate n [DI 0]))] H0 (own1 1 n) (hp1 (IO (ptL n xs r))):=by
  rw[← zeroRow]
  exact timesVector_ac (tabF n n (starF (entN (wmT n xs r)) n)) n n (fun _=>0) tabF_rc (by omega) (by omega) (apOk_star hst)
 have hpl:(ptL n xs r).length=n:=rowF_len
 generalize ptL n xs r=pt at *
 generalize starF (entN (wmT n xs r)) n=s at *
 generalize wmT n xs r=wm at *
 clear hst hB hnp
 refine frzV2 ?_ hpl
 refine AC.of_body 0 Tryz.func34 rfl (fun l h=>absurd rfl h) (fun C hC=>?_)
 have hD:∀ l,¬ C.D0 l:=fun l h=>(hC l).1 h rfl
 simp only[startFr,Tryz.ntmps34,List.length_cons,List.length_nil,Nat.reduceAdd,Nat.reduceSub,List.replicate_succ,List.replicate_zero,List.cons_append,List.nil_append]
 repeat' (first|((first|apply Ba|(apply Bb;(· rfl);(· rfl))|(apply Bc;(· exact nxE))|(apply Bd;(· rfl);(· rfl);(· exact nxE)));(· first|exact Kz rfl rfl (hW) (Aa (Ad (Ad An)) (Aa (Ad (Ad An)) An))|exact Kz rfl rfl (hS) (Ad An)|exact Eo rfl rfl (hT) (Sd (Sw Sn))|exact Ok.pe))|((first|apply Ca|(apply Cb;(· exact nxE)));(· first|exact Eo rfl rfl (hT) (Sd (Sw Sn))|exact Ok.e0))|refine Sx ?_|(refine Sy (fun h=>?_) (fun h=>?_)<;>try (exfalso;omega;done))|refine Sz (fun h=>?_) (fun h=>?_))
 refine Yb ?_
 (apply Le.head [(⟨0,[]⟩,_,_)])
 (case' hfr|hob=>(repeat' (first|refine La ?_ ?_|exact Lc|refine Lo ?_|refine ⟨⟨_,rfl,?_⟩,?_⟩|refine Lx ?_)))
 all_goals (first|exact Ld|(rfl))
end
section
open Go Go.RowKit
attribute [local irreducible] AL AD AW OpOk Le AC thenQ blockQ EndQ
def tbP (x:List Int) (r:Int × Int) (p:Pl):Bool:=decide (x.getD p.t.toNat 0<x.getD p.f.toNat 0+pw r.1 r.2 p)
def tbH (n:Nat) (xs:List Pl) (r:Int × Int) (x:List Int):Bool:=decide (x.length=n)&&(finL x&&xs.all fun p=>!tbP x r p)
def tbB (ev:Int) (xs:List Pl) (r:Int × Int) (x:List Int):Bool:=isEG ev xs&&(isRtG r&&tbH ev.toNat xs r x)
theorem tb_cell [Mode] {x:List Int}{n:Nat}{v:Int} (hl:x.length=n) (hv:0≤v∧v<n):(IR x)[v.toNat]? = some [DI (x.getD v.toNat 0)]:=by
 have:=getD_cell (j:=v.toNat) hl (by omega)
 rw[Int.toNat_of_nonneg hv.1] at this
 exact this
abbrev hsTp (x:List Int) (p q:Int):HL:=[(⟨2,[]⟩,⟨2,[]⟩,⟨1,[[IL x]]⟩),(⟨1,[]⟩,⟨1,[]⟩,⟨2,[[I p,I q]]⟩)]
theorem hsTp_ok [Mode] {x:List Int}{p q:Int}:HOk (hsTp x p q):=by
 intro s hp r hr c hc
 simp only[List.mem_cons,List.not_mem_nil,or_false] at hp
 rcases hp with rfl|rfl
 ·simp at hr;subst hr;simp at hc;subst hc;exact .d _
 ·simp at hr;subst hr;simp at hc;rcases hc with rfl|rfl<;>exact .d _
set_option maxHeartbeats 2000000 in
theorem tpFn_ac [Mode] (n:Nat) (p:Pl) (u1 u2:Int) (x:List Int) (hp:okPl n p) (h1 : -2000000≤u1∧u1≤2000000) (h2:0≤u2∧u2≤1000000) (hl:x.length=n) (hf:finL x=true):AC Tryz.prog 53 [p.av,Bx 1 2,Bx 2 1] (heapL (hsTp x u1 u2)) (Bo (tbP x (u1,u2) p)) (heapL (hsTp x u1 u2)):=by
 obtain ⟨hF,hT,hd,hk⟩:=hp
 have hxf:=tb_cell hl hF
 have hxt:=tb_cell hl hT
 have hfv:=finL_at (j:=p.f.toNat) hf hl (by omega)
 have htv:=finL_at (j:=p.t.toNat) hf hl (by omega)
 have hm1:=mul_in h2 hd
 have hm2:=mulK h1 hk
 have hPW:=placeWeightG_ac p u1 u2 (by omega) (by omega)
 have hpb : -20000000000≤pw u1 u2 p∧pw u1 u2 p≤20000000000:=by unfold pw;omega
 unfold tbP
 simp only
 generalize pw u1 u2 p=w at *
 generalize x.getD p.f.toNat 0=a at *
 generalize x.getD p.t.toNat 0=b at *
 obtain ⟨pf,pt,pd,pk⟩:=p
 simp only at hxf hxt hPW hF hT
 refine AC.of_body 3 Tryz.func53 rfl (fun l h=>by simp[heapL,upd] at h;(repeat' split at h)<;>simp_all) (fun C hC=>?_)
 simp only[startFr,Tryz.ntmps53,List.length_cons,List.length_nil,Nat.reduceAdd,Nat.reduceSub,List.replicate_succ,List.replicate_zero,List.cons_append,List.nil_append]
 have hD:∀ l,C.D0 l→l=⟨2,[]⟩∨l=⟨1,[]⟩:=fun l h=>by have:=(hC l).1 h;simp[heapL,upd] at this;(repeat' split at this)<;>simp_all
 repeat' (first|((first|apply Ba|(apply Bb;(· rfl);(· rfl))|(apply Bc;(· exact nxE))|(apply Bd;(· rfl);(· rfl);(· exact nxE)));(· first|exact Kz rfl rfl (hPW) (Aa (Ad (Ad (Ad (Ad An)))) (Aa (Ad (Ad An)) An))|exact Ok.pe))|((first|apply Ca|(apply Cb;(· exact nxE)));(· first|exact Ok.e0))|refine Sx ?_|(refine Sy (fun h=>?_) (fun h=>?_)<;>try (exfalso;omega;done))|refine Sz (fun h=>?_) (fun h=>?_))
 (refine end1p (by first|exact .inl rfl|exact .inr rfl) rfl (by first|exact rT rfl|exact rCA rfl rfl rfl rfl (by simp)|exact rCC rfl rfl rfl rfl rfl) ?_ (Le.head ([(⟨2,[]⟩,⟨2,[]⟩,⟨1,[[IL x]]⟩),(⟨1,[]⟩,⟨1,[]⟩,⟨2,[[I u1,I u2]]⟩)]) (by first|exact fun l h=>absurd h (hD l)|(intro l h;rcases hD l h with rfl;simp[tauL])|(intro l h;rcases hD l h with rfl|rfl<;>simp[tauL];done)|(intro l h;rcases hD l h with rfl|rfl|rfl<;>simp[tauL])) ?_ ?_ (by simp) (by simp) (by simp[AllP]) (n':=1000));(· rfl))<;>(repeat' (first|exact trivial|exact ARs.nil|refine ARs.cons ?_ ?_|exact AR.dead _|exact AR.dd _|exact AR.i (by (try dsimp only);omega)|exact AR.ptr _ _ _ _ (by simp[heapL,upd])|exact AR.own _ _ _ _ (by simp[heapL,upd])|refine AR.ownE _ _ _ ?_ (by simp[heapL,upd])|refine ⟨⟨_,rfl,?_⟩,?_⟩|exact ObA.data|refine ObA.box ?_|refine ObA.frE ?_|refine ObA.dataE ?_|refine ARs.agg ?_|refine ARs.tup ?_|exact AR.clo' ARs.nil ARs.nil|exact AR.clo' ARs.nil (hca _ _)))
set_option maxHeartbeats 2000000 in
theorem iIsTimePotential_ac [Mode] (ev:Int) (xs:List Pl) (r:Int × Int) (x:List Int) (hx:xs.length≤1000) (hr:DrT r) (hxl:x.length≤100000):AC Tryz.prog 16 [grD ev xs,.agg [I r.1,I r.2],IL x] H0 (Bo (tbB ev xs r x)) H0:=by
 have hE:=iIsEventGraph_ac ev xs (by omega)
 have hR:=iIsRatioG_ac r (by have:=hr.n;omega)
 have hxr:(IR x).length=x.length:=IR_len
 unfold tbB
 cases hg:isEG ev xs
 ·rw[hg] at hE
  rw[Bool.false_and]
  refine AC.of_body 0 Tryz.func16 rfl (fun l h=>absurd rfl h) (fun C hC=>?_)
  have hD:∀ l,¬ C.D0 l:=fun l h=>(hC l).1 h rfl
  simp only[startFr,Tryz.ntmps16,List.length_cons,List.length_nil,Nat.reduceAdd,Nat.reduceSub,List.replicate_succ,List.replicate_zero,List.cons_append,List.nil_append]
  repeat' (first|((first|apply Ba|(apply Bb;(· rfl);(· rfl))|(apply Bc;(· exact nxE))|(apply Bd;(· rfl);(· rfl);(· exact nxE)));(· first|exact Kz rfl rfl (hE) (Aa (Ad (Ad An)) An)|exact Kz rfl rfl (hR) (Aa (Ad (Ad An)) An)|exact Ok.pe))|((first|apply Ca|(apply Cb;(· exact nxE)));(· first|exact Ok.e0))|refine Sx ?_|(refine Sy (fun h=>?_) (fun h=>?_)<;>try (exfalso;omega;done))|refine Sz (fun h=>?_) (fun h=>?_))
  refine Ya ?_
  (apply Le.headZ (hs:=[]) [] rfl)
  all_goals (try dsimp only[srcs])
  (case' hfr=>(repeat' (first|refine La ?_ ?_|exact Lc|refine Lo ?_|refine ⟨⟨_,rfl,?_⟩,?_⟩|refine Lx ?_)))
  all_goals (first|exact Ld|exact trivial|(rfl))
 rw[hg] at hE
 rw[Bool.true_and]
 cases hq:isRtG r
 ·rw[hq] at hR
  rw[Bool.false_and]
  refine AC.of_body 0 Tryz.func16 rfl (fun l h=>absurd rfl h) (fun C hC=>?_)
  have hD:∀ l,¬ C.D0 l:=fun l h=>(hC l).1 h rfl
  simp only[startFr,Tryz.ntmps16,List.length_cons,List.length_nil,Nat.reduceAdd,Nat.reduceSub,List.replicate_succ,List.replicate_zero,List.cons_append,List.nil_append]
  repeat' (first|((first|apply Ba|(apply Bb;(· rfl);(· rfl))|(apply Bc;(· exact nxE))|(apply Bd;(· rfl);(· rfl);(· exact nxE)));(· first|exact Kz rfl rfl (hE) (Aa (Ad (Ad An)) An)|exact Kz rfl rfl (hR) (Aa (Ad (Ad An)) An)|exact Ok.pe))|((first|apply Ca|(apply Cb;(· exact nxE)));(· first|exact Ok.e0))|refine Sx ?_|(refine Sy (fun h=>?_) (fun h=>?_)<;>try (exfalso;omega;done))|refine Sz (fun h=>?_) (fun h=>?_))
  refine Ya ?_
  (apply Le.headZ (hs:=[]) [] rfl)
  all_goals (try dsimp only[srcs])
  (case' hfr=>(repeat' (first|refine La ?_ ?_|exact Lc|refine Lo ?_|refine ⟨⟨_,rfl,?_⟩,?_⟩|refine Lx ?_)))
  all_goals (first|exact Ld|exact trivial|(rfl))
 rw[hq] at hR
 rw[Bool.true_and]
 obtain ⟨n,rfl,g1,g2,g3,hv⟩:=isEG_ok hg
 obtain ⟨b1,b2,_⟩:=isRtG_pos hq
 obtain ⟨u1,u2⟩:=r
 simp only at b1 b2 hR
 rw[Int.toNat_natCast]
 unfold tbH
 have hA:=allWithin_ac x (-1000000) 1000000 (by omega)
 rw[show (x.all fun a=>wi a (-1000000) 1000000)=finL x from rfl] at hA
 by_cases hl:x.length=n
 case neg=>
  rw[decide_eq_false hl,Bool.false_and]
  refine AC.of_body 0 Tryz.func16 rfl (fun l h=>absurd rfl h) (fun C hC=>?_)
  have hD:∀ l,¬ C.D0 l:=fun l h=>(hC l).1 h rfl
  simp only[startFr,Tryz.ntmps16,List.length_cons,List.length_nil,Nat.reduceAdd,Nat.reduceSub,List.replicate_succ,List.replicate_zero,List.cons_append,List.nil_append]
  repeat' (first|((first|apply Ba|(apply Bb;(· rfl);(· rfl))|(apply Bc;(· exact nxE))|(apply Bd;(· rfl);(· rfl);(· exact nxE)));(· first|exact Kz rfl rfl (hE) (Aa (Ad (Ad An)) An)|exact Kz rfl rfl (hR) (Aa (Ad (Ad An)) An)|exact Ok.lenD rfl rfl hxr|exact Ok.pe))|((first|apply Ca|(apply Cb;(· exact nxE)));(· first|exact Ok.e0))|refine Sx ?_|(refine Sy (fun h=>?_) (fun h=>?_)<;>try (exfalso;omega;done))|refine Sz (fun h=>?_) (fun h=>?_))
  refine Ya ?_
  (apply Le.headZ (hs:=[]) [] rfl)
  all_goals (try dsimp only[srcs])
  (case' hfr=>(repeat' (first|refine La ?_ ?_|exact Lc|refine Lo ?_|refine ⟨⟨_,rfl,?_⟩,?_⟩|refine Lx ?_)))
  all_goals (first|exact Ld|exact trivial|(rfl))
 rw[decide_eq_true hl,Bool.true_and]
 cases hf:finL x
 ·rw[hf] at hA
  rw[Bool.false_and]
  refine AC.of_body 0 Tryz.func16 rfl (fun l h=>absurd rfl h) (fun C hC=>?_)
  have hD:∀ l,¬ C.D0 l:=fun l h=>(hC l).1 h rfl
  simp only[startFr,Tryz.ntmps16,List.length_cons,List.length_nil,Nat.reduceAdd,Nat.reduceSub,List.replicate_succ,List.replicate_zero,List.cons_append,List.nil_append]
  repeat' (first|((first|apply Ba|(apply Bb;(· rfl);(· rfl))|(apply Bc;(· exact nxE))|(apply Bd;(· rfl);(· rfl);(· exact nxE)));(· first|exact Kz rfl rfl (hE) (Aa (Ad (Ad An)) An)|exact Kz rfl rfl (hR) (Aa (Ad (Ad An)) An)|exact Ok.lenD rfl rfl hxr|exact Kz rfl rfl (hA) (Ad (Ad (Ad An)))|exact Ok.pe))|((first|apply Ca|(apply Cb;(· exact nxE)));(· first|exact Ok.e0))|refine Sx ?_|(refine Sy (fun h=>?_) (fun h=>?_)<;>try (exfalso;omega;done))|refine Sz (fun h=>?_) (fun h=>?_))
  refine Ya ?_
  (apply Le.headZ (hs:=[]) [] rfl)
  all_goals (try dsimp only[srcs])
  (case' hfr=>(repeat' (first|refine La ?_ ?_|exact Lc|refine Lo ?_|refine ⟨⟨_,rfl,?_⟩,?_⟩|refine Lx ?_)))
  all_goals (first|exact Ld|exact trivial|(rfl))
 rw[hf] at hA
 rw[Bool.true_and]
 have hF:=containsFuncPl_ac xs (by omega) 53 [Bx 1 2,Bx 2 1] (hsTp x u1 u2) (by intro p hp;simp only[List.mem_cons,List.not_mem_nil,or_false] at hp;rcases hp with rfl|rfl<;>rfl) (by simp) hsTp_ok
  (by intro c hc;simp at hc;rcases hc with rfl|rfl<;>exact .ptr _ _ _ _ (by simp)) 3 (by simp) (tbP x (u1,u2)) (fun p hp=>tpFn_ac n p u1 u2 x (hv p hp) (by omega) (by omega) hl hf)
 have hQ:=hF
 clear hF
 rw[show (xs.all fun p=>!tbP x (u1,u2) p) = !(xs.any (tbP x (u1,u2))) by rw[List.all_eq_not_any_not];simp]
 generalize xs.any (tbP x (u1,u2))=b at *
 refine AC.of_body 0 Tryz.func16 rfl (fun l h=>absurd rfl h) (fun C hC=>?_)
 have hD:∀ l,¬ C.D0 l:=fun l h=>(hC l).1 h rfl
 simp only[startFr,Tryz.ntmps16,List.length_cons,List.length_nil,Nat.reduceAdd,Nat.reduceSub,List.replicate_succ,List.replicate_zero,List.cons_append,List.nil_append]
 repeat' (first|((first|apply Ba|(apply Bb;(· rfl);(· rfl))|(apply Bc;(· exact nxE))|(apply Bd;(· rfl);(· rfl);(· exact nxE)));(· first|exact Kz rfl rfl (hE) (Aa (Ad (Ad An)) An)|exact Kz rfl rfl (hR) (Aa (Ad (Ad An)) An)|exact Ok.lenD rfl rfl hxr|exact Kz rfl rfl (hA) (Ad (Ad (Ad An)))|exact OpOk.callS (hsTp x u1 u2) rfl rfl hQ (by intro p hp;simp only[List.mem_cons,List.not_mem_nil,or_false] at hp;rcases hp with rfl|rfl<;>rfl) hsTp_ok (.d _) (.cons (.dd _) (.cons (AR.clo' .nil (.cons (AR.ptr _ _ _ _ (by simp)) (.cons (AR.ptr _ _ _ _ (by simp)) .nil))) .nil))|exact Ok.pe))|((first|apply Ca|(apply Cb;(· exact nxE)));(· first|exact Ok.e0))|refine Sx ?_|(refine Sy (fun h=>?_) (fun h=>?_)<;>try (exfalso;omega;done))|refine Sz (fun h=>?_) (fun h=>?_))
 refine Ya ?_
 (apply Le.headZ (hs:=[]) [] rfl)
 all_goals (try dsimp only[srcs])
 (case' hfr=>(repeat' (first|refine La ?_ ?_|exact Lc|refine Lo ?_|refine ⟨⟨_,rfl,?_⟩,?_⟩|refine Lx ?_)))
 all_goals (first|exact Ld|exact trivial|(rfl))
def nxF (xs:List Pl) (c:List Nat) (k:Nat):Int:=if k<c.length then (plA xs (c.getD k 0)).f else firstF xs c
def seF (xs:List Pl) (c:List Nat) (k:Nat):List Int:=(c.take k).map fun i=>(plA xs i).f
theorem wk_next [Mode] {xs:List Pl}:∀ {c:List Nat}{u v:Int}{k:Nat},Wk xs u c v→k<c.length→(plA xs (c.getD k 0)).t=if k+1<c.length then (plA xs (c.getD (k+1) 0)).f else v
 | [],_,_,_,_,hk=>by cases hk
 | i :: c,u,v,0,h,_=>by
  obtain ⟨_,_,hw⟩:=h
  cases c with
  | nil=>simp only[Wk] at hw;simpa using hw
  | cons j c=>obtain ⟨_,hf,_⟩:=hw;simpa using hf.symm
 | i :: c,u,v,k+1,h,hk=>by
  have:=wk_next (k:=k) h.2.2 (by simpa using hk)
  simpa using this
theorem nx_next [Mode] {xs:List Pl}{c:List Nat}{k:Nat} (h:Circ xs c) (hk:k<c.length):nxF xs c k=(plA xs (c.getD k 0)).f∧nxF xs c (k+1)=(plA xs (c.getD k 0)).t:=by
 unfold nxF
 rw[if_pos hk,wk_next h.wk hk]
 exact ⟨rfl,rfl⟩
theorem nx_start [Mode] {xs:List Pl}{c:List Nat} (h:Circ xs c) (hk:0<c.length):nxF xs c 0=(plA xs (c.getD (c.length - 1) 0)).t:=by
 have e:=wk_next (k:=c.length - 1) h.wk (by omega)
 rw[if_neg (by omega)] at e
 rw[e]
 unfold nxF
 rw[if_pos hk]
 cases c with
 | nil=>cases hk
 | cons i c=>rfl
theorem se_step [Mode] {xs:List Pl}{c:List Nat}{k:Nat} (hk:k<c.length):seF xs c (k+1)=seF xs c k++[(plA xs (c.getD k 0)).f]:=by
 unfold seF
 rw[List.take_succ_eq_append_getElem hk,List.map_append,List.getD_eq_getElem?_getD,List.getElem?_eq_getElem hk]
 rfl
theorem se_no [Mode] {xs:List Pl}{c:List Nat}{k:Nat} (h:Circ xs c) (hk:k<c.length):((seF xs c k).any fun x=>decide (x=(plA xs (c.getD k 0)).f))=false:=by
 rw[List.any_eq_false]
 intro y hy e
 have e:=of_decide_eq_true e
 subst e
 have hnd:=h.nd
 have hs:=se_step (xs:=xs) hk
 have h2:seF xs c (k+1) <+: c.map fun i=>(plA xs i).f:=by
  unfold seF
  rw[List.map_take]
  exact List.take_prefix _ _
 have h3:=hnd.sublist h2.sublist
 rw[hs,List.nodup_append] at h3
 exact h3.2.2 _ hy _ (by simp) rfl
theorem se_len [Mode] {xs:List Pl}{c:List Nat}{k:Nat} (hk:k≤c.length):(seF xs c k).length=k:=by
 unfold seF
 rw[List.length_map,List.length_take]
 omega
theorem getD_at [Mode] {c:List Nat}{k:Nat} (hk:k<c.length):c[k]? = some (c.getD k 0):=by
 rw[List.getD_eq_getElem?_getD,List.getElem?_eq_getElem hk];rfl
set_option maxHeartbeats 4000000 in
theorem isCircuit_ac [Mode] (n:Nat) (xs:List Pl) (c:List Nat) (hx:xs.length≤1000) (hc:Circ xs c) (hcl:c.length≤1000):AC Tryz.prog 47 [grD n xs,IL (cN c)] H0 (Bo true) H0:=by
 have h0:0<c.length:=List.length_pos_iff.2 hc.ne
 have hlt0:=hc.wk.lt
 have hA:=allWithin_ac (cN c) 0 ((xs.length:Int) - 1) (by simp;omega)
 have hal:((cN c).all fun x=>wi x 0 ((xs.length:Int) - 1))=true:=by
  rw[List.all_eq_true]
  intro y hy
  obtain ⟨i,hi,rfl⟩:=List.mem_map.1 hy
  have:=hlt0 i hi
  exact wi_iff.2 (by omega)
 rw[hal] at hA
 have hlen:(IR (cN c)).length=c.length:=by simp
 have hla:(IR (cN c))[((c.length:Int) - 1).toNat]? = some [DI ((c.getD (c.length - 1) 0:Nat):Int)]:=by
  have:=cN_get (getD_at (c:=c) (k:=c.length - 1) (by omega))
  rw[show ((c.length - 1:Nat):Int)=(c.length:Int) - 1 by omega] at this
  exact this
 have hmem:∀ k,k<c.length→c.getD k 0<xs.length:=fun k hk=>hlt0 _ (List.mem_of_getElem? (getD_at hk))
 have hrl:=pl_row (n:=0) (hmem (c.length - 1) (by omega))
 have hst:=nx_start hc h0
 rw[← hst] at hrl
 generalize plA xs (c.getD (c.length - 1) 0)=pl at *
 obtain ⟨f0,t0,d0,k0⟩:=pl
 simp only at hrl hst
 generalize c.getD (c.length - 1) 0=la at *
 refine AC.of_body 0 Tryz.func47 rfl (fun l h=>absurd rfl h) (fun C hC=>?_)
 have hD:∀ l,¬ C.D0 l:=fun l h=>(hC l).1 h rfl
 simp only[startFr,Tryz.ntmps47,List.length_cons,List.length_nil,Nat.reduceAdd,Nat.reduceSub,List.replicate_succ,List.replicate_zero,List.cons_append,List.nil_append]
 repeat' (first|((first|apply Ba|(apply Bb;(· rfl);(· rfl))|(apply Bc;(· exact nxE))|(apply Bd;(· rfl);(· rfl);(· exact nxE)));(· first|exact Ok.lenD rfl rfl hlen|exact Kz rfl rfl (hA) (Ad (Ad (Ad An)))|exact Ok.pe))|((first|apply Ca|(apply Cb;(· exact nxE)));(· first|exact Ok.e0))|refine Sx ?_|(refine Sy (fun h=>?_) (fun h=>?_)<;>try (exfalso;omega;done))|refine Sz (fun h=>?_) (fun h=>?_))
 refine AW.loop (X:={k:Nat // k≤c.length}) (fun k=>⟨[Oo,Oo,Bx 2 0,Oo,Oo,I (nxF xs c k.1),.own 1 ⟨1,[]⟩ 0 (seF xs c (k.1:Nat)).length,Oo,Oo,Oo,Oo,Oo,Oo,Oo,Oo,Oo,Oo,Oo,Oo,Oo,Oo,Oo,Oo,Oo,Oo,Oo,Oo,Oo,Oo,Oo,Oo,Oo,Oo,IL (cN c),I c.length,I (k.1:Nat),Oo,Oo,Oo,Oo,Oo,Oo,Oo,Oo,Oo,Oo,Oo,Oo,Oo,Oo,Oo,Oo,Oo,Oo,Oo,Oo,Oo,Oo,Oo,Oo],heapL [(⟨0,[]⟩,⟨0,[]⟩,⟨2,[[I n,PL xs]]⟩),(⟨1,[]⟩,⟨1,[]⟩,IO (seF xs c k.1))],900⟩) (fun k=>c.length - k.1) ⟨0,Nat.zero_le _⟩ ?_ (fun k=>?_)
 ·
  refine (Le.nil 6 1 rfl).trans ?_
  (apply Le.headZ [_,_] rfl)
  all_goals (try dsimp only[srcs])
  (case' hfr|hob=>(repeat' (first|refine La ?_ ?_|exact Lc|refine Lo ?_|refine ⟨⟨_,rfl,?_⟩,?_⟩|refine Lx ?_)))
  all_goals (first|(rfl)|exact Ld)
 obtain ⟨k,hk⟩:=k
 simp only
 by_cases hlt:k<c.length
 case neg=>
  repeat' (first|((first|apply Ba|(apply Bb;(· rfl);(· rfl))|(apply Bc;(· exact nxE))|(apply Bd;(· rfl);(· rfl);(· exact nxE)));(· first|exact Ok.pe))|((first|apply Ca|(apply Cb;(· exact nxE)));(· first|exact Ok.e0))|refine Sx ?_|(refine Sy (fun h=>?_) (fun h=>?_)<;>try (exfalso;omega;done))|refine Sz (fun h=>?_) (fun h=>?_))
  refine Ya ?_
  (apply Le.headZ (hs:=[]) [] rfl)
  all_goals (try dsimp only[srcs])
  (case' hfr=>(repeat' (first|refine La ?_ ?_|exact Lc|refine Lo ?_|refine ⟨⟨_,rfl,?_⟩,?_⟩|refine Lx ?_)))
  all_goals (first|exact Ld|exact trivial|(rfl))
 obtain ⟨e1,e2⟩:=nx_next hc hlt
 have hs:=se_step (xs:=xs) hlt
 have hno:=se_no hc hlt
 have hse:=se_len (xs:=xs) hk
 have hrow:=pl_row (n:=0) (hmem k hlt)
 have hcell:=cN_get (getD_at hlt)
 have hC1:=containsInt_ac (seF xs c k) (plA xs (c.getD k 0)).f (by omega)
 rw[hno] at hC1
 rw[e1]
 have hser:(IR (seF xs c k)).length=k:=by rw[IR_len,hse]
 clear hno hmem hal hlt0
 generalize plA xs (c.getD k 0)=p at *
 obtain ⟨pf,pt,pd,pk⟩:=p
 simp only at *
 generalize c.getD k 0=j at *
 generalize seF xs c k=L at *
 have hN:=hC1
 clear hC1
 repeat' (first|((first|apply Ba|(apply Bb;(· rfl);(· rfl))|(apply Bc;(· exact nxE))|(apply Bd;(· rfl);(· rfl);(· exact nxE)));(· first|exact Ez rfl rfl (hN) (Sw (Sd Sn))|exact Ok.append1 (row:=[DI pf]) rfl rfl (by decide) rfl rfl (by simp;done) rfl rfl rfl (by rfl) (by omega) (by omega)|exact Ok.pe))|((first|apply Ca|(apply Cb;(· exact nxE)));(· first|exact Ok.append1 (row:=[DI pf]) rfl rfl (by decide) rfl rfl (by simp;done) rfl rfl rfl (by rfl) (by omega) (by omega)|exact Ok.e0))|refine Sx ?_|(refine Sy (fun h=>?_) (fun h=>?_)<;>try (exfalso;omega;done))|refine Sz (fun h=>?_) (fun h=>?_))
 refine ⟨⟨k+1,by omega⟩,?_,by simp only;omega⟩
 simp only
 rw[e2,hs]
 (apply Le.headZ [_,_] rfl)
 all_goals (try dsimp only[srcs])
 (case' hfr|hob=>(repeat' (first|refine La ?_ ?_|exact Lc|refine Lo ?_|refine ⟨⟨_,rfl,?_⟩,?_⟩|refine Lx ?_)))
 all_goals (first|((first|rfl|(simp;done)|(rw[IR_app];done)))|exact Ld)
theorem iIsCircuit_ac [Mode] (n:Nat) (xs:List Pl) (c:List Nat) (hg:isEG n xs=true) (hc:Circ xs c) (hcl:c.length≤1000):AC Tryz.prog 14 [grD n xs,IL (cN c)] H0 (Bo true) H0:=by
 obtain ⟨m,hm,g1,g2,g3,hv⟩:=isEG_ok hg
 have hE:=iIsEventGraph_ac n xs (by omega)
 rw[hg] at hE
 have hI:=isCircuit_ac n xs c (by omega) hc hcl
 refine AC.of_body 0 Tryz.func14 rfl (fun l h=>absurd rfl h) (fun C hC=>?_)
 have hD:∀ l,¬ C.D0 l:=fun l h=>(hC l).1 h rfl
 simp only[startFr,Tryz.ntmps14,List.length_cons,List.length_nil,Nat.reduceAdd,Nat.reduceSub,List.replicate_succ,List.replicate_zero,List.cons_append,List.nil_append]
 repeat' (first|((first|apply Ba|(apply Bb;(· rfl);(· rfl))|(apply Bc;(· exact nxE))|(apply Bd;(· rfl);(· rfl);(· exact nxE)));(· first|exact Kz rfl rfl (hE) (Aa (Ad (Ad An)) An)|exact Kz rfl rfl (hI) (Aa (Ad (Ad An)) (Ad An))|exact Ok.pe))|((first|apply Ca|(apply Cb;(· exact nxE)));(· first|exact Ok.e0))|refine Sx ?_|(refine Sy (fun h=>?_) (fun h=>?_)<;>try (exfalso;omega;done))|refine Sz (fun h=>?_) (fun h=>?_))
 refine Ya ?_
 (apply Le.headZ (hs:=[]) [] rfl)
 all_goals (try dsimp only[srcs])
 (case' hfr=>(repeat' (first|refine La ?_ ?_|exact Lc|refine Lo ?_|refine ⟨⟨_,rfl,?_⟩,?_⟩|refine Lx ?_)))
 all_goals (first|exact Ld|exact trivial|(rfl))
theorem iCircuitRatio_ac [Mode] (n:Nat) (xs:List Pl) (c:List Nat) (hg:isEG n xs=true) (hc:Circ xs c) (hcl:c.length≤1000) (ht:0<sumT xs c):AC Tryz.prog 15 [grD n xs,IL (cN c)] H0 (.tup [.agg [I (redR (sumD xs c) (sumT xs c)).1,I (redR (sumD xs c) (sumT xs c)).2],I 0]) H0:=by
 obtain ⟨m,hm,g1,g2,g3,hv⟩:=isEG_ok hg
 obtain rfl:n=m:=by omega
 have hE:=iIsEventGraph_ac n xs (by omega)
 rw[hg] at hE
 have hI:=isCircuit_ac n xs c (by omega) hc hcl
 have hS:=circuitSums_ac n n xs c (by omega) hv hc.wk.lt hcl
 have hb:=sum_bnd (fun i hi=>(okPl_at hv i hi).2.2) hc.wk.lt
 have hR:=ratioOfZ_ac (sumD xs c) (sumT xs c) (by omega) (by omega)
 generalize redR (sumD xs c) (sumT xs c)=r at *
 generalize sumD xs c=d at *
 generalize sumT xs c=t at *
 refine AC.of_body 0 Tryz.func15 rfl (fun l h=>absurd rfl h) (fun C hC=>?_)
 have hD:∀ l,¬ C.D0 l:=fun l h=>(hC l).1 h rfl
 simp only[startFr,Tryz.ntmps15,List.length_cons,List.length_nil,Nat.reduceAdd,Nat.reduceSub,List.replicate_succ,List.replicate_zero,List.cons_append,List.nil_append]
 repeat' (first|((first|apply Ba|(apply Bb;(· rfl);(· rfl))|(apply Bc;(· exact nxE))|(apply Bd;(· rfl);(· rfl);(· exact nxE)));(· first|exact Kz rfl rfl (hE) (Aa (Ad (Ad An)) An)|exact Kz rfl rfl (hI) (Aa (Ad (Ad An)) (Ad An))|exact Kz rfl rfl (hS) (Aa (Ad (Ad An)) (Ad An))|exact Kz rfl rfl (hR) (Ad (Ad An))|exact Ok.pe))|((first|apply Ca|(apply Cb;(· exact nxE)));(· first|exact Ok.e0))|refine Sx ?_|(refine Sy (fun h=>?_) (fun h=>?_)<;>try (exfalso;omega;done))|refine Sz (fun h=>?_) (fun h=>?_))
 refine Yb ?_
 (apply Le.headZ (hs:=[]) [] rfl)
 all_goals (try dsimp only[srcs])
 (case' hfr=>(repeat' (first|refine La ?_ ?_|exact Lc|refine Lo ?_|refine ⟨⟨_,rfl,?_⟩,?_⟩|refine Lx ?_)))
 all_goals (first|exact Ld|exact trivial|(rfl))
end
section
open Go Go.RowKit
attribute [local irreducible] AL AD AW OpOk Le AC thenQ blockQ EndQ
structure RatOk (r:Int × Int):Prop where
 n:0≤r.1∧r.1≤1000000
 d:1≤r.2∧r.2≤1000000
 g:Nat.gcd r.1.toNat r.2.toNat=1
theorem ctR_rat [Mode] {ev:Int}{xs:List Pl} (h:bcC ev xs=0):RatOk (ctR ev xs):=by
 obtain ⟨n,rfl,h1,h2,h3,h4,h5,h6,h8,h9,h10,h11⟩:=bc_star h
 rw[h8]
 have hg:=(h5.isMax h2 h6).red
 refine ⟨by omega,by omega,?_⟩
 obtain ⟨u,hu⟩:∃ u:Nat,(maxR xs).1=u:=⟨(maxR xs).1.toNat,by omega⟩
 obtain ⟨v,hv⟩:∃ v:Nat,(maxR xs).2=v:=⟨(maxR xs).2.toNat,by omega⟩
 rw[hu,hv] at hg ⊢
 simpa [Int.gcd] using hg
end
section
open Go Go.RowKit
attribute [local irreducible] AL AD AW OpOk Le AC thenQ blockQ EndQ
theorem isRtG_rat [Mode] {r:Int × Int} (h:RatOk r):isRtG r=true:=by
 have h1:=h.n
 have h2:=h.d
 have h3:=h.g
 unfold isRtG
 rw[wi_iff.2 (by omega),wi_iff.2 (by omega),show r.1.natAbs=r.1.toNat by omega,h3]
 rfl
theorem apA_atT [Mode] {f:Nat→Nat→Int}{v:Nat→Int}{i:Nat}:∀ {k:Nat},apA f v i k=BOT∨∃ j,j<k∧apA f v i k=timesB (f i j) (v j)
 | 0=>.inl rfl
 | k+1=>by
  simp only[apA]
  rcases apA_atT (f:=f) (v:=v) (i:=i) (k:=k) with e|⟨j,hj,e⟩
  ·by_cases h:timesB (f i k) (v k)≤apA f v i k
   ·left;omega
   ·right;exact ⟨k,by omega,by omega⟩
  ·by_cases h:timesB (f i k) (v k)≤apA f v i k
   ·right;exact ⟨j,by omega,by omega⟩
   ·right;exact ⟨k,by omega,by omega⟩
theorem ptL_pot [Mode] {n:Nat}{xs:List Pl}{r:Int × Int} (hst:StarM (wmT n xs r) n) (i j:Nat) (hi:i<n) (hj:j<n) (hW:entN (wmT n xs r) i j≠BOT):entN (wmT n xs r) i j+(ptL n xs r).getD j 0≤(ptL n xs r).getD i 0:=by
 have hs:=hst.ok
 have hx:∀ k,k<n→(ptL n xs r).getD k 0=apA (entN (tabF n n (starF (entN (wmT n xs r)) n))) (fun _=>0) k n:=fun k hk=>by
  unfold ptL
  rw[List.getD_eq_getElem?_getD,rowF_get hk];rfl
 have hne:(ptL n xs r).getD j 0≠BOT:=by
  refine ptL_ne hst _ ?_
  have hl:(ptL n xs r).length=n:=rowF_len
  rw[List.getD_eq_getElem?_getD,List.getElem?_eq_getElem (by omega)]
  exact List.getElem_mem _
 generalize wmT n xs r=T at *
 rw[hx j hj] at hne
 rw[hx i hi,hx j hj]
 rcases apA_atT (f:=entN (tabF n n (starF (entN T) n))) (v:=fun _=>0) (i:=j) (k:=n) with e|⟨m,hm,e⟩
 ·exact absurd e hne
 ·rw[e] at hne ⊢
  rw[tabF_ent hj hm,timesB_0] at hne ⊢
  have hge:=apA_ge (f:=entN (tabF n n (starF (entN T) n))) (v:=fun _=>0) (i:=i) (j:=m) (k:=n) hm
  rw[tabF_ent hi hm,timesB_0] at hge
  have hsup:starF (entN T) n i m≠BOT∧entN T i j+starF (entN T) n j m≤starF (entN T) n i m:=by
   rcases hs.some m j hm hj with e1|⟨e1,e2⟩|⟨c,c1,c2,c3⟩
   ·exact absurd e1 hne
   ·subst e1
    have:=hs.all m i [] hm hi (by simp) hW
    simp only[wM] at this
    exact ⟨this.1,by omega⟩
   ·have:=hs.all m i (c++[j]) hm hi (fun x hx=>by
     rcases List.mem_append.1 hx with hx|hx
     ·exact c2 x hx
     ·simp at hx;subst hx;exact hj) (WM.app.2 ⟨c1,hW⟩)
    rw[wM_app] at this
    simp only[wM] at this
    exact ⟨this.1,by omega⟩
  omega
theorem tp_facts [Mode] {ev:Int}{xs:List Pl}{r:Int × Int} (h:tpC ev xs r≠1):∃ n:Nat,ev=n∧1≤n∧n≤10∧xs.length≤30∧(∀ p∈xs,okPl n p)∧isEG n xs=true∧isRtG r=true∧(tpC n xs r=5↔¬ NoPos (entN (wmT n xs r)) n)∧(tpC n xs r=0→(ptL n xs r).all isVal=true):=by
 by_cases h0:isEG ev xs=true∧isRtG r=true
 case neg=>exact absurd (tp_inv h0).1 h
 obtain ⟨hg,hq⟩:=h0
 obtain ⟨n,rfl,h1,h2,h3,hv⟩:=isEG_ok hg
 refine ⟨n,rfl,h1,h2,h3,hv,hg,hq,?_,?_⟩
 ·by_cases hnp:NoPos (entN (wmT n xs r)) n
  ·cases hb:(ptL n xs r).all isVal
   ·rw[(tp_lim hg hq hnp hb).1];simp[hnp]
   ·rw[(tp_yes hg hq hnp hb).1];simp[hnp]
  ·rw[(tp_pos hg hq hnp).1];simp[hnp]
 ·intro h0
  by_cases hnp:NoPos (entN (wmT n xs r)) n
  ·cases hb:(ptL n xs r).all isVal
   ·rw[(tp_lim hg hq hnp hb).1] at h0;cases h0
   ·rfl
  ·rw[(tp_pos hg hq hnp).1] at h0;cases h0
theorem tp_law [Mode] {ev:Int}{xs:List Pl}{r:Int × Int} (h0:tpC ev xs r=0):tbB ev xs r (tpX ev xs r)=true:=by
 obtain ⟨n,rfl,h1,h2,h3,hv,hg,hq,h5,h6⟩:=tp_facts (show tpC ev xs r≠1 by omega)
 have hb:=h6 h0
 have hnp:NoPos (entN (wmT n xs r)) n:=Classical.byContradiction fun hn=>by have:=h5.2 hn;omega
 obtain ⟨b1,b2,_⟩:=isRtG_pos hq
 have hB:=starB_wm (r:=r) h2 (by omega) hv (by omega) (by omega)
 have hW:=wm_okG (r:=r) hv (by omega) (by omega)
 have hst:=hB.m hnp
 rw[(tp_yes hg hq hnp hb).2]
 unfold tbB tbH
 rw[hg,hq,Int.toNat_natCast,decide_eq_true (show (ptL n xs r).length=n from rowF_len)]
 simp only[Bool.true_and]
 have hfin:=isVal_fin (ptL_ne hst) hb
 rw[show finL (ptL n xs r)=true from List.all_eq_true.2 fun a ha=>wi_iff.2 (hfin a ha),Bool.true_and,List.all_eq_true]
 intro p hp
 obtain ⟨⟨f1,f2⟩,⟨t1,t2⟩,_⟩:=hv p hp
 obtain ⟨a1,a2⟩:=hW.all p hp
 have:=ptL_pot hst p.t.toNat p.f.toNat (by omega) (by omega) a1
 unfold tbP
 rw[decide_eq_false (by omega)]
 rfl
theorem bc_circ [Mode] {ev:Int}{xs:List Pl} (h:bcC ev xs=0):∃ n:Nat,ev=n∧isEG n xs=true∧Circ xs (bcL ev xs)∧(bcL ev xs).length≤1000∧0<sumT xs (bcL ev xs)∧redR (sumD xs (bcL ev xs)) (sumT xs (bcL ev xs))=ctR ev xs:=by
 obtain ⟨n,rfl,h1,h2,h3,h4,h5,h6,h8,h9,h10,h11⟩:=bc_star h
 obtain ⟨c,e1,e2,e3⟩:=h5.best h2 h6
 have e:bcL n xs=c:=by unfold bcL;rw[if_pos h,Int.toNat_natCast,e1]
 obtain ⟨g1,_,g3⟩:=h5.circ e2
 rw[e,h8]
 refine ⟨n,rfl,?_,e2,by omega,g3.1,e3⟩
 cases hg:isEG n xs
 ·have:=(bc_no hg).1;omega
 ·rfl
end
section
open Go Go.RowKit
attribute [local irreducible] AL AD AW OpOk Le AC thenQ blockQ EndQ
abbrev ttA (P:Int) (st:List Int):AV:=.agg [I P,IL st]
def stB (st:List Int):Bool:=st.all fun x=>wi x 0 1000000
def ttB (ev P:Int) (st:List Int):Bool:=wi P 0 100000&&(decide ((st.length:Int)=ev)&&stB st)
def ttC (ev:Int) (xs:List Pl) (P:Int) (st:List Int):Int:=if isEG ev xs=true then (if ttB ev P st=true then 0 else 2) else 1
structure TtOk (n:Nat) (P:Int) (st:List Int):Prop where
 l:st.length=n
 p:0≤P∧P≤100000
 s:∀ j,j<n→0≤st.getD j 0∧st.getD j 0≤1000000
theorem ttB_ok [Mode] {n:Nat}{P:Int}{st:List Int} (h:ttB n P st=true):TtOk n P st:=by
 unfold ttB at h
 rw[Bool.and_eq_true,Bool.and_eq_true,wi_iff] at h
 obtain ⟨h1,h2,h3⟩:=h
 have h2:=of_decide_eq_true h2
 refine ⟨by omega,h1,fun j hj=>?_⟩
 unfold stB at h3
 rw[List.all_eq_true] at h3
 have:st.getD j 0∈st:=by rw[List.getD_eq_getElem?_getD,List.getElem?_eq_getElem (by omega)];exact List.getElem_mem _
 exact wi_iff.1 (h3 _ this)
theorem isTimetable_ac [Mode] (ev:Int) (xs:List Pl) (P:Int) (st:List Int) (hs:st.length≤100000000):AC Tryz.prog 103 [grD ev xs,ttA P st] H0 (Bo (ttB ev P st)) H0:=by
 have hW:=within_ac P 0 100000
 have hA:=allWithin_ac st 0 1000000 hs
 rw[show (st.all fun x=>wi x 0 1000000)=stB st from rfl] at hA
 have hsr:(IR st).length=st.length:=IR_len
 unfold ttB
 cases hp:wi P 0 100000
 ·rw[hp] at hW
  rw[Bool.false_and]
  refine AC.of_body 0 Tryz.func103 rfl (fun l h=>absurd rfl h) (fun C hC=>?_)
  have hD:∀ l,¬ C.D0 l:=fun l h=>(hC l).1 h rfl
  simp only[startFr,Tryz.ntmps103,List.length_cons,List.length_nil,Nat.reduceAdd,Nat.reduceSub,List.replicate_succ,List.replicate_zero,List.cons_append,List.nil_append]
  repeat' (first|((first|apply Ba|(apply Bb;(· rfl);(· rfl))|(apply Bc;(· exact nxE))|(apply Bd;(· rfl);(· rfl);(· exact nxE)));(· first|exact Kz rfl rfl (hW) (Ad (Ad (Ad An)))|exact Ok.pe))|((first|apply Ca|(apply Cb;(· exact nxE)));(· first|exact Ok.e0))|refine Sx ?_|(refine Sy (fun h=>?_) (fun h=>?_)<;>try (exfalso;omega;done))|refine Sz (fun h=>?_) (fun h=>?_))
  refine Ya ?_
  (apply Le.headZ (hs:=[]) [] rfl)
  all_goals (try dsimp only[srcs])
  (case' hfr=>(repeat' (first|refine La ?_ ?_|exact Lc|refine Lo ?_|refine ⟨⟨_,rfl,?_⟩,?_⟩|refine Lx ?_)))
  all_goals (first|exact Ld|exact trivial|(rfl))
 rw[hp] at hW
 rw[Bool.true_and]
 by_cases hl:(st.length:Int)=ev
 ·rw[decide_eq_true hl,Bool.true_and]
  subst hl
  generalize stB st=b at *
  refine AC.of_body 0 Tryz.func103 rfl (fun l h=>absurd rfl h) (fun C hC=>?_)
  have hD:∀ l,¬ C.D0 l:=fun l h=>(hC l).1 h rfl
  simp only[startFr,Tryz.ntmps103,List.length_cons,List.length_nil,Nat.reduceAdd,Nat.reduceSub,List.replicate_succ,List.replicate_zero,List.cons_append,List.nil_append]
  repeat' (first|((first|apply Ba|(apply Bb;(· rfl);(· rfl))|(apply Bc;(· exact nxE))|(apply Bd;(· rfl);(· rfl);(· exact nxE)));(· first|exact Kz rfl rfl (hW) (Ad (Ad (Ad An)))|exact Ok.lenD rfl rfl hsr|exact Kz rfl rfl (hA) (Ad (Ad (Ad An)))|exact Ok.pe))|((first|apply Ca|(apply Cb;(· exact nxE)));(· first|exact Ok.e0))|refine Sx ?_|(refine Sy (fun h=>?_) (fun h=>?_)<;>try (exfalso;omega;done))|refine Sz (fun h=>?_) (fun h=>?_))
  refine Ya ?_
  (apply Le.headZ (hs:=[]) [] rfl)
  all_goals (try dsimp only[srcs])
  (case' hfr=>(repeat' (first|refine La ?_ ?_|exact Lc|refine Lo ?_|refine ⟨⟨_,rfl,?_⟩,?_⟩|refine Lx ?_)))
  all_goals (first|exact Ld|exact trivial|(rfl))
 ·rw[decide_eq_false hl,Bool.false_and]
  refine AC.of_body 0 Tryz.func103 rfl (fun l h=>absurd rfl h) (fun C hC=>?_)
  have hD:∀ l,¬ C.D0 l:=fun l h=>(hC l).1 h rfl
  simp only[startFr,Tryz.ntmps103,List.length_cons,List.length_nil,Nat.reduceAdd,Nat.reduceSub,List.replicate_succ,List.replicate_zero,List.cons_append,List.nil_append]
  repeat' (first|((first|apply Ba|(apply Bb;(· rfl);(· rfl))|(apply Bc;(· exact nxE))|(apply Bd;(· rfl);(· rfl);(· exact nxE)));(· first|exact Kz rfl rfl (hW) (Ad (Ad (Ad An)))|exact Ok.lenD rfl rfl hsr|exact Ok.pe))|((first|apply Ca|(apply Cb;(· exact nxE)));(· first|exact Ok.e0))|refine Sx ?_|(refine Sy (fun h=>?_) (fun h=>?_)<;>try (exfalso;omega;done))|refine Sz (fun h=>?_) (fun h=>?_))
  refine Ya ?_
  (apply Le.headZ (hs:=[]) [] rfl)
  all_goals (try dsimp only[srcs])
  (case' hfr=>(repeat' (first|refine La ?_ ?_|exact Lc|refine Lo ?_|refine ⟨⟨_,rfl,?_⟩,?_⟩|refine Lx ?_)))
  all_goals (first|exact Ld|exact trivial|(rfl))
theorem checkTimetable_ac [Mode] (ev:Int) (xs:List Pl) (P:Int) (st:List Int) (hx:xs.length≤1000) (hs:st.length≤100000000):AC Tryz.prog 45 [grD ev xs,ttA P st] H0 (I (ttC ev xs P st)) H0:=by
 have hE:=iIsEventGraph_ac ev xs (by omega)
 have hT:=isTimetable_ac ev xs P st hs
 unfold ttC
 cases hg:isEG ev xs
 ·rw[hg] at hE
  rw[if_neg (by simp)]
  refine AC.of_body 0 Tryz.func45 rfl (fun l h=>absurd rfl h) (fun C hC=>?_)
  have hD:∀ l,¬ C.D0 l:=fun l h=>(hC l).1 h rfl
  simp only[startFr,Tryz.ntmps45,List.length_cons,List.length_nil,Nat.reduceAdd,Nat.reduceSub,List.replicate_succ,List.replicate_zero,List.cons_append,List.nil_append]
  repeat' (first|((first|apply Ba|(apply Bb;(· rfl);(· rfl))|(apply Bc;(· exact nxE))|(apply Bd;(· rfl);(· rfl);(· exact nxE)));(· first|exact Kz rfl rfl (hE) (Aa (Ad (Ad An)) An)|exact Ok.pe))|((first|apply Ca|(apply Cb;(· exact nxE)));(· first|exact Ok.e0))|refine Sx ?_|(refine Sy (fun h=>?_) (fun h=>?_)<;>try (exfalso;omega;done))|refine Sz (fun h=>?_) (fun h=>?_))
  refine Ya ?_
  (apply Le.headZ (hs:=[]) [] rfl)
  all_goals (try dsimp only[srcs])
  (case' hfr=>(repeat' (first|refine La ?_ ?_|exact Lc|refine Lo ?_|refine ⟨⟨_,rfl,?_⟩,?_⟩|refine Lx ?_)))
  all_goals (first|exact Ld|exact trivial|(rfl))
 rw[hg] at hE
 rw[if_pos rfl]
 cases hb:ttB ev P st
 ·rw[hb] at hT
  rw[if_neg (by simp)]
  refine AC.of_body 0 Tryz.func45 rfl (fun l h=>absurd rfl h) (fun C hC=>?_)
  have hD:∀ l,¬ C.D0 l:=fun l h=>(hC l).1 h rfl
  simp only[startFr,Tryz.ntmps45,List.length_cons,List.length_nil,Nat.reduceAdd,Nat.reduceSub,List.replicate_succ,List.replicate_zero,List.cons_append,List.nil_append]
  repeat' (first|((first|apply Ba|(apply Bb;(· rfl);(· rfl))|(apply Bc;(· exact nxE))|(apply Bd;(· rfl);(· rfl);(· exact nxE)));(· first|exact Kz rfl rfl (hE) (Aa (Ad (Ad An)) An)|exact Kz rfl rfl (hT) (Aa (Ad (Ad An)) (Aa (Ad (Ad An)) An))|exact Ok.pe))|((first|apply Ca|(apply Cb;(· exact nxE)));(· first|exact Ok.e0))|refine Sx ?_|(refine Sy (fun h=>?_) (fun h=>?_)<;>try (exfalso;omega;done))|refine Sz (fun h=>?_) (fun h=>?_))
  refine Ya ?_
  (apply Le.headZ (hs:=[]) [] rfl)
  all_goals (try dsimp only[srcs])
  (case' hfr=>(repeat' (first|refine La ?_ ?_|exact Lc|refine Lo ?_|refine ⟨⟨_,rfl,?_⟩,?_⟩|refine Lx ?_)))
  all_goals (first|exact Ld|exact trivial|(rfl))
 ·rw[hb] at hT
  rw[if_pos rfl]
  refine AC.of_body 0 Tryz.func45 rfl (fun l h=>absurd rfl h) (fun C hC=>?_)
  have hD:∀ l,¬ C.D0 l:=fun l h=>(hC l).1 h rfl
  simp only[startFr,Tryz.ntmps45,List.length_cons,List.length_nil,Nat.reduceAdd,Nat.reduceSub,List.replicate_succ,List.replicate_zero,List.cons_append,List.nil_append]
  repeat' (first|((first|apply Ba|(apply Bb;(· rfl);(· rfl))|(apply Bc;(· exact nxE))|(apply Bd;(· rfl);(· rfl);(· exact nxE)));(· first|exact Kz rfl rfl (hE) (Aa (Ad (Ad An)) An)|exact Kz rfl rfl (hT) (Aa (Ad (Ad An)) (Aa (Ad (Ad An)) An))|exact Ok.pe))|((first|apply Ca|(apply Cb;(· exact nxE)));(· first|exact Ok.e0))|refine Sx ?_|(refine Sy (fun h=>?_) (fun h=>?_)<;>try (exfalso;omega;done))|refine Sz (fun h=>?_) (fun h=>?_))
  refine Ya ?_
  (apply Le.headZ (hs:=[]) [] rfl)
  all_goals (try dsimp only[srcs])
  (case' hfr=>(repeat' (first|refine La ?_ ?_|exact Lc|refine Lo ?_|refine ⟨⟨_,rfl,?_⟩,?_⟩|refine Lx ?_)))
  all_goals (first|exact Ld|exact trivial|(rfl))
theorem ttC_ok [Mode] {ev:Int}{xs:List Pl}{P:Int}{st:List Int} (h:ttC ev xs P st=0):∃ n:Nat,ev=n∧1≤n∧n≤10∧xs.length≤30∧(∀ p∈xs,okPl n p)∧isEG n xs=true∧TtOk n P st∧ttB n P st=true:=by
 unfold ttC at h
 cases hg:isEG ev xs
 ·rw[hg] at h;simp at h
 ·rw[hg] at h
  rw[if_pos rfl] at h
  obtain ⟨n,rfl,g1,g2,g3,hv⟩:=isEG_ok hg
  cases hb:ttB n P st
  ·rw[hb] at h;simp at h
  ·exact ⟨n,rfl,g1,g2,g3,hv,hg,ttB_ok hb,hb⟩
def slF (xs:List Pl) (P:Int) (st:List Int) (i:Nat):Int:=st.getD (plA xs i).t.toNat 0+(plA xs i).k*P - st.getD (plA xs i).f.toNat 0 - (plA xs i).d
abbrev slL (xs:List Pl) (P:Int) (st:List Int):List Int:=rowF xs.length (slF xs P st)
def fillG (g:Nat→Int) (K:Nat):Nat→Int:=fun v=>if v<K then g v else 0
theorem fillG_0 [Mode] {g:Nat→Int}{n:Nat}:dobj 1 (List.replicate n [DI 0])=IO (rowF n (fillG g 0)):=by
 show dobj 1 _=dobj 1 (IR (rowF n (fillG g 0)))
 congr 1
 apply List.ext_getElem?
 intro i
 by_cases hi:i<n
 ·rw[IRF_get hi,List.getElem?_replicate,if_pos hi];simp[fillG]
 ·rw[List.getElem?_eq_none (by simp;omega),List.getElem?_eq_none (by rw[IR_len,rowF_len];omega)]
theorem fillG_set [Mode] {g:Nat→Int}{n K:Nat}{x:Int} (hx:g K=x):(IR (rowF n (fillG g K))).set K [DI x]=IR (rowF n (fillG g (K+1))):=by
 have h:(IR (rowF n (fillG g K))).set K [DI x]=IR ((rowF n (fillG g K)).set K x):=IR_set
 rw[h,rowF_set]
 congr 1
 refine rowF_congr fun j hj=>?_
 simp only[fillG]
 by_cases e:j=K
 ·subst e;rw[if_pos rfl,if_pos (by omega),hx]
 ·rw[if_neg e]
  by_cases e2:j<K
  ·rw[if_pos e2,if_pos (by omega)]
  ·rw[if_neg e2,if_neg (by omega)]
theorem fillG_all [Mode] {g:Nat→Int}{n:Nat}:rowF n (fillG g n)=rowF n g:=rowF_congr fun j hj=>by simp only[fillG,if_pos hj]
theorem slacksOf_ac [Mode] (n:Nat) (xs:List Pl) (P:Int) (st:List Int) (hx:xs.length≤1000) (hv:∀ p∈xs,okPl n p) (ht:TtOk n P st):AC Tryz.prog 104 [grD n xs,ttA P st] H0 (IL (slL xs P st)) H0:=by
 have hfill:=fillG_0 (g:=slF xs P st) (n:=xs.length)
 refine AC.of_body 0 Tryz.func104 rfl (fun l h=>absurd rfl h) (fun C hC=>?_)
 have hD:∀ l,¬ C.D0 l:=fun l h=>(hC l).1 h rfl
 simp only[startFr,Tryz.ntmps104,List.length_cons,List.length_nil,Nat.reduceAdd,Nat.reduceSub,List.replicate_succ,List.replicate_zero,List.cons_append,List.nil_append]
 repeat' (first|((first|apply Ba|(apply Bb;(· rfl);(· rfl))|(apply Bc;(· exact nxE))|(apply Bd;(· rfl);(· rfl);(· exact nxE)));(· first|exact Ok.pe))|((first|apply Ca|(apply Cb;(· exact nxE)));(· first|exact Ok.e0))|refine Sx ?_|(refine Sy (fun h=>?_) (fun h=>?_)<;>try (exfalso;omega;done))|refine Sz (fun h=>?_) (fun h=>?_))
 refine AW.loop (X:={k:Nat // k≤xs.length}) (fun k=>⟨[Oo,Oo,Oo,Bx 2 1,Oo,.own 1 ⟨2,[]⟩ 0 xs.length,Oo,Oo,Oo,Oo,Oo,Oo,Oo,PL xs,I xs.length,I (k.1:Nat),Oo,Oo,Oo,Oo,Oo,Oo,Oo,Oo,Oo,Oo,Oo,Oo,Oo,Oo,Oo,Oo,Oo,Oo,Oo,Oo,Oo,Oo,Oo,Oo,Oo,Oo,Oo,Oo,Oo,Oo,Oo],heapL [(⟨1,[]⟩,⟨1,[]⟩,⟨2,[[I P,IL st]]⟩),(⟨2,[]⟩,⟨2,[]⟩,IO (rowF xs.length (fillG (slF xs P st) k.1)))],900⟩) (fun k=>xs.length - k.1) ⟨0,Nat.zero_le _⟩ ?_ (fun k=>?_)
 ·
  (apply Le.headZ [_,_] rfl)
  all_goals (try dsimp only[srcs])
  (case' hfr|hob=>(repeat' (first|refine La ?_ ?_|exact Lc|refine Lo ?_|refine ⟨⟨_,rfl,?_⟩,?_⟩|refine Lx ?_)))
  all_goals (first|((first|exact hfill|(rw[hfill];done)))|exact Ld)
 obtain ⟨k,hk⟩:=k
 simp only
 by_cases hlt:k<xs.length
 case neg=>
  obtain rfl:k=xs.length:=by omega
  rw[fillG_all]
  have hlen:(IR (rowF xs.length (slF xs P st))).length=xs.length:=by rw[IR_len,rowF_len]
  repeat' (first|((first|apply Ba|(apply Bb;(· rfl);(· rfl))|(apply Bc;(· exact nxE))|(apply Bd;(· rfl);(· rfl);(· exact nxE)));(· first|exact Ok.pe))|((first|apply Ca|(apply Cb;(· exact nxE)));(· first|exact Ok.e0))|refine Sx ?_|(refine Sy (fun h=>?_) (fun h=>?_)<;>try (exfalso;omega;done))|refine Sz (fun h=>?_) (fun h=>?_))
  refine Ya ?_
  (apply Le.headZ (hs:=[]) [] rfl)
  all_goals (try dsimp only[srcs])
  (case' hfr=>(repeat' (first|refine La ?_ ?_|exact Lc|refine Lo ?_|refine ⟨⟨_,rfl,?_⟩,?_⟩|refine Lx ?_)))
  all_goals (first|exact Ld|exact trivial|(rfl))
 have hrow:=pl_row (n:=0) hlt
 obtain ⟨hF,hT,hd,hk5⟩:=okPl_at hv k hlt
 have hxf:=tb_cell ht.l hF
 have hxt:=tb_cell ht.l hT
 have hfv:=ht.s (plA xs k).f.toNat (by omega)
 have htv:=ht.s (plA xs k).t.toNat (by omega)
 have hpb:=ht.p
 have hmul:=mul_in hk5 hpb
 have hm:slF xs P st k=st.getD (plA xs k).t.toNat 0+(plA xs k).k*P - st.getD (plA xs k).f.toNat 0 - (plA xs k).d:=rfl
 have hown:=rowI_at (g:=fillG (slF xs P st) k) hlt
 have hset:=fillG_set (n:=xs.length) hm
 generalize st.getD (plA xs k).f.toNat 0=a at *
 generalize st.getD (plA xs k).t.toNat 0=b at *
 generalize plA xs k=p at *
 obtain ⟨pf,pt,pd,pk⟩:=p
 simp only at *
 repeat' (first|((first|apply Ba|(apply Bb;(· rfl);(· rfl))|(apply Bc;(· exact nxE))|(apply Bd;(· rfl);(· rfl);(· exact nxE)));(· first|exact Ok.st1 rfl rfl rfl (by simp[rowF_len];omega) (by rw[hown];rfl) rfl rfl hset|exact Ok.pe))|((first|apply Ca|(apply Cb;(· exact nxE)));(· first|exact Ok.st1 rfl rfl rfl (by simp[rowF_len];omega) (by rw[hown];rfl) rfl rfl hset|exact Ok.e0))|refine Sx ?_|(refine Sy (fun h=>?_) (fun h=>?_)<;>try (exfalso;omega;done))|refine Sz (fun h=>?_) (fun h=>?_))
 refine ⟨⟨k+1,by omega⟩,?_,by simp only;omega⟩
 (apply Le.headZ [_,_] rfl)
 all_goals (try dsimp only[srcs])
 (case' hfr|hob=>(repeat' (first|refine La ?_ ?_|exact Lc|refine Lo ?_|refine ⟨⟨_,rfl,?_⟩,?_⟩|refine Lx ?_)))
 all_goals (first|(rfl)|exact Ld)
noncomputable def ktB (ev:Int) (xs:List Pl) (P:Int) (st:List Int):Bool:=decide (ttC ev xs P st=0)&&(slL xs P st).all fun a=>!decide (a<0)
theorem keptFn_ac [Mode] (a:Int):AC Tryz.prog 105 [I a] H0 (Bo (decide (a<0))) H0:=by
 refine AC.of_body 0 Tryz.func105 rfl (fun l h=>absurd rfl h) (fun C hC=>?_)
 have hD:∀ l,¬ C.D0 l:=fun l h=>(hC l).1 h rfl
 simp only[startFr,Tryz.ntmps105,List.length_cons,List.length_nil,Nat.reduceAdd,Nat.reduceSub,List.replicate_succ,List.replicate_zero,List.cons_append,List.nil_append]
 repeat' (first|((first|apply Ba|(apply Bb;(· rfl);(· rfl))|(apply Bc;(· exact nxE))|(apply Bd;(· rfl);(· rfl);(· exact nxE)));(· first|exact Ok.pe))|((first|apply Ca|(apply Cb;(· exact nxE)));(· first|exact Ok.e0))|refine Sx ?_|(refine Sy (fun h=>?_) (fun h=>?_)<;>try (exfalso;omega;done))|refine Sz (fun h=>?_) (fun h=>?_))
 refine Ya ?_
 (apply Le.headZ (hs:=[]) [] rfl)
 all_goals (try dsimp only[srcs])
 (case' hfr=>(repeat' (first|refine La ?_ ?_|exact Lc|refine Lo ?_|refine ⟨⟨_,rfl,?_⟩,?_⟩|refine Lx ?_)))
 all_goals (first|exact Ld|exact trivial|(rfl))
theorem iIsKept_ac [Mode] (ev:Int) (xs:List Pl) (P:Int) (st:List Int) (hx:xs.length≤1000) (hs:st.length≤100000000):AC Tryz.prog 13 [grD ev xs,ttA P st] H0 (.tup [Bo (ktB ev xs P st),I (ttC ev xs P st)]) H0:=by
 have hK:=checkTimetable_ac ev xs P st hx hs
 unfold ktB
 by_cases h0:ttC ev xs P st=0
 ·rw[decide_eq_true h0,Bool.true_and]
  obtain ⟨n,rfl,g1,g2,g3,hv,hg,ht,_⟩:=ttC_ok h0
  have hS:=slacksOf_ac n xs P st hx hv ht
  have hl:(slL xs P st).length=xs.length:=rowF_len
  have hQ:=containsFuncI_ac (slL xs P st) (by omega) 105 (fun a=>decide (a<0)) (fun x _=>keptFn_ac x)
  rw[h0] at hK ⊢
  rw[show ((slL xs P st).all fun a=>!decide (a<0)) = !((slL xs P st).any fun a=>decide (a<0)) by rw[List.all_eq_not_any_not];simp]
  generalize slL xs P st=l at *
  have hJ:AC Tryz.prog 46 [grD n xs,ttA P st] H0 (Bo (!(l.any fun a=>decide (a<0)))) H0:=by
   generalize (l.any fun a=>decide (a<0))=b at *
   refine AC.of_body 0 Tryz.func46 rfl (fun l h=>absurd rfl h) (fun C hC=>?_)
   have hD:∀ l,¬ C.D0 l:=fun l h=>(hC l).1 h rfl
   simp only[startFr,Tryz.ntmps46,List.length_cons,List.length_nil,Nat.reduceAdd,Nat.reduceSub,List.replicate_succ,List.replicate_zero,List.cons_append,List.nil_append]
   repeat' (first|((first|apply Ba|(apply Bb;(· rfl);(· rfl))|(apply Bc;(· exact nxE))|(apply Bd;(· rfl);(· rfl);(· exact nxE)));(· first|exact Kz rfl rfl (hS) (Aa (Ad (Ad An)) (Aa (Ad (Ad An)) An))|exact Ez rfl rfl hQ (Sd (Ce Sn))|exact Ok.pe))|((first|apply Ca|(apply Cb;(· exact nxE)));(· first|exact Ok.e0))|refine Sx ?_|(refine Sy (fun h=>?_) (fun h=>?_)<;>try (exfalso;omega;done))|refine Sz (fun h=>?_) (fun h=>?_))
   refine Ya ?_
   (apply Le.headZ (hs:=[]) [] rfl)
   all_goals (try dsimp only[srcs])
   (case' hfr=>(repeat' (first|refine La ?_ ?_|exact Lc|refine Lo ?_|refine ⟨⟨_,rfl,?_⟩,?_⟩|refine Lx ?_)))
   all_goals (first|exact Ld|exact trivial|(rfl))
  generalize (l.any fun a=>decide (a<0))=b at *
  refine AC.of_body 0 Tryz.func13 rfl (fun l h=>absurd rfl h) (fun C hC=>?_)
  have hD:∀ l,¬ C.D0 l:=fun l h=>(hC l).1 h rfl
  simp only[startFr,Tryz.ntmps13,List.length_cons,List.length_nil,Nat.reduceAdd,Nat.reduceSub,List.replicate_succ,List.replicate_zero,List.cons_append,List.nil_append]
  repeat' (first|((first|apply Ba|(apply Bb;(· rfl);(· rfl))|(apply Bc;(· exact nxE))|(apply Bd;(· rfl);(· rfl);(· exact nxE)));(· first|exact Kz rfl rfl (hK) (Aa (Ad (Ad An)) (Aa (Ad (Ad An)) An))|exact Kz rfl rfl (hJ) (Aa (Ad (Ad An)) (Aa (Ad (Ad An)) An))|exact Ok.pe))|((first|apply Ca|(apply Cb;(· exact nxE)));(· first|exact Ok.e0))|refine Sx ?_|(refine Sy (fun h=>?_) (fun h=>?_)<;>try (exfalso;omega;done))|refine Sz (fun h=>?_) (fun h=>?_))
  refine Yb ?_
  (apply Le.headZ (hs:=[]) [] rfl)
  all_goals (try dsimp only[srcs])
  (case' hfr=>(repeat' (first|refine La ?_ ?_|exact Lc|refine Lo ?_|refine ⟨⟨_,rfl,?_⟩,?_⟩|refine Lx ?_)))
  all_goals (first|exact Ld|exact trivial|(rfl))
 ·rw[decide_eq_false h0,Bool.false_and]
  generalize ttC ev xs P st=c at *
  refine AC.of_body 0 Tryz.func13 rfl (fun l h=>absurd rfl h) (fun C hC=>?_)
  have hD:∀ l,¬ C.D0 l:=fun l h=>(hC l).1 h rfl
  simp only[startFr,Tryz.ntmps13,List.length_cons,List.length_nil,Nat.reduceAdd,Nat.reduceSub,List.replicate_succ,List.replicate_zero,List.cons_append,List.nil_append]
  repeat' (first|((first|apply Ba|(apply Bb;(· rfl);(· rfl))|(apply Bc;(· exact nxE))|(apply Bd;(· rfl);(· rfl);(· exact nxE)));(· first|exact Kz rfl rfl (hK) (Aa (Ad (Ad An)) (Aa (Ad (Ad An)) An))|exact Ok.pe))|((first|apply Ca|(apply Cb;(· exact nxE)));(· first|exact Ok.e0))|refine Sx ?_|(refine Sy (fun h=>?_) (fun h=>?_)<;>try (exfalso;omega;done))|refine Sz (fun h=>?_) (fun h=>?_))
  refine Yb ?_
  (apply Le.headZ (hs:=[]) [] rfl)
  all_goals (try dsimp only[srcs])
  (case' hfr=>(repeat' (first|refine La ?_ ?_|exact Lc|refine Lo ?_|refine ⟨⟨_,rfl,?_⟩,?_⟩|refine Lx ?_)))
  all_goals (first|exact Ld|exact trivial|(rfl))
end
end Go.Proofs.YtkpoclbnnpglfaaGreat
