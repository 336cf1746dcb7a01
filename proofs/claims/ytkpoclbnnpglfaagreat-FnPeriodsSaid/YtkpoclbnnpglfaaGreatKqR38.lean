/-
  Walks in the abstract reading: matrices drawn that stay the caller's own; matrices with several critical arcs drawn.
-/
import Derived.Test.YtkpoclbnnpglfaaGreatKqU14
import Derived.Test.YtkpoclbnnpglfaaGreatKqU9
import Derived.Test.YtkpoclbnnpglfaaGreatKqU8
set_option linter.unusedSimpArgs false
set_option linter.unusedVariables false
namespace Go.Proofs.YtkpoclbnnpglfaaGreat
open Go Go.RowKit
abbrev ownTH (code:List Int) (s:Src) (R:List (List (List D))):Heap:=heapX [(⟨0,[]⟩,⟨0,[]⟩,srcO code s)] [mi1 ⟨1,[]⟩ R]
section
variable {P : Program} {o : Oper} {A : Operand → AV} {H : Heap} {new : Nat}
theorem Gt [Mode] {fo x:Operand}{xs:List Operand}{ts:Array TypeId}{f:FuncId}{code:List Int}{s s':Src}{args:List AV}{n:Nat}{R:List (List (List D))} (hc:AC P f (Bx 3 0 :: args) (srcH code s) (.own 1 ⟨1,[]⟩ 0 n) (ownTH code s' R)) (ho:o.op = .call { callee:=.value fo,args:=(x :: xs).toArray,argTypes:=ts }) [FnBody P f] (hfo:A fo = .clo (.func f) [] [])
  (hx:A x=Bx 3 0) (hl:H ⟨0,[]⟩=some (srcO code s)) (hy:ARs H (fun _=>False) (fun _=>⟨0,[]⟩) (· = ⟨0,[]⟩) args (xs.map A)):OpOk P o A [⟨0,[]⟩] H new (.own 1 ⟨new,[1]⟩ 0 n) [.all new (fun sub=>heapX [] [mi1 ⟨new,[1]⟩ R] ⟨new,sub⟩),.one ⟨0,[]⟩ (some (srcO code s'))]:=
 OpOk.callMX (xs:=x :: xs) [] [mi1 ⟨1,[]⟩ R] ho hfo hc hl (by
  rw[List.append_nil]
  show ARs _ _ _ _ _ (A x :: xs.map A)
  rw[hx]
  exact ARs.cons (AR.ptr _ _ _ _ rfl) hy) trivial ⟨Nat.one_ne_zero,trivial⟩ (by rw[rn,emb_one (by decide)];rfl)
end
theorem heap_two [Mode] {l:Loc}{r0 r1:List (List D)}{x y z src base:Loc}:heapM [{ l:=l,k:=1,R:=[r0,r1],src:=src,base:=base }]=heapL [(l,x,⟨1,[[.own 1 (l.at 0) 0 r0.length],[.own 1 (l.at 1) 0 r1.length]]⟩),(l.at 0,y,dobj 1 r0),(l.at 1,z,dobj 1 r1)]:=by
 funext l'
 show (if l.cov l'=true then matG l 1 [r0,r1] 0 l' else none)=upd (upd (upd H0 (l.at 1) (some (dobj 1 r1))) (l.at 0) (some (dobj 1 r0))) l (some _) l'
 by_cases e:l'=l
 ·subst e
  rw[upd_same,if_pos (Loc.cov_self _),matG_l];rfl
 rw[upd_ne e]
 by_cases e0:l'=l.at 0
 ·subst e0
  rw[upd_same,if_pos (Loc.cov_at _ _),matG_at];rfl
 rw[upd_ne e0]
 by_cases e1:l'=l.at 1
 ·subst e1
  rw[upd_same,if_pos (Loc.cov_at _ _),matG_at];rfl
 rw[upd_ne e1]
 by_cases hc:l.cov l'=true
 ·rw[if_pos hc]
  cases hm:matG l 1 [r0,r1] 0 l' with
  | none=>rfl
  | some ob=>
   rcases matG_some hc hm with ⟨h,_⟩|⟨i,r,rfl,hr,_⟩
   ·exact absurd h e
   ·match i with
    | 0=>exact absurd rfl e0
    | 1=>exact absurd rfl e1
    | i+2=>simp at hr
 ·rw[if_neg hc]
theorem ObA.two [Mode] {H:Heap}{lent:Loc→Prop}{τ:Loc→Loc}{L:Loc→Prop}{k:Nat}{r s r' s':List AV} (h:ARs H lent τ L r r') (h2:ARs H lent τ L s s'):ObA H lent τ L ⟨k,[r,s]⟩ ⟨k,[r',s']⟩:=by
 refine ⟨rfl,rfl,fun i q q' hq hq'=>?_⟩
 match i with
 | 0=>simp at hq hq';subst hq;subst hq';exact h
 | 1=>simp at hq hq';subst hq;subst hq';exact h2
 | i+2=>simp at hq
theorem sq_no [Mode] {m n:Nat}{F:Nat→Nat→Int}:isSq (tabF m n F++[[]])=false:=by
 cases h:isSq (tabF m n F++[[]]) with
 | false=>rfl
 | true=>
  have hM:=isSq_ok h
  have:=hM.sq.r [] (by simp)
  have hp:=hM.pos
  simp at this
attribute [local irreducible] AL AD AW OpOk Le AC thenQ blockQ EndQ
set_option maxHeartbeats 8000000 in
theorem l02DrawSize_own [Mode] (code:List Int) (hc:CodeOk code) (s:Src) (hs:SrcOk code s) (m n:Nat) (hm:1≤m∧m≤10) (hn:1≤n∧n≤10):∃ (T:List (List Int)) (s':Src),TabOk T∧T.length≤m+1∧SrcOk code s'∧(((∃ g,T=tabF m n g)∧AC Tryz.prog 175 [Bx 3 0,I m,I n] (srcH code s) (.own 1 ⟨1,[]⟩ 0 m) (ownTH code s' (TR T)))∨(isSq T=false∧AC Tryz.prog 175 [Bx 3 0,I m,I n] (srcH code s) (TL T) (srcH code s'))):=by
 have hB:=l02Bottom_ac m n (by omega) (by omega)
 rw[← botF_tabR] at hB
 obtain ⟨many,s1,hmany,h1,p1,q1,K1⟩:=pick_ex hc hs [2,3,5] 3 rfl
 have hA:=mzA_ok hc (many:=many) (n:=n) (q:=(s1,fun _ _=>BOT)) h1 m
 generalize hqA:mzA code many n (s1,fun _ _=>BOT) m=qA at hA
 obtain ⟨s2,F⟩:=qA
 simp only at hA
 obtain ⟨y,s3,y1,y2,h3,q3,N3⟩:=next_ex hc hA 60
 obtain ⟨v,s4,hv,h4,V4⟩:=l01DrawValue_ex code hc s3 h3
 have hrw:=TRF_get (n:=n) (f:=F) (show 0<m by omega)
 have hrl:(IR (rowF n (F 0))).length=n:=by rw[IR_len,rowF_len]
 have htF:(TR (tabF m n F)).length=m:=by rw[TR_len,tabF_len]
 have hcell:(IR (rowF n (F 0)))[0]? = some [DI (F 0 0)]:=IRF_get (by omega)
 by_cases c0:y=0
 ·refine ⟨tabF m n (fun a b=>if a=0∧b=0 then v else F a b),s4,tabF_ok (by omega) (by omega),by rw[tabF_len];omega,h4,.inl ⟨⟨_,rfl⟩,?_⟩⟩
  show AC _ _ _ (heapL [(⟨0,[]⟩,⟨0,[]⟩,srcO code s)]) _ _
  refine AC.of_body 1 Tryz.func175 rfl (fun l h=>by simp[heapL,upd] at h;simp[h]) (fun C hC=>?_)
  simp only[startFr,Tryz.ntmps175,List.length_cons,List.length_nil,Nat.reduceAdd,Nat.reduceSub,List.replicate_succ,List.replicate_zero,List.cons_append,List.nil_append]
  have hD:∀ l,C.D0 l→l=⟨0,[]⟩:=fun l h=>by have:=(hC l).1 h;simp[heapL,upd] at this;exact this
  repeat' (first|((first|apply Ba|(apply Bb;(· rfl);(· rfl))|(apply Bc;(· exact nxE))|(apply Bd;(· rfl);(· rfl);(· exact nxE)));(· first|exact Tb rfl rfl (hB) (Sd (Sd Sn))|exact Kx K1 rfl rfl rfl rfl rfl rfl (by decide)|exact Ok.bs3 rfl rfl rfl rfl rfl|exact Ok.pe))|((first|apply Ca|(apply Cb;(· exact nxE)));(· first|exact Tb rfl rfl (hB) (Sd (Sd Sn))|exact Kx K1 rfl rfl rfl rfl rfl rfl (by decide)|exact Ok.bs3 rfl rfl rfl rfl rfl|exact Ok.e0))|refine Sx ?_|(refine Sy (fun h=>?_) (fun h=>?_)<;>try (exfalso;omega;done))|refine Sz (fun h=>?_) (fun h=>?_))
  refine AW.loop (X:={k:Nat // k≤m}) (fun k=>⟨[Bx 3 0,I m,I n,Oo,Oo,Oo,Oo,.own 1 ⟨1,[]⟩ 0 m,I many,I (k.1:Nat),Oo,Oo,Oo,Oo,Oo,Oo,Oo,Oo,Oo,Oo,Oo,Oo,Oo,Oo,Oo,Oo,Oo,Oo,Oo,Oo,Oo,Oo,Oo,Oo,Oo,Oo,Oo,Oo,Oo,Oo,Oo,Oo,Oo,Oo,Oo,Oo,Oo,Oo,Oo,Oo,Oo,Oo,Oo,Oo,Oo,Oo,Oo,Oo,Oo],heapX [(⟨0,[]⟩,⟨0,[]⟩,srcO code (mzA code many n (s1,fun _ _=>BOT) k.1).1)] [mi1 ⟨1,[]⟩ (TR (tabF m n (mzA code many n (s1,fun _ _=>BOT) k.1).2))],900⟩) (fun k=>m - k.1) ⟨0,Nat.zero_le _⟩ ?_ (fun k=>?_)
  ·
   (apply Le.headG [_] [{ l:=⟨1,[]⟩,k:=1,R:=TR (tabF m n (fun _ _=>BOT)),src:=⟨4,[0]⟩,base:=⟨4,[0]⟩ }] (fun _=>False))
   (case' hlen=>rfl)
   (case' hms=>rfl)
   all_goals (try dsimp only[srcs])
   (case' hfr|hob=>(repeat' (first|refine La ?_ ?_|exact Lc|refine Lo ?_|refine ⟨⟨_,rfl,?_⟩,?_⟩|refine Lx ?_)))
   (case' hok=>first|exact ⟨MI.ok_same rfl (fun u x hx=>congrArg (Option.map (dobj 1)) hx),trivial⟩|exact trivial)
   (case' hN=>rfl)
   (case' hS=>rfl)
   all_goals (first|exact Ld|(rfl))
  obtain ⟨w,hw⟩:=k
  simp only
  by_cases hlt2:w<m
  ·have hI:=mzA_ok hc (many:=many) (n:=n) (q:=(s1,fun _ _=>BOT)) h1 w
   have hstA:mzA code many n (s1,fun _ _=>BOT) (w+1)=mzR code many w (mzA code many n (s1,fun _ _=>BOT) w) n:=rfl
   generalize mzA code many n (s1,fun _ _=>BOT) w=q at hI hstA ⊢
   repeat' (first|((first|apply Ba|(apply Bb;(· rfl);(· rfl))|(apply Bc;(· exact nxE))|(apply Bd;(· rfl);(· rfl);(· exact nxE)));(· first|exact Ok.pe))|((first|apply Ca|(apply Cb;(· exact nxE)));(· first|exact Ok.e0))|refine Sx ?_|(refine Sy (fun h=>?_) (fun h=>?_)<;>try (exfalso;omega;done))|refine Sz (fun h=>?_) (fun h=>?_))
   refine AW.loop (X:={k:Nat // k≤n}) (fun k=>⟨[Bx 3 0,I m,I n,Oo,Oo,Oo,Oo,.own 1 ⟨1,[]⟩ 0 m,I many,I w,I (k.1:Nat),Oo,Oo,Oo,Oo,Oo,Oo,Oo,Oo,Oo,Oo,Oo,Oo,Oo,Oo,Oo,Oo,Oo,Oo,Oo,Oo,Oo,Oo,Oo,Oo,Oo,Oo,Oo,Oo,Oo,Oo,Oo,Oo,Oo,Oo,Oo,Oo,Oo,Oo,Oo,Oo,Oo,Oo,Oo,Oo,Oo,Oo,Oo,Oo],heapX [(⟨0,[]⟩,⟨0,[]⟩,srcO code (mzR code many w q k.1).1)] [mi1 ⟨1,[]⟩ (TR (tabF m n (mzR code many w q k.1).2))],900⟩) (fun k=>n - k.1) ⟨0,Nat.zero_le _⟩ ?_ (fun k=>?_)
   ·
    (apply Le.headG [_] [mi1 ⟨1,[]⟩ (TR (tabF m n q.2))] (fun _=>False))
    (case' hlen=>rfl)
    (case' hms=>rfl)
    all_goals (try dsimp only[srcs])
    (case' hfr|hob=>(repeat' (first|refine La ?_ ?_|exact Lc|refine Lo ?_|refine ⟨⟨_,rfl,?_⟩,?_⟩|refine Lx ?_)))
    (case' hok=>first|exact ⟨MI.ok_same rfl (fun u x hx=>congrArg (Option.map (dobj 1)) hx),trivial⟩|exact trivial)
    (case' hN=>rfl)
    (case' hS=>rfl)
    all_goals (first|exact Ld|(rfl))
   obtain ⟨e,he⟩:=k
   simp only
   have hJ:=mzR_ok hc (many:=many) (i:=w) hI e
   by_cases hlt3:e<n
   ·have hstR:mzR code many w q (e+1)=mzC code many w e (mzR code many w q e):=rfl
    generalize mzR code many w q e=r at hJ hstR ⊢
    obtain ⟨s10,G⟩:=r
    simp only at hJ ⊢
    obtain ⟨a,s11,a1,a2,h11,q11,N11⟩:=next_ex hc hJ many
    obtain ⟨b,s12,b1,b2,h12,q12,N12⟩:=next_ex hc h11 26
    have hstC:=hstR.trans (show mzC code many w e (s10,G)=if 0<a then (s12,fun x y=>if x=w∧y=e then b - 10 else G x y) else (s11,G) by unfold mzC;simp only[q11,q12])
    have hrw:=TRF_get (n:=n) (f:=G) hlt2
    have hrl:(IR (rowF n (G w))).length=n:=by rw[IR_len,rowF_len]
    have hcell:(IR (rowF n (G w)))[e]? = some [DI (G w e)]:=IRF_get hlt3
    have htF:(TR (tabF m n G)).length=m:=by rw[TR_len,tabF_len]
    by_cases ha:0<a
    ·rw[if_pos ha] at hstC
     repeat' (first|((first|apply Ba|(apply Bb;(· rfl);(· rfl))|(apply Bc;(· exact nxE))|(apply Bd;(· rfl);(· rfl);(· exact nxE)));(· first|exact Ok.ldTn rfl rfl rfl hrw hrl|exact Nx N11 rfl rfl rfl rfl rfl|exact Nx N12 rfl rfl rfl rfl rfl|exact Ok.st1 rfl rfl (congrArg (Option.map (dobj 1)) hrw) (by rw[hrl];exact hlt3) (by rw[hcell];rfl) rfl rfl IR_set|exact Ok.pe))|((first|apply Ca|(apply Cb;(· exact nxE)));(· first|exact Nx N11 rfl rfl rfl rfl rfl|exact Nx N12 rfl rfl rfl rfl rfl|exact Ok.st1 rfl rfl (congrArg (Option.map (dobj 1)) hrw) (by rw[hrl];exact hlt3) (by rw[hcell];rfl) rfl rfl IR_set|exact Ok.e0))|refine Sx ?_|(refine Sy (fun h=>?_) (fun h=>?_)<;>try (exfalso;omega;done))|refine Sz (fun h=>?_) (fun h=>?_))
     refine ⟨⟨e+1,by omega⟩,?_,by simp only;omega⟩
     simp only[hstC]
     (apply Le.headG [_] [mi1 ⟨1,[]⟩ (TR (tabF m n (fun x y=>if x=w∧y=e then b - 10 else G x y)))] (fun _=>False))
     (case' hlen=>rfl)
     (case' hms=>rfl)
     all_goals (try dsimp only[srcs])
     (case' hfr|hob=>(repeat' (first|refine La ?_ ?_|exact Lc|refine Lo ?_|refine ⟨⟨_,rfl,?_⟩,?_⟩|refine Lx ?_)))
     (case' hok=>first|exact ⟨MI.ok_row (tabF_set (fun a b _ _=>rfl)) hrw (by simp) rfl (fun u x hx=>congrArg (Option.map (dobj 1)) hx),trivial⟩|exact trivial)
     (case' hN=>rfl)
     (case' hS=>rfl)
     all_goals (first|exact Ld|(rfl))
    ·rw[if_neg ha] at hstC
     repeat' (first|((first|apply Ba|(apply Bb;(· rfl);(· rfl))|(apply Bc;(· exact nxE))|(apply Bd;(· rfl);(· rfl);(· exact nxE)));(· first|exact Nx N11 rfl rfl rfl rfl rfl|exact Nx N12 rfl rfl rfl rfl rfl|exact Ok.pe))|((first|apply Ca|(apply Cb;(· exact nxE)));(· first|exact Nx N11 rfl rfl rfl rfl rfl|exact Nx N12 rfl rfl rfl rfl rfl|exact Ok.e0))|refine Sx ?_|(refine Sy (fun h=>?_) (fun h=>?_)<;>try (exfalso;omega;done))|refine Sz (fun h=>?_) (fun h=>?_))
     refine ⟨⟨e+1,by omega⟩,?_,by simp only;omega⟩
     simp only[hstC]
     (apply Le.headG [_] [mi1 ⟨1,[]⟩ (TR (tabF m n G))] (fun _=>False))
     (case' hlen=>rfl)
     (case' hms=>rfl)
     all_goals (try dsimp only[srcs])
     (case' hfr|hob=>(repeat' (first|refine La ?_ ?_|exact Lc|refine Lo ?_|refine ⟨⟨_,rfl,?_⟩,?_⟩|refine Lx ?_)))
     (case' hok=>first|exact ⟨MI.ok_same rfl (fun u x hx=>congrArg (Option.map (dobj 1)) hx),trivial⟩|exact trivial)
     (case' hN=>rfl)
     (case' hS=>rfl)
     all_goals (first|exact Ld|(rfl))
   ·obtain rfl:e=n:=by omega
    rw[← hstA]
    repeat' (first|((first|apply Ba|(apply Bb;(· rfl);(· rfl))|(apply Bc;(· exact nxE))|(apply Bd;(· rfl);(· rfl);(· exact nxE)));(· first|exact Ok.pe))|((first|apply Ca|(apply Cb;(· exact nxE)));(· first|exact Ok.e0))|refine Sx ?_|(refine Sy (fun h=>?_) (fun h=>?_)<;>try (exfalso;omega;done))|refine Sz (fun h=>?_) (fun h=>?_))
    refine ⟨⟨w+1,by omega⟩,?_,by simp only;omega⟩
    (apply Le.headG [_] [mi1 ⟨1,[]⟩ (TR (tabF m e (mzA code many e (s1,fun _ _=>BOT) (w+1)).2))] (fun _=>False))
    (case' hlen=>rfl)
    (case' hms=>rfl)
    all_goals (try dsimp only[srcs])
    (case' hfr|hob=>(repeat' (first|refine La ?_ ?_|exact Lc|refine Lo ?_|refine ⟨⟨_,rfl,?_⟩,?_⟩|refine Lx ?_)))
    (case' hok=>first|exact ⟨MI.ok_same rfl (fun u x hx=>congrArg (Option.map (dobj 1)) hx),trivial⟩|exact trivial)
    (case' hN=>rfl)
    (case' hS=>rfl)
    all_goals (first|exact Ld|(rfl))
  obtain rfl:w=m:=by omega
  rw[hqA]
  simp only
  repeat' (first|((first|apply Ba|(apply Bb;(· rfl);(· rfl))|(apply Bc;(· exact nxE))|(apply Bd;(· rfl);(· rfl);(· exact nxE)));(· first|exact Ok.ldTj (i:=0) rfl rfl rfl hrw hrl rfl|exact Nx N3 rfl rfl rfl rfl rfl|exact Zx (args:=[]) V4 rfl rfl rfl rfl .nil (fun _=>by simp[rn])|exact Ok.st1 (i:=0) rfl rfl (congrArg (Option.map (dobj 1)) hrw) (by rw[hrl];omega) (by rw[hcell];rfl) rfl rfl IR_set|exact Ok.pe))|((first|apply Ca|(apply Cb;(· exact nxE)));(· first|exact Nx N3 rfl rfl rfl rfl rfl|exact Zx (args:=[]) V4 rfl rfl rfl rfl .nil (fun _=>by simp[rn])|exact Ok.st1 (i:=0) rfl rfl (congrArg (Option.map (dobj 1)) hrw) (by rw[hrl];omega) (by rw[hcell];rfl) rfl rfl IR_set|exact Ok.e0))|refine Sx ?_|(refine Sy (fun h=>?_) (fun h=>?_)<;>try (exfalso;omega;done))|refine Sz (fun h=>?_) (fun h=>?_))
  refine Ya ?_
  (apply Le.headG [⟨0,[]⟩] [{ l:=⟨1,[]⟩,k:=1,R:=TR (tabF w n (fun a b=>if a=0∧b=0 then v else F a b)),src:=⟨1,[]⟩,base:=⟨1,[]⟩ }] (fun _=>False))
  (case' hlen=>rfl)
  (case' hms=>rfl)
  all_goals (try dsimp only[srcs])
  (case' hfr|hob=>(repeat' (first|refine La ?_ ?_|exact Lc|refine Lo ?_|refine ⟨⟨_,rfl,?_⟩,?_⟩|refine Lx ?_)))
  (case' hok=>first|exact ⟨MI.ok_row (tabF_set (fun a b _ _=>rfl)) hrw (by simp) rfl (Cg),trivial⟩|exact trivial)
  (case' hN=>rfl)
  (case' hS=>rfl)
  all_goals (first|exact Ld|(rfl))
 by_cases c1:y=1
 ·refine ⟨tabF m n F++[[]],s3,⟨by simp[tabF_len];omega,fun r hr=>by
   rcases List.mem_append.1 hr with hr|hr
   ·rw[tabF_row2 r hr];omega
   ·simp at hr;subst hr;simp⟩,by simp[tabF_len],h3,.inr ⟨sq_no,?_⟩⟩
  show AC _ _ _ (heapL [(⟨0,[]⟩,⟨0,[]⟩,srcO code s)]) _ _
  refine AC.of_body 1 Tryz.func175 rfl (fun l h=>by simp[heapL,upd] at h;simp[h]) (fun C hC=>?_)
  simp only[startFr,Tryz.ntmps175,List.length_cons,List.length_nil,Nat.reduceAdd,Nat.reduceSub,List.replicate_succ,List.replicate_zero,List.cons_append,List.nil_append]
  have hD:∀ l,C.D0 l→l=⟨0,[]⟩:=fun l h=>by have:=(hC l).1 h;simp[heapL,upd] at this;exact this
  repeat' (first|((first|apply Ba|(apply Bb;(· rfl);(· rfl))|(apply Bc;(· exact nxE))|(apply Bd;(· rfl);(· rfl);(· exact nxE)));(· first|exact Tb rfl rfl (hB) (Sd (Sd Sn))|exact Kx K1 rfl rfl rfl rfl rfl rfl (by decide)|exact Ok.bs3 rfl rfl rfl rfl rfl|exact Ok.pe))|((first|apply Ca|(apply Cb;(· exact nxE)));(· first|exact Tb rfl rfl (hB) (Sd (Sd Sn))|exact Kx K1 rfl rfl rfl rfl rfl rfl (by decide)|exact Ok.bs3 rfl rfl rfl rfl rfl|exact Ok.e0))|refine Sx ?_|(refine Sy (fun h=>?_) (fun h=>?_)<;>try (exfalso;omega;done))|refine Sz (fun h=>?_) (fun h=>?_))
  refine AW.loop (X:={k:Nat // k≤m}) (fun k=>⟨[Bx 3 0,I m,I n,Oo,Oo,Oo,Oo,.own 1 ⟨1,[]⟩ 0 m,I many,I (k.1:Nat),Oo,Oo,Oo,Oo,Oo,Oo,Oo,Oo,Oo,Oo,Oo,Oo,Oo,Oo,Oo,Oo,Oo,Oo,Oo,Oo,Oo,Oo,Oo,Oo,Oo,Oo,Oo,Oo,Oo,Oo,Oo,Oo,Oo,Oo,Oo,Oo,Oo,Oo,Oo,Oo,Oo,Oo,Oo,Oo,Oo,Oo,Oo,Oo,Oo],heapX [(⟨0,[]⟩,⟨0,[]⟩,srcO code (mzA code many n (s1,fun _ _=>BOT) k.1).1)] [mi1 ⟨1,[]⟩ (TR (tabF m n (mzA code many n (s1,fun _ _=>BOT) k.1).2))],900⟩) (fun k=>m - k.1) ⟨0,Nat.zero_le _⟩ ?_ (fun k=>?_)
  ·
   (apply Le.headG [_] [{ l:=⟨1,[]⟩,k:=1,R:=TR (tabF m n (fun _ _=>BOT)),src:=⟨4,[0]⟩,base:=⟨4,[0]⟩ }] (fun _=>False))
   (case' hlen=>rfl)
   (case' hms=>rfl)
   all_goals (try dsimp only[srcs])
   (case' hfr|hob=>(repeat' (first|refine La ?_ ?_|exact Lc|refine Lo ?_|refine ⟨⟨_,rfl,?_⟩,?_⟩|refine Lx ?_)))
   (case' hok=>first|exact ⟨MI.ok_same rfl (fun u x hx=>congrArg (Option.map (dobj 1)) hx),trivial⟩|exact trivial)
   (case' hN=>rfl)
   (case' hS=>rfl)
   all_goals (first|exact Ld|(rfl))
  obtain ⟨w,hw⟩:=k
  simp only
  by_cases hlt2:w<m
  ·have hI:=mzA_ok hc (many:=many) (n:=n) (q:=(s1,fun _ _=>BOT)) h1 w
   have hstA:mzA code many n (s1,fun _ _=>BOT) (w+1)=mzR code many w (mzA code many n (s1,fun _ _=>BOT) w) n:=rfl
   generalize mzA code many n (s1,fun _ _=>BOT) w=q at hI hstA ⊢
   repeat' (first|((first|apply Ba|(apply Bb;(· rfl);(· rfl))|(apply Bc;(· exact nxE))|(apply Bd;(· rfl);(· rfl);(· exact nxE)));(· first|exact Ok.pe))|((first|apply Ca|(apply Cb;(· exact nxE)));(· first|exact Ok.e0))|refine Sx ?_|(refine Sy (fun h=>?_) (fun h=>?_)<;>try (exfalso;omega;done))|refine Sz (fun h=>?_) (fun h=>?_))
   refine AW.loop (X:={k:Nat // k≤n}) (fun k=>⟨[Bx 3 0,I m,I n,Oo,Oo,Oo,Oo,.own 1 ⟨1,[]⟩ 0 m,I many,I w,I (k.1:Nat),Oo,Oo,Oo,Oo,Oo,Oo,Oo,Oo,Oo,Oo,Oo,Oo,Oo,Oo,Oo,Oo,Oo,Oo,Oo,Oo,Oo,Oo,Oo,Oo,Oo,Oo,Oo,Oo,Oo,Oo,Oo,Oo,Oo,Oo,Oo,Oo,Oo,Oo,Oo,Oo,Oo,Oo,Oo,Oo,Oo,Oo,Oo,Oo],heapX [(⟨0,[]⟩,⟨0,[]⟩,srcO code (mzR code many w q k.1).1)] [mi1 ⟨1,[]⟩ (TR (tabF m n (mzR code many w q k.1).2))],900⟩) (fun k=>n - k.1) ⟨0,Nat.zero_le _⟩ ?_ (fun k=>?_)
   ·
    (apply Le.headG [_] [mi1 ⟨1,[]⟩ (TR (tabF m n q.2))] (fun _=>False))
    (case' hlen=>rfl)
    (case' hms=>rfl)
    all_goals (try dsimp only[srcs])
    (case' hfr|hob=>(repeat' (first|refine La ?_ ?_|exact Lc|refine Lo ?_|refine ⟨⟨_,rfl,?_⟩,?_⟩|refine Lx ?_)))
    (case' hok=>first|exact ⟨MI.ok_same rfl (fun u x hx=>congrArg (Option.map (dobj 1)) hx),trivial⟩|exact trivial)
    (case' hN=>rfl)
    (case' hS=>rfl)
    all_goals (first|exact Ld|(rfl))
   obtain ⟨e,he⟩:=k
   simp only
   have hJ:=mzR_ok hc (many:=many) (i:=w) hI e
   by_cases hlt3:e<n
   ·have hstR:mzR code many w q (e+1)=mzC code many w e (mzR code many w q e):=rfl
    generalize mzR code many w q e=r at hJ hstR ⊢
    obtain ⟨s10,G⟩:=r
    simp only at hJ ⊢
    obtain ⟨a,s11,a1,a2,h11,q11,N11⟩:=next_ex hc hJ many
    obtain ⟨b,s12,b1,b2,h12,q12,N12⟩:=next_ex hc h11 26
    have hstC:=hstR.trans (show mzC code many w e (s10,G)=if 0<a then (s12,fun x y=>if x=w∧y=e then b - 10 else G x y) else (s11,G) by unfold mzC;simp only[q11,q12])
    have hrw:=TRF_get (n:=n) (f:=G) hlt2
    have hrl:(IR (rowF n (G w))).length=n:=by rw[IR_len,rowF_len]
    have hcell:(IR (rowF n (G w)))[e]? = some [DI (G w e)]:=IRF_get hlt3
    have htF:(TR (tabF m n G)).length=m:=by rw[TR_len,tabF_len]
    by_cases ha:0<a
    ·rw[if_pos ha] at hstC
     repeat' (first|((first|apply Ba|(apply Bb;(· rfl);(· rfl))|(apply Bc;(· exact nxE))|(apply Bd;(· rfl);(· rfl);(· exact nxE)));(· first|exact Ok.ldTn rfl rfl rfl hrw hrl|exact Nx N11 rfl rfl rfl rfl rfl|exact Nx N12 rfl rfl rfl rfl rfl|exact Ok.st1 rfl rfl (congrArg (Option.map (dobj 1)) hrw) (by rw[hrl];exact hlt3) (by rw[hcell];rfl) rfl rfl IR_set|exact Ok.pe))|((first|apply Ca|(apply Cb;(· exact nxE)));(· first|exact Nx N11 rfl rfl rfl rfl rfl|exact Nx N12 rfl rfl rfl rfl rfl|exact Ok.st1 rfl rfl (congrArg (Option.map (dobj 1)) hrw) (by rw[hrl];exact hlt3) (by rw[hcell];rfl) rfl rfl IR_set|exact Ok.e0))|refine Sx ?_|(refine Sy (fun h=>?_) (fun h=>?_)<;>try (exfalso;omega;done))|refine Sz (fun h=>?_) (fun h=>?_))
     refine ⟨⟨e+1,by omega⟩,?_,by simp only;omega⟩
     simp only[hstC]
     (apply Le.headG [_] [mi1 ⟨1,[]⟩ (TR (tabF m n (fun x y=>if x=w∧y=e then b - 10 else G x y)))] (fun _=>False))
     (case' hlen=>rfl)
     (case' hms=>rfl)
     all_goals (try dsimp only[srcs])
     (case' hfr|hob=>(repeat' (first|refine La ?_ ?_|exact Lc|refine Lo ?_|refine ⟨⟨_,rfl,?_⟩,?_⟩|refine Lx ?_)))
     (case' hok=>first|exact ⟨MI.ok_row (tabF_set (fun a b _ _=>rfl)) hrw (by simp) rfl (fun u x hx=>congrArg (Option.map (dobj 1)) hx),trivial⟩|exact trivial)
     (case' hN=>rfl)
     (case' hS=>rfl)
     all_goals (first|exact Ld|(rfl))
    ·rw[if_neg ha] at hstC
     repeat' (first|((first|apply Ba|(apply Bb;(· rfl);(· rfl))|(apply Bc;(· exact nxE))|(apply Bd;(· rfl);(· rfl);(· exact nxE)));(· first|exact Nx N11 rfl rfl rfl rfl rfl|exact Nx N12 rfl rfl rfl rfl rfl|exact Ok.pe))|((first|apply Ca|(apply Cb;(· exact nxE)));(· first|exact Nx N11 rfl rfl rfl rfl rfl|exact Nx N12 rfl rfl rfl rfl rfl|exact Ok.e0))|refine Sx ?_|(refine Sy (fun h=>?_) (fun h=>?_)<;>try (exfalso;omega;done))|refine Sz (fun h=>?_) (fun h=>?_))
     refine ⟨⟨e+1,by omega⟩,?_,by simp only;omega⟩
     simp only[hstC]
     (apply Le.headG [_] [mi1 ⟨1,[]⟩ (TR (tabF m n G))] (fun _=>False))
     (case' hlen=>rfl)
     (case' hms=>rfl)
     all_goals (try dsimp only[srcs])
     (case' hfr|hob=>(repeat' (first|refine La ?_ ?_|exact Lc|refine Lo ?_|refine ⟨⟨_,rfl,?_⟩,?_⟩|refine Lx ?_)))
     (case' hok=>first|exact ⟨MI.ok_same rfl (fun u x hx=>congrArg (Option.map (dobj 1)) hx),trivial⟩|exact trivial)
     (case' hN=>rfl)
     (case' hS=>rfl)
     all_goals (first|exact Ld|(rfl))
   ·obtain rfl:e=n:=by omega
    rw[← hstA]
    repeat' (first|((first|apply Ba|(apply Bb;(· rfl);(· rfl))|(apply Bc;(· exact nxE))|(apply Bd;(· rfl);(· rfl);(· exact nxE)));(· first|exact Ok.pe))|((first|apply Ca|(apply Cb;(· exact nxE)));(· first|exact Ok.e0))|refine Sx ?_|(refine Sy (fun h=>?_) (fun h=>?_)<;>try (exfalso;omega;done))|refine Sz (fun h=>?_) (fun h=>?_))
    refine ⟨⟨w+1,by omega⟩,?_,by simp only;omega⟩
    (apply Le.headG [_] [mi1 ⟨1,[]⟩ (TR (tabF m e (mzA code many e (s1,fun _ _=>BOT) (w+1)).2))] (fun _=>False))
    (case' hlen=>rfl)
    (case' hms=>rfl)
    all_goals (try dsimp only[srcs])
    (case' hfr|hob=>(repeat' (first|refine La ?_ ?_|exact Lc|refine Lo ?_|refine ⟨⟨_,rfl,?_⟩,?_⟩|refine Lx ?_)))
    (case' hok=>first|exact ⟨MI.ok_same rfl (fun u x hx=>congrArg (Option.map (dobj 1)) hx),trivial⟩|exact trivial)
    (case' hN=>rfl)
    (case' hS=>rfl)
    all_goals (first|exact Ld|(rfl))
  obtain rfl:w=m:=by omega
  rw[hqA]
  simp only
  repeat' (first|((first|apply Ba|(apply Bb;(· rfl);(· rfl))|(apply Bc;(· exact nxE))|(apply Bd;(· rfl);(· rfl);(· exact nxE)));(· first|exact Nx N3 rfl rfl rfl rfl rfl|exact Ok.appendT rfl rfl (by decide) rfl rfl rfl (by simp[outer_len,tabF_len];done) rfl rfl (by rfl) (by omega) (by omega) rfl|exact Ok.pe))|((first|apply Ca|(apply Cb;(· exact nxE)));(· first|exact Nx N3 rfl rfl rfl rfl rfl|exact Ok.appendT rfl rfl (by decide) rfl rfl rfl (by simp[outer_len,tabF_len];done) rfl rfl (by rfl) (by omega) (by omega) rfl|exact Ok.e0))|refine Sx ?_|(refine Sy (fun h=>?_) (fun h=>?_)<;>try (exfalso;omega;done))|refine Sz (fun h=>?_) (fun h=>?_))
  refine Ya ?_
  (apply Le.headZ (hs:=[(⟨0,[]⟩,⟨0,[]⟩,_)]) [⟨0,[]⟩] rfl)
  all_goals (try dsimp only[srcs])
  (case' hfr|hob=>(repeat' (first|refine La ?_ ?_|refine ARs.agg ?_|refine ARs.tup ?_|(exact AR.tabG (m:={ l:=⟨1,[]⟩,k:=1,R:=TR (tabF w n F++[[]]),src:=⟨912,[]⟩,base:=⟨1,[]⟩,cut:=w,ext:=some ⟨910,[]⟩ }) (MI.ok_app (r:=[]) (by simp) htF rfl rfl (Cg) rfl) rfl (by simp[tabF_len]) (by dsimp only;decide) (by intro j _;simp only[MI.row];split<;>simp[Loc.at]))|refine La ?_ ?_|exact Lc|refine Lo ?_|refine ⟨⟨_,rfl,?_⟩,?_⟩|refine Lx ?_)))
  all_goals (first|exact Ld|exact trivial|(exact AR.tabG (m:={ l:=⟨1,[]⟩,k:=1,R:=TR (tabF w n F++[[]]),src:=⟨912,[]⟩,base:=⟨1,[]⟩,cut:=w,ext:=some ⟨910,[]⟩ }) (MI.ok_app (r:=[]) (by simp) htF rfl rfl (Cg) rfl) rfl (by simp[tabF_len]) (by dsimp only;decide) (by intro j _;simp only[MI.row];split<;>simp[Loc.at])))
 by_cases c2:y=2
 ·refine ⟨[],s3,⟨by simp,fun r hr=>by simp at hr⟩,by simp,h3,.inr ⟨rfl,?_⟩⟩
  show AC _ _ _ (heapL [(⟨0,[]⟩,⟨0,[]⟩,srcO code s)]) _ _
  refine AC.of_body 1 Tryz.func175 rfl (fun l h=>by simp[heapL,upd] at h;simp[h]) (fun C hC=>?_)
  simp only[startFr,Tryz.ntmps175,List.length_cons,List.length_nil,Nat.reduceAdd,Nat.reduceSub,List.replicate_succ,List.replicate_zero,List.cons_append,List.nil_append]
  have hD:∀ l,C.D0 l→l=⟨0,[]⟩:=fun l h=>by have:=(hC l).1 h;simp[heapL,upd] at this;exact this
  repeat' (first|((first|apply Ba|(apply Bb;(· rfl);(· rfl))|(apply Bc;(· exact nxE))|(apply Bd;(· rfl);(· rfl);(· exact nxE)));(· first|exact Tb rfl rfl (hB) (Sd (Sd Sn))|exact Kx K1 rfl rfl rfl rfl rfl rfl (by decide)|exact Ok.bs3 rfl rfl rfl rfl rfl|exact Ok.pe))|((first|apply Ca|(apply Cb;(· exact nxE)));(· first|exact Tb rfl rfl (hB) (Sd (Sd Sn))|exact Kx K1 rfl rfl rfl rfl rfl rfl (by decide)|exact Ok.bs3 rfl rfl rfl rfl rfl|exact Ok.e0))|refine Sx ?_|(refine Sy (fun h=>?_) (fun h=>?_)<;>try (exfalso;omega;done))|refine Sz (fun h=>?_) (fun h=>?_))
  refine AW.loop (X:={k:Nat // k≤m}) (fun k=>⟨[Bx 3 0,I m,I n,Oo,Oo,Oo,Oo,.own 1 ⟨1,[]⟩ 0 m,I many,I (k.1:Nat),Oo,Oo,Oo,Oo,Oo,Oo,Oo,Oo,Oo,Oo,Oo,Oo,Oo,Oo,Oo,Oo,Oo,Oo,Oo,Oo,Oo,Oo,Oo,Oo,Oo,Oo,Oo,Oo,Oo,Oo,Oo,Oo,Oo,Oo,Oo,Oo,Oo,Oo,Oo,Oo,Oo,Oo,Oo,Oo,Oo,Oo,Oo,Oo,Oo],heapX [(⟨0,[]⟩,⟨0,[]⟩,srcO code (mzA code many n (s1,fun _ _=>BOT) k.1).1)] [mi1 ⟨1,[]⟩ (TR (tabF m n (mzA code many n (s1,fun _ _=>BOT) k.1).2))],900⟩) (fun k=>m - k.1) ⟨0,Nat.zero_le _⟩ ?_ (fun k=>?_)
  ·
   (apply Le.headG [_] [{ l:=⟨1,[]⟩,k:=1,R:=TR (tabF m n (fun _ _=>BOT)),src:=⟨4,[0]⟩,base:=⟨4,[0]⟩ }] (fun _=>False))
   (case' hlen=>rfl)
   (case' hms=>rfl)
   all_goals (try dsimp only[srcs])
   (case' hfr|hob=>(repeat' (first|refine La ?_ ?_|exact Lc|refine Lo ?_|refine ⟨⟨_,rfl,?_⟩,?_⟩|refine Lx ?_)))
   (case' hok=>first|exact ⟨MI.ok_same rfl (fun u x hx=>congrArg (Option.map (dobj 1)) hx),trivial⟩|exact trivial)
   (case' hN=>rfl)
   (case' hS=>rfl)
   all_goals (first|exact Ld|(rfl))
  obtain ⟨w,hw⟩:=k
  simp only
  by_cases hlt2:w<m
  ·have hI:=mzA_ok hc (many:=many) (n:=n) (q:=(s1,fun _ _=>BOT)) h1 w
   have hstA:mzA code many n (s1,fun _ _=>BOT) (w+1)=mzR code many w (mzA code many n (s1,fun _ _=>BOT) w) n:=rfl
   generalize mzA code many n (s1,fun _ _=>BOT) w=q at hI hstA ⊢
   repeat' (first|((first|apply Ba|(apply Bb;(· rfl);(· rfl))|(apply Bc;(· exact nxE))|(apply Bd;(· rfl);(· rfl);(· exact nxE)));(· first|exact Ok.pe))|((first|apply Ca|(apply Cb;(· exact nxE)));(· first|exact Ok.e0))|refine Sx ?_|(refine Sy (fun h=>?_) (fun h=>?_)<;>try (exfalso;omega;done))|refine Sz (fun h=>?_) (fun h=>?_))
   refine AW.loop (X:={k:Nat // k≤n}) (fun k=>⟨[Bx 3 0,I m,I n,Oo,Oo,Oo,Oo,.own 1 ⟨1,[]⟩ 0 m,I many,I w,I (k.1:Nat),Oo,Oo,Oo,Oo,Oo,Oo,Oo,Oo,Oo,Oo,Oo,Oo,Oo,Oo,Oo,Oo,Oo,Oo,Oo,Oo,Oo,Oo,Oo,Oo,Oo,Oo,Oo,Oo,Oo,Oo,Oo,Oo,Oo,Oo,Oo,Oo,Oo,Oo,Oo,Oo,Oo,Oo,Oo,Oo,Oo,Oo,Oo,Oo],heapX [(⟨0,[]⟩,⟨0,[]⟩,srcO code (mzR code many w q k.1).1)] [mi1 ⟨1,[]⟩ (TR (tabF m n (mzR code many w q k.1).2))],900⟩) (fun k=>n - k.1) ⟨0,Nat.zero_le _⟩ ?_ (fun k=>?_)
   ·
    (apply Le.headG [_] [mi1 ⟨1,[]⟩ (TR (tabF m n q.2))] (fun _=>False))
    (case' hlen=>rfl)
    (case' hms=>rfl)
    all_goals (try dsimp only[srcs])
    (case' hfr|hob=>(repeat' (first|refine La ?_ ?_|exact Lc|refine Lo ?_|refine ⟨⟨_,rfl,?_⟩,?_⟩|refine Lx ?_)))
    (case' hok=>first|exact ⟨MI.ok_same rfl (fun u x hx=>congrArg (Option.map (dobj 1)) hx),trivial⟩|exact trivial)
    (case' hN=>rfl)
    (case' hS=>rfl)
    all_goals (first|exact Ld|(rfl))
   obtain ⟨e,he⟩:=k
   simp only
   have hJ:=mzR_ok hc (many:=many) (i:=w) hI e
   by_cases hlt3:e<n
   ·have hstR:mzR code many w q (e+1)=mzC code many w e (mzR code many w q e):=rfl
    generalize mzR code many w q e=r at hJ hstR ⊢
    obtain ⟨s10,G⟩:=r
    simp only at hJ ⊢
    obtain ⟨a,s11,a1,a2,h11,q11,N11⟩:=next_ex hc hJ many
    obtain ⟨b,s12,b1,b2,h12,q12,N12⟩:=next_ex hc h11 26
    have hstC:=hstR.trans (show mzC code many w e (s10,G)=if 0<a then (s12,fun x y=>if x=w∧y=e then b - 10 else G x y) else (s11,G) by unfold mzC;simp only[q11,q12])
    have hrw:=TRF_get (n:=n) (f:=G) hlt2
    have hrl:(IR (rowF n (G w))).length=n:=by rw[IR_len,rowF_len]
    have hcell:(IR (rowF n (G w)))[e]? = some [DI (G w e)]:=IRF_get hlt3
    have htF:(TR (tabF m n G)).length=m:=by rw[TR_len,tabF_len]
    by_cases ha:0<a
    ·rw[if_pos ha] at hstC
     repeat' (first|((first|apply Ba|(apply Bb;(· rfl);(· rfl))|(apply Bc;(· exact nxE))|(apply Bd;(· rfl);(· rfl);(· exact nxE)));(· first|exact Ok.ldTn rfl rfl rfl hrw hrl|exact Nx N11 rfl rfl rfl rfl rfl|exact Nx N12 rfl rfl rfl rfl rfl|exact Ok.st1 rfl rfl (congrArg (Option.map (dobj 1)) hrw) (by rw[hrl];exact hlt3) (by rw[hcell];rfl) rfl rfl IR_set|exact Ok.pe))|((first|apply Ca|(apply Cb;(· exact nxE)));(· first|exact Nx N11 rfl rfl rfl rfl rfl|exact Nx N12 rfl rfl rfl rfl rfl|exact Ok.st1 rfl rfl (congrArg (Option.map (dobj 1)) hrw) (by rw[hrl];exact hlt3) (by rw[hcell];rfl) rfl rfl IR_set|exact Ok.e0))|refine Sx ?_|(refine Sy (fun h=>?_) (fun h=>?_)<;>try (exfalso;omega;done))|refine Sz (fun h=>?_) (fun h=>?_))
     refine ⟨⟨e+1,by omega⟩,?_,by simp only;omega⟩
     simp only[hstC]
     (apply Le.headG [_] [mi1 ⟨1,[]⟩ (TR (tabF m n (fun x y=>if x=w∧y=e then b - 10 else G x y)))] (fun _=>False))
     (case' hlen=>rfl)
     (case' hms=>rfl)
     all_goals (try dsimp only[srcs])
     (case' hfr|hob=>(repeat' (first|refine La ?_ ?_|exact Lc|refine Lo ?_|refine ⟨⟨_,rfl,?_⟩,?_⟩|refine Lx ?_)))
     (case' hok=>first|exact ⟨MI.ok_row (tabF_set (fun a b _ _=>rfl)) hrw (by simp) rfl (fun u x hx=>congrArg (Option.map (dobj 1)) hx),trivial⟩|exact trivial)
     (case' hN=>rfl)
     (case' hS=>rfl)
     all_goals (first|exact Ld|(rfl))
    ·rw[if_neg ha] at hstC
     repeat' (first|((first|apply Ba|(apply Bb;(· rfl);(· rfl))|(apply Bc;(· exact nxE))|(apply Bd;(· rfl);(· rfl);(· exact nxE)));(· first|exact Nx N11 rfl rfl rfl rfl rfl|exact Nx N12 rfl rfl rfl rfl rfl|exact Ok.pe))|((first|apply Ca|(apply Cb;(· exact nxE)));(· first|exact Nx N11 rfl rfl rfl rfl rfl|exact Nx N12 rfl rfl rfl rfl rfl|exact Ok.e0))|refine Sx ?_|(refine Sy (fun h=>?_) (fun h=>?_)<;>try (exfalso;omega;done))|refine Sz (fun h=>?_) (fun h=>?_))
     refine ⟨⟨e+1,by omega⟩,?_,by simp only;omega⟩
     simp only[hstC]
     (apply Le.headG [_] [mi1 ⟨1,[]⟩ (TR (tabF m n G))] (fun _=>False))
     (case' hlen=>rfl)
     (case' hms=>rfl)
     all_goals (try dsimp only[srcs])
     (case' hfr|hob=>(repeat' (first|refine La ?_ ?_|exact Lc|refine Lo ?_|refine ⟨⟨_,rfl,?_⟩,?_⟩|refine Lx ?_)))
     (case' hok=>first|exact ⟨MI.ok_same rfl (fun u x hx=>congrArg (Option.map (dobj 1)) hx),trivial⟩|exact trivial)
     (case' hN=>rfl)
     (case' hS=>rfl)
     all_goals (first|exact Ld|(rfl))
   ·obtain rfl:e=n:=by omega
    rw[← hstA]
    repeat' (first|((first|apply Ba|(apply Bb;(· rfl);(· rfl))|(apply Bc;(· exact nxE))|(apply Bd;(· rfl);(· rfl);(· exact nxE)));(· first|exact Ok.pe))|((first|apply Ca|(apply Cb;(· exact nxE)));(· first|exact Ok.e0))|refine Sx ?_|(refine Sy (fun h=>?_) (fun h=>?_)<;>try (exfalso;omega;done))|refine Sz (fun h=>?_) (fun h=>?_))
    refine ⟨⟨w+1,by omega⟩,?_,by simp only;omega⟩
    (apply Le.headG [_] [mi1 ⟨1,[]⟩ (TR (tabF m e (mzA code many e (s1,fun _ _=>BOT) (w+1)).2))] (fun _=>False))
    (case' hlen=>rfl)
    (case' hms=>rfl)
    all_goals (try dsimp only[srcs])
    (case' hfr|hob=>(repeat' (first|refine La ?_ ?_|exact Lc|refine Lo ?_|refine ⟨⟨_,rfl,?_⟩,?_⟩|refine Lx ?_)))
    (case' hok=>first|exact ⟨MI.ok_same rfl (fun u x hx=>congrArg (Option.map (dobj 1)) hx),trivial⟩|exact trivial)
    (case' hN=>rfl)
    (case' hS=>rfl)
    all_goals (first|exact Ld|(rfl))
  obtain rfl:w=m:=by omega
  rw[hqA]
  simp only
  repeat' (first|((first|apply Ba|(apply Bb;(· rfl);(· rfl))|(apply Bc;(· exact nxE))|(apply Bd;(· rfl);(· rfl);(· exact nxE)));(· first|exact Nx N3 rfl rfl rfl rfl rfl|exact Ok.pe))|((first|apply Ca|(apply Cb;(· exact nxE)));(· first|exact Nx N3 rfl rfl rfl rfl rfl|exact Ok.e0))|refine Sx ?_|(refine Sy (fun h=>?_) (fun h=>?_)<;>try (exfalso;omega;done))|refine Sz (fun h=>?_) (fun h=>?_))
  refine Ya ?_
  (apply Le.headZ (hs:=[(⟨0,[]⟩,⟨0,[]⟩,_)]) [⟨0,[]⟩] rfl)
  all_goals (try dsimp only[srcs])
  (case' hfr|hob=>(repeat' (first|refine La ?_ ?_|exact Lc|refine Lo ?_|refine ⟨⟨_,rfl,?_⟩,?_⟩|refine Lx ?_)))
  all_goals (first|exact Ld|exact trivial|(rfl))
 ·refine ⟨tabF m n F,s3,tabF_ok (by omega) (by omega),by rw[tabF_len];omega,h3,.inl ⟨⟨_,rfl⟩,?_⟩⟩
  show AC _ _ _ (heapL [(⟨0,[]⟩,⟨0,[]⟩,srcO code s)]) _ _
  refine AC.of_body 1 Tryz.func175 rfl (fun l h=>by simp[heapL,upd] at h;simp[h]) (fun C hC=>?_)
  simp only[startFr,Tryz.ntmps175,List.length_cons,List.length_nil,Nat.reduceAdd,Nat.reduceSub,List.replicate_succ,List.replicate_zero,List.cons_append,List.nil_append]
  have hD:∀ l,C.D0 l→l=⟨0,[]⟩:=fun l h=>by have:=(hC l).1 h;simp[heapL,upd] at this;exact this
  repeat' (first|((first|apply Ba|(apply Bb;(· rfl);(· rfl))|(apply Bc;(· exact nxE))|(apply Bd;(· rfl);(· rfl);(· exact nxE)));(· first|exact Tb rfl rfl (hB) (Sd (Sd Sn))|exact Kx K1 rfl rfl rfl rfl rfl rfl (by decide)|exact Ok.bs3 rfl rfl rfl rfl rfl|exact Ok.pe))|((first|apply Ca|(apply Cb;(· exact nxE)));(· first|exact Tb rfl rfl (hB) (Sd (Sd Sn))|exact Kx K1 rfl rfl rfl rfl rfl rfl (by decide)|exact Ok.bs3 rfl rfl rfl rfl rfl|exact Ok.e0))|refine Sx ?_|(refine Sy (fun h=>?_) (fun h=>?_)<;>try (exfalso;omega;done))|refine Sz (fun h=>?_) (fun h=>?_))
  refine AW.loop (X:={k:Nat // k≤m}) (fun k=>⟨[Bx 3 0,I m,I n,Oo,Oo,Oo,Oo,.own 1 ⟨1,[]⟩ 0 m,I many,I (k.1:Nat),Oo,Oo,Oo,Oo,Oo,Oo,Oo,Oo,Oo,Oo,Oo,Oo,Oo,Oo,Oo,Oo,Oo,Oo,Oo,Oo,Oo,Oo,Oo,Oo,Oo,Oo,Oo,Oo,Oo,Oo,Oo,Oo,Oo,Oo,Oo,Oo,Oo,Oo,Oo,Oo,Oo,Oo,Oo,Oo,Oo,Oo,Oo,Oo,Oo],heapX [(⟨0,[]⟩,⟨0,[]⟩,srcO code (mzA code many n (s1,fun _ _=>BOT) k.1).1)] [mi1 ⟨1,[]⟩ (TR (tabF m n (mzA code many n (s1,fun _ _=>BOT) k.1).2))],900⟩) (fun k=>m - k.1) ⟨0,Nat.zero_le _⟩ ?_ (fun k=>?_)
  ·
   (apply Le.headG [_] [{ l:=⟨1,[]⟩,k:=1,R:=TR (tabF m n (fun _ _=>BOT)),src:=⟨4,[0]⟩,base:=⟨4,[0]⟩ }] (fun _=>False))
   (case' hlen=>rfl)
   (case' hms=>rfl)
   all_goals (try dsimp only[srcs])
   (case' hfr|hob=>(repeat' (first|refine La ?_ ?_|exact Lc|refine Lo ?_|refine ⟨⟨_,rfl,?_⟩,?_⟩|refine Lx ?_)))
   (case' hok=>first|exact ⟨MI.ok_same rfl (fun u x hx=>congrArg (Option.map (dobj 1)) hx),trivial⟩|exact trivial)
   (case' hN=>rfl)
   (case' hS=>rfl)
   all_goals (first|exact Ld|(rfl))
  obtain ⟨w,hw⟩:=k
  simp only
  by_cases hlt2:w<m
  ·have hI:=mzA_ok hc (many:=many) (n:=n) (q:=(s1,fun _ _=>BOT)) h1 w
   have hstA:mzA code many n (s1,fun _ _=>BOT) (w+1)=mzR code many w (mzA code many n (s1,fun _ _=>BOT) w) n:=rfl
   generalize mzA code many n (s1,fun _ _=>BOT) w=q at hI hstA ⊢
   repeat' (first|((first|apply Ba|(apply Bb;(· rfl);(· rfl))|(apply Bc;(· exact nxE))|(apply Bd;(· rfl);(· rfl);(· exact nxE)));(· first|exact Ok.pe))|((first|apply Ca|(apply Cb;(· exact nxE)));(· first|exact Ok.e0))|refine Sx ?_|(refine Sy (fun h=>?_) (fun h=>?_)<;>try (exfalso;omega;done))|refine Sz (fun h=>?_) (fun h=>?_))
   refine AW.loop (X:={k:Nat // k≤n}) (fun k=>⟨[Bx 3 0,I m,I n,Oo,Oo,Oo,Oo,.own 1 ⟨1,[]⟩ 0 m,I many,I w,I (k.1:Nat),Oo,Oo,Oo,Oo,Oo,Oo,Oo,Oo,Oo,Oo,Oo,Oo,Oo,Oo,Oo,Oo,Oo,Oo,Oo,Oo,Oo,Oo,Oo,Oo,Oo,Oo,Oo,Oo,Oo,Oo,Oo,Oo,Oo,Oo,Oo,Oo,Oo,Oo,Oo,Oo,Oo,Oo,Oo,Oo,Oo,Oo,Oo,Oo],heapX [(⟨0,[]⟩,⟨0,[]⟩,srcO code (mzR code many w q k.1).1)] [mi1 ⟨1,[]⟩ (TR (tabF m n (mzR code many w q k.1).2))],900⟩) (fun k=>n - k.1) ⟨0,Nat.zero_le _⟩ ?_ (fun k=>?_)
   ·
    (apply Le.headG [_] [mi1 ⟨1,[]⟩ (TR (tabF m n q.2))] (fun _=>False))
    (case' hlen=>rfl)
    (case' hms=>rfl)
    all_goals (try dsimp only[srcs])
    (case' hfr|hob=>(repeat' (first|refine La ?_ ?_|exact Lc|refine Lo ?_|refine ⟨⟨_,rfl,?_⟩,?_⟩|refine Lx ?_)))
    (case' hok=>first|exact ⟨MI.ok_same rfl (fun u x hx=>congrArg (Option.map (dobj 1)) hx),trivial⟩|exact trivial)
    (case' hN=>rfl)
    (case' hS=>rfl)
    all_goals (first|exact Ld|(rfl))
   obtain ⟨e,he⟩:=k
   simp only
   have hJ:=mzR_ok hc (many:=many) (i:=w) hI e
   by_cases hlt3:e<n
   ·have hstR:mzR code many w q (e+1)=mzC code many w e (mzR code many w q e):=rfl
    generalize mzR code many w q e=r at hJ hstR ⊢
    obtain ⟨s10,G⟩:=r
    simp only at hJ ⊢
    obtain ⟨a,s11,a1,a2,h11,q11,N11⟩:=next_ex hc hJ many
    obtain ⟨b,s12,b1,b2,h12,q12,N12⟩:=next_ex hc h11 26
    have hstC:=hstR.trans (show mzC code many w e (s10,G)=if 0<a then (s12,fun x y=>if x=w∧y=e then b - 10 else G x y) else (s11,G) by unfold mzC;simp only[q11,q12])
    have hrw:=TRF_get (n:=n) (f:=G) hlt2
    have hrl:(IR (rowF n (G w))).length=n:=by rw[IR_len,rowF_len]
    have hcell:(IR (rowF n (G w)))[e]? = some [DI (G w e)]:=IRF_get hlt3
    have htF:(TR (tabF m n G)).length=m:=by rw[TR_len,tabF_len]
    by_cases ha:0<a
    ·rw[if_pos ha] at hstC
     repeat' (first|((first|apply Ba|(apply Bb;(· rfl);(· rfl))|(apply Bc;(· exact nxE))|(apply Bd;(· rfl);(· rfl);(· exact nxE)));(· first|exact Ok.ldTn rfl rfl rfl hrw hrl|exact Nx N11 rfl rfl rfl rfl rfl|exact Nx N12 rfl rfl rfl rfl rfl|exact Ok.st1 rfl rfl (congrArg (Option.map (dobj 1)) hrw) (by rw[hrl];exact hlt3) (by rw[hcell];rfl) rfl rfl IR_set|exact Ok.pe))|((first|apply Ca|(apply Cb;(· exact nxE)));(· first|exact Nx N11 rfl rfl rfl rfl rfl|exact Nx N12 rfl rfl rfl rfl rfl|exact Ok.st1 rfl rfl (congrArg (Option.map (dobj 1)) hrw) (by rw[hrl];exact hlt3) (by rw[hcell];rfl) rfl rfl IR_set|exact Ok.e0))|refine Sx ?_|(refine Sy (fun h=>?_) (fun h=>?_)<;>try (exfalso;omega;done))|refine Sz (fun h=>?_) (fun h=>?_))
     refine ⟨⟨e+1,by omega⟩,?_,by simp only;omega⟩
     simp only[hstC]
     (apply Le.headG [_] [mi1 ⟨1,[]⟩ (TR (tabF m n (fun x y=>if x=w∧y=e then b - 10 else G x y)))] (fun _=>False))
     (case' hlen=>rfl)
     (case' hms=>rfl)
     all_goals (try dsimp only[srcs])
     (case' hfr|hob=>(repeat' (first|refine La ?_ ?_|exact Lc|refine Lo ?_|refine ⟨⟨_,rfl,?_⟩,?_⟩|refine Lx ?_)))
     (case' hok=>first|exact ⟨MI.ok_row (tabF_set (fun a b _ _=>rfl)) hrw (by simp) rfl (fun u x hx=>congrArg (Option.map (dobj 1)) hx),trivial⟩|exact trivial)
     (case' hN=>rfl)
     (case' hS=>rfl)
     all_goals (first|exact Ld|(rfl))
    ·rw[if_neg ha] at hstC
     repeat' (first|((first|apply Ba|(apply Bb;(· rfl);(· rfl))|(apply Bc;(· exact nxE))|(apply Bd;(· rfl);(· rfl);(· exact nxE)));(· first|exact Nx N11 rfl rfl rfl rfl rfl|exact Nx N12 rfl rfl rfl rfl rfl|exact Ok.pe))|((first|apply Ca|(apply Cb;(· exact nxE)));(· first|exact Nx N11 rfl rfl rfl rfl rfl|exact Nx N12 rfl rfl rfl rfl rfl|exact Ok.e0))|refine Sx ?_|(refine Sy (fun h=>?_) (fun h=>?_)<;>try (exfalso;omega;done))|refine Sz (fun h=>?_) (fun h=>?_))
     refine ⟨⟨e+1,by omega⟩,?_,by simp only;omega⟩
     simp only[hstC]
     (apply Le.headG [_] [mi1 ⟨1,[]⟩ (TR (tabF m n G))] (fun _=>False))
     (case' hlen=>rfl)
     (case' hms=>rfl)
     all_goals (try dsimp only[srcs])
     (case' hfr|hob=>(repeat' (first|refine La ?_ ?_|exact Lc|refine Lo ?_|refine ⟨⟨_,rfl,?_⟩,?_⟩|refine Lx ?_)))
     (case' hok=>first|exact ⟨MI.ok_same rfl (fun u x hx=>congrArg (Option.map (dobj 1)) hx),trivial⟩|exact trivial)
     (case' hN=>rfl)
     (case' hS=>rfl)
     all_goals (first|exact Ld|(rfl))
   ·obtain rfl:e=n:=by omega
    rw[← hstA]
    repeat' (first|((first|apply Ba|(apply Bb;(· rfl);(· rfl))|(apply Bc;(· exact nxE))|(apply Bd;(· rfl);(· rfl);(· exact nxE)));(· first|exact Ok.pe))|((first|apply Ca|(apply Cb;(· exact nxE)));(· first|exact Ok.e0))|refine Sx ?_|(refine Sy (fun h=>?_) (fun h=>?_)<;>try (exfalso;omega;done))|refine Sz (fun h=>?_) (fun h=>?_))
    refine ⟨⟨w+1,by omega⟩,?_,by simp only;omega⟩
    (apply Le.headG [_] [mi1 ⟨1,[]⟩ (TR (tabF m e (mzA code many e (s1,fun _ _=>BOT) (w+1)).2))] (fun _=>False))
    (case' hlen=>rfl)
    (case' hms=>rfl)
    all_goals (try dsimp only[srcs])
    (case' hfr|hob=>(repeat' (first|refine La ?_ ?_|exact Lc|refine Lo ?_|refine ⟨⟨_,rfl,?_⟩,?_⟩|refine Lx ?_)))
    (case' hok=>first|exact ⟨MI.ok_same rfl (fun u x hx=>congrArg (Option.map (dobj 1)) hx),trivial⟩|exact trivial)
    (case' hN=>rfl)
    (case' hS=>rfl)
    all_goals (first|exact Ld|(rfl))
  obtain rfl:w=m:=by omega
  rw[hqA]
  simp only
  repeat' (first|((first|apply Ba|(apply Bb;(· rfl);(· rfl))|(apply Bc;(· exact nxE))|(apply Bd;(· rfl);(· rfl);(· exact nxE)));(· first|exact Nx N3 rfl rfl rfl rfl rfl|exact Ok.pe))|((first|apply Ca|(apply Cb;(· exact nxE)));(· first|exact Nx N3 rfl rfl rfl rfl rfl|exact Ok.e0))|refine Sx ?_|(refine Sy (fun h=>?_) (fun h=>?_)<;>try (exfalso;omega;done))|refine Sz (fun h=>?_) (fun h=>?_))
  refine Ya ?_
  (apply Le.headG [⟨0,[]⟩] [{ l:=⟨1,[]⟩,k:=1,R:=TR (tabF w n F),src:=⟨1,[]⟩,base:=⟨1,[]⟩ }] (fun _=>False))
  (case' hlen=>rfl)
  (case' hms=>rfl)
  all_goals (try dsimp only[srcs])
  (case' hfr|hob=>(repeat' (first|refine La ?_ ?_|exact Lc|refine Lo ?_|refine ⟨⟨_,rfl,?_⟩,?_⟩|refine Lx ?_)))
  (case' hok=>first|exact ⟨MI.ok_same rfl (Cg),trivial⟩|exact trivial)
  (case' hN=>rfl)
  (case' hS=>rfl)
  all_goals (first|exact Ld|(rfl))
theorem l04Draw_own [Mode] (code:List Int) (hc:CodeOk code) (s:Src) (hs:SrcOk code s):∃ (T:List (List Int)) (s':Src),TabOk T∧T.length≤6∧SrcOk code s'∧((∃ n g,(1≤n∧n≤6)∧T=tabF n n g∧AC Tryz.prog 113 [Bx 3 0] (srcH code s) (.own 1 ⟨1,[]⟩ 0 n) (ownTH code s' (TR T)))∨(isSq T=false∧AC Tryz.prog 113 [Bx 3 0] (srcH code s) (TL T) (srcH code s'))):=by
 obtain ⟨a,s1,a1,a2,h1,q1,N1⟩:=next_ex hc hs 5
 obtain ⟨n,rfl⟩:∃ n:Nat,a=n:=⟨a.toNat,by omega⟩
 obtain ⟨T,s2,hT,hT6,h2,D2⟩:=l02DrawSize_own code hc s1 h1 (1+n) (1+n) (by omega) (by omega)
 rw[show ((1+n:Nat):Int)=1+(n:Int) by omega] at D2
 obtain ⟨b,s3,b1,b2,h3,q3,N3⟩:=next_ex hc h2 30
 have hQd:(isSq T=false∧AC Tryz.prog 175 [Bx 3 0,I (1+(n:Int)),I (1+(n:Int))] (srcH code s1) (TL T) (srcH code s2))→AC Tryz.prog 150 [Bx 3 0] (srcH code s) (TL T) (srcH code s2):=fun ⟨_,D2⟩=>by
  show AC _ _ _ (heapL [(⟨0,[]⟩,⟨0,[]⟩,srcO code s)]) _ _
  refine AC.of_body 1 Tryz.func150 rfl (fun l h=>by simp[heapL,upd] at h;simp[h]) (fun C hC=>?_)
  simp only[startFr,Tryz.ntmps150,List.length_cons,List.length_nil,Nat.reduceAdd,Nat.reduceSub,List.replicate_succ,List.replicate_zero,List.cons_append,List.nil_append]
  have hD:∀ l,C.D0 l→l=⟨0,[]⟩:=fun l h=>by have:=(hC l).1 h;simp[heapL,upd] at this;exact this
  repeat' (first|((first|apply Ba|(apply Bb;(· rfl);(· rfl))|(apply Bc;(· exact nxE))|(apply Bd;(· rfl);(· rfl);(· exact nxE)));(· first|exact Nx N1 rfl rfl rfl rfl rfl|exact Zx (args:=[I (1+(n:Int)),I (1+(n:Int))]) D2 rfl rfl rfl rfl (.cons (.dd _) (.cons (.dd _) .nil)) (fun _=>by simp[rn])|exact Ok.pe))|((first|apply Ca|(apply Cb;(· exact nxE)));(· first|exact Nx N1 rfl rfl rfl rfl rfl|exact Zx (args:=[I (1+(n:Int)),I (1+(n:Int))]) D2 rfl rfl rfl rfl (.cons (.dd _) (.cons (.dd _) .nil)) (fun _=>by simp[rn])|exact Ok.e0))|refine Sx ?_|(refine Sy (fun h=>?_) (fun h=>?_)<;>try (exfalso;omega;done))|refine Sz (fun h=>?_) (fun h=>?_))
  refine Ya ?_
  (apply Le.headZ (hs:=[(⟨0,[]⟩,⟨0,[]⟩,_)]) [⟨0,[]⟩] rfl)
  all_goals (try dsimp only[srcs])
  (case' hfr|hob=>(repeat' (first|refine La ?_ ?_|exact Lc|refine Lo ?_|refine ⟨⟨_,rfl,?_⟩,?_⟩|refine Lx ?_)))
  all_goals (first|exact Ld|exact trivial|(rfl))
 have hQo:AC Tryz.prog 175 [Bx 3 0,I (1+(n:Int)),I (1+(n:Int))] (srcH code s1) (.own 1 ⟨1,[]⟩ 0 (1+n)) (ownTH code s2 (TR T))→AC Tryz.prog 150 [Bx 3 0] (srcH code s) (.own 1 ⟨1,[]⟩ 0 (1+n)) (ownTH code s2 (TR T)):=fun D2=>by
  show AC _ _ _ (heapL [(⟨0,[]⟩,⟨0,[]⟩,srcO code s)]) _ _
  refine AC.of_body 1 Tryz.func150 rfl (fun l h=>by simp[heapL,upd] at h;simp[h]) (fun C hC=>?_)
  simp only[startFr,Tryz.ntmps150,List.length_cons,List.length_nil,Nat.reduceAdd,Nat.reduceSub,List.replicate_succ,List.replicate_zero,List.cons_append,List.nil_append]
  have hD:∀ l,C.D0 l→l=⟨0,[]⟩:=fun l h=>by have:=(hC l).1 h;simp[heapL,upd] at this;exact this
  repeat' (first|((first|apply Ba|(apply Bb;(· rfl);(· rfl))|(apply Bc;(· exact nxE))|(apply Bd;(· rfl);(· rfl);(· exact nxE)));(· first|exact Nx N1 rfl rfl rfl rfl rfl|exact Gt (args:=[I (1+(n:Int)),I (1+(n:Int))]) D2 rfl rfl rfl rfl (.cons (.dd _) (.cons (.dd _) .nil))|exact Ok.pe))|((first|apply Ca|(apply Cb;(· exact nxE)));(· first|exact Nx N1 rfl rfl rfl rfl rfl|exact Gt (args:=[I (1+(n:Int)),I (1+(n:Int))]) D2 rfl rfl rfl rfl (.cons (.dd _) (.cons (.dd _) .nil))|exact Ok.e0))|refine Sx ?_|(refine Sy (fun h=>?_) (fun h=>?_)<;>try (exfalso;omega;done))|refine Sz (fun h=>?_) (fun h=>?_))
  refine Ya ?_
  (apply Le.headG [⟨0,[]⟩] [{ l:=⟨1,[]⟩,k:=1,R:=TR T,src:=⟨9,[1]⟩,base:=⟨9,[1]⟩ }] (fun _=>False))
  (case' hlen=>rfl)
  (case' hms=>rfl)
  all_goals (try dsimp only[srcs])
  (case' hfr|hob=>(repeat' (first|refine La ?_ ?_|exact Lc|refine Lo ?_|refine ⟨⟨_,rfl,?_⟩,?_⟩|refine Lx ?_)))
  (case' hok=>first|exact ⟨MI.ok_same rfl (Cg),trivial⟩|exact trivial)
  (case' hN=>rfl)
  (case' hS=>rfl)
  all_goals (first|exact Ld|(rfl))
 by_cases hb:b=0
 ·obtain ⟨x,s4,hx,h4,p4,q4,K4⟩:=pick_ex hc h3 [1000000,999983] 2 rfl
  obtain ⟨z,s5,hz,h5,p5,q5,K5⟩:=pick_ex hc h4 [1000000,-7] 2 rfl
  refine ⟨[[-1000000000000000,x],[z,-1000000000000000]],s5,⟨by simp,fun r hr=>by simp at hr;rcases hr with rfl|rfl<;>simp⟩,by simp,h5,.inl ⟨2,entN [[-1000000000000000,x],[z,-1000000000000000]],by decide,(sq_tab ⟨rfl,fun r hr=>by simp at hr;rcases hr with rfl|rfl<;>rfl⟩).symm,?_⟩⟩
  have e1:ownTH code s5 (TR [[-1000000000000000,x],[z,-1000000000000000]])=heapL [(⟨0,[]⟩,⟨0,[]⟩,srcO code s5),(⟨1,[]⟩,⟨16,[]⟩,⟨1,[[.own 1 ⟨1,[0]⟩ 0 2],[.own 1 ⟨1,[1]⟩ 0 2]]⟩),(⟨1,[0]⟩,⟨11,[]⟩,IO [-1000000000000000,x]),(⟨1,[1]⟩,⟨15,[]⟩,IO [z,-1000000000000000])]:=congrArg (fun h=>upd h ⟨0,[]⟩ (some (srcO code s5))) (heap_two (l:=⟨1,[]⟩) (r0:=IR [-1000000000000000,x]) (r1:=IR [z,-1000000000000000]))
  rw[e1]
  show AC _ _ _ (heapL [(⟨0,[]⟩,⟨0,[]⟩,srcO code s)]) _ _
  rcases D2 with ⟨_,D2⟩|D2
  ·have hQ:=hQo D2
   refine AC.of_body 1 Tryz.func113 rfl (fun l h=>by simp[heapL,upd] at h;simp[h]) (fun C hC=>?_)
   simp only[startFr,Tryz.ntmps113,List.length_cons,List.length_nil,Nat.reduceAdd,Nat.reduceSub,List.replicate_succ,List.replicate_zero,List.cons_append,List.nil_append]
   have hD:∀ l,C.D0 l→l=⟨0,[]⟩:=fun l h=>by have:=(hC l).1 h;simp[heapL,upd] at this;exact this
   repeat' (first|((first|apply Ba|(apply Bb;(· rfl);(· rfl))|(apply Bc;(· exact nxE))|(apply Bd;(· rfl);(· rfl);(· exact nxE)));(· first|exact Gt (xs:=[]) (args:=[]) hQ rfl rfl rfl rfl .nil|exact Nx N3 rfl rfl rfl rfl rfl|exact Kx K4 rfl rfl rfl rfl rfl rfl (by decide)|exact Kx K5 rfl rfl rfl rfl rfl rfl (by decide)|exact Ok.bs2I rfl rfl rfl rfl|exact Ok.bs2 rfl (by conv=>lhs;whnf) (by conv=>lhs;whnf) (by rfl) (by rfl) (by rfl) (by rfl) (by rfl) (by rfl) (by decide)|exact Ok.pe))|((first|apply Ca|(apply Cb;(· exact nxE)));(· first|exact Gt (xs:=[]) (args:=[]) hQ rfl rfl rfl rfl .nil|exact Nx N3 rfl rfl rfl rfl rfl|exact Kx K4 rfl rfl rfl rfl rfl rfl (by decide)|exact Kx K5 rfl rfl rfl rfl rfl rfl (by decide)|exact Ok.bs2I rfl rfl rfl rfl|exact Ok.bs2 rfl (by conv=>lhs;whnf) (by conv=>lhs;whnf) (by rfl) (by rfl) (by rfl) (by rfl) (by rfl) (by rfl) (by decide)|exact Ok.e0))|refine Sx ?_|(refine Sy (fun h=>?_) (fun h=>?_)<;>try (exfalso;omega;done))|refine Sz (fun h=>?_) (fun h=>?_))
   refine Ya ?_
   (apply Le.head [(⟨0,[]⟩,⟨0,[]⟩,srcO code s5),(⟨1,[]⟩,⟨16,[]⟩,⟨1,[[.own 1 ⟨1,[0]⟩ 0 2],[.own 1 ⟨1,[1]⟩ 0 2]]⟩),(⟨1,[0]⟩,⟨11,[]⟩,IO [-1000000000000000,x]),(⟨1,[1]⟩,⟨15,[]⟩,IO [z,-1000000000000000])])
   (case' hfr|hob=>(repeat' (first|refine La ?_ ?_|exact Lc|refine Lo ?_|refine ⟨⟨_,rfl,?_⟩,?_⟩|refine Lx ?_)))
   all_goals (first|exact Ld|((first|rfl|exact ObA.two (.cons (AR.own 1 ⟨1,[0]⟩ 0 2 (by simp[heapL,upd])) .nil) (.cons (AR.own 1 ⟨1,[1]⟩ 0 2 (by simp[heapL,upd])) .nil))))
  ·have hQ:=hQd D2
   refine AC.of_body 1 Tryz.func113 rfl (fun l h=>by simp[heapL,upd] at h;simp[h]) (fun C hC=>?_)
   simp only[startFr,Tryz.ntmps113,List.length_cons,List.length_nil,Nat.reduceAdd,Nat.reduceSub,List.replicate_succ,List.replicate_zero,List.cons_append,List.nil_append]
   have hD:∀ l,C.D0 l→l=⟨0,[]⟩:=fun l h=>by have:=(hC l).1 h;simp[heapL,upd] at this;exact this
   repeat' (first|((first|apply Ba|(apply Bb;(· rfl);(· rfl))|(apply Bc;(· exact nxE))|(apply Bd;(· rfl);(· rfl);(· exact nxE)));(· first|exact Zx (args:=[]) hQ rfl rfl rfl rfl .nil (fun _=>by simp[rn])|exact Nx N3 rfl rfl rfl rfl rfl|exact Kx K4 rfl rfl rfl rfl rfl rfl (by decide)|exact Kx K5 rfl rfl rfl rfl rfl rfl (by decide)|exact Ok.bs2I rfl rfl rfl rfl|exact Ok.bs2 rfl (by conv=>lhs;whnf) (by conv=>lhs;whnf) (by rfl) (by rfl) (by rfl) (by rfl) (by rfl) (by rfl) (by decide)|exact Ok.pe))|((first|apply Ca|(apply Cb;(· exact nxE)));(· first|exact Zx (args:=[]) hQ rfl rfl rfl rfl .nil (fun _=>by simp[rn])|exact Nx N3 rfl rfl rfl rfl rfl|exact Kx K4 rfl rfl rfl rfl rfl rfl (by decide)|exact Kx K5 rfl rfl rfl rfl rfl rfl (by decide)|exact Ok.bs2I rfl rfl rfl rfl|exact Ok.bs2 rfl (by conv=>lhs;whnf) (by conv=>lhs;whnf) (by rfl) (by rfl) (by rfl) (by rfl) (by rfl) (by rfl) (by decide)|exact Ok.e0))|refine Sx ?_|(refine Sy (fun h=>?_) (fun h=>?_)<;>try (exfalso;omega;done))|refine Sz (fun h=>?_) (fun h=>?_))
   refine Ya ?_
   (apply Le.head [(⟨0,[]⟩,⟨0,[]⟩,srcO code s5),(⟨1,[]⟩,⟨16,[]⟩,⟨1,[[.own 1 ⟨1,[0]⟩ 0 2],[.own 1 ⟨1,[1]⟩ 0 2]]⟩),(⟨1,[0]⟩,⟨11,[]⟩,IO [-1000000000000000,x]),(⟨1,[1]⟩,⟨15,[]⟩,IO [z,-1000000000000000])])
   (case' hfr|hob=>(repeat' (first|refine La ?_ ?_|exact Lc|refine Lo ?_|refine ⟨⟨_,rfl,?_⟩,?_⟩|refine Lx ?_)))
   all_goals (first|exact Ld|((first|rfl|exact ObA.two (.cons (AR.own 1 ⟨1,[0]⟩ 0 2 (by simp[heapL,upd])) .nil) (.cons (AR.own 1 ⟨1,[1]⟩ 0 2 (by simp[heapL,upd])) .nil))))
 ·refine ⟨T,s3,hT,by omega,h3,?_⟩
  rcases D2 with ⟨⟨g,hg⟩,D2⟩|D2
  ·refine .inl ⟨1+n,g,by omega,hg,?_⟩
   have hQ:=hQo D2
   show AC _ _ _ (heapL [(⟨0,[]⟩,⟨0,[]⟩,srcO code s)]) _ _
   refine AC.of_body 1 Tryz.func113 rfl (fun l h=>by simp[heapL,upd] at h;simp[h]) (fun C hC=>?_)
   simp only[startFr,Tryz.ntmps113,List.length_cons,List.length_nil,Nat.reduceAdd,Nat.reduceSub,List.replicate_succ,List.replicate_zero,List.cons_append,List.nil_append]
   have hD:∀ l,C.D0 l→l=⟨0,[]⟩:=fun l h=>by have:=(hC l).1 h;simp[heapL,upd] at this;exact this
   repeat' (first|((first|apply Ba|(apply Bb;(· rfl);(· rfl))|(apply Bc;(· exact nxE))|(apply Bd;(· rfl);(· rfl);(· exact nxE)));(· first|exact Gt (xs:=[]) (args:=[]) hQ rfl rfl rfl rfl .nil|exact Nx N3 rfl rfl rfl rfl rfl|exact Ok.pe))|((first|apply Ca|(apply Cb;(· exact nxE)));(· first|exact Gt (xs:=[]) (args:=[]) hQ rfl rfl rfl rfl .nil|exact Nx N3 rfl rfl rfl rfl rfl|exact Ok.e0))|refine Sx ?_|(refine Sy (fun h=>?_) (fun h=>?_)<;>try (exfalso;omega;done))|refine Sz (fun h=>?_) (fun h=>?_))
   refine Ya ?_
   (apply Le.headG [⟨0,[]⟩] [{ l:=⟨1,[]⟩,k:=1,R:=TR T,src:=⟨3,[1]⟩,base:=⟨3,[1]⟩ }] (fun _=>False))
   (case' hlen=>rfl)
   (case' hms=>rfl)
   all_goals (try dsimp only[srcs])
   (case' hfr|hob=>(repeat' (first|refine La ?_ ?_|exact Lc|refine Lo ?_|refine ⟨⟨_,rfl,?_⟩,?_⟩|refine Lx ?_)))
   (case' hok=>first|exact ⟨MI.ok_same rfl (Cg),trivial⟩|exact trivial)
   (case' hN=>rfl)
   (case' hS=>rfl)
   all_goals (first|exact Ld|(rfl))
  ·refine .inr ⟨D2.1,?_⟩
   have hQ:=hQd D2
   show AC _ _ _ (heapL [(⟨0,[]⟩,⟨0,[]⟩,srcO code s)]) _ _
   refine AC.of_body 1 Tryz.func113 rfl (fun l h=>by simp[heapL,upd] at h;simp[h]) (fun C hC=>?_)
   simp only[startFr,Tryz.ntmps113,List.length_cons,List.length_nil,Nat.reduceAdd,Nat.reduceSub,List.replicate_succ,List.replicate_zero,List.cons_append,List.nil_append]
   have hD:∀ l,C.D0 l→l=⟨0,[]⟩:=fun l h=>by have:=(hC l).1 h;simp[heapL,upd] at this;exact this
   repeat' (first|((first|apply Ba|(apply Bb;(· rfl);(· rfl))|(apply Bc;(· exact nxE))|(apply Bd;(· rfl);(· rfl);(· exact nxE)));(· first|exact Zx (args:=[]) hQ rfl rfl rfl rfl .nil (fun _=>by simp[rn])|exact Nx N3 rfl rfl rfl rfl rfl|exact Ok.pe))|((first|apply Ca|(apply Cb;(· exact nxE)));(· first|exact Zx (args:=[]) hQ rfl rfl rfl rfl .nil (fun _=>by simp[rn])|exact Nx N3 rfl rfl rfl rfl rfl|exact Ok.e0))|refine Sx ?_|(refine Sy (fun h=>?_) (fun h=>?_)<;>try (exfalso;omega;done))|refine Sz (fun h=>?_) (fun h=>?_))
   refine Ya ?_
   (apply Le.headZ (hs:=[(⟨0,[]⟩,⟨0,[]⟩,_)]) [⟨0,[]⟩] rfl)
   all_goals (try dsimp only[srcs])
   (case' hfr|hob=>(repeat' (first|refine La ?_ ?_|exact Lc|refine Lo ?_|refine ⟨⟨_,rfl,?_⟩,?_⟩|refine Lx ?_)))
   all_goals (first|exact Ld|exact trivial|(rfl))
theorem gd_cell [Mode] {x:List Int}{n j:Nat} (hl:x.length=n) (hj:j<n):(IR x)[((j:Nat):Int).toNat]? = some [DI (x.getD j 0)]:=by
 have:x[j]? = some (x.getD j 0):=by rw[List.getD_eq_getElem?_getD,List.getElem?_eq_getElem (by omega)];rfl
 exact IR_get this
def x6 (code:List Int) (s:Src):Nat→Src × List Int
 | 0=>(s,[])
 | k+1=>((nxt code (x6 code s k).1 6).2,(x6 code s k).2++[(nxt code (x6 code s k).1 6).1])
theorem x6_ok [Mode] {code:List Int} (hc:CodeOk code) {s:Src} (hs:SrcOk code s):∀ k,SrcOk code (x6 code s k).1∧(x6 code s k).2.length=k∧∀ v∈(x6 code s k).2,0≤v∧v≤5
 | 0=>⟨hs,rfl,fun v hv=>by cases hv⟩
 | k+1=>by
  obtain ⟨h1,h2,h3⟩:=x6_ok hc hs k
  obtain ⟨a1,a2,a3⟩:=nxt_ok hc h1 6
  refine ⟨a3,by simp[x6,h2],fun v hv=>?_⟩
  simp only[x6,List.mem_append,List.mem_singleton] at hv
  rcases hv with hv|rfl
  ·exact h3 v hv
  ·omega
def m6C (code:List Int) (xs:List Int) (mean:Int) (i k:Nat) (q:QF):QF:=
 if wi (q.2 i k) (-100) 100=true then ((nxt code q.1 5).2,fun a b=>if a=i∧b=k then xs.getD i 0 - xs.getD k 0+mean - max 0 ((nxt code q.1 5).1 - 2) else q.2 a b) else q
def m6R (code:List Int) (xs:List Int) (mean:Int) (i:Nat) (q:QF):Nat→QF
 | 0=>q
 | k+1=>m6C code xs mean i k (m6R code xs mean i q k)
def m6A (code:List Int) (xs:List Int) (mean:Int) (n:Nat) (q:QF):Nat→QF
 | 0=>q
 | i+1=>m6R code xs mean i (m6A code xs mean n q i) n
theorem m6C_ok [Mode] {code:List Int} (hc:CodeOk code) {xs:List Int}{mean:Int}{i k:Nat}{q:QF} (h:SrcOk code q.1):SrcOk code (m6C code xs mean i k q).1:=by
 obtain ⟨_,_,a3⟩:=nxt_ok hc h 5
 unfold m6C;split<;>assumption
theorem m6R_ok [Mode] {code:List Int} (hc:CodeOk code) {xs:List Int}{mean:Int}{i:Nat}{q:QF} (h:SrcOk code q.1):∀ k,SrcOk code (m6R code xs mean i q k).1
 | 0=>h
 | k+1=>m6C_ok hc (m6R_ok hc h k)
theorem m6A_ok [Mode] {code:List Int} (hc:CodeOk code) {xs:List Int}{mean:Int}{n:Nat}{q:QF} (h:SrcOk code q.1):∀ i,SrcOk code (m6A code xs mean n q i).1
 | 0=>h
 | i+1=>m6R_ok hc (m6A_ok hc h i) n
set_option maxHeartbeats 8000000 in
theorem l06Draw_ex [Mode] (code:List Int) (hc:CodeOk code) (s:Src) (hs:SrcOk code s):∃ (T:List (List Int)) (s':Src),TabOk T∧T.length≤6∧SrcOk code s'∧AC Tryz.prog 59 [Bx 3 0] (srcH code s) (TL T) (srcH code s'):=by
 obtain ⟨T,s1,hT,hT6,h1,hcs⟩:=l04Draw_own code hc s hs
 have hQ:=l02Square_ac T (by omega) (fun r hr=>by have:=hT.r r hr;omega)
 rcases hcs with ⟨n,g,hn,rfl,hD1⟩|⟨hsq,hD1⟩
 case inr=>
  refine ⟨T,s1,hT,hT6,h1,?_⟩
  rw[hsq] at hQ
  show AC _ _ _ (heapL [(⟨0,[]⟩,⟨0,[]⟩,srcO code s)]) _ _
  refine AC.of_body 1 Tryz.func59 rfl (fun l h=>by simp[heapL,upd] at h;simp[h]) (fun C hC=>?_)
  simp only[startFr,Tryz.ntmps59,List.length_cons,List.length_nil,Nat.reduceAdd,Nat.reduceSub,List.replicate_succ,List.replicate_zero,List.cons_append,List.nil_append]
  have hD:∀ l,C.D0 l→l=⟨0,[]⟩:=fun l h=>by have:=(hC l).1 h;simp[heapL,upd] at this;exact this
  repeat' (first|((first|apply Ba|(apply Bb;(· rfl);(· rfl))|(apply Bc;(· exact nxE))|(apply Bd;(· rfl);(· rfl);(· exact nxE)));(· first|exact Kz rfl rfl (hQ) (Ad An)|exact Zx (args:=[]) hD1 rfl rfl rfl rfl .nil (fun _=>by simp[rn])|exact Ok.pe))|((first|apply Ca|(apply Cb;(· exact nxE)));(· first|exact Zx (args:=[]) hD1 rfl rfl rfl rfl .nil (fun _=>by simp[rn])|exact Ok.e0))|refine Sx ?_|(refine Sy (fun h=>?_) (fun h=>?_)<;>try (exfalso;omega;done))|refine Sz (fun h=>?_) (fun h=>?_))
  all_goals
   refine Ya ?_
   (apply Le.headZ (hs:=[(⟨0,[]⟩,⟨0,[]⟩,_)]) [⟨0,[]⟩] rfl)
   all_goals (try dsimp only[srcs])
   (case' hfr|hob=>(repeat' (first|refine La ?_ ?_|exact Lc|refine Lo ?_|refine ⟨⟨_,rfl,?_⟩,?_⟩|refine Lx ?_)))
   all_goals (first|exact Ld|exact trivial|(rfl))
 have htF0:(TR (tabF n n g)).length=n:=by rw[TR_len,tabF_len]
 cases hsq:isSq (tabF n n g) with
 | false=>
  refine ⟨tabF n n g,s1,hT,hT6,h1,?_⟩
  rw[hsq] at hQ
  show AC _ _ _ (heapL [(⟨0,[]⟩,⟨0,[]⟩,srcO code s)]) _ _
  refine AC.of_body 1 Tryz.func59 rfl (fun l h=>by simp[heapL,upd] at h;simp[h]) (fun C hC=>?_)
  simp only[startFr,Tryz.ntmps59,List.length_cons,List.length_nil,Nat.reduceAdd,Nat.reduceSub,List.replicate_succ,List.replicate_zero,List.cons_append,List.nil_append]
  have hD:∀ l,C.D0 l→l=⟨0,[]⟩:=fun l h=>by have:=(hC l).1 h;simp[heapL,upd] at this;exact this
  repeat' (first|((first|apply Ba|(apply Bb;(· rfl);(· rfl))|(apply Bc;(· exact nxE))|(apply Bd;(· rfl);(· rfl);(· exact nxE)));(· first|exact Ez rfl rfl (hQ) (Sm Sn)|exact Gt (xs:=[]) (args:=[]) hD1 rfl rfl rfl rfl .nil|exact Ok.pe))|((first|apply Ca|(apply Cb;(· exact nxE)));(· first|exact Gt (xs:=[]) (args:=[]) hD1 rfl rfl rfl rfl .nil|exact Ok.e0))|refine Sx ?_|(refine Sy (fun h=>?_) (fun h=>?_)<;>try (exfalso;omega;done))|refine Sz (fun h=>?_) (fun h=>?_))
  all_goals
   refine Ya ?_
   (apply Le.headZ (hs:=[(⟨0,[]⟩,⟨0,[]⟩,_)]) [⟨0,[]⟩] rfl)
   all_goals (try dsimp only[srcs])
   (case' hfr|hob=>(repeat' (first|refine La ?_ ?_|refine ARs.agg ?_|refine ARs.tup ?_|(exact AR.tab ⟨rfl,fun u x hx=>congrArg (Option.map (dobj 1)) hx⟩ htF0 (by decide) (by intro j;simp[Loc.at,relo]))|refine La ?_ ?_|exact Lc|refine Lo ?_|refine ⟨⟨_,rfl,?_⟩,?_⟩|refine Lx ?_)))
   all_goals (first|exact Ld|exact trivial|(exact AR.tab ⟨rfl,fun u x hx=>congrArg (Option.map (dobj 1)) hx⟩ htF0 (by decide) (by intro j;simp[Loc.at,relo])))
 | true=>
  rw[hsq] at hQ
  obtain ⟨y,s2,y1,y2,h2,q2,N2⟩:=next_ex hc h1 3
  by_cases hy:y=0
  ·refine ⟨tabF n n g,s2,hT,hT6,h2,?_⟩
   show AC _ _ _ (heapL [(⟨0,[]⟩,⟨0,[]⟩,srcO code s)]) _ _
   refine AC.of_body 1 Tryz.func59 rfl (fun l h=>by simp[heapL,upd] at h;simp[h]) (fun C hC=>?_)
   simp only[startFr,Tryz.ntmps59,List.length_cons,List.length_nil,Nat.reduceAdd,Nat.reduceSub,List.replicate_succ,List.replicate_zero,List.cons_append,List.nil_append]
   have hD:∀ l,C.D0 l→l=⟨0,[]⟩:=fun l h=>by have:=(hC l).1 h;simp[heapL,upd] at this;exact this
   repeat' (first|((first|apply Ba|(apply Bb;(· rfl);(· rfl))|(apply Bc;(· exact nxE))|(apply Bd;(· rfl);(· rfl);(· exact nxE)));(· first|exact Ez rfl rfl (hQ) (Sm Sn)|exact Gt (xs:=[]) (args:=[]) hD1 rfl rfl rfl rfl .nil|exact Nx N2 rfl rfl rfl rfl rfl|exact Ok.pe))|((first|apply Ca|(apply Cb;(· exact nxE)));(· first|exact Gt (xs:=[]) (args:=[]) hD1 rfl rfl rfl rfl .nil|exact Nx N2 rfl rfl rfl rfl rfl|exact Ok.e0))|refine Sx ?_|(refine Sy (fun h=>?_) (fun h=>?_)<;>try (exfalso;omega;done))|refine Sz (fun h=>?_) (fun h=>?_))
   all_goals
    refine Ya ?_
    (apply Le.headZ (hs:=[(⟨0,[]⟩,⟨0,[]⟩,_)]) [⟨0,[]⟩] rfl)
    all_goals (try dsimp only[srcs])
    (case' hfr|hob=>(repeat' (first|refine La ?_ ?_|refine ARs.agg ?_|refine ARs.tup ?_|(exact AR.tab ⟨rfl,fun u x hx=>congrArg (Option.map (dobj 1)) hx⟩ htF0 (by decide) (by intro j;simp[Loc.at,relo]))|refine La ?_ ?_|exact Lc|refine Lo ?_|refine ⟨⟨_,rfl,?_⟩,?_⟩|refine Lx ?_)))
    all_goals (first|exact Ld|exact trivial|(exact AR.tab ⟨rfl,fun u x hx=>congrArg (Option.map (dobj 1)) hx⟩ htF0 (by decide) (by intro j;simp[Loc.at,relo])))
  have hX:=x6_ok hc h2
  obtain ⟨hX1,hX2,hX3⟩:=hX n
  obtain ⟨mv,s3,m1,m2,h3,q3,N3⟩:=next_ex hc hX1 7
  have hA:=m6A_ok hc (xs:=(x6 code s2 n).2) (mean:=mv - 2) (n:=n) (q:=(s3,g)) h3
  generalize hqA:m6A code (x6 code s2 n).2 (mv - 2) n (s3,g) n=qA
  have hAn:=hA n
  rw[hqA] at hAn
  obtain ⟨s4,F⟩:=qA
  simp only at hAn
  have htF:(TR (tabF n n F)).length=n:=by rw[TR_len,tabF_len]
  refine ⟨tabF n n F,s4,tabF_ok (by omega) (by omega),by rw[tabF_len];omega,hAn,?_⟩
  show AC _ _ _ (heapL [(⟨0,[]⟩,⟨0,[]⟩,srcO code s)]) _ _
  refine AC.of_body 1 Tryz.func59 rfl (fun l h=>by simp[heapL,upd] at h;simp[h]) (fun C hC=>?_)
  simp only[startFr,Tryz.ntmps59,List.length_cons,List.length_nil,Nat.reduceAdd,Nat.reduceSub,List.replicate_succ,List.replicate_zero,List.cons_append,List.nil_append]
  have hD:∀ l,C.D0 l→l=⟨0,[]⟩:=fun l h=>by have:=(hC l).1 h;simp[heapL,upd] at this;exact this
  repeat' (first|((first|apply Ba|(apply Bb;(· rfl);(· rfl))|(apply Bc;(· exact nxE))|(apply Bd;(· rfl);(· rfl);(· exact nxE)));(· first|exact Ez rfl rfl (hQ) (Sm Sn)|exact Gt (xs:=[]) (args:=[]) hD1 rfl rfl rfl rfl .nil|exact Nx N2 rfl rfl rfl rfl rfl|exact Ok.pe))|((first|apply Ca|(apply Cb;(· exact nxE)));(· first|exact Gt (xs:=[]) (args:=[]) hD1 rfl rfl rfl rfl .nil|exact Nx N2 rfl rfl rfl rfl rfl|exact Ok.e0))|refine Sx ?_|(refine Sy (fun h=>?_) (fun h=>?_)<;>try (exfalso;omega;done))|refine Sz (fun h=>?_) (fun h=>?_))
  refine AW.loop (X:={k:Nat // k≤n}) (fun k=>⟨[Bx 3 0,Oo,Oo,.own 1 ⟨1,[]⟩ 0 n,.own 1 ⟨2,[]⟩ 0 (x6 code s2 (k.1:Nat)).2.length,I (k.1:Nat),Oo,Oo,Oo,Oo,Oo,Oo,Oo,Oo,Oo,Oo,Oo,Oo,Oo,Oo,Oo,Oo,Oo,Oo,Oo,Oo,Oo,Oo,Oo,Oo,Oo,Oo,Oo,Oo,Oo,Oo,Oo,Oo,Oo,Oo,Oo,Oo,Oo,Oo,Oo,Oo,Oo,Oo,Oo,Oo,Oo,Oo,Oo,Oo,Oo,Oo,Oo,Oo,Oo,Oo,Oo,Oo,Oo,Oo,Oo,Oo,Oo,Oo,Oo,Oo,Oo,Oo,Oo,Oo,Oo,Oo,Oo,Oo,Oo,Oo,Oo,Oo,Oo,Oo,Oo,Oo,Oo,Oo],heapX [(⟨0,[]⟩,⟨0,[]⟩,srcO code (x6 code s2 k.1).1),(⟨2,[]⟩,⟨2,[]⟩,IO (x6 code s2 k.1).2)] [mi1 ⟨1,[]⟩ (TR (tabF n n g))],900⟩) (fun k=>n - k.1) ⟨0,Nat.zero_le _⟩ ?_ (fun k=>?_)
  ·
   (apply Le.headG [_,_] [{ l:=⟨1,[]⟩,k:=1,R:=TR (tabF n n g),src:=⟨3,[1]⟩,base:=⟨3,[1]⟩ }] (fun _=>False))
   (case' hlen=>rfl)
   (case' hms=>rfl)
   all_goals (try dsimp only[srcs])
   (case' hfr|hob=>(repeat' (first|refine La ?_ ?_|exact Lc|refine Lo ?_|refine ⟨⟨_,rfl,?_⟩,?_⟩|refine Lx ?_)))
   (case' hok=>first|exact ⟨MI.ok_same rfl (fun u x hx=>congrArg (Option.map (dobj 1)) hx),trivial⟩|exact trivial)
   (case' hN=>rfl)
   (case' hS=>rfl)
   all_goals (first|exact Ld|(rfl))
  obtain ⟨w,hw⟩:=k
  simp only
  by_cases hwl:w<n
  ·obtain ⟨g1,g2,g3⟩:=hX w
   have hst1:(x6 code s2 (w+1)).1=(nxt code (x6 code s2 w).1 6).2:=rfl
   have hst2:(x6 code s2 (w+1)).2=(x6 code s2 w).2++[(nxt code (x6 code s2 w).1 6).1]:=rfl
   obtain ⟨v,s10,v1,v2,h10,q10,N10⟩:=next_ex hc g1 6
   rw[q10] at hst1 hst2
   simp only at hst1 hst2
   have hol:(IR (x6 code s2 w).2).length=(x6 code s2 w).2.length:=IR_len
   generalize hx6:x6 code s2 w=xw at *
   repeat' (first|((first|apply Ba|(apply Bb;(· rfl);(· rfl))|(apply Bc;(· exact nxE))|(apply Bd;(· rfl);(· rfl);(· exact nxE)));(· first|exact Nx N10 rfl rfl rfl rfl rfl|exact Ok.append1 (row:=[DI v]) rfl rfl (by decide) rfl rfl hol rfl rfl rfl (by rfl) (by omega) (by omega)|exact Ok.pe))|((first|apply Ca|(apply Cb;(· exact nxE)));(· first|exact Nx N10 rfl rfl rfl rfl rfl|exact Ok.append1 (row:=[DI v]) rfl rfl (by decide) rfl rfl hol rfl rfl rfl (by rfl) (by omega) (by omega)|exact Ok.e0))|refine Sx ?_|(refine Sy (fun h=>?_) (fun h=>?_)<;>try (exfalso;omega;done))|refine Sz (fun h=>?_) (fun h=>?_))
   refine ⟨⟨w+1,by omega⟩,?_,by simp only;omega⟩
   simp only[hst1,hst2]
   (apply Le.headG [_,_] [mi1 ⟨1,[]⟩ (TR (tabF n n g))] (fun _=>False))
   (case' hlen=>rfl)
   (case' hms=>rfl)
   all_goals (try dsimp only[srcs])
   (case' hfr|hob=>(repeat' (first|refine La ?_ ?_|exact Lc|refine Lo ?_|refine ⟨⟨_,rfl,?_⟩,?_⟩|refine Lx ?_)))
   (case' hok=>first|exact ⟨MI.ok_same rfl (fun u x hx=>congrArg (Option.map (dobj 1)) hx),trivial⟩|exact trivial)
   (case' hN=>rfl)
   (case' hS=>rfl)
   all_goals (first|exact Ld|((first|rfl|(rw[List.length_append];rfl)|(rw[IR_app];done)|(simp;done))))
  obtain rfl:w=n:=by omega
  generalize hxx:x6 code s2 w=xx at *
  obtain ⟨sx,xs⟩:=xx
  simp only at hX1 hX2 hX3 N3 hqA hA ⊢
  have hxg:∀ i,i<w→(IR xs)[((i:Nat):Int).toNat]? = some [DI (xs.getD i 0)]∧0≤xs.getD i 0∧xs.getD i 0≤5:=fun i hi=>by
   have hi':i<xs.length:=by omega
   refine ⟨by rw[Int.toNat_natCast];exact gd_cell hX2 hi,?_⟩
   have:=hX3 xs[i] (List.getElem_mem _)
   rw[List.getD_eq_getElem?_getD,List.getElem?_eq_getElem hi']
   exact this
  rw[hX2]
  repeat' (first|((first|apply Ba|(apply Bb;(· rfl);(· rfl))|(apply Bc;(· exact nxE))|(apply Bd;(· rfl);(· rfl);(· exact nxE)));(· first|exact Nx N3 rfl rfl rfl rfl rfl|exact Ok.pe))|((first|apply Ca|(apply Cb;(· exact nxE)));(· first|exact Nx N3 rfl rfl rfl rfl rfl|exact Ok.e0))|refine Sx ?_|(refine Sy (fun h=>?_) (fun h=>?_)<;>try (exfalso;omega;done))|refine Sz (fun h=>?_) (fun h=>?_))
  refine AW.loop (X:={k:Nat // k≤w}) (fun k=>⟨[Bx 3 0,Oo,Oo,.own 1 ⟨1,[]⟩ 0 w,.own 1 ⟨2,[]⟩ 0 w,Oo,I (mv - 2),I (k.1:Nat),Oo,Oo,Oo,Oo,Oo,Oo,Oo,Oo,Oo,Oo,Oo,Oo,Oo,Oo,Oo,Oo,Oo,Oo,Oo,Oo,Oo,Oo,Oo,Oo,Oo,Oo,Oo,Oo,Oo,Oo,Oo,Oo,Oo,Oo,Oo,Oo,Oo,Oo,Oo,Oo,Oo,Oo,Oo,Oo,Oo,Oo,Oo,Oo,Oo,Oo,Oo,Oo,Oo,Oo,Oo,Oo,Oo,Oo,Oo,Oo,Oo,Oo,Oo,Oo,Oo,Oo,Oo,Oo,Oo,Oo,Oo,Oo,Oo,Oo,Oo,Oo,Oo,Oo,Oo,Oo],heapX [(⟨0,[]⟩,⟨0,[]⟩,srcO code (m6A code xs (mv - 2) w (s3,g) k.1).1),(⟨2,[]⟩,⟨2,[]⟩,IO xs)] [mi1 ⟨1,[]⟩ (TR (tabF w w (m6A code xs (mv - 2) w (s3,g) k.1).2))],900⟩) (fun k=>w - k.1) ⟨0,Nat.zero_le _⟩ ?_ (fun k=>?_)
  ·
   (apply Le.headG [_,_] [mi1 ⟨1,[]⟩ (TR (tabF w w g))] (fun _=>False))
   (case' hlen=>rfl)
   (case' hms=>rfl)
   all_goals (try dsimp only[srcs])
   (case' hfr|hob=>(repeat' (first|refine La ?_ ?_|exact Lc|refine Lo ?_|refine ⟨⟨_,rfl,?_⟩,?_⟩|refine Lx ?_)))
   (case' hok=>first|exact ⟨MI.ok_same rfl (fun u x hx=>congrArg (Option.map (dobj 1)) hx),trivial⟩|exact trivial)
   (case' hN=>rfl)
   (case' hS=>rfl)
   all_goals (first|exact Ld|(rfl))
  obtain ⟨i,hi⟩:=k
  simp only
  by_cases hil:i<w
  case neg=>
   obtain rfl:i=w:=by omega
   rw[hqA]
   simp only
   repeat' (first|((first|apply Ba|(apply Bb;(· rfl);(· rfl))|(apply Bc;(· exact nxE))|(apply Bd;(· rfl);(· rfl);(· exact nxE)));(· first|exact Ok.pe))|((first|apply Ca|(apply Cb;(· exact nxE)));(· first|exact Ok.e0))|refine Sx ?_|(refine Sy (fun h=>?_) (fun h=>?_)<;>try (exfalso;omega;done))|refine Sz (fun h=>?_) (fun h=>?_))
   refine Ya ?_
   (apply Le.headZ (hs:=[(⟨0,[]⟩,⟨0,[]⟩,_)]) [⟨0,[]⟩] rfl)
   all_goals (try dsimp only[srcs])
   (case' hfr|hob=>(repeat' (first|refine La ?_ ?_|refine ARs.agg ?_|refine ARs.tup ?_|(exact AR.tab ⟨rfl,fun u x hx=>congrArg (Option.map (dobj 1)) hx⟩ htF (by decide) (by intro j;simp[Loc.at,relo]))|refine La ?_ ?_|exact Lc|refine Lo ?_|refine ⟨⟨_,rfl,?_⟩,?_⟩|refine Lx ?_)))
   all_goals (first|exact Ld|exact trivial|(exact AR.tab ⟨rfl,fun u x hx=>congrArg (Option.map (dobj 1)) hx⟩ htF (by decide) (by intro j;simp[Loc.at,relo])))
  have hI:=hA i
  have hstA:m6A code xs (mv - 2) w (s3,g) (i+1)=m6R code xs (mv - 2) i (m6A code xs (mv - 2) w (s3,g) i) w:=rfl
  generalize m6A code xs (mv - 2) w (s3,g) i=q at hI hstA ⊢
  repeat' (first|((first|apply Ba|(apply Bb;(· rfl);(· rfl))|(apply Bc;(· exact nxE))|(apply Bd;(· rfl);(· rfl);(· exact nxE)));(· first|exact Ok.pe))|((first|apply Ca|(apply Cb;(· exact nxE)));(· first|exact Ok.e0))|refine Sx ?_|(refine Sy (fun h=>?_) (fun h=>?_)<;>try (exfalso;omega;done))|refine Sz (fun h=>?_) (fun h=>?_))
  refine AW.loop (X:={k:Nat // k≤w}) (fun k=>⟨[Bx 3 0,Oo,Oo,.own 1 ⟨1,[]⟩ 0 w,.own 1 ⟨2,[]⟩ 0 w,Oo,I (mv - 2),I i,I (k.1:Nat),Oo,Oo,Oo,Oo,Oo,Oo,Oo,Oo,Oo,Oo,Oo,Oo,Oo,Oo,Oo,Oo,Oo,Oo,Oo,Oo,Oo,Oo,Oo,Oo,Oo,Oo,Oo,Oo,Oo,Oo,Oo,Oo,Oo,Oo,Oo,Oo,Oo,Oo,Oo,Oo,Oo,Oo,Oo,Oo,Oo,Oo,Oo,Oo,Oo,Oo,Oo,Oo,Oo,Oo,Oo,Oo,Oo,Oo,Oo,Oo,Oo,Oo,Oo,Oo,Oo,Oo,Oo,Oo,Oo,Oo,Oo,Oo,Oo,Oo,Oo,Oo,Oo,Oo,Oo],heapX [(⟨0,[]⟩,⟨0,[]⟩,srcO code (m6R code xs (mv - 2) i q k.1).1),(⟨2,[]⟩,⟨2,[]⟩,IO xs)] [mi1 ⟨1,[]⟩ (TR (tabF w w (m6R code xs (mv - 2) i q k.1).2))],900⟩) (fun k=>w - k.1) ⟨0,Nat.zero_le _⟩ ?_ (fun k=>?_)
  ·
   (apply Le.headG [_,_] [mi1 ⟨1,[]⟩ (TR (tabF w w q.2))] (fun _=>False))
   (case' hlen=>rfl)
   (case' hms=>rfl)
   all_goals (try dsimp only[srcs])
   (case' hfr|hob=>(repeat' (first|refine La ?_ ?_|exact Lc|refine Lo ?_|refine ⟨⟨_,rfl,?_⟩,?_⟩|refine Lx ?_)))
   (case' hok=>first|exact ⟨MI.ok_same rfl (fun u x hx=>congrArg (Option.map (dobj 1)) hx),trivial⟩|exact trivial)
   (case' hN=>rfl)
   (case' hS=>rfl)
   all_goals (first|exact Ld|(rfl))
  obtain ⟨e,he⟩:=k
  simp only
  by_cases hel:e<w
  case neg=>
   obtain rfl:e=w:=by omega
   rw[← hstA]
   repeat' (first|((first|apply Ba|(apply Bb;(· rfl);(· rfl))|(apply Bc;(· exact nxE))|(apply Bd;(· rfl);(· rfl);(· exact nxE)));(· first|exact Ok.pe))|((first|apply Ca|(apply Cb;(· exact nxE)));(· first|exact Ok.e0))|refine Sx ?_|(refine Sy (fun h=>?_) (fun h=>?_)<;>try (exfalso;omega;done))|refine Sz (fun h=>?_) (fun h=>?_))
   refine ⟨⟨i+1,by omega⟩,?_,by simp only;omega⟩
   (apply Le.headG [_,_] [mi1 ⟨1,[]⟩ (TR (tabF e e (m6A code xs (mv - 2) e (s3,g) (i+1)).2))] (fun _=>False))
   (case' hlen=>rfl)
   (case' hms=>rfl)
   all_goals (try dsimp only[srcs])
   (case' hfr|hob=>(repeat' (first|refine La ?_ ?_|exact Lc|refine Lo ?_|refine ⟨⟨_,rfl,?_⟩,?_⟩|refine Lx ?_)))
   (case' hok=>first|exact ⟨MI.ok_same rfl (fun u x hx=>congrArg (Option.map (dobj 1)) hx),trivial⟩|exact trivial)
   (case' hN=>rfl)
   (case' hS=>rfl)
   all_goals (first|exact Ld|(rfl))
  have hJ:=m6R_ok hc (xs:=xs) (mean:=mv - 2) (i:=i) hI e
  have hstR:m6R code xs (mv - 2) i q (e+1)=m6C code xs (mv - 2) i e (m6R code xs (mv - 2) i q e):=rfl
  generalize m6R code xs (mv - 2) i q e=r at hJ hstR ⊢
  obtain ⟨s10,G⟩:=r
  simp only at hJ ⊢
  obtain ⟨b,s11,b1,b2,h11,q11,N11⟩:=next_ex hc hJ 5
  have hrw:=TRF_get (n:=w) (f:=G) hil
  have hrl:(IR (rowF w (G i))).length=w:=by rw[IR_len,rowF_len]
  have hcell:(IR (rowF w (G i)))[e]? = some [DI (G i e)]:=IRF_get hel
  have hcell2:=hcell
  obtain ⟨c1,c2⟩:=hxg i hil
  obtain ⟨c3,c4⟩:=hxg e hel
  have hFi:=l01Finite_ac (G i e)
  have hIn:=l01In_ac (G i e) (-100) 100
  unfold m6C at hstR
  simp only[q11] at hstR
  by_cases hw1:wi (G i e) (-100) 100=true
  ·rw[if_pos hw1] at hstR
   rw[hw1] at hIn
   have hw2:wi (G i e) (-1000000) 1000000=true:=wi_iff.2 (by have:=wi_iff.1 hw1;omega)
   rw[hw2] at hFi
   have hx1:(IR xs)[i]? = some [DI (xs.getD i 0)]:=by rw[Int.toNat_natCast] at c1;exact c1
   have hx2:(IR xs)[e]? = some [DI (xs.getD e 0)]:=by rw[Int.toNat_natCast] at c3;exact c3
   generalize xs.getD i 0=xa at *
   generalize xs.getD e 0=xb at *
   repeat' (first|((first|apply Ba|(apply Bb;(· rfl);(· rfl))|(apply Bc;(· exact nxE))|(apply Bd;(· rfl);(· rfl);(· exact nxE)));(· first|exact Ok.ldTn rfl rfl rfl hrw hrl|exact Ok.ld1 rfl rfl (congrArg (Option.map (dobj 1)) hrw) hcell|exact Ok.ld1 rfl rfl rfl hx1|exact Ok.ld1 rfl rfl rfl hx2|exact Kz rfl rfl (hFi) (Ad An)|exact Kz rfl rfl (hIn) (Ad (Ad (Ad An)))|exact Nx N11 rfl rfl rfl rfl rfl|exact Ok.st1 rfl rfl (congrArg (Option.map (dobj 1)) hrw) (by rw[hrl];exact hel) (by rw[hcell];rfl) rfl rfl IR_set|exact Ok.pe))|((first|apply Ca|(apply Cb;(· exact nxE)));(· first|exact Nx N11 rfl rfl rfl rfl rfl|exact Ok.st1 rfl rfl (congrArg (Option.map (dobj 1)) hrw) (by rw[hrl];exact hel) (by rw[hcell];rfl) rfl rfl IR_set|exact Ok.e0))|refine Sx ?_|(refine Sy (fun h=>?_) (fun h=>?_)<;>try (exfalso;omega;done))|refine Sz (fun h=>?_) (fun h=>?_))
   refine ⟨⟨e+1,by omega⟩,?_,by simp only;omega⟩
   simp only[hstR]
   (apply Le.headG [_,_] [mi1 ⟨1,[]⟩ (TR (tabF w w (fun x y=>if x=i∧y=e then xa - xb+(mv - 2) - max 0 (b - 2) else G x y)))] (fun _=>False))
   (case' hlen=>rfl)
   (case' hms=>rfl)
   all_goals (try dsimp only[srcs])
   (case' hfr|hob=>(repeat' (first|refine La ?_ ?_|exact Lc|refine Lo ?_|refine ⟨⟨_,rfl,?_⟩,?_⟩|refine Lx ?_)))
   (case' hok=>first|exact ⟨MI.ok_row (tabF_set (fun a b _ _=>rfl)) hrw (by simp) rfl (fun u x hx=>congrArg (Option.map (dobj 1)) hx),trivial⟩|exact trivial)
   (case' hN=>rfl)
   (case' hS=>rfl)
   all_goals (first|exact Ld|(rfl))
  ·rw[if_neg hw1] at hstR
   rw[Bool.not_eq_true] at hw1
   rw[hw1] at hIn
   generalize wi (G i e) (-1000000) 1000000=fb at *
   cases fb
   all_goals
    repeat' (first|((first|apply Ba|(apply Bb;(· rfl);(· rfl))|(apply Bc;(· exact nxE))|(apply Bd;(· rfl);(· rfl);(· exact nxE)));(· first|exact Ok.ldTn rfl rfl rfl hrw hrl|exact Ok.ld1 rfl rfl (congrArg (Option.map (dobj 1)) hrw) hcell|exact Kz rfl rfl (hFi) (Ad An)|exact Kz rfl rfl (hIn) (Ad (Ad (Ad An)))|exact Ok.pe))|((first|apply Ca|(apply Cb;(· exact nxE)));(· first|exact Ok.e0))|refine Sx ?_|(refine Sy (fun h=>?_) (fun h=>?_)<;>try (exfalso;omega;done))|refine Sz (fun h=>?_) (fun h=>?_))
   all_goals
    refine ⟨⟨e+1,by omega⟩,?_,by simp only;omega⟩
    simp only[hstR]
    (apply Le.headG [_,_] [mi1 ⟨1,[]⟩ (TR (tabF w w G))] (fun _=>False))
    (case' hlen=>rfl)
    (case' hms=>rfl)
    all_goals (try dsimp only[srcs])
    (case' hfr|hob=>(repeat' (first|refine La ?_ ?_|exact Lc|refine Lo ?_|refine ⟨⟨_,rfl,?_⟩,?_⟩|refine Lx ?_)))
    (case' hok=>first|exact ⟨MI.ok_same rfl (fun u x hx=>congrArg (Option.map (dobj 1)) hx),trivial⟩|exact trivial)
    (case' hN=>rfl)
    (case' hS=>rfl)
    all_goals (first|exact Ld|(rfl))
theorem drawPeriodAt_ex [Mode] (code:List Int) (hc:CodeOk code):∃ (T:List (List Int)) (e:Int),TabOk T∧AC Tryz.prog 21 [.d (BD code)] H0 (.tup [TL T,I e]) H0:=by
 have hF:=l01From_ac code hc
 obtain ⟨T,s1,hT,_,h1,D1⟩:=l06Draw_ex code hc _ (src0_ok hc)
 have hlT:(mRows 1 (TR T)).length=T.length:=mTR_len
 obtain ⟨a,s2,a1,a2,h2,q2,N2⟩:=next_ex hc h1 24
 by_cases ha:a=0
 ·obtain ⟨x,s3,_,h3,p3,q3,K3⟩:=pick_ex hc h2 [-1,(T.length:Int)] 2 rfl
  refine ⟨T,x,hT,?_⟩
  refine AC.of_body 0 Tryz.func21 rfl (fun l h=>absurd rfl h) (fun C hC=>?_)
  have hD:∀ l,¬ C.D0 l:=fun l h=>(hC l).1 h rfl
  simp only[startFr,Tryz.ntmps21,List.length_cons,List.length_nil,Nat.reduceAdd,Nat.reduceSub,List.replicate_succ,List.replicate_zero,List.cons_append,List.nil_append]
  repeat' (first|((first|apply Ba|(apply Bb;(· rfl);(· rfl))|(apply Bc;(· exact nxE))|(apply Bd;(· rfl);(· rfl);(· exact nxE)));(· first|exact Ok.lenD rfl rfl hlT|exact Fx hF rfl rfl rfl|exact Zl (args:=[]) D1 rfl rfl rfl rfl .nil (fun _=>by simp[rn])|exact Nl N2 rfl rfl rfl rfl rfl|exact Kl K3 rfl rfl rfl rfl rfl rfl (by decide)|exact Ok.bs2I rfl rfl rfl rfl|exact Ok.pe))|((first|apply Ca|(apply Cb;(· exact nxE)));(· first|exact Fx hF rfl rfl rfl|exact Zl (args:=[]) D1 rfl rfl rfl rfl .nil (fun _=>by simp[rn])|exact Nl N2 rfl rfl rfl rfl rfl|exact Kl K3 rfl rfl rfl rfl rfl rfl (by decide)|exact Ok.bs2I rfl rfl rfl rfl|exact Ok.e0))|refine Sx ?_|(refine Sy (fun h=>?_) (fun h=>?_)<;>try (exfalso;omega;done))|refine Sz (fun h=>?_) (fun h=>?_))
  refine Yb ?_
  (apply Le.headZ (hs:=[]) [] rfl)
  all_goals (try dsimp only[srcs])
  (case' hfr=>(repeat' (first|refine La ?_ ?_|exact Lc|refine Lo ?_|refine ⟨⟨_,rfl,?_⟩,?_⟩|refine Lx ?_)))
  all_goals (first|exact Ld|exact trivial|(rfl))
 ·obtain ⟨x,s3,_,_,h3,q3,N3⟩:=next_ex hc h2 (T.length:Int)
  refine ⟨T,x,hT,?_⟩
  refine AC.of_body 0 Tryz.func21 rfl (fun l h=>absurd rfl h) (fun C hC=>?_)
  have hD:∀ l,¬ C.D0 l:=fun l h=>(hC l).1 h rfl
  simp only[startFr,Tryz.ntmps21,List.length_cons,List.length_nil,Nat.reduceAdd,Nat.reduceSub,List.replicate_succ,List.replicate_zero,List.cons_append,List.nil_append]
  repeat' (first|((first|apply Ba|(apply Bb;(· rfl);(· rfl))|(apply Bc;(· exact nxE))|(apply Bd;(· rfl);(· rfl);(· exact nxE)));(· first|exact Ok.lenD rfl rfl hlT|exact Fx hF rfl rfl rfl|exact Zl (args:=[]) D1 rfl rfl rfl rfl .nil (fun _=>by simp[rn])|exact Nl N2 rfl rfl rfl rfl rfl|exact Nl N3 rfl rfl rfl rfl rfl|exact Ok.pe))|((first|apply Ca|(apply Cb;(· exact nxE)));(· first|exact Fx hF rfl rfl rfl|exact Zl (args:=[]) D1 rfl rfl rfl rfl .nil (fun _=>by simp[rn])|exact Nl N2 rfl rfl rfl rfl rfl|exact Nl N3 rfl rfl rfl rfl rfl|exact Ok.e0))|refine Sx ?_|(refine Sy (fun h=>?_) (fun h=>?_)<;>try (exfalso;omega;done))|refine Sz (fun h=>?_) (fun h=>?_))
  refine Yb ?_
  (apply Le.headZ (hs:=[]) [] rfl)
  all_goals (try dsimp only[srcs])
  (case' hfr=>(repeat' (first|refine La ?_ ?_|exact Lc|refine Lo ?_|refine ⟨⟨_,rfl,?_⟩,?_⟩|refine Lx ?_)))
  all_goals (first|exact Ld|exact trivial|(rfl))
end Go.Proofs.YtkpoclbnnpglfaaGreat
