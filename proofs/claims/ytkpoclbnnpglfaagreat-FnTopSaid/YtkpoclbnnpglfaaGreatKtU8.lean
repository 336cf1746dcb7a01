/-
  Walks in the abstract reading, part 8.
-/
import Derived.Test.YtkpoclbnnpglfaaGreatKtU7
import Derived.Test.YtkpoclbnnpglfaaGreatKtU5
import Derived.Test.YtkpoclbnnpglfaaGreatKtA3
set_option linter.unusedSimpArgs false
set_option linter.unusedVariables false
namespace Go.Proofs.YtkpoclbnnpglfaaGreat
section
open Go Go.RowKit
attribute [local irreducible] AL AD AW OpOk Le AC thenQ blockQ EndQ
abbrev botF:Nat→Nat→Int:=fun _ _=>BOT
theorem botFn_ac [Mode] (i j:Nat):AC Tryz.prog 169 [I i,I j] H0 (I (botF i j)) H0:=by
 refine AC.of_body 0 Tryz.func169 rfl (fun l h=>absurd rfl h) (fun C hC=>?_)
 have hD:∀ l,¬ C.D0 l:=fun l h=>(hC l).1 h rfl
 simp only[startFr,Tryz.ntmps169,List.length_cons,List.length_nil,Nat.reduceAdd,Nat.reduceSub,List.replicate_succ,List.replicate_zero,List.cons_append,List.nil_append]
 repeat' (first|((first|apply Ba|(apply Bb;(· rfl);(· rfl))|(apply Bc;(· exact nxE))|(apply Bd;(· rfl);(· rfl);(· exact nxE)));(· first|exact Ok.pe))|((first|apply Ca|(apply Cb;(· exact nxE)));(· first|exact Ok.e0))|refine Sx ?_|(refine Sy (fun h=>?_) (fun h=>?_)<;>try (exfalso;omega;done))|refine Sz (fun h=>?_) (fun h=>?_))
 refine Ya ?_
 (apply Le.headZ (hs:=[]) [] rfl)
 all_goals (try dsimp only[srcs])
 (case' hfr=>(repeat' (first|refine La ?_ ?_|exact Lc|refine Lo ?_|refine ⟨⟨_,rfl,?_⟩,?_⟩|refine Lx ?_)))
 all_goals (first|exact Ld|exact trivial|(rfl))
set_option maxHeartbeats 2000000 in
theorem mbyBot_ac [Mode] (m n:Nat)  (hm:m≤1000) (hn:n≤1000):AC Tryz.prog 153 [I m,I n,.clo (.func 169) [] []] H0 (.own 1 ⟨0,[]⟩ 0 m) (heapX [] [mi1 ⟨0,[]⟩ (TR (tabF m n botF))]):=by
 refine AC.of_body 0 Tryz.func153 rfl (fun l h=>absurd rfl h) (fun C hC=>?_)
 have hD:∀ l,¬ C.D0 l:=fun l h=>(hC l).1 h rfl
 simp only[startFr,Tryz.ntmps153,List.length_cons,List.length_nil,Nat.reduceAdd,Nat.reduceSub,List.replicate_succ,List.replicate_zero,List.cons_append,List.nil_append]
 repeat' (first|((first|apply Ba|(apply Bb;(· rfl);(· rfl))|(apply Bc;(· exact nxE))|(apply Bd;(· rfl);(· rfl);(· exact nxE)));(· first|exact Ok.pe))|((first|apply Ca|(apply Cb;(· exact nxE)));(· first|exact Ok.e0))|refine Sx ?_|(refine Sy (fun h=>?_) (fun h=>?_)<;>try (exfalso;omega;done))|refine Sz (fun h=>?_) (fun h=>?_))
 refine AW.loop (X:={k:Nat // k≤m}) (fun k=>⟨[Oo,I n,.clo (.func 169) [] [],Oo,Oo,Oo,Oo,.own 1 ⟨0,[]⟩ 0 m,Oo,Oo,Oo,Oo,Oo,I m,I (k.1:Nat),Oo,Oo,Oo,Oo,Oo,Oo,Oo,Oo,Oo,Oo,Oo,Oo,Oo,Oo,Oo,Oo,Oo,Oo,Oo,Oo,Oo,Oo,Oo,Oo,Oo,Oo,Oo,Oo],heapX [] [{ l:=⟨0,[]⟩,k:=1,R:=TR (tabF k.1 n (mixF botF zz k.1 0)),nils:=m - k.1,src:=⟨0,[]⟩,base:=⟨0,[]⟩ }],900⟩) (fun k=>m - k.1) ⟨0,Nat.zero_le _⟩ ?_ (fun k=>?_)
 ·
  (apply Le.headG [] [{ l:=⟨0,[]⟩,k:=1,R:=[],nils:=m,src:=⟨2,[]⟩,base:=⟨2,[]⟩ }] (fun _=>False))
  (case' hlen=>rfl)
  (case' hms=>rfl)
  all_goals (try dsimp only[srcs])
  (case' hfr|hob=>(repeat' (first|refine La ?_ ?_|exact Lc|refine Lo ?_|refine ⟨⟨_,rfl,?_⟩,?_⟩|refine Lx ?_)))
  (case' hok=>first|exact ⟨MI.ok_make rfl,trivial⟩|exact trivial)
  (case' hN=>rfl)
  (case' hS=>rfl)
  all_goals (first|exact Ld|(rfl))
 obtain ⟨i,hi⟩:=k
 simp only
 by_cases hlt:i<m
 ·
  have hti:(TR (tabF i n (mixF botF zz i 0))).length=i:=by rw[TR_len,tabF_len]
  rw[show m - i=(m - (i+1))+1 by omega]
  repeat' (first|((first|apply Ba|(apply Bb;(· rfl);(· rfl))|(apply Bc;(· exact nxE))|(apply Bd;(· rfl);(· rfl);(· exact nxE)));(· first|exact OpOk.loadCell rfl rfl rfl rfl (set_at (by simp only[outer_len];rw[hti];omega)) rfl|exact Ok.stT rfl rfl rfl (by dsimp only;rw[hti];omega) rfl|exact Ok.pe))|((first|apply Ca|(apply Cb;(· exact nxE)));(· first|exact Ok.stT rfl rfl rfl (by dsimp only;rw[hti];omega) rfl|exact Ok.e0))|refine Sx ?_|(refine Sy (fun h=>?_) (fun h=>?_)<;>try (exfalso;omega;done))|refine Sz (fun h=>?_) (fun h=>?_))
  refine AW.loop (X:={k:Nat // k≤n}) (fun k=>⟨[Oo,I n,.clo (.func 169) [] [],Oo,Oo,Oo,Oo,.own 1 ⟨0,[]⟩ 0 m,I i,Oo,Oo,Oo,Oo,I m,I i,Oo,Oo,Oo,Oo,Oo,Oo,Oo,Oo,Oo,Oo,Oo,I n,I (k.1:Nat),Oo,Oo,Oo,Oo,Oo,Oo,Oo,Oo,Oo,Oo,Oo,Oo,Oo,Oo,Oo],heapX [] [{ l:=⟨0,[]⟩,k:=1,R:=TR (tabF (i+1) n (mixF botF zz i k.1)),nils:=m - (i+1),src:=⟨0,[]⟩,base:=⟨0,[]⟩ }],900⟩) (fun k=>n - k.1) ⟨0,Nat.zero_le _⟩ ?_ (fun k=>?_)
  ·
   (apply Le.headG [] [{ l:=⟨0,[]⟩,k:=1,R:=TR (tabF (i+1) n (mixF botF zz i 0)),nils:=m - (i+1),src:=⟨0,[]⟩,base:=⟨0,[]⟩,cut:=i,ext:=some ⟨906,[]⟩ }] (fun _=>False))
   (case' hlen=>rfl)
   (case' hms=>rfl)
   all_goals (try dsimp only[srcs])
   (case' hfr|hob=>(repeat' (first|refine La ?_ ?_|exact Lc|refine Lo ?_|refine ⟨⟨_,rfl,?_⟩,?_⟩|refine Lx ?_)))
   (case' hok=>first|exact ⟨MI.ok_fill (r:=List.replicate n [DI 0]) zz_snoc hti (by simp) rfl (Cg) rfl,trivial⟩|exact trivial)
   (case' hN=>rfl)
   (case' hS=>rfl)
   all_goals (first|exact Ld|((first|(simp[AllP,TR_len,tabF_len];done)|(simp[AllP,TR_len,tabF_len];omega))))
  obtain ⟨j,hj⟩:=k
  simp only
  by_cases hlt2:j<n
  ·
   have hrw:=TRF_get (n:=n) (f:=(mixF botF zz i j)) (show i<i+1 by omega)
   have hlr:(IR (rowF n ((mixF botF zz i j) i))).length=n:=by rw[IR_len,rowF_len]
   repeat' (first|((first|apply Ba|(apply Bb;(· rfl);(· rfl))|(apply Bc;(· exact nxE))|(apply Bd;(· rfl);(· rfl);(· exact nxE)));(· first|exact Ok.ldTn rfl rfl rfl hrw hlr|exact Kz rfl rfl (botFn_ac i j) (Ad (Ad An))|exact Ok.st1 rfl rfl (congrArg (Option.map (dobj 1)) hrw) (by simp[rowF_len];omega) (by rw[IRF_get hlt2];rfl) rfl rfl IR_set|exact Ok.pe))|((first|apply Ca|(apply Cb;(· exact nxE)));(· first|exact Ok.st1 rfl rfl (congrArg (Option.map (dobj 1)) hrw) (by simp[rowF_len];omega) (by rw[IRF_get hlt2];rfl) rfl rfl IR_set|exact Ok.e0))|refine Sx ?_|(refine Sy (fun h=>?_) (fun h=>?_)<;>try (exfalso;omega;done))|refine Sz (fun h=>?_) (fun h=>?_))
   refine ⟨⟨j+1,by omega⟩,?_,by simp only;omega⟩
   (apply Le.headG [] [{ l:=⟨0,[]⟩,k:=1,R:=TR (tabF (i+1) n (mixF botF zz i (j+1))),nils:=m - (i+1),src:=⟨0,[]⟩,base:=⟨0,[]⟩ }] (fun _=>False))
   (case' hlen=>rfl)
   (case' hms=>rfl)
   all_goals (try dsimp only[srcs])
   (case' hfr|hob=>(repeat' (first|refine La ?_ ?_|exact Lc|refine Lo ?_|refine ⟨⟨_,rfl,?_⟩,?_⟩|refine Lx ?_)))
   (case' hok=>first|exact ⟨MI.ok_row (tabF_set (fun a b _ _=>mixF_set)) hrw (by simp) rfl (Cg),trivial⟩|exact trivial)
   (case' hN=>rfl)
   (case' hS=>rfl)
   all_goals (first|exact Ld|(rfl))
  ·
   have hjn:j=n:=by omega
   subst hjn
   rw[mixF_row]
   repeat' (first|((first|apply Ba|(apply Bb;(· rfl);(· rfl))|(apply Bc;(· exact nxE))|(apply Bd;(· rfl);(· rfl);(· exact nxE)));(· first|exact Ok.pe))|((first|apply Ca|(apply Cb;(· exact nxE)));(· first|exact Ok.e0))|refine Sx ?_|(refine Sy (fun h=>?_) (fun h=>?_)<;>try (exfalso;omega;done))|refine Sz (fun h=>?_) (fun h=>?_))
   refine ⟨⟨i+1,by omega⟩,?_,by simp only;omega⟩
   (apply Le.headG [] [{ l:=⟨0,[]⟩,k:=1,R:=TR (tabF (i+1) j (mixF botF zz (i+1) 0)),nils:=m - (i+1),src:=⟨0,[]⟩,base:=⟨0,[]⟩ }] (fun _=>False))
   (case' hlen=>rfl)
   (case' hms=>rfl)
   all_goals (try dsimp only[srcs])
   (case' hfr|hob=>(repeat' (first|refine La ?_ ?_|exact Lc|refine Lo ?_|refine ⟨⟨_,rfl,?_⟩,?_⟩|refine Lx ?_)))
   (case' hok=>first|exact ⟨MI.ok_same rfl (Cg),trivial⟩|exact trivial)
   (case' hN=>rfl)
   (case' hS=>rfl)
   all_goals (first|exact Ld|(rfl))
 ·
  have him:i=m:=by omega
  subst him
  rw[Nat.sub_self,mixF_all]
  repeat' (first|((first|apply Ba|(apply Bb;(· rfl);(· rfl))|(apply Bc;(· exact nxE))|(apply Bd;(· rfl);(· rfl);(· exact nxE)));(· first|exact Ok.pe))|((first|apply Ca|(apply Cb;(· exact nxE)));(· first|exact Ok.e0))|refine Sx ?_|(refine Sy (fun h=>?_) (fun h=>?_)<;>try (exfalso;omega;done))|refine Sz (fun h=>?_) (fun h=>?_))
  refine Ya ?_
  (apply Le.headG [] [mi1 ⟨0,[]⟩ (TR (tabF i n botF))] (fun _=>False))
  (case' hlen=>rfl)
  (case' hms=>rfl)
  all_goals (try dsimp only[srcs])
  (case' hfr|hob=>(repeat' (first|refine La ?_ ?_|exact Lc|refine Lo ?_|refine ⟨⟨_,rfl,?_⟩,?_⟩|refine Lx ?_)))
  (case' hok=>first|exact ⟨MI.ok_same rfl (Cg),trivial⟩|exact trivial)
  (case' hN=>rfl)
  (case' hS=>rfl)
  all_goals (first|exact Ld|(rfl))
theorem botF_tab [Mode] {n:Nat}:tabF n n botF=botT n n:=by
 unfold tabF botT rowF
 apply List.ext_getElem?
 intro i
 by_cases hi:i<n
 ·simp only[List.getElem?_map,List.getElem?_range hi,Option.map_some,List.getElem?_replicate,if_pos hi,Option.some.injEq]
  apply List.ext_getElem?
  intro j
  by_cases hj:j<n
  ·simp[hj]
  ·simp[hj]
 ·simp[hi]
theorem bottomMatrix_ac [Mode] (n:Nat) (hn:n≤1000):AC Tryz.prog 136 [I n,I n] H0 (own1 1 n) (hpM 1 (TR (botT n n))):=by
 rw[← botF_tab]
 refine AC.of_body 0 Tryz.func136 rfl (fun l h=>absurd rfl h) (fun C hC=>?_)
 have hD:∀ l,¬ C.D0 l:=fun l h=>(hC l).1 h rfl
 simp only[startFr,Tryz.ntmps136,List.length_cons,List.length_nil,Nat.reduceAdd,Nat.reduceSub,List.replicate_succ,List.replicate_zero,List.cons_append,List.nil_append]
 repeat' (first|((first|apply Ba|(apply Bb;(· rfl);(· rfl))|(apply Bc;(· exact nxE))|(apply Bd;(· rfl);(· rfl);(· exact nxE)));(· first|exact Tb rfl rfl (mbyBot_ac n n hn hn) (Sd (Sd (Cc Sn)))|exact Ok.pe))|((first|apply Ca|(apply Cb;(· exact nxE)));(· first|exact Tb rfl rfl (mbyBot_ac n n hn hn) (Sd (Sd (Cc Sn)))|exact Ok.e0))|refine Sx ?_|(refine Sy (fun h=>?_) (fun h=>?_)<;>try (exfalso;omega;done))|refine Sz (fun h=>?_) (fun h=>?_))
 refine Ya ?_
 (apply Le.headG [] [{ l:=⟨0,[]⟩,k:=1,R:=TR (tabF n n botF),src:=⟨3,[0]⟩,base:=⟨3,[0]⟩ }] (fun _=>False))
 (case' hlen=>rfl)
 (case' hms=>rfl)
 all_goals (try dsimp only[srcs])
 (case' hfr|hob=>(repeat' (first|refine La ?_ ?_|exact Lc|refine Lo ?_|refine ⟨⟨_,rfl,?_⟩,?_⟩|refine Lx ?_)))
 (case' hok=>first|exact ⟨MI.ok_same rfl (Cg),trivial⟩|exact trivial)
 (case' hN=>rfl)
 (case' hS=>rfl)
 all_goals (first|exact Ld|(rfl))
set_option maxHeartbeats 2000000 in
theorem weightMatrix_ac [Mode] (n:Nat) (xs:List Pl) (u1 u2:Int) (hn:n≤10) (hx:xs.length≤1000) (hv:∀ p∈xs,okPl n p) (h1:0≤u1∧u1≤100000) (h2:0≤u2∧u2≤50):AC Tryz.prog 84 [grD n xs,.agg [I u1,I u2]] H0 (own1 1 n) (hpM 1 (TR (wmT n xs (u1,u2)))):=by
 have hB:=bottomMatrix_ac n (by omega)
 refine AC.of_body 0 Tryz.func84 rfl (fun l h=>absurd rfl h) (fun C hC=>?_)
 have hD:∀ l,¬ C.D0 l:=fun l h=>(hC l).1 h rfl
 simp only[startFr,Tryz.ntmps84,List.length_cons,List.length_nil,Nat.reduceAdd,Nat.reduceSub,List.replicate_succ,List.replicate_zero,List.cons_append,List.nil_append]
 repeat' (first|((first|apply Ba|(apply Bb;(· rfl);(· rfl))|(apply Bc;(· exact nxE))|(apply Bd;(· rfl);(· rfl);(· exact nxE)));(· first|exact Tb rfl rfl (hB) (Sd (Sd Sn))|exact Ok.pe))|((first|apply Ca|(apply Cb;(· exact nxE)));(· first|exact Tb rfl rfl (hB) (Sd (Sd Sn))|exact Ok.e0))|refine Sx ?_|(refine Sy (fun h=>?_) (fun h=>?_)<;>try (exfalso;omega;done))|refine Sz (fun h=>?_) (fun h=>?_))
 refine AW.loop (X:={k:Nat // k≤xs.length}) (fun k=>⟨[Oo,Oo,Oo,Bx 2 1,Oo,.own 1 ⟨2,[]⟩ 0 n,Oo,Oo,Oo,Oo,Oo,Oo,Oo,Oo,PL xs,I xs.length,I (k.1:Nat),Oo,Oo,Oo,Oo,Oo,Oo,Oo,Oo,Oo,Oo,Oo,Oo,Oo,Oo,Oo,Oo,Oo,Oo,Oo,Oo,Oo,Oo,Oo,Oo,Oo,Oo],heapX [(⟨1,[]⟩,⟨1,[]⟩,⟨2,[[I u1,I u2]]⟩)] [mi1 ⟨2,[]⟩ (TR ((xs.take k.1).foldl (wmS (u1,u2)) (botT n n)))],900⟩) (fun k=>xs.length - k.1) ⟨0,Nat.zero_le _⟩ ?_ (fun k=>?_)
 ·
  (apply Le.headG [_] [{ l:=⟨2,[]⟩,k:=1,R:=TR (botT n n),src:=⟨7,[0]⟩,base:=⟨7,[0]⟩ }] (fun _=>False))
  (case' hlen=>rfl)
  (case' hms=>rfl)
  all_goals (try dsimp only[srcs])
  (case' hfr|hob=>(repeat' (first|refine La ?_ ?_|exact Lc|refine Lo ?_|refine ⟨⟨_,rfl,?_⟩,?_⟩|refine Lx ?_)))
  (case' hok=>first|exact ⟨MI.ok_same rfl (Cg),trivial⟩|exact trivial)
  (case' hN=>rfl)
  (case' hS=>rfl)
  all_goals (first|exact Ld|(rfl))
 obtain ⟨k,hk⟩:=k
 simp only
 by_cases hlt:k<xs.length
 ·have hrow:=pl_row (n:=0) hlt
  have hst:=wm_take (r:=(u1,u2)) (n:=n) hlt
  have hpw:=plW_le hv h1 h2 k hlt
  have hPW:=placeWeight_ac (plA xs k) u1 u2 (by omega) (by omega)
  obtain ⟨⟨g1,g2⟩,⟨g3,g4⟩,_⟩:=okPl_at hv k hlt
  have hsq:Sq ((xs.take k).foldl (wmS (u1,u2)) (botT n n)) n:=wm_sq (Sq.bot n)
  generalize hT:(xs.take k).foldl (wmS (u1,u2)) (botT n n)=T at hst hsq
  generalize hw:pw u1 u2 (plA xs k)=w at hPW
  rw[show wmS (u1,u2) T (plA xs k)=setT T (plA xs k).t.toNat (plA xs k).f.toNat (max (entN T (plA xs k).t.toNat (plA xs k).f.toNat) (pw u1 u2 (plA xs k))) from rfl,hw] at hst
  generalize plA xs k=p at *
  obtain ⟨pf,pt,pd,pk⟩:=p
  obtain ⟨f,rfl⟩:∃ f:Nat,pf=f:=⟨pf.toNat,by simp at g1;omega⟩
  obtain ⟨t,rfl⟩:∃ t:Nat,pt=t:=⟨pt.toNat,by simp at g3;omega⟩
  simp only[Int.toNat_natCast] at hrow g2 g4 hpw hst
  obtain ⟨r,hr1,hr2,hr3⟩:=hsq.get (show t<n by omega) (show f<n by omega)
  have hr1':(TR T)[t]? = some (IR r):=by simp[hr1]
  have hrl:(IR r).length=n:=by rw[IR_len,hr3]
  have hrf:(IR r)[f]? = some [DI (entN T t f)]:=by simp[hr2]
  repeat' (first|((first|apply Ba|(apply Bb;(· rfl);(· rfl))|(apply Bc;(· exact nxE))|(apply Bd;(· rfl);(· rfl);(· exact nxE)));(· first|exact Kz rfl rfl (hPW) (Aa (Ad (Ad (Ad (Ad An)))) (Aa (Ad (Ad An)) An))|exact Ok.ldTn rfl rfl rfl hr1' hrl|exact Ok.ld1 rfl rfl (congrArg (Option.map (dobj 1)) hr1') hrf|exact Ok.st1 rfl rfl (congrArg (Option.map (dobj 1)) hr1') (by omega) (by rw[hrf];rfl) rfl rfl IR_set|exact Ok.pe))|((first|apply Ca|(apply Cb;(· exact nxE)));(· first|exact Ok.st1 rfl rfl (congrArg (Option.map (dobj 1)) hr1') (by omega) (by rw[hrf];rfl) rfl rfl IR_set|exact Ok.e0))|refine Sx ?_|(refine Sy (fun h=>?_) (fun h=>?_)<;>try (exfalso;omega;done))|refine Sz (fun h=>?_) (fun h=>?_))
  refine ⟨⟨k+1,by omega⟩,?_,by simp only;omega⟩
  (apply Le.headG [_] [{ l:=⟨2,[]⟩,k:=1,R:=TR ((xs.take (k+1)).foldl (wmS (u1,u2)) (botT n n)),src:=⟨2,[]⟩,base:=⟨2,[]⟩ }] (fun _=>False))
  (case' hlen=>rfl)
  (case' hms=>rfl)
  all_goals (try dsimp only[srcs])
  (case' hfr|hob=>(repeat' (first|refine La ?_ ?_|exact Lc|refine Lo ?_|refine ⟨⟨_,rfl,?_⟩,?_⟩|refine Lx ?_)))
  (case' hok=>first|exact ⟨MI.ok_row (r0:=IR r) (r:=IR (r.set f (max (entN T t f) w))) (by rw[hst];exact setT_TR hr1) hr1' (by simp) rfl (Cg),trivial⟩|exact trivial)
  (case' hN=>rfl)
  (case' hS=>rfl)
  all_goals (first|exact Ld|(rfl))
 ·
  obtain rfl:k=xs.length:=by omega
  rw[List.take_length]
  repeat' (first|((first|apply Ba|(apply Bb;(· rfl);(· rfl))|(apply Bc;(· exact nxE))|(apply Bd;(· rfl);(· rfl);(· exact nxE)));(· first|exact Ok.pe))|((first|apply Ca|(apply Cb;(· exact nxE)));(· first|exact Ok.e0))|refine Sx ?_|(refine Sy (fun h=>?_) (fun h=>?_)<;>try (exfalso;omega;done))|refine Sz (fun h=>?_) (fun h=>?_))
  refine Ya ?_
  (apply Le.headG [] [{ l:=⟨0,[]⟩,k:=1,R:=TR (wmT n xs (u1,u2)),src:=⟨2,[]⟩,base:=⟨2,[]⟩ }] (fun _=>False))
  (case' hlen=>rfl)
  (case' hms=>rfl)
  all_goals (try dsimp only[srcs])
  (case' hfr|hob=>(repeat' (first|refine La ?_ ?_|exact Lc|refine Lo ?_|refine ⟨⟨_,rfl,?_⟩,?_⟩|refine Lx ?_)))
  (case' hok=>first|exact ⟨MI.ok_same rfl (Cg),trivial⟩|exact trivial)
  (case' hN=>rfl)
  (case' hS=>rfl)
  all_goals (first|exact Ld|(rfl))
end
section
open Go Go.RowKit
attribute [local irreducible] AL AD AW OpOk Le AC thenQ blockQ EndQ
def unitQ (m:Nat):Nat→Nat→Int:=fun i j=>if i=j∧i<m then 0 else BOT
theorem unitQ_set [Mode] {i a b:Nat}:unitQ (i+1) a b=if a=i∧b=i then 0 else unitQ i a b:=by
 unfold unitQ
 by_cases h:a=i∧b=i
 ·obtain ⟨rfl,rfl⟩:=h;simp
 ·rw[if_neg h]
  by_cases h2:a=b∧a<i
  ·rw[if_pos h2,if_pos (by omega)]
  ·rw[if_neg h2,if_neg (by omega)]
theorem l02Unit_ac [Mode] (n:Nat) (hn:n≤1000):AC Tryz.prog 141 [I n] H0 (own1 1 n) (hpM 1 (TR (tabF n n unitF))):=by
 have hB:=l02Bottom_ac n n (by omega) (by omega)
 have h0:tabF n n (unitQ 0)=botT n n:=by rw[← botF_tab];exact tabF_congr fun i j _ _=>by simp[unitQ]
 have h1:tabF n n (unitQ n)=tabF n n unitF:=tabF_congr fun i j hi _=>by simp only[unitQ,unitF,hi,and_true]
 rw[← h0] at hB
 rw[← h1]
 refine AC.of_body 0 Tryz.func141 rfl (fun l h=>absurd rfl h) (fun C hC=>?_)
 have hD:∀ l,¬ C.D0 l:=fun l h=>(hC l).1 h rfl
 simp only[startFr,Tryz.ntmps141,List.length_cons,List.length_nil,Nat.reduceAdd,Nat.reduceSub,List.replicate_succ,List.replicate_zero,List.cons_append,List.nil_append]
 repeat' (first|((first|apply Ba|(apply Bb;(· rfl);(· rfl))|(apply Bc;(· exact nxE))|(apply Bd;(· rfl);(· rfl);(· exact nxE)));(· first|exact Tb rfl rfl (hB) (Sd (Sd Sn))|exact Ok.pe))|((first|apply Ca|(apply Cb;(· exact nxE)));(· first|exact Tb rfl rfl (hB) (Sd (Sd Sn))|exact Ok.e0))|refine Sx ?_|(refine Sy (fun h=>?_) (fun h=>?_)<;>try (exfalso;omega;done))|refine Sz (fun h=>?_) (fun h=>?_))
 refine AW.loop (X:={k:Nat // k≤n}) (fun k=>⟨[I n,Oo,Oo,.own 1 ⟨1,[]⟩ 0 n,I (k.1:Nat),Oo,Oo,Oo,Oo,Oo,Oo,Oo,Oo,Oo,Oo,Oo,Oo,Oo,Oo,Oo],heapX [] [mi1 ⟨1,[]⟩ (TR (tabF n n (unitQ k.1)))],900⟩) (fun k=>n - k.1) ⟨0,Nat.zero_le _⟩ ?_ (fun k=>?_)
 ·
  (apply Le.headG [] [{ l:=⟨1,[]⟩,k:=1,R:=TR (tabF n n (unitQ 0)),src:=⟨3,[0]⟩,base:=⟨3,[0]⟩ }] (fun _=>False))
  (case' hlen=>rfl)
  (case' hms=>rfl)
  all_goals (try dsimp only[srcs])
  (case' hfr|hob=>(repeat' (first|refine La ?_ ?_|exact Lc|refine Lo ?_|refine ⟨⟨_,rfl,?_⟩,?_⟩|refine Lx ?_)))
  (case' hok=>first|exact ⟨MI.ok_same rfl (Cg),trivial⟩|exact trivial)
  (case' hN=>rfl)
  (case' hS=>rfl)
  all_goals (first|exact Ld|(rfl))
 obtain ⟨i,hi⟩:=k
 simp only
 by_cases hlt:i<n
 ·
  have hrw:=TRF_get (n:=n) (f:=unitQ i) hlt
  have hli:(IR (rowF n (unitQ i i))).length=n:=by rw[IR_len,rowF_len]
  repeat' (first|((first|apply Ba|(apply Bb;(· rfl);(· rfl))|(apply Bc;(· exact nxE))|(apply Bd;(· rfl);(· rfl);(· exact nxE)));(· first|exact Ok.ldTn rfl rfl rfl hrw hli|exact Ok.st1 rfl rfl (congrArg (Option.map (dobj 1)) hrw) (by rw[hli];omega) (by rw[IRF_get hlt];rfl) rfl rfl IR_set|exact Ok.pe))|((first|apply Ca|(apply Cb;(· exact nxE)));(· first|exact Ok.st1 rfl rfl (congrArg (Option.map (dobj 1)) hrw) (by rw[hli];omega) (by rw[IRF_get hlt];rfl) rfl rfl IR_set|exact Ok.e0))|refine Sx ?_|(refine Sy (fun h=>?_) (fun h=>?_)<;>try (exfalso;omega;done))|refine Sz (fun h=>?_) (fun h=>?_))
  refine ⟨⟨i+1,by omega⟩,?_,by simp only;omega⟩
  (apply Le.headG [] [mi1 ⟨1,[]⟩ (TR (tabF n n (unitQ (i+1))))] (fun _=>False))
  (case' hlen=>rfl)
  (case' hms=>rfl)
  all_goals (try dsimp only[srcs])
  (case' hfr|hob=>(repeat' (first|refine La ?_ ?_|exact Lc|refine Lo ?_|refine ⟨⟨_,rfl,?_⟩,?_⟩|refine Lx ?_)))
  (case' hok=>first|exact ⟨MI.ok_row (tabF_set (f:=unitQ i) (v:=0) (fun a b _ _=>unitQ_set)) hrw (by simp) rfl (Cg),trivial⟩|exact trivial)
  (case' hN=>rfl)
  (case' hS=>rfl)
  all_goals (first|exact Ld|(rfl))
 ·
  obtain rfl:i=n:=by omega
  repeat' (first|((first|apply Ba|(apply Bb;(· rfl);(· rfl))|(apply Bc;(· exact nxE))|(apply Bd;(· rfl);(· rfl);(· exact nxE)));(· first|exact Ok.pe))|((first|apply Ca|(apply Cb;(· exact nxE)));(· first|exact Ok.e0))|refine Sx ?_|(refine Sy (fun h=>?_) (fun h=>?_)<;>try (exfalso;omega;done))|refine Sz (fun h=>?_) (fun h=>?_))
  refine Ya ?_
  (apply Le.headG [] [{ l:=⟨0,[]⟩,k:=1,R:=TR (tabF i i (unitQ i)),src:=⟨1,[]⟩,base:=⟨1,[]⟩ }] (fun _=>False))
  (case' hlen=>rfl)
  (case' hms=>rfl)
  all_goals (try dsimp only[srcs])
  (case' hfr|hob=>(repeat' (first|refine La ?_ ?_|exact Lc|refine Lo ?_|refine ⟨⟨_,rfl,?_⟩,?_⟩|refine Lx ?_)))
  (case' hok=>first|exact ⟨MI.ok_same rfl (Cg),trivial⟩|exact trivial)
  (case' hN=>rfl)
  (case' hS=>rfl)
  all_goals (first|exact Ld|(rfl))
theorem l01Times_ac [Mode] (a b:Int) (h:a≠BOT→b≠BOT→-9223372036854775808≤a+b∧a+b≤9223372036854775807):AC Tryz.prog 146 [I a,I b] H0 (I (timesB a b)) H0:=by
 unfold timesB BOT
 unfold BOT at h
 by_cases h1:a=-1000000000000000
 ·rw[if_pos (.inl h1)]
  subst h1
  refine AC.of_body 0 Tryz.func146 rfl (fun l h=>absurd rfl h) (fun C hC=>?_)
  have hD:∀ l,¬ C.D0 l:=fun l h=>(hC l).1 h rfl
  simp only[startFr,Tryz.ntmps146,List.length_cons,List.length_nil,Nat.reduceAdd,Nat.reduceSub,List.replicate_succ,List.replicate_zero,List.cons_append,List.nil_append]
  repeat' (first|((first|apply Ba|(apply Bb;(· rfl);(· rfl))|(apply Bc;(· exact nxE))|(apply Bd;(· rfl);(· rfl);(· exact nxE)));(· first|exact Ok.pe))|((first|apply Ca|(apply Cb;(· exact nxE)));(· first|exact Ok.e0))|refine Sx ?_|(refine Sy (fun h=>?_) (fun h=>?_)<;>try (exfalso;omega;done))|refine Sz (fun h=>?_) (fun h=>?_))
  refine Ya ?_
  (apply Le.headZ (hs:=[]) [] rfl)
  all_goals (try dsimp only[srcs])
  (case' hfr=>(repeat' (first|refine La ?_ ?_|exact Lc|refine Lo ?_|refine ⟨⟨_,rfl,?_⟩,?_⟩|refine Lx ?_)))
  all_goals (first|exact Ld|exact trivial|(rfl))
 ·by_cases h2:b=-1000000000000000
  ·rw[if_pos (.inr h2)]
   subst h2
   refine AC.of_body 0 Tryz.func146 rfl (fun l h=>absurd rfl h) (fun C hC=>?_)
   have hD:∀ l,¬ C.D0 l:=fun l h=>(hC l).1 h rfl
   simp only[startFr,Tryz.ntmps146,List.length_cons,List.length_nil,Nat.reduceAdd,Nat.reduceSub,List.replicate_succ,List.replicate_zero,List.cons_append,List.nil_append]
   repeat' (first|((first|apply Ba|(apply Bb;(· rfl);(· rfl))|(apply Bc;(· exact nxE))|(apply Bd;(· rfl);(· rfl);(· exact nxE)));(· first|exact Ok.pe))|((first|apply Ca|(apply Cb;(· exact nxE)));(· first|exact Ok.e0))|refine Sx ?_|(refine Sy (fun h=>?_) (fun h=>?_)<;>try (exfalso;omega;done))|refine Sz (fun h=>?_) (fun h=>?_))
   all_goals
    refine Ya ?_
    (apply Le.headZ (hs:=[]) [] rfl)
    all_goals (try dsimp only[srcs])
    (case' hfr=>(repeat' (first|refine La ?_ ?_|exact Lc|refine Lo ?_|refine ⟨⟨_,rfl,?_⟩,?_⟩|refine Lx ?_)))
    all_goals (first|exact Ld|exact trivial|(rfl))
  ·rw[if_neg (by rintro (h3|h3);exact h1 h3;exact h2 h3)]
   obtain ⟨h3,h4⟩:=h h1 h2
   refine AC.of_body 0 Tryz.func146 rfl (fun l h=>absurd rfl h) (fun C hC=>?_)
   have hD:∀ l,¬ C.D0 l:=fun l h=>(hC l).1 h rfl
   simp only[startFr,Tryz.ntmps146,List.length_cons,List.length_nil,Nat.reduceAdd,Nat.reduceSub,List.replicate_succ,List.replicate_zero,List.cons_append,List.nil_append]
   repeat' (first|((first|apply Ba|(apply Bb;(· rfl);(· rfl))|(apply Bc;(· exact nxE))|(apply Bd;(· rfl);(· rfl);(· exact nxE)));(· first|exact Ok.pe))|((first|apply Ca|(apply Cb;(· exact nxE)));(· first|exact Ok.e0))|refine Sx ?_|(refine Sy (fun h=>?_) (fun h=>?_)<;>try (exfalso;omega;done))|refine Sz (fun h=>?_) (fun h=>?_))
   all_goals
    refine Ya ?_
    (apply Le.headZ (hs:=[]) [] rfl)
    all_goals (try dsimp only[srcs])
    (case' hfr=>(repeat' (first|refine La ?_ ?_|exact Lc|refine Lo ?_|refine ⟨⟨_,rfl,?_⟩,?_⟩|refine Lx ?_)))
    all_goals (first|exact Ld|exact trivial|(rfl))
set_option maxHeartbeats 2000000 in
theorem l02Add_ac [Mode] (m n:Nat) (a b:List (List Int)) (ha:Rc a m n) (hb:Rc b m n) (hm:m≤1000) (hn:n≤1000):AC Tryz.prog 142 [TL a,TL b] H0 (own1 1 m) (hpM 1 (TR (tabF m n (addF a b)))):=by
 have hbl:=hb.l
 have hO:=l02Own_ac a (by have:=ha.l;omega) (fun r hr=>by rw[ha.r r hr];omega)
 rw[ha.l] at hO
 have h0:tabF m n (mixF (addF a b) (entN a) 0 0)=a:=by rw[mixF_0,tabF_self ha]
 rw[← h0] at hO
 rw[h0] at hO
 refine AC.of_body 0 Tryz.func142 rfl (fun l h=>absurd rfl h) (fun C hC=>?_)
 have hD:∀ l,¬ C.D0 l:=fun l h=>(hC l).1 h rfl
 simp only[startFr,Tryz.ntmps142,List.length_cons,List.length_nil,Nat.reduceAdd,Nat.reduceSub,List.replicate_succ,List.replicate_zero,List.cons_append,List.nil_append]
 repeat' (first|((first|apply Ba|(apply Bb;(· rfl);(· rfl))|(apply Bc;(· exact nxE))|(apply Bd;(· rfl);(· rfl);(· exact nxE)));(· first|exact Tb rfl rfl (hO) (Sd Sn)|exact Ok.pe))|((first|apply Ca|(apply Cb;(· exact nxE)));(· first|exact Tb rfl rfl (hO) (Sd Sn)|exact Ok.e0))|refine Sx ?_|(refine Sy (fun h=>?_) (fun h=>?_)<;>try (exfalso;omega;done))|refine Sz (fun h=>?_) (fun h=>?_))
 refine AW.loop (X:={k:Nat // k≤m}) (fun k=>⟨[Oo,TL b,Oo,Oo,Oo,.own 1 ⟨1,[]⟩ 0 m,I (k.1:Nat),Oo,Oo,Oo,Oo,Oo,Oo,Oo,Oo,Oo,Oo,Oo,Oo,Oo,Oo,Oo,Oo,Oo,Oo,Oo,Oo,Oo,Oo,Oo,Oo,Oo,Oo,Oo,Oo,Oo,Oo,Oo,Oo,Oo,Oo,Oo,Oo,Oo,Oo,Oo,Oo],heapX [] [mi1 ⟨1,[]⟩ (TR (tabF m n (mixF (addF a b) (entN a) k.1 0)))],900⟩) (fun k=>m - k.1) ⟨0,Nat.zero_le _⟩ ?_ (fun k=>?_)
 ·
  (apply Le.headG [] [{ l:=⟨1,[]⟩,k:=1,R:=TR (tabF m n (mixF (addF a b) (entN a) 0 0)),src:=⟨2,[0]⟩,base:=⟨2,[0]⟩ }] (fun _=>False))
  (case' hlen=>rfl)
  (case' hms=>rfl)
  all_goals (try dsimp only[srcs])
  (case' hfr|hob=>(repeat' (first|refine La ?_ ?_|exact Lc|refine Lo ?_|refine ⟨⟨_,rfl,?_⟩,?_⟩|refine Lx ?_)))
  (case' hok=>first|exact ⟨by rw[h0];exact MI.ok_same rfl (Cg),trivial⟩|exact trivial)
  (case' hN=>rfl)
  (case' hS=>rfl)
  all_goals (first|exact Ld|(rfl))
 obtain ⟨i,hi⟩:=k
 simp only
 by_cases hlt:i<m
 ·
  repeat' (first|((first|apply Ba|(apply Bb;(· rfl);(· rfl))|(apply Bc;(· exact nxE))|(apply Bd;(· rfl);(· rfl);(· exact nxE)));(· first|exact Ok.pe))|((first|apply Ca|(apply Cb;(· exact nxE)));(· first|exact Ok.e0))|refine Sx ?_|(refine Sy (fun h=>?_) (fun h=>?_)<;>try (exfalso;omega;done))|refine Sz (fun h=>?_) (fun h=>?_))
  refine AW.loop (X:={k:Nat // k≤n}) (fun k=>⟨[Oo,TL b,Oo,Oo,Oo,.own 1 ⟨1,[]⟩ 0 m,I i,I (k.1:Nat),Oo,Oo,Oo,Oo,Oo,Oo,Oo,Oo,Oo,Oo,Oo,Oo,Oo,Oo,Oo,Oo,Oo,Oo,Oo,Oo,Oo,Oo,Oo,Oo,Oo,Oo,Oo,Oo,Oo,Oo,Oo,Oo,Oo,Oo,Oo,Oo,Oo,Oo,Oo],heapX [] [mi1 ⟨1,[]⟩ (TR (tabF m n (mixF (addF a b) (entN a) i k.1)))],900⟩) (fun k=>n - k.1) ⟨0,Nat.zero_le _⟩ ?_ (fun k=>?_)
  ·
   (apply Le.headG [] [mi1 ⟨1,[]⟩ (TR (tabF m n (mixF (addF a b) (entN a) i 0)))] (fun _=>False))
   (case' hlen=>rfl)
   (case' hms=>rfl)
   all_goals (try dsimp only[srcs])
   (case' hfr|hob=>(repeat' (first|refine La ?_ ?_|exact Lc|refine Lo ?_|refine ⟨⟨_,rfl,?_⟩,?_⟩|refine Lx ?_)))
   (case' hok=>first|exact ⟨MI.ok_same rfl (Cg),trivial⟩|exact trivial)
   (case' hN=>rfl)
   (case' hS=>rfl)
   all_goals (first|exact Ld|(rfl))
  obtain ⟨j,hj⟩:=k
  simp only
  have hrw:=TRF_get (n:=n) (f:=mixF (addF a b) (entN a) i j) hlt
  have hli:(IR (rowF n (mixF (addF a b) (entN a) i j i))).length=n:=by rw[IR_len,rowF_len]
  by_cases hlt2:j<n
  ·
   obtain ⟨S,hS1,hS2,hS3⟩:=hb.get hlt hlt2
   have hSr:=TR_get hS1
   have hSf:=IR_get hS2
   have hSl:(IR S).length=n:=by rw[IR_len,hS3]
   have hij:=IRF_get (g:=mixF (addF a b) (entN a) i j i) hlt2
   rw[show mixF (addF a b) (entN a) i j i j=entN a i j by unfold mixF;rw[if_neg (by omega)]] at hij
   have hset:(IR (rowF n (mixF (addF a b) (entN a) i j i))).set j [DI (max (entN a i j) (entN b i j))]=IR ((rowF n (mixF (addF a b) (entN a) i j i)).set j (addF a b i j)):=IR_set
   repeat' (first|((first|apply Ba|(apply Bb;(· rfl);(· rfl))|(apply Bc;(· exact nxE))|(apply Bd;(· rfl);(· rfl);(· exact nxE)));(· first|exact Ok.ldTn rfl rfl rfl hrw hli|exact Ok.ld1 rfl rfl (congrArg (Option.map (dobj 1)) hrw) hij|exact Ok.st1 rfl rfl (congrArg (Option.map (dobj 1)) hrw) (by rw[hli];omega) (by rw[hij];rfl) rfl rfl hset|exact Ok.pe))|((first|apply Ca|(apply Cb;(· exact nxE)));(· first|exact Ok.st1 rfl rfl (congrArg (Option.map (dobj 1)) hrw) (by rw[hli];omega) (by rw[hij];rfl) rfl rfl hset|exact Ok.e0))|refine Sx ?_|(refine Sy (fun h=>?_) (fun h=>?_)<;>try (exfalso;omega;done))|refine Sz (fun h=>?_) (fun h=>?_))
   refine ⟨⟨j+1,by omega⟩,?_,by simp only;omega⟩
   (apply Le.headG [] [mi1 ⟨1,[]⟩ (TR (tabF m n (mixF (addF a b) (entN a) i (j+1))))] (fun _=>False))
   (case' hlen=>rfl)
   (case' hms=>rfl)
   all_goals (try dsimp only[srcs])
   (case' hfr|hob=>(repeat' (first|refine La ?_ ?_|exact Lc|refine Lo ?_|refine ⟨⟨_,rfl,?_⟩,?_⟩|refine Lx ?_)))
   (case' hok=>first|exact ⟨MI.ok_row (tabF_set (fun a b _ _=>mixF_set)) hrw (by simp) rfl (Cg),trivial⟩|exact trivial)
   (case' hN=>rfl)
   (case' hS=>rfl)
   all_goals (first|exact Ld|(rfl))
  ·
   obtain rfl:j=n:=by omega
   repeat' (first|((first|apply Ba|(apply Bb;(· rfl);(· rfl))|(apply Bc;(· exact nxE))|(apply Bd;(· rfl);(· rfl);(· exact nxE)));(· first|exact Ok.ldTn rfl rfl rfl hrw hli|exact Ok.pe))|((first|apply Ca|(apply Cb;(· exact nxE)));(· first|exact Ok.e0))|refine Sx ?_|(refine Sy (fun h=>?_) (fun h=>?_)<;>try (exfalso;omega;done))|refine Sz (fun h=>?_) (fun h=>?_))
   refine ⟨⟨i+1,by omega⟩,?_,by simp only;omega⟩
   simp only
   rw[← mixF_row]
   (apply Le.headG [] [mi1 ⟨1,[]⟩ (TR (tabF m j (mixF (addF a b) (entN a) i j)))] (fun _=>False))
   (case' hlen=>rfl)
   (case' hms=>rfl)
   all_goals (try dsimp only[srcs])
   (case' hfr|hob=>(repeat' (first|refine La ?_ ?_|exact Lc|refine Lo ?_|refine ⟨⟨_,rfl,?_⟩,?_⟩|refine Lx ?_)))
   (case' hok=>first|exact ⟨MI.ok_same rfl (Cg),trivial⟩|exact trivial)
   (case' hN=>rfl)
   (case' hS=>rfl)
   all_goals (first|exact Ld|(rfl))
 ·
  obtain rfl:i=m:=by omega
  rw[mixF_all]
  repeat' (first|((first|apply Ba|(apply Bb;(· rfl);(· rfl))|(apply Bc;(· exact nxE))|(apply Bd;(· rfl);(· rfl);(· exact nxE)));(· first|exact Ok.pe))|((first|apply Ca|(apply Cb;(· exact nxE)));(· first|exact Ok.e0))|refine Sx ?_|(refine Sy (fun h=>?_) (fun h=>?_)<;>try (exfalso;omega;done))|refine Sz (fun h=>?_) (fun h=>?_))
  refine Ya ?_
  (apply Le.headG [] [{ l:=⟨0,[]⟩,k:=1,R:=TR (tabF i n (addF a b)),src:=⟨1,[]⟩,base:=⟨1,[]⟩ }] (fun _=>False))
  (case' hlen=>rfl)
  (case' hms=>rfl)
  all_goals (try dsimp only[srcs])
  (case' hfr|hob=>(repeat' (first|refine La ?_ ?_|exact Lc|refine Lo ?_|refine ⟨⟨_,rfl,?_⟩,?_⟩|refine Lx ?_)))
  (case' hok=>first|exact ⟨MI.ok_same rfl (Cg),trivial⟩|exact trivial)
  (case' hN=>rfl)
  (case' hS=>rfl)
  all_goals (first|exact Ld|(rfl))
end
section
open Go Go.RowKit
attribute [local irreducible] AL AD AW OpOk Le AC thenQ blockQ EndQ
def isVal (a:Int):Bool:=decide (a=BOT) || wi a (-1000000) 1000000
theorem isFinite_ac [Mode] (a:Int):AC Tryz.prog 107 [I a] H0 (Bo (wi a (-1000000) 1000000)) H0:=by
 have hI:=within_ac a (-1000000) 1000000
 refine AC.of_body 0 Tryz.func107 rfl (fun l h=>absurd rfl h) (fun C hC=>?_)
 have hD:∀ l,¬ C.D0 l:=fun l h=>(hC l).1 h rfl
 simp only[startFr,Tryz.ntmps107,List.length_cons,List.length_nil,Nat.reduceAdd,Nat.reduceSub,List.replicate_succ,List.replicate_zero,List.cons_append,List.nil_append]
 repeat' (first|((first|apply Ba|(apply Bb;(· rfl);(· rfl))|(apply Bc;(· exact nxE))|(apply Bd;(· rfl);(· rfl);(· exact nxE)));(· first|exact Kz rfl rfl (hI) (Ad (Ad (Ad An)))|exact Ok.pe))|((first|apply Ca|(apply Cb;(· exact nxE)));(· first|exact Ok.e0))|refine Sx ?_|(refine Sy (fun h=>?_) (fun h=>?_)<;>try (exfalso;omega;done))|refine Sz (fun h=>?_) (fun h=>?_))
 all_goals
  refine Ya ?_
  (apply Le.headZ (hs:=[]) [] rfl)
  all_goals (try dsimp only[srcs])
  (case' hfr=>(repeat' (first|refine La ?_ ?_|exact Lc|refine Lo ?_|refine ⟨⟨_,rfl,?_⟩,?_⟩|refine Lx ?_)))
  all_goals (first|exact Ld|exact trivial|(rfl))
theorem iIsValue_ac [Mode] (a:Int):AC Tryz.prog 88 [I a] H0 (Bo (isVal a)) H0:=by
 have hF:=isFinite_ac a
 unfold isVal BOT
 by_cases h:a=-1000000000000000
 ·rw[decide_eq_true h]
  subst h
  refine AC.of_body 0 Tryz.func88 rfl (fun l h=>absurd rfl h) (fun C hC=>?_)
  have hD:∀ l,¬ C.D0 l:=fun l h=>(hC l).1 h rfl
  simp only[startFr,Tryz.ntmps88,List.length_cons,List.length_nil,Nat.reduceAdd,Nat.reduceSub,List.replicate_succ,List.replicate_zero,List.cons_append,List.nil_append]
  repeat' (first|((first|apply Ba|(apply Bb;(· rfl);(· rfl))|(apply Bc;(· exact nxE))|(apply Bd;(· rfl);(· rfl);(· exact nxE)));(· first|exact Ok.pe))|((first|apply Ca|(apply Cb;(· exact nxE)));(· first|exact Ok.e0))|refine Sx ?_|(refine Sy (fun h=>?_) (fun h=>?_)<;>try (exfalso;omega;done))|refine Sz (fun h=>?_) (fun h=>?_))
  refine Ya ?_
  (apply Le.headZ (hs:=[]) [] rfl)
  all_goals (try dsimp only[srcs])
  (case' hfr=>(repeat' (first|refine La ?_ ?_|exact Lc|refine Lo ?_|refine ⟨⟨_,rfl,?_⟩,?_⟩|refine Lx ?_)))
  all_goals (first|exact Ld|exact trivial|(rfl))
 ·rw[decide_eq_false h]
  refine AC.of_body 0 Tryz.func88 rfl (fun l h=>absurd rfl h) (fun C hC=>?_)
  have hD:∀ l,¬ C.D0 l:=fun l h=>(hC l).1 h rfl
  simp only[startFr,Tryz.ntmps88,List.length_cons,List.length_nil,Nat.reduceAdd,Nat.reduceSub,List.replicate_succ,List.replicate_zero,List.cons_append,List.nil_append]
  repeat' (first|((first|apply Ba|(apply Bb;(· rfl);(· rfl))|(apply Bc;(· exact nxE))|(apply Bd;(· rfl);(· rfl);(· exact nxE)));(· first|exact Kz rfl rfl (hF) (Ad An)|exact Ok.pe))|((first|apply Ca|(apply Cb;(· exact nxE)));(· first|exact Ok.e0))|refine Sx ?_|(refine Sy (fun h=>?_) (fun h=>?_)<;>try (exfalso;omega;done))|refine Sz (fun h=>?_) (fun h=>?_))
  all_goals
   refine Ya ?_
   (apply Le.headZ (hs:=[]) [] rfl)
   all_goals (try dsimp only[srcs])
   (case' hfr=>(repeat' (first|refine La ?_ ?_|exact Lc|refine Lo ?_|refine ⟨⟨_,rfl,?_⟩,?_⟩|refine Lx ?_)))
   all_goals (first|exact Ld|exact trivial|(rfl))
theorem areFn_ac [Mode] (a:Int):AC Tryz.prog 87 [I a] H0 (Bo (!isVal a)) H0:=by
 have hF:=iIsValue_ac a
 refine AC.of_body 0 Tryz.func87 rfl (fun l h=>absurd rfl h) (fun C hC=>?_)
 have hD:∀ l,¬ C.D0 l:=fun l h=>(hC l).1 h rfl
 simp only[startFr,Tryz.ntmps87,List.length_cons,List.length_nil,Nat.reduceAdd,Nat.reduceSub,List.replicate_succ,List.replicate_zero,List.cons_append,List.nil_append]
 repeat' (first|((first|apply Ba|(apply Bb;(· rfl);(· rfl))|(apply Bc;(· exact nxE))|(apply Bd;(· rfl);(· rfl);(· exact nxE)));(· first|exact Kz rfl rfl (hF) (Ad An)|exact Ok.pe))|((first|apply Ca|(apply Cb;(· exact nxE)));(· first|exact Ok.e0))|refine Sx ?_|(refine Sy (fun h=>?_) (fun h=>?_)<;>try (exfalso;omega;done))|refine Sz (fun h=>?_) (fun h=>?_))
 refine Ya ?_
 (apply Le.headZ (hs:=[]) [] rfl)
 all_goals (try dsimp only[srcs])
 (case' hfr=>(repeat' (first|refine La ?_ ?_|exact Lc|refine Lo ?_|refine ⟨⟨_,rfl,?_⟩,?_⟩|refine Lx ?_)))
 all_goals (first|exact Ld|exact trivial|(rfl))
theorem l01Finite_ac [Mode] (a:Int):AC Tryz.prog 115 [I a] H0 (Bo (wi a (-1000000) 1000000)) H0:=by
 have hI:=l01In_ac a (-1000000) 1000000
 refine AC.of_body 0 Tryz.func115 rfl (fun l h=>absurd rfl h) (fun C hC=>?_)
 have hD:∀ l,¬ C.D0 l:=fun l h=>(hC l).1 h rfl
 simp only[startFr,Tryz.ntmps115,List.length_cons,List.length_nil,Nat.reduceAdd,Nat.reduceSub,List.replicate_succ,List.replicate_zero,List.cons_append,List.nil_append]
 repeat' (first|((first|apply Ba|(apply Bb;(· rfl);(· rfl))|(apply Bc;(· exact nxE))|(apply Bd;(· rfl);(· rfl);(· exact nxE)));(· first|exact Kz rfl rfl (hI) (Ad (Ad (Ad An)))|exact Ok.pe))|((first|apply Ca|(apply Cb;(· exact nxE)));(· first|exact Ok.e0))|refine Sx ?_|(refine Sy (fun h=>?_) (fun h=>?_)<;>try (exfalso;omega;done))|refine Sz (fun h=>?_) (fun h=>?_))
 refine Ya ?_
 (apply Le.headZ (hs:=[]) [] rfl)
 all_goals (try dsimp only[srcs])
 (case' hfr=>(repeat' (first|refine La ?_ ?_|exact Lc|refine Lo ?_|refine ⟨⟨_,rfl,?_⟩,?_⟩|refine Lx ?_)))
 all_goals (first|exact Ld|exact trivial|(rfl))
theorem sIsValue_ac [Mode] (a:Int):AC Tryz.prog 147 [I a] H0 (Bo (isVal a)) H0:=by
 have hF:=l01Finite_ac a
 unfold isVal BOT
 by_cases h:a=-1000000000000000
 ·rw[decide_eq_true h]
  subst h
  refine AC.of_body 0 Tryz.func147 rfl (fun l h=>absurd rfl h) (fun C hC=>?_)
  have hD:∀ l,¬ C.D0 l:=fun l h=>(hC l).1 h rfl
  simp only[startFr,Tryz.ntmps147,List.length_cons,List.length_nil,Nat.reduceAdd,Nat.reduceSub,List.replicate_succ,List.replicate_zero,List.cons_append,List.nil_append]
  repeat' (first|((first|apply Ba|(apply Bb;(· rfl);(· rfl))|(apply Bc;(· exact nxE))|(apply Bd;(· rfl);(· rfl);(· exact nxE)));(· first|exact Ok.pe))|((first|apply Ca|(apply Cb;(· exact nxE)));(· first|exact Ok.e0))|refine Sx ?_|(refine Sy (fun h=>?_) (fun h=>?_)<;>try (exfalso;omega;done))|refine Sz (fun h=>?_) (fun h=>?_))
  refine Ya ?_
  (apply Le.headZ (hs:=[]) [] rfl)
  all_goals (try dsimp only[srcs])
  (case' hfr=>(repeat' (first|refine La ?_ ?_|exact Lc|refine Lo ?_|refine ⟨⟨_,rfl,?_⟩,?_⟩|refine Lx ?_)))
  all_goals (first|exact Ld|exact trivial|(rfl))
 ·rw[decide_eq_false h]
  refine AC.of_body 0 Tryz.func147 rfl (fun l h=>absurd rfl h) (fun C hC=>?_)
  have hD:∀ l,¬ C.D0 l:=fun l h=>(hC l).1 h rfl
  simp only[startFr,Tryz.ntmps147,List.length_cons,List.length_nil,Nat.reduceAdd,Nat.reduceSub,List.replicate_succ,List.replicate_zero,List.cons_append,List.nil_append]
  repeat' (first|((first|apply Ba|(apply Bb;(· rfl);(· rfl))|(apply Bc;(· exact nxE))|(apply Bd;(· rfl);(· rfl);(· exact nxE)));(· first|exact Kz rfl rfl (hF) (Ad An)|exact Ok.pe))|((first|apply Ca|(apply Cb;(· exact nxE)));(· first|exact Ok.e0))|refine Sx ?_|(refine Sy (fun h=>?_) (fun h=>?_)<;>try (exfalso;omega;done))|refine Sz (fun h=>?_) (fun h=>?_))
  all_goals
   refine Ya ?_
   (apply Le.headZ (hs:=[]) [] rfl)
   all_goals (try dsimp only[srcs])
   (case' hfr=>(repeat' (first|refine La ?_ ?_|exact Lc|refine Lo ?_|refine ⟨⟨_,rfl,?_⟩,?_⟩|refine Lx ?_)))
   all_goals (first|exact Ld|exact trivial|(rfl))
theorem Ce [Mode] {H:Heap}{lent:List Loc}{cs vs:List AV}{g:FuncId} (h:CA H lent cs vs):CA H lent (.clo (.func g) [] [] :: cs) (.clo (.func g) [] [] :: vs):=ARs.cons (AR.clo' ARs.nil ARs.nil) h
set_option maxHeartbeats 1000000 in
theorem indexFuncI_ac [Mode] (xs:List Int) (hn:xs.length≤100000000) (g:FuncId) [FnBody Tryz.prog g] (pred:Int→Bool) (hg:∀ x∈xs,AC Tryz.prog g [I x] H0 (Bo (pred x)) H0):AC Tryz.prog 137 [IL xs,.clo (.func g) [] []] H0 (I (idxOf pred xs 0)) H0:=by
 refine AC.of_body 0 Tryz.func137 rfl (fun l h=>absurd rfl h) (fun C hC=>?_)
 have hD:∀ l,¬ C.D0 l:=fun l h=>(hC l).1 h rfl
 simp only[startFr,Tryz.ntmps137,List.length_cons,List.length_nil,Nat.reduceAdd,Nat.reduceSub,List.replicate_succ,List.replicate_zero,List.cons_append,List.nil_append]
 repeat' (first|((first|apply Ba|(apply Bb;(· rfl);(· rfl))|(apply Bc;(· exact nxE))|(apply Bd;(· rfl);(· rfl);(· exact nxE)));(· first|exact Ok.pe))|((first|apply Ca|(apply Cb;(· exact nxE)));(· first|exact Ok.e0))|refine Sx ?_|(refine Sy (fun h=>?_) (fun h=>?_)<;>try (exfalso;omega;done))|refine Sz (fun h=>?_) (fun h=>?_))
 refine AW.loop (X:={k:Nat // k≤xs.length∧idxOf pred xs 0=idxOf pred (xs.drop k) k}) (fun k=>⟨[IL xs,.clo (.func g) [] [],Oo,Oo,Oo,Oo,Oo,I xs.length,I (k.1:Nat),Oo,Oo,Oo,Oo,Oo,Oo,Oo,Oo,Oo,Oo],heapL [],900⟩) (fun k=>xs.length - k.1) ⟨0,Nat.zero_le _,by simp⟩ ?_ (fun k=>?_)
 ·
  (apply Le.headZ [] rfl)
  all_goals (try dsimp only[srcs])
  (case' hfr|hob=>(repeat' (first|refine La ?_ ?_|exact Lc|refine Lo ?_|refine ⟨⟨_,rfl,?_⟩,?_⟩|refine Lx ?_)))
  all_goals (first|(rfl)|exact Ld)
 obtain ⟨k,hk,hall⟩:=k
 simp only
 by_cases hlt:k<xs.length
 ·obtain ⟨x,hx⟩:∃ x,xs[k]? = some x:=⟨xs[k],by simp⟩
  have hrow:=IR_get hx
  have hgx:=hg x (List.mem_of_getElem? hx)
  have hst:=idxOf_at (f:=pred) hx k
  rw[← hall] at hst
  generalize pred x=px at *
  cases px
  ·rw[if_neg (by simp)] at hst
   repeat' (first|((first|apply Ba|(apply Bb;(· rfl);(· rfl))|(apply Bc;(· exact nxE))|(apply Bd;(· rfl);(· rfl);(· exact nxE)));(· first|exact Kz rfl rfl hgx (Ad An)|exact Ok.pe))|((first|apply Ca|(apply Cb;(· exact nxE)));(· first|exact Ok.e0))|refine Sx ?_|(refine Sy (fun h=>?_) (fun h=>?_)<;>try (exfalso;omega;done))|refine Sz (fun h=>?_) (fun h=>?_))
   refine ⟨⟨k+1,by omega,hst⟩,?_,by simp only;omega⟩
   (apply Le.headZ [] rfl)
   all_goals (try dsimp only[srcs])
   (case' hfr|hob=>(repeat' (first|refine La ?_ ?_|exact Lc|refine Lo ?_|refine ⟨⟨_,rfl,?_⟩,?_⟩|refine Lx ?_)))
   all_goals (first|(rfl)|exact Ld)
  ·rw[if_pos rfl] at hst
   rw[hst]
   repeat' (first|((first|apply Ba|(apply Bb;(· rfl);(· rfl))|(apply Bc;(· exact nxE))|(apply Bd;(· rfl);(· rfl);(· exact nxE)));(· first|exact Kz rfl rfl hgx (Ad An)|exact Ok.pe))|((first|apply Ca|(apply Cb;(· exact nxE)));(· first|exact Ok.e0))|refine Sx ?_|(refine Sy (fun h=>?_) (fun h=>?_)<;>try (exfalso;omega;done))|refine Sz (fun h=>?_) (fun h=>?_))
   refine Ya ?_
   (apply Le.headZ (hs:=[]) [] rfl)
   all_goals (try dsimp only[srcs])
   (case' hfr=>(repeat' (first|refine La ?_ ?_|exact Lc|refine Lo ?_|refine ⟨⟨_,rfl,?_⟩,?_⟩|refine Lx ?_)))
   all_goals (first|exact Ld|exact trivial|(rfl))
 ·have hk':k=xs.length:=by omega
  rw[hk',List.drop_length] at hall
  rw[hall]
  repeat' (first|((first|apply Ba|(apply Bb;(· rfl);(· rfl))|(apply Bc;(· exact nxE))|(apply Bd;(· rfl);(· rfl);(· exact nxE)));(· first|exact Ok.pe))|((first|apply Ca|(apply Cb;(· exact nxE)));(· first|exact Ok.e0))|refine Sx ?_|(refine Sy (fun h=>?_) (fun h=>?_)<;>try (exfalso;omega;done))|refine Sz (fun h=>?_) (fun h=>?_))
  refine Ya ?_
  (apply Le.headZ (hs:=[]) [] rfl)
  all_goals (try dsimp only[srcs])
  (case' hfr=>(repeat' (first|refine La ?_ ?_|exact Lc|refine Lo ?_|refine ⟨⟨_,rfl,?_⟩,?_⟩|refine Lx ?_)))
  all_goals (first|exact Ld|exact trivial|(rfl))
theorem containsFuncI_ac [Mode] (xs:List Int) (hn:xs.length≤100000000) (g:FuncId) [FnBody Tryz.prog g] (pred:Int→Bool) (hg:∀ x∈xs,AC Tryz.prog g [I x] H0 (Bo (pred x)) H0):AC Tryz.prog 86 [IL xs,.clo (.func g) [] []] H0 (Bo (xs.any pred)) H0:=by
 have hI:=indexFuncI_ac xs hn g pred hg
 rw[← idxOf_any]
 refine AC.of_body 0 Tryz.func86 rfl (fun l h=>absurd rfl h) (fun C hC=>?_)
 have hD:∀ l,¬ C.D0 l:=fun l h=>(hC l).1 h rfl
 simp only[startFr,Tryz.ntmps86,List.length_cons,List.length_nil,Nat.reduceAdd,Nat.reduceSub,List.replicate_succ,List.replicate_zero,List.cons_append,List.nil_append]
 repeat' (first|((first|apply Ba|(apply Bb;(· rfl);(· rfl))|(apply Bc;(· exact nxE))|(apply Bd;(· rfl);(· rfl);(· exact nxE)));(· first|exact Ez rfl rfl hI (Sd (Ce Sn))|exact Ok.pe))|((first|apply Ca|(apply Cb;(· exact nxE)));(· first|exact Ok.e0))|refine Sx ?_|(refine Sy (fun h=>?_) (fun h=>?_)<;>try (exfalso;omega;done))|refine Sz (fun h=>?_) (fun h=>?_))
 refine Ya ?_
 (apply Le.headZ (hs:=[]) [] rfl)
 all_goals (try dsimp only[srcs])
 (case' hfr=>(repeat' (first|refine La ?_ ?_|exact Lc|refine Lo ?_|refine ⟨⟨_,rfl,?_⟩,?_⟩|refine Lx ?_)))
 all_goals (first|exact Ld|exact trivial|(rfl))
theorem areValues_ac [Mode] (xs:List Int) (hn:xs.length≤100000000):AC Tryz.prog 35 [IL xs] H0 (Bo (xs.all isVal)) H0:=by
 have hQ:=containsFuncI_ac xs hn 87 (fun a=>!isVal a) (fun x _=>areFn_ac x)
 rw[show xs.all isVal = !(xs.any fun a=>!isVal a) by rw[List.all_eq_not_any_not]]
 refine AC.of_body 0 Tryz.func35 rfl (fun l h=>absurd rfl h) (fun C hC=>?_)
 have hD:∀ l,¬ C.D0 l:=fun l h=>(hC l).1 h rfl
 simp only[startFr,Tryz.ntmps35,List.length_cons,List.length_nil,Nat.reduceAdd,Nat.reduceSub,List.replicate_succ,List.replicate_zero,List.cons_append,List.nil_append]
 repeat' (first|((first|apply Ba|(apply Bb;(· rfl);(· rfl))|(apply Bc;(· exact nxE))|(apply Bd;(· rfl);(· rfl);(· exact nxE)));(· first|exact Ez rfl rfl hQ (Sd (Ce Sn))|exact Ok.pe))|((first|apply Ca|(apply Cb;(· exact nxE)));(· first|exact Ok.e0))|refine Sx ?_|(refine Sy (fun h=>?_) (fun h=>?_)<;>try (exfalso;omega;done))|refine Sz (fun h=>?_) (fun h=>?_))
 refine Ya ?_
 (apply Le.headZ (hs:=[]) [] rfl)
 all_goals (try dsimp only[srcs])
 (case' hfr=>(repeat' (first|refine La ?_ ?_|exact Lc|refine Lo ?_|refine ⟨⟨_,rfl,?_⟩,?_⟩|refine Lx ?_)))
 all_goals (first|exact Ld|exact trivial|(rfl))
set_option maxHeartbeats 1000000 in
theorem l01All_ac [Mode] (xs:List Int) (hn:xs.length≤100000000):AC Tryz.prog 97 [IL xs,Bo true] H0 (Bo (xs.all fun a=>isVal a&&!decide (a=BOT))) H0:=by
 refine AC.of_body 0 Tryz.func97 rfl (fun l h=>absurd rfl h) (fun C hC=>?_)
 have hD:∀ l,¬ C.D0 l:=fun l h=>(hC l).1 h rfl
 simp only[startFr,Tryz.ntmps97,List.length_cons,List.length_nil,Nat.reduceAdd,Nat.reduceSub,List.replicate_succ,List.replicate_zero,List.cons_append,List.nil_append]
 repeat' (first|((first|apply Ba|(apply Bb;(· rfl);(· rfl))|(apply Bc;(· exact nxE))|(apply Bd;(· rfl);(· rfl);(· exact nxE)));(· first|exact Ok.pe))|((first|apply Ca|(apply Cb;(· exact nxE)));(· first|exact Ok.e0))|refine Sx ?_|(refine Sy (fun h=>?_) (fun h=>?_)<;>try (exfalso;omega;done))|refine Sz (fun h=>?_) (fun h=>?_))
 refine AW.loop (X:={k:Nat // k≤xs.length∧xs.all (fun a=>isVal a&&!decide (a=BOT))=(xs.drop k).all (fun a=>isVal a&&!decide (a=BOT))}) (fun k=>⟨[IL xs,Bo true,Oo,Oo,Oo,I (k.1:Nat),Oo,Oo,Oo,Oo,Oo,Oo,Oo,Oo,Oo,Oo,Oo,Oo,Oo,Oo,Oo,Oo,Oo,Oo,Oo,Oo,Oo,Oo],heapL [],900⟩) (fun k=>xs.length - k.1) ⟨0,Nat.zero_le _,by simp⟩ ?_ (fun k=>?_)
 ·
  (apply Le.headZ [] rfl)
  all_goals (try dsimp only[srcs])
  (case' hfr|hob=>(repeat' (first|refine La ?_ ?_|exact Lc|refine Lo ?_|refine ⟨⟨_,rfl,?_⟩,?_⟩|refine Lx ?_)))
  all_goals (first|(rfl)|exact Ld)
 obtain ⟨k,hk,hall⟩:=k
 simp only
 by_cases hlt:k<xs.length
 ·obtain ⟨x,hx⟩:∃ x,xs[k]? = some x:=⟨xs[k],by simp⟩
  have hrow:=IR_get hx
  have hV:=sIsValue_ac x
  have hno:=fun h=>all_no (f:=fun a=>isVal a&&!decide (a=BOT)) hx h
  have hyes:=fun h=>all_step (f:=fun a=>isVal a&&!decide (a=BOT)) hx hall h
  cases hvx:isVal x
  ·rw[hvx] at hV
   rw[hno (by rw[hvx];rfl)]
   repeat' (first|((first|apply Ba|(apply Bb;(· rfl);(· rfl))|(apply Bc;(· exact nxE))|(apply Bd;(· rfl);(· rfl);(· exact nxE)));(· first|exact Kz rfl rfl (hV) (Ad An)|exact Ok.pe))|((first|apply Ca|(apply Cb;(· exact nxE)));(· first|exact Ok.e0))|refine Sx ?_|(refine Sy (fun h=>?_) (fun h=>?_)<;>try (exfalso;omega;done))|refine Sz (fun h=>?_) (fun h=>?_))
   refine Ya ?_
   (apply Le.headZ (hs:=[]) [] rfl)
   all_goals (try dsimp only[srcs])
   (case' hfr=>(repeat' (first|refine La ?_ ?_|exact Lc|refine Lo ?_|refine ⟨⟨_,rfl,?_⟩,?_⟩|refine Lx ?_)))
   all_goals (first|exact Ld|exact trivial|(rfl))
  ·rw[hvx] at hV
   by_cases hb:x=BOT
   ·rw[hno (by rw[decide_eq_true hb];simp)]
    unfold BOT at hb
    repeat' (first|((first|apply Ba|(apply Bb;(· rfl);(· rfl))|(apply Bc;(· exact nxE))|(apply Bd;(· rfl);(· rfl);(· exact nxE)));(· first|exact Kz rfl rfl (hV) (Ad An)|exact Ok.pe))|((first|apply Ca|(apply Cb;(· exact nxE)));(· first|exact Ok.e0))|refine Sx ?_|(refine Sy (fun h=>?_) (fun h=>?_)<;>try (exfalso;omega;done))|refine Sz (fun h=>?_) (fun h=>?_))
    refine Ya ?_
    (apply Le.headZ (hs:=[]) [] rfl)
    all_goals (try dsimp only[srcs])
    (case' hfr=>(repeat' (first|refine La ?_ ?_|exact Lc|refine Lo ?_|refine ⟨⟨_,rfl,?_⟩,?_⟩|refine Lx ?_)))
    all_goals (first|exact Ld|exact trivial|(rfl))
   ·have hy:=hyes (by rw[hvx,decide_eq_false hb];rfl)
    unfold BOT at hb
    repeat' (first|((first|apply Ba|(apply Bb;(· rfl);(· rfl))|(apply Bc;(· exact nxE))|(apply Bd;(· rfl);(· rfl);(· exact nxE)));(· first|exact Kz rfl rfl (hV) (Ad An)|exact Ok.pe))|((first|apply Ca|(apply Cb;(· exact nxE)));(· first|exact Ok.e0))|refine Sx ?_|(refine Sy (fun h=>?_) (fun h=>?_)<;>try (exfalso;omega;done))|refine Sz (fun h=>?_) (fun h=>?_))
    refine ⟨⟨k+1,by omega,hy⟩,?_,by simp only;omega⟩
    (apply Le.headZ [] rfl)
    all_goals (try dsimp only[srcs])
    (case' hfr|hob=>(repeat' (first|refine La ?_ ?_|exact Lc|refine Lo ?_|refine ⟨⟨_,rfl,?_⟩,?_⟩|refine Lx ?_)))
    all_goals (first|(rfl)|exact Ld)
 ·have hk':k=xs.length:=by omega
  rw[hk',List.drop_length] at hall
  rw[hall,List.all_nil]
  repeat' (first|((first|apply Ba|(apply Bb;(· rfl);(· rfl))|(apply Bc;(· exact nxE))|(apply Bd;(· rfl);(· rfl);(· exact nxE)));(· first|exact Ok.pe))|((first|apply Ca|(apply Cb;(· exact nxE)));(· first|exact Ok.e0))|refine Sx ?_|(refine Sy (fun h=>?_) (fun h=>?_)<;>try (exfalso;omega;done))|refine Sz (fun h=>?_) (fun h=>?_))
  refine Ya ?_
  (apply Le.headZ (hs:=[]) [] rfl)
  all_goals (try dsimp only[srcs])
  (case' hfr=>(repeat' (first|refine La ?_ ?_|exact Lc|refine Lo ?_|refine ⟨⟨_,rfl,?_⟩,?_⟩|refine Lx ?_)))
  all_goals (first|exact Ld|exact trivial|(rfl))
theorem IsRatio_ac [Mode] (a b:Nat) (h1:a≤1000000) (h2:1≤b) (h3:b≤1000000) (hg:Nat.gcd a b=1):AC Tryz.prog 93 [.agg [I a,I b]] H0 (Bo true) H0:=by
 have hF:=l01Finite_ac a
 have hI:=l01In_ac b 1 1000000
 have hD:=l01Divisor_ac a b (by omega) (by omega)
 rw[hg] at hD
 rw[show wi (a:Int) (-1000000) 1000000=true from wi_iff.2 (by omega)] at hF
 rw[show wi (b:Int) 1 1000000=true from wi_iff.2 (by omega)] at hI
 have hG:=hD
 clear hD
 refine AC.of_body 0 Tryz.func93 rfl (fun l h=>absurd rfl h) (fun C hC=>?_)
 have hD:∀ l,¬ C.D0 l:=fun l h=>(hC l).1 h rfl
 simp only[startFr,Tryz.ntmps93,List.length_cons,List.length_nil,Nat.reduceAdd,Nat.reduceSub,List.replicate_succ,List.replicate_zero,List.cons_append,List.nil_append]
 repeat' (first|((first|apply Ba|(apply Bb;(· rfl);(· rfl))|(apply Bc;(· exact nxE))|(apply Bd;(· rfl);(· rfl);(· exact nxE)));(· first|exact Kz rfl rfl (hF) (Ad An)|exact Kz rfl rfl (hI) (Ad (Ad (Ad An)))|exact Kz rfl rfl (hG) (Ad (Ad An))|exact Ok.pe))|((first|apply Ca|(apply Cb;(· exact nxE)));(· first|exact Ok.e0))|refine Sx ?_|(refine Sy (fun h=>?_) (fun h=>?_)<;>try (exfalso;omega;done))|refine Sz (fun h=>?_) (fun h=>?_))
 refine Ya ?_
 (apply Le.headZ (hs:=[]) [] rfl)
 all_goals (try dsimp only[srcs])
 (case' hfr=>(repeat' (first|refine La ?_ ?_|exact Lc|refine Lo ?_|refine ⟨⟨_,rfl,?_⟩,?_⟩|refine Lx ?_)))
 all_goals (first|exact Ld|exact trivial|(rfl))
end
section
open Go Go.RowKit
attribute [local irreducible] AL AD AW OpOk Le AC thenQ blockQ EndQ
def stP (k e:Nat) (F:Nat→Nat→Int) (p:Pl):Nat→Nat→Int:=
 if p.t=(e:Int)∧p.k≤(k:Int) then fun a b=>if a=k∧b=e then max (F k e) (F (k - p.k.toNat) p.f.toNat+p.d) else F a b else F
def stE (xs:List Pl) (k:Nat) (F:Nat→Nat→Int) (e:Nat):Nat→Nat→Int:=xs.foldl (stP k e) F
def stR (xs:List Pl) (ord:List Nat) (k:Nat) (F:Nat→Nat→Int):Nat→Nat→Int:=ord.foldl (stE xs k) F
def stZ (s0:Nat→Int) (k:Nat) (F:Nat→Nat→Int):Nat→Nat→Int:=fun a b=>if a=k then s0 b else F a b
def stT (xs:List Pl) (ord:List Nat) (s0:Nat→Int):Nat→Nat→Nat→Int
 | 0=>fun _ _=>0
 | k+1=>stR xs ord k (stZ s0 k (stT xs ord s0 k))
theorem stP_le [Mode] {n k e:Nat}{F:Nat→Nat→Int}{p:Pl}{B:Int} (hp:okPl n p) (h:bndF F B):bndF (stP k e F p) (B+10000):=fun a b=>by
 unfold stP
 have h1:=h a b
 have h2:=h k e
 have h3:=h (k - p.k.toNat) p.f.toNat
 have h4:=hp.2.2.1
 split
 ·simp only;split<;>omega
 ·omega
theorem stE_le [Mode] {n k e:Nat}{xs:List Pl} (hv:∀ p∈xs,okPl n p) {F:Nat→Nat→Int}{B:Int} (h:bndF F B):∀ q,bndF ((xs.take q).foldl (stP k e) F) (B+10000*(q:Int))
 | 0=>by simpa using h
 | q+1=>by
  have ih:=stE_le (k:=k) (e:=e) hv h q
  by_cases hq:q<xs.length
  ·rw[take_fold (List.getElem?_eq_getElem hq)]
   intro a b
   have:=stP_le (k:=k) (e:=e) (hv _ (List.getElem_mem hq)) ih a b
   omega
  ·rw[List.take_of_length_le (by omega)];rw[List.take_of_length_le (by omega)] at ih
   intro a b
   have:=ih a b
   omega
theorem stR_le [Mode] {n k:Nat}{xs:List Pl} (hv:∀ p∈xs,okPl n p) (hx:xs.length≤30) {ord:List Nat}{F:Nat→Nat→Int}{B:Int} (h:bndF F B):∀ J,bndF ((ord.take J).foldl (stE xs k) F) (B+300000*(J:Int))
 | 0=>by simpa using h
 | J+1=>by
  have ih:=stR_le (k:=k) hv hx (ord:=ord) h J
  by_cases hJ:J<ord.length
  ·rw[take_fold (List.getElem?_eq_getElem hJ)]
   intro a b
   have:=stE_le (k:=k) (e:=ord[J]) hv ih xs.length a b
   rw[List.take_length] at this
   have e:stE xs k ((ord.take J).foldl (stE xs k) F) ord[J]=xs.foldl (stP k ord[J]) ((ord.take J).foldl (stE xs k) F):=rfl
   rw[e]
   omega
  ·rw[List.take_of_length_le (by omega)];rw[List.take_of_length_le (by omega)] at ih
   intro a b
   have:=ih a b
   omega
theorem stZ_le [Mode] {s0:Nat→Int}{k:Nat}{F:Nat→Nat→Int}{B:Int} (hs:∀ b,0≤s0 b∧s0 b≤B) (h:bndF F B):bndF (stZ s0 k F) B:=fun a b=>by
 unfold stZ;split
 ·exact hs b
 ·exact h a b
theorem stT_le [Mode] {n:Nat}{xs:List Pl} (hv:∀ p∈xs,okPl n p) (hx:xs.length≤30) {ord:List Nat} (ho:ord.length≤10) {s0:Nat→Int} (hs:∀ b,0≤s0 b∧s0 b≤1000000):∀ k,bndF (stT xs ord s0 k) (1000000+3000000*(k:Int))
 | 0=>fun a b=>by simp[stT]
 | k+1=>fun a b=>by
  have ih:=stT_le hv hx ho hs k
  have h1:=stZ_le (k:=k) (s0:=s0) (fun b=>by have:=hs b;omega) ih
  have h2:=stR_le (k:=k) hv hx (ord:=ord) h1 ord.length a b
  rw[List.take_length] at h2
  simp only[stT,stR]
  omega
theorem stP_yes [Mode] {k e:Nat}{F:Nat→Nat→Int}{p:Pl}{u w:Nat} (h1:p.t=(e:Int)) (h2:p.k=(w:Int)) (h3:w≤k) (h4:p.f=(u:Int)):stP k e F p=fun a b=>if a=k∧b=e then max (F k e) (F (k - w) u+p.d) else F a b:=by
 unfold stP
 rw[if_pos ⟨h1,by omega⟩,h2,h4,Int.toNat_natCast,Int.toNat_natCast]
theorem stP_no [Mode] {k e:Nat}{F:Nat→Nat→Int}{p:Pl} (h:¬ (p.t=(e:Int)∧p.k≤(k:Int))):stP k e F p=F:=by
 unfold stP;rw[if_neg h]
theorem tabF_row1 [Mode] {m n:Nat}{s0:Nat→Int}{F:Nat→Nat→Int}:TR (tabF (m+1) n (stZ s0 m F))=TR (tabF m n F)++[IR (rowF n s0)]:=by
 have e:tabF (m+1) n (stZ s0 m F)=tabF m n F++[rowF n s0]:=by
  unfold tabF
  rw[List.range_succ,List.map_append]
  congr 1
  ·refine List.map_congr_left fun i hi=>?_
   have:=List.mem_range.1 hi
   refine rowF_congr fun j _=>?_
   unfold stZ;rw[if_neg (by omega)]
  ·simp only[List.map_cons,List.map_nil]
   congr 1
   exact rowF_congr fun j _=>by unfold stZ;rw[if_pos rfl]
 rw[e];exact List.map_append
theorem AR.ownL [Mode] {H:Heap}{lent:Loc→Prop}{τ:Loc→Loc}{L:Loc→Prop}{k off n n':Nat}{l l':Loc} (hτ:τ l=l') (hn:n=n') (h:L l):AR H lent τ L (.own k l off n) (.own k l' off n'):=by
 subst hτ;subst hn;exact AR.own k l off n h
end
section
open Go Go.RowKit
attribute [local irreducible] AL AD AW OpOk Le AC thenQ blockQ EndQ
theorem liveI_ok [Mode] {ev:Int}{xs:List Pl} (h:liveI ev xs=0):∃ n:Nat,ev=n∧1≤n∧n≤10∧xs.length≤30∧(∀ p∈xs,okPl n p)∧∃ ord,ordR n xs=some ord:=by
 unfold liveI at h
 by_cases hg:isEG ev xs=true
 ·obtain ⟨n,rfl,h1,h2,h3,h4⟩:=isEG_ok hg
  refine ⟨n,rfl,h1,h2,h3,h4,?_⟩
  rw[if_pos hg] at h
  have hl:liveB n xs=true:=by
   cases hb:liveB n xs
   ·rw[hb] at h;simp at h
   ·rfl
  rw[liveB_ord h4] at hl
  exact Option.isSome_iff_exists.1 hl
 ·rw[if_neg hg] at h;simp at h
end
section
open Go Go.RowKit
attribute [local irreducible] AL AD AW OpOk Le AC thenQ blockQ EndQ
structure TabOk (T:List (List Int)):Prop where
 l:T.length≤100
 r:∀ r∈T,r.length≤100
section
variable {H : Heap} {lent : Loc → Prop} {τ : Loc → Loc} {L : Loc → Prop}
end
end
section
open Go Go.RowKit
attribute [local irreducible] AL AD AW OpOk Le AC thenQ blockQ EndQ
section
variable {P : Program} {o : Oper} {A : Operand → AV} {H : Heap} {new : Nat}
theorem Fx [Mode] {fo x:Operand}{ts:Array TypeId}{f:FuncId}{code:List Int}{s:Src} (hc:AC P f [.d (BD code)] H0 (Bx 3 0) (srcH code s)) (ho:o.op = .call { callee:=.value fo,args:=#[x],argTypes:=ts }) [FnBody P f] (hfo:A fo = .clo (.func f) [] [])
  (hx:A x = .d (BD code)):OpOk P o A [] H new (.ptr 3 ⟨new,[0]⟩ 0 0) [.one ⟨new,[0]⟩ (some (srcO code s))]:=
 OpOk.call1n (xs:=[x]) [] ho hfo hc (.inl rfl) (fun g=>rnO_dobj _ _ _) (by
  show ARs _ _ _ _ _ [A x]
  rw[hx];exact .cons (AR.dd _) .nil) (by rw[rn])
theorem Zl [Mode] {fo x:Operand}{xs:List Operand}{ts:Array TypeId}{f:FuncId}{l:Loc}{code:List Int}{s s':Src}{args:List AV}{res:AV} (hc:AC P f (Bx 3 0 :: args) (srcH code s) res (srcH code s')) (ho:o.op = .call { callee:=.value fo,args:=(x :: xs).toArray,argTypes:=ts }) [FnBody P f] (hfo:A fo = .clo (.func f) [] [])
  (hx:A x = .ptr 3 l 0 0) (hl:H l=some (srcO code s)) (hy:ARs H (fun _=>False) (fun _=>l) (· = ⟨0,[]⟩) args (xs.map A)) (hres:∀ g,rn g res=res):OpOk P o A [l] H new res [.one l (some (srcO code s'))]:=
 OpOk.callMg ho hfo hc hl hres (by
  rw[List.append_nil]
  show ARs _ _ _ _ _ (A x :: xs.map A)
  rw[hx];exact .cons (AR.ptr 3 ⟨0,[]⟩ 0 0 rfl) hy)
end
theorem big_ac [Mode] (code:List Int) (hl:code.length≤9223372036854775807):AC Tryz.prog 5 [.d (BD code)] H0 (Bo (decide (4096<(code.length:Int)))) H0:=by
 refine AC.of_body 0 Tryz.func5 rfl (fun l h=>absurd rfl h) (fun C hC=>?_)
 have hD:∀ l,¬ C.D0 l:=fun l h=>(hC l).1 h rfl
 simp only[startFr,Tryz.ntmps5,List.length_cons,List.length_nil,Nat.reduceAdd,Nat.reduceSub,List.replicate_succ,List.replicate_zero,List.cons_append,List.nil_append]
 repeat' (first|((first|apply Ba|(apply Bb;(· rfl);(· rfl))|(apply Bc;(· exact nxE))|(apply Bd;(· rfl);(· rfl);(· exact nxE)));(· first|exact Ok.pe))|((first|apply Ca|(apply Cb;(· exact nxE)));(· first|exact Ok.e0))|refine Sx ?_|(refine Sy (fun h=>?_) (fun h=>?_)<;>try (exfalso;omega;done))|refine Sz (fun h=>?_) (fun h=>?_))
 refine Ya ?_
 (apply Le.headZ (hs:=[]) [] rfl)
 all_goals (try dsimp only[srcs])
 (case' hfr=>(repeat' (first|refine La ?_ ?_|exact Lc|refine Lo ?_|refine ⟨⟨_,rfl,?_⟩,?_⟩|refine Lx ?_)))
 all_goals (first|exact Ld|exact trivial|(rfl))
set_option maxHeartbeats 1000000 in
theorem likeInts_refl [Mode] (xs:List Int) (hn:xs.length≤100000000):AC Tryz.prog 9 [IL xs,IL xs] H0 (Bo true) H0:=by
 refine AC.of_body 0 Tryz.func9 rfl (fun l h=>absurd rfl h) (fun C hC=>?_)
 have hD:∀ l,¬ C.D0 l:=fun l h=>(hC l).1 h rfl
 simp only[startFr,Tryz.ntmps9,List.length_cons,List.length_nil,Nat.reduceAdd,Nat.reduceSub,List.replicate_succ,List.replicate_zero,List.cons_append,List.nil_append]
 repeat' (first|((first|apply Ba|(apply Bb;(· rfl);(· rfl))|(apply Bc;(· exact nxE))|(apply Bd;(· rfl);(· rfl);(· exact nxE)));(· first|exact Ok.pe))|((first|apply Ca|(apply Cb;(· exact nxE)));(· first|exact Ok.e0))|refine Sx ?_|(refine Sy (fun h=>?_) (fun h=>?_)<;>try (exfalso;omega;done))|refine Sz (fun h=>?_) (fun h=>?_))
 refine AW.loop (X:={k:Nat // k≤xs.length}) (fun k=>⟨[IL xs,IL xs,Oo,Oo,Oo,I (k.1:Nat),Oo,Oo,Oo,Oo,Oo,Oo,Oo,Oo,Oo,Oo,Oo,Oo,Oo,Oo,Oo,Oo,Oo,Oo,Oo,Oo],heapL [],900⟩) (fun k=>xs.length - k.1) ⟨0,Nat.zero_le _⟩ ?_ (fun k=>?_)
 ·
  (apply Le.headZ [] rfl)
  all_goals (try dsimp only[srcs])
  (case' hfr|hob=>(repeat' (first|refine La ?_ ?_|exact Lc|refine Lo ?_|refine ⟨⟨_,rfl,?_⟩,?_⟩|refine Lx ?_)))
  all_goals (first|(rfl)|exact Ld)
 obtain ⟨k,hk⟩:=k
 simp only
 by_cases hlt:k<xs.length
 ·obtain ⟨x,hx⟩:∃ x,xs[k]? = some x:=⟨xs[k],by simp⟩
  have hrow:=IR_get hx
  repeat' (first|((first|apply Ba|(apply Bb;(· rfl);(· rfl))|(apply Bc;(· exact nxE))|(apply Bd;(· rfl);(· rfl);(· exact nxE)));(· first|exact Ok.pe))|((first|apply Ca|(apply Cb;(· exact nxE)));(· first|exact Ok.e0))|refine Sx ?_|(refine Sy (fun h=>?_) (fun h=>?_)<;>try (exfalso;omega;done))|refine Sz (fun h=>?_) (fun h=>?_))
  refine ⟨⟨k+1,by omega⟩,?_,by simp only;omega⟩
  (apply Le.headZ [] rfl)
  all_goals (try dsimp only[srcs])
  (case' hfr|hob=>(repeat' (first|refine La ?_ ?_|exact Lc|refine Lo ?_|refine ⟨⟨_,rfl,?_⟩,?_⟩|refine Lx ?_)))
  all_goals (first|(rfl)|exact Ld)
 ·obtain rfl:k=xs.length:=by omega
  repeat' (first|((first|apply Ba|(apply Bb;(· rfl);(· rfl))|(apply Bc;(· exact nxE))|(apply Bd;(· rfl);(· rfl);(· exact nxE)));(· first|exact Ok.pe))|((first|apply Ca|(apply Cb;(· exact nxE)));(· first|exact Ok.e0))|refine Sx ?_|(refine Sy (fun h=>?_) (fun h=>?_)<;>try (exfalso;omega;done))|refine Sz (fun h=>?_) (fun h=>?_))
  refine Ya ?_
  (apply Le.headZ (hs:=[]) [] rfl)
  all_goals (try dsimp only[srcs])
  (case' hfr=>(repeat' (first|refine La ?_ ?_|exact Lc|refine Lo ?_|refine ⟨⟨_,rfl,?_⟩,?_⟩|refine Lx ?_)))
  all_goals (first|exact Ld|exact trivial|(rfl))
end
section
open Go Go.RowKit
attribute [local irreducible] AL AD AW OpOk Le AC thenQ blockQ EndQ
end
end Go.Proofs.YtkpoclbnnpglfaaGreat
