/-
  Walks in the abstract reading, part 15.
-/
import Derived.Test.YtkpoclbnnpglfaaGreatKtU14
import Derived.Test.YtkpoclbnnpglfaaGreatKtU1
import Derived.Test.YtkpoclbnnpglfaaGreatKtU2
import Derived.Test.YtkpoclbnnpglfaaGreatKtU5
import Derived.Test.YtkpoclbnnpglfaaGreatKtU8
set_option linter.unusedSimpArgs false
set_option linter.unusedVariables false
namespace Go.Proofs.YtkpoclbnnpglfaaGreat
section
open Go Go.RowKit
attribute [local irreducible] AL AD AW OpOk Le AC thenQ blockQ EndQ
set_option maxHeartbeats 8000000 in
theorem l20DrawPeriod_ex [Mode] (code:List Int) (hc:CodeOk code) (s:Src) (hs:SrcOk code s):∃ (ev:Int) (xs:List Pl) (P:Int) (s':Src),(0≤ev∧ev≤11)∧xs.length≤40∧(-1≤P∧P≤100002)∧SrcOk code s'∧AC Tryz.prog 41 [Bx 3 0] (srcH code s) (.tup [grD ev xs,I P]) (srcH code s'):=by
 have D1:=l15DrawZ_ac code hc s hs
 have hok:=dr15_ok hc hs
 generalize dr15 code s=g at *
 obtain ⟨ev,xs,s1⟩:=g
 obtain ⟨hev,_,hl,h1⟩:=hok
 simp only at hev hl h1 D1
 obtain ⟨a,s2,a1,a2,h2,_,N2⟩:=next_ex hc h1 20
 by_cases ha:a=0
 case neg=>
  have hL:=sLeastPeriod_ac ev (xs) (by first|omega|(simp only[List.length_take];omega))
  have hlb:lpC ev (xs)=0→0≤lpV ev (xs)∧lpV ev (xs)≤100000:=fun h=>by
   obtain ⟨m,rfl,_,_,_,_,_,h2,_⟩:=lp_ok h
   omega
  generalize lpC ev (xs)=c at *
  generalize lpV ev (xs)=p at *
  by_cases hc0:c=0
  case neg=>
   obtain ⟨x1,t1,_,_,k1,_,M1⟩:=next_ex hc h2 30
   obtain ⟨x2,t2,_,_,k2,_,M2⟩:=next_ex hc k1 30
   obtain ⟨x3,t3,_,_,k3,_,M3⟩:=next_ex hc k2 30
   obtain ⟨x4,t4,hx4,k4,_,_,K4⟩:=pick_ex hc k3 [-1,0,100000,100001] 4 rfl
   obtain ⟨x5,t5,hx5,k5,_,_,K5⟩:=pick_ex hc k4 [x1,x2,x3,x4] 4 rfl
   refine ⟨ev,xs,x5,t5,hev,hl,?_,k5,?_⟩
   ·simp only[List.mem_cons,List.not_mem_nil,or_false] at hx4 hx5
    omega
   show AC _ _ _ (heapL [(⟨0,[]⟩,⟨0,[]⟩,srcO code s)]) _ _
   refine AC.of_body 1 Tryz.func41 rfl (fun l h=>by simp[heapL,upd] at h;simp[h]) (fun C hC=>?_)
   simp only[startFr,Tryz.ntmps41,List.length_cons,List.length_nil,Nat.reduceAdd,Nat.reduceSub,List.replicate_succ,List.replicate_zero,List.cons_append,List.nil_append]
   have hD:∀ l,C.D0 l→l=⟨0,[]⟩:=fun l h=>by have:=(hC l).1 h;simp[heapL,upd] at this;exact this
   repeat' (first|((first|apply Ba|(apply Bb;(· rfl);(· rfl))|(apply Bc;(· exact nxE))|(apply Bd;(· rfl);(· rfl);(· exact nxE)));(· first|exact Kz rfl rfl (hL) (Aa (Ad (Ad An)) An)|exact Zx (args:=[]) D1 rfl rfl rfl rfl .nil (fun _=>by simp[rn])|exact Nx N2 rfl rfl rfl rfl rfl|exact Nx M1 rfl rfl rfl rfl rfl|exact Nx M2 rfl rfl rfl rfl rfl|exact Nx M3 rfl rfl rfl rfl rfl|exact Kx K4 rfl rfl rfl rfl rfl rfl (by decide)|exact Kx K5 rfl rfl rfl rfl rfl rfl (by decide)|exact Ok.bs4 rfl rfl rfl rfl rfl rfl|exact Ok.pe))|((first|apply Ca|(apply Cb;(· exact nxE)));(· first|exact Zx (args:=[]) D1 rfl rfl rfl rfl .nil (fun _=>by simp[rn])|exact Nx N2 rfl rfl rfl rfl rfl|exact Nx M1 rfl rfl rfl rfl rfl|exact Nx M2 rfl rfl rfl rfl rfl|exact Nx M3 rfl rfl rfl rfl rfl|exact Kx K4 rfl rfl rfl rfl rfl rfl (by decide)|exact Kx K5 rfl rfl rfl rfl rfl rfl (by decide)|exact Ok.bs4 rfl rfl rfl rfl rfl rfl|exact Ok.e0))|refine Sx ?_|(refine Sy (fun h=>?_) (fun h=>?_)<;>try (exfalso;omega;done))|refine Sz (fun h=>?_) (fun h=>?_))
   all_goals
    refine Yb ?_
    (apply Le.headZ (hs:=[(⟨0,[]⟩,⟨0,[]⟩,_)]) [⟨0,[]⟩] rfl)
    all_goals (try dsimp only[srcs])
    (case' hfr|hob=>(repeat' (first|refine La ?_ ?_|exact Lc|refine Lo ?_|refine ⟨⟨_,rfl,?_⟩,?_⟩|refine Lx ?_)))
    all_goals (first|exact Ld|exact trivial|(rfl))
  subst hc0
  have hlb:=hlb rfl
  obtain ⟨y,s5,y1,y2,h5,_,N5⟩:=next_ex hc h2 4
  by_cases hy:y=0
  ·obtain ⟨x1,t1,_,_,k1,_,M1⟩:=next_ex hc h5 30
   obtain ⟨x2,t2,_,_,k2,_,M2⟩:=next_ex hc k1 30
   obtain ⟨x3,t3,_,_,k3,_,M3⟩:=next_ex hc k2 30
   obtain ⟨x4,t4,hx4,k4,_,_,K4⟩:=pick_ex hc k3 [-1,0,100000,100001] 4 rfl
   obtain ⟨x5,t5,hx5,k5,_,_,K5⟩:=pick_ex hc k4 [x1,x2,x3,x4] 4 rfl
   refine ⟨ev,xs,x5,t5,hev,hl,?_,k5,?_⟩
   ·simp only[List.mem_cons,List.not_mem_nil,or_false] at hx4 hx5
    omega
   show AC _ _ _ (heapL [(⟨0,[]⟩,⟨0,[]⟩,srcO code s)]) _ _
   refine AC.of_body 1 Tryz.func41 rfl (fun l h=>by simp[heapL,upd] at h;simp[h]) (fun C hC=>?_)
   simp only[startFr,Tryz.ntmps41,List.length_cons,List.length_nil,Nat.reduceAdd,Nat.reduceSub,List.replicate_succ,List.replicate_zero,List.cons_append,List.nil_append]
   have hD:∀ l,C.D0 l→l=⟨0,[]⟩:=fun l h=>by have:=(hC l).1 h;simp[heapL,upd] at this;exact this
   repeat' (first|((first|apply Ba|(apply Bb;(· rfl);(· rfl))|(apply Bc;(· exact nxE))|(apply Bd;(· rfl);(· rfl);(· exact nxE)));(· first|exact Kz rfl rfl (hL) (Aa (Ad (Ad An)) An)|exact Zx (args:=[]) D1 rfl rfl rfl rfl .nil (fun _=>by simp[rn])|exact Nx N2 rfl rfl rfl rfl rfl|exact Nx N5 rfl rfl rfl rfl rfl|exact Nx M1 rfl rfl rfl rfl rfl|exact Nx M2 rfl rfl rfl rfl rfl|exact Nx M3 rfl rfl rfl rfl rfl|exact Kx K4 rfl rfl rfl rfl rfl rfl (by decide)|exact Kx K5 rfl rfl rfl rfl rfl rfl (by decide)|exact Ok.bs4 rfl rfl rfl rfl rfl rfl|exact Ok.pe))|((first|apply Ca|(apply Cb;(· exact nxE)));(· first|exact Zx (args:=[]) D1 rfl rfl rfl rfl .nil (fun _=>by simp[rn])|exact Nx N2 rfl rfl rfl rfl rfl|exact Nx N5 rfl rfl rfl rfl rfl|exact Nx M1 rfl rfl rfl rfl rfl|exact Nx M2 rfl rfl rfl rfl rfl|exact Nx M3 rfl rfl rfl rfl rfl|exact Kx K4 rfl rfl rfl rfl rfl rfl (by decide)|exact Kx K5 rfl rfl rfl rfl rfl rfl (by decide)|exact Ok.bs4 rfl rfl rfl rfl rfl rfl|exact Ok.e0))|refine Sx ?_|(refine Sy (fun h=>?_) (fun h=>?_)<;>try (exfalso;omega;done))|refine Sz (fun h=>?_) (fun h=>?_))
   all_goals
    refine Yb ?_
    (apply Le.headZ (hs:=[(⟨0,[]⟩,⟨0,[]⟩,_)]) [⟨0,[]⟩] rfl)
    all_goals (try dsimp only[srcs])
    (case' hfr|hob=>(repeat' (first|refine La ?_ ?_|exact Lc|refine Lo ?_|refine ⟨⟨_,rfl,?_⟩,?_⟩|refine Lx ?_)))
    all_goals (first|exact Ld|exact trivial|(rfl))
  ·obtain ⟨z,s6,z1,z2,h6,_,N6⟩:=next_ex hc h5 4
   refine ⟨ev,xs,max 0 (p+z - 1),s6,hev,hl,by omega,h6,?_⟩
   show AC _ _ _ (heapL [(⟨0,[]⟩,⟨0,[]⟩,srcO code s)]) _ _
   refine AC.of_body 1 Tryz.func41 rfl (fun l h=>by simp[heapL,upd] at h;simp[h]) (fun C hC=>?_)
   simp only[startFr,Tryz.ntmps41,List.length_cons,List.length_nil,Nat.reduceAdd,Nat.reduceSub,List.replicate_succ,List.replicate_zero,List.cons_append,List.nil_append]
   have hD:∀ l,C.D0 l→l=⟨0,[]⟩:=fun l h=>by have:=(hC l).1 h;simp[heapL,upd] at this;exact this
   repeat' (first|((first|apply Ba|(apply Bb;(· rfl);(· rfl))|(apply Bc;(· exact nxE))|(apply Bd;(· rfl);(· rfl);(· exact nxE)));(· first|exact Kz rfl rfl (hL) (Aa (Ad (Ad An)) An)|exact Zx (args:=[]) D1 rfl rfl rfl rfl .nil (fun _=>by simp[rn])|exact Nx N2 rfl rfl rfl rfl rfl|exact Nx N5 rfl rfl rfl rfl rfl|exact Nx N6 rfl rfl rfl rfl rfl|exact Ok.pe))|((first|apply Ca|(apply Cb;(· exact nxE)));(· first|exact Zx (args:=[]) D1 rfl rfl rfl rfl .nil (fun _=>by simp[rn])|exact Nx N2 rfl rfl rfl rfl rfl|exact Nx N5 rfl rfl rfl rfl rfl|exact Nx N6 rfl rfl rfl rfl rfl|exact Ok.e0))|refine Sx ?_|(refine Sy (fun h=>?_) (fun h=>?_)<;>try (exfalso;omega;done))|refine Sz (fun h=>?_) (fun h=>?_))
   all_goals
    refine Yb ?_
    (apply Le.headZ (hs:=[(⟨0,[]⟩,⟨0,[]⟩,_)]) [⟨0,[]⟩] rfl)
    all_goals (try dsimp only[srcs])
    (case' hfr|hob=>(repeat' (first|refine La ?_ ?_|exact Lc|refine Lo ?_|refine ⟨⟨_,rfl,?_⟩,?_⟩|refine Lx ?_)))
    all_goals (first|exact Ld|exact trivial|(rfl))
 have D3:=l12DrawZ_ac code hc s2 h2
 have hok2:=dr12_ok hc h2
 generalize dr12 code s2=g2 at *
 obtain ⟨ew,ys,s3⟩:=g2
 obtain ⟨hew,_,hk,h3⟩:=hok2
 simp only at hew hk h3 D3
 by_cases hcut:20<ys.length∧2<ew
 ·obtain ⟨u1,u2⟩:=hcut
  have hL:=sLeastPeriod_ac ew (ys.take 20) (by first|omega|(simp only[List.length_take];omega))
  have hlb:lpC ew (ys.take 20)=0→0≤lpV ew (ys.take 20)∧lpV ew (ys.take 20)≤100000:=fun h=>by
   obtain ⟨m,rfl,_,_,_,_,_,h2,_⟩:=lp_ok h
   omega
  generalize lpC ew (ys.take 20)=c at *
  generalize lpV ew (ys.take 20)=p at *
  by_cases hc0:c=0
  case neg=>
   obtain ⟨x1,t1,_,_,k1,_,M1⟩:=next_ex hc h3 30
   obtain ⟨x2,t2,_,_,k2,_,M2⟩:=next_ex hc k1 30
   obtain ⟨x3,t3,_,_,k3,_,M3⟩:=next_ex hc k2 30
   obtain ⟨x4,t4,hx4,k4,_,_,K4⟩:=pick_ex hc k3 [-1,0,100000,100001] 4 rfl
   obtain ⟨x5,t5,hx5,k5,_,_,K5⟩:=pick_ex hc k4 [x1,x2,x3,x4] 4 rfl
   refine ⟨ew,ys.take 20,x5,t5,hew,(by rw[List.length_take];omega),?_,k5,?_⟩
   ·simp only[List.mem_cons,List.not_mem_nil,or_false] at hx4 hx5
    omega
   show AC _ _ _ (heapL [(⟨0,[]⟩,⟨0,[]⟩,srcO code s)]) _ _
   refine AC.of_body 1 Tryz.func41 rfl (fun l h=>by simp[heapL,upd] at h;simp[h]) (fun C hC=>?_)
   simp only[startFr,Tryz.ntmps41,List.length_cons,List.length_nil,Nat.reduceAdd,Nat.reduceSub,List.replicate_succ,List.replicate_zero,List.cons_append,List.nil_append]
   have hD:∀ l,C.D0 l→l=⟨0,[]⟩:=fun l h=>by have:=(hC l).1 h;simp[heapL,upd] at this;exact this
   repeat' (first|((first|apply Ba|(apply Bb;(· rfl);(· rfl))|(apply Bc;(· exact nxE))|(apply Bd;(· rfl);(· rfl);(· exact nxE)));(· first|exact Kz rfl rfl (hL) (Aa (Ad (Ad An)) An)|exact Zx (args:=[]) D1 rfl rfl rfl rfl .nil (fun _=>by simp[rn])|exact Zx (args:=[]) D3 rfl rfl rfl rfl .nil (fun _=>by simp[rn])|exact Nx N2 rfl rfl rfl rfl rfl|exact Nx M1 rfl rfl rfl rfl rfl|exact Nx M2 rfl rfl rfl rfl rfl|exact Nx M3 rfl rfl rfl rfl rfl|exact Kx K4 rfl rfl rfl rfl rfl rfl (by decide)|exact Kx K5 rfl rfl rfl rfl rfl rfl (by decide)|exact Ok.bs4 rfl rfl rfl rfl rfl rfl|exact Ok.pe))|((first|apply Ca|(apply Cb;(· exact nxE)));(· first|exact Zx (args:=[]) D1 rfl rfl rfl rfl .nil (fun _=>by simp[rn])|exact Zx (args:=[]) D3 rfl rfl rfl rfl .nil (fun _=>by simp[rn])|exact Nx N2 rfl rfl rfl rfl rfl|exact Nx M1 rfl rfl rfl rfl rfl|exact Nx M2 rfl rfl rfl rfl rfl|exact Nx M3 rfl rfl rfl rfl rfl|exact Kx K4 rfl rfl rfl rfl rfl rfl (by decide)|exact Kx K5 rfl rfl rfl rfl rfl rfl (by decide)|exact Ok.bs4 rfl rfl rfl rfl rfl rfl|exact Ok.e0))|refine Sx ?_|(refine Sy (fun h=>?_) (fun h=>?_)<;>try (exfalso;omega;done))|refine Sz (fun h=>?_) (fun h=>?_))
   all_goals
    refine Yb ?_
    (apply Le.headZ (hs:=[(⟨0,[]⟩,⟨0,[]⟩,_)]) [⟨0,[]⟩] rfl)
    all_goals (try dsimp only[srcs])
    (case' hfr|hob=>(repeat' (first|refine La ?_ ?_|exact Lc|refine Lo ?_|refine ⟨⟨_,rfl,?_⟩,?_⟩|refine Lx ?_)))
    all_goals (first|exact Ld|exact trivial|(rfl))
  subst hc0
  have hlb:=hlb rfl
  obtain ⟨y,s5,y1,y2,h5,_,N5⟩:=next_ex hc h3 4
  by_cases hy:y=0
  ·obtain ⟨x1,t1,_,_,k1,_,M1⟩:=next_ex hc h5 30
   obtain ⟨x2,t2,_,_,k2,_,M2⟩:=next_ex hc k1 30
   obtain ⟨x3,t3,_,_,k3,_,M3⟩:=next_ex hc k2 30
   obtain ⟨x4,t4,hx4,k4,_,_,K4⟩:=pick_ex hc k3 [-1,0,100000,100001] 4 rfl
   obtain ⟨x5,t5,hx5,k5,_,_,K5⟩:=pick_ex hc k4 [x1,x2,x3,x4] 4 rfl
   refine ⟨ew,ys.take 20,x5,t5,hew,(by rw[List.length_take];omega),?_,k5,?_⟩
   ·simp only[List.mem_cons,List.not_mem_nil,or_false] at hx4 hx5
    omega
   show AC _ _ _ (heapL [(⟨0,[]⟩,⟨0,[]⟩,srcO code s)]) _ _
   refine AC.of_body 1 Tryz.func41 rfl (fun l h=>by simp[heapL,upd] at h;simp[h]) (fun C hC=>?_)
   simp only[startFr,Tryz.ntmps41,List.length_cons,List.length_nil,Nat.reduceAdd,Nat.reduceSub,List.replicate_succ,List.replicate_zero,List.cons_append,List.nil_append]
   have hD:∀ l,C.D0 l→l=⟨0,[]⟩:=fun l h=>by have:=(hC l).1 h;simp[heapL,upd] at this;exact this
   repeat' (first|((first|apply Ba|(apply Bb;(· rfl);(· rfl))|(apply Bc;(· exact nxE))|(apply Bd;(· rfl);(· rfl);(· exact nxE)));(· first|exact Kz rfl rfl (hL) (Aa (Ad (Ad An)) An)|exact Zx (args:=[]) D1 rfl rfl rfl rfl .nil (fun _=>by simp[rn])|exact Zx (args:=[]) D3 rfl rfl rfl rfl .nil (fun _=>by simp[rn])|exact Nx N2 rfl rfl rfl rfl rfl|exact Nx N5 rfl rfl rfl rfl rfl|exact Nx M1 rfl rfl rfl rfl rfl|exact Nx M2 rfl rfl rfl rfl rfl|exact Nx M3 rfl rfl rfl rfl rfl|exact Kx K4 rfl rfl rfl rfl rfl rfl (by decide)|exact Kx K5 rfl rfl rfl rfl rfl rfl (by decide)|exact Ok.bs4 rfl rfl rfl rfl rfl rfl|exact Ok.pe))|((first|apply Ca|(apply Cb;(· exact nxE)));(· first|exact Zx (args:=[]) D1 rfl rfl rfl rfl .nil (fun _=>by simp[rn])|exact Zx (args:=[]) D3 rfl rfl rfl rfl .nil (fun _=>by simp[rn])|exact Nx N2 rfl rfl rfl rfl rfl|exact Nx N5 rfl rfl rfl rfl rfl|exact Nx M1 rfl rfl rfl rfl rfl|exact Nx M2 rfl rfl rfl rfl rfl|exact Nx M3 rfl rfl rfl rfl rfl|exact Kx K4 rfl rfl rfl rfl rfl rfl (by decide)|exact Kx K5 rfl rfl rfl rfl rfl rfl (by decide)|exact Ok.bs4 rfl rfl rfl rfl rfl rfl|exact Ok.e0))|refine Sx ?_|(refine Sy (fun h=>?_) (fun h=>?_)<;>try (exfalso;omega;done))|refine Sz (fun h=>?_) (fun h=>?_))
   all_goals
    refine Yb ?_
    (apply Le.headZ (hs:=[(⟨0,[]⟩,⟨0,[]⟩,_)]) [⟨0,[]⟩] rfl)
    all_goals (try dsimp only[srcs])
    (case' hfr|hob=>(repeat' (first|refine La ?_ ?_|exact Lc|refine Lo ?_|refine ⟨⟨_,rfl,?_⟩,?_⟩|refine Lx ?_)))
    all_goals (first|exact Ld|exact trivial|(rfl))
  ·obtain ⟨z,s6,z1,z2,h6,_,N6⟩:=next_ex hc h5 4
   refine ⟨ew,ys.take 20,max 0 (p+z - 1),s6,hew,(by rw[List.length_take];omega),by omega,h6,?_⟩
   show AC _ _ _ (heapL [(⟨0,[]⟩,⟨0,[]⟩,srcO code s)]) _ _
   refine AC.of_body 1 Tryz.func41 rfl (fun l h=>by simp[heapL,upd] at h;simp[h]) (fun C hC=>?_)
   simp only[startFr,Tryz.ntmps41,List.length_cons,List.length_nil,Nat.reduceAdd,Nat.reduceSub,List.replicate_succ,List.replicate_zero,List.cons_append,List.nil_append]
   have hD:∀ l,C.D0 l→l=⟨0,[]⟩:=fun l h=>by have:=(hC l).1 h;simp[heapL,upd] at this;exact this
   repeat' (first|((first|apply Ba|(apply Bb;(· rfl);(· rfl))|(apply Bc;(· exact nxE))|(apply Bd;(· rfl);(· rfl);(· exact nxE)));(· first|exact Kz rfl rfl (hL) (Aa (Ad (Ad An)) An)|exact Zx (args:=[]) D1 rfl rfl rfl rfl .nil (fun _=>by simp[rn])|exact Zx (args:=[]) D3 rfl rfl rfl rfl .nil (fun _=>by simp[rn])|exact Nx N2 rfl rfl rfl rfl rfl|exact Nx N5 rfl rfl rfl rfl rfl|exact Nx N6 rfl rfl rfl rfl rfl|exact Ok.pe))|((first|apply Ca|(apply Cb;(· exact nxE)));(· first|exact Zx (args:=[]) D1 rfl rfl rfl rfl .nil (fun _=>by simp[rn])|exact Zx (args:=[]) D3 rfl rfl rfl rfl .nil (fun _=>by simp[rn])|exact Nx N2 rfl rfl rfl rfl rfl|exact Nx N5 rfl rfl rfl rfl rfl|exact Nx N6 rfl rfl rfl rfl rfl|exact Ok.e0))|refine Sx ?_|(refine Sy (fun h=>?_) (fun h=>?_)<;>try (exfalso;omega;done))|refine Sz (fun h=>?_) (fun h=>?_))
   all_goals
    refine Yb ?_
    (apply Le.headZ (hs:=[(⟨0,[]⟩,⟨0,[]⟩,_)]) [⟨0,[]⟩] rfl)
    all_goals (try dsimp only[srcs])
    (case' hfr|hob=>(repeat' (first|refine La ?_ ?_|exact Lc|refine Lo ?_|refine ⟨⟨_,rfl,?_⟩,?_⟩|refine Lx ?_)))
    all_goals (first|exact Ld|exact trivial|(rfl))
 ·have hcut2:ys.length≤20∨ew≤2:=by omega
  have hL:=sLeastPeriod_ac ew (ys) (by first|omega|(simp only[List.length_take];omega))
  have hlb:lpC ew (ys)=0→0≤lpV ew (ys)∧lpV ew (ys)≤100000:=fun h=>by
   obtain ⟨m,rfl,_,_,_,_,_,h2,_⟩:=lp_ok h
   omega
  generalize lpC ew (ys)=c at *
  generalize lpV ew (ys)=p at *
  by_cases hc0:c=0
  case neg=>
   obtain ⟨x1,t1,_,_,k1,_,M1⟩:=next_ex hc h3 30
   obtain ⟨x2,t2,_,_,k2,_,M2⟩:=next_ex hc k1 30
   obtain ⟨x3,t3,_,_,k3,_,M3⟩:=next_ex hc k2 30
   obtain ⟨x4,t4,hx4,k4,_,_,K4⟩:=pick_ex hc k3 [-1,0,100000,100001] 4 rfl
   obtain ⟨x5,t5,hx5,k5,_,_,K5⟩:=pick_ex hc k4 [x1,x2,x3,x4] 4 rfl
   refine ⟨ew,ys,x5,t5,hew,hk,?_,k5,?_⟩
   ·simp only[List.mem_cons,List.not_mem_nil,or_false] at hx4 hx5
    omega
   show AC _ _ _ (heapL [(⟨0,[]⟩,⟨0,[]⟩,srcO code s)]) _ _
   refine AC.of_body 1 Tryz.func41 rfl (fun l h=>by simp[heapL,upd] at h;simp[h]) (fun C hC=>?_)
   simp only[startFr,Tryz.ntmps41,List.length_cons,List.length_nil,Nat.reduceAdd,Nat.reduceSub,List.replicate_succ,List.replicate_zero,List.cons_append,List.nil_append]
   have hD:∀ l,C.D0 l→l=⟨0,[]⟩:=fun l h=>by have:=(hC l).1 h;simp[heapL,upd] at this;exact this
   repeat' (first|((first|apply Ba|(apply Bb;(· rfl);(· rfl))|(apply Bc;(· exact nxE))|(apply Bd;(· rfl);(· rfl);(· exact nxE)));(· first|exact Kz rfl rfl (hL) (Aa (Ad (Ad An)) An)|exact Zx (args:=[]) D1 rfl rfl rfl rfl .nil (fun _=>by simp[rn])|exact Zx (args:=[]) D3 rfl rfl rfl rfl .nil (fun _=>by simp[rn])|exact Nx N2 rfl rfl rfl rfl rfl|exact Nx M1 rfl rfl rfl rfl rfl|exact Nx M2 rfl rfl rfl rfl rfl|exact Nx M3 rfl rfl rfl rfl rfl|exact Kx K4 rfl rfl rfl rfl rfl rfl (by decide)|exact Kx K5 rfl rfl rfl rfl rfl rfl (by decide)|exact Ok.bs4 rfl rfl rfl rfl rfl rfl|exact Ok.pe))|((first|apply Ca|(apply Cb;(· exact nxE)));(· first|exact Zx (args:=[]) D1 rfl rfl rfl rfl .nil (fun _=>by simp[rn])|exact Zx (args:=[]) D3 rfl rfl rfl rfl .nil (fun _=>by simp[rn])|exact Nx N2 rfl rfl rfl rfl rfl|exact Nx M1 rfl rfl rfl rfl rfl|exact Nx M2 rfl rfl rfl rfl rfl|exact Nx M3 rfl rfl rfl rfl rfl|exact Kx K4 rfl rfl rfl rfl rfl rfl (by decide)|exact Kx K5 rfl rfl rfl rfl rfl rfl (by decide)|exact Ok.bs4 rfl rfl rfl rfl rfl rfl|exact Ok.e0))|refine Sx ?_|(refine Sy (fun h=>?_) (fun h=>?_)<;>try (exfalso;omega;done))|refine Sz (fun h=>?_) (fun h=>?_))
   all_goals
    refine Yb ?_
    (apply Le.headZ (hs:=[(⟨0,[]⟩,⟨0,[]⟩,_)]) [⟨0,[]⟩] rfl)
    all_goals (try dsimp only[srcs])
    (case' hfr|hob=>(repeat' (first|refine La ?_ ?_|exact Lc|refine Lo ?_|refine ⟨⟨_,rfl,?_⟩,?_⟩|refine Lx ?_)))
    all_goals (first|exact Ld|exact trivial|(rfl))
  subst hc0
  have hlb:=hlb rfl
  obtain ⟨y,s5,y1,y2,h5,_,N5⟩:=next_ex hc h3 4
  by_cases hy:y=0
  ·obtain ⟨x1,t1,_,_,k1,_,M1⟩:=next_ex hc h5 30
   obtain ⟨x2,t2,_,_,k2,_,M2⟩:=next_ex hc k1 30
   obtain ⟨x3,t3,_,_,k3,_,M3⟩:=next_ex hc k2 30
   obtain ⟨x4,t4,hx4,k4,_,_,K4⟩:=pick_ex hc k3 [-1,0,100000,100001] 4 rfl
   obtain ⟨x5,t5,hx5,k5,_,_,K5⟩:=pick_ex hc k4 [x1,x2,x3,x4] 4 rfl
   refine ⟨ew,ys,x5,t5,hew,hk,?_,k5,?_⟩
   ·simp only[List.mem_cons,List.not_mem_nil,or_false] at hx4 hx5
    omega
   show AC _ _ _ (heapL [(⟨0,[]⟩,⟨0,[]⟩,srcO code s)]) _ _
   refine AC.of_body 1 Tryz.func41 rfl (fun l h=>by simp[heapL,upd] at h;simp[h]) (fun C hC=>?_)
   simp only[startFr,Tryz.ntmps41,List.length_cons,List.length_nil,Nat.reduceAdd,Nat.reduceSub,List.replicate_succ,List.replicate_zero,List.cons_append,List.nil_append]
   have hD:∀ l,C.D0 l→l=⟨0,[]⟩:=fun l h=>by have:=(hC l).1 h;simp[heapL,upd] at this;exact this
   repeat' (first|((first|apply Ba|(apply Bb;(· rfl);(· rfl))|(apply Bc;(· exact nxE))|(apply Bd;(· rfl);(· rfl);(· exact nxE)));(· first|exact Kz rfl rfl (hL) (Aa (Ad (Ad An)) An)|exact Zx (args:=[]) D1 rfl rfl rfl rfl .nil (fun _=>by simp[rn])|exact Zx (args:=[]) D3 rfl rfl rfl rfl .nil (fun _=>by simp[rn])|exact Nx N2 rfl rfl rfl rfl rfl|exact Nx N5 rfl rfl rfl rfl rfl|exact Nx M1 rfl rfl rfl rfl rfl|exact Nx M2 rfl rfl rfl rfl rfl|exact Nx M3 rfl rfl rfl rfl rfl|exact Kx K4 rfl rfl rfl rfl rfl rfl (by decide)|exact Kx K5 rfl rfl rfl rfl rfl rfl (by decide)|exact Ok.bs4 rfl rfl rfl rfl rfl rfl|exact Ok.pe))|((first|apply Ca|(apply Cb;(· exact nxE)));(· first|exact Zx (args:=[]) D1 rfl rfl rfl rfl .nil (fun _=>by simp[rn])|exact Zx (args:=[]) D3 rfl rfl rfl rfl .nil (fun _=>by simp[rn])|exact Nx N2 rfl rfl rfl rfl rfl|exact Nx N5 rfl rfl rfl rfl rfl|exact Nx M1 rfl rfl rfl rfl rfl|exact Nx M2 rfl rfl rfl rfl rfl|exact Nx M3 rfl rfl rfl rfl rfl|exact Kx K4 rfl rfl rfl rfl rfl rfl (by decide)|exact Kx K5 rfl rfl rfl rfl rfl rfl (by decide)|exact Ok.bs4 rfl rfl rfl rfl rfl rfl|exact Ok.e0))|refine Sx ?_|(refine Sy (fun h=>?_) (fun h=>?_)<;>try (exfalso;omega;done))|refine Sz (fun h=>?_) (fun h=>?_))
   all_goals
    refine Yb ?_
    (apply Le.headZ (hs:=[(⟨0,[]⟩,⟨0,[]⟩,_)]) [⟨0,[]⟩] rfl)
    all_goals (try dsimp only[srcs])
    (case' hfr|hob=>(repeat' (first|refine La ?_ ?_|exact Lc|refine Lo ?_|refine ⟨⟨_,rfl,?_⟩,?_⟩|refine Lx ?_)))
    all_goals (first|exact Ld|exact trivial|(rfl))
  ·obtain ⟨z,s6,z1,z2,h6,_,N6⟩:=next_ex hc h5 4
   refine ⟨ew,ys,max 0 (p+z - 1),s6,hew,hk,by omega,h6,?_⟩
   show AC _ _ _ (heapL [(⟨0,[]⟩,⟨0,[]⟩,srcO code s)]) _ _
   refine AC.of_body 1 Tryz.func41 rfl (fun l h=>by simp[heapL,upd] at h;simp[h]) (fun C hC=>?_)
   simp only[startFr,Tryz.ntmps41,List.length_cons,List.length_nil,Nat.reduceAdd,Nat.reduceSub,List.replicate_succ,List.replicate_zero,List.cons_append,List.nil_append]
   have hD:∀ l,C.D0 l→l=⟨0,[]⟩:=fun l h=>by have:=(hC l).1 h;simp[heapL,upd] at this;exact this
   repeat' (first|((first|apply Ba|(apply Bb;(· rfl);(· rfl))|(apply Bc;(· exact nxE))|(apply Bd;(· rfl);(· rfl);(· exact nxE)));(· first|exact Kz rfl rfl (hL) (Aa (Ad (Ad An)) An)|exact Zx (args:=[]) D1 rfl rfl rfl rfl .nil (fun _=>by simp[rn])|exact Zx (args:=[]) D3 rfl rfl rfl rfl .nil (fun _=>by simp[rn])|exact Nx N2 rfl rfl rfl rfl rfl|exact Nx N5 rfl rfl rfl rfl rfl|exact Nx N6 rfl rfl rfl rfl rfl|exact Ok.pe))|((first|apply Ca|(apply Cb;(· exact nxE)));(· first|exact Zx (args:=[]) D1 rfl rfl rfl rfl .nil (fun _=>by simp[rn])|exact Zx (args:=[]) D3 rfl rfl rfl rfl .nil (fun _=>by simp[rn])|exact Nx N2 rfl rfl rfl rfl rfl|exact Nx N5 rfl rfl rfl rfl rfl|exact Nx N6 rfl rfl rfl rfl rfl|exact Ok.e0))|refine Sx ?_|(refine Sy (fun h=>?_) (fun h=>?_)<;>try (exfalso;omega;done))|refine Sz (fun h=>?_) (fun h=>?_))
   all_goals
    refine Yb ?_
    (apply Le.headZ (hs:=[(⟨0,[]⟩,⟨0,[]⟩,_)]) [⟨0,[]⟩] rfl)
    all_goals (try dsimp only[srcs])
    (case' hfr|hob=>(repeat' (first|refine La ?_ ?_|exact Lc|refine Lo ?_|refine ⟨⟨_,rfl,?_⟩,?_⟩|refine Lx ?_)))
    all_goals (first|exact Ld|exact trivial|(rfl))
theorem drawEarliestTimetable_ex [Mode] (code:List Int) (hc:CodeOk code):∃ (ev:Int) (xs:List Pl) (P:Int),(0≤ev∧ev≤11)∧xs.length≤40∧(-1≤P∧P≤100002)∧AC Tryz.prog 10 [.d (BD code)] H0 (.tup [grD ev xs,I P]) H0:=by
 have hF:=l01From_ac code hc
 obtain ⟨ev,xs,P,s1,hev,hl,hP,h1,D1⟩:=l20DrawPeriod_ex code hc _ (src0_ok hc)
 refine ⟨ev,xs,P,hev,hl,hP,?_⟩
 refine AC.of_body 0 Tryz.func10 rfl (fun l h=>absurd rfl h) (fun C hC=>?_)
 have hD:∀ l,¬ C.D0 l:=fun l h=>(hC l).1 h rfl
 simp only[startFr,Tryz.ntmps10,List.length_cons,List.length_nil,Nat.reduceAdd,Nat.reduceSub,List.replicate_succ,List.replicate_zero,List.cons_append,List.nil_append]
 repeat' (first|((first|apply Ba|(apply Bb;(· rfl);(· rfl))|(apply Bc;(· exact nxE))|(apply Bd;(· rfl);(· rfl);(· exact nxE)));(· first|exact Fx hF rfl rfl rfl|exact Zl (args:=[]) D1 rfl rfl rfl rfl .nil (fun _=>by simp[rn])|exact Ok.pe))|((first|apply Ca|(apply Cb;(· exact nxE)));(· first|exact Fx hF rfl rfl rfl|exact Zl (args:=[]) D1 rfl rfl rfl rfl .nil (fun _=>by simp[rn])|exact Ok.e0))|refine Sx ?_|(refine Sy (fun h=>?_) (fun h=>?_)<;>try (exfalso;omega;done))|refine Sz (fun h=>?_) (fun h=>?_))
 refine Yb ?_
 (apply Le.headZ (hs:=[]) [] rfl)
 all_goals (try dsimp only[srcs])
 (case' hfr=>(repeat' (first|refine La ?_ ?_|exact Lc|refine Lo ?_|refine ⟨⟨_,rfl,?_⟩,?_⟩|refine Lx ?_)))
 all_goals (first|exact Ld|exact trivial|(rfl))
end
section
open Go Go.RowKit
structure Fi where
 e:Int
 n:Int
 t:Int
 deriving DecidableEq
def Fi.row (f:Fi):List D:=[DI f.e,DI f.n,DI f.t]
abbrev Fi.av (f:Fi):AV:=.agg [I f.e,I f.n,I f.t]
abbrev FL (fs:List Fi):AV:=.d (.sl 3 (fs.map Fi.row))
abbrev FO (fs:List Fi):AObj:=dobj 3 (fs.map Fi.row)
theorem FL_len {fs:List Fi}:(fs.map Fi.row).length=fs.length:=by simp
def cnt (fs:List Fi) (e:Int):Nat:=fs.countP fun f=>decide (f.e=e)
theorem cnt_snoc {fs:List Fi}{f:Fi}{e:Int}:cnt (fs++[f]) e=cnt fs e+if f.e=e then 1 else 0:=by
 simp only[cnt,List.countP_append,List.countP_cons,List.countP_nil,Nat.zero_add]
 by_cases h:f.e=e<;>simp[h]
theorem cnt_le (fs:List Fi) (e:Int):cnt fs e≤fs.length:=List.countP_le_length
theorem wi_yes {a lo hi:Int} (h:lo≤a∧a≤hi):wi a lo hi=true:=by simp[wi,h.1,h.2]
theorem wi_no {a lo hi:Int} (h:¬(lo≤a∧a≤hi)):wi a lo hi=false:=by
 cases hw:wi a lo hi with
 | false=>rfl
 | true=>simp[wi] at hw;exact absurd hw h
end
section
open Go Go.RowKit
def tms (fs:List Fi) (e:Int):List Int:=(fs.filter fun f=>decide (f.e=e)).map (·.t)
theorem tms_len [Mode] (fs:List Fi) (e:Int):(tms fs e).length=cnt fs e:=by rw[tms,List.length_map,cnt,List.countP_eq_length_filter]
theorem tms_snoc [Mode] {fs:List Fi}{f:Fi}{e:Int}:tms (fs++[f]) e=tms fs e++if f.e=e then [f.t] else []:=by
 by_cases h:f.e=e<;>simp[tms,h]
theorem tms_mem [Mode] {fs:List Fi}{e t:Int} (h:t∈tms fs e):∃ f∈fs,f.t=t:=by
 obtain ⟨f,hf,rfl⟩:=List.mem_map.1 h
 exact ⟨f,(List.mem_filter.1 hf).1,rfl⟩
def NumOk (fs:List Fi):Prop:=∀ (k:Nat) (f:Fi),fs[k]? = some f→f.n=cnt (fs.take k) f.e+1
theorem NumOk.take [Mode] {fs:List Fi} (h:NumOk fs) (k:Nat):NumOk (fs.take k):=fun i f hf=>by
 rw[List.getElem?_take] at hf
 split at hf
 ·rw[List.take_take,Nat.min_eq_left (by omega)];exact h i f hf
 ·cases hf
theorem NumOk.snoc [Mode] {fs:List Fi}{f:Fi} (h:NumOk fs) (hf:f.n=cnt fs f.e+1):NumOk (fs++[f]):=fun k g hg=>by
 rw[List.getElem?_append] at hg
 split at hg
 ·rename_i hlt
  rw[List.take_append_of_le_length (by omega)]
  exact h k g hg
 ·rename_i hge
  have hk0:k - fs.length=0:=by
   have:=(List.getElem?_eq_some_iff.1 hg).1
   simp at this;omega
  rw[hk0] at hg
  simp only[List.getElem?_cons_zero,Option.some.injEq] at hg
  subst hg
  have:k=fs.length:=by omega
  subst this
  simpa using hf
def TmOk (fs:List Fi):Prop:=∀ f∈fs,0≤f.t∧f.t≤1000000
theorem TmOk.take [Mode] {fs:List Fi} (h:TmOk fs) (k:Nat):TmOk (fs.take k):=fun f hf=>h f (List.mem_of_mem_take hf)
theorem TmOk.tms [Mode] {fs:List Fi} (h:TmOk fs) (e:Int):∀ t∈tms fs e,0≤t∧t≤1000000:=fun t ht=>by
 obtain ⟨f,hf,rfl⟩:=tms_mem ht
 exact h f hf
theorem first_or [Mode] {α:Type} (q:α→Bool) (xs:List α):(∀ x∈xs,q x=false)∨∃ j x,xs[j]? = some x∧q x=true∧∀ (i:Nat) y,i<j→xs[i]? = some y→q y=false:=by
 induction xs with
 | nil=>exact .inl (by simp)
 | cons w ws ih=>
  cases hw:q w with
  | true=>exact .inr ⟨0,w,rfl,hw,fun i y hi=>by omega⟩
  | false=>
   rcases ih with h|⟨j,v,h1,h2,h3⟩
   ·exact .inl fun x hx=>by rcases List.mem_cons.1 hx with rfl|hx;(· exact hw);(· exact h x hx)
   ·refine .inr ⟨j+1,v,by simpa using h1,h2,fun i x hi hx=>?_⟩
    cases i with
    | zero=>simp at hx;subst hx;exact hw
    | succ i=>exact h3 i x (by omega) (by simpa using hx)
def gdP (fs:List Fi) (e:Int) (p:Pl):Bool:=decide (p.t≠e∨(cnt fs e:Int)+1≤p.k∨(cnt fs e:Int)+1 - p.k≤(cnt fs p.f:Int))
def rxP (fs:List Fi) (e:Int) (t:Int) (p:Pl):Int:=if p.t≠e∨(cnt fs e:Int)+1≤p.k then t else max t (((tms fs p.f)[((cnt fs e:Int)+1 - p.k - 1).toNat]?).getD 0+p.d)
def rdT (fs:List Fi) (e:Int) (xs:List Pl):Int:=xs.foldl (rxP fs e) 0
def rdR (xs:List Pl) (fs:List Fi) (e:Int):Int × Bool:=if xs.all (gdP fs e)=true then (rdT fs e xs,true) else (0,false)
theorem rdT_snoc [Mode] {fs:List Fi}{e:Int}{xs:List Pl}{p:Pl}:rdT fs e (xs++[p])=rxP fs e (rdT fs e xs) p:=by simp[rdT]
theorem getD_tms [Mode] {fs:List Fi} (h:TmOk fs) (e:Int) (i:Nat):0≤((tms fs e)[i]?).getD 0∧((tms fs e)[i]?).getD 0≤1000000:=by
 cases hx:(tms fs e)[i]? with
 | none=>simp
 | some t=>exact h.tms e t (List.mem_of_getElem? hx)
theorem rdT_bd [Mode] {fs:List Fi} (h:TmOk fs) {n:Nat} (e:Int) (xs:List Pl) (hv:∀ p∈xs,okPl n p):0≤rdT fs e xs∧rdT fs e xs≤1010000:=by
 suffices key:∀ (xs:List Pl) (t:Int),(∀ p∈xs,okPl n p)→0≤t∧t≤1010000→0≤xs.foldl (rxP fs e) t∧xs.foldl (rxP fs e) t≤1010000 from key xs 0 hv (by decide)
 intro xs
 induction xs with
 | nil=>exact fun t _ h=>h
 | cons p ps ih=>
  intro t hv ht
  refine ih _ (fun q hq=>hv q (List.mem_cons_of_mem _ hq)) ?_
  have hp:=(hv p (by simp)).2.2.1
  unfold rxP
  split
  ·exact ht
  ·have:=getD_tms h p.f ((cnt fs e:Int)+1 - p.k - 1).toNat
   omega
def lsT (fs:List Fi):Int:=(fs.getLast?.map (·.t)).getD 0
theorem lsT_snoc [Mode] {fs:List Fi}{f:Fi}:lsT (fs++[f])=f.t:=by simp[lsT]
theorem lsT_bd [Mode] {fs:List Fi} (h:TmOk fs):0≤lsT fs:=by
 unfold lsT
 cases hx:fs.getLast? with
 | none=>simp
 | some f=>exact (h f (List.mem_of_getLast? hx)).1
def rnS (n:Nat) (xs:List Pl) (fs:List Fi) (f:Fi):Bool:=decide (0≤f.e∧f.e<n)&&(decide (lsT fs≤f.t)&&((rdR xs fs f.e).2&&decide ((rdR xs fs f.e).1≤f.t)))
def rnB (n:Nat) (xs:List Pl) (fs:List Fi):Bool:=(List.range fs.length).all fun k=>rnS n xs (fs.take k) ((fs[k]?).getD ⟨0,0,0⟩)
theorem rnB_or [Mode] (n:Nat) (xs:List Pl) (fs:List Fi):(rnB n xs fs=true∧∀ (k:Nat) f,fs[k]? = some f→rnS n xs (fs.take k) f=true)∨(rnB n xs fs=false∧∃ j f,fs[j]? = some f∧rnS n xs (fs.take j) f=false∧∀ (i:Nat) g,i<j→fs[i]? = some g→rnS n xs (fs.take i) g=true):=by
 rcases first_or (fun k=>!rnS n xs (fs.take k) ((fs[k]?).getD ⟨0,0,0⟩)) (List.range fs.length) with h|⟨j,x,h1,h2,h3⟩
 ·refine .inl ⟨List.all_eq_true.2 fun k hk=>by simpa using h k hk,fun k f hf=>?_⟩
  have:=h k (List.mem_range.2 (List.getElem?_eq_some_iff.1 hf).1)
  rw[hf] at this
  simpa using this
 ·have hj:j<fs.length:=by have:=(List.getElem?_eq_some_iff.1 h1).1;simpa using this
  have hx:x=j:=by
   rw[List.getElem?_range hj] at h1
   simpa using h1.symm
  subst hx
  obtain ⟨f,hf⟩:∃ f,fs[x]? = some f:=⟨fs[x],List.getElem?_eq_getElem hj⟩
  rw[hf] at h2
  refine .inr ⟨?_,x,f,hf,by simpa using h2,fun i g hi hg=>?_⟩
  ·cases hB:rnB n xs fs with
   | false=>rfl
   | true=>
    have:=List.all_eq_true.1 hB x (List.mem_range.2 hj)
    rw[hf] at this
    simp only[Option.getD_some,Bool.not_eq_true'] at h2 this
    rw[h2] at this;cases this
  ·have:=h3 i i hi (by rw[List.getElem?_range (by omega)])
   rw[hg] at this
   simpa using this
theorem rn_m [Mode] (n:Nat) (xs:List Pl) (fs:List Fi):∃ m,m≤fs.length∧(∀ (k:Nat) f,k<m→fs[k]? = some f→rnS n xs (fs.take k) f=true)∧((m=fs.length∧rnB n xs fs=true)∨∃ f,fs[m]? = some f∧rnS n xs (fs.take m) f=false∧rnB n xs fs=false):=by
 rcases rnB_or n xs fs with ⟨h1,h2⟩|⟨h1,j,f,hj,h2,h3⟩
 ·exact ⟨fs.length,Nat.le_refl _,fun k f _ hf=>h2 k f hf,.inl ⟨rfl,h1⟩⟩
 ·exact ⟨j,Nat.le_of_lt (List.getElem?_eq_some_iff.1 hj).1,fun k g hk hg=>h3 k g hk hg,.inr ⟨f,hj,h2,h1⟩⟩
theorem rnS_yes [Mode] {n:Nat}{xs:List Pl}{fs:List Fi}{f:Fi} (h:rnS n xs fs f=true):0≤f.e∧f.e<n∧lsT fs≤f.t∧(rdR xs fs f.e).2=true∧(rdR xs fs f.e).1≤f.t:=by
 simp only[rnS,Bool.and_eq_true,decide_eq_true_eq] at h
 exact ⟨h.1.1,h.1.2,h.2.1,h.2.2.1,h.2.2.2⟩
theorem rnS_no [Mode] {n:Nat}{xs:List Pl}{fs:List Fi}{f:Fi} (h:rnS n xs fs f=false):¬(0≤f.e∧f.e<n)∨((0≤f.e∧f.e<n)∧f.t<lsT fs)∨((0≤f.e∧f.e<n)∧lsT fs≤f.t∧(rdR xs fs f.e).2=false)∨((0≤f.e∧f.e<n)∧lsT fs≤f.t∧(rdR xs fs f.e).2=true∧f.t<(rdR xs fs f.e).1):=by
 by_cases h1:0≤f.e∧f.e<n
 ·by_cases h2:lsT fs≤f.t
  ·cases h3:(rdR xs fs f.e).2 with
   | false=>exact .inr (.inr (.inl ⟨h1,h2,rfl⟩))
   | true=>
    refine .inr (.inr (.inr ⟨h1,h2,rfl,?_⟩))
    simp only[rnS,h1,h2,h3,decide_true,Bool.true_and,and_self,decide_eq_false_iff_not] at h
    omega
  ·exact .inr (.inl ⟨h1,by omega⟩)
 ·exact .inl h1
theorem lsT_take [Mode] {fs:List Fi}{k:Nat}{g:Fi} (h:fs[k]? = some g):lsT (fs.take (k+1))=g.t:=by
 rw[List.take_add_one,h];exact lsT_snoc
def tmT (n:Nat) (fs:List Fi):List (List Int):=(List.range n).map fun e:Nat=>tms fs (e:Int)
theorem tmT_len [Mode] {n:Nat}{fs:List Fi}:(tmT n fs).length=n:=by simp[tmT]
theorem tmT_get [Mode] {n e:Nat}{fs:List Fi} (h:e<n):(tmT n fs)[e]? = some (tms fs (e:Int)):=by simp[tmT,h]
theorem tmT_nil [Mode] {n:Nat}:tmT n []=List.replicate n []:=by
 apply List.ext_getElem?
 intro i
 by_cases h:i<n
 ·rw[tmT_get h,List.getElem?_replicate,if_pos h];rfl
 ·rw[List.getElem?_eq_none (by rw[tmT_len];omega),List.getElem?_eq_none (by simp;omega)]
theorem tmT_snoc [Mode] {n e:Nat}{fs:List Fi}{f:Fi} (h:e<n) (he:f.e=e):tmT n (fs++[f])=(tmT n fs).set e (tms fs (e:Int)++[f.t]):=by
 apply List.ext_getElem?
 intro i
 rw[List.getElem?_set]
 by_cases h0:e=i
 ·subst h0
  rw[if_pos rfl,if_pos (by rw[tmT_len];exact h),tmT_get h,tms_snoc,if_pos he]
 ·rw[if_neg h0]
  by_cases hi:i<n
  ·rw[tmT_get hi,tmT_get hi,tms_snoc,if_neg (by rw[he];omega),List.append_nil]
  ·rw[List.getElem?_eq_none (by rw[tmT_len];omega),List.getElem?_eq_none (by rw[tmT_len];omega)]
theorem take_st [Mode] {fs:List Fi}{e:Int}{xs:List Pl}{k:Nat}{p:Pl} (hp:xs[k]? = some p):rdT fs e (xs.take (k+1))=rxP fs e (rdT fs e (xs.take k)) p:=by rw[List.take_add_one,hp];exact rdT_snoc
theorem rx_skip [Mode] {fs:List Fi}{e t:Int}{p:Pl} (h:p.t≠e∨(cnt fs e:Int)+1≤p.k):rxP fs e t p=t:=if_pos h
theorem rx_step [Mode] {fs:List Fi}{e t:Int}{p:Pl} (h1:p.t=e) (h2:p.k≤(cnt fs e:Int)):rxP fs e t p=max t (((tms fs p.f)[((cnt fs e:Int)+1 - p.k - 1).toNat]?).getD 0+p.d):=if_neg (by omega)
end
section
open Go Go.RowKit
attribute [local irreducible] AL AD AW OpOk Le AC thenQ blockQ EndQ
structure LvOk (g:Nat→Int) (e:Nat) (S:Nat→Prop) (M:Int):Prop where
 ge:g e≤M
 up:∀ u,S u→g u+1≤M
 at':M=g e∨∃ u,S u∧M=g u+1
theorem LvOk.uniq [Mode] {g:Nat→Int}{e:Nat}{S S':Nat→Prop}{M M':Int} (h:LvOk g e S M) (h':LvOk g e S' M') (hs:∀ u,S u↔S' u):M=M':=by
 have h1:=h.ge
 have h2:=h'.ge
 rcases h.at' with e1|⟨u,u1,u2⟩<;>rcases h'.at' with e2|⟨v,v1,v2⟩
 ·omega
 ·have:=h.up v ((hs v).2 v1);omega
 ·have:=h'.up u ((hs u).1 u1);omega
 ·have:=h.up v ((hs v).2 v1);have:=h'.up u ((hs u).1 u1);omega
theorem ord_self [Mode] {n:Nat}{xs:List Pl}{ord:List Nat} (h:ordR n xs=some ord) {e:Nat} (he:e<n):wPl xs e e=false:=by
 cases hw:wPl xs e e
 ·rfl
 ·have:=(ord_idx h).2.1 e e he he hw;omega
end
section
open Go Go.RowKit
def eqS (X:Nat→Nat→Int) (k e:Nat) (t:Int) (p:Pl):Int:=if p.t=(e:Int)∧p.k≤(k:Int) then max t (X (k - p.k.toNat) p.f.toNat+p.d) else t
def eqX (xs:List Pl) (X:Nat→Nat→Int) (k e:Nat):Int:=xs.foldl (eqS X k e) 0
theorem eqF_congr {X Y:Nat→Nat→Int}{k e:Nat}:∀ {xs:List Pl} (_:∀ p∈xs,p.t=(e:Int)→p.k≤(k:Int)→X (k - p.k.toNat) p.f.toNat=Y (k - p.k.toNat) p.f.toNat) (t:Int),xs.foldl (eqS X k e) t=xs.foldl (eqS Y k e) t
 | [],_,_=>rfl
 | p :: ps,h,t=>by
  have e1:eqS X k e t p=eqS Y k e t p:=by
   unfold eqS
   split
   ·rename_i hc;rw[h p (by simp) hc.1 hc.2]
   ·rfl
  simp only[List.foldl_cons,e1]
  exact eqF_congr (fun q hq=>h q (List.mem_cons_of_mem _ hq)) _
theorem eqF_ge {X:Nat→Nat→Int}{k e:Nat}:∀ {xs:List Pl}{t:Int},t≤xs.foldl (eqS X k e) t
 | [],t=>Int.le_refl _
 | p :: ps,t=>by
  have h1:t≤eqS X k e t p:=by unfold eqS;split<;>omega
  exact Int.le_trans h1 (eqF_ge (xs:=ps))
theorem eqF_up {X:Nat→Nat→Int}{k e:Nat}{p:Pl}:∀ {xs:List Pl}{t:Int},p∈xs→p.t=(e:Int)→p.k≤(k:Int)→X (k - p.k.toNat) p.f.toNat+p.d≤xs.foldl (eqS X k e) t
 | q :: qs,t,hp,h1,h2=>by
  rcases List.mem_cons.1 hp with rfl|hp
  ·have h3:X (k - p.k.toNat) p.f.toNat+p.d≤eqS X k e t p:=by unfold eqS;rw[if_pos ⟨h1,h2⟩];omega
   exact Int.le_trans h3 (eqF_ge (xs:=qs))
  ·exact eqF_up (xs:=qs) hp h1 h2
theorem eqF_at {X:Nat→Nat→Int}{k e:Nat}:∀ {xs:List Pl}{t:Int},xs.foldl (eqS X k e) t=t∨∃ p∈xs,p.t=(e:Int)∧p.k≤(k:Int)∧xs.foldl (eqS X k e) t=X (k - p.k.toNat) p.f.toNat+p.d
 | [],t=>.inl rfl
 | q :: qs,t=>by
  rcases eqF_at (X:=X) (k:=k) (e:=e) (xs:=qs) (t:=eqS X k e t q) with h|⟨p,h1,h2,h3,h4⟩
  ·by_cases hc:q.t=(e:Int)∧q.k≤(k:Int)
   ·have e1:eqS X k e t q=max t (X (k - q.k.toNat) q.f.toNat+q.d):=if_pos hc
    rcases Int.le_total t (X (k - q.k.toNat) q.f.toNat+q.d) with hm|hm
    ·rw[Int.max_eq_right hm] at e1
     exact .inr ⟨q,by simp,hc.1,hc.2,by rw[List.foldl_cons,h,e1]⟩
    ·rw[Int.max_eq_left hm] at e1
     exact .inl (by rw[List.foldl_cons,h,e1])
   ·exact .inl (by rw[List.foldl_cons,h];exact if_neg hc)
  ·exact .inr ⟨p,List.mem_cons_of_mem _ h1,h2,h3,h4⟩
theorem stE_cell {k e:Nat}{F:Nat→Nat→Int}:∀ {xs:List Pl},(∀ p∈xs,p.t=(e:Int)→p.k≤(k:Int)→¬(k - p.k.toNat=k∧p.f.toNat=e))→∀ G:Nat→Nat→Int,(∀ a b,¬(a=k∧b=e)→G a b=F a b)→xs.foldl (stP k e) G k e=xs.foldl (eqS F k e) (G k e)∧∀ a b,¬(a=k∧b=e)→xs.foldl (stP k e) G a b=F a b
 | [],_,G,hG=>⟨rfl,hG⟩
 | p :: ps,hx,G,hG=>by
  have ih:=stE_cell (k:=k) (e:=e) (F:=F) (xs:=ps) (fun q hq=>hx q (List.mem_cons_of_mem _ hq)) (stP k e G p) (fun a b hab=>by
   unfold stP
   split
   ·simp only[hab,if_false];exact hG a b hab
   ·exact hG a b hab)
  have e1:stP k e G p k e=eqS F k e (G k e) p:=by
   unfold stP eqS
   split
   ·rename_i hc
    simp only[and_self,if_true]
    rw[hG _ _ (hx p (by simp) hc.1 hc.2)]
   ·rfl
  simp only[List.foldl_cons]
  rw[← e1]
  exact ih
structure RdOk (xs:List Pl) (k:Nat) (F0 G:Nat→Nat→Int) (ord:List Nat) (J:Nat):Prop where
 oth:∀ a b,a≠k→G a b=F0 a b
 yet:∀ b,b∉ord.take J→G k b=F0 k b
 eq:∀ b,b∈ord.take J→G k b=xs.foldl (eqS G k b) (F0 k b)
theorem pk_zero {p:Pl}{k:Nat} (h0:0≤p.k) (h1:p.k≤(k:Int)) (h:k - p.k.toNat=k):p.k=0:=by omega
theorem wPl_of {n:Nat}{xs:List Pl} (hv:∀ p∈xs,okPl n p) {p:Pl} (hp:p∈xs) {e:Nat} (h1:p.t=(e:Int)) (h2:p.k=0):wPl xs e p.f.toNat=true:=by
 unfold wPl
 rw[List.any_eq_true]
 have:=(hv p hp).1
 exact ⟨p,hp,by simp only[Bool.and_eq_true,decide_eq_true_eq];exact ⟨h1,h2,by omega⟩⟩
theorem stR_ok {n:Nat}{xs:List Pl}{ord:List Nat} (hv:∀ p∈xs,okPl n p) (ho:OrdOk (wPl xs) n ord) (hs:∀ e,e<n→wPl xs e e=false) (k:Nat) (F0:Nat→Nat→Int):∀ J,J≤ord.length→RdOk xs k F0 ((ord.take J).foldl (stE xs k) F0) ord J
 | 0,_=>⟨fun _ _ _=>rfl,fun _ _=>rfl,fun b h=>by simp at h⟩
 | J+1,hJ=>by
  have ih:=stR_ok hv ho hs k F0 J (by omega)
  have he:ord[J]? = some (ord[J]'(by omega)):=List.getElem?_eq_getElem (by omega)
  rw[take_fold he]
  generalize hee:ord[J]'(by omega)=e at he
  have hen:e<n:=ho.lt e (List.mem_of_getElem? he)
  have hsn:ord.take (J+1)=ord.take J++[e]:=by rw[List.take_add_one,he];rfl
  have hni:e∉ord.take J:=fun hm=>by
   have h1:=ho.nd
   rw[← List.take_append_drop J ord,List.nodup_append] at h1
   have h2:e∈ord.drop J:=List.mem_of_getElem? (i:=0) (by rw[List.getElem?_drop];simpa using he)
   exact h1.2.2 e hm e h2 rfl
  generalize (ord.take J).foldl (stE xs k) F0=G at ih ⊢
  obtain ⟨c1,c2⟩:=stE_cell (k:=k) (e:=e) (F:=G) (xs:=xs) (fun p hp h1 h2 ⟨h3,h4⟩=>by
   have:=wPl_of hv hp h1 (pk_zero (hv p hp).2.2.2.1 h2 h3)
   rw[h4,hs e hen] at this;cases this) G (fun _ _ _=>rfl)
  refine ⟨fun a b hab=>?_,fun b hb=>?_,fun b hb=>?_⟩
  ·have:=c2 a b (fun h=>hab h.1)
   rw[show stE xs k G e=xs.foldl (stP k e) G from rfl,this];exact ih.oth a b hab
  ·rw[hsn] at hb
   have hbe:b≠e:=fun h=>hb (by simp[h])
   have:=c2 k b (fun h=>hbe h.2)
   rw[show stE xs k G e=xs.foldl (stP k e) G from rfl,this];exact ih.yet b (fun h=>hb (by simp[h]))
  ·rw[hsn,List.mem_append,List.mem_singleton] at hb
   show xs.foldl (stP k e) G k b=xs.foldl (eqS (xs.foldl (stP k e) G) k b) (F0 k b)
   by_cases hbe:b=e
   ·subst hbe
    rw[c1,ih.yet b hni]
    refine eqF_congr (fun p hp h1 h2=>(c2 _ _ fun ⟨h3,h4⟩=>?_).symm) _
    have:=wPl_of hv hp h1 (pk_zero (hv p hp).2.2.2.1 h2 h3)
    rw[h4,hs b hen] at this;cases this
   ·have hbt:b∈ord.take J:=hb.resolve_right hbe
    rw[c2 k b (fun h=>hbe h.2),ih.eq b hbt]
    refine eqF_congr (fun p hp h1 h2=>(c2 _ _ fun ⟨h3,h4⟩=>?_).symm) _
    have hw:=wPl_of hv hp h1 (pk_zero (hv p hp).2.2.2.1 h2 h3)
    rw[h4] at hw
    obtain ⟨i,hi,hib⟩:=List.getElem_of_mem hbt
    rw[List.length_take] at hi
    rw[List.getElem_take] at hib
    have:=ho.wait i (by omega) e hen (by rw[List.getD_eq_getElem?_getD,List.getElem?_eq_getElem (by omega),Option.getD_some,hib];exact hw)
    refine hni ?_
    have e2:ord.take i=(ord.take J).take i:=by rw[List.take_take,Nat.min_eq_left (by omega)]
    rw[e2] at this
    exact List.mem_of_mem_take this
theorem stT_rec {n:Nat}{xs:List Pl}{ord:List Nat} (hv:∀ p∈xs,okPl n p) (h:ordR n xs=some ord):∀ (m k e:Nat),k<m→e<n→stT xs ord (fun _=>0) m k e=eqX xs (stT xs ord (fun _=>0) m) k e
 | 0,k,e,hk,he=>absurd hk (Nat.not_lt_zero k)
 | m+1,k,e,hk,he=>by
  obtain ⟨ho,hl⟩:=ordF_some OrdOk.nil h
  have hl:ord.length=n:=by simpa using hl
  have R:=stR_ok hv ho (fun e he=>ord_self h he) m (stZ (fun _=>0) m (stT xs ord (fun _=>0) m)) ord.length (Nat.le_refl _)
  rw[List.take_length] at R
  have e0:stT xs ord (fun _=>0) (m+1)=ord.foldl (stE xs m) (stZ (fun _=>0) m (stT xs ord (fun _=>0) m)):=rfl
  rw[← e0] at R
  by_cases hkm:k=m
  ·subst hkm
   rw[R.eq e (by rw[List.take_length];exact nodup_full ho.nd ho.lt hl he)]
   unfold eqX
   congr 1
   unfold stZ;rw[if_pos rfl]
  ·have hz:∀ a b,a≠m→stT xs ord (fun _=>0) (m+1) a b=stT xs ord (fun _=>0) m a b:=fun a b hab=>by
    rw[R.oth a b hab];unfold stZ;rw[if_neg hab]
   rw[hz k e hkm,stT_rec hv h m k e (by omega) he]
   exact eqF_congr (fun p hp h1 h2=>(hz _ _ (by have:=(hv p hp).2.2.2.1;omega)).symm) _
structure RecX (n m:Nat) (xs:List Pl) (ord:List Nat) (X:Nat→Nat→Int):Prop where
 ord:ordR n xs=some ord
 ok:∀ p∈xs,okPl n p
 eq:∀ k e,k<m→e<n→X k e=eqX xs X k e
theorem RecX.ind {n m:Nat}{xs:List Pl}{ord:List Nat}{X:Nat→Nat→Int} (h:RecX n m xs ord X) {Q:Nat→Nat→Prop} (hq:∀ k e,k<m→e<n→(∀ p∈xs,p.t=(e:Int)→p.k≤(k:Int)→p.f.toNat<n→k - p.k.toNat<m→(k - p.k.toNat)*n+ord.idxOf p.f.toNat<k*n+ord.idxOf e→Q (k - p.k.toNat) p.f.toNat)→Q k e):∀ k e,k<m→e<n→Q k e:=by
 suffices key:∀ (b k e:Nat),k*n+ord.idxOf e<b→k<m→e<n→Q k e from fun k e hk he=>key _ k e (Nat.lt_succ_self _) hk he
 obtain ⟨hl,h1,h2⟩:=ord_idx h.ord
 intro b
 induction b with
 | zero=>intro k e hb;exact absurd hb (Nat.not_lt_zero _)
 | succ b ih=>
  intro k e hb hk he
  refine hq k e hk he fun p hp ht hpk hf hkm hlt=>ih _ _ (by omega) hkm hf
theorem RecX.mes {n m:Nat}{xs:List Pl}{ord:List Nat}{X:Nat→Nat→Int} (h:RecX n m xs ord X) {p:Pl} (hp:p∈xs) {k e:Nat} (he:e<n) (ht:p.t=(e:Int)) (hk:p.k≤(k:Int)):p.f.toNat<n∧(k - p.k.toNat)*n+ord.idxOf p.f.toNat<k*n+ord.idxOf e:=by
 obtain ⟨hl,h1,h2⟩:=ord_idx h.ord
 have ho:=h.ok p hp
 have hf:p.f.toNat<n:=by have:=ho.1;omega
 refine ⟨hf,?_⟩
 have hif:=h2 _ hf
 by_cases h0:p.k=0
 ·have:=h1 e _ he hf (wPl_of h.ok hp ht h0)
  rw[h0];simpa using this
 ·obtain ⟨w,hw⟩:∃ w:Nat,k=(k - p.k.toNat)+1+w:=⟨k - (k - p.k.toNat) - 1,by have:=ho.2.2.2.1;omega⟩
  have e1:k*n=(k - p.k.toNat)*n+n+w*n:=by
   conv=>lhs;rw[hw]
   rw[Nat.add_mul,Nat.add_mul,Nat.one_mul]
  omega
theorem RecX.ind' {n m:Nat}{xs:List Pl}{ord:List Nat}{X:Nat→Nat→Int} (h:RecX n m xs ord X) {Q:Nat→Nat→Prop} (hq:∀ k e,k<m→e<n→(∀ p∈xs,p.t=(e:Int)→p.k≤(k:Int)→Q (k - p.k.toNat) p.f.toNat)→Q k e):∀ k e,k<m→e<n→Q k e:=
 h.ind fun k e hk he ih=>hq k e hk he fun p hp ht hpk=>ih p hp ht hpk (h.mes hp he ht hpk).1 (by omega) (h.mes hp he ht hpk).2
theorem RecX.ge0 {n m:Nat}{xs:List Pl}{ord:List Nat}{X:Nat→Nat→Int} (h:RecX n m xs ord X) {k e:Nat} (hk:k<m) (he:e<n):0≤X k e:=by
 rw[h.eq k e hk he];exact eqF_ge
theorem RecX.bd {n m:Nat}{xs:List Pl}{ord:List Nat}{X:Nat→Nat→Int} (h:RecX n m xs ord X):∀ k e,k<m→e<n→X k e≤10000*((k*n+ord.idxOf e:Nat):Int):=by
 refine h.ind fun k e hk he ih=>?_
 rw[h.eq k e hk he]
 unfold eqX
 rcases eqF_at (X:=X) (k:=k) (e:=e) (xs:=xs) (t:=0) with h1|⟨p,hp,h1,h2,h3⟩
 ·omega
 ·obtain ⟨g1,g2⟩:=h.mes hp he h1 h2
  have:=ih p hp h1 h2 g1 (by omega) g2
  have hd:=(h.ok p hp).2.2.1
  omega
theorem RecX.mono {n m:Nat}{xs:List Pl}{ord:List Nat}{X:Nat→Nat→Int} (h:RecX n m xs ord X):∀ k e,k<m→e<n→k+1<m→X k e≤X (k+1) e:=by
 refine h.ind' fun k e hk he ih hk1=>?_
 rw[h.eq k e hk he]
 unfold eqX
 rcases eqF_at (X:=X) (k:=k) (e:=e) (xs:=xs) (t:=0) with h1|⟨p,hp,h1,h2,h3⟩
 ·rw[h1];exact h.ge0 hk1 he
 ·have h4:=(h.ok p hp).2.2.2.1
  have g:=ih p hp h1 h2 (by omega)
  rw[show k - p.k.toNat+1=k+1 - p.k.toNat by omega] at g
  rw[h3,h.eq (k+1) e hk1 he]
  have:=eqF_up (X:=X) (k:=k+1) (e:=e) (xs:=xs) (t:=0) hp h1 (by omega)
  unfold eqX
  omega
theorem RecX.pot {n m:Nat}{xs:List Pl}{ord:List Nat}{X:Nat→Nat→Int} (h:RecX n m xs ord X) {num den:Int}{x:Nat→Int} (hd:0≤den) (hn:0≤num) (h0:∀ e,e<n→0≤x e) (hp:∀ p∈xs,x p.f.toNat+den*p.d - num*p.k≤x p.t.toNat):∀ k e,k<m→e<n→den*X k e≤x e+num*(k:Int):=by
 refine h.ind' fun k e hk he ih=>?_
 rw[h.eq k e hk he]
 unfold eqX
 rcases eqF_at (X:=X) (k:=k) (e:=e) (xs:=xs) (t:=0) with h1|⟨p,hpx,h1,h2,h3⟩
 ·rw[h1,Int.mul_zero]
  have:=h0 e he
  have h5:0≤num*(k:Int):=Int.mul_nonneg hn (by omega)
  omega
 ·have g:=ih p hpx h1 h2
  have g2:=hp p hpx
  have h4:=(h.ok p hpx).2.2.2.1
  rw[show p.t.toNat=e by omega] at g2
  rw[h3,Int.mul_add]
  have e1:num*((k - p.k.toNat:Nat):Int)=num*(k:Int) - num*p.k:=by
   rw[← Int.mul_sub];congr 1;omega
  rw[e1] at g
  omega
end
section
open Go Go.RowKit
def cdB (N:Nat) (xs:List Pl) (fs:List Fi) (e:Nat):Bool:=!(decide (cnt fs e=N))&&(rdR xs fs e).2
def sbS (N:Nat) (xs:List Pl) (fs:List Fi) (b:Int × Int) (e:Nat):Int × Int:=if cdB N xs fs e=true∧(b.1<0∨(rdR xs fs e).1<b.2) then ((e:Int),(rdR xs fs e).1) else b
def sbF (N:Nat) (xs:List Pl) (fs:List Fi) (k:Nat):Int × Int:=(List.range k).foldl (sbS N xs fs) (-1,0)
theorem sbF_succ {N:Nat}{xs:List Pl}{fs:List Fi}{k:Nat}:sbF N xs fs (k+1)=sbS N xs fs (sbF N xs fs k) k:=by
 unfold sbF;rw[List.range_succ,List.foldl_append];rfl
theorem sbF_spec (N:Nat) (xs:List Pl) (fs:List Fi):∀ k,(sbF N xs fs k=(-1,0)∧∀ e,e<k→cdB N xs fs e=false)∨∃ e,e<k∧cdB N xs fs e=true∧sbF N xs fs k=((e:Int),(rdR xs fs e).1)∧∀ e',e'<k→cdB N xs fs e'=true→(rdR xs fs e).1≤(rdR xs fs e').1
 | 0=>.inl ⟨rfl,fun e h=>absurd h (Nat.not_lt_zero e)⟩
 | k+1=>by
  have ih:=sbF_spec N xs fs k
  rw[sbF_succ]
  cases hc:cdB N xs fs k with
  | false=>
   have e1:sbS N xs fs (sbF N xs fs k) k=sbF N xs fs k:=by unfold sbS;rw[hc];exact if_neg (by simp)
   rw[e1]
   rcases ih with ⟨h1,h2⟩|⟨e,h1,h2,h3,h4⟩
   ·refine .inl ⟨h1,fun e he=>?_⟩
    by_cases h:e=k
    ·subst h;exact hc
    ·exact h2 e (by omega)
   ·refine .inr ⟨e,by omega,h2,h3,fun e' he' hc'=>?_⟩
    by_cases h:e'=k
    ·subst h;rw[hc] at hc';cases hc'
    ·exact h4 e' (by omega) hc'
  | true=>
   rcases ih with ⟨h1,h2⟩|⟨e,h1,h2,h3,h4⟩
   ·right
    refine ⟨k,by omega,hc,?_,fun e' he' hc'=>?_⟩
    ·unfold sbS;rw[h1,hc];exact if_pos ⟨rfl,.inl (by decide)⟩
    ·by_cases h:e'=k
     ·subst h;exact Int.le_refl _
     ·rw[h2 e' (by omega)] at hc';cases hc'
   ·right
    by_cases hlt:(rdR xs fs k).1<(rdR xs fs e).1
    ·refine ⟨k,by omega,hc,?_,fun e' he' hc'=>?_⟩
     ·unfold sbS;rw[h3,hc];exact if_pos ⟨rfl,.inr hlt⟩
     ·by_cases h:e'=k
      ·subst h;exact Int.le_refl _
      ·have:=h4 e' (by omega) hc';omega
    ·refine ⟨e,by omega,h2,?_,fun e' he' hc'=>?_⟩
     ·unfold sbS;rw[h3,hc];exact if_neg (by simp only;omega)
     ·by_cases h:e'=k
      ·subst h;omega
      ·exact h4 e' (by omega) hc'
def smL (N n:Nat) (xs:List Pl):Nat→List Fi
 | 0=>[]
 | k+1=>smL N n xs k++[⟨(sbF N xs (smL N n xs k) n).1,((cnt (smL N n xs k) (sbF N xs (smL N n xs k) n).1:Nat):Int)+1,(sbF N xs (smL N n xs k) n).2⟩]
theorem smL_len (N n:Nat) (xs:List Pl):∀ k,(smL N n xs k).length=k
 | 0=>rfl
 | k+1=>by simp[smL,smL_len N n xs k]
def sC (fs:List Fi):Nat→Nat
 | 0=>0
 | n+1=>sC fs n+cnt fs (n:Nat)
theorem sC_snoc {fs:List Fi}{f:Fi}:∀ {n:Nat},sC (fs++[f]) n=sC fs n+if 0≤f.e∧f.e<(n:Int) then 1 else 0
 | 0=>by simp[sC]<;>omega
 | n+1=>by
  simp only[sC]
  rw[sC_snoc (n:=n),cnt_snoc]
  by_cases h1:f.e=(n:Nat)
  ·rw[if_pos h1,if_neg (by omega),if_pos (by omega)];omega
  ·rw[if_neg h1]
   by_cases h2:0≤f.e∧f.e<(n:Int)
   ·rw[if_pos h2,if_pos (by omega)];omega
   ·rw[if_neg h2,if_neg (by omega)];omega
theorem sC_all {n:Nat}:∀ (m:Nat) {fs:List Fi},fs.length=m→(∀ f∈fs,0≤f.e∧f.e<(n:Int))→sC fs n=m
 | 0,fs,hl,_=>by
  obtain rfl:=List.length_eq_zero_iff.1 hl
  suffices key:∀ n,sC [] n=0 from key n
  intro n;induction n with
  | zero=>rfl
  | succ n ih=>simp[sC,ih,cnt]
 | m+1,fs,hl,h=>by
  obtain ⟨gs,f,rfl⟩:∃ gs f,fs=gs++[f]:=⟨fs.dropLast,fs.getLast (by intro e;rw[e] at hl;cases hl),(List.dropLast_concat_getLast _).symm⟩
  rw[sC_snoc,sC_all m (by simpa using hl) (fun g hg=>h g (by simp[hg])),if_pos (h f (by simp))]
theorem sC_le {N:Nat}{fs:List Fi}:∀ {n:Nat},(∀ e,e<n→cnt fs (e:Nat)≤N)→sC fs n≤N*n
 | 0,_=>Nat.zero_le _
 | n+1,h=>by
  have:=sC_le (n:=n) (fun e he=>h e (by omega))
  have h2:=h n (by omega)
  simp only[sC,Nat.mul_succ];omega
theorem sC_lt {N:Nat}{fs:List Fi}:∀ {n:Nat},sC fs n<N*n→∃ e,e<n∧cnt fs (e:Nat)<N
 | 0,h=>by simp[sC] at h
 | n+1,h=>by
  by_cases hc:cnt fs (n:Nat)<N
  ·exact ⟨n,by omega,hc⟩
  ·simp only[sC,Nat.mul_succ] at h
   obtain ⟨e,h1,h2⟩:=sC_lt (n:=n) (N:=N) (fs:=fs) (by omega)
   exact ⟨e,by omega,h2⟩
theorem sC_full {N:Nat}{fs:List Fi}:∀ {n:Nat},(∀ e,e<n→cnt fs (e:Nat)≤N)→sC fs n=N*n→∀ e,e<n→cnt fs (e:Nat)=N
 | 0,_,_,e,he=>absurd he (Nat.not_lt_zero e)
 | n+1,h,hs,e,he=>by
  have h1:=sC_le (n:=n) (N:=N) (fs:=fs) (fun e he=>h e (by omega))
  have h2:=h n (by omega)
  simp only[sC,Nat.mul_succ] at hs
  by_cases hen:e=n
  ·subst hen;omega
  ·exact sC_full (n:=n) (fun e he=>h e (by omega)) (by omega) e (by omega)
structure SmOk (N n:Nat) (xs:List Pl) (X:Nat→Nat→Int) (fs:List Fi):Prop where
 ev:∀ f∈fs,0≤f.e∧f.e<(n:Int)
 num:NumOk fs
 le:∀ e:Nat,e<n→cnt fs e≤N
 tm:∀ e i:Nat,e<n→i<cnt fs e→(tms fs e)[i]? = some (X i e)
 run:∀ (k:Nat) f,fs[k]? = some f→rnS n xs (fs.take k) f=true
 ls:∀ e:Nat,e<n→cnt fs e<N→xs.all (gdP fs e)=true→lsT fs≤X (cnt fs e) e
theorem SmOk.nil {N n:Nat}{xs:List Pl}{ord:List Nat}{X:Nat→Nat→Int} (h:RecX n N xs ord X):SmOk N n xs X []:=
 ⟨fun f hf=>(by cases hf),fun k f hf=>(by simp at hf),fun e _=>(by simp[cnt]),fun e i _ hi=>(by simp[cnt] at hi),fun k f hf=>(by simp at hf),fun e he hc _=>h.ge0 hc he⟩
theorem rdT_X {N n:Nat}{xs:List Pl}{ord:List Nat}{X:Nat→Nat→Int}{fs:List Fi} (h:RecX n N xs ord X) (hs:SmOk N n xs X fs) {e:Nat} (he:e<n) (hc:cnt fs e<N) (hg:xs.all (gdP fs e)=true):rdR xs fs e=(X (cnt fs e) e,true):=by
 rw[show rdR xs fs e=(rdT fs e xs,true) from if_pos hg,h.eq _ e hc he]
 congr 1
 have key:∀ (ps:List Pl) (t:Int),(∀ p∈ps,p∈xs)→ps.foldl (rxP fs e) t=ps.foldl (eqS X (cnt fs e) e) t:=by
  intro ps
  induction ps with
  | nil=>intro t _;rfl
  | cons p ps ih=>
   intro t hp
   have hpx:=hp p (by simp)
   have e1:rxP fs e t p=eqS X (cnt fs e) e t p:=by
    unfold rxP eqS
    have hgp:=List.all_eq_true.1 hg p hpx
    simp only[gdP,decide_eq_true_eq] at hgp
    have ho:=h.ok p hpx
    by_cases hq:p.t=(e:Int)∧p.k≤(cnt fs e:Int)
    ·rw[if_pos hq,if_neg (by omega)]
     have hcf:(cnt fs e:Int)+1 - p.k≤(cnt fs p.f:Int):=by omega
     have hff:p.f=((p.f.toNat:Nat):Int):=by have:=ho.1;omega
     have hi:((cnt fs e:Int)+1 - p.k - 1).toNat=cnt fs e - p.k.toNat:=by have:=ho.2.2.2.1;omega
     have:=hs.tm p.f.toNat (cnt fs e - p.k.toNat) (by have:=ho.1;omega) (by rw[← hff];have:=ho.2.2.2.1;omega)
     rw[← hff] at this
     rw[hi,this];rfl
    ·rw[if_neg hq,if_pos (by omega)]
   simp only[List.foldl_cons,e1]
   exact ih _ fun q hq=>hp q (List.mem_cons_of_mem _ hq)
 exact key xs 0 fun _ hp=>hp
theorem cd_ex {N n:Nat}{xs:List Pl}{ord:List Nat}{X:Nat→Nat→Int}{fs:List Fi} (h:RecX n N xs ord X):∀ (b e:Nat),cnt fs (e:Nat)*n+ord.idxOf e<b→e<n→cnt fs (e:Nat)<N→∃ e',e'<n∧cnt fs (e':Nat)<N∧xs.all (gdP fs (e':Nat))=true
 | 0,e,hb,_,_=>absurd hb (Nat.not_lt_zero _)
 | b+1,e,hb,he,hc=>by
  cases hg:xs.all (gdP fs (e:Nat)) with
  | true=>exact ⟨e,he,hc,hg⟩
  | false=>
   obtain ⟨p,hp,hpg⟩:∃ p∈xs,gdP fs (e:Nat) p=false:=by
    refine Classical.byContradiction fun hn=>?_
    have:xs.all (gdP fs (e:Nat))=true:=List.all_eq_true.2 fun p hp=>by
     cases hq:gdP fs (e:Nat) p with
     | true=>rfl
     | false=>exact absurd ⟨p,hp,hq⟩ hn
    rw[this] at hg;cases hg
   simp only[gdP,decide_eq_false_iff_not,not_or,Int.not_le,Decidable.not_not] at hpg
   obtain ⟨g1,g2,g3⟩:=hpg
   have ho:=h.ok p hp
   have hff:p.f=((p.f.toNat:Nat):Int):=by have:=ho.1;omega
   rw[hff] at g3
   obtain ⟨m1,m2⟩:=h.mes hp he g1 (show p.k≤((cnt fs (e:Nat):Nat):Int) by omega)
   have hle:cnt fs ((p.f.toNat:Nat):Int)≤cnt fs (e:Nat) - p.k.toNat:=by have:=ho.2.2.2.1;omega
   have hmul:=Nat.mul_le_mul_right n hle
   exact cd_ex h b p.f.toNat (by omega) m1 (by omega)
theorem cdB_iff {N:Nat}{n:Nat}{xs:List Pl}{X:Nat→Nat→Int}{fs:List Fi} (hs:SmOk N n xs X fs) {e:Nat} (he:e<n):cdB N xs fs e=true↔cnt fs (e:Nat)<N∧xs.all (gdP fs (e:Nat))=true:=by
 have hl:=hs.le e he
 unfold cdB rdR
 cases hg:xs.all (gdP fs (e:Nat)) with
 | true=>
  simp only[if_true,Bool.and_true,Bool.not_eq_true',decide_eq_false_iff_not,and_true]
  omega
 | false=>simp
theorem sb_next {N n:Nat}{xs:List Pl}{ord:List Nat}{X:Nat→Nat→Int}{fs:List Fi} (h:RecX n N xs ord X) (hs:SmOk N n xs X fs) (hl:fs.length<N*n):∃ e,e<n∧cnt fs (e:Nat)<N∧xs.all (gdP fs (e:Nat))=true∧sbF N xs fs n=((e:Int),X (cnt fs (e:Nat)) e)∧∀ e',e'<n→cnt fs (e':Nat)<N→xs.all (gdP fs (e':Nat))=true→X (cnt fs (e:Nat)) e≤X (cnt fs (e':Nat)) e':=by
 rw[← sC_all _ rfl hs.ev] at hl
 obtain ⟨e0,h1,h2⟩:=sC_lt hl
 obtain ⟨e1,h3,h4,h5⟩:=cd_ex h _ e0 (Nat.lt_succ_self _) h1 h2
 have hc1:=(cdB_iff hs h3).2 ⟨h4,h5⟩
 rcases sbF_spec N xs fs n with ⟨_,g2⟩|⟨e,g1,g2,g3,g4⟩
 ·rw[g2 e1 h3] at hc1;cases hc1
 ·obtain ⟨k1,k2⟩:=(cdB_iff hs g1).1 g2
  have k3:=rdT_X h hs g1 k1 k2
  refine ⟨e,g1,k1,k2,by rw[g3,k3],fun e' a1 a2 a3=>?_⟩
  have a4:=rdT_X h hs a1 a2 a3
  have:=g4 e' a1 ((cdB_iff hs a1).2 ⟨a2,a3⟩)
  rw[k3,a4] at this
  exact this
theorem SmOk.step {N n:Nat}{xs:List Pl}{ord:List Nat}{X:Nat→Nat→Int}{fs:List Fi} (h:RecX n N xs ord X) (hs:SmOk N n xs X fs) {e:Nat} (he:e<n) (hc:cnt fs (e:Nat)<N) (hg:xs.all (gdP fs (e:Nat))=true) (hmin:∀ e',e'<n→cnt fs (e':Nat)<N→xs.all (gdP fs (e':Nat))=true→X (cnt fs (e:Nat)) e≤X (cnt fs (e':Nat)) e'):SmOk N n xs X (fs++[⟨(e:Int),((cnt fs (e:Nat):Nat):Int)+1,X (cnt fs (e:Nat)) e⟩]):=by
 have hrd:=rdT_X h hs he hc hg
 have hcs:∀ a:Nat,cnt (fs++[⟨(e:Int),((cnt fs (e:Nat):Nat):Int)+1,X (cnt fs (e:Nat)) e⟩]) (a:Int)=cnt fs (a:Nat)+if e=a then 1 else 0:=fun a=>by
  rw[cnt_snoc]
  by_cases hea:e=a
  ·rw[if_pos (show (e:Int)=(a:Int) by omega),if_pos hea]
  ·rw[if_neg (show ¬(e:Int)=(a:Int) by omega),if_neg hea]
 refine ⟨fun f hf=>?_,hs.num.snoc rfl,fun a ha=>?_,fun a i ha hi=>?_,fun k f hf=>?_,fun a ha hca hga=>?_⟩
 ·rcases List.mem_append.1 hf with hf|hf
  ·exact hs.ev f hf
  ·simp only[List.mem_singleton] at hf;subst hf;simp only;omega
 ·rw[hcs];have:=hs.le a ha;split
  ·rename_i hea;subst hea;omega
  ·omega
 ·rw[hcs] at hi
  rw[tms_snoc]
  have hl:=tms_len fs (a:Nat)
  by_cases hea:e=a
  ·subst hea
   rw[if_pos rfl] at hi
   rw[if_pos rfl]
   by_cases hic:i<cnt fs (e:Nat)
   ·rw[List.getElem?_append_left (by omega)];exact hs.tm e i he hic
   ·obtain rfl:i=cnt fs (e:Nat):=by omega
    rw[List.getElem?_append_right (by omega),hl,Nat.sub_self];rfl
  ·rw[if_neg hea] at hi
   rw[if_neg (show ¬(e:Int)=(a:Int) by omega),List.append_nil]
   exact hs.tm a i ha (by omega)
 ·rw[List.getElem?_append] at hf
  split at hf
  ·rename_i hlt
   rw[List.take_append_of_le_length (by omega)]
   exact hs.run k f hf
  ·rename_i hge
   have hk0:k - fs.length=0:=by
    have:=(List.getElem?_eq_some_iff.1 hf).1
    simp at this;omega
   rw[hk0] at hf
   simp only[List.getElem?_cons_zero,Option.some.injEq] at hf
   subst hf
   obtain rfl:k=fs.length:=by omega
   rw[List.take_left]
   simp only[rnS,hrd,Bool.and_eq_true,decide_eq_true_eq]
   exact ⟨by omega,hs.ls e he hc hg,trivial,Int.le_refl _⟩
 ·rw[lsT_snoc]
  simp only
  rw[hcs] at hca ⊢
  by_cases hea:e=a
  ·subst hea
   rw[if_pos rfl] at hca ⊢
   exact h.mono _ e hc he hca
  ·rw[if_neg hea,Nat.add_zero] at hca ⊢
   cases hg2:xs.all (gdP fs (a:Nat)) with
   | true=>exact hmin a ha hca hg2
   | false=>
    obtain ⟨p,hp,hpg⟩:∃ p∈xs,gdP fs (a:Nat) p=false:=by
     refine Classical.byContradiction fun hn=>?_
     have:xs.all (gdP fs (a:Nat))=true:=List.all_eq_true.2 fun p hp=>by
      cases hq:gdP fs (a:Nat) p with
      | true=>rfl
      | false=>exact absurd ⟨p,hp,hq⟩ hn
     rw[this] at hg2;cases hg2
    have hpn:=List.all_eq_true.1 hga p hp
    have ho:=h.ok p hp
    have hff:p.f=((p.f.toNat:Nat):Int):=by have:=ho.1;omega
    simp only[gdP,decide_eq_false_iff_not,not_or,Int.not_le,Decidable.not_not,decide_eq_true_eq] at hpg hpn
    rw[hff] at hpg hpn
    rw[hcs,hcs,if_neg hea] at hpn
    obtain ⟨g1,g2,g3⟩:=hpg
    have hef:e=p.f.toNat:=by
     refine Classical.byContradiction fun hne=>?_
     rw[if_neg hne] at hpn
     omega
    rw[if_pos hef] at hpn
    have hk:cnt fs (a:Nat) - p.k.toNat=cnt fs (e:Nat):=by rw[hef];have:=ho.2.2.2.1;omega
    have hup:=eqF_up (X:=X) (k:=cnt fs (a:Nat)) (e:=a) (xs:=xs) (t:=0) hp g1 (by omega)
    rw[h.eq _ a hca ha]
    rw[hk,← hef] at hup
    have:=ho.2.2.1
    unfold eqX
    omega
theorem sm_ok {N n:Nat}{xs:List Pl}{ord:List Nat}{X:Nat→Nat→Int} (h:RecX n N xs ord X):∀ k,k≤N*n→SmOk N n xs X (smL N n xs k)
 | 0,_=>SmOk.nil h
 | k+1,hk=>by
  have ih:=sm_ok h k (by omega)
  obtain ⟨e,h1,h2,h3,h4,h5⟩:=sb_next h ih (by rw[smL_len];omega)
  have:=ih.step h h1 h2 h3 h5
  have e1:smL N n xs (k+1)=smL N n xs k++[⟨(e:Int),((cnt (smL N n xs k) (e:Nat):Nat):Int)+1,X (cnt (smL N n xs k) (e:Nat)) e⟩]:=by
   simp only[smL,h4]
  rw[e1];exact this
theorem SmOk.tmOk {N n:Nat}{xs:List Pl}{ord:List Nat}{X:Nat→Nat→Int}{fs:List Fi} (h:RecX n N xs ord X) (hs:SmOk N n xs X fs) (hN:N*n≤100):TmOk fs:=fun f hf=>by
 obtain ⟨h1,h2⟩:=hs.ev f hf
 have hm:f.t∈tms fs f.e:=List.mem_map.2 ⟨f,List.mem_filter.2 ⟨hf,by simp⟩,rfl⟩
 obtain ⟨i,hi,hit⟩:=List.getElem_of_mem hm
 have hfe:f.e=((f.e.toNat:Nat):Int):=by omega
 have hic:i<cnt fs ((f.e.toNat:Nat):Int):=by rw[← hfe,← tms_len];exact hi
 have hen:f.e.toNat<n:=by omega
 have:=hs.tm f.e.toNat i hen hic
 rw[← hfe,List.getElem?_eq_getElem hi,hit] at this
 have hx:f.t=X i f.e.toNat:=by simpa using this
 have hiN:i<N:=by have:=hs.le _ hen;omega
 have b1:=h.ge0 hiN hen
 have b2:=h.bd i _ hiN hen
 have b3:=(ord_idx h.ord).2.2 _ hen
 have b4:(i+1)*n≤N*n:=Nat.mul_le_mul_right n hiN
 rw[Nat.add_mul,Nat.one_mul] at b4
 rw[hx]
 exact ⟨b1,by omega⟩
theorem SmOk.rnB {N n:Nat}{xs:List Pl}{X:Nat→Nat→Int}{fs:List Fi} (hs:SmOk N n xs X fs):rnB n xs fs=true:=by
 rcases rnB_or n xs fs with ⟨h,_⟩|⟨_,j,f,h1,h2,_⟩
 ·exact h
 ·rw[hs.run j f h1] at h2;cases h2
theorem SmOk.full {N n:Nat}{xs:List Pl}{X:Nat→Nat→Int}{fs:List Fi} (hs:SmOk N n xs X fs) (hl:fs.length=N*n) {e:Nat} (he:e<n):tms fs (e:Nat)=(List.range N).map fun k=>X k e:=by
 have hc:=sC_full hs.le (by rw[sC_all _ rfl hs.ev];exact hl) e he
 apply List.ext_getElem?
 intro i
 have hl:=tms_len fs (e:Nat)
 by_cases hi:i<N
 ·rw[hs.tm e i he (by omega)]
  simp[hi]
 ·rw[List.getElem?_eq_none (by omega),List.getElem?_eq_none (by simp;omega)]
end
end Go.Proofs.YtkpoclbnnpglfaaGreat
