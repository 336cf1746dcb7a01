/-
  Walks in the abstract reading, part 17.
-/
import Derived.Test.YtkpoclbnnpglfaaGreatKtU15
import Derived.Test.YtkpoclbnnpglfaaGreatKtU16
import Derived.Test.YtkpoclbnnpglfaaGreatKtU14
set_option linter.unusedSimpArgs false
set_option linter.unusedVariables false
namespace Go.Proofs.YtkpoclbnnpglfaaGreat
section
open Go Go.RowKit
section
variable {P : Program} {o : Oper} {A : Operand → AV} {H : Heap} {new : Nat}
theorem Ok.ldTs [Mode] {t:TypeId}{a:Operand}{k i m:Nat}{l e:Loc}{rows:List (List AV)} (ho:o.op = .load t a) (ha:A a = .ptr 1 l (0+((i:Nat):Int).toNat) 0) [TyCell P t] (hl:H l=some ⟨1,rows.set i [.own k e 0 m]⟩) (hi:i<rows.length):OpOk P o A [l] H new (.own k e 0 m) []:=
 OpOk.loadCell ho ha hl rfl (r:=[.own k e 0 m]) (by rw[show 0+((i:Nat):Int).toNat=i by omega];exact List.getElem?_set_self hi) rfl
end
theorem TR_tmT_snoc [Mode] {n e:Nat}{fs:List Fi}{fn ft:Int} (he:e<n):TR (tmT n (fs++[⟨(e:Nat),fn,ft⟩]))=(TR (tmT n fs)).set e (IR (tms fs (e:Nat))++[[DI ft]]):=by
 rw[tmT_snoc he rfl]
 simp[TR,IR,List.map_set]
attribute [local irreducible] AL AD AW OpOk Le AC thenQ blockQ EndQ
set_option maxHeartbeats 8000000 in
theorem simulate_ac [Mode] (n:Nat) (xs:List Pl) (ord:List Nat) (X:Nat→Nat→Int) (hn:1≤n∧n≤10) (hx:xs.length≤30) (hX:RecX n 6 xs ord X):AC Tryz.prog 57 [grD n xs,I 6] H0 (own1 3 (6*n)) (hp1 (FO (smL 6 n xs (6*n)))):=by
 have hv:=hX.ok
 refine AC.of_body 0 Tryz.func57 rfl (fun l h=>absurd rfl h) (fun C hC=>?_)
 have hD:∀ l,¬ C.D0 l:=fun l h=>(hC l).1 h rfl
 simp only[startFr,Tryz.ntmps57,List.length_cons,List.length_nil,Nat.reduceAdd,Nat.reduceSub,List.replicate_succ,List.replicate_zero,List.cons_append,List.nil_append]
 repeat' (first|((first|apply Ba|(apply Bb;(· rfl);(· rfl))|(apply Bc;(· exact nxE))|(apply Bd;(· rfl);(· rfl);(· exact nxE)));(· first|exact Ok.lenD rfl rfl FL_len|exact Ok.makeN (n:=n) rfl rfl rfl (by omega) (by omega)|exact Ok.pe))|((first|apply Ca|(apply Cb;(· exact nxE)));(· first|exact Ok.makeN (n:=n) rfl rfl rfl (by omega) (by omega)|exact Ok.e0))|refine Sx ?_|(refine Sy (fun h=>?_) (fun h=>?_)<;>try (exfalso;omega;done))|refine Sz (fun h=>?_) (fun h=>?_))
 refine AW.loop (X:={k:Nat // k≤6*n}) (fun k=>⟨[Oo,I 6,Bx 2 0,Oo,Oo,.own 1 ⟨1,[]⟩ 0 n,.own 3 ⟨2,[]⟩ 0 (k.1:Nat),Oo,Oo,Oo,Oo,Oo,Oo,Oo,Oo,Oo,Oo,Oo,Oo,Oo,Oo,Oo,Oo,Oo,Oo,Oo,Oo,Oo,Oo,Oo,Oo,Oo,Oo,Oo,Oo,Oo,Oo,Oo,Oo,Oo,Oo,Oo,Oo,Oo,Oo,Oo,Oo,Oo,Oo,Oo,Oo,Oo,Oo,Oo,Oo,Oo,Oo,Oo,Oo,Oo,Oo,Oo,Oo,Oo,Oo,Oo,Oo,Oo,Oo,Oo,Oo,Oo,Oo,Oo,Oo,Oo],heapX [(⟨0,[]⟩,⟨0,[]⟩,⟨2,[[I n,PL xs]]⟩),(⟨2,[]⟩,⟨2,[]⟩,FO (smL 6 n xs k.1))] [mi1 ⟨1,[]⟩ (TR (tmT n (smL 6 n xs k.1)))],900⟩) (fun k=>6*n - k.1) ⟨0,Nat.zero_le _⟩ ?_ (fun k=>?_)
 ·
  refine (Le.nil 6 3 rfl).trans ((Le.nilTm 1 n ⟨4,[]⟩ rfl).trans ?_)
  (apply Le.headG [_,_] [{ l:=⟨1,[]⟩,k:=1,R:=TR (tmT n (smL 6 n xs 0)),src:=⟨4,[]⟩,base:=⟨8,[]⟩ }] (fun _=>False))
  (case' hlen=>rfl)
  (case' hms=>rfl)
  all_goals (try dsimp only[srcs])
  (case' hfr|hob=>(repeat' (first|refine La ?_ ?_|exact Lc|refine Lo ?_|refine ⟨⟨_,rfl,?_⟩,?_⟩|refine Lx ?_)))
  (case' hok=>first|exact ⟨MI.ok_nilT (TR_nils rfl) (by decide),trivial⟩|exact trivial)
  (case' hN=>rfl)
  (case' hS=>rfl)
  all_goals (first|exact Ld|(rfl))
 obtain ⟨u,hu⟩:=k
 simp only
 by_cases hul:u<6*n
 case neg=>
  obtain rfl:u=6*n:=by omega
  repeat' (first|((first|apply Ba|(apply Bb;(· rfl);(· rfl))|(apply Bc;(· exact nxE))|(apply Bd;(· rfl);(· rfl);(· exact nxE)));(· first|exact Ok.lenD rfl rfl FL_len|exact Ok.pe))|((first|apply Ca|(apply Cb;(· exact nxE)));(· first|exact Ok.e0))|refine Sx ?_|(refine Sy (fun h=>?_) (fun h=>?_)<;>try (exfalso;omega;done))|refine Sz (fun h=>?_) (fun h=>?_))
  refine Ya ?_
  (apply Le.head [(⟨0,[]⟩,_,_)])
  (case' hfr|hob=>(repeat' (first|refine La ?_ ?_|exact Lc|refine Lo ?_|refine ⟨⟨_,rfl,?_⟩,?_⟩|refine Lx ?_)))
  all_goals (first|exact Ld|(rfl))
 have hs:=sm_ok hX u (by omega)
 have hlen:=smL_len 6 n xs u
 obtain ⟨e,he,hec,heg,hsb,hmin⟩:=sb_next hX hs (by omega)
 have hsk:smL 6 n xs (u+1)=smL 6 n xs u++[⟨(e:Int),((cnt (smL 6 n xs u) (e:Nat):Nat):Int)+1,X (cnt (smL 6 n xs u) (e:Nat)) e⟩]:=by
  simp only[smL,hsb]
 have htm:=hs.tmOk hX (by omega)
 generalize smL 6 n xs u=fs at *
 have hTl:(TR (tmT n fs)).length=n:=by rw[TR_len,tmT_len]
 have hol:(fs.map Fi.row).length=u:=by rw[FL_len,hlen]
 have hxb:0≤X (cnt fs (e:Nat)) e∧X (cnt fs (e:Nat)) e≤1000000:=by
  have hX1:=rdT_X hX hs he hec heg
  refine ⟨hX.ge0 hec he,?_⟩
  have:=hX.bd _ e hec he
  have hi:=(ord_idx hX.ord).2.2 e he
  have hm:(cnt fs (e:Nat)+1)*n≤6*n:=Nat.mul_le_mul_right n hec
  rw[Nat.add_mul,Nat.one_mul] at hm
  omega
 repeat' (first|((first|apply Ba|(apply Bb;(· rfl);(· rfl))|(apply Bc;(· exact nxE))|(apply Bd;(· rfl);(· rfl);(· exact nxE)));(· first|exact Ok.lenD rfl rfl FL_len|exact Ok.pe))|((first|apply Ca|(apply Cb;(· exact nxE)));(· first|exact Ok.e0))|refine Sx ?_|(refine Sy (fun h=>?_) (fun h=>?_)<;>try (exfalso;omega;done))|refine Sz (fun h=>?_) (fun h=>?_))
 refine AW.loop (X:={k:Nat // k≤n}) (fun k=>⟨[Oo,I 6,Bx 2 0,Oo,Oo,.own 1 ⟨1,[]⟩ 0 n,.own 3 ⟨2,[]⟩ 0 u,I (sbF 6 xs fs (k.1:Nat)).1,I (sbF 6 xs fs (k.1:Nat)).2,Oo,Oo,Oo,Oo,Oo,Oo,Oo,Oo,Oo,Oo,Oo,Oo,Oo,Oo,I n,I (k.1:Nat),Oo,Oo,Oo,Oo,Oo,Oo,Oo,Oo,Oo,Oo,Oo,Oo,Oo,Oo,Oo,Oo,Oo,Oo,Oo,Oo,Oo,Oo,Oo,Oo,Oo,Oo,Oo,Oo,Oo,Oo,Oo,Oo,Oo,Oo,Oo,Oo,Oo,Oo,Oo,Oo,Oo,Oo,Oo,Oo,Oo,Oo,Oo,Oo,Oo,Oo,Oo],heapX [(⟨0,[]⟩,⟨0,[]⟩,⟨2,[[I n,PL xs]]⟩),(⟨2,[]⟩,⟨2,[]⟩,FO fs)] [mi1 ⟨1,[]⟩ (TR (tmT n fs))],900⟩) (fun k=>n - k.1) ⟨0,Nat.zero_le _⟩ ?_ (fun k=>?_)
 ·
  (apply Le.headG [_,_] [mi1 ⟨1,[]⟩ (TR (tmT n fs))] (fun _=>False))
  (case' hlen=>rfl)
  (case' hms=>rfl)
  all_goals (try dsimp only[srcs])
  (case' hfr|hob=>(repeat' (first|refine La ?_ ?_|exact Lc|refine Lo ?_|refine ⟨⟨_,rfl,?_⟩,?_⟩|refine Lx ?_)))
  (case' hok=>first|exact ⟨MI.ok_same rfl (Cg),trivial⟩|exact trivial)
  (case' hN=>rfl)
  (case' hS=>rfl)
  all_goals (first|exact Ld|(rfl))
 obtain ⟨c,hc⟩:=k
 simp only
 by_cases hcl:c<n
 ·have hR:=readyTime_ac n xs fs c hcl hn.2 hv (by omega) htm (by omega)
  have hrw:=TR_tmT_get (n:=n) (fs:=fs) hcl
  have hle:(IR (tms fs (c:Nat))).length=cnt fs (c:Nat):=by rw[IR_len,tms_len]
  have hcs:=hs.le c hcl
  have hsu:=sbF_succ (N:=6) (xs:=xs) (fs:=fs) (k:=c)
  generalize hq:rdR xs fs (c:Nat)=q at *
  generalize sbF 6 xs fs c=b at *
  obtain ⟨qt,qb⟩:=q
  obtain ⟨b1,b2⟩:=b
  simp only at hR
  unfold sbS cdB at hsu
  rw[hq] at hsu
  simp only at hsu
  generalize hcn:cnt fs (c:Nat)=cn at *
  by_cases h6:cn=6
  ·have hsu2:sbF 6 xs fs (c+1)=(b1,b2):=by rw[hsu,if_neg (by simp[h6])]
   repeat' (first|((first|apply Ba|(apply Bb;(· rfl);(· rfl))|(apply Bc;(· exact nxE))|(apply Bd;(· rfl);(· rfl);(· exact nxE)));(· first|exact Ok.ldTn rfl rfl rfl hrw hle|exact Ok.lenD rfl rfl FL_len|exact Ok.pe))|((first|apply Ca|(apply Cb;(· exact nxE)));(· first|exact Ok.e0))|refine Sx ?_|(refine Sy (fun h=>?_) (fun h=>?_)<;>try (exfalso;omega;done))|refine Sz (fun h=>?_) (fun h=>?_))
   refine ⟨⟨c+1,by omega⟩,?_,by simp only;omega⟩
   simp only[hsu2]
   (apply Le.headG [_,_] [mi1 ⟨1,[]⟩ (TR (tmT n fs))] (fun _=>False))
   (case' hlen=>rfl)
   (case' hms=>rfl)
   all_goals (try dsimp only[srcs])
   (case' hfr|hob=>(repeat' (first|refine La ?_ ?_|exact Lc|refine Lo ?_|refine ⟨⟨_,rfl,?_⟩,?_⟩|refine Lx ?_)))
   (case' hok=>first|exact ⟨MI.ok_same rfl (Cg),trivial⟩|exact trivial)
   (case' hN=>rfl)
   (case' hS=>rfl)
   all_goals (first|exact Ld|(rfl))
  cases qb with
  | false=>
   have hsu2:sbF 6 xs fs (c+1)=(b1,b2):=by rw[hsu,if_neg (by simp)]
   repeat' (first|((first|apply Ba|(apply Bb;(· rfl);(· rfl))|(apply Bc;(· exact nxE))|(apply Bd;(· rfl);(· rfl);(· exact nxE)));(· first|exact Ok.ldTn rfl rfl rfl hrw hle|exact Ez rfl rfl (hR) (Sa (Sd (Sd Sn)) (Sm (Sd Sn)))|exact Ok.lenD rfl rfl FL_len|exact Ok.pe))|((first|apply Ca|(apply Cb;(· exact nxE)));(· first|exact Ok.e0))|refine Sx ?_|(refine Sy (fun h=>?_) (fun h=>?_)<;>try (exfalso;omega;done))|refine Sz (fun h=>?_) (fun h=>?_))
   refine ⟨⟨c+1,by omega⟩,?_,by simp only;omega⟩
   simp only[hsu2]
   (apply Le.headG [_,_] [mi1 ⟨1,[]⟩ (TR (tmT n fs))] (fun _=>False))
   (case' hlen=>rfl)
   (case' hms=>rfl)
   all_goals (try dsimp only[srcs])
   (case' hfr|hob=>(repeat' (first|refine La ?_ ?_|exact Lc|refine Lo ?_|refine ⟨⟨_,rfl,?_⟩,?_⟩|refine Lx ?_)))
   (case' hok=>first|exact ⟨MI.ok_same rfl (Cg),trivial⟩|exact trivial)
   (case' hN=>rfl)
   (case' hS=>rfl)
   all_goals (first|exact Ld|(rfl))
  | true=>
   by_cases hb:b1<0
   ·have hsu2:sbF 6 xs fs (c+1)=((c:Int),qt):=by rw[hsu,if_pos (by simp[h6,hb])]
    repeat' (first|((first|apply Ba|(apply Bb;(· rfl);(· rfl))|(apply Bc;(· exact nxE))|(apply Bd;(· rfl);(· rfl);(· exact nxE)));(· first|exact Ok.ldTn rfl rfl rfl hrw hle|exact Ez rfl rfl (hR) (Sa (Sd (Sd Sn)) (Sm (Sd Sn)))|exact Ok.lenD rfl rfl FL_len|exact Ok.pe))|((first|apply Ca|(apply Cb;(· exact nxE)));(· first|exact Ok.e0))|refine Sx ?_|(refine Sy (fun h=>?_) (fun h=>?_)<;>try (exfalso;omega;done))|refine Sz (fun h=>?_) (fun h=>?_))
    refine ⟨⟨c+1,by omega⟩,?_,by simp only;omega⟩
    simp only[hsu2]
    (apply Le.headG [_,_] [mi1 ⟨1,[]⟩ (TR (tmT n fs))] (fun _=>False))
    (case' hlen=>rfl)
    (case' hms=>rfl)
    all_goals (try dsimp only[srcs])
    (case' hfr|hob=>(repeat' (first|refine La ?_ ?_|exact Lc|refine Lo ?_|refine ⟨⟨_,rfl,?_⟩,?_⟩|refine Lx ?_)))
    (case' hok=>first|exact ⟨MI.ok_same rfl (Cg),trivial⟩|exact trivial)
    (case' hN=>rfl)
    (case' hS=>rfl)
    all_goals (first|exact Ld|(rfl))
   ·by_cases hb2:qt<b2
    ·have hsu2:sbF 6 xs fs (c+1)=((c:Int),qt):=by rw[hsu,if_pos (by simp[h6,hb2])]
     repeat' (first|((first|apply Ba|(apply Bb;(· rfl);(· rfl))|(apply Bc;(· exact nxE))|(apply Bd;(· rfl);(· rfl);(· exact nxE)));(· first|exact Ok.ldTn rfl rfl rfl hrw hle|exact Ez rfl rfl (hR) (Sa (Sd (Sd Sn)) (Sm (Sd Sn)))|exact Ok.lenD rfl rfl FL_len|exact Ok.pe))|((first|apply Ca|(apply Cb;(· exact nxE)));(· first|exact Ok.e0))|refine Sx ?_|(refine Sy (fun h=>?_) (fun h=>?_)<;>try (exfalso;omega;done))|refine Sz (fun h=>?_) (fun h=>?_))
     refine ⟨⟨c+1,by omega⟩,?_,by simp only;omega⟩
     simp only[hsu2]
     (apply Le.headG [_,_] [mi1 ⟨1,[]⟩ (TR (tmT n fs))] (fun _=>False))
     (case' hlen=>rfl)
     (case' hms=>rfl)
     all_goals (try dsimp only[srcs])
     (case' hfr|hob=>(repeat' (first|refine La ?_ ?_|exact Lc|refine Lo ?_|refine ⟨⟨_,rfl,?_⟩,?_⟩|refine Lx ?_)))
     (case' hok=>first|exact ⟨MI.ok_same rfl (Cg),trivial⟩|exact trivial)
     (case' hN=>rfl)
     (case' hS=>rfl)
     all_goals (first|exact Ld|(rfl))
    ·have hsu2:sbF 6 xs fs (c+1)=(b1,b2):=by rw[hsu,if_neg (by simp only[hb,hb2,or_self,and_false];exact fun h=>h)]
     repeat' (first|((first|apply Ba|(apply Bb;(· rfl);(· rfl))|(apply Bc;(· exact nxE))|(apply Bd;(· rfl);(· rfl);(· exact nxE)));(· first|exact Ok.ldTn rfl rfl rfl hrw hle|exact Ez rfl rfl (hR) (Sa (Sd (Sd Sn)) (Sm (Sd Sn)))|exact Ok.lenD rfl rfl FL_len|exact Ok.pe))|((first|apply Ca|(apply Cb;(· exact nxE)));(· first|exact Ok.e0))|refine Sx ?_|(refine Sy (fun h=>?_) (fun h=>?_)<;>try (exfalso;omega;done))|refine Sz (fun h=>?_) (fun h=>?_))
     refine ⟨⟨c+1,by omega⟩,?_,by simp only;omega⟩
     simp only[hsu2]
     (apply Le.headG [_,_] [mi1 ⟨1,[]⟩ (TR (tmT n fs))] (fun _=>False))
     (case' hlen=>rfl)
     (case' hms=>rfl)
     all_goals (try dsimp only[srcs])
     (case' hfr|hob=>(repeat' (first|refine La ?_ ?_|exact Lc|refine Lo ?_|refine ⟨⟨_,rfl,?_⟩,?_⟩|refine Lx ?_)))
     (case' hok=>first|exact ⟨MI.ok_same rfl (Cg),trivial⟩|exact trivial)
     (case' hN=>rfl)
     (case' hS=>rfl)
     all_goals (first|exact Ld|(rfl))
 obtain rfl:c=n:=by omega
 simp only[hsb]
 have hrw:=TR_tmT_get (n:=c) (fs:=fs) (e:=e) he
 have hle:(IR (tms fs (e:Nat))).length=cnt fs (e:Nat):=by rw[IR_len,tms_len]
 have hset:TR (tmT c (smL 6 c xs (u+1)))=(TR (tmT c fs)).set e (IR (tms fs (e:Nat))++[[DI (X (cnt fs (e:Nat)) e)]]):=by rw[hsk];exact TR_tmT_snoc he
 have hlen2:(IR (tms fs (e:Nat))++[[DI (X (cnt fs (e:Nat)) e)]]).length=cnt fs (e:Nat)+1:=by rw[List.length_append,hle];rfl
 have hcut:e<(TR (tmT c fs)).length:=by omega
 generalize X (cnt fs (e:Nat)) e=x at *
 generalize cnt fs (e:Nat)=cn at *
 repeat' (first|((first|apply Ba|(apply Bb;(· rfl);(· rfl))|(apply Bc;(· exact nxE))|(apply Bd;(· rfl);(· rfl);(· exact nxE)));(· first|exact Ok.ldTn rfl rfl rfl hrw hle|exact Ok.ldTs rfl rfl rfl (by rw[outer_len];omega)|exact Ok.lenD rfl rfl FL_len|exact Ok.append1 (row:=[DI x]) rfl rfl (by decide) rfl (congrArg (Option.map (dobj 1)) hrw) hle rfl rfl rfl (by rfl) (by omega) (by omega)|exact Ok.stT rfl rfl rfl (by dsimp only;rw[hTl];omega) rfl|exact Ok.append1 (row:=[DI e,DI ((cn:Int)+1),DI x]) rfl rfl (by decide) rfl rfl hol rfl rfl rfl (by rfl) (by omega) (by omega)|exact Ok.pe))|((first|apply Ca|(apply Cb;(· exact nxE)));(· first|exact Ok.append1 (row:=[DI x]) rfl rfl (by decide) rfl (congrArg (Option.map (dobj 1)) hrw) hle rfl rfl rfl (by rfl) (by omega) (by omega)|exact Ok.stT rfl rfl rfl (by dsimp only;rw[hTl];omega) rfl|exact Ok.append1 (row:=[DI e,DI ((cn:Int)+1),DI x]) rfl rfl (by decide) rfl rfl hol rfl rfl rfl (by rfl) (by omega) (by omega)|exact Ok.e0))|refine Sx ?_|(refine Sy (fun h=>?_) (fun h=>?_)<;>try (exfalso;omega;done))|refine Sz (fun h=>?_) (fun h=>?_))
 refine ⟨⟨u+1,by omega⟩,?_,by simp only;omega⟩
 (apply Le.headG [_,_] [{ l:=⟨1,[]⟩,k:=1,R:=TR (tmT c (smL 6 c xs (u+1))),src:=⟨1,[]⟩,base:=⟨1,[]⟩,cut:=e,ext:=some ⟨909,[]⟩ }] (fun _=>False))
 (case' hlen=>rfl)
 (case' hms=>rfl)
 all_goals (try dsimp only[srcs])
 (case' hfr|hob=>(repeat' (first|refine La ?_ ?_|exact Lc|refine Lo ?_|refine ⟨⟨_,rfl,?_⟩,?_⟩|refine Lx ?_)))
 (case' hok=>first|exact ⟨MI.ok_swap hset hcut hlen2 rfl (fun i x hx hne=>by simp[upds,W.app,upd,heapX,heapM,matG,Loc.cov,Loc.at,hne,hx]) rfl,trivial⟩|exact trivial)
 (case' hN=>rfl)
 (case' hS=>rfl)
 all_goals (first|exact Ld|((first|(rw[hsk,List.map_append];rfl)|(simp[AllP];done)|(simp[AllP];omega))))
theorem iSimulateGraph_ac [Mode] (n:Nat) (xs:List Pl) (ord:List Nat) (X:Nat→Nat→Int) (hl:liveI n xs=0) (hx:xs.length≤1000) (hX:RecX n 6 xs ord X):AC Tryz.prog 18 [grD n xs,I 6] H0 (.tup [FL (smL 6 n xs (6*n)),I 0]) H0:=by
 have hCF:=checkFirings_ac n xs 6 hl hx (by decide)
 obtain ⟨v,e0,h1,h2,h3,h4,_,_⟩:=liveI_ok hl
 obtain rfl:v=n:=by omega
 have hS:=simulate_ac v xs ord X ⟨h1,h2⟩ h3 hX
 have hSd:AC Tryz.prog 57 [grD v xs,I 6] H0 (FL (smL 6 v xs (6*v))) H0:=hS.frz (AR.whole rfl trivial (by rw[FL_len,smL_len]))
 clear hS
 refine AC.of_body 0 Tryz.func18 rfl (fun l h=>absurd rfl h) (fun C hC=>?_)
 have hD:∀ l,¬ C.D0 l:=fun l h=>(hC l).1 h rfl
 simp only[startFr,Tryz.ntmps18,List.length_cons,List.length_nil,Nat.reduceAdd,Nat.reduceSub,List.replicate_succ,List.replicate_zero,List.cons_append,List.nil_append]
 repeat' (first|((first|apply Ba|(apply Bb;(· rfl);(· rfl))|(apply Bc;(· exact nxE))|(apply Bd;(· rfl);(· rfl);(· exact nxE)));(· first|exact Kz rfl rfl (hCF) (Aa (Ad (Ad An)) (Ad An))|exact Kz rfl rfl (hSd) (Aa (Ad (Ad An)) (Ad An))|exact Ok.lenD rfl rfl FL_len|exact Ok.pe))|((first|apply Ca|(apply Cb;(· exact nxE)));(· first|exact Ok.e0))|refine Sx ?_|(refine Sy (fun h=>?_) (fun h=>?_)<;>try (exfalso;omega;done))|refine Sz (fun h=>?_) (fun h=>?_))
 refine Yb ?_
 (apply Le.headZ (hs:=[]) [] rfl)
 all_goals (try dsimp only[srcs])
 (case' hfr=>(repeat' (first|refine La ?_ ?_|exact Lc|refine Lo ?_|refine ⟨⟨_,rfl,?_⟩,?_⟩|refine Lx ?_)))
 all_goals (first|exact Ld|exact trivial|(rfl))
theorem iIsRun_ac [Mode] (n:Nat) (xs:List Pl) (fs:List Fi) (hl:liveI n xs=0) (hx:xs.length≤1000) (hno:NumOk fs) (htm:TmOk fs) (hfl:fs.length≤500) (hr:rnB n xs fs=true):AC Tryz.prog 19 [grD n xs,FL fs] H0 (Bo true) H0:=by
 obtain ⟨v,e0,h1,h2,h3,h4,_,_⟩:=liveI_ok hl
 obtain rfl:v=n:=by omega
 have hG:=iIsEventGraph_ac v xs (by omega)
 have hg:isEG v xs=true:=by
  unfold liveI at hl
  split at hl
  ·assumption
  ·simp at hl
 have hR:=isRun_ac v xs fs ⟨h1,h2⟩ h3 h4 hno htm hfl
 rw[hr] at hR
 rw[hg] at hG
 refine AC.of_body 0 Tryz.func19 rfl (fun l h=>absurd rfl h) (fun C hC=>?_)
 have hD:∀ l,¬ C.D0 l:=fun l h=>(hC l).1 h rfl
 simp only[startFr,Tryz.ntmps19,List.length_cons,List.length_nil,Nat.reduceAdd,Nat.reduceSub,List.replicate_succ,List.replicate_zero,List.cons_append,List.nil_append]
 repeat' (first|((first|apply Ba|(apply Bb;(· rfl);(· rfl))|(apply Bc;(· exact nxE))|(apply Bd;(· rfl);(· rfl);(· exact nxE)));(· first|exact Kz rfl rfl (hG) (Aa (Ad (Ad An)) An)|exact Kz rfl rfl (hR) (Aa (Ad (Ad An)) (Ad An))|exact Ok.lenD rfl rfl FL_len|exact Ok.pe))|((first|apply Ca|(apply Cb;(· exact nxE)));(· first|exact Ok.e0))|refine Sx ?_|(refine Sy (fun h=>?_) (fun h=>?_)<;>try (exfalso;omega;done))|refine Sz (fun h=>?_) (fun h=>?_))
 refine Ya ?_
 (apply Le.headZ (hs:=[]) [] rfl)
 all_goals (try dsimp only[srcs])
 (case' hfr=>(repeat' (first|refine La ?_ ?_|exact Lc|refine Lo ?_|refine ⟨⟨_,rfl,?_⟩,?_⟩|refine Lx ?_)))
 all_goals (first|exact Ld|exact trivial|(rfl))
theorem iTimesIn_ac [Mode] (fs:List Fi) (e:Int) (hl:fs.length≤500):AC Tryz.prog 20 [FL fs,I e] H0 (.tup [IL (tms fs e),I 0]) H0:=by
 have hle:=tms_len fs e
 have hcl:=cnt_le fs e
 refine AC.frz (res:=.tup [own1 1 (tms fs e).length,I 0]) (H':=hp1 (IO (tms fs e))) ?_ (ARs.tup (.cons (AR.whole rfl trivial (by rw[IR_len])) (.cons (.dd _) .nil)))
 refine AC.of_body 0 Tryz.func20 rfl (fun l h=>absurd rfl h) (fun C hC=>?_)
 have hD:∀ l,¬ C.D0 l:=fun l h=>(hC l).1 h rfl
 simp only[startFr,Tryz.ntmps20,List.length_cons,List.length_nil,Nat.reduceAdd,Nat.reduceSub,List.replicate_succ,List.replicate_zero,List.cons_append,List.nil_append]
 repeat' (first|((first|apply Ba|(apply Bb;(· rfl);(· rfl))|(apply Bc;(· exact nxE))|(apply Bd;(· rfl);(· rfl);(· exact nxE)));(· first|exact Ok.lenD rfl rfl FL_len|exact Ok.pe))|((first|apply Ca|(apply Cb;(· exact nxE)));(· first|exact Ok.e0))|refine Sx ?_|(refine Sy (fun h=>?_) (fun h=>?_)<;>try (exfalso;omega;done))|refine Sz (fun h=>?_) (fun h=>?_))
 refine AW.loop (X:={k:Nat // k≤fs.length}) (fun k=>⟨[Oo,I e,Oo,Oo,Oo,Oo,.own 1 ⟨0,[]⟩ 0 (tms (fs.take (k.1:Nat)) e).length,Oo,Oo,Oo,Oo,Oo,FL fs,I fs.length,I (k.1:Nat),Oo,Oo,Oo,Oo,Oo,Oo,Oo,Oo,Oo,Oo,Oo,Oo,Oo,Oo],heapL [(⟨0,[]⟩,⟨0,[]⟩,IO (tms (fs.take k.1) e))],900⟩) (fun k=>fs.length - k.1) ⟨0,Nat.zero_le _⟩ ?_ (fun k=>?_)
 ·
  refine (Le.nil 6 1 rfl).trans ?_
  (apply Le.headZ [_] rfl)
  all_goals (try dsimp only[srcs])
  (case' hfr|hob=>(repeat' (first|refine La ?_ ?_|exact Lc|refine Lo ?_|refine ⟨⟨_,rfl,?_⟩,?_⟩|refine Lx ?_)))
  all_goals (first|(rfl)|exact Ld)
 obtain ⟨k,hk⟩:=k
 simp only
 by_cases hlt:k<fs.length
 ·obtain ⟨f,hf⟩:∃ f,fs[k]? = some f:=⟨fs[k],List.getElem?_eq_getElem hlt⟩
  have hrow:(fs.map Fi.row)[((k:Nat):Int).toNat]? = some [DI f.e,DI f.n,DI f.t]:=row_get hf
  have hst:tms (fs.take (k+1)) e=tms (fs.take k) e++if f.e=e then [f.t] else []:=by rw[List.take_add_one,hf];exact tms_snoc
  have hol:(IR (tms (fs.take k) e)).length=(tms (fs.take k) e).length:=by rw[IR_len]
  have hb:(tms (fs.take k) e).length≤500:=by rw[tms_len];have:=cnt_le (fs.take k) e;rw[List.length_take] at this;omega
  obtain ⟨fe,fn,ft⟩:=f
  simp only at hrow hst
  by_cases hfe:fe=e
  ·rw[if_pos hfe] at hst
   subst hfe
   repeat' (first|((first|apply Ba|(apply Bb;(· rfl);(· rfl))|(apply Bc;(· exact nxE))|(apply Bd;(· rfl);(· rfl);(· exact nxE)));(· first|exact Ok.lenD rfl rfl FL_len|exact Ok.append1 (row:=[DI ft]) rfl rfl (by decide) rfl rfl hol rfl rfl rfl (by rfl) (by omega) (by omega)|exact Ok.pe))|((first|apply Ca|(apply Cb;(· exact nxE)));(· first|exact Ok.append1 (row:=[DI ft]) rfl rfl (by decide) rfl rfl hol rfl rfl rfl (by rfl) (by omega) (by omega)|exact Ok.e0))|refine Sx ?_|(refine Sy (fun h=>?_) (fun h=>?_)<;>try (exfalso;omega;done))|refine Sz (fun h=>?_) (fun h=>?_))
   refine ⟨⟨k+1,by omega⟩,?_,by simp only;omega⟩
   (apply Le.headZ [_] rfl)
   all_goals (try dsimp only[srcs])
   (case' hfr|hob=>(repeat' (first|refine La ?_ ?_|exact Lc|refine Lo ?_|refine ⟨⟨_,rfl,?_⟩,?_⟩|refine Lx ?_)))
   all_goals (first|((first|(rw[hst,List.length_append];rfl)|(rw[hst,IR_app];done)|(rw[hst];simp;done)))|exact Ld)
  ·rw[if_neg hfe,List.append_nil] at hst
   repeat' (first|((first|apply Ba|(apply Bb;(· rfl);(· rfl))|(apply Bc;(· exact nxE))|(apply Bd;(· rfl);(· rfl);(· exact nxE)));(· first|exact Ok.lenD rfl rfl FL_len|exact Ok.pe))|((first|apply Ca|(apply Cb;(· exact nxE)));(· first|exact Ok.e0))|refine Sx ?_|(refine Sy (fun h=>?_) (fun h=>?_)<;>try (exfalso;omega;done))|refine Sz (fun h=>?_) (fun h=>?_))
   refine ⟨⟨k+1,by omega⟩,?_,by simp only;omega⟩
   (apply Le.headZ [_] rfl)
   all_goals (try dsimp only[srcs])
   (case' hfr|hob=>(repeat' (first|refine La ?_ ?_|exact Lc|refine Lo ?_|refine ⟨⟨_,rfl,?_⟩,?_⟩|refine Lx ?_)))
   all_goals (first|((rw[hst];done))|exact Ld)
 ·obtain rfl:k=fs.length:=by omega
  rw[List.take_length]
  repeat' (first|((first|apply Ba|(apply Bb;(· rfl);(· rfl))|(apply Bc;(· exact nxE))|(apply Bd;(· rfl);(· rfl);(· exact nxE)));(· first|exact Ok.lenD rfl rfl FL_len|exact Ok.pe))|((first|apply Ca|(apply Cb;(· exact nxE)));(· first|exact Ok.e0))|refine Sx ?_|(refine Sy (fun h=>?_) (fun h=>?_)<;>try (exfalso;omega;done))|refine Sz (fun h=>?_) (fun h=>?_))
  refine Yb ?_
  (apply Le.head [(⟨0,[]⟩,_,_)])
  (case' hfr|hob=>(repeat' (first|refine La ?_ ?_|exact Lc|refine Lo ?_|refine ⟨⟨_,rfl,?_⟩,?_⟩|refine Lx ?_)))
  all_goals (first|exact Ld|(rfl))
end
section
open Go Go.RowKit
attribute [local irreducible] AL AD AW OpOk Le AC thenQ blockQ EndQ
theorem drawCertifyTime_ex [Mode] (code:List Int) (hc:CodeOk code):∃ (ev:Int) (xs:List Pl),(0≤ev∧ev≤11)∧xs.length≤40∧AC Tryz.prog 6 [.d (BD code)] H0 (grD ev xs) H0:=by
 have hF:=l01From_ac code hc
 have hG:=l15DrawZ_ac code hc _ (src0_ok hc)
 have hok:=dr15_ok hc (src0_ok hc)
 generalize dr15 code (src0 code)=g at *
 obtain ⟨ev,xs,s1⟩:=g
 obtain ⟨hev,_,hl,_⟩:=hok
 simp only at hev hl hG
 refine ⟨ev,xs,hev,hl,?_⟩
 refine AC.of_body 0 Tryz.func6 rfl (fun l h=>absurd rfl h) (fun C hC=>?_)
 have hD:∀ l,¬ C.D0 l:=fun l h=>(hC l).1 h rfl
 simp only[startFr,Tryz.ntmps6,List.length_cons,List.length_nil,Nat.reduceAdd,Nat.reduceSub,List.replicate_succ,List.replicate_zero,List.cons_append,List.nil_append]
 repeat' (first|((first|apply Ba|(apply Bb;(· rfl);(· rfl))|(apply Bc;(· exact nxE))|(apply Bd;(· rfl);(· rfl);(· exact nxE)));(· first|exact Fx hF rfl rfl rfl|exact Zl (args:=[]) hG rfl rfl rfl rfl .nil (fun _=>by simp[rn])|exact Ok.pe))|((first|apply Ca|(apply Cb;(· exact nxE)));(· first|exact Fx hF rfl rfl rfl|exact Zl (args:=[]) hG rfl rfl rfl rfl .nil (fun _=>by simp[rn])|exact Ok.e0))|refine Sx ?_|(refine Sy (fun h=>?_) (fun h=>?_)<;>try (exfalso;omega;done))|refine Sz (fun h=>?_) (fun h=>?_))
 refine Ya ?_
 (apply Le.headZ (hs:=[]) [] rfl)
 all_goals (try dsimp only[srcs])
 (case' hfr=>(repeat' (first|refine La ?_ ?_|exact Lc|refine Lo ?_|refine ⟨⟨_,rfl,?_⟩,?_⟩|refine Lx ?_)))
 all_goals (first|exact Ld|exact trivial|(rfl))
theorem iCertifyTimeZ_ac [Mode] (ev:Int) (xs:List Pl) (hx:xs.length≤100000000):AC Tryz.prog 7 [grD ev xs] H0 (.tup [.agg [I (ceR ev xs).1,I (ceR ev xs).2],IL (ceL ev xs),IL (ceX ev xs),I (ceC ev xs)]) H0:=
 (iCertifyTime_ac ev xs hx).frz (ARs.tup (.cons (ARs.agg (.cons (.dd _) (.cons (.dd _) .nil))) (.cons (AR.whole rfl trivial IR_len) (.cons (AR.whole rfl trivial IR_len) (.cons (.dd _) .nil)))))
theorem top_two [Mode] (ev:Int) (xs:List Pl) (P:Int):((etC ev xs P=1∨etC ev xs P=2)∧ccC ev xs P=etC ev xs P)∨(etC ev xs P=0∧ccC ev xs P=4)∨(etC ev xs P=5∧ccC ev xs P=0):=by
 by_cases h0:prC ev xs P=0
 case neg=>
  left
  rw[(et_no h0).1,(cc_no h0).1]
  refine ⟨?_,rfl⟩
  unfold prC at h0 ⊢
  (repeat' split)<;>simp_all
 right
 obtain ⟨n,rfl,g1,g2,g3,hv,hg,hp⟩:=pr_ok h0
 have hW:=wm_okG (r:=(P,1)) hv (by simp only;omega) (by simp only;omega)
 have hiff:npB n xs (P,1)=true↔overC xs P 1 0 n=[]:=by
  rw[npB_iff,wm_pos_iff hW hv,lpOk_over hv,lpOk_wgt]
 rw[(cc_yes h0).1]
 cases hb:npB n xs (P,1)
 ·right
  rw[hb] at hiff
  exact ⟨(et_pos h0 hb).1,if_neg fun h=>by have:=hiff.2 h;cases this⟩
 ·left
  exact ⟨(et_yes h0 hb).1,if_pos (hiff.1 hb)⟩
theorem top_ce [Mode] {ev:Int}{xs:List Pl} (h:ceC ev xs=0):∃ (n:Nat) (ord:List Nat),ev=n∧(1≤n∧n≤10)∧xs.length≤30∧liveI n xs=0∧ordR n xs=some ord∧(∀ p∈xs,okPl n p)∧bcC n xs=0∧ctR n xs=maxR xs∧RatOk (maxR xs)∧((maxR xs).1≤100000∧(maxR xs).2≤50)∧ceR n xs=maxR xs∧ceL n xs=cN (bcL n xs)∧ceX n xs=tpX n xs (maxR xs)∧tpC n xs (maxR xs)=0∧(ceX n xs).length=n∧(∀ e,e<n→0≤(ceX n xs).getD e 0∧(ceX n xs).getD e 0≤1000000)∧∀ p∈xs,(ceX n xs).getD p.f.toNat 0+(maxR xs).2*p.d - (maxR xs).1*p.k≤(ceX n xs).getD p.t.toNat 0:=by
 have hbc:bcC ev xs=0:=by
  unfold ceC at h
  by_cases h0:bcC ev xs=0
  ·exact h0
  ·rw[if_neg h0] at h;exact h
 have hcb:ceB ev xs=true:=by
  unfold ceC at h
  rw[if_pos hbc] at h
  cases hb:ceB ev xs
  ·rw[hb] at h;simp at h
  ·rfl
 have e1:ceR ev xs=maxR xs:=if_pos h
 have e2:ceL ev xs=cN (bcL ev xs):=if_pos h
 have e3:ceX ev xs=ptL ev.toNat xs (maxR xs):=if_pos h
 have hrt:=ctR_rat hbc
 obtain ⟨n,rfl,h1,h2,h3,h4,h5,h6,h8,h9,h10,h11⟩:=bc_star hbc
 rw[Int.toNat_natCast] at e3
 unfold ceB at hcb
 rw[Int.toNat_natCast] at hcb
 rw[h8] at hrt
 have hl0:liveI n xs=0:=by
  unfold bcC at hbc
  by_cases h:liveI n xs=0
  ·exact h
  ·rw[if_neg h] at hbc;exact hbc
 obtain ⟨v,hv0,_,_,_,_,ord,hord⟩:=liveI_ok hl0
 obtain rfl:v=n:=by omega
 have hg:isEG v xs=true:=by
  unfold liveI at hl0
  split at hl0
  ·assumption
  ·simp at hl0
 have htp:=tp_yes (r:=maxR xs) hg (isRtG_rat hrt) h11.np hcb
 have hpl:(ptL v xs (maxR xs)).length=v:=rowF_len
 have hfin:=isVal_fin (ptL_ne h11) hcb
 have hW:=wm_okG (r:=maxR xs) h4 (by omega) (by omega)
 refine ⟨v,ord,rfl,⟨h1,h2⟩,h3,hl0,hord,h4,hbc,h8,hrt,⟨h9.2,h10.2⟩,e1,e2,by rw[e3,htp.2],htp.1,by rw[e3];exact hpl,fun e he=>?_,fun p hp=>?_⟩
 ·rw[e3]
  have hge:0≤(ptL v xs (maxR xs)).getD e 0:=by
   have e4:(ptL v xs (maxR xs)).getD e 0=apA (entN (tabF v v (starF (entN (wmT v xs (maxR xs))) v))) (fun _=>0) e v:=by
    unfold ptL
    rw[List.getD_eq_getElem?_getD,rowF_get he];rfl
   have:=apA_ge (f:=entN (tabF v v (starF (entN (wmT v xs (maxR xs))) v))) (v:=fun _=>0) (i:=e) (j:=e) (k:=v) he
   rw[tabF_ent he he,timesB_0,star_dia0 h11.np h11.ok.some h11.ok.dia he] at this
   rw[e4];exact this
  refine ⟨hge,(hfin _ ?_).2⟩
  rw[List.getD_eq_getElem?_getD,List.getElem?_eq_getElem (by omega)]
  exact List.getElem_mem _
 ·rw[e3]
  obtain ⟨⟨f1,f2⟩,⟨t1,t2⟩,_⟩:=h4 p hp
  obtain ⟨a1,a2⟩:=hW.all p hp
  have:=ptL_pot h11 p.t.toNat p.f.toNat (by omega) (by omega) a1
  unfold pw at a2
  omega
theorem top_bd [Mode] {n:Nat}{xs:List Pl}{ord:List Nat}{X:Nat→Nat→Int} (h:RecX n 6 xs ord X) (hn:n≤10) {k e:Nat} (hk:k<6) (he:e<n):X k e≤1000000:=by
 have h1:=h.bd k e hk he
 have h2:=(ord_idx h.ord).2.2 e he
 have h3:(k+1)*n≤6*n:=Nat.mul_le_mul_right n hk
 rw[Nat.add_mul,Nat.one_mul] at h3
 omega
theorem top_run [Mode] {n:Nat}{xs:List Pl}{ord:List Nat} (hv:∀ p∈xs,okPl n p) (h:ordR n xs=some ord):RecX n 6 xs ord (stT xs ord (fun _=>0) 6):=⟨h,hv,fun k e hk he=>stT_rec hv h 6 k e hk he⟩
end
section
open Go Go.RowKit
attribute [local irreducible] AL AD AW OpOk Le AC thenQ blockQ EndQ
set_option maxRecDepth 100000 in
set_option maxHeartbeats 16000000 in
theorem topWalkA [Mode] (code:List Int) (hbig:¬ 4096<(code.length:Int)) (ev:Int) (xs:List Pl) (r1 r2:Int) (cl x:List Int) (bad:Int) (ew:Int) (ys:List Pl) (P P1:Int) (s1:List Int) (one:Int) (l:List Nat) (two:Int) (hone:one=1∨one=2) (htwo:two=one)
  (hBig:AC Tryz.prog 5 [.d (BD code)] H0 (Bo (decide (4096<(code.length:Int)))) H0)
  (hG:AC Tryz.prog 6 [.d (BD code)] H0 (grD ev xs) H0)
  (hG2:AC Tryz.prog 10 [.d (BD code)] H0 (.tup [grD ew ys,I P]) H0)
  (hI:AC Tryz.prog 7 [grD ev xs] H0 (.tup [.agg [I r1,I r2],IL cl,IL x,I bad]) H0)
  (hS:AC Tryz.prog 8 [grD ev xs] H0 (.tup [.agg [I r1,I r2],IL cl,IL x,I bad]) H0)
  (hE:AC Tryz.prog 11 [grD ew ys,I P] H0 (.tup [ttA P1 s1,I one]) H0)
  (hB:AC Tryz.prog 12 [grD ew ys,I P] H0 (.tup [IL (cN l),I two]) H0)
  (hL1:AC Tryz.prog 9 [IL cl,IL cl] H0 (Bo true) H0)
  (hL2:AC Tryz.prog 9 [IL x,IL x] H0 (Bo true) H0):AC Tryz.prog 3 [.d (BD code)] H0 (Bo true) H0:=by
 subst htwo
 refine AC.of_body 0 Tryz.func3 rfl (fun l h=>absurd rfl h) (fun C hC=>?_)
 have hD:∀ l,¬ C.D0 l:=fun l h=>(hC l).1 h rfl
 simp only[startFr,Tryz.ntmps3,List.length_cons,List.length_nil,Nat.reduceAdd,Nat.reduceSub,List.replicate_succ,List.replicate_zero,List.cons_append,List.nil_append]
 repeat' (first|((first|apply Ba|(apply Bb;(· rfl);(· rfl))|(apply Bc;(· exact nxE))|(apply Bd;(· rfl);(· rfl);(· exact nxE)));(· first|exact Kz rfl rfl (hBig) (Ad An)|exact Kz rfl rfl (hG) (Ad An)|exact Kz rfl rfl (hG2) (Ad An)|exact Kz rfl rfl (hI) (Aa (Ad (Ad An)) An)|exact Kz rfl rfl (hS) (Aa (Ad (Ad An)) An)|exact Kz rfl rfl (hE) (Aa (Ad (Ad An)) (Ad An))|exact Kz rfl rfl (hB) (Aa (Ad (Ad An)) (Ad An))|exact Kz rfl rfl (hL1) (Ad (Ad An))|exact Kz rfl rfl (hL2) (Ad (Ad An))|exact Ok.neqRtS rfl rfl rfl|exact Ok.beq rfl rfl rfl (by kernel_rfl)|exact Ok.pe))|((first|apply Ca|(apply Cb;(· exact nxE)));(· first|exact Ok.e0))|refine Sx ?_|(refine Sy (fun h=>?_) (fun h=>?_)<;>try (exfalso;omega;done))|refine Sz (fun h=>?_) (fun h=>?_))
 all_goals
  refine Ya ?_
  (apply Le.headZ (hs:=[]) [] rfl)
  all_goals (try dsimp only[srcs])
  (case' hfr=>(repeat' (first|refine La ?_ ?_|exact Lc|refine Lo ?_|refine ⟨⟨_,rfl,?_⟩,?_⟩|refine Lx ?_)))
  all_goals (first|exact Ld|exact trivial|(first|rfl|exact (decide_eq_true (by omega)).symm))
set_option maxRecDepth 100000 in
set_option maxHeartbeats 16000000 in
theorem topWalkB [Mode] (code:List Int) (hbig:¬ 4096<(code.length:Int)) (ev:Int) (xs:List Pl) (r1 r2:Int) (cl x:List Int) (bad:Int) (ew:Int) (ys:List Pl) (P P1:Int) (s1:List Int) (one:Int) (l:List Nat) (two:Int) (hbad:bad≠0) (hone:one=0) (htwo:two=4)
  (hBig:AC Tryz.prog 5 [.d (BD code)] H0 (Bo (decide (4096<(code.length:Int)))) H0)
  (hG:AC Tryz.prog 6 [.d (BD code)] H0 (grD ev xs) H0)
  (hG2:AC Tryz.prog 10 [.d (BD code)] H0 (.tup [grD ew ys,I P]) H0)
  (hI:AC Tryz.prog 7 [grD ev xs] H0 (.tup [.agg [I r1,I r2],IL cl,IL x,I bad]) H0)
  (hS:AC Tryz.prog 8 [grD ev xs] H0 (.tup [.agg [I r1,I r2],IL cl,IL x,I bad]) H0)
  (hE:AC Tryz.prog 11 [grD ew ys,I P] H0 (.tup [ttA P1 s1,I one]) H0)
  (hB:AC Tryz.prog 12 [grD ew ys,I P] H0 (.tup [IL (cN l),I two]) H0)
  (hL1:AC Tryz.prog 9 [IL cl,IL cl] H0 (Bo true) H0)
  (hL2:AC Tryz.prog 9 [IL x,IL x] H0 (Bo true) H0)
  (hK:AC Tryz.prog 13 [grD ew ys,ttA P1 s1] H0 (.tup [Bo true,I 0]) H0):AC Tryz.prog 3 [.d (BD code)] H0 (Bo true) H0:=by
 subst hone htwo
 refine AC.of_body 0 Tryz.func3 rfl (fun l h=>absurd rfl h) (fun C hC=>?_)
 have hD:∀ l,¬ C.D0 l:=fun l h=>(hC l).1 h rfl
 simp only[startFr,Tryz.ntmps3,List.length_cons,List.length_nil,Nat.reduceAdd,Nat.reduceSub,List.replicate_succ,List.replicate_zero,List.cons_append,List.nil_append]
 repeat' (first|((first|apply Ba|(apply Bb;(· rfl);(· rfl))|(apply Bc;(· exact nxE))|(apply Bd;(· rfl);(· rfl);(· exact nxE)));(· first|exact Kz rfl rfl (hBig) (Ad An)|exact Kz rfl rfl (hG) (Ad An)|exact Kz rfl rfl (hG2) (Ad An)|exact Kz rfl rfl (hI) (Aa (Ad (Ad An)) An)|exact Kz rfl rfl (hS) (Aa (Ad (Ad An)) An)|exact Kz rfl rfl (hE) (Aa (Ad (Ad An)) (Ad An))|exact Kz rfl rfl (hB) (Aa (Ad (Ad An)) (Ad An))|exact Kz rfl rfl (hL1) (Ad (Ad An))|exact Kz rfl rfl (hL2) (Ad (Ad An))|exact Ok.neqRtS rfl rfl rfl|exact Ok.beq rfl rfl rfl (by kernel_rfl)|exact Kz rfl rfl (hK) (Aa (Ad (Ad An)) (Aa (Ad (Ad An)) An))|exact Ok.pe))|((first|apply Ca|(apply Cb;(· exact nxE)));(· first|exact Ok.e0))|refine Sx ?_|(refine Sy (fun h=>?_) (fun h=>?_)<;>try (exfalso;omega;done))|refine Sz (fun h=>?_) (fun h=>?_))
 all_goals
  refine Ya ?_
  (apply Le.headZ (hs:=[]) [] rfl)
  all_goals (try dsimp only[srcs])
  (case' hfr=>(repeat' (first|refine La ?_ ?_|exact Lc|refine Lo ?_|refine ⟨⟨_,rfl,?_⟩,?_⟩|refine Lx ?_)))
  all_goals (first|exact Ld|exact trivial|(rfl))
set_option maxRecDepth 100000 in
set_option maxHeartbeats 16000000 in
theorem topWalkC [Mode] (code:List Int) (hbig:¬ 4096<(code.length:Int)) (ev:Int) (xs:List Pl) (r1 r2:Int) (cl x:List Int) (bad:Int) (ew:Int) (ys:List Pl) (P P1:Int) (s1:List Int) (one:Int) (l:List Nat) (two:Int) (hbad:bad≠0) (hone:one=5) (htwo:two=0)
  (hBig:AC Tryz.prog 5 [.d (BD code)] H0 (Bo (decide (4096<(code.length:Int)))) H0)
  (hG:AC Tryz.prog 6 [.d (BD code)] H0 (grD ev xs) H0)
  (hG2:AC Tryz.prog 10 [.d (BD code)] H0 (.tup [grD ew ys,I P]) H0)
  (hI:AC Tryz.prog 7 [grD ev xs] H0 (.tup [.agg [I r1,I r2],IL cl,IL x,I bad]) H0)
  (hS:AC Tryz.prog 8 [grD ev xs] H0 (.tup [.agg [I r1,I r2],IL cl,IL x,I bad]) H0)
  (hE:AC Tryz.prog 11 [grD ew ys,I P] H0 (.tup [ttA P1 s1,I one]) H0)
  (hB:AC Tryz.prog 12 [grD ew ys,I P] H0 (.tup [IL (cN l),I two]) H0)
  (hL1:AC Tryz.prog 9 [IL cl,IL cl] H0 (Bo true) H0)
  (hL2:AC Tryz.prog 9 [IL x,IL x] H0 (Bo true) H0)
  (hCi:AC Tryz.prog 14 [grD ew ys,IL (cN l)] H0 (Bo true) H0):AC Tryz.prog 3 [.d (BD code)] H0 (Bo true) H0:=by
 subst hone htwo
 refine AC.of_body 0 Tryz.func3 rfl (fun l h=>absurd rfl h) (fun C hC=>?_)
 have hD:∀ l,¬ C.D0 l:=fun l h=>(hC l).1 h rfl
 simp only[startFr,Tryz.ntmps3,List.length_cons,List.length_nil,Nat.reduceAdd,Nat.reduceSub,List.replicate_succ,List.replicate_zero,List.cons_append,List.nil_append]
 repeat' (first|((first|apply Ba|(apply Bb;(· rfl);(· rfl))|(apply Bc;(· exact nxE))|(apply Bd;(· rfl);(· rfl);(· exact nxE)));(· first|exact Kz rfl rfl (hBig) (Ad An)|exact Kz rfl rfl (hG) (Ad An)|exact Kz rfl rfl (hG2) (Ad An)|exact Kz rfl rfl (hI) (Aa (Ad (Ad An)) An)|exact Kz rfl rfl (hS) (Aa (Ad (Ad An)) An)|exact Kz rfl rfl (hE) (Aa (Ad (Ad An)) (Ad An))|exact Kz rfl rfl (hB) (Aa (Ad (Ad An)) (Ad An))|exact Kz rfl rfl (hL1) (Ad (Ad An))|exact Kz rfl rfl (hL2) (Ad (Ad An))|exact Ok.neqRtS rfl rfl rfl|exact Ok.beq rfl rfl rfl (by kernel_rfl)|exact Kz rfl rfl (hCi) (Aa (Ad (Ad An)) (Ad An))|exact Ok.pe))|((first|apply Ca|(apply Cb;(· exact nxE)));(· first|exact Ok.e0))|refine Sx ?_|(refine Sy (fun h=>?_) (fun h=>?_)<;>try (exfalso;omega;done))|refine Sz (fun h=>?_) (fun h=>?_))
 all_goals
  refine Ya ?_
  (apply Le.headZ (hs:=[]) [] rfl)
  all_goals (try dsimp only[srcs])
  (case' hfr=>(repeat' (first|refine La ?_ ?_|exact Lc|refine Lo ?_|refine ⟨⟨_,rfl,?_⟩,?_⟩|refine Lx ?_)))
  all_goals (first|exact Ld|exact trivial|(rfl))
end
end Go.Proofs.YtkpoclbnnpglfaaGreat
