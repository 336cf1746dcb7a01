/-
  Walks in the abstract reading: critical arcs, nodes and components, by the reference.
-/
import Derived.Test.YtkpoclbnnpglfaaGreatKqE103
import Derived.Test.YtkpoclbnnpglfaaGreatKqU10
set_option linter.unusedSimpArgs false
set_option linter.unusedVariables false
namespace Go.Proofs.YtkpoclbnnpglfaaGreat
open Go Go.RowKit
def arR (W:Nat→Nat→Int) (j k:Nat):List Nat:=(List.range k).filter fun i=>!decide (W i j=BOT)
def arT (W:Nat→Nat→Int) (n j k:Nat):List (List Int):=((List.range j).flatMap fun u=>(arR W u n).map fun v:Nat=>[(u:Int),(v:Int)])++(arR W j k).map fun v:Nat=>[(j:Int),(v:Int)]
theorem arR_s [Mode] {W:Nat→Nat→Int}{j k:Nat}:arR W j (k+1)=if W k j=BOT then arR W j k else arR W j k++[k]:=by
 unfold arR
 rw[List.range_succ,List.filter_append]
 by_cases h:W k j=BOT
 ·rw[if_pos h];simp[h]
 ·rw[if_neg h];simp[h]
theorem arT_s [Mode] {W:Nat→Nat→Int}{n j k:Nat}:arT W n j (k+1)=if W k j=BOT then arT W n j k else arT W n j k++[[(j:Int),(k:Int)]]:=by
 unfold arT
 rw[arR_s]
 split<;>simp
theorem arT_n [Mode] {W:Nat→Nat→Int}{n j:Nat}:arT W n j n=arT W n (j+1) 0:=by
 unfold arT
 rw[List.range_succ,List.flatMap_append]
 simp[arR]
theorem arT_0 [Mode] {W:Nat→Nat→Int}{n:Nat}:arT W n 0 0=[]:=by simp[arT,arR]
abbrev arL (W:Nat→Nat→Int) (n:Nat):List (List Int):=arT W n n 0
theorem arL_mem [Mode] {W:Nat→Nat→Int}{n:Nat}{r:List Int}:r∈arL W n↔∃ u v:Nat,u<n∧v<n∧W v u≠BOT∧r=[(u:Int),(v:Int)]:=by
 unfold arL arT
 simp only[arR,List.range_zero,List.filter_nil,List.map_nil,List.append_nil,List.mem_flatMap,List.mem_range,List.mem_map,List.mem_filter,Bool.not_eq_true',decide_eq_false_iff_not]
 constructor
 ·rintro ⟨u,hu,v,⟨hv,hW⟩,rfl⟩;exact ⟨u,v,hu,hv,hW,rfl⟩
 ·rintro ⟨u,v,hu,hv,hW,rfl⟩;exact ⟨u,hu,v,⟨hv,hW⟩,rfl⟩
theorem arR_le [Mode] {W:Nat→Nat→Int}{j k:Nat}:(arR W j k).length≤k:=by
 unfold arR
 exact Nat.le_trans (List.length_filter_le _ _) (by simp)
theorem arT_le [Mode] {W:Nat→Nat→Int}{n:Nat}:∀ (j k:Nat),(arT W n j k).length≤j*n+k
 | 0,k=>by
  unfold arT
  have:=arR_le (W:=W) (j:=0) (k:=k)
  simp;omega
 | j+1,k=>by
  have h1:=arT_le (W:=W) (n:=n) j n
  have h2:=arR_le (W:=W) (j:=j+1) (k:=k)
  have e:arT W n (j+1) k=arT W n j n++(arR W (j+1) k).map fun v:Nat=>[((j+1:Nat):Int),(v:Int)]:=by
   unfold arT
   rw[List.range_succ,List.flatMap_append]
   simp
  rw[e,List.length_append,List.length_map,Nat.add_mul,Nat.one_mul]
  omega
attribute [local irreducible] AL AD AW OpOk Le AC thenQ blockQ EndQ
theorem times_crit [Mode] {b s:Nat→Nat→Int}{i j:Nat}:timesB (b i j) (s j i)=0↔crit b s i j:=by
 unfold timesB crit
 by_cases h1:b i j=BOT
 ·simp[h1,BOT]
 ·by_cases h2:s j i=BOT
  ·simp[h1,h2,BOT]
  ·simp[h1,h2]
set_option maxHeartbeats 4000000 in
theorem l06Arcs_ac [Mode] (t:List (List Int)) (n:Nat) (hM:MatOk t n) (hc:hasK (entN t) n):AC Tryz.prog 161 [TL t] H0 (TL (arL (entN (ccT t n)) n)) H0:=by
 have hn:=hM.le
 obtain ⟨h1,h2,h3,h4⟩:=kmR_ok hM.b hM.le hc
 have hB:=l04Best_yes t n hM hc
 obtain ⟨f,r,e,hcy,hm⟩:=best_ne hM.b hM.le hc
 have hMn:=l04Mean_ac t n hM f r hcy
 rw[hm] at hMn
 rw[← e] at hMn
 rw[show overF (shF (entN t) (kmR (entN t) n).1 (kmR (entN t) n).2) n (-1)=bkF t n (kmR (entN t) n) (-1) from rfl] at hMn
 have hSh:=(l04Shift_ac t n hM (kmR (entN t) n).1 (kmR (entN t) n).2 h3 h4).frzT (by rw[TR_len];exact shT_sq.l)
 rw[show shT t n (kmR (entN t) n).1 (kmR (entN t) n).2=kmT t n from rfl] at hSh
 have hst:=starM_k hM hc
 have hSt:=(l03Star_ac (kmT t n) n hst).frzT2 (by rw[TR_len,tabF_len])
 have hiff:=(cm_star hM hc).2
 have hbig:∀ i j,i<n→j<n→entN (kmT t n) i j=BOT∨(-1000000000000000<entN (kmT t n) i j∧entN (kmT t n) i j≤1000000000000000):=fun i j hi hj=>by
  rcases shT_big hM h3 h4 i j with e|e
  ·exact .inl e
  ·exact .inr ⟨Int.lt_of_lt_of_le (by decide) e.1,Int.le_trans e.2 (by decide)⟩
 have hsbg:∀ i j,i<n→j<n→starF (entN (kmT t n)) n i j=BOT∨(-1000000000000000<starF (entN (kmT t n)) n i j∧starF (entN (kmT t n)) n i j≤1000000000000000):=fun i j hi hj=>by
  rw[hst.star hi hj]
  rcases hst.cells (Nat.le_refl n) hi hj with e|e
  ·exact .inl e
  ·right;omega
 have hg1:∀ i j,i<n→j<n→∃ r,(mRows 1 (TR (kmT t n)))[((i:Nat):Int).toNat]? = some [.sl 1 (IR r)]∧(IR r)[((j:Nat):Int).toNat]? = some [DI (entN (kmT t n) i j)]∧(IR r).length=n:=fun i j hi hj=>by
  obtain ⟨r,h1,h2,h3⟩:=shT_sq (t:=t) (n:=n) (p:=(kmR (entN t) n).1) (q:=(kmR (entN t) n).2) |>.get hi hj
  exact ⟨r,TR_get h1,IR_get h2,by rw[IR_len,h3]⟩
 have hg2:∀ i j,i<n→j<n→(mRows 1 (TR (tabF n n (starF (entN (kmT t n)) n))))[((i:Nat):Int).toNat]? = some [.sl 1 (IR (rowF n (starF (entN (kmT t n)) n i)))]∧(IR (rowF n (starF (entN (kmT t n)) n i)))[((j:Nat):Int).toNat]? = some [DI (starF (entN (kmT t n)) n i j)]:=fun i j hi hj=>⟨by rw[Int.toNat_natCast];exact TR_get (tabF_get hi),by rw[Int.toNat_natCast];exact IRF_get hj⟩
 have hl1:(mRows 1 (TR (kmT t n))).length=n:=by rw[mTR_len];exact shT_sq.l
 have hl2:(mRows 1 (TR (tabF n n (starF (entN (kmT t n)) n)))).length=n:=by rw[mTR_len,tabF_len]
 have htl:(mRows 1 (TR t)).length=n:=by rw[mTR_len,hM.sq.l]
 generalize tabF n n (starF (entN (kmT t n)) n)=st at *
 generalize starF (entN (kmT t n)) n=sF at *
 generalize entN (kmT t n)=bF at *
 generalize kmT t n=bT at *
 generalize entN (ccT t n)=W at *
 generalize bkF t n (kmR (entN t) n) (-1)=bk at *
 generalize kmR (entN t) n=rr at *
 clear hst hm hcy e
 obtain ⟨p,q⟩:=rr
 simp only at *
 refine AC.frzT (n:=(arL W n).length) (R:=TR (arL W n)) ?_ (by rw[TR_len])
 refine AC.of_body 0 Tryz.func161 rfl (fun l h=>absurd rfl h) (fun C hC=>?_)
 have hD:∀ l,¬ C.D0 l:=fun l h=>(hC l).1 h rfl
 simp only[startFr,Tryz.ntmps161,List.length_cons,List.length_nil,Nat.reduceAdd,Nat.reduceSub,List.replicate_succ,List.replicate_zero,List.cons_append,List.nil_append]
 repeat' (first|((first|apply Ba|(apply Bb;(· rfl);(· rfl))|(apply Bc;(· exact nxE))|(apply Bd;(· rfl);(· rfl);(· exact nxE)));(· first|exact Kz rfl rfl (hB) (Ad An)|exact Kz rfl rfl (hMn) (Ad (Ad An))|exact Kz rfl rfl (hSh) (Ad (Aa (Ad (Ad An)) An))|exact Kz rfl rfl (hSt) (Ad An)|exact Ok.pe))|((first|apply Ca|(apply Cb;(· exact nxE)));(· first|exact Ok.e0))|refine Sx ?_|(refine Sy (fun h=>?_) (fun h=>?_)<;>try (exfalso;omega;done))|refine Sz (fun h=>?_) (fun h=>?_))
 refine AW.loop (X:={k:Nat // k≤n}) (fun k=>⟨[TL t,Oo,Oo,Oo,Oo,Oo,Oo,TL bT,TL st,Oo,.own 1 ⟨1,[]⟩ 0 (arT W n (k.1:Nat) 0).length,I (k.1:Nat),Oo,Oo,Oo,Oo,Oo,Oo,Oo,Oo,Oo,Oo,Oo,Oo,Oo,Oo,Oo,Oo,Oo,Oo,Oo,Oo,Oo,Oo,Oo,Oo,Oo,Oo,Oo,Oo,Oo,Oo,Oo,Oo,Oo,Oo,Oo,Oo,Oo,Oo,Oo,Oo,Oo,Oo,Oo,Oo,Oo,Oo,Oo,Oo,Oo,Oo,Oo,Oo,Oo,Oo,Oo,Oo],heapX [] [mi1 ⟨1,[]⟩ (TR (arT W n k.1 0))],900⟩) (fun k=>n - k.1) ⟨0,Nat.zero_le _⟩ ?_ (fun k=>?_)
 ·
  (apply Le.headG [] [{ l:=⟨1,[]⟩,k:=1,R:=TR (arT W n 0 0),src:=⟨28,[]⟩,base:=⟨28,[]⟩ }] (fun _=>False))
  (case' hlen=>rfl)
  (case' hms=>rfl)
  all_goals (try dsimp only[srcs])
  (case' hfr|hob=>(repeat' (first|refine La ?_ ?_|exact Lc|refine Lo ?_|refine ⟨⟨_,rfl,?_⟩,?_⟩|refine Lx ?_)))
  (case' hok=>first|exact ⟨MI.ok_same rfl (fun i x hx=>by rw[arT_0] at hx;simp at hx),trivial⟩|exact trivial)
  (case' hN=>rfl)
  (case' hS=>rfl)
  all_goals (first|exact Ld|(rfl))
 obtain ⟨j,hj⟩:=k
 simp only
 by_cases hjl:j<n
 case neg=>
  obtain rfl:j=n:=by omega
  repeat' (first|((first|apply Ba|(apply Bb;(· rfl);(· rfl))|(apply Bc;(· exact nxE))|(apply Bd;(· rfl);(· rfl);(· exact nxE)));(· first|exact Ok.lenD rfl rfl htl|exact Ok.pe))|((first|apply Ca|(apply Cb;(· exact nxE)));(· first|exact Ok.e0))|refine Sx ?_|(refine Sy (fun h=>?_) (fun h=>?_)<;>try (exfalso;omega;done))|refine Sz (fun h=>?_) (fun h=>?_))
  refine Ya ?_
  (apply Le.headG [] [{ l:=⟨0,[]⟩,k:=1,R:=TR (arL W j),src:=⟨1,[]⟩,base:=⟨1,[]⟩ }] (fun _=>False))
  (case' hlen=>rfl)
  (case' hms=>rfl)
  all_goals (try dsimp only[srcs])
  (case' hfr|hob=>(repeat' (first|refine La ?_ ?_|exact Lc|refine Lo ?_|refine ⟨⟨_,rfl,?_⟩,?_⟩|refine Lx ?_)))
  (case' hok=>first|exact ⟨MI.ok_same rfl (Cg),trivial⟩|exact trivial)
  (case' hN=>rfl)
  (case' hS=>rfl)
  all_goals (first|exact Ld|(rfl))
 repeat' (first|((first|apply Ba|(apply Bb;(· rfl);(· rfl))|(apply Bc;(· exact nxE))|(apply Bd;(· rfl);(· rfl);(· exact nxE)));(· first|exact Ok.lenD rfl rfl htl|exact Ok.pe))|((first|apply Ca|(apply Cb;(· exact nxE)));(· first|exact Ok.e0))|refine Sx ?_|(refine Sy (fun h=>?_) (fun h=>?_)<;>try (exfalso;omega;done))|refine Sz (fun h=>?_) (fun h=>?_))
 refine AW.loop (X:={k:Nat // k≤n}) (fun k=>⟨[TL t,Oo,Oo,Oo,Oo,Oo,Oo,TL bT,TL st,Oo,.own 1 ⟨1,[]⟩ 0 (arT W n j (k.1:Nat)).length,I j,I (k.1:Nat),Oo,Oo,Oo,Oo,Oo,Oo,Oo,Oo,Oo,Oo,Oo,Oo,Oo,Oo,Oo,Oo,Oo,Oo,Oo,Oo,Oo,Oo,Oo,Oo,Oo,Oo,Oo,Oo,Oo,Oo,Oo,Oo,Oo,Oo,Oo,Oo,Oo,Oo,Oo,Oo,Oo,Oo,Oo,Oo,Oo,Oo,Oo,Oo,Oo,Oo,Oo,Oo,Oo,Oo,Oo],heapX [] [mi1 ⟨1,[]⟩ (TR (arT W n j k.1))],900⟩) (fun k=>n - k.1) ⟨0,Nat.zero_le _⟩ ?_ (fun k=>?_)
 ·
  (apply Le.headG [] [mi1 ⟨1,[]⟩ (TR (arT W n j 0))] (fun _=>False))
  (case' hlen=>rfl)
  (case' hms=>rfl)
  all_goals (try dsimp only[srcs])
  (case' hfr|hob=>(repeat' (first|refine La ?_ ?_|exact Lc|refine Lo ?_|refine ⟨⟨_,rfl,?_⟩,?_⟩|refine Lx ?_)))
  (case' hok=>first|exact ⟨MI.ok_same rfl (Cg),trivial⟩|exact trivial)
  (case' hN=>rfl)
  (case' hS=>rfl)
  all_goals (first|exact Ld|(rfl))
 obtain ⟨i,hi⟩:=k
 simp only
 by_cases hil:i<n
 case neg=>
  obtain rfl:i=n:=by omega
  rw[arT_n]
  repeat' (first|((first|apply Ba|(apply Bb;(· rfl);(· rfl))|(apply Bc;(· exact nxE))|(apply Bd;(· rfl);(· rfl);(· exact nxE)));(· first|exact Ok.lenD rfl rfl htl|exact Ok.pe))|((first|apply Ca|(apply Cb;(· exact nxE)));(· first|exact Ok.e0))|refine Sx ?_|(refine Sy (fun h=>?_) (fun h=>?_)<;>try (exfalso;omega;done))|refine Sz (fun h=>?_) (fun h=>?_))
  refine ⟨⟨j+1,by omega⟩,?_,by simp only;omega⟩
  (apply Le.headG [] [mi1 ⟨1,[]⟩ (TR (arT W i (j+1) 0))] (fun _=>False))
  (case' hlen=>rfl)
  (case' hms=>rfl)
  all_goals (try dsimp only[srcs])
  (case' hfr|hob=>(repeat' (first|refine La ?_ ?_|exact Lc|refine Lo ?_|refine ⟨⟨_,rfl,?_⟩,?_⟩|refine Lx ?_)))
  (case' hok=>first|exact ⟨MI.ok_same rfl (Cg),trivial⟩|exact trivial)
  (case' hN=>rfl)
  (case' hS=>rfl)
  all_goals (first|exact Ld|(rfl))
 obtain ⟨r1,k1,k2,k3⟩:=hg1 i j hil hjl
 obtain ⟨k4,k5⟩:=hg2 j i hjl hil
 have k6:(IR (rowF n (sF j))).length=n:=by rw[IR_len,rowF_len]
 have hT:=l01Times_ac (bF i j) (sF j i) (fun g1 g2=>by
  have:=(hbig i j hil hjl).resolve_left g1
  have:=(hsbg j i hjl hil).resolve_left g2
  omega)
 have hcr:=times_crit (b:=bF) (s:=sF) (i:=i) (j:=j)
 have hcw:=hiff j i hjl hil
 have hst:=arT_s (W:=W) (n:=n) (j:=j) (k:=i)
 have hle:=arT_le (W:=W) (n:=n) j i
 have hjn:j*n≤100:=Nat.mul_le_mul (show j≤10 by omega) hn
 generalize timesB (bF i j) (sF j i)=tv at *
 by_cases hz:tv=0
 ·have hne:¬ W i j=BOT:=hcw.2 (hcr.1 hz)
  rw[if_neg hne] at hst
  have hR2:TR (arT W n j (i+1))=TR (arT W n j i)++[IR [(j:Int),(i:Int)]]:=by rw[hst];simp
  have hol:(TR (arT W n j i)).length=(arT W n j i).length:=TR_len
  have hll:(arT W n j (i+1)).length=(arT W n j i).length+1:=by rw[hst];simp
  repeat' (first|((first|apply Ba|(apply Bb;(· rfl);(· rfl))|(apply Bc;(· exact nxE))|(apply Bd;(· rfl);(· rfl);(· exact nxE)));(· first|exact Ok.lenD rfl rfl htl|exact Ok.lenD rfl rfl hl1|exact Ok.lenD rfl rfl hl2|exact Kz rfl rfl (hT) (Ad (Ad An))|exact Ok.bs2 rfl (by conv=>lhs;whnf) (by conv=>lhs;whnf) (by rfl) (by rfl) (by rfl) (by rfl) (by rfl) (by rfl) (by decide)|exact Ok.appendT rfl rfl (by decide) rfl rfl rfl (by simp[outer_len];done) rfl rfl (by rfl) (by omega) (by omega) rfl|exact Ok.pe))|((first|apply Ca|(apply Cb;(· exact nxE)));(· first|exact Ok.bs2 rfl (by conv=>lhs;whnf) (by conv=>lhs;whnf) (by rfl) (by rfl) (by rfl) (by rfl) (by rfl) (by rfl) (by decide)|exact Ok.appendT rfl rfl (by decide) rfl rfl rfl (by simp[outer_len];done) rfl rfl (by rfl) (by omega) (by omega) rfl|exact Ok.e0))|refine Sx ?_|(refine Sy (fun h=>?_) (fun h=>?_)<;>try (exfalso;omega;done))|refine Sz (fun h=>?_) (fun h=>?_))
  refine ⟨⟨i+1,by omega⟩,?_,by simp only;omega⟩
  (apply Le.headG [] [{ l:=⟨1,[]⟩,k:=1,R:=TR (arT W n j (i+1)),src:=⟨925,[]⟩,base:=⟨1,[]⟩,cut:=(arT W n j i).length,ext:=some ⟨923,[]⟩ }] (fun _=>False))
  (case' hlen=>rfl)
  (case' hms=>rfl)
  all_goals (try dsimp only[srcs])
  (case' hfr|hob=>(repeat' (first|refine La ?_ ?_|exact Lc|refine Lo ?_|refine ⟨⟨_,rfl,?_⟩,?_⟩|refine Lx ?_)))
  (case' hok=>first|exact ⟨MI.ok_app hR2 TR_len rfl rfl (Cg) rfl,trivial⟩|exact trivial)
  (case' hN=>rfl)
  (case' hS=>rfl)
  all_goals (first|exact Ld|((first|(rw[hll];done)|(simp[AllP,hll];done))))
 ·have hwb:W i j=BOT:=Classical.byContradiction fun h=>hz (hcr.2 (hcw.1 h))
  rw[if_pos hwb] at hst
  repeat' (first|((first|apply Ba|(apply Bb;(· rfl);(· rfl))|(apply Bc;(· exact nxE))|(apply Bd;(· rfl);(· rfl);(· exact nxE)));(· first|exact Ok.lenD rfl rfl htl|exact Ok.lenD rfl rfl hl1|exact Ok.lenD rfl rfl hl2|exact Kz rfl rfl (hT) (Ad (Ad An))|exact Ok.pe))|((first|apply Ca|(apply Cb;(· exact nxE)));(· first|exact Ok.e0))|refine Sx ?_|(refine Sy (fun h=>?_) (fun h=>?_)<;>try (exfalso;omega;done))|refine Sz (fun h=>?_) (fun h=>?_))
  refine ⟨⟨i+1,by omega⟩,?_,by simp only;omega⟩
  rw[hst]
  (apply Le.headG [] [mi1 ⟨1,[]⟩ (TR (arT W n j i))] (fun _=>False))
  (case' hlen=>rfl)
  (case' hms=>rfl)
  all_goals (try dsimp only[srcs])
  (case' hfr|hob=>(repeat' (first|refine La ?_ ?_|exact Lc|refine Lo ?_|refine ⟨⟨_,rfl,?_⟩,?_⟩|refine Lx ?_)))
  (case' hok=>first|exact ⟨MI.ok_same rfl (Cg),trivial⟩|exact trivial)
  (case' hN=>rfl)
  (case' hS=>rfl)
  all_goals (first|exact Ld|(rfl))
theorem l06Code_ac [Mode] (t:List (List Int)) (ht:t.length≤100000000) (hr:∀ r∈t,r.length≤100000000):AC Tryz.prog 67 [TL t] H0 (I (bmC t)) H0:=by
 have hQ:=l02Square_ac t ht hr
 rcases bmC_cases t with ⟨e,hs⟩|⟨hs,hc,e⟩|⟨hs,hc,e⟩
 ·rw[hs] at hQ
  rw[e]
  refine AC.of_body 0 Tryz.func67 rfl (fun l h=>absurd rfl h) (fun C hC=>?_)
  have hD:∀ l,¬ C.D0 l:=fun l h=>(hC l).1 h rfl
  simp only[startFr,Tryz.ntmps67,List.length_cons,List.length_nil,Nat.reduceAdd,Nat.reduceSub,List.replicate_succ,List.replicate_zero,List.cons_append,List.nil_append]
  repeat' (first|((first|apply Ba|(apply Bb;(· rfl);(· rfl))|(apply Bc;(· exact nxE))|(apply Bd;(· rfl);(· rfl);(· exact nxE)));(· first|exact Kz rfl rfl (hQ) (Ad An)|exact Ok.pe))|((first|apply Ca|(apply Cb;(· exact nxE)));(· first|exact Ok.e0))|refine Sx ?_|(refine Sy (fun h=>?_) (fun h=>?_)<;>try (exfalso;omega;done))|refine Sz (fun h=>?_) (fun h=>?_))
  refine Ya ?_
  (apply Le.headZ (hs:=[]) [] rfl)
  all_goals (try dsimp only[srcs])
  (case' hfr=>(repeat' (first|refine La ?_ ?_|exact Lc|refine Lo ?_|refine ⟨⟨_,rfl,?_⟩,?_⟩|refine Lx ?_)))
  all_goals (first|exact Ld|exact trivial|(rfl))
 ·rw[hs] at hQ
  rw[e]
  have hB:=l04Best_yes t t.length (isSq_ok hs) hc
  generalize bkF t t.length (kmR (entN t) t.length) (-1)=bk at *
  refine AC.of_body 0 Tryz.func67 rfl (fun l h=>absurd rfl h) (fun C hC=>?_)
  have hD:∀ l,¬ C.D0 l:=fun l h=>(hC l).1 h rfl
  simp only[startFr,Tryz.ntmps67,List.length_cons,List.length_nil,Nat.reduceAdd,Nat.reduceSub,List.replicate_succ,List.replicate_zero,List.cons_append,List.nil_append]
  repeat' (first|((first|apply Ba|(apply Bb;(· rfl);(· rfl))|(apply Bc;(· exact nxE))|(apply Bd;(· rfl);(· rfl);(· exact nxE)));(· first|exact Kz rfl rfl (hQ) (Ad An)|exact Kz rfl rfl (hB) (Ad An)|exact Ok.pe))|((first|apply Ca|(apply Cb;(· exact nxE)));(· first|exact Ok.e0))|refine Sx ?_|(refine Sy (fun h=>?_) (fun h=>?_)<;>try (exfalso;omega;done))|refine Sz (fun h=>?_) (fun h=>?_))
  refine Ya ?_
  (apply Le.headZ (hs:=[]) [] rfl)
  all_goals (try dsimp only[srcs])
  (case' hfr=>(repeat' (first|refine La ?_ ?_|exact Lc|refine Lo ?_|refine ⟨⟨_,rfl,?_⟩,?_⟩|refine Lx ?_)))
  all_goals (first|exact Ld|exact trivial|(rfl))
 ·rw[hs] at hQ
  rw[e]
  have hB:=l04Best_no t t.length (isSq_ok hs) hc
  refine AC.of_body 0 Tryz.func67 rfl (fun l h=>absurd rfl h) (fun C hC=>?_)
  have hD:∀ l,¬ C.D0 l:=fun l h=>(hC l).1 h rfl
  simp only[startFr,Tryz.ntmps67,List.length_cons,List.length_nil,Nat.reduceAdd,Nat.reduceSub,List.replicate_succ,List.replicate_zero,List.cons_append,List.nil_append]
  repeat' (first|((first|apply Ba|(apply Bb;(· rfl);(· rfl))|(apply Bc;(· exact nxE))|(apply Bd;(· rfl);(· rfl);(· exact nxE)));(· first|exact Kz rfl rfl (hQ) (Ad An)|exact Kz rfl rfl (hB) (Ad An)|exact Ok.pe))|((first|apply Ca|(apply Cb;(· exact nxE)));(· first|exact Ok.e0))|refine Sx ?_|(refine Sy (fun h=>?_) (fun h=>?_)<;>try (exfalso;omega;done))|refine Sz (fun h=>?_) (fun h=>?_))
  refine Ya ?_
  (apply Le.headZ (hs:=[]) [] rfl)
  all_goals (try dsimp only[srcs])
  (case' hfr=>(repeat' (first|refine La ?_ ?_|exact Lc|refine Lo ?_|refine ⟨⟨_,rfl,?_⟩,?_⟩|refine Lx ?_)))
  all_goals (first|exact Ld|exact trivial|(rfl))
def mxF (t:Nat→Nat→Int) (aL:List (List Int)) (i j:Nat):Int:=if [(j:Int),(i:Int)]∈aL then t i j else BOT
theorem mx_0 [Mode] {t:Nat→Nat→Int}{n:Nat}:tabF n n (mxF t [])=botT n n:=by
 unfold botT tabF rowF mxF
 apply List.ext_getElem?
 intro i
 by_cases h:i<n
 ·simp[h,List.map_const']
 ·simp[h]
set_option maxHeartbeats 4000000 in
theorem l06Matrix_ac [Mode] (t:List (List Int)) (n:Nat) (hM:MatOk t n) (hc:hasK (entN t) n):AC Tryz.prog 124 [TL t] H0 (TL (ccT t n)) H0:=by
 have hn:=hM.le
 have hA:=l06Arcs_ac t n hM hc
 have hBt:=l02Bottom_ac n n (by omega) (by omega)
 rw[← mx_0 (t:=entN t)] at hBt
 have htl:(mRows 1 (TR t)).length=n:=by rw[mTR_len,hM.sq.l]
 have hmem:=fun r=>arL_mem (W:=entN (ccT t n)) (n:=n) (r:=r)
 have hal:=arT_le (W:=entN (ccT t n)) (n:=n) n 0
 have hnn:n*n≤100:=Nat.mul_le_mul hn hn
 have hal9:(arL (entN (ccT t n)) n).length≤100:=by
  have:(arL (entN (ccT t n)) n).length≤n*n+0:=hal
  omega
 have hfin:tabF n n (mxF (entN t) (arL (entN (ccT t n)) n))=ccT t n:=by
  show _=tabF n n _
  refine tabF_congr fun i j hi hj=>?_
  have e1:entN (ccT t n) i j=crF (entN t) (entN (kmT t n)) (entN (tabF n n (starF (entN (kmT t n)) n))) i j:=tabF_ent hi hj
  unfold mxF
  by_cases hW:entN (ccT t n) i j=BOT
  ·rw[if_neg (fun h=>by
    obtain ⟨u,v,_,_,h1,h2⟩:=(hmem _).1 h
    simp only[List.cons.injEq,and_true] at h2
    obtain rfl:j=u:=by omega
    obtain rfl:i=v:=by omega
    exact h1 hW)]
   rw[← hW,e1]
  ·rw[if_pos ((hmem _).2 ⟨j,i,hj,hi,hW,rfl⟩)]
   rw[e1] at hW
   unfold crF at hW ⊢
   split
   ·rename_i h;rw[if_pos h] at hW;exact absurd rfl hW
   ·rfl
 have hsg:=fun i j (hi:i<n) (hj:j<n)=>hM.sq.get hi hj
 have hall:∀ (k:Nat) r,(arL (entN (ccT t n)) n)[k]? = some r→∃ u v:Nat,u<n∧v<n∧r=[(u:Int),(v:Int)]:=fun k r h=>by
  obtain ⟨u,v,h1,h2,_,h4⟩:=(hmem r).1 (List.mem_of_getElem? h)
  exact ⟨u,v,h1,h2,h4⟩
 refine AC.frzT (n:=n) (R:=TR (ccT t n)) ?_ (by rw[TR_len];exact tabF_len)
 rw[← hfin]
 clear hfin hmem
 generalize arL (entN (ccT t n)) n=aL at *
 have hasl:(mRows 1 (TR aL)).length=aL.length:=by rw[mTR_len]
 refine AC.of_body 0 Tryz.func124 rfl (fun l h=>absurd rfl h) (fun C hC=>?_)
 have hD:∀ l,¬ C.D0 l:=fun l h=>(hC l).1 h rfl
 simp only[startFr,Tryz.ntmps124,List.length_cons,List.length_nil,Nat.reduceAdd,Nat.reduceSub,List.replicate_succ,List.replicate_zero,List.cons_append,List.nil_append]
 repeat' (first|((first|apply Ba|(apply Bb;(· rfl);(· rfl))|(apply Bc;(· exact nxE))|(apply Bd;(· rfl);(· rfl);(· exact nxE)));(· first|exact Ok.lenD rfl rfl htl|exact Kz rfl rfl (hA) (Ad An)|exact Tb rfl rfl (hBt) (Sd (Sd Sn))|exact Ok.pe))|((first|apply Ca|(apply Cb;(· exact nxE)));(· first|exact Tb rfl rfl (hBt) (Sd (Sd Sn))|exact Ok.e0))|refine Sx ?_|(refine Sy (fun h=>?_) (fun h=>?_)<;>try (exfalso;omega;done))|refine Sz (fun h=>?_) (fun h=>?_))
 refine AW.loop (X:={k:Nat // k≤aL.length}) (fun k=>⟨[TL t,Oo,Oo,.own 1 ⟨1,[]⟩ 0 n,TL aL,I (k.1:Nat),Oo,Oo,Oo,Oo,Oo,Oo,Oo,Oo,Oo,Oo,Oo,Oo,Oo,Oo,Oo,Oo,Oo,Oo,Oo,Oo,Oo,Oo,Oo,Oo,Oo,Oo,Oo,Oo,Oo,Oo,Oo,Oo,Oo,Oo,Oo,Oo,Oo,Oo,Oo,Oo,Oo],heapX [] [mi1 ⟨1,[]⟩ (TR (tabF n n (mxF (entN t) (aL.take k.1))))],900⟩) (fun k=>aL.length - k.1) ⟨0,Nat.zero_le _⟩ ?_ (fun k=>?_)
 ·
  (apply Le.headG [] [{ l:=⟨1,[]⟩,k:=1,R:=TR (tabF n n (mxF (entN t) [])),src:=⟨5,[0]⟩,base:=⟨5,[0]⟩ }] (fun _=>False))
  (case' hlen=>rfl)
  (case' hms=>rfl)
  all_goals (try dsimp only[srcs])
  (case' hfr|hob=>(repeat' (first|refine La ?_ ?_|exact Lc|refine Lo ?_|refine ⟨⟨_,rfl,?_⟩,?_⟩|refine Lx ?_)))
  (case' hok=>first|exact ⟨MI.ok_same rfl (Cg),trivial⟩|exact trivial)
  (case' hN=>rfl)
  (case' hS=>rfl)
  all_goals (first|exact Ld|(rfl))
 obtain ⟨c,hcc⟩:=k
 simp only
 by_cases hcl:c<aL.length
 case neg=>
  obtain rfl:c=aL.length:=by omega
  rw[List.take_length]
  repeat' (first|((first|apply Ba|(apply Bb;(· rfl);(· rfl))|(apply Bc;(· exact nxE))|(apply Bd;(· rfl);(· rfl);(· exact nxE)));(· first|exact Ok.lenD rfl rfl hasl|exact Ok.pe))|((first|apply Ca|(apply Cb;(· exact nxE)));(· first|exact Ok.e0))|refine Sx ?_|(refine Sy (fun h=>?_) (fun h=>?_)<;>try (exfalso;omega;done))|refine Sz (fun h=>?_) (fun h=>?_))
  refine Ya ?_
  (apply Le.headG [] [{ l:=⟨0,[]⟩,k:=1,R:=TR (tabF n n (mxF (entN t) aL)),src:=⟨1,[]⟩,base:=⟨1,[]⟩ }] (fun _=>False))
  (case' hlen=>rfl)
  (case' hms=>rfl)
  all_goals (try dsimp only[srcs])
  (case' hfr|hob=>(repeat' (first|refine La ?_ ?_|exact Lc|refine Lo ?_|refine ⟨⟨_,rfl,?_⟩,?_⟩|refine Lx ?_)))
  (case' hok=>first|exact ⟨MI.ok_same rfl (Cg),trivial⟩|exact trivial)
  (case' hN=>rfl)
  (case' hS=>rfl)
  all_goals (first|exact Ld|(rfl))
 obtain ⟨r,hr⟩:∃ r,aL[c]? = some r:=⟨aL[c],List.getElem?_eq_getElem hcl⟩
 obtain ⟨u,v,hu,hv,rfl⟩:=hall c r hr
 have hra:=TR_get hr
 have ha0:(IR [(u:Int),(v:Int)])[((0:Int)).toNat]? = some [DI (u:Nat)]:=rfl
 have ha1:(IR [(u:Int),(v:Int)])[((1:Int)).toNat]? = some [DI (v:Nat)]:=rfl
 have hal2:(IR [(u:Int),(v:Int)]).length=2:=rfl
 obtain ⟨R,q1,q2,q3⟩:=hsg v u hv hu
 have q1':=TR_get q1
 have q2':=IR_get q2
 have q3':(IR R).length=n:=by rw[IR_len,q3]
 have htk:aL.take (c+1)=aL.take c++[[(u:Int),(v:Int)]]:=by rw[List.take_add_one,hr];rfl
 have hrw:=TRF_get (n:=n) (f:=mxF (entN t) (aL.take c)) hv
 have hrl:(IR (rowF n (mxF (entN t) (aL.take c) v))).length=n:=by rw[IR_len,rowF_len]
 have hcell:(IR (rowF n (mxF (entN t) (aL.take c) v)))[u]? = some [DI (mxF (entN t) (aL.take c) v u)]:=IRF_get hu
 have hset:∀ a b,a<n→b<n→mxF (entN t) (aL.take (c+1)) a b=if a=v∧b=u then entN t v u else mxF (entN t) (aL.take c) a b:=fun a b _ _=>by
  unfold mxF
  rw[htk]
  by_cases hab:a=v∧b=u
  ·obtain ⟨rfl,rfl⟩:=hab
   rw[if_pos (by simp),if_pos ⟨rfl,rfl⟩]
  ·rw[if_neg hab]
   have:([(b:Int),(a:Int)]∈aL.take c++[[(u:Int),(v:Int)]])↔[(b:Int),(a:Int)]∈aL.take c:=by
    simp only[List.mem_append,List.mem_singleton,List.cons.injEq,and_true]
    constructor
    ·rintro (h|⟨h1,h2⟩)
     ·exact h
     ·exact absurd ⟨by omega,by omega⟩ hab
    ·exact .inl
   simp only[this]
 generalize mxF (entN t) (aL.take c)=g at *
 generalize entN t v u=ev at *
 repeat' (first|((first|apply Ba|(apply Bb;(· rfl);(· rfl))|(apply Bc;(· exact nxE))|(apply Bd;(· rfl);(· rfl);(· exact nxE)));(· first|exact Ok.lenD rfl rfl hasl|exact Ok.lenD rfl rfl hal2|exact Ok.ldTn rfl rfl rfl hrw hrl|exact Ok.st1 rfl rfl (congrArg (Option.map (dobj 1)) hrw) (by rw[hrl];exact hu) (by rw[hcell];rfl) rfl rfl IR_set|exact Ok.pe))|((first|apply Ca|(apply Cb;(· exact nxE)));(· first|exact Ok.st1 rfl rfl (congrArg (Option.map (dobj 1)) hrw) (by rw[hrl];exact hu) (by rw[hcell];rfl) rfl rfl IR_set|exact Ok.e0))|refine Sx ?_|(refine Sy (fun h=>?_) (fun h=>?_)<;>try (exfalso;omega;done))|refine Sz (fun h=>?_) (fun h=>?_))
 refine ⟨⟨c+1,by omega⟩,?_,by simp only;omega⟩
 (apply Le.headG [] [mi1 ⟨1,[]⟩ (TR (tabF n n (mxF (entN t) (aL.take (c+1)))))] (fun _=>False))
 (case' hlen=>rfl)
 (case' hms=>rfl)
 all_goals (try dsimp only[srcs])
 (case' hfr|hob=>(repeat' (first|refine La ?_ ?_|exact Lc|refine Lo ?_|refine ⟨⟨_,rfl,?_⟩,?_⟩|refine Lx ?_)))
 (case' hok=>first|exact ⟨MI.ok_row (tabF_set hset) hrw (by simp) rfl (Cg),trivial⟩|exact trivial)
 (case' hN=>rfl)
 (case' hS=>rfl)
 all_goals (first|exact Ld|(rfl))
def ndS (o:List Int) (r:List Int):List Int:=if (o.any fun x=>decide (x=r.headD 0))=true then o else o++[r.headD 0]
def ndL (aL:List (List Int)):List Int:=aL.foldl ndS []
theorem ndL_le [Mode]:∀ (aL:List (List Int)) (o:List Int),(aL.foldl ndS o).length≤o.length+aL.length
 | [],o=>by simp
 | r :: aL,o=>by
  have h1:=ndL_le aL (ndS o r)
  have h2:(ndS o r).length≤o.length+1:=by unfold ndS;split<;>simp
  simp only[List.foldl_cons,List.length_cons]
  omega
theorem ndL_any [Mode] {e:Int}:∀ (aL:List (List Int)) (o:List Int),((aL.foldl ndS o).any fun x=>decide (x=e))=((o.any fun x=>decide (x=e)) || aL.any fun r=>decide (r.headD 0=e))
 | [],o=>by simp
 | r :: aL,o=>by
  rw[List.foldl_cons,ndL_any aL]
  have h2:((ndS o r).any fun x=>decide (x=e))=((o.any fun x=>decide (x=e)) || decide (r.headD 0=e)):=by
   unfold ndS
   split
   ·rename_i h
    by_cases he:r.headD 0=e
    ·rw[he] at h;rw[h,decide_eq_true he];rfl
    ·rw[decide_eq_false he,Bool.or_false]
   ·rw[List.any_append];simp
  rw[h2,List.any_cons,Bool.or_assoc]
theorem ndL_ot [Mode] {W:Nat→Nat→Int}{n v:Nat} (hv:v<n):((ndL (arL W n)).any fun x=>decide (x=(v:Int)))=otB W n v:=by
 unfold ndL
 rw[ndL_any,List.any_nil,Bool.false_or,Bool.eq_iff_iff,otB_iff,List.any_eq_true]
 constructor
 ·rintro ⟨r,hr,h⟩
  obtain ⟨u,w,hu,hw,h1,rfl⟩:=arL_mem.1 hr
  have h':(u:Int)=v:=of_decide_eq_true h
  obtain rfl:u=v:=by omega
  exact ⟨w,hw,h1⟩
 ·rintro ⟨w,hw,h1⟩
  exact ⟨[(v:Int),(w:Int)],arL_mem.2 ⟨v,w,hv,hw,h1,rfl⟩,by simp⟩
set_option maxHeartbeats 4000000 in
theorem l06Nodes_ac [Mode] (t:List (List Int)) (n:Nat) (hM:MatOk t n) (hc:hasK (entN t) n):AC Tryz.prog 125 [TL t] H0 (IL (ndL (arL (entN (ccT t n)) n))) H0:=by
 have hn:=hM.le
 have hA:=l06Arcs_ac t n hM hc
 have hal:=arT_le (W:=entN (ccT t n)) (n:=n) n 0
 have hnn:n*n≤100:=Nat.mul_le_mul hn hn
 have hal9:(arL (entN (ccT t n)) n).length≤100:=by
  have:(arL (entN (ccT t n)) n).length≤n*n+0:=hal
  omega
 have hall:∀ (k:Nat) r,(arL (entN (ccT t n)) n)[k]? = some r→∃ u v:Nat,u<n∧v<n∧r=[(u:Int),(v:Int)]:=fun k r h=>by
  obtain ⟨u,v,h1,h2,_,h4⟩:=arL_mem.1 (List.mem_of_getElem? h)
  exact ⟨u,v,h1,h2,h4⟩
 generalize arL (entN (ccT t n)) n=aL at *
 have hasl:(mRows 1 (TR aL)).length=aL.length:=by rw[mTR_len]
 refine AC.frz (res:=own1 1 (ndL aL).length) (H':=hp1 (IO (ndL aL))) ?_ (AR.whole rfl trivial IR_len)
 refine AC.of_body 0 Tryz.func125 rfl (fun l h=>absurd rfl h) (fun C hC=>?_)
 have hD:∀ l,¬ C.D0 l:=fun l h=>(hC l).1 h rfl
 simp only[startFr,Tryz.ntmps125,List.length_cons,List.length_nil,Nat.reduceAdd,Nat.reduceSub,List.replicate_succ,List.replicate_zero,List.cons_append,List.nil_append]
 repeat' (first|((first|apply Ba|(apply Bb;(· rfl);(· rfl))|(apply Bc;(· exact nxE))|(apply Bd;(· rfl);(· rfl);(· exact nxE)));(· first|exact Kz rfl rfl (hA) (Ad An)|exact Ok.pe))|((first|apply Ca|(apply Cb;(· exact nxE)));(· first|exact Ok.e0))|refine Sx ?_|(refine Sy (fun h=>?_) (fun h=>?_)<;>try (exfalso;omega;done))|refine Sz (fun h=>?_) (fun h=>?_))
 refine AW.loop (X:={k:Nat // k≤aL.length}) (fun k=>⟨[Oo,Oo,Oo,TL aL,.own 1 ⟨0,[]⟩ 0 (ndL (aL.take (k.1:Nat))).length,I (k.1:Nat),Oo,Oo,Oo,Oo,Oo,Oo,Oo,Oo,Oo,Oo,Oo,Oo,Oo,Oo,Oo,Oo,Oo,Oo,Oo,Oo,Oo,Oo,Oo,Oo,Oo,Oo,Oo,Oo],heapL [(⟨0,[]⟩,⟨0,[]⟩,IO (ndL (aL.take k.1)))],900⟩) (fun k=>aL.length - k.1) ⟨0,Nat.zero_le _⟩ ?_ (fun k=>?_)
 ·
  (apply Le.headZ [_] rfl)
  all_goals (try dsimp only[srcs])
  (case' hfr|hob=>(repeat' (first|refine La ?_ ?_|exact Lc|refine Lo ?_|refine ⟨⟨_,rfl,?_⟩,?_⟩|refine Lx ?_)))
  all_goals (first|(rfl)|exact Ld)
 obtain ⟨c,hcc⟩:=k
 simp only
 by_cases hcl:c<aL.length
 case neg=>
  obtain rfl:c=aL.length:=by omega
  rw[List.take_length]
  repeat' (first|((first|apply Ba|(apply Bb;(· rfl);(· rfl))|(apply Bc;(· exact nxE))|(apply Bd;(· rfl);(· rfl);(· exact nxE)));(· first|exact Ok.lenD rfl rfl hasl|exact Ok.pe))|((first|apply Ca|(apply Cb;(· exact nxE)));(· first|exact Ok.e0))|refine Sx ?_|(refine Sy (fun h=>?_) (fun h=>?_)<;>try (exfalso;omega;done))|refine Sz (fun h=>?_) (fun h=>?_))
  refine Ya ?_
  (apply Le.head [(⟨0,[]⟩,_,_)])
  (case' hfr|hob=>(repeat' (first|refine La ?_ ?_|exact Lc|refine Lo ?_|refine ⟨⟨_,rfl,?_⟩,?_⟩|refine Lx ?_)))
  all_goals (first|exact Ld|(rfl))
 obtain ⟨r,hr⟩:∃ r,aL[c]? = some r:=⟨aL[c],List.getElem?_eq_getElem hcl⟩
 obtain ⟨u,v,hu,hv,rfl⟩:=hall c r hr
 have hra:=TR_get hr
 have ha0:(IR [(u:Int),(v:Int)])[((0:Int)).toNat]? = some [DI (u:Nat)]:=rfl
 have hal2:(IR [(u:Int),(v:Int)]).length=2:=rfl
 have hle:=ndL_le (aL.take c) []
 have htk:ndL (aL.take (c+1))=ndS (ndL (aL.take c)) [(u:Int),(v:Int)]:=by unfold ndL;rw[take_fold hr]
 have hlc:(aL.take c).length≤100:=by rw[List.length_take];omega
 rw[show (aL.take c).foldl ndS []=ndL (aL.take c) from rfl] at hle
 simp only[List.length_nil] at hle
 generalize ndL (aL.take c)=o at *
 have hH:=l01Has_ac o u (by omega)
 replace htk:ndL (aL.take (c+1))=if (o.any fun x=>decide (x=(u:Int)))=true then o else o++[(u:Int)]:=htk
 have hol:(IR o).length=o.length:=IR_len
 cases hb:(o.any fun x=>decide (x=(u:Int))) with
 | true=>
  rw[hb] at hH
  rw[if_pos hb] at htk
  repeat' (first|((first|apply Ba|(apply Bb;(· rfl);(· rfl))|(apply Bc;(· exact nxE))|(apply Bd;(· rfl);(· rfl);(· exact nxE)));(· first|exact Ok.lenD rfl rfl hasl|exact Ok.lenD rfl rfl hal2|exact Ez rfl rfl (hH) (Sw (Sd Sn))|exact Ok.pe))|((first|apply Ca|(apply Cb;(· exact nxE)));(· first|exact Ok.e0))|refine Sx ?_|(refine Sy (fun h=>?_) (fun h=>?_)<;>try (exfalso;omega;done))|refine Sz (fun h=>?_) (fun h=>?_))
  refine ⟨⟨c+1,by omega⟩,?_,by simp only;omega⟩
  rw[htk]
  (apply Le.headZ [_] rfl)
  all_goals (try dsimp only[srcs])
  (case' hfr|hob=>(repeat' (first|refine La ?_ ?_|exact Lc|refine Lo ?_|refine ⟨⟨_,rfl,?_⟩,?_⟩|refine Lx ?_)))
  all_goals (first|(rfl)|exact Ld)
 | false=>
  rw[hb] at hH
  rw[if_neg (by rw[hb];decide)] at htk
  repeat' (first|((first|apply Ba|(apply Bb;(· rfl);(· rfl))|(apply Bc;(· exact nxE))|(apply Bd;(· rfl);(· rfl);(· exact nxE)));(· first|exact Ok.lenD rfl rfl hasl|exact Ok.lenD rfl rfl hal2|exact Ez rfl rfl (hH) (Sw (Sd Sn))|exact Ok.append1 (row:=[DI (u:Nat)]) rfl rfl (by decide) rfl rfl hol rfl rfl rfl (by rfl) (by omega) (by omega)|exact Ok.pe))|((first|apply Ca|(apply Cb;(· exact nxE)));(· first|exact Ok.append1 (row:=[DI (u:Nat)]) rfl rfl (by decide) rfl rfl hol rfl rfl rfl (by rfl) (by omega) (by omega)|exact Ok.e0))|refine Sx ?_|(refine Sy (fun h=>?_) (fun h=>?_)<;>try (exfalso;omega;done))|refine Sz (fun h=>?_) (fun h=>?_))
  refine ⟨⟨c+1,by omega⟩,?_,by simp only;omega⟩
  (apply Le.headZ [_] rfl)
  all_goals (try dsimp only[srcs])
  (case' hfr|hob=>(repeat' (first|refine La ?_ ?_|exact Lc|refine Lo ?_|refine ⟨⟨_,rfl,?_⟩,?_⟩|refine Lx ?_)))
  all_goals (first|((first|(rw[htk,List.length_append];rfl)|(rw[htk,IR_app];done)|(rw[htk];simp;done)))|exact Ld)
set_option maxHeartbeats 4000000 in
theorem l06Components_ac [Mode] (t:List (List Int)) (n:Nat) (hM:MatOk t n) (hc:hasK (entN t) n):AC Tryz.prog 69 [TL t] H0 (.d (.sl 1 (kpR (entN (ccT t n)) n))) H0:=by
 have hn:=hM.le
 have hMx:=l06Matrix_ac t n hM hc
 have hNd:=l06Nodes_ac t n hM hc
 have hCm:=(l05Components_ac (ccT t n) n ⟨tabF_len,tabF_rc.r⟩ (by omega) (rcB (entN (ccT t n)) n) (fun u v hu hv=>rfl) (fun v hv=>rc_refl hv)).frzT cmpR_len
 have hot:=fun v hv=>ndL_ot (W:=entN (ccT t n)) (n:=n) (v:=v) hv
 have hnl:=ndL_le (arL (entN (ccT t n)) n) []
 have hal:=arT_le (W:=entN (ccT t n)) (n:=n) n 0
 have hnn:n*n≤100:=Nat.mul_le_mul hn hn
 have hld:=fun v hv=>lds_mem (W:=entN (ccT t n)) (n:=n) (v:=v) hv
 have hll:(lds (entN (ccT t n)) n).length≤n:=ldrN_le
 have hml:(mRows 1 (cmpR (rcB (entN (ccT t n)) n) n n)).length=(lds (entN (ccT t n)) n).length:=by simp
 have hrg:∀ i v,(lds (entN (ccT t n)) n)[i]? = some v→(mRows 1 (cmpR (rcB (entN (ccT t n)) n) n n))[((i:Nat):Int).toNat]? = some [D.sl 1 (IR (cN (cmp (entN (ccT t n)) n v)))]:=fun i v h=>by
  rw[Int.toNat_natCast]
  simp[mRows,cmpR,h]
 have hcl:=fun v=>cmp_len (W:=entN (ccT t n)) (n:=n) (v:=v)
 rw[show (arL (entN (ccT t n)) n).foldl ndS []=ndL (arL (entN (ccT t n)) n) from rfl] at hnl
 simp only[List.length_nil] at hnl
 have hnd:(ndL (arL (entN (ccT t n)) n)).length≤100:=by
  have:(arL (entN (ccT t n)) n).length≤n*n+0:=hal
  omega
 have hkp:kpR (entN (ccT t n)) n=((lds (entN (ccT t n)) n).filter (otB (entN (ccT t n)) n)).map fun v=>[D.sl 1 (IR (cN (cmp (entN (ccT t n)) n v)))]:=rfl
 refine AC.frz (res:=own1 1 (kpR (entN (ccT t n)) n).length) (H':=hp1 (dobj 1 (kpR (entN (ccT t n)) n))) ?_ (AR.whole rfl trivial rfl)
 rw[hkp]
 clear hkp
 generalize mRows 1 (cmpR (rcB (entN (ccT t n)) n) n n)=AR1 at *
 generalize ndL (arL (entN (ccT t n)) n)=nd at *
 generalize otB (entN (ccT t n)) n=ob at *
 generalize cmp (entN (ccT t n)) n=cf at *
 generalize lds (entN (ccT t n)) n=L at *
 generalize ccT t n=cm at *
 refine AC.of_body 0 Tryz.func69 rfl (fun l h=>absurd rfl h) (fun C hC=>?_)
 have hD:∀ l,¬ C.D0 l:=fun l h=>(hC l).1 h rfl
 simp only[startFr,Tryz.ntmps69,List.length_cons,List.length_nil,Nat.reduceAdd,Nat.reduceSub,List.replicate_succ,List.replicate_zero,List.cons_append,List.nil_append]
 repeat' (first|((first|apply Ba|(apply Bb;(· rfl);(· rfl))|(apply Bc;(· exact nxE))|(apply Bd;(· rfl);(· rfl);(· exact nxE)));(· first|exact Kz rfl rfl (hMx) (Ad An)|exact Kz rfl rfl (hCm) (Ad An)|exact Kz rfl rfl (hNd) (Ad An)|exact Ok.pe))|((first|apply Ca|(apply Cb;(· exact nxE)));(· first|exact Ok.e0))|refine Sx ?_|(refine Sy (fun h=>?_) (fun h=>?_)<;>try (exfalso;omega;done))|refine Sz (fun h=>?_) (fun h=>?_))
 refine AW.loop (X:={k:Nat // k≤L.length}) (fun k=>⟨[Oo,Oo,Oo,.d (.sl 1 AR1),IL nd,.own 1 ⟨0,[]⟩ 0 (((L.take (k.1:Nat)).filter ob).map fun v=>[D.sl 1 (IR (cN (cf v)))]).length,I (k.1:Nat),Oo,Oo,Oo,Oo,Oo,Oo,Oo,Oo,Oo,Oo,Oo,Oo,Oo,Oo,Oo,Oo,Oo,Oo,Oo,Oo,Oo,Oo,Oo,Oo,Oo,Oo,Oo,Oo],heapL [(⟨0,[]⟩,⟨0,[]⟩,dobj 1 (((L.take k.1).filter ob).map fun v=>[D.sl 1 (IR (cN (cf v)))]))],900⟩) (fun k=>L.length - k.1) ⟨0,Nat.zero_le _⟩ ?_ (fun k=>?_)
 ·
  (apply Le.headZ [_] rfl)
  all_goals (try dsimp only[srcs])
  (case' hfr|hob=>(repeat' (first|refine La ?_ ?_|exact Lc|refine Lo ?_|refine ⟨⟨_,rfl,?_⟩,?_⟩|refine Lx ?_)))
  all_goals (first|(rfl)|exact Ld)
 obtain ⟨c,hcc⟩:=k
 simp only
 by_cases hlt:c<L.length
 case neg=>
  obtain rfl:c=L.length:=by omega
  rw[List.take_length]
  repeat' (first|((first|apply Ba|(apply Bb;(· rfl);(· rfl))|(apply Bc;(· exact nxE))|(apply Bd;(· rfl);(· rfl);(· exact nxE)));(· first|exact Ok.lenD rfl rfl hml|exact Ok.pe))|((first|apply Ca|(apply Cb;(· exact nxE)));(· first|exact Ok.e0))|refine Sx ?_|(refine Sy (fun h=>?_) (fun h=>?_)<;>try (exfalso;omega;done))|refine Sz (fun h=>?_) (fun h=>?_))
  refine Ya ?_
  (apply Le.head [(⟨0,[]⟩,_,_)])
  (case' hfr|hob=>(repeat' (first|refine La ?_ ?_|exact Lc|refine Lo ?_|refine ⟨⟨_,rfl,?_⟩,?_⟩|refine Lx ?_)))
  all_goals (first|exact Ld|(rfl))
 obtain ⟨v,hv⟩:∃ v,L[c]? = some v:=⟨L[c],List.getElem?_eq_getElem hlt⟩
 obtain ⟨v1,v2,v3,v4⟩:=hld v (List.mem_of_getElem? hv)
 have hrow:=hrg c v hv
 have hf0:(IR (cN (cf v)))[((0:Int)).toNat]? = some [DI (v:Nat)]:=by
  show (IR (cN (cf v)))[0]? = _
  simp[IR,cN,v4]
 have hlv:(IR (cN (cf v))).length=(cf v).length:=by simp
 have hpos:0<(cf v).length:=List.length_pos_iff.2 (fun h=>by rw[h] at v3;cases v3)
 have hclv:=hcl v
 have hH:=l01Has_ac nd v (by omega)
 rw[hot v v1] at hH
 have hst:(L.take (c+1)).filter ob=if ob v=true then (L.take c).filter ob++[v] else (L.take c).filter ob:=by
  rw[List.take_add_one,hv,List.filter_append]
  cases hb:ob v<;>simp[hb]
 have hkl:((L.take c).filter ob).length≤n:=by
  have h1:=List.length_filter_le ob (L.take c)
  have h2:=List.length_take_le c L
  have:(L.take c).length≤L.length:=List.length_take_le' c L
  omega
 generalize (L.take c).filter ob=Q at *
 have hol:(Q.map fun v=>[D.sl 1 (IR (cN (cf v)))]).length=Q.length:=List.length_map _
 cases hb:ob v with
 | true=>
  rw[hb] at hH
  rw[if_pos hb] at hst
  repeat' (first|((first|apply Ba|(apply Bb;(· rfl);(· rfl))|(apply Bc;(· exact nxE))|(apply Bd;(· rfl);(· rfl);(· exact nxE)));(· first|exact Ok.lenD rfl rfl hml|exact Ok.lenD rfl rfl hlv|exact Kz rfl rfl (hH) (Ad (Ad An))|exact Ok.append1 (row:=[D.sl 1 (IR (cN (cf v)))]) rfl rfl (by decide) rfl rfl rfl rfl rfl rfl (by rfl) (by omega) (by omega)|exact Ok.pe))|((first|apply Ca|(apply Cb;(· exact nxE)));(· first|exact Ok.append1 (row:=[D.sl 1 (IR (cN (cf v)))]) rfl rfl (by decide) rfl rfl rfl rfl rfl rfl (by rfl) (by omega) (by omega)|exact Ok.e0))|refine Sx ?_|(refine Sy (fun h=>?_) (fun h=>?_)<;>try (exfalso;omega;done))|refine Sz (fun h=>?_) (fun h=>?_))
  refine ⟨⟨c+1,by omega⟩,?_,by simp only;omega⟩
  rw[hst]
  (apply Le.headZ [_] rfl)
  all_goals (try dsimp only[srcs])
  (case' hfr|hob=>(repeat' (first|refine La ?_ ?_|exact Lc|refine Lo ?_|refine ⟨⟨_,rfl,?_⟩,?_⟩|refine Lx ?_)))
  all_goals (first|((first|(rw[List.map_append,List.length_append];rfl)|(rw[List.map_append];rfl)|(simp;done)))|exact Ld)
 | false=>
  rw[hb] at hH
  rw[if_neg (by rw[hb];decide)] at hst
  repeat' (first|((first|apply Ba|(apply Bb;(· rfl);(· rfl))|(apply Bc;(· exact nxE))|(apply Bd;(· rfl);(· rfl);(· exact nxE)));(· first|exact Ok.lenD rfl rfl hml|exact Ok.lenD rfl rfl hlv|exact Kz rfl rfl (hH) (Ad (Ad An))|exact Ok.pe))|((first|apply Ca|(apply Cb;(· exact nxE)));(· first|exact Ok.e0))|refine Sx ?_|(refine Sy (fun h=>?_) (fun h=>?_)<;>try (exfalso;omega;done))|refine Sz (fun h=>?_) (fun h=>?_))
  refine ⟨⟨c+1,by omega⟩,?_,by simp only;omega⟩
  rw[hst]
  (apply Le.headZ [_] rfl)
  all_goals (try dsimp only[srcs])
  (case' hfr|hob=>(repeat' (first|refine La ?_ ?_|exact Lc|refine Lo ?_|refine ⟨⟨_,rfl,?_⟩,?_⟩|refine Lx ?_)))
  all_goals (first|(rfl)|exact Ld)
end Go.Proofs.YtkpoclbnnpglfaaGreat
