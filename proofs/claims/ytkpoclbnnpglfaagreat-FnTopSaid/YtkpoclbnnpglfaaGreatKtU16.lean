/-
  Walks in the abstract reading, part 16.
-/
import Derived.Test.YtkpoclbnnpglfaaGreatKtU15
import Derived.Test.YtkpoclbnnpglfaaGreatKtU3
import Derived.Test.YtkpoclbnnpglfaaGreatKtA3
import Derived.Test.YtkpoclbnnpglfaaGreatKtU8
set_option linter.unusedSimpArgs false
set_option linter.unusedVariables false
namespace Go.Proofs.YtkpoclbnnpglfaaGreat
section
open Go Go.RowKit
theorem MI.ok_nilT [Mode] {H:Heap}{l l0:Loc}{n m k:Nat}{R:List (List (List D))} (hR:R=List.replicate m []) (hne:l0.id≠n) :
  MI.ok { l:=l,k:=k,R:=R,src:=l0,base:=⟨n,[]⟩ } (upd (fun l=>if l.id=n then (if ∃ i,i<m∧l.sub=[i] then some ⟨k,[]⟩ else none) else H l) l0 (some (outer (Loc.at ⟨n,[]⟩) k (List.replicate m []) 0))):=by
 subst hR
 refine ⟨upd_same,fun i r hr=>?_⟩
 have hi:i<m:=by have:=(List.getElem?_eq_some_iff.1 hr).1;simpa using this
 have hr0:r=[]:=by rw[List.getElem?_replicate,if_pos hi] at hr;cases hr;rfl
 subst hr0
 show upd _ l0 _ (Loc.at ⟨n,[]⟩ i)=_
 rw[upd_ne (fun e=>hne (by rw[← e];rfl))]
 show (if (Loc.at ⟨n,[]⟩ i).id=n then _ else _)=_
 rw[if_pos (show (Loc.at ⟨n,[]⟩ i).id=n from rfl),if_pos ⟨i,hi,rfl⟩];rfl
theorem TR_nils [Mode] {n:Nat}{fs:List Fi} (h:fs=[]):TR (tmT n fs)=List.replicate n []:=by
 subst h;rw[tmT_nil];simp[TR,IR]
attribute [local irreducible] AL AD AW OpOk Le AC thenQ blockQ EndQ
set_option maxHeartbeats 4000000 in
theorem readyTime_ac [Mode] (n:Nat) (xs:List Pl) (fs:List Fi) (e:Nat) (he:e<n) (hn:n≤10) (hv:∀ p∈xs,okPl n p) (hx:xs.length≤100000) (htm:TmOk fs) (hfs:fs.length≤100000):AC Tryz.prog 111 [grD n xs,TL (tmT n fs),I e] H0 (.tup [I (rdR xs fs e).1,Bo (rdR xs fs e).2]) H0:=by
 have hcl:=cnt_le fs e
 have hlen:∀ a,(IR (tms fs a)).length=cnt fs a:=fun a=>by rw[IR_len,tms_len]
 have hrT:∀ a:Int,0≤a→a<n→(mRows 1 (TR (tmT n fs)))[a.toNat]? = some [.sl 1 (IR (tms fs a))]:=fun a h0 h1=>by
  have:=TR_get (tmT_get (fs:=fs) (show a.toNat<n by omega))
  rw[Int.toNat_natCast] at this
  rw[this,Int.toNat_of_nonneg h0]
 have hrE:=hrT e (by omega) (by omega)
 have hlE:=hlen e
 rcases first_or (fun p=>!gdP fs e p) xs with h|⟨j,q,hj,hq,hb⟩
 ·have hall:xs.all (gdP fs e)=true:=List.all_eq_true.2 fun p hp=>by simpa using h p hp
  have hr:rdR xs fs e=(rdT fs e xs,true):=if_pos hall
  rw[hr]
  refine AC.of_body 0 Tryz.func111 rfl (fun l h=>absurd rfl h) (fun C hC=>?_)
  have hD:∀ l,¬ C.D0 l:=fun l h=>(hC l).1 h rfl
  simp only[startFr,Tryz.ntmps111,List.length_cons,List.length_nil,Nat.reduceAdd,Nat.reduceSub,List.replicate_succ,List.replicate_zero,List.cons_append,List.nil_append]
  repeat' (first|((first|apply Ba|(apply Bb;(· rfl);(· rfl))|(apply Bc;(· exact nxE))|(apply Bd;(· rfl);(· rfl);(· exact nxE)));(· first|exact Ok.lenD rfl rfl hlE|exact Ok.lenD rfl rfl FL_len|exact Ok.pe))|((first|apply Ca|(apply Cb;(· exact nxE)));(· first|exact Ok.e0))|refine Sx ?_|(refine Sy (fun h=>?_) (fun h=>?_)<;>try (exfalso;omega;done))|refine Sz (fun h=>?_) (fun h=>?_))
  refine AW.loop (X:={k:Nat // k≤xs.length}) (fun k=>⟨[Oo,TL (tmT n fs),I e,Oo,Oo,Oo,Oo,Oo,I ((cnt fs e:Nat)+1),I (rdT fs e (xs.take (k.1:Nat))),Oo,Oo,Oo,Oo,Oo,Oo,Oo,Oo,Oo,Oo,PL xs,I xs.length,I (k.1:Nat),Oo,Oo,Oo,Oo,Oo,Oo,Oo,Oo,Oo,Oo,Oo,Oo,Oo,Oo,Oo,Oo,Oo,Oo,Oo,Oo,Oo,Oo,Oo,Oo,Oo,Oo,Oo,Oo,Oo,Oo,Oo,Oo,Oo,Oo,Oo,Oo,Oo,Oo,Oo,Oo,Oo],heapL [],900⟩) (fun k=>xs.length - k.1) ⟨0,Nat.zero_le _⟩ ?_ (fun k=>?_)
  ·
   (apply Le.headZ [] rfl)
   all_goals (try dsimp only[srcs])
   (case' hfr|hob=>(repeat' (first|refine La ?_ ?_|exact Lc|refine Lo ?_|refine ⟨⟨_,rfl,?_⟩,?_⟩|refine Lx ?_)))
   all_goals (first|(rfl)|exact Ld)
  obtain ⟨k,hk⟩:=k
  simp only
  by_cases hlt:k<xs.length
  ·obtain ⟨p,hp⟩:∃ p,xs[k]? = some p:=⟨xs[k],List.getElem?_eq_getElem hlt⟩
   have hrow:(xs.map Pl.row)[((k:Nat):Int).toNat]? = some [DI p.f,DI p.t,DI p.d,DI p.k]:=row_get hp
   have hmem:=List.mem_of_getElem? hp
   have hok:=hv p hmem
   have hgd:gdP fs e p=true:=by simpa using h p hmem
   have hst:=take_st (fs:=fs) (e:=e) hp
   have hbd:=rdT_bd htm e (xs.take k) (fun q hq=>hv q (List.mem_of_mem_take hq))
   generalize rdT fs e (xs.take k)=T at *
   obtain ⟨pf,pt,pd,pk⟩:=p
   unfold okPl at hok
   simp only at hok hrow
   unfold gdP at hgd
   simp only[decide_eq_true_eq] at hgd
   by_cases hpe:pt=e
   ·by_cases hpk:(cnt fs e:Int)+1≤pk
    ·rw[rx_skip (.inr hpk)] at hst
     repeat' (first|((first|apply Ba|(apply Bb;(· rfl);(· rfl))|(apply Bc;(· exact nxE))|(apply Bd;(· rfl);(· rfl);(· exact nxE)));(· first|exact Ok.lenD rfl rfl FL_len|exact Ok.pe))|((first|apply Ca|(apply Cb;(· exact nxE)));(· first|exact Ok.e0))|refine Sx ?_|(refine Sy (fun h=>?_) (fun h=>?_)<;>try (exfalso;omega;done))|refine Sz (fun h=>?_) (fun h=>?_))
     refine ⟨⟨k+1,by omega⟩,?_,by simp only;omega⟩
     (apply Le.headZ [] rfl)
     all_goals (try dsimp only[srcs])
     (case' hfr|hob=>(repeat' (first|refine La ?_ ?_|exact Lc|refine Lo ?_|refine ⟨⟨_,rfl,?_⟩,?_⟩|refine Lx ?_)))
     all_goals (first|((rw[hst];done))|exact Ld)
    ·have hrF:=hrT pf (by omega) (by omega)
     have hlF:=hlen pf
     have hT:=getD_tms htm pf ((cnt fs e:Int)+1 - pk - 1).toNat
     have hcf:=cnt_le fs pf
     rw[rx_step hpe (by simp only;omega)] at hst
     have hrI:(IR (tms fs pf))[((cnt fs e:Int)+1 - pk - 1).toNat]? = some [DI (((tms fs pf)[((cnt fs e:Int)+1 - pk - 1).toNat]?).getD 0)]:=by
      have hl2:((cnt fs e:Int)+1 - pk - 1).toNat<(tms fs pf).length:=by rw[tms_len];omega
      rw[IR,List.getElem?_map,List.getElem?_eq_getElem hl2];rfl
     simp only at hst
     generalize ((tms fs pf)[((cnt fs e:Int)+1 - pk - 1).toNat]?).getD 0=x at *
     repeat' (first|((first|apply Ba|(apply Bb;(· rfl);(· rfl))|(apply Bc;(· exact nxE))|(apply Bd;(· rfl);(· rfl);(· exact nxE)));(· first|exact Ok.lenD rfl rfl hlF|exact Ok.lenD rfl rfl FL_len|exact Ok.pe))|((first|apply Ca|(apply Cb;(· exact nxE)));(· first|exact Ok.e0))|refine Sx ?_|(refine Sy (fun h=>?_) (fun h=>?_)<;>try (exfalso;omega;done))|refine Sz (fun h=>?_) (fun h=>?_))
     refine ⟨⟨k+1,by omega⟩,?_,by simp only;omega⟩
     (apply Le.headZ [] rfl)
     all_goals (try dsimp only[srcs])
     (case' hfr|hob=>(repeat' (first|refine La ?_ ?_|exact Lc|refine Lo ?_|refine ⟨⟨_,rfl,?_⟩,?_⟩|refine Lx ?_)))
     all_goals (first|((rw[hst];done))|exact Ld)
   ·rw[rx_skip (.inl hpe)] at hst
    repeat' (first|((first|apply Ba|(apply Bb;(· rfl);(· rfl))|(apply Bc;(· exact nxE))|(apply Bd;(· rfl);(· rfl);(· exact nxE)));(· first|exact Ok.lenD rfl rfl FL_len|exact Ok.pe))|((first|apply Ca|(apply Cb;(· exact nxE)));(· first|exact Ok.e0))|refine Sx ?_|(refine Sy (fun h=>?_) (fun h=>?_)<;>try (exfalso;omega;done))|refine Sz (fun h=>?_) (fun h=>?_))
    refine ⟨⟨k+1,by omega⟩,?_,by simp only;omega⟩
    (apply Le.headZ [] rfl)
    all_goals (try dsimp only[srcs])
    (case' hfr|hob=>(repeat' (first|refine La ?_ ?_|exact Lc|refine Lo ?_|refine ⟨⟨_,rfl,?_⟩,?_⟩|refine Lx ?_)))
    all_goals (first|((rw[hst];done))|exact Ld)
  ·obtain rfl:k=xs.length:=by omega
   rw[List.take_length]
   repeat' (first|((first|apply Ba|(apply Bb;(· rfl);(· rfl))|(apply Bc;(· exact nxE))|(apply Bd;(· rfl);(· rfl);(· exact nxE)));(· first|exact Ok.lenD rfl rfl FL_len|exact Ok.pe))|((first|apply Ca|(apply Cb;(· exact nxE)));(· first|exact Ok.e0))|refine Sx ?_|(refine Sy (fun h=>?_) (fun h=>?_)<;>try (exfalso;omega;done))|refine Sz (fun h=>?_) (fun h=>?_))
   refine Yb ?_
   (apply Le.headZ (hs:=[]) [] rfl)
   all_goals (try dsimp only[srcs])
   (case' hfr=>(repeat' (first|refine La ?_ ?_|exact Lc|refine Lo ?_|refine ⟨⟨_,rfl,?_⟩,?_⟩|refine Lx ?_)))
   all_goals (first|exact Ld|exact trivial|(rfl))
 ·have hjl:=(List.getElem?_eq_some_iff.1 hj).1
  have hall:¬ xs.all (gdP fs e)=true:=fun h=>by
   have:=List.all_eq_true.1 h q (List.mem_of_getElem? hj)
   rw[this] at hq;cases hq
  have hr:rdR xs fs e=(0,false):=if_neg hall
  rw[hr]
  refine AC.of_body 0 Tryz.func111 rfl (fun l h=>absurd rfl h) (fun C hC=>?_)
  have hD:∀ l,¬ C.D0 l:=fun l h=>(hC l).1 h rfl
  simp only[startFr,Tryz.ntmps111,List.length_cons,List.length_nil,Nat.reduceAdd,Nat.reduceSub,List.replicate_succ,List.replicate_zero,List.cons_append,List.nil_append]
  repeat' (first|((first|apply Ba|(apply Bb;(· rfl);(· rfl))|(apply Bc;(· exact nxE))|(apply Bd;(· rfl);(· rfl);(· exact nxE)));(· first|exact Ok.lenD rfl rfl hlE|exact Ok.lenD rfl rfl FL_len|exact Ok.pe))|((first|apply Ca|(apply Cb;(· exact nxE)));(· first|exact Ok.e0))|refine Sx ?_|(refine Sy (fun h=>?_) (fun h=>?_)<;>try (exfalso;omega;done))|refine Sz (fun h=>?_) (fun h=>?_))
  refine AW.loop (X:={k:Nat // k≤j}) (fun k=>⟨[Oo,TL (tmT n fs),I e,Oo,Oo,Oo,Oo,Oo,I ((cnt fs e:Nat)+1),I (rdT fs e (xs.take (k.1:Nat))),Oo,Oo,Oo,Oo,Oo,Oo,Oo,Oo,Oo,Oo,PL xs,I xs.length,I (k.1:Nat),Oo,Oo,Oo,Oo,Oo,Oo,Oo,Oo,Oo,Oo,Oo,Oo,Oo,Oo,Oo,Oo,Oo,Oo,Oo,Oo,Oo,Oo,Oo,Oo,Oo,Oo,Oo,Oo,Oo,Oo,Oo,Oo,Oo,Oo,Oo,Oo,Oo,Oo,Oo,Oo,Oo],heapL [],900⟩) (fun k=>j - k.1) ⟨0,Nat.zero_le _⟩ ?_ (fun k=>?_)
  ·
   (apply Le.headZ [] rfl)
   all_goals (try dsimp only[srcs])
   (case' hfr|hob=>(repeat' (first|refine La ?_ ?_|exact Lc|refine Lo ?_|refine ⟨⟨_,rfl,?_⟩,?_⟩|refine Lx ?_)))
   all_goals (first|(rfl)|exact Ld)
  obtain ⟨k,hk⟩:=k
  simp only
  by_cases hlt:k<j
  ·obtain ⟨p,hp⟩:∃ p,xs[k]? = some p:=⟨xs[k]'(by omega),List.getElem?_eq_getElem (by omega)⟩
   have hrow:(xs.map Pl.row)[((k:Nat):Int).toNat]? = some [DI p.f,DI p.t,DI p.d,DI p.k]:=row_get hp
   have hmem:=List.mem_of_getElem? hp
   have hok:=hv p hmem
   have hgd:gdP fs e p=true:=by simpa using hb k p hlt hp
   have hst:=take_st (fs:=fs) (e:=e) hp
   have hbd:=rdT_bd htm e (xs.take k) (fun q hq=>hv q (List.mem_of_mem_take hq))
   generalize rdT fs e (xs.take k)=T at *
   obtain ⟨pf,pt,pd,pk⟩:=p
   unfold okPl at hok
   simp only at hok hrow
   unfold gdP at hgd
   simp only[decide_eq_true_eq] at hgd
   by_cases hpe:pt=e
   ·by_cases hpk:(cnt fs e:Int)+1≤pk
    ·rw[rx_skip (.inr hpk)] at hst
     repeat' (first|((first|apply Ba|(apply Bb;(· rfl);(· rfl))|(apply Bc;(· exact nxE))|(apply Bd;(· rfl);(· rfl);(· exact nxE)));(· first|exact Ok.lenD rfl rfl FL_len|exact Ok.pe))|((first|apply Ca|(apply Cb;(· exact nxE)));(· first|exact Ok.e0))|refine Sx ?_|(refine Sy (fun h=>?_) (fun h=>?_)<;>try (exfalso;omega;done))|refine Sz (fun h=>?_) (fun h=>?_))
     refine ⟨⟨k+1,by omega⟩,?_,by simp only;omega⟩
     (apply Le.headZ [] rfl)
     all_goals (try dsimp only[srcs])
     (case' hfr|hob=>(repeat' (first|refine La ?_ ?_|exact Lc|refine Lo ?_|refine ⟨⟨_,rfl,?_⟩,?_⟩|refine Lx ?_)))
     all_goals (first|((rw[hst];done))|exact Ld)
    ·have hrF:=hrT pf (by omega) (by omega)
     have hlF:=hlen pf
     have hT:=getD_tms htm pf ((cnt fs e:Int)+1 - pk - 1).toNat
     have hcf:=cnt_le fs pf
     rw[rx_step hpe (by simp only;omega)] at hst
     have hrI:(IR (tms fs pf))[((cnt fs e:Int)+1 - pk - 1).toNat]? = some [DI (((tms fs pf)[((cnt fs e:Int)+1 - pk - 1).toNat]?).getD 0)]:=by
      have hl2:((cnt fs e:Int)+1 - pk - 1).toNat<(tms fs pf).length:=by rw[tms_len];omega
      rw[IR,List.getElem?_map,List.getElem?_eq_getElem hl2];rfl
     simp only at hst
     generalize ((tms fs pf)[((cnt fs e:Int)+1 - pk - 1).toNat]?).getD 0=x at *
     repeat' (first|((first|apply Ba|(apply Bb;(· rfl);(· rfl))|(apply Bc;(· exact nxE))|(apply Bd;(· rfl);(· rfl);(· exact nxE)));(· first|exact Ok.lenD rfl rfl hlF|exact Ok.lenD rfl rfl FL_len|exact Ok.pe))|((first|apply Ca|(apply Cb;(· exact nxE)));(· first|exact Ok.e0))|refine Sx ?_|(refine Sy (fun h=>?_) (fun h=>?_)<;>try (exfalso;omega;done))|refine Sz (fun h=>?_) (fun h=>?_))
     refine ⟨⟨k+1,by omega⟩,?_,by simp only;omega⟩
     (apply Le.headZ [] rfl)
     all_goals (try dsimp only[srcs])
     (case' hfr|hob=>(repeat' (first|refine La ?_ ?_|exact Lc|refine Lo ?_|refine ⟨⟨_,rfl,?_⟩,?_⟩|refine Lx ?_)))
     all_goals (first|((rw[hst];done))|exact Ld)
   ·rw[rx_skip (.inl hpe)] at hst
    repeat' (first|((first|apply Ba|(apply Bb;(· rfl);(· rfl))|(apply Bc;(· exact nxE))|(apply Bd;(· rfl);(· rfl);(· exact nxE)));(· first|exact Ok.lenD rfl rfl FL_len|exact Ok.pe))|((first|apply Ca|(apply Cb;(· exact nxE)));(· first|exact Ok.e0))|refine Sx ?_|(refine Sy (fun h=>?_) (fun h=>?_)<;>try (exfalso;omega;done))|refine Sz (fun h=>?_) (fun h=>?_))
    refine ⟨⟨k+1,by omega⟩,?_,by simp only;omega⟩
    (apply Le.headZ [] rfl)
    all_goals (try dsimp only[srcs])
    (case' hfr|hob=>(repeat' (first|refine La ?_ ?_|exact Lc|refine Lo ?_|refine ⟨⟨_,rfl,?_⟩,?_⟩|refine Lx ?_)))
    all_goals (first|((rw[hst];done))|exact Ld)
  ·obtain rfl:k=j:=by omega
   have hrow:(xs.map Pl.row)[((k:Nat):Int).toNat]? = some [DI q.f,DI q.t,DI q.d,DI q.k]:=row_get hj
   have hok:=hv q (List.mem_of_getElem? hj)
   have hgd:gdP fs e q=false:=by simpa using hq
   obtain ⟨pf,pt,pd,pk⟩:=q
   unfold okPl at hok
   simp only at hok hrow
   unfold gdP at hgd
   simp only[decide_eq_false_iff_not,not_or,Int.not_le,Decidable.not_not] at hgd
   obtain ⟨hpe,hpk,hcp⟩:=hgd
   have hrF:=hrT pf (by omega) (by omega)
   have hlF:=hlen pf
   have hcf:=cnt_le fs pf
   repeat' (first|((first|apply Ba|(apply Bb;(· rfl);(· rfl))|(apply Bc;(· exact nxE))|(apply Bd;(· rfl);(· rfl);(· exact nxE)));(· first|exact Ok.lenD rfl rfl hlF|exact Ok.lenD rfl rfl FL_len|exact Ok.pe))|((first|apply Ca|(apply Cb;(· exact nxE)));(· first|exact Ok.e0))|refine Sx ?_|(refine Sy (fun h=>?_) (fun h=>?_)<;>try (exfalso;omega;done))|refine Sz (fun h=>?_) (fun h=>?_))
   all_goals
    refine Yb ?_
    (apply Le.headZ (hs:=[]) [] rfl)
    all_goals (try dsimp only[srcs])
    (case' hfr=>(repeat' (first|refine La ?_ ?_|exact Lc|refine Lo ?_|refine ⟨⟨_,rfl,?_⟩,?_⟩|refine Lx ?_)))
    all_goals (first|exact Ld|exact trivial|(rfl))
end
section
open Go Go.RowKit
theorem TR_tmT_set [Mode] {n e:Nat}{fs:List Fi}{k:Nat}{fn ft:Int} (hf:fs[k]? = some ⟨(e:Nat),fn,ft⟩) (he:e<n):TR (tmT n (fs.take (k+1)))=(TR (tmT n (fs.take k))).set e (IR (tms (fs.take k) (e:Nat))++[[DI ft]]):=by
 rw[List.take_add_one,hf]
 show TR (tmT n (fs.take k++[_]))=_
 rw[tmT_snoc he rfl]
 simp[TR,IR,List.map_set]
theorem TR_tmT_get [Mode] {n e:Nat}{fs:List Fi} (he:e<n):(TR (tmT n fs))[e]? = some (IR (tms fs (e:Nat))):=by simp[TR,tmT_get he]
attribute [local irreducible] AL AD AW OpOk Le AC thenQ blockQ EndQ
set_option maxHeartbeats 8000000 in
theorem isRun_ac [Mode] (n:Nat) (xs:List Pl) (fs:List Fi) (hn:1≤n∧n≤10) (hx:xs.length≤30) (hv:∀ p∈xs,okPl n p) (hno:NumOk fs) (htm:TmOk fs) (hl:fs.length≤500):AC Tryz.prog 58 [grD n xs,FL fs] H0 (Bo (rnB n xs fs)) H0:=by
 obtain ⟨m,hm,hgood,hend⟩:=rn_m n xs fs
 have hEy:∀ e:Int,0≤e∧e<n→AC Tryz.prog 112 [grD n xs,I e] H0 (Bo true) H0:=fun e he=>by have:=isEvent_ac n xs e;rwa [wrap_in (by omega) (by omega),wi_yes (by omega)] at this
 have hEn:∀ e:Int,¬(0≤e∧e<n)→AC Tryz.prog 112 [grD n xs,I e] H0 (Bo false) H0:=fun e he=>by have:=isEvent_ac n xs e;rwa [wrap_in (by omega) (by omega),wi_no (by omega)] at this
 refine AC.of_body 0 Tryz.func58 rfl (fun l h=>absurd rfl h) (fun C hC=>?_)
 have hD:∀ l,¬ C.D0 l:=fun l h=>(hC l).1 h rfl
 simp only[startFr,Tryz.ntmps58,List.length_cons,List.length_nil,Nat.reduceAdd,Nat.reduceSub,List.replicate_succ,List.replicate_zero,List.cons_append,List.nil_append]
 repeat' (first|((first|apply Ba|(apply Bb;(· rfl);(· rfl))|(apply Bc;(· exact nxE))|(apply Bd;(· rfl);(· rfl);(· exact nxE)));(· first|exact Ok.lenD rfl rfl FL_len|exact Ok.makeN (n:=n) rfl rfl rfl (by omega) (by omega)|exact Ok.pe))|((first|apply Ca|(apply Cb;(· exact nxE)));(· first|exact Ok.makeN (n:=n) rfl rfl rfl (by omega) (by omega)|exact Ok.e0))|refine Sx ?_|(refine Sy (fun h=>?_) (fun h=>?_)<;>try (exfalso;omega;done))|refine Sz (fun h=>?_) (fun h=>?_))
 refine AW.loop (X:={k:Nat // k≤m}) (fun k=>⟨[Oo,Oo,Bx 2 0,Oo,Oo,.own 1 ⟨1,[]⟩ 0 n,I (lsT (fs.take (k.1:Nat))),Oo,Oo,Oo,Oo,Oo,Oo,Oo,Oo,Oo,Oo,FL fs,I fs.length,I (k.1:Nat),Oo,Oo,Oo,Oo,Oo,Oo,Oo,Oo,Oo,Oo,Oo,Oo,Oo,Oo,Oo,Oo,Oo,Oo,Oo,Oo,Oo,Oo,Oo,Oo,Oo,Oo,Oo,Oo,Oo,Oo,Oo,Oo,Oo,Oo,Oo,Oo,Oo,Oo,Oo,Oo,Oo,Oo,Oo,Oo,Oo,Oo,Oo,Oo,Oo,Oo,Oo,Oo,Oo,Oo,Oo,Oo,Oo,Oo,Oo,Oo,Oo,Oo,Oo],heapX [(⟨0,[]⟩,⟨0,[]⟩,⟨2,[[I n,PL xs]]⟩)] [mi1 ⟨1,[]⟩ (TR (tmT n (fs.take k.1)))],900⟩) (fun k=>m - k.1) ⟨0,Nat.zero_le _⟩ ?_ (fun k=>?_)
 ·
  refine (Le.nilTm 1 n ⟨7,[]⟩ rfl).trans ?_
  (apply Le.headG [_] [{ l:=⟨1,[]⟩,k:=1,R:=TR (tmT n (fs.take 0)),src:=⟨7,[]⟩,base:=⟨13,[]⟩ }] (fun _=>False))
  (case' hlen=>rfl)
  (case' hms=>rfl)
  all_goals (try dsimp only[srcs])
  (case' hfr|hob=>(repeat' (first|refine La ?_ ?_|exact Lc|refine Lo ?_|refine ⟨⟨_,rfl,?_⟩,?_⟩|refine Lx ?_)))
  (case' hok=>first|exact ⟨MI.ok_nilT (TR_nils rfl) (by decide),trivial⟩|exact trivial)
  (case' hN=>rfl)
  (case' hS=>rfl)
  all_goals (first|exact Ld|(rfl))
 obtain ⟨k,hk⟩:=k
 simp only
 by_cases hkl:k<fs.length
 case neg=>
  obtain rfl:k=m:=by omega
  rcases hend with ⟨rfl,hr⟩|⟨f,hf,_,_⟩
  ·rw[hr]
   repeat' (first|((first|apply Ba|(apply Bb;(· rfl);(· rfl))|(apply Bc;(· exact nxE))|(apply Bd;(· rfl);(· rfl);(· exact nxE)));(· first|exact Ok.lenD rfl rfl FL_len|exact Ok.pe))|((first|apply Ca|(apply Cb;(· exact nxE)));(· first|exact Ok.e0))|refine Sx ?_|(refine Sy (fun h=>?_) (fun h=>?_)<;>try (exfalso;omega;done))|refine Sz (fun h=>?_) (fun h=>?_))
   refine Ya ?_
   (apply Le.headZ (hs:=[]) [] rfl)
   all_goals (try dsimp only[srcs])
   (case' hfr=>(repeat' (first|refine La ?_ ?_|exact Lc|refine Lo ?_|refine ⟨⟨_,rfl,?_⟩,?_⟩|refine Lx ?_)))
   all_goals (first|exact Ld|exact trivial|(rfl))
  ·exact absurd (List.getElem?_eq_some_iff.1 hf).1 hkl
 obtain ⟨f,hf⟩:∃ f,fs[k]? = some f:=⟨fs[k],List.getElem?_eq_getElem hkl⟩
 have hrow:(fs.map Fi.row)[((k:Nat):Int).toNat]? = some [DI f.e,DI f.n,DI f.t]:=row_get hf
 have hfn:=hno k f hf
 have hft:=htm f (List.mem_of_getElem? hf)
 have hcl:=cnt_le (fs.take k) f.e
 have htl:(fs.take k).length=k:=by rw[List.length_take];omega
 have hls:=lsT_bd (htm.take k)
 have hkm:k<m∨k=m:=by omega
 have hB:(rnS n xs (fs.take k) f=true∧k<m)∨(k=m∧rnS n xs (fs.take k) f=false∧rnB n xs fs=false):=by
  rcases hkm with h|h
  ·exact .inl ⟨hgood k f h hf,h⟩
  ·rcases hend with ⟨h1,_⟩|⟨g,hg,h2,h3⟩
   ·omega
   ·subst h
    rw[hf] at hg;cases hg
    exact .inr ⟨rfl,h2,h3⟩
 have hls2:=lsT_take hf
 have hTl:(TR (tmT n (fs.take k))).length=n:=by rw[TR_len,tmT_len]
 by_cases hev:0≤f.e∧f.e<n
 case neg=>
  have hE:=hEn f.e hev
  rcases hB with ⟨hS,_⟩|⟨rfl,hS,hrB⟩
  ·obtain ⟨e1,e2,_⟩:=rnS_yes hS
   exact absurd ⟨e1,e2⟩ hev
  rw[hrB]
  obtain ⟨fe,fn,ft⟩:=f
  simp only at hrow hE
  repeat' (first|((first|apply Ba|(apply Bb;(· rfl);(· rfl))|(apply Bc;(· exact nxE))|(apply Bd;(· rfl);(· rfl);(· exact nxE)));(· first|exact Kz rfl rfl (hE) (Aa (Ad (Ad An)) (Ad An))|exact Ok.lenD rfl rfl FL_len|exact Ok.pe))|((first|apply Ca|(apply Cb;(· exact nxE)));(· first|exact Ok.e0))|refine Sx ?_|(refine Sy (fun h=>?_) (fun h=>?_)<;>try (exfalso;omega;done))|refine Sz (fun h=>?_) (fun h=>?_))
  all_goals
   refine Ya ?_
   (apply Le.headZ (hs:=[]) [] rfl)
   all_goals (try dsimp only[srcs])
   (case' hfr=>(repeat' (first|refine La ?_ ?_|exact Lc|refine Lo ?_|refine ⟨⟨_,rfl,?_⟩,?_⟩|refine Lx ?_)))
   all_goals (first|exact Ld|exact trivial|(rfl))
 have hE:=hEy f.e hev
 obtain ⟨fe,fn,ft⟩:=f
 simp only at hrow hfn hft hcl hev hE hls2
 obtain ⟨e,rfl⟩:∃ e:Nat,fe=e:=⟨fe.toNat,by omega⟩
 have hR:=readyTime_ac n xs (fs.take k) e (by omega) (by omega) hv (by omega) (htm.take k) (by omega)
 have hrw:=TR_tmT_get (n:=n) (fs:=fs.take k) (e:=e) (by omega)
 have hlen:(IR (tms (fs.take k) (e:Nat))).length=cnt (fs.take k) e:=by rw[IR_len,tms_len]
 have hset:=TR_tmT_set (n:=n) hf (by omega)
 have hlen2:(IR (tms (fs.take k) (e:Nat))++[[DI ft]]).length=cnt (fs.take k) e+1:=by rw[List.length_append,hlen];rfl
 have hcut:e<(TR (tmT n (fs.take k))).length:=by omega
 generalize hq:rdR xs (fs.take k) (e:Nat)=q at *
 obtain ⟨qt,qb⟩:=q
 simp only at hR
 generalize cnt (fs.take k) e=c at *
 rcases hB with ⟨hS,hlt⟩|⟨rfl,hS,hrB⟩
 ·obtain ⟨e1,e2,e3,e4,e5⟩:=rnS_yes hS
  simp only[hq] at e1 e2 e3 e4 e5
  subst e4
  generalize lsT (fs.take k)=lt at *
  repeat' (first|((first|apply Ba|(apply Bb;(· rfl);(· rfl))|(apply Bc;(· exact nxE))|(apply Bd;(· rfl);(· rfl);(· exact nxE)));(· first|exact Kz rfl rfl (hE) (Aa (Ad (Ad An)) (Ad An))|exact Ok.ldTn rfl rfl rfl hrw hlen|exact Ez rfl rfl (hR) (Sa (Sd (Sd Sn)) (Sm (Sd Sn)))|exact Ok.lenD rfl rfl FL_len|exact Ok.append1 (row:=[DI ft]) rfl rfl (by decide) rfl (congrArg (Option.map (dobj 1)) hrw) hlen rfl rfl rfl (by rfl) (by omega) (by omega)|exact Ok.stT rfl rfl rfl (by dsimp only;rw[hTl];omega) rfl|exact Ok.pe))|((first|apply Ca|(apply Cb;(· exact nxE)));(· first|exact Ok.append1 (row:=[DI ft]) rfl rfl (by decide) rfl (congrArg (Option.map (dobj 1)) hrw) hlen rfl rfl rfl (by rfl) (by omega) (by omega)|exact Ok.stT rfl rfl rfl (by dsimp only;rw[hTl];omega) rfl|exact Ok.e0))|refine Sx ?_|(refine Sy (fun h=>?_) (fun h=>?_)<;>try (exfalso;omega;done))|refine Sz (fun h=>?_) (fun h=>?_))
  refine ⟨⟨k+1,by omega⟩,?_,by simp only;omega⟩
  (apply Le.headG [_] [{ l:=⟨1,[]⟩,k:=1,R:=TR (tmT n (fs.take (k+1))),src:=⟨1,[]⟩,base:=⟨1,[]⟩,cut:=e,ext:=some ⟨962,[]⟩ }] (fun _=>False))
  (case' hlen=>rfl)
  (case' hms=>rfl)
  all_goals (try dsimp only[srcs])
  (case' hfr|hob=>(repeat' (first|refine La ?_ ?_|exact Lc|refine Lo ?_|refine ⟨⟨_,rfl,?_⟩,?_⟩|refine Lx ?_)))
  (case' hok=>first|exact ⟨MI.ok_swap hset hcut hlen2 rfl (fun i x hx hne=>by simp[upds,W.app,upd,heapX,heapM,matG,Loc.cov,Loc.at,hne,hx]) rfl,trivial⟩|exact trivial)
  (case' hN=>rfl)
  (case' hS=>rfl)
  all_goals (first|exact Ld|((first|(rw[hls2];done)|(simp[AllP];done)|(simp[AllP];omega))))
 ·rw[hrB]
  rcases rnS_no hS with h1|h1|h1|h1
  ·exact absurd hev h1
  ·obtain ⟨h1,h2⟩:=h1
   simp only at h1 h2
   generalize lsT (fs.take k)=lt at *
   repeat' (first|((first|apply Ba|(apply Bb;(· rfl);(· rfl))|(apply Bc;(· exact nxE))|(apply Bd;(· rfl);(· rfl);(· exact nxE)));(· first|exact Kz rfl rfl (hE) (Aa (Ad (Ad An)) (Ad An))|exact Ok.ldTn rfl rfl rfl hrw hlen|exact Ok.lenD rfl rfl FL_len|exact Ok.pe))|((first|apply Ca|(apply Cb;(· exact nxE)));(· first|exact Ok.e0))|refine Sx ?_|(refine Sy (fun h=>?_) (fun h=>?_)<;>try (exfalso;omega;done))|refine Sz (fun h=>?_) (fun h=>?_))
   all_goals
    refine Ya ?_
    (apply Le.headZ (hs:=[]) [] rfl)
    all_goals (try dsimp only[srcs])
    (case' hfr=>(repeat' (first|refine La ?_ ?_|exact Lc|refine Lo ?_|refine ⟨⟨_,rfl,?_⟩,?_⟩|refine Lx ?_)))
    all_goals (first|exact Ld|exact trivial|(rfl))
  ·obtain ⟨h1,h2,h3⟩:=h1
   simp only[hq] at h1 h2 h3
   subst h3
   generalize lsT (fs.take k)=lt at *
   repeat' (first|((first|apply Ba|(apply Bb;(· rfl);(· rfl))|(apply Bc;(· exact nxE))|(apply Bd;(· rfl);(· rfl);(· exact nxE)));(· first|exact Kz rfl rfl (hE) (Aa (Ad (Ad An)) (Ad An))|exact Ok.ldTn rfl rfl rfl hrw hlen|exact Ez rfl rfl (hR) (Sa (Sd (Sd Sn)) (Sm (Sd Sn)))|exact Ok.lenD rfl rfl FL_len|exact Ok.pe))|((first|apply Ca|(apply Cb;(· exact nxE)));(· first|exact Ok.e0))|refine Sx ?_|(refine Sy (fun h=>?_) (fun h=>?_)<;>try (exfalso;omega;done))|refine Sz (fun h=>?_) (fun h=>?_))
   all_goals
    refine Ya ?_
    (apply Le.headZ (hs:=[]) [] rfl)
    all_goals (try dsimp only[srcs])
    (case' hfr=>(repeat' (first|refine La ?_ ?_|exact Lc|refine Lo ?_|refine ⟨⟨_,rfl,?_⟩,?_⟩|refine Lx ?_)))
    all_goals (first|exact Ld|exact trivial|(rfl))
  ·obtain ⟨h1,h2,h3,h4⟩:=h1
   simp only[hq] at h1 h2 h3 h4
   subst h3
   generalize lsT (fs.take k)=lt at *
   repeat' (first|((first|apply Ba|(apply Bb;(· rfl);(· rfl))|(apply Bc;(· exact nxE))|(apply Bd;(· rfl);(· rfl);(· exact nxE)));(· first|exact Kz rfl rfl (hE) (Aa (Ad (Ad An)) (Ad An))|exact Ok.ldTn rfl rfl rfl hrw hlen|exact Ez rfl rfl (hR) (Sa (Sd (Sd Sn)) (Sm (Sd Sn)))|exact Ok.lenD rfl rfl FL_len|exact Ok.pe))|((first|apply Ca|(apply Cb;(· exact nxE)));(· first|exact Ok.e0))|refine Sx ?_|(refine Sy (fun h=>?_) (fun h=>?_)<;>try (exfalso;omega;done))|refine Sz (fun h=>?_) (fun h=>?_))
   all_goals
    refine Ya ?_
    (apply Le.headZ (hs:=[]) [] rfl)
    all_goals (try dsimp only[srcs])
    (case' hfr=>(repeat' (first|refine La ?_ ?_|exact Lc|refine Lo ?_|refine ⟨⟨_,rfl,?_⟩,?_⟩|refine Lx ?_)))
    all_goals (first|exact Ld|exact trivial|(rfl))
end
section
open Go Go.RowKit
attribute [local irreducible] AL AD AW OpOk Le AC thenQ blockQ EndQ
set_option maxHeartbeats 4000000 in
theorem firingTimes_ac [Mode] (n m:Nat) (xs:List Pl) (ord:List Nat) (s0:Nat→Int) (hn:n≤10) (hm:m≤50) (hx:xs.length≤30) (hv:∀ p∈xs,okPl n p) (hord:ordR n xs=some ord) (hs:∀ b,0≤s0 b∧s0 b≤1000000) :
  AC Tryz.prog 56 [grD n xs,I m,IL (rowF n s0)] H0 (own1 1 m) (hpM 1 (TR (tabF m n (stT xs ord s0 m)))):=by
 have hO:=firingOrder_ac n xs hn (by omega) hv
 rw[hord] at hO
 simp only[Option.getD_some,Option.isSome_some] at hO
 obtain ⟨hol,_,_⟩:=ord_idx hord
 have holt:∀ e∈ord,e<n:=(ordF_some OrdOk.nil hord).1.lt
 have hcl:(IR (cN ord)).length=n:=by simp[hol]
 have hOw:=cloneInt_ac (rowF n s0) (by rw[rowF_len];omega)
 have hrl0:(rowF n s0).length=n:=rowF_len
 rw[hrl0] at hOw
 refine AC.of_body 0 Tryz.func56 rfl (fun l h=>absurd rfl h) (fun C hC=>?_)
 have hD:∀ l,¬ C.D0 l:=fun l h=>(hC l).1 h rfl
 simp only[startFr,Tryz.ntmps56,List.length_cons,List.length_nil,Nat.reduceAdd,Nat.reduceSub,List.replicate_succ,List.replicate_zero,List.cons_append,List.nil_append]
 repeat' (first|((first|apply Ba|(apply Bb;(· rfl);(· rfl))|(apply Bc;(· exact nxE))|(apply Bd;(· rfl);(· rfl);(· exact nxE)));(· first|exact Kz rfl rfl (hO) (Aa (Ad (Ad An)) An)|exact Ok.pe))|((first|apply Ca|(apply Cb;(· exact nxE)));(· first|exact Ok.e0))|refine Sx ?_|(refine Sy (fun h=>?_) (fun h=>?_)<;>try (exfalso;omega;done))|refine Sz (fun h=>?_) (fun h=>?_))
 refine AW.loop (X:={k:Nat // k≤m}) (fun k=>⟨[Oo,Oo,IL (rowF n s0),Bx 2 0,Oo,Oo,Oo,IL (cN ord),Oo,.own 1 ⟨1,[]⟩ 0 (k.1:Nat),Oo,Oo,Oo,Oo,Oo,Oo,Oo,Oo,Oo,Oo,I m,I (k.1:Nat),Oo,Oo,Oo,Oo,Oo,Oo,Oo,Oo,Oo,Oo,Oo,Oo,Oo,Oo,Oo,Oo,Oo,Oo,Oo,Oo,Oo,Oo,Oo,Oo,Oo,Oo,Oo,Oo,Oo,Oo,Oo,Oo,Oo,Oo,Oo,Oo,Oo,Oo,Oo,Oo,Oo,Oo,Oo,Oo,Oo,Oo,Oo,Oo,Oo,Oo,Oo,Oo,Oo,Oo,Oo,Oo,Oo,Oo,Oo,Oo,Oo,Oo],heapX [(⟨0,[]⟩,⟨0,[]⟩,⟨2,[[I n,PL xs]]⟩)] [mi1 ⟨1,[]⟩ (TR (tabF k.1 n (stT xs ord s0 k.1)))],900⟩) (fun k=>m - k.1) ⟨0,Nat.zero_le _⟩ ?_ (fun k=>?_)
 ·
  refine (Le.nil 9 1 rfl).trans ?_
  (apply Le.headG [_] [{ l:=⟨1,[]⟩,k:=1,R:=[],src:=⟨12,[]⟩,base:=⟨12,[]⟩ }] (fun _=>False))
  (case' hlen=>rfl)
  (case' hms=>rfl)
  all_goals (try dsimp only[srcs])
  (case' hfr|hob=>(repeat' (first|refine La ?_ ?_|exact Lc|refine Lo ?_|refine ⟨⟨_,rfl,?_⟩,?_⟩|refine Lx ?_)))
  (case' hok=>first|exact ⟨MI.ok_same rfl (fun i x hx=>by simp at hx),trivial⟩|exact trivial)
  (case' hN=>rfl)
  (case' hS=>rfl)
  all_goals (first|exact Ld|(rfl))
 obtain ⟨i,hi⟩:=k
 simp only
 by_cases hlt:i<m
 ·have hbT:=stT_le hv hx (by omega:ord.length≤10) hs i
  have hbN:=stZ_le (k:=i) (s0:=s0) (fun b=>by have:=hs b;omega) hbT
  have hstT:stT xs ord s0 (i+1)=ord.foldl (stE xs i) (stZ s0 i (stT xs ord s0 i)):=rfl
  have htk:(TR (tabF i n (stT xs ord s0 i))).length=i:=by rw[TR_len,tabF_len]
  have hrow1:=tabF_row1 (m:=i) (n:=n) (s0:=s0) (F:=stT xs ord s0 i)
  repeat' (first|((first|apply Ba|(apply Bb;(· rfl);(· rfl))|(apply Bc;(· exact nxE))|(apply Bd;(· rfl);(· rfl);(· exact nxE)));(· first|exact Eo rfl rfl (hOw) (Sd Sn)|exact Ok.appendT rfl rfl (by decide) rfl rfl rfl (by rw[outer_len,htk];rfl) rfl rfl (by rfl) (by omega) (by omega) rfl|exact Ok.pe))|((first|apply Ca|(apply Cb;(· exact nxE)));(· first|exact Eo rfl rfl (hOw) (Sd Sn)|exact Ok.appendT rfl rfl (by decide) rfl rfl rfl (by rw[outer_len,htk];rfl) rfl rfl (by rfl) (by omega) (by omega) rfl|exact Ok.e0))|refine Sx ?_|(refine Sy (fun h=>?_) (fun h=>?_)<;>try (exfalso;omega;done))|refine Sz (fun h=>?_) (fun h=>?_))
  generalize stZ s0 i (stT xs ord s0 i)=F0 at *
  refine AW.loop (X:={k:Nat // k≤n}) (fun k=>⟨[Oo,Oo,IL (rowF n s0),Bx 2 0,Oo,Oo,Oo,IL (cN ord),Oo,.own 1 ⟨1,[]⟩ 0 (i+1),I i,Oo,Oo,Oo,Oo,Oo,Oo,Oo,Oo,Oo,I m,I i,Oo,Oo,Oo,Oo,Oo,Oo,Oo,IL (cN ord),I n,I (k.1:Nat),Oo,Oo,Oo,Oo,Oo,Oo,Oo,Oo,Oo,Oo,Oo,Oo,Oo,Oo,Oo,Oo,Oo,Oo,Oo,Oo,Oo,Oo,Oo,Oo,Oo,Oo,Oo,Oo,Oo,Oo,Oo,Oo,Oo,Oo,Oo,Oo,Oo,Oo,Oo,Oo,Oo,Oo,Oo,Oo,Oo,Oo,Oo,Oo,Oo,Oo,Oo,Oo],heapX [(⟨0,[]⟩,⟨0,[]⟩,⟨2,[[I n,PL xs]]⟩)] [mi1 ⟨1,[]⟩ (TR (tabF (i+1) n ((ord.take k.1).foldl (stE xs i) F0)))],900⟩) (fun k=>n - k.1) ⟨0,Nat.zero_le _⟩ ?_ (fun k=>?_)
  ·
   (apply Le.headG [_] [{ l:=⟨1,[]⟩,k:=1,R:=TR (tabF (i+1) n F0),src:=⟨907,[]⟩,base:=⟨1,[]⟩,cut:=i,ext:=some ⟨905,[0]⟩ }] (fun _=>False))
   (case' hlen=>rfl)
   (case' hms=>rfl)
   all_goals (try dsimp only[srcs])
   (case' hfr|hob=>(repeat' (first|refine La ?_ ?_|exact Lc|refine Lo ?_|refine ⟨⟨_,rfl,?_⟩,?_⟩|refine Lx ?_)))
   (case' hok=>first|exact ⟨MI.ok_app hrow1 htk (by rw[IR_len,rowF_len]) rfl (Cg) rfl,trivial⟩|exact trivial)
   (case' hN=>rfl)
   (case' hS=>rfl)
   all_goals (first|exact Ld|(first|exact AR.ownL (by simp[tauX,tauL,srcs,tauM,Loc.cov,Loc.at,MI.row];done) rfl (by simp[heapX,heapM,upd,matG,srcs,Loc.cov,Loc.at,tabF_len,TR_len];done)|(simp[AllP,tabF_len,TR_len];done)))
  obtain ⟨J,hJ⟩:=k
  simp only
  by_cases hlt2:J<n
  ·obtain ⟨e,he⟩:∃ e,ord[J]? = some e:=⟨ord[J],by simp⟩
   have hen:=holt e (List.mem_of_getElem? he)
   have hce:=cN_get he
   have hbJ:=stR_le (k:=i) hv hx (ord:=ord) hbN J
   have hstJ:(ord.take (J+1)).foldl (stE xs i) F0=xs.foldl (stP i e) ((ord.take J).foldl (stE xs i) F0):=take_fold he
   generalize (ord.take J).foldl (stE xs i) F0=F1 at hbJ hstJ ⊢
   repeat' (first|((first|apply Ba|(apply Bb;(· rfl);(· rfl))|(apply Bc;(· exact nxE))|(apply Bd;(· rfl);(· rfl);(· exact nxE)));(· first|exact Ok.pe))|((first|apply Ca|(apply Cb;(· exact nxE)));(· first|exact Ok.e0))|refine Sx ?_|(refine Sy (fun h=>?_) (fun h=>?_)<;>try (exfalso;omega;done))|refine Sz (fun h=>?_) (fun h=>?_))
   refine AW.loop (X:={k:Nat // k≤xs.length}) (fun k=>⟨[Oo,Oo,IL (rowF n s0),Bx 2 0,Oo,Oo,Oo,IL (cN ord),Oo,.own 1 ⟨1,[]⟩ 0 (i+1),I i,Oo,I e,Oo,Oo,Oo,Oo,Oo,Oo,Oo,I m,I i,Oo,Oo,Oo,Oo,Oo,Oo,Oo,IL (cN ord),I n,I J,Oo,Oo,Oo,Oo,PL xs,I xs.length,I (k.1:Nat),Oo,Oo,Oo,Oo,Oo,Oo,Oo,Oo,Oo,Oo,Oo,Oo,Oo,Oo,Oo,Oo,Oo,Oo,Oo,Oo,Oo,Oo,Oo,Oo,Oo,Oo,Oo,Oo,Oo,Oo,Oo,Oo,Oo,Oo,Oo,Oo,Oo,Oo,Oo,Oo,Oo,Oo,Oo,Oo,Oo],heapX [(⟨0,[]⟩,⟨0,[]⟩,⟨2,[[I n,PL xs]]⟩)] [mi1 ⟨1,[]⟩ (TR (tabF (i+1) n ((xs.take k.1).foldl (stP i e) F1)))],900⟩) (fun k=>xs.length - k.1) ⟨0,Nat.zero_le _⟩ ?_ (fun k=>?_)
   ·
    (apply Le.headG [_] [mi1 ⟨1,[]⟩ (TR (tabF (i+1) n F1))] (fun _=>False))
    (case' hlen=>rfl)
    (case' hms=>rfl)
    all_goals (try dsimp only[srcs])
    (case' hfr|hob=>(repeat' (first|refine La ?_ ?_|exact Lc|refine Lo ?_|refine ⟨⟨_,rfl,?_⟩,?_⟩|refine Lx ?_)))
    (case' hok=>first|exact ⟨MI.ok_same rfl (Cg),trivial⟩|exact trivial)
    (case' hN=>rfl)
    (case' hS=>rfl)
    all_goals (first|exact Ld|(rfl))
   obtain ⟨q,hq⟩:=k
   simp only
   by_cases hlt3:q<xs.length
   ·obtain ⟨p,hp⟩:∃ p,xs[q]? = some p:=⟨xs[q],by simp⟩
    have hrow:(xs.map Pl.row)[((q:Nat):Int).toNat]? = some [DI p.f,DI p.t,DI p.d,DI p.k]:=row_get hp
    have hpo:=hv p (List.mem_of_getElem? hp)
    have hbq:=stE_le (k:=i) (e:=e) hv hbJ q
    have hstq:(xs.take (q+1)).foldl (stP i e) F1=stP i e ((xs.take q).foldl (stP i e) F1) p:=take_fold hp
    generalize (xs.take q).foldl (stP i e) F1=F2 at hbq hstq ⊢
    obtain ⟨pf,pt,pd,pk⟩:=p
    obtain ⟨⟨f1,f2⟩,⟨t1,t2⟩,⟨d1,d2⟩,⟨k1,k2⟩⟩:=hpo
    simp only at f1 f2 t1 t2 d1 d2 k1 k2
    obtain ⟨u,rfl⟩:∃ u:Nat,pf=u:=⟨pf.toNat,by omega⟩
    obtain ⟨w,rfl⟩:∃ w:Nat,pk=w:=⟨pk.toNat,by omega⟩
    by_cases hyes:pt=(e:Int)∧w≤i
    ·obtain ⟨rfl,hwi⟩:=hyes
     rw[stP_yes (u:=u) (w:=w) rfl rfl hwi rfl] at hstq
     have hb1:=hbq i e
     have hb2:=hbq (i - w) u
     have hrw:=TRF_get (n:=n) (f:=F2) (show i<i+1 by omega)
     have hrw2:=TRF_get (n:=n) (f:=F2) (show i - w<i+1 by omega)
     have hrl:(IR (rowF n (F2 i))).length=n:=by rw[IR_len,rowF_len]
     have hrl2:(IR (rowF n (F2 (i - w)))).length=n:=by rw[IR_len,rowF_len]
     have hcell:(IR (rowF n (F2 i)))[e]? = some [DI (F2 i e)]:=IRF_get hen
     have hcell2:(IR (rowF n (F2 (i - w))))[u]? = some [DI (F2 (i - w) u)]:=IRF_get (by omega)
     have htF:(TR (tabF (i+1) n F2)).length=i+1:=by rw[TR_len,tabF_len]
     repeat' (first|((first|apply Ba|(apply Bb;(· rfl);(· rfl))|(apply Bc;(· exact nxE))|(apply Bd;(· rfl);(· rfl);(· exact nxE)));(· first|exact Ok.ldTj rfl rfl rfl hrw2 hrl2 (by omega)|exact Ok.ldTn rfl rfl rfl hrw hrl|exact Ok.ld1 rfl rfl (congrArg (Option.map (dobj 1)) hrw) hcell|exact Ok.ld1 rfl rfl (congrArg (Option.map (dobj 1)) hrw2) hcell2|exact Ok.st1 rfl rfl (congrArg (Option.map (dobj 1)) hrw) (by rw[hrl];exact hen) (by rw[hcell];rfl) rfl rfl IR_set|exact Ok.pe))|((first|apply Ca|(apply Cb;(· exact nxE)));(· first|exact Ok.st1 rfl rfl (congrArg (Option.map (dobj 1)) hrw) (by rw[hrl];exact hen) (by rw[hcell];rfl) rfl rfl IR_set|exact Ok.e0))|refine Sx ?_|(refine Sy (fun h=>?_) (fun h=>?_)<;>try (exfalso;omega;done))|refine Sz (fun h=>?_) (fun h=>?_))
     refine ⟨⟨q+1,by omega⟩,?_,by simp only;omega⟩
     (apply Le.headG [_] [mi1 ⟨1,[]⟩ (TR (tabF (i+1) n ((xs.take (q+1)).foldl (stP i e) F1)))] (fun _=>False))
     (case' hlen=>rfl)
     (case' hms=>rfl)
     all_goals (try dsimp only[srcs])
     (case' hfr|hob=>(repeat' (first|refine La ?_ ?_|exact Lc|refine Lo ?_|refine ⟨⟨_,rfl,?_⟩,?_⟩|refine Lx ?_)))
     (case' hok=>first|exact ⟨by rw[hstq];exact MI.ok_row (tabF_set (fun a b _ _=>rfl)) hrw (by simp) rfl (Cg),trivial⟩|exact trivial)
     (case' hN=>rfl)
     (case' hS=>rfl)
     all_goals (first|exact Ld|(rfl))
    ·rw[stP_no (by simp only;omega)] at hstq
     repeat' (first|((first|apply Ba|(apply Bb;(· rfl);(· rfl))|(apply Bc;(· exact nxE))|(apply Bd;(· rfl);(· rfl);(· exact nxE)));(· first|exact Ok.pe))|((first|apply Ca|(apply Cb;(· exact nxE)));(· first|exact Ok.e0))|refine Sx ?_|(refine Sy (fun h=>?_) (fun h=>?_)<;>try (exfalso;omega;done))|refine Sz (fun h=>?_) (fun h=>?_))
     all_goals
      refine ⟨⟨q+1,by omega⟩,?_,by simp only;omega⟩
      (apply Le.headG [_] [mi1 ⟨1,[]⟩ (TR (tabF (i+1) n ((xs.take (q+1)).foldl (stP i e) F1)))] (fun _=>False))
      (case' hlen=>rfl)
      (case' hms=>rfl)
      all_goals (try dsimp only[srcs])
      (case' hfr|hob=>(repeat' (first|refine La ?_ ?_|exact Lc|refine Lo ?_|refine ⟨⟨_,rfl,?_⟩,?_⟩|refine Lx ?_)))
      (case' hok=>first|exact ⟨by rw[hstq];exact MI.ok_same rfl (Cg),trivial⟩|exact trivial)
      (case' hN=>rfl)
      (case' hS=>rfl)
      all_goals (first|exact Ld|(rfl))
   ·obtain rfl:q=xs.length:=by omega
    rw[List.take_length,← hstJ]
    repeat' (first|((first|apply Ba|(apply Bb;(· rfl);(· rfl))|(apply Bc;(· exact nxE))|(apply Bd;(· rfl);(· rfl);(· exact nxE)));(· first|exact Ok.pe))|((first|apply Ca|(apply Cb;(· exact nxE)));(· first|exact Ok.e0))|refine Sx ?_|(refine Sy (fun h=>?_) (fun h=>?_)<;>try (exfalso;omega;done))|refine Sz (fun h=>?_) (fun h=>?_))
    refine ⟨⟨J+1,by omega⟩,?_,by simp only;omega⟩
    (apply Le.headG [_] [mi1 ⟨1,[]⟩ (TR (tabF (i+1) n ((ord.take (J+1)).foldl (stE xs i) F0)))] (fun _=>False))
    (case' hlen=>rfl)
    (case' hms=>rfl)
    all_goals (try dsimp only[srcs])
    (case' hfr|hob=>(repeat' (first|refine La ?_ ?_|exact Lc|refine Lo ?_|refine ⟨⟨_,rfl,?_⟩,?_⟩|refine Lx ?_)))
    (case' hok=>first|exact ⟨MI.ok_same rfl (Cg),trivial⟩|exact trivial)
    (case' hN=>rfl)
    (case' hS=>rfl)
    all_goals (first|exact Ld|(rfl))
  ·obtain rfl:J=n:=by omega
   rw[List.take_of_length_le (by omega),← hstT]
   repeat' (first|((first|apply Ba|(apply Bb;(· rfl);(· rfl))|(apply Bc;(· exact nxE))|(apply Bd;(· rfl);(· rfl);(· exact nxE)));(· first|exact Ok.pe))|((first|apply Ca|(apply Cb;(· exact nxE)));(· first|exact Ok.e0))|refine Sx ?_|(refine Sy (fun h=>?_) (fun h=>?_)<;>try (exfalso;omega;done))|refine Sz (fun h=>?_) (fun h=>?_))
   refine ⟨⟨i+1,by omega⟩,?_,by simp only;omega⟩
   (apply Le.headG [_] [mi1 ⟨1,[]⟩ (TR (tabF (i+1) J (stT xs ord s0 (i+1))))] (fun _=>False))
   (case' hlen=>rfl)
   (case' hms=>rfl)
   all_goals (try dsimp only[srcs])
   (case' hfr|hob=>(repeat' (first|refine La ?_ ?_|exact Lc|refine Lo ?_|refine ⟨⟨_,rfl,?_⟩,?_⟩|refine Lx ?_)))
   (case' hok=>first|exact ⟨MI.ok_same rfl (Cg),trivial⟩|exact trivial)
   (case' hN=>rfl)
   (case' hS=>rfl)
   all_goals (first|exact Ld|(rfl))
 ·obtain rfl:i=m:=by omega
  repeat' (first|((first|apply Ba|(apply Bb;(· rfl);(· rfl))|(apply Bc;(· exact nxE))|(apply Bd;(· rfl);(· rfl);(· exact nxE)));(· first|exact Ok.pe))|((first|apply Ca|(apply Cb;(· exact nxE)));(· first|exact Ok.e0))|refine Sx ?_|(refine Sy (fun h=>?_) (fun h=>?_)<;>try (exfalso;omega;done))|refine Sz (fun h=>?_) (fun h=>?_))
  refine Ya ?_
  (apply Le.headG [] [{ l:=⟨0,[]⟩,k:=1,R:=TR (tabF i n (stT xs ord s0 i)),src:=⟨1,[]⟩,base:=⟨1,[]⟩ }] (fun _=>False))
  (case' hlen=>rfl)
  (case' hms=>rfl)
  all_goals (try dsimp only[srcs])
  (case' hfr|hob=>(repeat' (first|refine La ?_ ?_|exact Lc|refine Lo ?_|refine ⟨⟨_,rfl,?_⟩,?_⟩|refine Lx ?_)))
  (case' hok=>first|exact ⟨MI.ok_same rfl (Cg),trivial⟩|exact trivial)
  (case' hN=>rfl)
  (case' hS=>rfl)
  all_goals (first|exact Ld|(rfl))
theorem checkFirings_ac [Mode] (n:Nat) (xs:List Pl) (m:Int) (hl:liveI n xs=0) (hx:xs.length≤1000) (hm:0≤m∧m≤50):AC Tryz.prog 55 [grD n xs,I m] H0 (I 0) H0:=by
 obtain ⟨v,e0,h1,h2,h3,h4,ord,hord⟩:=liveI_ok hl
 obtain rfl:v=n:=by omega
 have hG:=iIsEventGraph_ac v xs (by omega)
 have hI:=within_ac m 0 50
 rw[wi_iff.2 hm] at hI
 have hL:=isLive_ac v xs h2 (by omega) h4
 have hg:isEG v xs=true:=by
  unfold liveI at hl
  split at hl
  ·assumption
  ·simp at hl
 have hlb:liveB v xs=true:=by rw[liveB_ord h4,hord];rfl
 rw[hg] at hG
 rw[hlb] at hL
 refine AC.of_body 0 Tryz.func55 rfl (fun l h=>absurd rfl h) (fun C hC=>?_)
 have hD:∀ l,¬ C.D0 l:=fun l h=>(hC l).1 h rfl
 simp only[startFr,Tryz.ntmps55,List.length_cons,List.length_nil,Nat.reduceAdd,Nat.reduceSub,List.replicate_succ,List.replicate_zero,List.cons_append,List.nil_append]
 repeat' (first|((first|apply Ba|(apply Bb;(· rfl);(· rfl))|(apply Bc;(· exact nxE))|(apply Bd;(· rfl);(· rfl);(· exact nxE)));(· first|exact Kz rfl rfl (hG) (Aa (Ad (Ad An)) An)|exact Kz rfl rfl (hI) (Ad (Ad (Ad An)))|exact Kz rfl rfl (hL) (Aa (Ad (Ad An)) An)|exact Ok.pe))|((first|apply Ca|(apply Cb;(· exact nxE)));(· first|exact Ok.e0))|refine Sx ?_|(refine Sy (fun h=>?_) (fun h=>?_)<;>try (exfalso;omega;done))|refine Sz (fun h=>?_) (fun h=>?_))
 refine Ya ?_
 (apply Le.headZ (hs:=[]) [] rfl)
 all_goals (try dsimp only[srcs])
 (case' hfr=>(repeat' (first|refine La ?_ ?_|exact Lc|refine Lo ?_|refine ⟨⟨_,rfl,?_⟩,?_⟩|refine Lx ?_)))
 all_goals (first|exact Ld|exact trivial|(rfl))
theorem z_IR [Mode] {n:Nat}:IR (rowF n fun _=>0)=List.replicate n [DI 0]:=by unfold rowF;simp[List.map_const']
theorem iFiringTimes_ac [Mode] (n m:Nat) (xs:List Pl) (ord:List Nat) (hl:liveI n xs=0) (hord:ordR n xs=some ord) (hx:xs.length≤1000) (hm:m≤50):AC Tryz.prog 17 [grD n xs,I m] H0 (.tup [TL (tabF m n (stT xs ord (fun _=>0) m)),I 0]) H0:=by
 have hC:=checkFirings_ac n xs m hl hx (by omega)
 obtain ⟨v,e0,h1,h2,h3,h4,_,_⟩:=liveI_ok hl
 obtain rfl:v=n:=by omega
 have hT:=firingTimes_ac v m xs ord (fun _=>0) h2 hm h3 h4 hord (fun _=>by omega)
 rw[show IL (rowF v fun _=>0) = .d (.sl 1 (List.replicate v [DI 0])) by rw[← z_IR]] at hT
 have hvl:(List.replicate v [DI 0]).length=v:=by simp
 have hF:=hT
 clear hT
 refine AC.frzT2 (n:=m) (R:=TR (tabF m v (stT xs ord (fun _=>0) m))) ?_ (by rw[TR_len,tabF_len])
 have hCF:=hC
 clear hC
 refine AC.of_body 0 Tryz.func17 rfl (fun l h=>absurd rfl h) (fun C hC=>?_)
 have hD:∀ l,¬ C.D0 l:=fun l h=>(hC l).1 h rfl
 simp only[startFr,Tryz.ntmps17,List.length_cons,List.length_nil,Nat.reduceAdd,Nat.reduceSub,List.replicate_succ,List.replicate_zero,List.cons_append,List.nil_append]
 repeat' (first|((first|apply Ba|(apply Bb;(· rfl);(· rfl))|(apply Bc;(· exact nxE))|(apply Bd;(· rfl);(· rfl);(· exact nxE)));(· first|exact Kz rfl rfl (hCF) (Aa (Ad (Ad An)) (Ad An))|exact Ok.makeN (n:=v) rfl rfl rfl (by omega) (by omega)|exact Tb rfl rfl (hF) (Sa (Sd (Sd Sn)) (Sd (Sw (hn:=by assumption) Sn)))|exact Ok.pe))|((first|apply Ca|(apply Cb;(· exact nxE)));(· first|exact Ok.makeN (n:=v) rfl rfl rfl (by omega) (by omega)|exact Tb rfl rfl (hF) (Sa (Sd (Sd Sn)) (Sd (Sw (hn:=by assumption) Sn)))|exact Ok.e0))|refine Sx ?_|(refine Sy (fun h=>?_) (fun h=>?_)<;>try (exfalso;omega;done))|refine Sz (fun h=>?_) (fun h=>?_))
 refine Yb ?_
 (apply Le.headG [] [{ l:=⟨0,[]⟩,k:=1,R:=TR (tabF m v (stT xs ord (fun _=>0) m)),src:=⟨14,[0]⟩,base:=⟨14,[0]⟩ }] (fun _=>False))
 (case' hlen=>rfl)
 (case' hms=>rfl)
 all_goals (try dsimp only[srcs])
 (case' hfr|hob=>(repeat' (first|refine La ?_ ?_|exact Lc|refine Lo ?_|refine ⟨⟨_,rfl,?_⟩,?_⟩|refine Lx ?_)))
 (case' hok=>first|exact ⟨MI.ok_same rfl (Cg),trivial⟩|exact trivial)
 (case' hN=>rfl)
 (case' hS=>rfl)
 all_goals (first|exact Ld|(rfl))
end
end Go.Proofs.YtkpoclbnnpglfaaGreat
