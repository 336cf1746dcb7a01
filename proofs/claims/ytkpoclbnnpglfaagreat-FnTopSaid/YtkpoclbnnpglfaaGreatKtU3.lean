/-
  Walks in the abstract reading, part 3.
-/
import Derived.Test.YtkpoclbnnpglfaaGreatKtU1
import Derived.Test.YtkpoclbnnpglfaaGreatKtU2
import Derived.Test.YtkpoclbnnpglfaaGreatKtA2
set_option linter.unusedSimpArgs false
set_option linter.unusedVariables false
namespace Go.Proofs.YtkpoclbnnpglfaaGreat
section
open Go Go.RowKit
attribute [local irreducible] AL AD AW OpOk Le AC thenQ blockQ EndQ
set_option maxHeartbeats 1000000 in
theorem indexFuncPl_ac [Mode] (xs:List Pl) (hn:xs.length≤100000000) (g:FuncId) [FnBody Tryz.prog g] (caps:List AV) (hs:HL) (hself:∀ p∈hs,p.2.1=p.1) (hnd:(hs.map (·.1)).Nodup) (hok:HOk hs) (hcaps:∀ c∈caps,Locs (·∈hs.map (·.1)) c) (M:Nat) (hM:∀ p∈hs,p.1.id<M) (pred:Pl→Bool)
  (hg:∀ p∈xs,AC Tryz.prog g (p.av :: caps) (heapL hs) (Bo (pred p)) (heapL hs)):AC Tryz.prog 108 [.d (.sl 4 (xs.map Pl.row)),.clo (.func g) [] caps] (heapL hs) (I (idxOf pred xs 0)) (heapL hs):=by
 refine AC.of_body M Tryz.func108 rfl (fun l h=>by obtain ⟨p,hp,e⟩:=List.mem_map.1 (heapL_iff.1 h);rw[← e];exact hM p hp) (fun C hC=>?_)
 simp only[startFr,Tryz.ntmps108,List.length_cons,List.length_nil,Nat.reduceAdd,Nat.reduceSub,List.replicate_succ,List.replicate_zero,List.cons_append,List.nil_append]
 repeat' (first|refine AL.nil ?_|((first|apply AL.st|(apply AL.on;(· rfl);(· rfl))|(apply AD.st;(· exact nxE))|(apply AD.on;(· rfl);(· rfl);(· exact nxE)));(· first|exact Ok.pe);(· exact setE);(· first|exact updsE|exact rfl);(· exact nxE))|((first|apply AL.st0|(apply AD.st0;(· exact nxE)));(· first|exact Ok.e0);(· exact rfl);(· exact nxE))|((first|apply AL.off|apply AD.off);(· rfl);(· rfl);(· rfl);(· exact setE);(· exact nxE))|((first|refine AL.gsplit rfl rfl (fun h=>?_) (fun h=>?_)|refine AD.gsplit rfl rfl (fun h=>?_) (fun h=>?_))<;>try (exfalso;omega;done))|(first|refine AL.gsplitB rfl rfl (fun h=>?_) (fun h=>?_)|refine AD.gsplitB rfl rfl (fun h=>?_) (fun h=>?_))|refine AD.fin (by simp only[List.length_cons,List.length_nil,Nat.reduceAdd];rfl) rfl (by kernel_rfl) ?_|refine thenN ?_|refine AW.seq ?_|refine AW.reg ?_|refine AW.dr mixedA (by kernel_rfl) ?_|refine AW.block ?_|refine AW.condT rfl ?_|refine AW.condF rfl ?_|(refine AW.ite rfl (fun h=>?_) (fun h=>?_)<;>try (exfalso;omega;done))|refine AW.cond _ rfl (fun h=>?_) (fun h=>?_)|refine AW.ret ?_|refine AW.exit ?_|refine AW.skip ?_|refine thenR ?_|refine thenX ?_|refine blockN ?_|refine blockR ?_|refine blockX ?_|refine blockY (by decide) ?_)
 have hca:∀ H lent,ARs H lent id (·∈hs.map (·.1)) caps caps:=fun H lent=>⟨rfl,fun i c c' h1 h2=>by rw[h1] at h2;cases h2;exact (hcaps c (List.mem_of_getElem? h1)).ar⟩
 have hD:∀ l,C.D0 l→l.id<M:=fun l h=>by obtain ⟨p,hp,e⟩:=List.mem_map.1 (heapL_iff.1 ((hC l).1 h));rw[← e];exact hM p hp
 refine AW.loop (X:={k:Nat // k≤xs.length∧idxOf pred xs 0=idxOf pred (xs.drop k) k}) (fun k=>⟨[PL xs,.clo (.func g) [] caps,.dead,.dead,.dead,.dead,.dead,I xs.length,I (k.1:Nat),.dead,.dead,.dead,.dead,.dead,.dead,.dead,.dead,.dead,.dead],heapL hs,M⟩) (fun k=>xs.length - k.1) ⟨0,Nat.zero_le _,by simp⟩ ?_ (fun k=>?_)
 ·
  refine Le.keep hself hnd hok ?_ hM hD
  repeat' (first|exact trivial|exact ARs.nil|refine ARs.cons ?_ ?_|exact AR.dead _|exact AR.dd _|exact AR.i (by (try dsimp only);omega)|exact AR.ptr _ _ _ _ (by simp[heapL,upd])|exact AR.own _ _ _ _ (by simp[heapL,upd])|refine AR.ownE _ _ _ ?_ (by simp[heapL,upd])|refine ⟨⟨_,rfl,?_⟩,?_⟩|exact ObA.data|refine ObA.box ?_|refine ObA.frE ?_|refine ObA.dataE ?_|refine ARs.agg ?_|refine ARs.tup ?_|exact AR.clo' ARs.nil ARs.nil|exact AR.clo' ARs.nil (hca _ _))
 obtain ⟨k,hk,hall⟩:=k
 simp only
 by_cases hlt:k<xs.length
 ·obtain ⟨p,hp⟩:∃ p,xs[k]? = some p:=⟨xs[k],by simp⟩
  have hrow:(xs.map Pl.row)[((k:Nat):Int).toNat]? = some [DI p.f,DI p.t,DI p.d,DI p.k]:=row_get hp
  have hgp:=hg p (List.mem_of_getElem? hp)
  have hst:=idxOf_at (f:=pred) hp k
  rw[← hall] at hst
  repeat' (first|refine AL.nil ?_|((first|apply AL.st|(apply AL.on;(· rfl);(· rfl))|(apply AD.st;(· exact nxE))|(apply AD.on;(· rfl);(· rfl);(· exact nxE)));(· first|exact OpOk.callS hs rfl rfl hgp (fun p hp=>rfl) hok (.d _) (.cons (ARs.agg (.cons (.dd _) (.cons (.dd _) (.cons (.dd _) (.cons (.dd _) .nil))))) (hca _ _))|exact Ok.pe);(· exact setE);(· first|exact updsE|exact rfl);(· exact nxE))|((first|apply AL.st0|(apply AD.st0;(· exact nxE)));(· first|exact Ok.e0);(· exact rfl);(· exact nxE))|((first|apply AL.off|apply AD.off);(· rfl);(· rfl);(· rfl);(· exact setE);(· exact nxE))|((first|refine AL.gsplit rfl rfl (fun h=>?_) (fun h=>?_)|refine AD.gsplit rfl rfl (fun h=>?_) (fun h=>?_))<;>try (exfalso;omega;done))|(first|refine AL.gsplitB rfl rfl (fun h=>?_) (fun h=>?_)|refine AD.gsplitB rfl rfl (fun h=>?_) (fun h=>?_))|refine AD.fin (by simp only[List.length_cons,List.length_nil,Nat.reduceAdd];rfl) rfl (by kernel_rfl) ?_|refine thenN ?_|refine AW.seq ?_|refine AW.reg ?_|refine AW.dr mixedA (by kernel_rfl) ?_|refine AW.block ?_|refine AW.condT rfl ?_|refine AW.condF rfl ?_|(refine AW.ite rfl (fun h=>?_) (fun h=>?_)<;>try (exfalso;omega;done))|refine AW.cond _ rfl (fun h=>?_) (fun h=>?_)|refine AW.ret ?_|refine AW.exit ?_|refine AW.skip ?_|refine thenR ?_|refine thenX ?_|refine blockN ?_|refine blockR ?_|refine blockX ?_|refine blockY (by decide) ?_)
  ·
   (refine end1p (by first|exact .inl rfl|exact .inr rfl) rfl (by first|exact rT rfl|exact rCA rfl rfl rfl rfl (by simp)|exact rCC rfl rfl rfl rfl rfl) ?_ (Le.keep hself hnd hok ?_ hM hD);(· rw[hst,if_pos h]))<;>(repeat' (first|exact trivial|exact ARs.nil|refine ARs.cons ?_ ?_|exact AR.dead _|exact AR.dd _|exact AR.i (by (try dsimp only);omega)|exact AR.ptr _ _ _ _ (by simp[heapL,upd])|exact AR.own _ _ _ _ (by simp[heapL,upd])|refine AR.ownE _ _ _ ?_ (by simp[heapL,upd])|refine ⟨⟨_,rfl,?_⟩,?_⟩|exact ObA.data|refine ObA.box ?_|refine ObA.frE ?_|refine ObA.dataE ?_|refine ARs.agg ?_|refine ARs.tup ?_|exact AR.clo' ARs.nil ARs.nil|exact AR.clo' ARs.nil (hca _ _)))
  ·refine ⟨⟨k+1,by omega,by rw[hst,if_neg (by simp[h])]⟩,?_,by simp only;omega⟩
   refine Le.keep hself hnd hok ?_ hM hD
   repeat' (first|exact trivial|exact ARs.nil|refine ARs.cons ?_ ?_|exact AR.dead _|exact AR.dd _|exact AR.i (by (try dsimp only);omega)|exact AR.ptr _ _ _ _ (by simp[heapL,upd])|exact AR.own _ _ _ _ (by simp[heapL,upd])|refine AR.ownE _ _ _ ?_ (by simp[heapL,upd])|refine ⟨⟨_,rfl,?_⟩,?_⟩|exact ObA.data|refine ObA.box ?_|refine ObA.frE ?_|refine ObA.dataE ?_|refine ARs.agg ?_|refine ARs.tup ?_|exact AR.clo' ARs.nil ARs.nil|exact AR.clo' ARs.nil (hca _ _))
 ·
  repeat' (first|refine AL.nil ?_|((first|apply AL.st|(apply AL.on;(· rfl);(· rfl))|(apply AD.st;(· exact nxE))|(apply AD.on;(· rfl);(· rfl);(· exact nxE)));(· first|exact Ok.pe);(· exact setE);(· first|exact updsE|exact rfl);(· exact nxE))|((first|apply AL.st0|(apply AD.st0;(· exact nxE)));(· first|exact Ok.e0);(· exact rfl);(· exact nxE))|((first|apply AL.off|apply AD.off);(· rfl);(· rfl);(· rfl);(· exact setE);(· exact nxE))|((first|refine AL.gsplit rfl rfl (fun h=>?_) (fun h=>?_)|refine AD.gsplit rfl rfl (fun h=>?_) (fun h=>?_))<;>try (exfalso;omega;done))|(first|refine AL.gsplitB rfl rfl (fun h=>?_) (fun h=>?_)|refine AD.gsplitB rfl rfl (fun h=>?_) (fun h=>?_))|refine AD.fin (by simp only[List.length_cons,List.length_nil,Nat.reduceAdd];rfl) rfl (by kernel_rfl) ?_|refine thenN ?_|refine AW.seq ?_|refine AW.reg ?_|refine AW.dr mixedA (by kernel_rfl) ?_|refine AW.block ?_|refine AW.condT rfl ?_|refine AW.condF rfl ?_|(refine AW.ite rfl (fun h=>?_) (fun h=>?_)<;>try (exfalso;omega;done))|refine AW.cond _ rfl (fun h=>?_) (fun h=>?_)|refine AW.ret ?_|refine AW.exit ?_|refine AW.skip ?_|refine thenR ?_|refine thenX ?_|refine blockN ?_|refine blockR ?_|refine blockX ?_|refine blockY (by decide) ?_)
  all_goals
   (refine end1p (by first|exact .inl rfl|exact .inr rfl) rfl (by first|exact rT rfl|exact rCA rfl rfl rfl rfl (by simp)|exact rCC rfl rfl rfl rfl rfl) ?_ (Le.keep hself hnd hok ?_ hM hD);(· rw[hall,List.drop_of_length_le (by omega)];rfl))<;>(repeat' (first|exact trivial|exact ARs.nil|refine ARs.cons ?_ ?_|exact AR.dead _|exact AR.dd _|exact AR.i (by (try dsimp only);omega)|exact AR.ptr _ _ _ _ (by simp[heapL,upd])|exact AR.own _ _ _ _ (by simp[heapL,upd])|refine AR.ownE _ _ _ ?_ (by simp[heapL,upd])|refine ⟨⟨_,rfl,?_⟩,?_⟩|exact ObA.data|refine ObA.box ?_|refine ObA.frE ?_|refine ObA.dataE ?_|refine ARs.agg ?_|refine ARs.tup ?_|exact AR.clo' ARs.nil ARs.nil|exact AR.clo' ARs.nil (hca _ _)))
set_option maxHeartbeats 1000000 in
theorem containsFuncPl_ac [Mode] (xs:List Pl) (hn:xs.length≤100000000) (g:FuncId) [FnBody Tryz.prog g] (caps:List AV) (hs:HL) (hself:∀ p∈hs,p.2.1=p.1) (hnd:(hs.map (·.1)).Nodup) (hok:HOk hs) (hcaps:∀ c∈caps,Locs (·∈hs.map (·.1)) c) (M:Nat) (hM:∀ p∈hs,p.1.id<M) (pred:Pl→Bool)
  (hg:∀ p∈xs,AC Tryz.prog g (p.av :: caps) (heapL hs) (Bo (pred p)) (heapL hs)):AC Tryz.prog 52 [PL xs,.clo (.func g) [] caps] (heapL hs) (Bo (xs.any pred)) (heapL hs):=by
 refine AC.of_body M Tryz.func52 rfl (fun l h=>by obtain ⟨p,hp,e⟩:=List.mem_map.1 (heapL_iff.1 h);rw[← e];exact hM p hp) (fun C hC=>?_)
 simp only[startFr,Tryz.ntmps52,List.length_cons,List.length_nil,Nat.reduceAdd,Nat.reduceSub,List.replicate_succ,List.replicate_zero,List.cons_append,List.nil_append]
 have hca:∀ H lent,ARs H lent id (·∈hs.map (·.1)) caps caps:=fun H lent=>⟨rfl,fun i c c' h1 h2=>by rw[h1] at h2;cases h2;exact (hcaps c (List.mem_of_getElem? h1)).ar⟩
 have hD:∀ l,C.D0 l→l.id<M:=fun l h=>by obtain ⟨p,hp,e⟩:=List.mem_map.1 (heapL_iff.1 ((hC l).1 h));rw[← e];exact hM p hp
 have hc:=indexFuncPl_ac xs hn g caps hs hself hnd hok hcaps M hM pred hg
 repeat' (first|refine AL.nil ?_|((first|apply AL.st|(apply AL.on;(· rfl);(· rfl))|(apply AD.st;(· exact nxE))|(apply AD.on;(· rfl);(· rfl);(· exact nxE)));(· first|exact OpOk.callS hs rfl rfl hc (fun p hp=>rfl) hok (.d _) (.cons (.dd _) (.cons (AR.clo' .nil (hca _ _)) .nil))|exact Ok.pe);(· exact setE);(· first|exact updsE|exact rfl);(· exact nxE))|((first|apply AL.st0|(apply AD.st0;(· exact nxE)));(· first|exact Ok.e0);(· exact rfl);(· exact nxE))|((first|apply AL.off|apply AD.off);(· rfl);(· rfl);(· rfl);(· exact setE);(· exact nxE))|((first|refine AL.gsplit rfl rfl (fun h=>?_) (fun h=>?_)|refine AD.gsplit rfl rfl (fun h=>?_) (fun h=>?_))<;>try (exfalso;omega;done))|(first|refine AL.gsplitB rfl rfl (fun h=>?_) (fun h=>?_)|refine AD.gsplitB rfl rfl (fun h=>?_) (fun h=>?_))|refine AD.fin (by simp only[List.length_cons,List.length_nil,Nat.reduceAdd];rfl) rfl (by kernel_rfl) ?_|refine thenN ?_|refine AW.seq ?_|refine AW.reg ?_|refine AW.dr mixedA (by kernel_rfl) ?_|refine AW.block ?_|refine AW.condT rfl ?_|refine AW.condF rfl ?_|(refine AW.ite rfl (fun h=>?_) (fun h=>?_)<;>try (exfalso;omega;done))|refine AW.cond _ rfl (fun h=>?_) (fun h=>?_)|refine AW.ret ?_|refine AW.exit ?_|refine AW.skip ?_|refine thenR ?_|refine thenX ?_|refine blockN ?_|refine blockR ?_|refine blockX ?_|refine blockY (by decide) ?_)
 (refine end1p (by first|exact .inl rfl|exact .inr rfl) rfl (by first|exact rT rfl|exact rCA rfl rfl rfl rfl (by simp)|exact rCC rfl rfl rfl rfl rfl) ?_ (Le.keep hself hnd hok ?_ hM hD);(· rw[idxOf_any]))<;>(repeat' (first|exact trivial|exact ARs.nil|refine ARs.cons ?_ ?_|exact AR.dead _|exact AR.dd _|exact AR.i (by (try dsimp only);omega)|exact AR.ptr _ _ _ _ (by simp[heapL,upd])|exact AR.own _ _ _ _ (by simp[heapL,upd])|refine AR.ownE _ _ _ ?_ (by simp[heapL,upd])|refine ⟨⟨_,rfl,?_⟩,?_⟩|exact ObA.data|refine ObA.box ?_|refine ObA.frE ?_|refine ObA.dataE ?_|refine ARs.agg ?_|refine ARs.tup ?_|exact AR.clo' ARs.nil ARs.nil|exact AR.clo' ARs.nil (hca _ _)))
theorem isEGfn_ac [Mode] (ev:Int) (xs:List Pl) (p:Pl):AC Tryz.prog 79 [p.av,Bx 2 0] (heapL [(⟨0,[]⟩,⟨0,[]⟩,⟨2,[[I ev,PL xs]]⟩)]) (Bo (!plB (IntKind.i64.wrap (ev - 1)) p)) (heapL [(⟨0,[]⟩,⟨0,[]⟩,⟨2,[[I ev,PL xs]]⟩)]):=by
 refine AC.of_body 1 Tryz.func79 rfl (fun l h=>by simp[heapL,upd] at h;simp[h]) (fun C hC=>?_)
 simp only[startFr,Tryz.ntmps79,List.length_cons,List.length_nil,Nat.reduceAdd,Nat.reduceSub,List.replicate_succ,List.replicate_zero,List.cons_append,List.nil_append]
 have hD:∀ l,C.D0 l→l=⟨0,[]⟩:=fun l h=>by have:=(hC l).1 h;simp[heapL,upd] at this;exact this
 repeat' (first|refine AL.nil ?_|((first|apply AL.st|(apply AL.on;(· rfl);(· rfl))|(apply AD.st;(· exact nxE))|(apply AD.on;(· rfl);(· rfl);(· exact nxE)));(· first|exact OpOk.call0 [] rfl rfl (isPlace_ac _ _ ⟨_,_,_,_⟩) (.inl rfl) (fun _=>by simp[rn]) (ARs.cons (ARs.agg (ARs.cons (AR.dd _) (ARs.cons (AR.dd _) ARs.nil))) (ARs.cons (ARs.agg (ARs.cons (AR.dd _) (ARs.cons (AR.dd _) (ARs.cons (AR.dd _) (ARs.cons (AR.dd _) ARs.nil))))) ARs.nil))|exact Ok.pe);(· exact setE);(· first|exact updsE|exact rfl);(· exact nxE))|((first|apply AL.st0|(apply AD.st0;(· exact nxE)));(· first|exact Ok.e0);(· exact rfl);(· exact nxE))|((first|apply AL.off|apply AD.off);(· rfl);(· rfl);(· rfl);(· exact setE);(· exact nxE))|((first|refine AL.gsplit rfl rfl (fun h=>?_) (fun h=>?_)|refine AD.gsplit rfl rfl (fun h=>?_) (fun h=>?_))<;>try (exfalso;omega;done))|(first|refine AL.gsplitB rfl rfl (fun h=>?_) (fun h=>?_)|refine AD.gsplitB rfl rfl (fun h=>?_) (fun h=>?_))|refine AD.fin (by simp only[List.length_cons,List.length_nil,Nat.reduceAdd];rfl) rfl (by kernel_rfl) ?_|refine thenN ?_|refine AW.seq ?_|refine AW.reg ?_|refine AW.dr mixedA (by kernel_rfl) ?_|refine AW.block ?_|refine AW.condT rfl ?_|refine AW.condF rfl ?_|(refine AW.ite rfl (fun h=>?_) (fun h=>?_)<;>try (exfalso;omega;done))|refine AW.cond _ rfl (fun h=>?_) (fun h=>?_)|refine AW.ret ?_|refine AW.exit ?_|refine AW.skip ?_|refine thenR ?_|refine thenX ?_|refine blockN ?_|refine blockR ?_|refine blockX ?_|refine blockY (by decide) ?_)
 (refine end1p (by first|exact .inl rfl|exact .inr rfl) rfl (by first|exact rT rfl|exact rCA rfl rfl rfl rfl (by simp)|exact rCC rfl rfl rfl rfl rfl) ?_ (Le.head ([(⟨0,[]⟩,⟨0,[]⟩,⟨2,[[I ev,PL xs]]⟩)]) (by first|exact fun l h=>absurd h (hD l)|(intro l h;rcases hD l h with rfl;simp[tauL])|(intro l h;rcases hD l h with rfl|rfl<;>simp[tauL];done)|(intro l h;rcases hD l h with rfl|rfl|rfl<;>simp[tauL])) ?_ ?_ (by simp) (by simp) (by simp[AllP]) (n':=1000));(· rfl))<;>(repeat' (first|exact trivial|exact ARs.nil|refine ARs.cons ?_ ?_|exact AR.dead _|exact AR.dd _|exact AR.i (by (try dsimp only);omega)|exact AR.ptr _ _ _ _ (by simp[heapL,upd])|exact AR.own _ _ _ _ (by simp[heapL,upd])|refine AR.ownE _ _ _ ?_ (by simp[heapL,upd])|refine ⟨⟨_,rfl,?_⟩,?_⟩|exact ObA.data|refine ObA.box ?_|refine ObA.frE ?_|refine ObA.dataE ?_|refine ARs.agg ?_|refine ARs.tup ?_|exact AR.clo' ARs.nil ARs.nil|exact AR.clo' ARs.nil (hca _ _)))
theorem isEG_any [Mode] (ev:Int) (xs:List Pl) (h:wi ev 1 10=true) (h30:(xs.length:Int)≤30):(!xs.any fun p=>!plB (IntKind.i64.wrap (ev - 1)) p)=isEG ev xs:=by
 rw[← isEG_wrap,h,decide_eq_true (by omega:xs.length≤30),Bool.true_and,Bool.true_and,List.all_eq_not_any_not]
theorem isEG_no [Mode] (ev:Int) (xs:List Pl) (h:wi ev 1 10=false∨¬(xs.length:Int)≤30):false=isEG ev xs:=by
 rw[← isEG_wrap]
 rcases h with h|h
 ·rw[h];rfl
 ·rw[decide_eq_false (by omega:¬ xs.length≤30),Bool.false_and,Bool.and_false]
set_option maxHeartbeats 1000000 in
theorem iIsEventGraph_ac [Mode] (ev:Int) (xs:List Pl) (hn:xs.length≤100000000):AC Tryz.prog 32 [grD ev xs] H0 (Bo (isEG ev xs)) H0:=by
 refine AC.of_body 0 Tryz.func32 rfl (fun l h=>absurd rfl h) (fun C hC=>?_)
 have hD:∀ l,¬ C.D0 l:=fun l h=>(hC l).1 h rfl
 simp only[startFr,Tryz.ntmps32,List.length_cons,List.length_nil,Nat.reduceAdd,Nat.reduceSub,List.replicate_succ,List.replicate_zero,List.cons_append,List.nil_append]
 have hc:=containsFuncPl_ac xs hn 79 [Bx 2 0] [(⟨0,[]⟩,⟨0,[]⟩,⟨2,[[I ev,PL xs]]⟩)] (by simp) (by simp) (by intro p hp r hr c hc;simp at hp;subst hp;simp at hr;subst hr;simp at hc;rcases hc with rfl|rfl<;>exact .d _)
  (by intro c hc;simp at hc;subst hc;exact .ptr _ _ _ _ (by simp)) 1 (by simp) (fun p=>!plB (IntKind.i64.wrap (ev - 1)) p) (fun p _=>isEGfn_ac ev xs p)
 repeat' (first|refine AL.nil ?_|((first|apply AL.st|(apply AL.on;(· rfl);(· rfl))|(apply AD.st;(· exact nxE))|(apply AD.on;(· rfl);(· rfl);(· exact nxE)));(· first|exact OpOk.call0 [] rfl rfl (within_ac _ _ _) (.inl rfl) (fun _=>by simp[rn]) (ARs.cons (AR.dd _) (ARs.cons (AR.dd _) (ARs.cons (AR.dd _) ARs.nil)))|exact OpOk.callS _ rfl rfl hc (by simp[heapL,upd,upds,W.app]) (by intro p hp r hr c hc;simp at hp;subst hp;simp at hr;subst hr;simp at hc;rcases hc with rfl|rfl<;>exact .d _) (.d _) (.cons (.dd _) (.cons (AR.clo' .nil (.cons (AR.ptr _ _ _ _ (by simp)) .nil)) .nil))|exact Ok.pe);(· exact setE);(· first|exact updsE|exact rfl);(· exact nxE))|((first|apply AL.st0|(apply AD.st0;(· exact nxE)));(· first|exact Ok.e0);(· exact rfl);(· exact nxE))|((first|apply AL.off|apply AD.off);(· rfl);(· rfl);(· rfl);(· exact setE);(· exact nxE))|((first|refine AL.gsplit rfl rfl (fun h=>?_) (fun h=>?_)|refine AD.gsplit rfl rfl (fun h=>?_) (fun h=>?_))<;>try (exfalso;omega;done))|(first|refine AL.gsplitB rfl rfl (fun h=>?_) (fun h=>?_)|refine AD.gsplitB rfl rfl (fun h=>?_) (fun h=>?_))|refine AD.fin (by simp only[List.length_cons,List.length_nil,Nat.reduceAdd];rfl) rfl (by kernel_rfl) ?_|refine thenN ?_|refine AW.seq ?_|refine AW.reg ?_|refine AW.dr mixedA (by kernel_rfl) ?_|refine AW.block ?_|refine AW.condT rfl ?_|refine AW.condF rfl ?_|(refine AW.ite rfl (fun h=>?_) (fun h=>?_)<;>try (exfalso;omega;done))|refine AW.cond _ rfl (fun h=>?_) (fun h=>?_)|refine AW.ret ?_|refine AW.exit ?_|refine AW.skip ?_|refine thenR ?_|refine thenX ?_|refine blockN ?_|refine blockR ?_|refine blockX ?_|refine blockY (by decide) ?_)
 all_goals
  (refine end1p (by first|exact .inl rfl|exact .inr rfl) rfl (by first|exact rT rfl|exact rCA rfl rfl rfl rfl (by simp)|exact rCC rfl rfl rfl rfl rfl) ?_ (Le.head ([]) (by first|exact fun l h=>absurd h (hD l)|(intro l h;rcases hD l h with rfl;simp[tauL])|(intro l h;rcases hD l h with rfl|rfl<;>simp[tauL];done)|(intro l h;rcases hD l h with rfl|rfl|rfl<;>simp[tauL])) ?_ ?_ (by simp) (by simp) (by simp[AllP]) (n':=1000));(· first|exact congrArg Bo (isEG_any _ _ ‹_› ‹_›)|exact congrArg Bo (isEG_no _ _ (.inl ‹_›))|exact congrArg Bo (isEG_no _ _ (.inr ‹_›))))<;>(repeat' (first|exact trivial|exact ARs.nil|refine ARs.cons ?_ ?_|exact AR.dead _|exact AR.dd _|exact AR.i (by (try dsimp only);omega)|exact AR.ptr _ _ _ _ (by simp[heapL,upd])|exact AR.own _ _ _ _ (by simp[heapL,upd])|refine AR.ownE _ _ _ ?_ (by simp[heapL,upd])|refine ⟨⟨_,rfl,?_⟩,?_⟩|exact ObA.data|refine ObA.box ?_|refine ObA.frE ?_|refine ObA.dataE ?_|refine ARs.agg ?_|refine ARs.tup ?_|exact AR.clo' ARs.nil ARs.nil|exact AR.clo' ARs.nil (hca _ _)))
end
section
open Go Go.RowKit
attribute [local irreducible] AL AD AW OpOk Le AC thenQ blockQ EndQ
theorem indexInt_ac [Mode] (xs:List Int) (y:Int) (hn:xs.length≤100000000):AC Tryz.prog 121 [IL xs,I y] H0 (I (idxOf (fun x=>decide (x=y)) xs 0)) H0:=by
 refine AC.of_body 0 Tryz.func121 rfl (fun l h=>absurd rfl h) (fun C hC=>?_)
 have hD:∀ l,¬ C.D0 l:=fun l h=>(hC l).1 h rfl
 simp only[startFr,Tryz.ntmps121,List.length_cons,List.length_nil,Nat.reduceAdd,Nat.reduceSub,List.replicate_succ,List.replicate_zero,List.cons_append,List.nil_append]
 repeat' (first|((first|apply Ba|(apply Bb;(· rfl);(· rfl))|(apply Bc;(· exact nxE))|(apply Bd;(· rfl);(· rfl);(· exact nxE)));(· first|exact Ok.pe))|((first|apply Ca|(apply Cb;(· exact nxE)));(· first|exact Ok.e0))|refine Sx ?_|(refine Sy (fun h=>?_) (fun h=>?_)<;>try (exfalso;omega;done))|refine Sz (fun h=>?_) (fun h=>?_))
 refine AW.loop (X:={k:Nat // k≤xs.length∧idxOf (fun x=>decide (x=y)) xs 0=idxOf (fun x=>decide (x=y)) (xs.drop k) k}) (fun k=>⟨[IL xs,I y,Oo,Oo,Oo,Oo,Oo,I xs.length,I (k.1:Nat),Oo,Oo,Oo,Oo,Oo,Oo,Oo,Oo,Oo,Oo],heapL [],900⟩) (fun k=>xs.length - k.1) ⟨0,Nat.zero_le _,by simp⟩ ?_ (fun k=>?_)
 ·
  (apply Le.headZ [] rfl)
  all_goals (try dsimp only[srcs])
  (case' hfr|hob=>(repeat' (first|refine La ?_ ?_|exact Lc|refine Lo ?_|refine ⟨⟨_,rfl,?_⟩,?_⟩|refine Lx ?_)))
  all_goals (first|(rfl)|exact Ld)
 obtain ⟨k,hk,hall⟩:=k
 simp only
 by_cases hlt:k<xs.length
 ·obtain ⟨x,hx⟩:∃ x,xs[k]? = some x:=⟨xs[k],by simp⟩
  have hrow:=IR_get hx
  have hst:=idxOf_at (f:=fun x=>decide (x=y)) hx k
  rw[← hall] at hst
  repeat' (first|((first|apply Ba|(apply Bb;(· rfl);(· rfl))|(apply Bc;(· exact nxE))|(apply Bd;(· rfl);(· rfl);(· exact nxE)));(· first|exact Ok.pe))|((first|apply Ca|(apply Cb;(· exact nxE)));(· first|exact Ok.e0))|refine Sx ?_|(refine Sy (fun h=>?_) (fun h=>?_)<;>try (exfalso;omega;done))|refine Sz (fun h=>?_) (fun h=>?_))
  ·
   refine Ya ?_
   (apply Le.headZ (hs:=[]) [] rfl)
   all_goals (try dsimp only[srcs])
   (case' hfr=>(repeat' (first|refine La ?_ ?_|exact Lc|refine Lo ?_|refine ⟨⟨_,rfl,?_⟩,?_⟩|refine Lx ?_)))
   all_goals (first|exact Ld|exact trivial|((rw[hst,if_pos (by simpa using h.symm)];done)))
  ·refine ⟨⟨k+1,by omega,by rw[hst,if_neg (by simpa using fun e=>h e.symm)]⟩,?_,by simp only;omega⟩
   (apply Le.headZ [] rfl)
   all_goals (try dsimp only[srcs])
   (case' hfr|hob=>(repeat' (first|refine La ?_ ?_|exact Lc|refine Lo ?_|refine ⟨⟨_,rfl,?_⟩,?_⟩|refine Lx ?_)))
   all_goals (first|(rfl)|exact Ld)
 ·
  repeat' (first|((first|apply Ba|(apply Bb;(· rfl);(· rfl))|(apply Bc;(· exact nxE))|(apply Bd;(· rfl);(· rfl);(· exact nxE)));(· first|exact Ok.pe))|((first|apply Ca|(apply Cb;(· exact nxE)));(· first|exact Ok.e0))|refine Sx ?_|(refine Sy (fun h=>?_) (fun h=>?_)<;>try (exfalso;omega;done))|refine Sz (fun h=>?_) (fun h=>?_))
  refine Ya ?_
  (apply Le.headZ (hs:=[]) [] rfl)
  all_goals (try dsimp only[srcs])
  (case' hfr=>(repeat' (first|refine La ?_ ?_|exact Lc|refine Lo ?_|refine ⟨⟨_,rfl,?_⟩,?_⟩|refine Lx ?_)))
  all_goals (first|exact Ld|exact trivial|((rw[hall,List.drop_of_length_le (by omega)];rfl)))
theorem containsInt_ac [Mode] (xs:List Int) (y:Int) (hn:xs.length≤100000000):AC Tryz.prog 65 [IL xs,I y] H0 (Bo (xs.any fun x=>decide (x=y))) H0:=by
 refine AC.of_body 0 Tryz.func65 rfl (fun l h=>absurd rfl h) (fun C hC=>?_)
 have hD:∀ l,¬ C.D0 l:=fun l h=>(hC l).1 h rfl
 simp only[startFr,Tryz.ntmps65,List.length_cons,List.length_nil,Nat.reduceAdd,Nat.reduceSub,List.replicate_succ,List.replicate_zero,List.cons_append,List.nil_append]
 repeat' (first|((first|apply Ba|(apply Bb;(· rfl);(· rfl))|(apply Bc;(· exact nxE))|(apply Bd;(· rfl);(· rfl);(· exact nxE)));(· first|exact Kz rfl rfl (indexInt_ac xs y hn) (Ad (Ad An))|exact Ok.pe))|((first|apply Ca|(apply Cb;(· exact nxE)));(· first|exact Ok.e0))|refine Sx ?_|(refine Sy (fun h=>?_) (fun h=>?_)<;>try (exfalso;omega;done))|refine Sz (fun h=>?_) (fun h=>?_))
 all_goals
  refine Ya ?_
  (apply Le.headZ (hs:=[]) [] rfl)
  all_goals (try dsimp only[srcs])
  (case' hfr=>(repeat' (first|refine La ?_ ?_|exact Lc|refine Lo ?_|refine ⟨⟨_,rfl,?_⟩,?_⟩|refine Lx ?_)))
  all_goals (first|exact Ld|exact trivial|((rw[idxOf_any];done)))
def waitP (ord:List Nat) (e:Nat) (p:Pl):Bool:=decide (p.t=e)&&(decide (p.k=0)&&!(ord.contains p.f.toNat))
theorem cN_any [Mode] {ord:List Nat}{f:Nat}:(cN ord).any (fun x=>decide (x=(f:Int)))=ord.contains f:=by
 rw[any_cN];simp
abbrev hsF (e:Nat) (ord:List Nat):HL:=[(⟨1,[]⟩,⟨1,[]⟩,⟨1,[[.own 1 ⟨2,[]⟩ 0 ord.length]]⟩),(⟨2,[]⟩,⟨2,[]⟩,IO (cN ord)),(⟨3,[]⟩,⟨3,[]⟩,⟨1,[[I e]]⟩)]
theorem hsF_ok [Mode] {e:Nat}{ord:List Nat}:HOk (hsF e ord):=by
 intro p hp r hr c hc
 simp only[List.mem_cons,List.not_mem_nil,or_false] at hp
 rcases hp with rfl|rfl|rfl
 ·simp at hr;subst hr;simp at hc;subst hc;exact .own _ _ _ _ (by simp)
 ·obtain ⟨a,_,rfl⟩:=List.mem_map.1 hr
  obtain ⟨d,_,rfl⟩:=List.mem_map.1 hc
  exact .d _
 ·simp at hr;subst hr;simp at hc;subst hc;exact .d _
set_option maxHeartbeats 1000000 in
theorem firingFn_ac [Mode] (n:Nat) (p:Pl) (e:Nat) (ord:List Nat) (hv:okPl n p) (ho:ord.length≤1000000):AC Tryz.prog 149 [p.av,Bx 1 3,Bx 1 1] (heapL (hsF e ord)) (Bo (waitP ord e p)) (heapL (hsF e ord)):=by
 obtain ⟨⟨h1,h2⟩,_⟩:=hv
 obtain ⟨pf,pt,pd,pk⟩:=p
 obtain ⟨f,rfl⟩:∃ f:Nat,pf=f:=⟨pf.toNat,by simp at h1;omega⟩
 have hC1:=containsInt_ac (cN ord) f (by simp;omega)
 rw[cN_any] at hC1
 have hlen:(IR (cN ord)).length=ord.length:=by simp
 refine AC.of_body 4 Tryz.func149 rfl (fun l h=>by simp[heapL,upd] at h;(repeat' split at h)<;>simp_all) (fun C hC=>?_)
 simp only[startFr,Tryz.ntmps149,List.length_cons,List.length_nil,Nat.reduceAdd,Nat.reduceSub,List.replicate_succ,List.replicate_zero,List.cons_append,List.nil_append]
 have hD:∀ l,C.D0 l→l=⟨1,[]⟩∨l=⟨2,[]⟩∨l=⟨3,[]⟩:=fun l h=>by have:=(hC l).1 h;simp[heapL,upd] at this;(repeat' split at this)<;>simp_all
 repeat' (first|((first|apply Ba|(apply Bb;(· rfl);(· rfl))|(apply Bc;(· exact nxE))|(apply Bd;(· rfl);(· rfl);(· exact nxE)));(· first|exact Ez rfl rfl (hC1) (Sw (Sd Sn))|exact Ok.pe))|((first|apply Ca|(apply Cb;(· exact nxE)));(· first|exact Ok.e0))|refine Sx ?_|(refine Sy (fun h=>?_) (fun h=>?_)<;>try (exfalso;omega;done))|refine Sz (fun h=>?_) (fun h=>?_))
 all_goals
  (refine end1p (by first|exact .inl rfl|exact .inr rfl) rfl (by first|exact rT rfl|exact rCA rfl rfl rfl rfl (by simp)|exact rCC rfl rfl rfl rfl rfl) ?_ (Le.head ([(⟨1,[]⟩,⟨1,[]⟩,⟨1,[[.own 1 ⟨2,[]⟩ 0 ord.length]]⟩),(⟨2,[]⟩,⟨2,[]⟩,IO (cN ord)),(⟨3,[]⟩,⟨3,[]⟩,⟨1,[[I e]]⟩)]) (by first|exact fun l h=>absurd h (hD l)|(intro l h;rcases hD l h with rfl;simp[tauL])|(intro l h;rcases hD l h with rfl|rfl<;>simp[tauL];done)|(intro l h;rcases hD l h with rfl|rfl|rfl<;>simp[tauL])) ?_ ?_ (by simp) (by simp) (by simp[AllP]) (n':=1000));(· (simp_all [waitP];done)))<;>(repeat' (first|exact trivial|exact ARs.nil|refine ARs.cons ?_ ?_|exact AR.dead _|exact AR.dd _|exact AR.i (by (try dsimp only);omega)|exact AR.ptr _ _ _ _ (by simp[heapL,upd])|exact AR.own _ _ _ _ (by simp[heapL,upd])|refine AR.ownE _ _ _ ?_ (by simp[heapL,upd])|refine ⟨⟨_,rfl,?_⟩,?_⟩|exact ObA.data|refine ObA.box ?_|refine ObA.frE ?_|refine ObA.dataE ?_|refine ARs.agg ?_|refine ARs.tup ?_|exact AR.clo' ARs.nil ARs.nil|exact AR.clo' ARs.nil (hca _ _)))
def wPl (xs:List Pl) (e u:Nat):Bool:=xs.any fun p=>decide (p.t=e)&&(decide (p.k=0)&&decide (p.f=u))
def readyB (xs:List Pl) (ord:List Nat) (e:Nat):Bool:=!ord.contains e&&!(xs.any (waitP ord e))
theorem ready_eq [Mode] {n:Nat}{xs:List Pl} (hv:∀ p∈xs,okPl n p) {ord:List Nat}{e:Nat}:(!ord.contains e&&(List.range n).all fun u=>!wPl xs e u || ord.contains u)=readyB xs ord e:=by
 unfold readyB
 congr 1
 rw[Bool.eq_iff_iff]
 simp only[List.all_eq_true,List.mem_range,Bool.or_eq_true,Bool.not_eq_true',wPl,List.any_eq_false,Bool.and_eq_true,decide_eq_true_eq,not_and,waitP,Bool.not_eq_false,Bool.not_eq_true]
 constructor
 ·intro h p hp ht hk
  obtain ⟨⟨h1,h2⟩,_⟩:=hv p hp
  rcases h p.f.toNat (by omega) with h|h
  ·exact absurd (show p.f=(p.f.toNat:Int) by omega) (h p hp ht hk)
  ·exact h
 ·intro h u hu
  by_cases hc:ord.contains u=true
  ·exact .inr hc
  ·refine .inl fun p hp ht hk hf=>hc ?_
   have:=h p hp ht hk
   rwa [hf,Int.toNat_natCast] at this
theorem nextE_ready [Mode] {n:Nat}{xs:List Pl} (hv:∀ p∈xs,okPl n p) {ord:List Nat}:nextE (wPl xs) n ord=(List.range n).find? (readyB xs ord):=by
 unfold nextE
 congr 1
 funext e
 exact ready_eq hv
theorem find_none [Mode] {f:Nat→Bool}{n:Nat} (h:∀ j,j<n→f j=false):(List.range n).find? f=none:=by
 rw[List.find?_eq_none];intro x hx;rw[h x (List.mem_range.1 hx)];simp
theorem find_some [Mode] {f:Nat→Bool}{n e:Nat} (he:e<n) (hf:f e=true) (h:∀ j,j<e→f j=false):(List.range n).find? f=some e:=by
 rw[List.find?_eq_some_iff_append]
 refine ⟨hf,List.range e,List.range' (e+1) (n - (e+1)),?_,fun a ha=>by rw[h a (List.mem_range.1 ha)];rfl⟩
 rw[List.range_eq_range',List.range_eq_range',← List.range'_succ,show n - (e+1)+1=n - e by omega]
 have:=List.range'_append (s:=0) (m:=e) (n:=n - e) (step:=1)
 simp only[Nat.zero_add,Nat.one_mul] at this
 rw[this,show e+(n - e)=n by omega]
def ordR (n:Nat) (xs:List Pl):Option (List Nat):=ordF (wPl xs) n n []
theorem cN_snoc [Mode] {ord:List Nat}{e:Nat}:IR (cN (ord++[e]))=IR (cN ord)++[[DI e]]:=by simp
set_option maxHeartbeats 2000000 in
theorem firingOrder_ac [Mode] (n:Nat) (xs:List Pl) (hn:n≤10) (hx:xs.length≤100000000) (hv:∀ p∈xs,okPl n p):AC Tryz.prog 109 [grD n xs] H0 (.tup [IL (cN ((ordR n xs).getD [])),Bo (ordR n xs).isSome]) H0:=by
 refine AC.of_body 0 Tryz.func109 rfl (fun l h=>absurd rfl h) (fun C hC=>?_)
 have hD:∀ l,¬ C.D0 l:=fun l h=>(hC l).1 h rfl
 simp only[startFr,Tryz.ntmps109,List.length_cons,List.length_nil,Nat.reduceAdd,Nat.reduceSub,List.replicate_succ,List.replicate_zero,List.cons_append,List.nil_append]
 repeat' (first|((first|apply Ba|(apply Bb;(· rfl);(· rfl))|(apply Bc;(· exact nxE))|(apply Bd;(· rfl);(· rfl);(· exact nxE)));(· first|exact Ok.pe))|((first|apply Ca|(apply Cb;(· exact nxE)));(· first|exact Ok.e0))|refine Sx ?_|(refine Sy (fun h=>?_) (fun h=>?_)<;>try (exfalso;omega;done))|refine Sz (fun h=>?_) (fun h=>?_))
 refine AW.loop (X:={ord:List Nat // ord.length≤n∧ordR n xs=ordF (wPl xs) n (n - ord.length) ord}) (fun ord=>⟨[Oo,Bx 2 0,Oo,Oo,Bx 1 1,Oo,Oo,Oo,Oo,Oo,Oo,Oo,Oo,Oo,Oo,Oo,Oo,Oo,Oo,Oo,Oo,Oo,Oo,Oo,Oo,Oo,Oo,Oo,Oo,Oo,Oo,Oo,Oo,Oo,Oo,Oo,Oo,Oo,Oo,Oo,Oo],heapL [(⟨0,[]⟩,⟨0,[]⟩,⟨2,[[I n,PL xs]]⟩),(⟨1,[]⟩,⟨1,[]⟩,⟨1,[[.own 1 ⟨2,[]⟩ 0 ord.1.length]]⟩),(⟨2,[]⟩,⟨2,[]⟩,IO (cN ord.1))],900⟩) (fun ord=>n - ord.1.length) ⟨[],Nat.zero_le _,rfl⟩ ?_ (fun ord=>?_)
 ·
  refine (Le.nilC 1 ⟨3,[]⟩ rfl).trans ?_
  (apply Le.headZ [_,_,_] rfl)
  all_goals (try dsimp only[srcs])
  (case' hfr|hob=>(repeat' (first|refine La ?_ ?_|exact Lc|refine Lo ?_|refine ⟨⟨_,rfl,?_⟩,?_⟩|refine Lx ?_)))
  all_goals (first|(rfl)|exact Ld)
 obtain ⟨ord,ho1,ho2⟩:=ord
 simp only
 have hol:(IR (cN ord)).length=ord.length:=by simp
 by_cases hlt:ord.length<n
 ·rw[show n - ord.length=(n - (ord.length+1))+1 by omega,ordF,nextE_ready hv] at ho2
  repeat' (first|((first|apply Ba|(apply Bb;(· rfl);(· rfl))|(apply Bc;(· exact nxE))|(apply Bd;(· rfl);(· rfl);(· exact nxE)));(· first|exact Ok.pe))|((first|apply Ca|(apply Cb;(· exact nxE)));(· first|exact Ok.e0))|refine Sx ?_|(refine Sy (fun h=>?_) (fun h=>?_)<;>try (exfalso;omega;done))|refine Sz (fun h=>?_) (fun h=>?_))
  refine AW.loop (X:={s:Nat × Int // s.1≤n∧((s.2=-1∧∀ j,j<s.1→readyB xs ord j=false)∨(∃ e:Nat,s.2=e∧s.1=e+1∧readyB xs ord e=true∧∀ j,j<e→readyB xs ord j=false))}) (fun s=>⟨[Oo,Bx 2 0,Oo,Oo,Bx 1 1,I s.1.2,Bx 1 3,Oo,Oo,Oo,Oo,Oo,Oo,Oo,Oo,Oo,Oo,Oo,Oo,Oo,Oo,Oo,Oo,Oo,Oo,Oo,Oo,Oo,Oo,Oo,Oo,Oo,Oo,Oo,Oo,Oo,Oo,Oo,Oo,Oo,Oo],heapL [(⟨0,[]⟩,⟨0,[]⟩,⟨2,[[I n,PL xs]]⟩),(⟨1,[]⟩,⟨1,[]⟩,⟨1,[[.own 1 ⟨2,[]⟩ 0 ord.length]]⟩),(⟨2,[]⟩,⟨2,[]⟩,IO (cN ord)),(⟨3,[]⟩,⟨3,[]⟩,⟨1,[[I (s.1.1:Nat)]]⟩)],900⟩) (fun s=>n - s.1.1) ⟨(0,-1),Nat.zero_le _,.inl ⟨rfl,fun j hj=>absurd hj (Nat.not_lt_zero j)⟩⟩ ?_ (fun s=>?_)
  ·
   (apply Le.headZ [_,_,_,_] rfl)
   all_goals (try dsimp only[srcs])
   (case' hfr|hob=>(repeat' (first|refine La ?_ ?_|exact Lc|refine Lo ?_|refine ⟨⟨_,rfl,?_⟩,?_⟩|refine Lx ?_)))
   all_goals (first|(rfl)|exact Ld)
  obtain ⟨⟨k,nx⟩,hk,hs⟩:=s
  simp only at hk hs ⊢
  rcases hs with ⟨rfl,hs⟩|⟨e,rfl,rfl,he,hs⟩
  ·by_cases hlt2:k<n
   ·
    have hC1:=containsInt_ac (cN ord) k (by simp;omega)
    rw[cN_any] at hC1
    have hc:=containsFuncPl_ac xs hx 149 [Bx 1 3,Bx 1 1] (hsF k ord) (by simp) (by simp) hsF_ok
     (by intro c hc;simp at hc;rcases hc with rfl|rfl<;>exact .ptr _ _ _ _ (by simp)) 4 (by simp) (waitP ord k) (fun p hp=>firingFn_ac n p k ord (hv p hp) (by omega))
    have hrd:readyB xs ord k=(!ord.contains k&&!(xs.any (waitP ord k))):=rfl
    repeat' (first|((first|apply Ba|(apply Bb;(· rfl);(· rfl))|(apply Bc;(· exact nxE))|(apply Bd;(· rfl);(· rfl);(· exact nxE)));(· first|exact Ez rfl rfl (hC1) (Sw (Sd Sn))|exact OpOk.callS (hsF k ord) rfl rfl hc (by simp[heapL,upd,upds,W.app]) hsF_ok (.d _) (.cons (.dd _) (.cons (AR.clo' .nil (.cons (AR.ptr _ _ _ _ (by simp)) (.cons (AR.ptr _ _ _ _ (by simp)) .nil))) .nil))|exact Ok.pe))|((first|apply Ca|(apply Cb;(· exact nxE)));(· first|exact Ok.e0))|refine Sx ?_|(refine Sy (fun h=>?_) (fun h=>?_)<;>try (exfalso;omega;done))|refine Sz (fun h=>?_) (fun h=>?_))
    ·refine ⟨⟨(k+1,-1),by omega,.inl ⟨rfl,fun j hj=>?_⟩⟩,?_,by simp only;omega⟩
     ·rcases Nat.lt_succ_iff_lt_or_eq.1 hj with hj|rfl
      ·exact hs j hj
      ·rw[hrd,h];rfl
     ·
      (apply Le.headZ [_,_,_,_] rfl)
      all_goals (try dsimp only[srcs])
      (case' hfr|hob=>(repeat' (first|refine La ?_ ?_|exact Lc|refine Lo ?_|refine ⟨⟨_,rfl,?_⟩,?_⟩|refine Lx ?_)))
      all_goals (first|(rfl)|exact Ld)
    ·refine ⟨⟨(k+1,k),by omega,.inr ⟨k,rfl,rfl,by rw[hrd,h,‹ord.contains k=false›];rfl,hs⟩⟩,?_,by simp only;omega⟩
     (apply Le.headZ [_,_,_,_] rfl)
     all_goals (try dsimp only[srcs])
     (case' hfr|hob=>(repeat' (first|refine La ?_ ?_|exact Lc|refine Lo ?_|refine ⟨⟨_,rfl,?_⟩,?_⟩|refine Lx ?_)))
     all_goals (first|(rfl)|exact Ld)
    ·refine ⟨⟨(k+1,-1),by omega,.inl ⟨rfl,fun j hj=>?_⟩⟩,?_,by simp only;omega⟩
     ·rcases Nat.lt_succ_iff_lt_or_eq.1 hj with hj|rfl
      ·exact hs j hj
      ·rw[hrd,h,Bool.and_false]
     ·
      (apply Le.headZ [_,_,_,_] rfl)
      all_goals (try dsimp only[srcs])
      (case' hfr|hob=>(repeat' (first|refine La ?_ ?_|exact Lc|refine Lo ?_|refine ⟨⟨_,rfl,?_⟩,?_⟩|refine Lx ?_)))
      all_goals (first|(rfl)|exact Ld)
   ·
    have hnone:ordR n xs=none:=by rw[ho2,find_none (fun j hj=>hs j (by omega))]
    simp only[hnone,Option.getD_none,Option.isSome_none]
    repeat' (first|((first|apply Ba|(apply Bb;(· rfl);(· rfl))|(apply Bc;(· exact nxE))|(apply Bd;(· rfl);(· rfl);(· exact nxE)));(· first|exact Ok.pe))|((first|apply Ca|(apply Cb;(· exact nxE)));(· first|exact Ok.e0))|refine Sx ?_|(refine Sy (fun h=>?_) (fun h=>?_)<;>try (exfalso;omega;done))|refine Sz (fun h=>?_) (fun h=>?_))
    refine Yb ?_
    (apply Le.headZ (hs:=[]) [] rfl)
    all_goals (try dsimp only[srcs])
    (case' hfr=>(repeat' (first|refine La ?_ ?_|exact Lc|refine Lo ?_|refine ⟨⟨_,rfl,?_⟩,?_⟩|refine Lx ?_)))
    all_goals (first|exact Ld|exact trivial|(rfl))
  ·
   rw[find_some (by omega) he hs] at ho2
   repeat' (first|((first|apply Ba|(apply Bb;(· rfl);(· rfl))|(apply Bc;(· exact nxE))|(apply Bd;(· rfl);(· rfl);(· exact nxE)));(· first|exact Ok.append1 (row:=[DI e]) rfl rfl (by decide) rfl rfl hol rfl rfl rfl (by rfl) (by omega) (by omega)|exact Ok.pe))|((first|apply Ca|(apply Cb;(· exact nxE)));(· first|exact Ok.append1 (row:=[DI e]) rfl rfl (by decide) rfl rfl hol rfl rfl rfl (by rfl) (by omega) (by omega)|exact Ok.e0))|refine Sx ?_|(refine Sy (fun h=>?_) (fun h=>?_)<;>try (exfalso;omega;done))|refine Sz (fun h=>?_) (fun h=>?_))
   all_goals
    refine ⟨⟨ord++[e],by simp;omega,by simpa using ho2⟩,?_,by simp;omega⟩
    (apply Le.headZ [_,_,_] rfl)
    all_goals (try dsimp only[srcs])
    (case' hfr|hob=>(repeat' (first|refine La ?_ ?_|exact Lc|refine Lo ?_|refine ⟨⟨_,rfl,?_⟩,?_⟩|refine Lx ?_)))
    all_goals (first|((first|(rw[cN_snoc];done)|(simp;done)))|exact Ld)
 ·
  have hsome:ordR n xs=some ord:=by rw[ho2,show n - ord.length=0 by omega,ordF]
  simp only[hsome,Option.getD_some,Option.isSome_some]
  repeat' (first|((first|apply Ba|(apply Bb;(· rfl);(· rfl))|(apply Bc;(· exact nxE))|(apply Bd;(· rfl);(· rfl);(· exact nxE)));(· first|exact Ok.pe))|((first|apply Ca|(apply Cb;(· exact nxE)));(· first|exact Ok.e0))|refine Sx ?_|(refine Sy (fun h=>?_) (fun h=>?_)<;>try (exfalso;omega;done))|refine Sz (fun h=>?_) (fun h=>?_))
  refine Yb ?_
  (apply Le.headZ (hs:=[]) [] rfl)
  all_goals (try dsimp only[srcs])
  (case' hfr=>(repeat' (first|refine La ?_ ?_|exact Lc|refine Lo ?_|refine ⟨⟨_,rfl,?_⟩,?_⟩|refine Lx ?_)))
  all_goals (first|exact Ld|exact trivial|(rfl))
end
section
open Go Go.RowKit
attribute [local irreducible] AL AD AW OpOk Le AC thenQ blockQ EndQ
theorem free_entN [Mode] {n:Nat}:∀ {xs:List Pl}{t:List (List Int)},Sq t n→(∀ p∈xs,okPl n p)→∀ {a b:Nat},a<n→b<n→entN (xs.foldl freeS t) a b=if wPl xs a b=true then 0 else entN t a b
 | [],t,hs,_,a,b,_,_=>by simp[wPl]
 | p :: r,t,hs,hv,a,b,ha,hb=>by
  obtain ⟨⟨h1,h2⟩,⟨h3,h4⟩,_⟩:=hv p (by simp)
  rw[List.foldl_cons,free_entN (freeS_sq hs) (fun q hq=>hv q (by simp[hq])) ha hb]
  have hw:wPl (p :: r) a b=((decide (p.t=a)&&(decide (p.k=0)&&decide (p.f=b))) || wPl r a b):=by simp[wPl]
  rw[hw]
  cases hr:wPl r a b with
  | true=>simp
  | false=>
   rw[Bool.or_false,if_neg (by simp)]
   unfold freeS
   by_cases hk:p.k=0
   ·rw[if_pos hk,entN_setT hs (by omega) (by omega)]
    by_cases e:a=p.t.toNat∧b=p.f.toNat
    ·rw[if_pos e,if_pos (by simp[hk];omega)]
    ·rw[if_neg e,if_neg (by simp[hk];omega)]
   ·rw[if_neg hk,if_neg (by simp[hk])]
theorem live_ord [Mode] {n:Nat}{xs:List Pl} (hv:∀ p∈xs,okPl n p):deadC n xs=[]↔ordR n xs≠none:=by
 let a:Nat→Nat→Int:=fun u v=>if u<n∧v<n then entN (freeT n xs) u v else BOT
 have he:∀ {u v:Nat},u<n→v<n→entN (freeT n xs) u v=if wPl xs u v=true then 0 else BOT:=fun hu hv'=>by
  unfold freeT
  rw[free_entN (Sq.bot n) hv hu hv',entN_bot hu hv']
 have ha:∀ {u v:Nat},u<n→v<n→(entN (freeT n xs) u v≠BOT↔wPl xs u v=true):=fun hu hv'=>by
  rw[he hu hv']
  split
  ·rename_i h;exact ⟨fun _=>h,fun _=>by decide⟩
  ·rename_i h;exact ⟨fun e=>absurd rfl e,fun e=>absurd e h⟩
 unfold deadC ordR
 refine live_iff (a:=entN (freeT n xs)) (fun u v=>?_) (fun e u he' hu=>ha he' hu)
 have:=free_ent (xs:=xs) (Sq.bot n) (bot_big n) hv
 by_cases hu:u<n
 ·by_cases hv2:v<n
  ·rw[he hu hv2];split
   ·exact .inr (Int.le_refl _)
   ·exact .inl rfl
  ·right
   unfold entN
   have hs:=(free_sq (xs:=xs) (Sq.bot n))
   have h1:u<(freeT n xs).length:=by show u<(xs.foldl freeS (botT n n)).length;rw[hs.l];exact hu
   rw[List.getElem?_eq_getElem h1,Option.getD_some,List.getElem?_eq_none (by rw[hs.r _ (List.getElem_mem h1)];omega)]
   exact Int.le_refl _
 ·right
  unfold entN
  have hs:=(free_sq (xs:=xs) (Sq.bot n))
  rw[show (freeT n xs)[u]? = none from List.getElem?_eq_none (by show (xs.foldl freeS (botT n n)).length≤u;rw[hs.l];omega)]
  exact Int.le_refl _
theorem liveB_ord [Mode] {n:Nat}{xs:List Pl} (hv:∀ p∈xs,okPl n p):liveB n xs=(ordR n xs).isSome:=by
 unfold liveB
 rw[Int.toNat_natCast,Bool.eq_iff_iff,decide_eq_true_eq,live_ord hv]
 cases ordR n xs<;>simp
theorem isLive_ac [Mode] (n:Nat) (xs:List Pl) (hn:n≤10) (hx:xs.length≤100000000) (hv:∀ p∈xs,okPl n p):AC Tryz.prog 81 [grD n xs] H0 (Bo (liveB n xs)) H0:=by
 rw[liveB_ord hv]
 refine AC.of_body 0 Tryz.func81 rfl (fun l h=>absurd rfl h) (fun C hC=>?_)
 have hD:∀ l,¬ C.D0 l:=fun l h=>(hC l).1 h rfl
 simp only[startFr,Tryz.ntmps81,List.length_cons,List.length_nil,Nat.reduceAdd,Nat.reduceSub,List.replicate_succ,List.replicate_zero,List.cons_append,List.nil_append]
 repeat' (first|((first|apply Ba|(apply Bb;(· rfl);(· rfl))|(apply Bc;(· exact nxE))|(apply Bd;(· rfl);(· rfl);(· exact nxE)));(· first|exact Kz rfl rfl (firingOrder_ac n xs hn hx hv) (Aa (Ad (Ad An)) An)|exact Ok.pe))|((first|apply Ca|(apply Cb;(· exact nxE)));(· first|exact Ok.e0))|refine Sx ?_|(refine Sy (fun h=>?_) (fun h=>?_)<;>try (exfalso;omega;done))|refine Sz (fun h=>?_) (fun h=>?_))
 all_goals
  refine Ya ?_
  (apply Le.headZ (hs:=[]) [] rfl)
  all_goals (try dsimp only[srcs])
  (case' hfr=>(repeat' (first|refine La ?_ ?_|exact Lc|refine Lo ?_|refine ⟨⟨_,rfl,?_⟩,?_⟩|refine Lx ?_)))
  all_goals (first|exact Ld|exact trivial|(rfl))
theorem allWithin_ac [Mode] (xs:List Int) (lo hi:Int) (hn:xs.length≤100000000):AC Tryz.prog 51 [IL xs,I lo,I hi] H0 (Bo (xs.all fun x=>wi x lo hi)) H0:=by
 refine AC.of_body 0 Tryz.func51 rfl (fun l h=>absurd rfl h) (fun C hC=>?_)
 have hD:∀ l,¬ C.D0 l:=fun l h=>(hC l).1 h rfl
 simp only[startFr,Tryz.ntmps51,List.length_cons,List.length_nil,Nat.reduceAdd,Nat.reduceSub,List.replicate_succ,List.replicate_zero,List.cons_append,List.nil_append]
 repeat' (first|((first|apply Ba|(apply Bb;(· rfl);(· rfl))|(apply Bc;(· exact nxE))|(apply Bd;(· rfl);(· rfl);(· exact nxE)));(· first|exact Ok.pe))|((first|apply Ca|(apply Cb;(· exact nxE)));(· first|exact Ok.e0))|refine Sx ?_|(refine Sy (fun h=>?_) (fun h=>?_)<;>try (exfalso;omega;done))|refine Sz (fun h=>?_) (fun h=>?_))
 refine AW.loop (X:={k:Nat // k≤xs.length∧xs.all (fun x=>wi x lo hi)=(xs.drop k).all (fun x=>wi x lo hi)}) (fun k=>⟨[Oo,I lo,I hi,Oo,Oo,Oo,Oo,Oo,Oo,IL xs,I xs.length,I (k.1:Nat),Oo,Oo,Oo,Oo,Oo,Oo,Oo,Oo,Oo],heapL [],900⟩) (fun k=>xs.length - k.1) ⟨0,Nat.zero_le _,by simp⟩ ?_ (fun k=>?_)
 ·
  (apply Le.headZ [] rfl)
  all_goals (try dsimp only[srcs])
  (case' hfr|hob=>(repeat' (first|refine La ?_ ?_|exact Lc|refine Lo ?_|refine ⟨⟨_,rfl,?_⟩,?_⟩|refine Lx ?_)))
  all_goals (first|(rfl)|exact Ld)
 obtain ⟨k,hk,hall⟩:=k
 simp only
 by_cases hlt:k<xs.length
 ·obtain ⟨x,hx⟩:∃ x,xs[k]? = some x:=⟨xs[k],by simp⟩
  have hrow:=IR_get hx
  repeat' (first|((first|apply Ba|(apply Bb;(· rfl);(· rfl))|(apply Bc;(· exact nxE))|(apply Bd;(· rfl);(· rfl);(· exact nxE)));(· first|exact Kz rfl rfl (within_ac _ _ _) (Ad (Ad (Ad An)))|exact Ok.pe))|((first|apply Ca|(apply Cb;(· exact nxE)));(· first|exact Ok.e0))|refine Sx ?_|(refine Sy (fun h=>?_) (fun h=>?_)<;>try (exfalso;omega;done))|refine Sz (fun h=>?_) (fun h=>?_))
  ·
   refine Ya ?_
   (apply Le.headZ (hs:=[]) [] rfl)
   all_goals (try dsimp only[srcs])
   (case' hfr=>(repeat' (first|refine La ?_ ?_|exact Lc|refine Lo ?_|refine ⟨⟨_,rfl,?_⟩,?_⟩|refine Lx ?_)))
   all_goals (first|exact Ld|exact trivial|((rw[all_no hx (by simpa using h)];done)))
  ·refine ⟨⟨k+1,by omega,all_step hx hall (by simpa using h)⟩,?_,by simp only;omega⟩
   (apply Le.headZ [] rfl)
   all_goals (try dsimp only[srcs])
   (case' hfr|hob=>(repeat' (first|refine La ?_ ?_|exact Lc|refine Lo ?_|refine ⟨⟨_,rfl,?_⟩,?_⟩|refine Lx ?_)))
   all_goals (first|(rfl)|exact Ld)
 ·
  have hA:xs.all (fun x=>wi x lo hi)=true:=by rw[hall,List.drop_of_length_le (by omega)];rfl
  repeat' (first|((first|apply Ba|(apply Bb;(· rfl);(· rfl))|(apply Bc;(· exact nxE))|(apply Bd;(· rfl);(· rfl);(· exact nxE)));(· first|exact Ok.pe))|((first|apply Ca|(apply Cb;(· exact nxE)));(· first|exact Ok.e0))|refine Sx ?_|(refine Sy (fun h=>?_) (fun h=>?_)<;>try (exfalso;omega;done))|refine Sz (fun h=>?_) (fun h=>?_))
  refine Ya ?_
  (apply Le.headZ (hs:=[]) [] rfl)
  all_goals (try dsimp only[srcs])
  (case' hfr=>(repeat' (first|refine La ?_ ?_|exact Lc|refine Lo ?_|refine ⟨⟨_,rfl,?_⟩,?_⟩|refine Lx ?_)))
  all_goals (first|exact Ld|exact trivial|((rw[hA];done)))
end
section
open Go Go.RowKit
attribute [local irreducible] AL AD AW OpOk Le AC thenQ blockQ EndQ
def rowF (n:Nat) (g:Nat→Int):List Int:=(List.range n).map g
def tabF (m n:Nat) (f:Nat→Nat→Int):List (List Int):=(List.range m).map fun i=>rowF n (f i)
theorem rowF_len [Mode] {n:Nat}{g:Nat→Int}:(rowF n g).length=n:=by simp[rowF]
theorem tabF_len [Mode] {m n:Nat}{f:Nat→Nat→Int}:(tabF m n f).length=m:=by simp[tabF]
theorem rowF_get [Mode] {n j:Nat}{g:Nat→Int} (h:j<n):(rowF n g)[j]? = some (g j):=by simp[rowF,h]
theorem tabF_get [Mode] {m n i:Nat}{f:Nat→Nat→Int} (h:i<m):(tabF m n f)[i]? = some (rowF n (f i)):=by simp[tabF,h]
theorem TRF_get [Mode] {m n i:Nat}{f:Nat→Nat→Int} (h:i<m):(TR (tabF m n f))[i]? = some (IR (rowF n (f i))):=by simp[tabF_get h]
theorem IRF_get [Mode] {n j:Nat}{g:Nat→Int} (h:j<n):(IR (rowF n g))[j]? = some [DI (g j)]:=by simp[rowF_get h]
theorem tabF_rc [Mode] {m n:Nat}{f:Nat→Nat→Int}:Rc (tabF m n f) m n:=⟨tabF_len,fun r hr=>by obtain ⟨i,_,rfl⟩:=List.mem_map.1 hr;exact rowF_len⟩
theorem tabF_ent [Mode] {m n i j:Nat}{f:Nat→Nat→Int} (hi:i<m) (hj:j<n):entN (tabF m n f) i j=f i j:=by
 unfold entN;rw[tabF_get hi,Option.getD_some,rowF_get hj,Option.getD_some]
theorem rowF_congr [Mode] {n:Nat}{f g:Nat→Int} (h:∀ j,j<n→f j=g j):rowF n f=rowF n g:=List.map_congr_left fun j hj=>h j (List.mem_range.1 hj)
theorem tabF_congr [Mode] {m n:Nat}{f g:Nat→Nat→Int} (h:∀ i j,i<m→j<n→f i j=g i j):tabF m n f=tabF m n g:=List.map_congr_left fun i hi=>rowF_congr fun j hj=>h i j (List.mem_range.1 hi) hj
theorem rowF_self [Mode] {r:List Int}{n:Nat} (h:r.length=n):rowF n (fun j=>(r[j]?).getD 0)=r:=by
 subst h
 apply List.ext_getElem?
 intro j
 by_cases hj:j<r.length
 ·rw[rowF_get hj];simp[hj]
 ·rw[List.getElem?_eq_none (by rw[rowF_len];omega),List.getElem?_eq_none (by omega)]
theorem tabF_self [Mode] {t:List (List Int)}{m n:Nat} (h:Rc t m n):tabF m n (entN t)=t:=by
 apply List.ext_getElem?
 intro i
 by_cases hi:i<m
 ·have h1:i<t.length:=by rw[h.l];exact hi
  rw[tabF_get hi,List.getElem?_eq_getElem h1]
  congr 1
  have:=rowF_self (h.r _ (List.getElem_mem h1))
  rw[← this]
  refine rowF_congr fun j hj=>?_
  unfold entN
  rw[List.getElem?_eq_getElem h1,Option.getD_some]
 ·rw[List.getElem?_eq_none (by rw[tabF_len];omega),List.getElem?_eq_none (by rw[h.l];omega)]
theorem rowF_set [Mode] {n j:Nat}{g:Nat→Int}{v:Int}:(rowF n g).set j v=rowF n (fun b=>if b=j then v else g b):=by
 apply List.ext_getElem?
 intro b
 rw[List.getElem?_set]
 by_cases hb:b<n
 ·rw[rowF_get hb,rowF_get hb,rowF_len]
  by_cases e:j=b
  ·subst e;rw[if_pos rfl,if_pos hb,if_pos rfl]
  ·rw[if_neg e,if_neg (fun h=>e h.symm)]
 ·rw[List.getElem?_eq_none (l:=rowF n g) (by rw[rowF_len];omega),List.getElem?_eq_none (l:=rowF n _) (by rw[rowF_len];omega),rowF_len]
  split
  ·rename_i e;subst e;rw[if_neg hb]
  ·rfl
theorem tabF_set [Mode] {m n i j:Nat}{f f':Nat→Nat→Int}{v:Int} (h:∀ a b,a<m→b<n→f' a b=if a=i∧b=j then v else f a b):TR (tabF m n f')=(TR (tabF m n f)).set i (IR ((rowF n (f i)).set j v)):=by
 have e:tabF m n f'=(tabF m n f).set i ((rowF n (f i)).set j v):=by
  apply List.ext_getElem?
  intro a
  rw[List.getElem?_set]
  by_cases ha:a<m
  ·rw[tabF_get ha]
   by_cases e:i=a
   ·subst e
    rw[if_pos rfl,if_pos (by rw[tabF_len];exact ha),rowF_set]
    congr 1
    exact rowF_congr fun b hb=>by rw[h i b ha hb];simp
   ·rw[if_neg e,tabF_get ha]
    congr 1
    exact rowF_congr fun b hb=>by rw[h a b ha hb,if_neg (fun h=>e h.1.symm)]
  ·rw[List.getElem?_eq_none (by rw[tabF_len];omega)]
   split
   ·rw[if_neg (by rw[tabF_len];omega)]
   ·rw[List.getElem?_eq_none (by rw[tabF_len];omega)]
 rw[e];simp[List.map_set]
theorem IR_ne [Mode] {xs:List Int}:∀ r∈IR xs,r≠[]:=fun r hr=>by obtain ⟨p,_,rfl⟩:=List.mem_map.1 hr;simp
theorem cloneInt_ac [Mode] (xs:List Int) (hn:xs.length≤100000000):AC Tryz.prog 110 [IL xs] H0 (own1 1 xs.length) (hp1 (IO xs)):=by
 refine AC.of_body 0 Tryz.func110 rfl (fun l h=>absurd rfl h) (fun C hC=>?_)
 have hD:∀ l,¬ C.D0 l:=fun l h=>(hC l).1 h rfl
 simp only[startFr,Tryz.ntmps110,List.length_cons,List.length_nil,Nat.reduceAdd,Nat.reduceSub,List.replicate_succ,List.replicate_zero,List.cons_append,List.nil_append]
 repeat' (first|((first|apply Ba|(apply Bb;(· rfl);(· rfl))|(apply Bc;(· exact nxE))|(apply Bd;(· rfl);(· rfl);(· exact nxE)));(· first|exact Ok.pe))|((first|apply Ca|(apply Cb;(· exact nxE)));(· first|exact Ok.e0))|refine Sx ?_|(refine Sy (fun h=>?_) (fun h=>?_)<;>try (exfalso;omega;done))|refine Sz (fun h=>?_) (fun h=>?_))
 refine AL.stAny (OpAny.eqNilD rfl rfl rfl IR_ne) rfl (fun b hb=>?_)
 cases b
 ·simp only[List.set_cons_succ,List.set_cons_zero]
  repeat' (first|((first|apply Ba|(apply Bb;(· rfl);(· rfl))|(apply Bc;(· exact nxE))|(apply Bd;(· rfl);(· rfl);(· exact nxE)));(· first|exact Ok.appendD (rows:=[]) rfl rfl (by decide) rfl rfl rfl rfl IR_len IR_row IR_all (by omega) (by omega)|exact Ok.pe))|((first|apply Ca|(apply Cb;(· exact nxE)));(· first|exact Ok.appendD (rows:=[]) rfl rfl (by decide) rfl rfl rfl rfl IR_len IR_row IR_all (by omega) (by omega)|exact Ok.e0))|refine Sx ?_|(refine Sy (fun h=>?_) (fun h=>?_)<;>try (exfalso;omega;done))|refine Sz (fun h=>?_) (fun h=>?_))
  refine Ya ?_
  (apply Le.head [(⟨0,[]⟩,_,_)])
  (case' hfr|hob=>(repeat' (first|refine La ?_ ?_|exact Lc|refine Lo ?_|refine ⟨⟨_,rfl,?_⟩,?_⟩|refine Lx ?_)))
  all_goals (first|exact Ld|(rfl))
 ·have h0:xs=[]:=by simpa using hb rfl
  subst h0
  simp only[List.set_cons_succ,List.set_cons_zero]
  repeat' (first|((first|apply Ba|(apply Bb;(· rfl);(· rfl))|(apply Bc;(· exact nxE))|(apply Bd;(· rfl);(· rfl);(· exact nxE)));(· first|exact Ok.pe))|((first|apply Ca|(apply Cb;(· exact nxE)));(· first|exact Ok.e0))|refine Sx ?_|(refine Sy (fun h=>?_) (fun h=>?_)<;>try (exfalso;omega;done))|refine Sz (fun h=>?_) (fun h=>?_))
  exact end1nil (.inl rfl) rfl (rT rfl) hD
theorem TR_take [Mode] {t:List (List Int)}{k:Nat}{r:List Int} (h:t[k]? = some r):TR (t.take (k+1))=TR (t.take k)++[IR r]:=by
 obtain ⟨hk,rfl⟩:=List.getElem?_eq_some_iff.1 h
 rw[List.take_succ_eq_append_getElem hk];exact List.map_append
end
section
open Go Go.RowKit
attribute [local irreducible] AL AD AW OpOk Le AC thenQ blockQ EndQ
def mixF (f g:Nat→Nat→Int) (K J:Nat):Nat→Nat→Int:=fun a b=>if a<K∨(a=K∧b<J) then f a b else g a b
theorem mixF_0 [Mode] {f g:Nat→Nat→Int}{m n:Nat}:tabF m n (mixF f g 0 0)=tabF m n g:=tabF_congr fun i j _ _=>by simp[mixF]
theorem mixF_row [Mode] {f g:Nat→Nat→Int}{m n K:Nat}:tabF m n (mixF f g K n)=tabF m n (mixF f g (K+1) 0):=tabF_congr fun i j _ hj=>by
 unfold mixF
 by_cases h:i<K∨(i=K∧j<n)
 ·rw[if_pos h,if_pos (by omega)]
 ·rw[if_neg h,if_neg (by omega)]
theorem mixF_all [Mode] {f g:Nat→Nat→Int}{m n:Nat}:tabF m n (mixF f g m 0)=tabF m n f:=tabF_congr fun i j hi _=>by simp[mixF,hi]
theorem mixF_set [Mode] {f g:Nat→Nat→Int}{K J a b:Nat}:mixF f g K (J+1) a b=if a=K∧b=J then f K J else mixF f g K J a b:=by
 unfold mixF
 by_cases h:a=K∧b=J
 ·obtain ⟨rfl,rfl⟩:=h;simp
 ·rw[if_neg h]
  by_cases h2:a<K∨(a=K∧b<J)
  ·rw[if_pos h2,if_pos (by omega)]
  ·rw[if_neg h2,if_neg (by omega)]
end
section
open Go Go.RowKit
attribute [local irreducible] AL AD AW OpOk Le AC thenQ blockQ EndQ
def okP (r e:Nat) (p:Pl):Prop:=p.t=e∧p.k+1≤r
instance {r e:Nat}{p:Pl}:Decidable (okP r e p):=by unfold okP;exact inferInstance
def stopC (t:List (List Int)) (xs:List Pl) (r e:Nat):Prop:=(alA t r e xs xs.length).2<0∨(alA t r e xs xs.length).1<entN t (r - 1) e
instance {t:List (List Int)}{xs:List Pl}{r e:Nat}:Decidable (stopC t xs r e):=by unfold stopC;exact inferInstance
theorem ord_idx [Mode] {n:Nat}{xs:List Pl}{ord:List Nat} (h:ordR n xs=some ord):ord.length=n∧(∀ e u,e<n→u<n→wPl xs e u=true→ord.idxOf u<ord.idxOf e)∧∀ e,e<n→ord.idxOf e<n:=by
 obtain ⟨h1,h2⟩:=ordF_some OrdOk.nil h
 have hl:ord.length=n:=by simpa using h2
 have hm:∀ e,e<n→e∈ord:=fun e he=>nodup_full h1.nd h1.lt hl he
 refine ⟨hl,fun e u he hu hw=>?_,fun e he=>by have:=List.idxOf_lt_length_iff.2 (hm e he);omega⟩
 have hi:=List.idxOf_lt_length_iff.2 (hm e he)
 have hg:ord.getD (ord.idxOf e) 0=e:=by rw[List.getD_eq_getElem?_getD,List.getElem?_eq_getElem hi,Option.getD_some];exact List.getElem_idxOf hi
 have hu2:=h1.wait _ hi u hu (by rw[hg];exact hw)
 obtain ⟨j,hj,hj2⟩:=List.getElem_of_mem hu2
 simp only[List.length_take] at hj
 rw[List.getElem_take] at hj2
 have h3:ord.idxOf u≤j:=by
  refine Nat.le_of_not_lt fun h=>?_
  have h4:=List.not_of_lt_findIdx (p:=fun x=>x == u) (xs:=ord) (i:=j) h
  rw[hj2] at h4;simp at h4
 omega
end
end Go.Proofs.YtkpoclbnnpglfaaGreat
