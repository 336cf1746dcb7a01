/-
  Walks in the abstract reading, part 10.
-/
import Derived.Test.YtkpoclbnnpglfaaGreatKqU9
import Derived.Test.YtkpoclbnnpglfaaGreatKqE48
import Derived.Test.YtkpoclbnnpglfaaGreatKqU4
import Derived.Test.YtkpoclbnnpglfaaGreatKqU5
import Derived.Test.YtkpoclbnnpglfaaGreatKqA3
import Derived.Test.YtkpoclbnnpglfaaGreatKqU8
set_option linter.unusedSimpArgs false
set_option linter.unusedVariables false
namespace Go.Proofs.YtkpoclbnnpglfaaGreat
section
open Go Go.RowKit
attribute [local irreducible] AL AD AW OpOk Le AC thenQ blockQ EndQ
abbrev hsSh (x:D) (p q:Int):HL:=[(⟨0,[]⟩,⟨0,[]⟩,⟨1,[[.d x]]⟩),(⟨1,[]⟩,⟨1,[]⟩,⟨2,[[I p,I q]]⟩)]
theorem hsSh_ok [Mode] {x:D}{p q:Int}:HOk (hsSh x p q):=by
 intro p hp r hr c hc
 simp only[List.mem_cons,List.not_mem_nil,or_false] at hp
 rcases hp with rfl|rfl
 ·simp at hr;subst hr;simp at hc;subst hc;exact .d _
 ·simp at hr;subst hr;simp at hc;rcases hc with rfl|rfl<;>exact .d _
set_option maxHeartbeats 1000000 in
theorem shFn_ac [Mode] (t:List (List Int)) (n:Nat) (hM:MatOk t n) (p q:Int) (hp : -10000000≤p∧p≤10000000) (hq:0<q∧q≤10) (i j:Nat) (hi:i<n) (hj:j<n):AC Tryz.prog 177 [I i,I j,Bx 1 0,Bx 2 1] (heapL (hsSh (TD t) p q)) (I (shF (entN t) p q i j)) (heapL (hsSh (TD t) p q)):=by
 obtain ⟨R,hR1,hR2,hR3⟩:=hM.sq.get hi hj
 have hRr:=TR_get hR1
 have hRf:=IR_get hR2
 have hRl:(IR R).length=n:=by rw[IR_len,hR3]
 have hn:=hM.le
 have htl:(mRows 1 (TR t)).length=n:=by rw[mTR_len,hM.sq.l]
 have hb0:=hM.b j i
 unfold shF
 generalize entN t i j=e at *
 by_cases hb:e=BOT
 ·rw[if_pos hb]
  rw[hb] at hRf
  unfold BOT at hRf ⊢
  refine AC.of_body 2 Tryz.func177 rfl (fun l h=>by simp[heapL,upd] at h;(repeat' split at h)<;>simp_all) (fun C hC=>?_)
  simp only[startFr,Tryz.ntmps177,List.length_cons,List.length_nil,Nat.reduceAdd,Nat.reduceSub,List.replicate_succ,List.replicate_zero,List.cons_append,List.nil_append]
  have hD:∀ l,C.D0 l→l=⟨0,[]⟩∨l=⟨1,[]⟩:=fun l h=>by have:=(hC l).1 h;simp[heapL,upd] at this;(repeat' split at this)<;>simp_all
  repeat' (first|((first|apply Ba|(apply Bb;(· rfl);(· rfl))|(apply Bc;(· exact nxE))|(apply Bd;(· rfl);(· rfl);(· exact nxE)));(· first|exact Ok.pe))|((first|apply Ca|(apply Cb;(· exact nxE)));(· first|exact Ok.e0))|refine Sx ?_|(refine Sy (fun h=>?_) (fun h=>?_)<;>try (exfalso;omega;done))|refine Sz (fun h=>?_) (fun h=>?_))
  (refine end1p (by first|exact .inl rfl|exact .inr rfl) rfl (by first|exact rT rfl|exact rCA rfl rfl rfl rfl (by simp)|exact rCC rfl rfl rfl rfl rfl) ?_ (Le.head ([(⟨0,[]⟩,⟨0,[]⟩,⟨1,[[TL t]]⟩),(⟨1,[]⟩,⟨1,[]⟩,⟨2,[[I p,I q]]⟩)]) (by first|exact fun l h=>absurd h (hD l)|(intro l h;rcases hD l h with rfl;simp[tauL])|(intro l h;rcases hD l h with rfl|rfl<;>simp[tauL];done)|(intro l h;rcases hD l h with rfl|rfl|rfl<;>simp[tauL])) ?_ ?_ (by simp) (by simp) (by simp[AllP]) (n':=1000));(· rfl))<;>(repeat' (first|exact trivial|exact ARs.nil|refine ARs.cons ?_ ?_|exact AR.dead _|exact AR.dd _|exact AR.i (by (try dsimp only);omega)|exact AR.ptr _ _ _ _ (by simp[heapL,upd])|exact AR.own _ _ _ _ (by simp[heapL,upd])|refine AR.ownE _ _ _ ?_ (by simp[heapL,upd])|refine ⟨⟨_,rfl,?_⟩,?_⟩|exact ObA.data|refine ObA.box ?_|refine ObA.frE ?_|refine ObA.dataE ?_|refine ARs.agg ?_|refine ARs.tup ?_|exact AR.clo' ARs.nil ARs.nil|exact AR.clo' ARs.nil (hca _ _)))
 ·rw[if_neg hb]
  have hbe:=hb0 hb
  have hmb:=mulB (q:=q) (w:=e) (Q:=10) (M:=1000000) (by omega) hq.2 hbe.1 hbe.2 (by decide)
  unfold BOT at hb
  refine AC.of_body 2 Tryz.func177 rfl (fun l h=>by simp[heapL,upd] at h;(repeat' split at h)<;>simp_all) (fun C hC=>?_)
  simp only[startFr,Tryz.ntmps177,List.length_cons,List.length_nil,Nat.reduceAdd,Nat.reduceSub,List.replicate_succ,List.replicate_zero,List.cons_append,List.nil_append]
  have hD:∀ l,C.D0 l→l=⟨0,[]⟩∨l=⟨1,[]⟩:=fun l h=>by have:=(hC l).1 h;simp[heapL,upd] at this;(repeat' split at this)<;>simp_all
  repeat' (first|((first|apply Ba|(apply Bb;(· rfl);(· rfl))|(apply Bc;(· exact nxE))|(apply Bd;(· rfl);(· rfl);(· exact nxE)));(· first|exact Ok.pe))|((first|apply Ca|(apply Cb;(· exact nxE)));(· first|exact Ok.e0))|refine Sx ?_|(refine Sy (fun h=>?_) (fun h=>?_)<;>try (exfalso;omega;done))|refine Sz (fun h=>?_) (fun h=>?_))
  (refine end1p (by first|exact .inl rfl|exact .inr rfl) rfl (by first|exact rT rfl|exact rCA rfl rfl rfl rfl (by simp)|exact rCC rfl rfl rfl rfl rfl) ?_ (Le.head ([(⟨0,[]⟩,⟨0,[]⟩,⟨1,[[TL t]]⟩),(⟨1,[]⟩,⟨1,[]⟩,⟨2,[[I p,I q]]⟩)]) (by first|exact fun l h=>absurd h (hD l)|(intro l h;rcases hD l h with rfl;simp[tauL])|(intro l h;rcases hD l h with rfl|rfl<;>simp[tauL];done)|(intro l h;rcases hD l h with rfl|rfl|rfl<;>simp[tauL])) ?_ ?_ (by simp) (by simp) (by simp[AllP]) (n':=1000));(· rfl))<;>(repeat' (first|exact trivial|exact ARs.nil|refine ARs.cons ?_ ?_|exact AR.dead _|exact AR.dd _|exact AR.i (by (try dsimp only);omega)|exact AR.ptr _ _ _ _ (by simp[heapL,upd])|exact AR.own _ _ _ _ (by simp[heapL,upd])|refine AR.ownE _ _ _ ?_ (by simp[heapL,upd])|refine ⟨⟨_,rfl,?_⟩,?_⟩|exact ObA.data|refine ObA.box ?_|refine ObA.frE ?_|refine ObA.dataE ?_|refine ARs.agg ?_|refine ARs.tup ?_|exact AR.clo' ARs.nil ARs.nil|exact AR.clo' ARs.nil (hca _ _)))
set_option maxHeartbeats 2000000 in
theorem mbySh_ac [Mode] (m n:Nat) (hmn:m=n) (t:List (List Int)) (hMt:MatOk t n) (p q:Int) (hp : -10000000≤p∧p≤10000000) (hq:0<q∧q≤10) (hm:m≤1000) (hn:n≤1000):AC Tryz.prog 153 [I m,I n,.clo (.func 177) [] [Bx 1 0,Bx 2 1]] (heapL [(⟨0,[]⟩,⟨0,[]⟩,⟨1,[[TL t]]⟩),(⟨1,[]⟩,⟨1,[]⟩,⟨2,[[I p,I q]]⟩)]) (.own 1 ⟨2,[]⟩ 0 m) (heapX [(⟨0,[]⟩,⟨0,[]⟩,⟨1,[[TL t]]⟩),(⟨1,[]⟩,⟨1,[]⟩,⟨2,[[I p,I q]]⟩)] [mi1 ⟨2,[]⟩ (TR (tabF m n (shF (entN t) p q)))]):=by
 refine AC.of_body 2 Tryz.func153 rfl (fun l h=>by simp[heapL,upd] at h;(repeat' split at h)<;>simp_all) (fun C hC=>?_)
 simp only[startFr,Tryz.ntmps153,List.length_cons,List.length_nil,Nat.reduceAdd,Nat.reduceSub,List.replicate_succ,List.replicate_zero,List.cons_append,List.nil_append]
 have hD:∀ l,C.D0 l→l=⟨0,[]⟩∨l=⟨1,[]⟩:=fun l h=>by have:=(hC l).1 h;simp[heapL,upd] at this;(repeat' split at this)<;>simp_all
 repeat' (first|((first|apply Ba|(apply Bb;(· rfl);(· rfl))|(apply Bc;(· exact nxE))|(apply Bd;(· rfl);(· rfl);(· exact nxE)));(· first|exact Ok.pe))|((first|apply Ca|(apply Cb;(· exact nxE)));(· first|exact Ok.e0))|refine Sx ?_|(refine Sy (fun h=>?_) (fun h=>?_)<;>try (exfalso;omega;done))|refine Sz (fun h=>?_) (fun h=>?_))
 refine AW.loop (X:={k:Nat // k≤m}) (fun k=>⟨[Oo,I n,.clo (.func 177) [] [Bx 1 0,Bx 2 1],Oo,Oo,Oo,Oo,.own 1 ⟨2,[]⟩ 0 m,Oo,Oo,Oo,Oo,Oo,I m,I (k.1:Nat),Oo,Oo,Oo,Oo,Oo,Oo,Oo,Oo,Oo,Oo,Oo,Oo,Oo,Oo,Oo,Oo,Oo,Oo,Oo,Oo,Oo,Oo,Oo,Oo,Oo,Oo,Oo,Oo],heapX [(⟨0,[]⟩,⟨0,[]⟩,⟨1,[[TL t]]⟩),(⟨1,[]⟩,⟨1,[]⟩,⟨2,[[I p,I q]]⟩)] [{ l:=⟨2,[]⟩,k:=1,R:=TR (tabF k.1 n (mixF (shF (entN t) p q) zz k.1 0)),nils:=m - k.1,src:=⟨2,[]⟩,base:=⟨2,[]⟩ }],900⟩) (fun k=>m - k.1) ⟨0,Nat.zero_le _⟩ ?_ (fun k=>?_)
 ·
  (apply Le.headG [_,_] [{ l:=⟨2,[]⟩,k:=1,R:=[],nils:=m,src:=⟨4,[]⟩,base:=⟨4,[]⟩ }] (fun _=>False))
  (case' hlen=>rfl)
  (case' hms=>rfl)
  all_goals (try dsimp only[srcs])
  (case' hfr|hob=>(repeat' (first|refine La ?_ ?_|exact Lc|refine Lo ?_|refine ⟨⟨_,rfl,?_⟩,?_⟩|refine Lx ?_)))
  (case' hok=>first|exact ⟨MI.ok_make rfl,trivial⟩|exact trivial)
  (case' hN=>rfl)
  (case' hS=>rfl)
  all_goals (first|exact Ld|(rfl))
 obtain ⟨i,hi⟩:=k
 simp only
 by_cases hlt:i<m
 ·
  have hti:(TR (tabF i n (mixF (shF (entN t) p q) zz i 0))).length=i:=by rw[TR_len,tabF_len]
  rw[show m - i=(m - (i+1))+1 by omega]
  repeat' (first|((first|apply Ba|(apply Bb;(· rfl);(· rfl))|(apply Bc;(· exact nxE))|(apply Bd;(· rfl);(· rfl);(· exact nxE)));(· first|exact OpOk.loadCell rfl rfl rfl rfl (set_at (by simp only[outer_len];rw[hti];omega)) rfl|exact Ok.stT rfl rfl rfl (by dsimp only;rw[hti];omega) rfl|exact Ok.pe))|((first|apply Ca|(apply Cb;(· exact nxE)));(· first|exact Ok.stT rfl rfl rfl (by dsimp only;rw[hti];omega) rfl|exact Ok.e0))|refine Sx ?_|(refine Sy (fun h=>?_) (fun h=>?_)<;>try (exfalso;omega;done))|refine Sz (fun h=>?_) (fun h=>?_))
  refine AW.loop (X:={k:Nat // k≤n}) (fun k=>⟨[Oo,I n,.clo (.func 177) [] [Bx 1 0,Bx 2 1],Oo,Oo,Oo,Oo,.own 1 ⟨2,[]⟩ 0 m,I i,Oo,Oo,Oo,Oo,I m,I i,Oo,Oo,Oo,Oo,Oo,Oo,Oo,Oo,Oo,Oo,Oo,I n,I (k.1:Nat),Oo,Oo,Oo,Oo,Oo,Oo,Oo,Oo,Oo,Oo,Oo,Oo,Oo,Oo,Oo],heapX [(⟨0,[]⟩,⟨0,[]⟩,⟨1,[[TL t]]⟩),(⟨1,[]⟩,⟨1,[]⟩,⟨2,[[I p,I q]]⟩)] [{ l:=⟨2,[]⟩,k:=1,R:=TR (tabF (i+1) n (mixF (shF (entN t) p q) zz i k.1)),nils:=m - (i+1),src:=⟨2,[]⟩,base:=⟨2,[]⟩ }],900⟩) (fun k=>n - k.1) ⟨0,Nat.zero_le _⟩ ?_ (fun k=>?_)
  ·
   (apply Le.headG [_,_] [{ l:=⟨2,[]⟩,k:=1,R:=TR (tabF (i+1) n (mixF (shF (entN t) p q) zz i 0)),nils:=m - (i+1),src:=⟨2,[]⟩,base:=⟨2,[]⟩,cut:=i,ext:=some ⟨906,[]⟩ }] (fun _=>False))
   (case' hlen=>rfl)
   (case' hms=>rfl)
   all_goals (try dsimp only[srcs])
   (case' hfr|hob=>(repeat' (first|refine La ?_ ?_|exact Lc|refine Lo ?_|refine ⟨⟨_,rfl,?_⟩,?_⟩|refine Lx ?_)))
   (case' hok=>first|exact ⟨MI.ok_fill (r:=List.replicate n [DI 0]) zz_snoc hti (by simp) rfl (Cg) rfl,trivial⟩|exact trivial)
   (case' hN=>rfl)
   (case' hS=>rfl)
   all_goals (first|exact Ld|((first|(simp[AllP,TR_len,tabF_len];done)|(simp[AllP,TR_len,tabF_len];omega))))
  obtain ⟨j,hj⟩:=k
  simp only
  by_cases hlt2:j<n
  ·
   have hrw:=TRF_get (n:=n) (f:=(mixF (shF (entN t) p q) zz i j)) (show i<i+1 by omega)
   have hlr:(IR (rowF n ((mixF (shF (entN t) p q) zz i j) i))).length=n:=by rw[IR_len,rowF_len]
   repeat' (first|((first|apply Ba|(apply Bb;(· rfl);(· rfl))|(apply Bc;(· exact nxE))|(apply Bd;(· rfl);(· rfl);(· exact nxE)));(· first|exact Ok.ldTn rfl rfl rfl hrw hlr|exact OpOk.callS ([(⟨0,[]⟩,⟨0,[]⟩,⟨1,[[TL t]]⟩),(⟨1,[]⟩,⟨1,[]⟩,⟨2,[[I p,I q]]⟩)]) rfl rfl (shFn_ac t n hMt p q hp hq i j (by omega) hlt2) (by intro p hp;simp only[List.mem_cons,List.not_mem_nil,or_false] at hp;rcases hp with rfl|rfl<;>rfl) hsSh_ok (.d _) (.cons (.dd _) (.cons (.dd _) (.cons (AR.ptr _ _ _ _ (by simp)) (.cons (AR.ptr _ _ _ _ (by simp)) .nil))))|exact Ok.st1 rfl rfl (congrArg (Option.map (dobj 1)) hrw) (by simp[rowF_len];omega) (by rw[IRF_get hlt2];rfl) rfl rfl IR_set|exact Ok.pe))|((first|apply Ca|(apply Cb;(· exact nxE)));(· first|exact Ok.st1 rfl rfl (congrArg (Option.map (dobj 1)) hrw) (by simp[rowF_len];omega) (by rw[IRF_get hlt2];rfl) rfl rfl IR_set|exact Ok.e0))|refine Sx ?_|(refine Sy (fun h=>?_) (fun h=>?_)<;>try (exfalso;omega;done))|refine Sz (fun h=>?_) (fun h=>?_))
   refine ⟨⟨j+1,by omega⟩,?_,by simp only;omega⟩
   (apply Le.headG [_,_] [{ l:=⟨2,[]⟩,k:=1,R:=TR (tabF (i+1) n (mixF (shF (entN t) p q) zz i (j+1))),nils:=m - (i+1),src:=⟨2,[]⟩,base:=⟨2,[]⟩ }] (fun _=>False))
   (case' hlen=>rfl)
   (case' hms=>rfl)
   all_goals (try dsimp only[srcs])
   (case' hfr|hob=>(repeat' (first|refine La ?_ ?_|exact Lc|refine Lo ?_|refine ⟨⟨_,rfl,?_⟩,?_⟩|refine Lx ?_)))
   (case' hok=>first|exact ⟨MI.ok_row (tabF_set (fun a b _ _=>mixF_set)) hrw (by simp) rfl (Cg),trivial⟩|exact trivial)
   (case' hN=>rfl)
   (case' hS=>rfl)
   all_goals (first|exact Ld|(rfl))
  ·
   have hjn:j=n:=by omega
   subst hjn
   rw[mixF_row]
   repeat' (first|((first|apply Ba|(apply Bb;(· rfl);(· rfl))|(apply Bc;(· exact nxE))|(apply Bd;(· rfl);(· rfl);(· exact nxE)));(· first|exact Ok.pe))|((first|apply Ca|(apply Cb;(· exact nxE)));(· first|exact Ok.e0))|refine Sx ?_|(refine Sy (fun h=>?_) (fun h=>?_)<;>try (exfalso;omega;done))|refine Sz (fun h=>?_) (fun h=>?_))
   refine ⟨⟨i+1,by omega⟩,?_,by simp only;omega⟩
   (apply Le.headG [_,_] [{ l:=⟨2,[]⟩,k:=1,R:=TR (tabF (i+1) j (mixF (shF (entN t) p q) zz (i+1) 0)),nils:=m - (i+1),src:=⟨2,[]⟩,base:=⟨2,[]⟩ }] (fun _=>False))
   (case' hlen=>rfl)
   (case' hms=>rfl)
   all_goals (try dsimp only[srcs])
   (case' hfr|hob=>(repeat' (first|refine La ?_ ?_|exact Lc|refine Lo ?_|refine ⟨⟨_,rfl,?_⟩,?_⟩|refine Lx ?_)))
   (case' hok=>first|exact ⟨MI.ok_same rfl (Cg),trivial⟩|exact trivial)
   (case' hN=>rfl)
   (case' hS=>rfl)
   all_goals (first|exact Ld|(rfl))
 ·
  have him:i=m:=by omega
  subst him
  rw[Nat.sub_self,mixF_all]
  repeat' (first|((first|apply Ba|(apply Bb;(· rfl);(· rfl))|(apply Bc;(· exact nxE))|(apply Bd;(· rfl);(· rfl);(· exact nxE)));(· first|exact Ok.pe))|((first|apply Ca|(apply Cb;(· exact nxE)));(· first|exact Ok.e0))|refine Sx ?_|(refine Sy (fun h=>?_) (fun h=>?_)<;>try (exfalso;omega;done))|refine Sz (fun h=>?_) (fun h=>?_))
  refine Ya ?_
  (apply Le.headG [⟨0,[]⟩,⟨1,[]⟩] [mi1 ⟨2,[]⟩ (TR (tabF i n (shF (entN t) p q)))] (fun _=>False))
  (case' hlen=>rfl)
  (case' hms=>rfl)
  all_goals (try dsimp only[srcs])
  (case' hfr|hob=>(repeat' (first|refine La ?_ ?_|exact Lc|refine Lo ?_|refine ⟨⟨_,rfl,?_⟩,?_⟩|refine Lx ?_)))
  (case' hok=>first|exact ⟨MI.ok_same rfl (Cg),trivial⟩|exact trivial)
  (case' hN=>rfl)
  (case' hS=>rfl)
  all_goals (first|exact Ld|(rfl))
set_option maxHeartbeats 1000000 in
theorem shifted_ac [Mode] (t:List (List Int)) (n:Nat) (hM:MatOk t n) (p q:Int) (hp : -10000000≤p∧p≤10000000) (hq:0<q∧q≤10):AC Tryz.prog 152 [TL t,.agg [I p,I q]] H0 (own1 1 n) (hpM 1 (TR (shT t n p q))):=by
 have hn:=hM.le
 have htl:(mRows 1 (TR t)).length=n:=by rw[mTR_len,hM.sq.l]
 have hF:=mbySh_ac n n rfl t hM p q hp hq (by omega) (by omega)
 refine AC.of_body 0 Tryz.func152 rfl (fun l h=>absurd rfl h) (fun C hC=>?_)
 have hD:∀ l,¬ C.D0 l:=fun l h=>(hC l).1 h rfl
 simp only[startFr,Tryz.ntmps152,List.length_cons,List.length_nil,Nat.reduceAdd,Nat.reduceSub,List.replicate_succ,List.replicate_zero,List.cons_append,List.nil_append]
 repeat' (first|((first|apply Ba|(apply Bb;(· rfl);(· rfl))|(apply Bc;(· exact nxE))|(apply Bd;(· rfl);(· rfl);(· exact nxE)));(· first|exact Ok.lenD rfl rfl htl|exact OpOk.callSX (hsSh (TD t) p q) [mi1 ⟨2,[]⟩ (TR (tabF n n (shF (entN t) p q)))] rfl rfl hF (by intro p hp;simp only[List.mem_cons,List.not_mem_nil,or_false] at hp;rcases hp with rfl|rfl<;>rfl) hsSh_ok (by simp[Loc.cov]) (.cons (.dd _) (.cons (.dd _) (.cons (AR.clo' .nil (.cons (AR.ptr _ _ _ _ (by simp)) (.cons (AR.ptr _ _ _ _ (by simp)) .nil))) .nil))) (by simp[rn,emb];rfl)|exact Ok.pe))|((first|apply Ca|(apply Cb;(· exact nxE)));(· first|exact OpOk.callSX (hsSh (TD t) p q) [mi1 ⟨2,[]⟩ (TR (tabF n n (shF (entN t) p q)))] rfl rfl hF (by intro p hp;simp only[List.mem_cons,List.not_mem_nil,or_false] at hp;rcases hp with rfl|rfl<;>rfl) hsSh_ok (by simp[Loc.cov]) (.cons (.dd _) (.cons (.dd _) (.cons (AR.clo' .nil (.cons (AR.ptr _ _ _ _ (by simp)) (.cons (AR.ptr _ _ _ _ (by simp)) .nil))) .nil))) (by simp[rn,emb];rfl)|exact Ok.e0))|refine Sx ?_|(refine Sy (fun h=>?_) (fun h=>?_)<;>try (exfalso;omega;done))|refine Sz (fun h=>?_) (fun h=>?_))
 refine Ya ?_
 (apply Le.headG [] [{ l:=⟨0,[]⟩,k:=1,R:=TR (shT t n p q),src:=⟨8,[2]⟩,base:=⟨8,[2]⟩ }] (fun _=>False))
 (case' hlen=>rfl)
 (case' hms=>rfl)
 all_goals (try dsimp only[srcs])
 (case' hfr|hob=>(repeat' (first|refine La ?_ ?_|exact Lc|refine Lo ?_|refine ⟨⟨_,rfl,?_⟩,?_⟩|refine Lx ?_)))
 (case' hok=>first|exact ⟨MI.ok_same rfl (Cg),trivial⟩|exact trivial)
 (case' hN=>rfl)
 (case' hS=>rfl)
 all_goals (first|exact Ld|(rfl))
def crF (W b s:Nat→Nat→Int):Nat→Nat→Int:=fun i j=>if b i j=BOT∨s j i=BOT∨b i j+s j i≠0 then BOT else W i j
abbrev hsCm (a b s:D):HL:=[(⟨6,[]⟩,⟨6,[]⟩,⟨1,[[.d b]]⟩),(⟨13,[]⟩,⟨13,[]⟩,⟨1,[[.d s]]⟩),(⟨0,[]⟩,⟨0,[]⟩,⟨1,[[.d a]]⟩)]
theorem hsCm_ok [Mode] {a b s:D}:HOk (hsCm a b s):=by
 intro p hp r hr c hc
 simp only[List.mem_cons,List.not_mem_nil,or_false] at hp
 rcases hp with rfl|rfl|rfl<;>(simp at hr;subst hr;simp at hc;subst hc;exact .d _)
set_option maxHeartbeats 2000000 in
theorem crFnM_ac [Mode] (a b s:List (List Int)) (n:Nat) (ha:Sq a n) (hb:Sq b n) (hs:Sq s n) (i j:Nat) (hi:i<n) (hj:j<n) (hbb:entN b i j=BOT∨(-1000000000000000<entN b i j∧entN b i j≤1000000000000000)) (hsb:entN s j i=BOT∨(-1000000000000000<entN s j i∧entN s j i≤1000000000000000)):AC Tryz.prog 154 [I i,I j,Bx 1 6,Bx 1 13,Bx 1 0] (heapL (hsCm (TD a) (TD b) (TD s))) (I (crF (entN a) (entN b) (entN s) i j)) (heapL (hsCm (TD a) (TD b) (TD s))):=by
 obtain ⟨R,hR1,hR2,hR3⟩:=ha.get hi hj
 have hRr:=TR_get hR1
 have hRf:=IR_get hR2
 have hRl:(IR R).length=n:=by rw[IR_len,hR3]
 obtain ⟨Q,hQ1,hQ2,hQ3⟩:=hb.get hi hj
 have hQr:=TR_get hQ1
 have hQf:=IR_get hQ2
 have hQl:(IR Q).length=n:=by rw[IR_len,hQ3]
 obtain ⟨S,hS1,hS2,hS3⟩:=hs.get hj hi
 have hSr:=TR_get hS1
 have hSf:=IR_get hS2
 have hSl:(IR S).length=n:=by rw[IR_len,hS3]
 unfold crF
 generalize entN a i j=e at *
 generalize entN b i j=x at *
 generalize entN s j i=y at *
 by_cases h1:x=BOT
 ·rw[if_pos (.inl h1)]
  rw[h1] at hQf
  unfold BOT at hQf ⊢
  refine AC.of_body 14 Tryz.func154 rfl (fun l h=>by simp[heapL,upd] at h;(repeat' split at h)<;>simp_all) (fun C hC=>?_)
  simp only[startFr,Tryz.ntmps154,List.length_cons,List.length_nil,Nat.reduceAdd,Nat.reduceSub,List.replicate_succ,List.replicate_zero,List.cons_append,List.nil_append]
  have hD:∀ l,C.D0 l→l=⟨6,[]⟩∨l=⟨13,[]⟩∨l=⟨0,[]⟩:=fun l h=>by have:=(hC l).1 h;simp[heapL,upd] at this;(repeat' split at this)<;>simp_all
  repeat' (first|((first|apply Ba|(apply Bb;(· rfl);(· rfl))|(apply Bc;(· exact nxE))|(apply Bd;(· rfl);(· rfl);(· exact nxE)));(· first|exact Ok.pe))|((first|apply Ca|(apply Cb;(· exact nxE)));(· first|exact Ok.e0))|refine Sx ?_|(refine Sy (fun h=>?_) (fun h=>?_)<;>try (exfalso;omega;done))|refine Sz (fun h=>?_) (fun h=>?_))
  (refine end1p (by first|exact .inl rfl|exact .inr rfl) rfl (by first|exact rT rfl|exact rCA rfl rfl rfl rfl (by simp)|exact rCC rfl rfl rfl rfl rfl) ?_ (Le.head ([(⟨6,[]⟩,⟨6,[]⟩,⟨1,[[TL b]]⟩),(⟨13,[]⟩,⟨13,[]⟩,⟨1,[[TL s]]⟩),(⟨0,[]⟩,⟨0,[]⟩,⟨1,[[TL a]]⟩)]) (by first|exact fun l h=>absurd h (hD l)|(intro l h;rcases hD l h with rfl;simp[tauL])|(intro l h;rcases hD l h with rfl|rfl<;>simp[tauL];done)|(intro l h;rcases hD l h with rfl|rfl|rfl<;>simp[tauL])) ?_ ?_ (by simp) (by simp) (by simp[AllP]) (n':=1000));(· rfl))<;>(repeat' (first|exact trivial|exact ARs.nil|refine ARs.cons ?_ ?_|exact AR.dead _|exact AR.dd _|exact AR.i (by (try dsimp only);omega)|exact AR.ptr _ _ _ _ (by simp[heapL,upd])|exact AR.own _ _ _ _ (by simp[heapL,upd])|refine AR.ownE _ _ _ ?_ (by simp[heapL,upd])|refine ⟨⟨_,rfl,?_⟩,?_⟩|exact ObA.data|refine ObA.box ?_|refine ObA.frE ?_|refine ObA.dataE ?_|refine ARs.agg ?_|refine ARs.tup ?_|exact AR.clo' ARs.nil ARs.nil|exact AR.clo' ARs.nil (hca _ _)))
 by_cases h2:y=BOT
 ·rw[if_pos (.inr (.inl h2))]
  rw[h2] at hSf
  have h1':¬ x=-1000000000000000:=h1
  unfold BOT at hSf ⊢
  refine AC.of_body 14 Tryz.func154 rfl (fun l h=>by simp[heapL,upd] at h;(repeat' split at h)<;>simp_all) (fun C hC=>?_)
  simp only[startFr,Tryz.ntmps154,List.length_cons,List.length_nil,Nat.reduceAdd,Nat.reduceSub,List.replicate_succ,List.replicate_zero,List.cons_append,List.nil_append]
  have hD:∀ l,C.D0 l→l=⟨6,[]⟩∨l=⟨13,[]⟩∨l=⟨0,[]⟩:=fun l h=>by have:=(hC l).1 h;simp[heapL,upd] at this;(repeat' split at this)<;>simp_all
  repeat' (first|((first|apply Ba|(apply Bb;(· rfl);(· rfl))|(apply Bc;(· exact nxE))|(apply Bd;(· rfl);(· rfl);(· exact nxE)));(· first|exact Ok.pe))|((first|apply Ca|(apply Cb;(· exact nxE)));(· first|exact Ok.e0))|refine Sx ?_|(refine Sy (fun h=>?_) (fun h=>?_)<;>try (exfalso;omega;done))|refine Sz (fun h=>?_) (fun h=>?_))
  all_goals
   (refine end1p (by first|exact .inl rfl|exact .inr rfl) rfl (by first|exact rT rfl|exact rCA rfl rfl rfl rfl (by simp)|exact rCC rfl rfl rfl rfl rfl) ?_ (Le.head ([(⟨6,[]⟩,⟨6,[]⟩,⟨1,[[TL b]]⟩),(⟨13,[]⟩,⟨13,[]⟩,⟨1,[[TL s]]⟩),(⟨0,[]⟩,⟨0,[]⟩,⟨1,[[TL a]]⟩)]) (by first|exact fun l h=>absurd h (hD l)|(intro l h;rcases hD l h with rfl;simp[tauL])|(intro l h;rcases hD l h with rfl|rfl<;>simp[tauL];done)|(intro l h;rcases hD l h with rfl|rfl|rfl<;>simp[tauL])) ?_ ?_ (by simp) (by simp) (by simp[AllP]) (n':=1000));(· rfl))<;>(repeat' (first|exact trivial|exact ARs.nil|refine ARs.cons ?_ ?_|exact AR.dead _|exact AR.dd _|exact AR.i (by (try dsimp only);omega)|exact AR.ptr _ _ _ _ (by simp[heapL,upd])|exact AR.own _ _ _ _ (by simp[heapL,upd])|refine AR.ownE _ _ _ ?_ (by simp[heapL,upd])|refine ⟨⟨_,rfl,?_⟩,?_⟩|exact ObA.data|refine ObA.box ?_|refine ObA.frE ?_|refine ObA.dataE ?_|refine ARs.agg ?_|refine ARs.tup ?_|exact AR.clo' ARs.nil ARs.nil|exact AR.clo' ARs.nil (hca _ _)))
 have g1:=hbb.resolve_left h1
 have g2:=hsb.resolve_left h2
 have h1':¬ x=-1000000000000000:=h1
 have h2':¬ y=-1000000000000000:=h2
 by_cases h3:x+y=0
 ·rw[if_neg (by rintro (h|h|h);exact h1 h;exact h2 h;exact h h3)]
  refine AC.of_body 14 Tryz.func154 rfl (fun l h=>by simp[heapL,upd] at h;(repeat' split at h)<;>simp_all) (fun C hC=>?_)
  simp only[startFr,Tryz.ntmps154,List.length_cons,List.length_nil,Nat.reduceAdd,Nat.reduceSub,List.replicate_succ,List.replicate_zero,List.cons_append,List.nil_append]
  have hD:∀ l,C.D0 l→l=⟨6,[]⟩∨l=⟨13,[]⟩∨l=⟨0,[]⟩:=fun l h=>by have:=(hC l).1 h;simp[heapL,upd] at this;(repeat' split at this)<;>simp_all
  repeat' (first|((first|apply Ba|(apply Bb;(· rfl);(· rfl))|(apply Bc;(· exact nxE))|(apply Bd;(· rfl);(· rfl);(· exact nxE)));(· first|exact Ok.pe))|((first|apply Ca|(apply Cb;(· exact nxE)));(· first|exact Ok.e0))|refine Sx ?_|(refine Sy (fun h=>?_) (fun h=>?_)<;>try (exfalso;omega;done))|refine Sz (fun h=>?_) (fun h=>?_))
  all_goals
   (refine end1p (by first|exact .inl rfl|exact .inr rfl) rfl (by first|exact rT rfl|exact rCA rfl rfl rfl rfl (by simp)|exact rCC rfl rfl rfl rfl rfl) ?_ (Le.head ([(⟨6,[]⟩,⟨6,[]⟩,⟨1,[[TL b]]⟩),(⟨13,[]⟩,⟨13,[]⟩,⟨1,[[TL s]]⟩),(⟨0,[]⟩,⟨0,[]⟩,⟨1,[[TL a]]⟩)]) (by first|exact fun l h=>absurd h (hD l)|(intro l h;rcases hD l h with rfl;simp[tauL])|(intro l h;rcases hD l h with rfl|rfl<;>simp[tauL];done)|(intro l h;rcases hD l h with rfl|rfl|rfl<;>simp[tauL])) ?_ ?_ (by simp) (by simp) (by simp[AllP]) (n':=1000));(· rfl))<;>(repeat' (first|exact trivial|exact ARs.nil|refine ARs.cons ?_ ?_|exact AR.dead _|exact AR.dd _|exact AR.i (by (try dsimp only);omega)|exact AR.ptr _ _ _ _ (by simp[heapL,upd])|exact AR.own _ _ _ _ (by simp[heapL,upd])|refine AR.ownE _ _ _ ?_ (by simp[heapL,upd])|refine ⟨⟨_,rfl,?_⟩,?_⟩|exact ObA.data|refine ObA.box ?_|refine ObA.frE ?_|refine ObA.dataE ?_|refine ARs.agg ?_|refine ARs.tup ?_|exact AR.clo' ARs.nil ARs.nil|exact AR.clo' ARs.nil (hca _ _)))
 ·rw[if_pos (.inr (.inr h3))]
  unfold BOT
  refine AC.of_body 14 Tryz.func154 rfl (fun l h=>by simp[heapL,upd] at h;(repeat' split at h)<;>simp_all) (fun C hC=>?_)
  simp only[startFr,Tryz.ntmps154,List.length_cons,List.length_nil,Nat.reduceAdd,Nat.reduceSub,List.replicate_succ,List.replicate_zero,List.cons_append,List.nil_append]
  have hD:∀ l,C.D0 l→l=⟨6,[]⟩∨l=⟨13,[]⟩∨l=⟨0,[]⟩:=fun l h=>by have:=(hC l).1 h;simp[heapL,upd] at this;(repeat' split at this)<;>simp_all
  repeat' (first|((first|apply Ba|(apply Bb;(· rfl);(· rfl))|(apply Bc;(· exact nxE))|(apply Bd;(· rfl);(· rfl);(· exact nxE)));(· first|exact Ok.pe))|((first|apply Ca|(apply Cb;(· exact nxE)));(· first|exact Ok.e0))|refine Sx ?_|(refine Sy (fun h=>?_) (fun h=>?_)<;>try (exfalso;omega;done))|refine Sz (fun h=>?_) (fun h=>?_))
  all_goals
   (refine end1p (by first|exact .inl rfl|exact .inr rfl) rfl (by first|exact rT rfl|exact rCA rfl rfl rfl rfl (by simp)|exact rCC rfl rfl rfl rfl rfl) ?_ (Le.head ([(⟨6,[]⟩,⟨6,[]⟩,⟨1,[[TL b]]⟩),(⟨13,[]⟩,⟨13,[]⟩,⟨1,[[TL s]]⟩),(⟨0,[]⟩,⟨0,[]⟩,⟨1,[[TL a]]⟩)]) (by first|exact fun l h=>absurd h (hD l)|(intro l h;rcases hD l h with rfl;simp[tauL])|(intro l h;rcases hD l h with rfl|rfl<;>simp[tauL];done)|(intro l h;rcases hD l h with rfl|rfl|rfl<;>simp[tauL])) ?_ ?_ (by simp) (by simp) (by simp[AllP]) (n':=1000));(· rfl))<;>(repeat' (first|exact trivial|exact ARs.nil|refine ARs.cons ?_ ?_|exact AR.dead _|exact AR.dd _|exact AR.i (by (try dsimp only);omega)|exact AR.ptr _ _ _ _ (by simp[heapL,upd])|exact AR.own _ _ _ _ (by simp[heapL,upd])|refine AR.ownE _ _ _ ?_ (by simp[heapL,upd])|refine ⟨⟨_,rfl,?_⟩,?_⟩|exact ObA.data|refine ObA.box ?_|refine ObA.frE ?_|refine ObA.dataE ?_|refine ARs.agg ?_|refine ARs.tup ?_|exact AR.clo' ARs.nil ARs.nil|exact AR.clo' ARs.nil (hca _ _)))
set_option maxHeartbeats 2000000 in
theorem mbyCm_ac [Mode] (m n:Nat) (hmn:m=n) (a b s:List (List Int)) (ha:Sq a n) (hb:Sq b n) (hs:Sq s n) (hbb:∀ i j,i<n→j<n→entN b i j=BOT∨(-1000000000000000<entN b i j∧entN b i j≤1000000000000000)) (hsb:∀ i j,i<n→j<n→entN s i j=BOT∨(-1000000000000000<entN s i j∧entN s i j≤1000000000000000)) (hm:m≤1000) (hn:n≤1000):AC Tryz.prog 153 [I m,I n,.clo (.func 154) [] [Bx 1 6,Bx 1 13,Bx 1 0]] (heapL [(⟨6,[]⟩,⟨6,[]⟩,⟨1,[[TL b]]⟩),(⟨13,[]⟩,⟨13,[]⟩,⟨1,[[TL s]]⟩),(⟨0,[]⟩,⟨0,[]⟩,⟨1,[[TL a]]⟩)]) (.own 1 ⟨14,[]⟩ 0 m) (heapX [(⟨6,[]⟩,⟨6,[]⟩,⟨1,[[TL b]]⟩),(⟨13,[]⟩,⟨13,[]⟩,⟨1,[[TL s]]⟩),(⟨0,[]⟩,⟨0,[]⟩,⟨1,[[TL a]]⟩)] [mi1 ⟨14,[]⟩ (TR (tabF m n (crF (entN a) (entN b) (entN s))))]):=by
 refine AC.of_body 14 Tryz.func153 rfl (fun l h=>by simp[heapL,upd] at h;(repeat' split at h)<;>simp_all) (fun C hC=>?_)
 simp only[startFr,Tryz.ntmps153,List.length_cons,List.length_nil,Nat.reduceAdd,Nat.reduceSub,List.replicate_succ,List.replicate_zero,List.cons_append,List.nil_append]
 have hD:∀ l,C.D0 l→l=⟨6,[]⟩∨l=⟨13,[]⟩∨l=⟨0,[]⟩:=fun l h=>by have:=(hC l).1 h;simp[heapL,upd] at this;(repeat' split at this)<;>simp_all
 repeat' (first|((first|apply Ba|(apply Bb;(· rfl);(· rfl))|(apply Bc;(· exact nxE))|(apply Bd;(· rfl);(· rfl);(· exact nxE)));(· first|exact Ok.pe))|((first|apply Ca|(apply Cb;(· exact nxE)));(· first|exact Ok.e0))|refine Sx ?_|(refine Sy (fun h=>?_) (fun h=>?_)<;>try (exfalso;omega;done))|refine Sz (fun h=>?_) (fun h=>?_))
 refine AW.loop (X:={k:Nat // k≤m}) (fun k=>⟨[Oo,I n,.clo (.func 154) [] [Bx 1 6,Bx 1 13,Bx 1 0],Oo,Oo,Oo,Oo,.own 1 ⟨14,[]⟩ 0 m,Oo,Oo,Oo,Oo,Oo,I m,I (k.1:Nat),Oo,Oo,Oo,Oo,Oo,Oo,Oo,Oo,Oo,Oo,Oo,Oo,Oo,Oo,Oo,Oo,Oo,Oo,Oo,Oo,Oo,Oo,Oo,Oo,Oo,Oo,Oo,Oo],heapX [(⟨6,[]⟩,⟨6,[]⟩,⟨1,[[TL b]]⟩),(⟨13,[]⟩,⟨13,[]⟩,⟨1,[[TL s]]⟩),(⟨0,[]⟩,⟨0,[]⟩,⟨1,[[TL a]]⟩)] [{ l:=⟨14,[]⟩,k:=1,R:=TR (tabF k.1 n (mixF (crF (entN a) (entN b) (entN s)) zz k.1 0)),nils:=m - k.1,src:=⟨14,[]⟩,base:=⟨14,[]⟩ }],900⟩) (fun k=>m - k.1) ⟨0,Nat.zero_le _⟩ ?_ (fun k=>?_)
 ·
  (apply Le.headG [_,_,_] [{ l:=⟨14,[]⟩,k:=1,R:=[],nils:=m,src:=⟨16,[]⟩,base:=⟨16,[]⟩ }] (fun _=>False))
  (case' hlen=>rfl)
  (case' hms=>rfl)
  all_goals (try dsimp only[srcs])
  (case' hfr|hob=>(repeat' (first|refine La ?_ ?_|exact Lc|refine Lo ?_|refine ⟨⟨_,rfl,?_⟩,?_⟩|refine Lx ?_)))
  (case' hok=>first|exact ⟨MI.ok_make rfl,trivial⟩|exact trivial)
  (case' hN=>rfl)
  (case' hS=>rfl)
  all_goals (first|((intro l h;rcases hD l h with rfl|rfl|rfl<;>simp[tauX,tauM,Loc.cov];done))|exact Ld)
 obtain ⟨i,hi⟩:=k
 simp only
 by_cases hlt:i<m
 ·
  have hti:(TR (tabF i n (mixF (crF (entN a) (entN b) (entN s)) zz i 0))).length=i:=by rw[TR_len,tabF_len]
  rw[show m - i=(m - (i+1))+1 by omega]
  repeat' (first|((first|apply Ba|(apply Bb;(· rfl);(· rfl))|(apply Bc;(· exact nxE))|(apply Bd;(· rfl);(· rfl);(· exact nxE)));(· first|exact OpOk.loadCell rfl rfl rfl rfl (set_at (by simp only[outer_len];rw[hti];omega)) rfl|exact Ok.stT rfl rfl rfl (by dsimp only;rw[hti];omega) rfl|exact Ok.pe))|((first|apply Ca|(apply Cb;(· exact nxE)));(· first|exact Ok.stT rfl rfl rfl (by dsimp only;rw[hti];omega) rfl|exact Ok.e0))|refine Sx ?_|(refine Sy (fun h=>?_) (fun h=>?_)<;>try (exfalso;omega;done))|refine Sz (fun h=>?_) (fun h=>?_))
  refine AW.loop (X:={k:Nat // k≤n}) (fun k=>⟨[Oo,I n,.clo (.func 154) [] [Bx 1 6,Bx 1 13,Bx 1 0],Oo,Oo,Oo,Oo,.own 1 ⟨14,[]⟩ 0 m,I i,Oo,Oo,Oo,Oo,I m,I i,Oo,Oo,Oo,Oo,Oo,Oo,Oo,Oo,Oo,Oo,Oo,I n,I (k.1:Nat),Oo,Oo,Oo,Oo,Oo,Oo,Oo,Oo,Oo,Oo,Oo,Oo,Oo,Oo,Oo],heapX [(⟨6,[]⟩,⟨6,[]⟩,⟨1,[[TL b]]⟩),(⟨13,[]⟩,⟨13,[]⟩,⟨1,[[TL s]]⟩),(⟨0,[]⟩,⟨0,[]⟩,⟨1,[[TL a]]⟩)] [{ l:=⟨14,[]⟩,k:=1,R:=TR (tabF (i+1) n (mixF (crF (entN a) (entN b) (entN s)) zz i k.1)),nils:=m - (i+1),src:=⟨14,[]⟩,base:=⟨14,[]⟩ }],900⟩) (fun k=>n - k.1) ⟨0,Nat.zero_le _⟩ ?_ (fun k=>?_)
  ·
   (apply Le.headG [_,_,_] [{ l:=⟨14,[]⟩,k:=1,R:=TR (tabF (i+1) n (mixF (crF (entN a) (entN b) (entN s)) zz i 0)),nils:=m - (i+1),src:=⟨14,[]⟩,base:=⟨14,[]⟩,cut:=i,ext:=some ⟨906,[]⟩ }] (fun _=>False))
   (case' hlen=>rfl)
   (case' hms=>rfl)
   all_goals (try dsimp only[srcs])
   (case' hfr|hob=>(repeat' (first|refine La ?_ ?_|exact Lc|refine Lo ?_|refine ⟨⟨_,rfl,?_⟩,?_⟩|refine Lx ?_)))
   (case' hok=>first|exact ⟨MI.ok_fill (r:=List.replicate n [DI 0]) zz_snoc hti (by simp) rfl (Cg) rfl,trivial⟩|exact trivial)
   (case' hN=>rfl)
   (case' hS=>rfl)
   all_goals (first|((first|(intro l h;rcases hD l h with rfl|rfl|rfl<;>simp[tauX,tauM,Loc.cov];done)|(first|(simp[AllP,TR_len,tabF_len];done)|(simp[AllP,TR_len,tabF_len];omega))))|exact Ld)
  obtain ⟨j,hj⟩:=k
  simp only
  by_cases hlt2:j<n
  ·
   have hrw:=TRF_get (n:=n) (f:=(mixF (crF (entN a) (entN b) (entN s)) zz i j)) (show i<i+1 by omega)
   have hlr:(IR (rowF n ((mixF (crF (entN a) (entN b) (entN s)) zz i j) i))).length=n:=by rw[IR_len,rowF_len]
   repeat' (first|((first|apply Ba|(apply Bb;(· rfl);(· rfl))|(apply Bc;(· exact nxE))|(apply Bd;(· rfl);(· rfl);(· exact nxE)));(· first|exact Ok.ldTn rfl rfl rfl hrw hlr|exact OpOk.callS ([(⟨6,[]⟩,⟨6,[]⟩,⟨1,[[TL b]]⟩),(⟨13,[]⟩,⟨13,[]⟩,⟨1,[[TL s]]⟩),(⟨0,[]⟩,⟨0,[]⟩,⟨1,[[TL a]]⟩)]) rfl rfl (crFnM_ac a b s n ha hb hs i j (by omega) hlt2 (hbb _ _ (by omega) hlt2) (hsb _ _ hlt2 (by omega))) (by intro p hp;simp only[List.mem_cons,List.not_mem_nil,or_false] at hp;rcases hp with rfl|rfl|rfl<;>rfl) hsCm_ok (.d _) (.cons (.dd _) (.cons (.dd _) (.cons (AR.ptr _ _ _ _ (by simp)) (.cons (AR.ptr _ _ _ _ (by simp)) (.cons (AR.ptr _ _ _ _ (by simp)) .nil)))))|exact Ok.st1 rfl rfl (congrArg (Option.map (dobj 1)) hrw) (by simp[rowF_len];omega) (by rw[IRF_get hlt2];rfl) rfl rfl IR_set|exact Ok.pe))|((first|apply Ca|(apply Cb;(· exact nxE)));(· first|exact Ok.st1 rfl rfl (congrArg (Option.map (dobj 1)) hrw) (by simp[rowF_len];omega) (by rw[IRF_get hlt2];rfl) rfl rfl IR_set|exact Ok.e0))|refine Sx ?_|(refine Sy (fun h=>?_) (fun h=>?_)<;>try (exfalso;omega;done))|refine Sz (fun h=>?_) (fun h=>?_))
   refine ⟨⟨j+1,by omega⟩,?_,by simp only;omega⟩
   (apply Le.headG [_,_,_] [{ l:=⟨14,[]⟩,k:=1,R:=TR (tabF (i+1) n (mixF (crF (entN a) (entN b) (entN s)) zz i (j+1))),nils:=m - (i+1),src:=⟨14,[]⟩,base:=⟨14,[]⟩ }] (fun _=>False))
   (case' hlen=>rfl)
   (case' hms=>rfl)
   all_goals (try dsimp only[srcs])
   (case' hfr|hob=>(repeat' (first|refine La ?_ ?_|exact Lc|refine Lo ?_|refine ⟨⟨_,rfl,?_⟩,?_⟩|refine Lx ?_)))
   (case' hok=>first|exact ⟨MI.ok_row (tabF_set (fun a b _ _=>mixF_set)) hrw (by simp) rfl (Cg),trivial⟩|exact trivial)
   (case' hN=>rfl)
   (case' hS=>rfl)
   all_goals (first|((intro l h;rcases hD l h with rfl|rfl|rfl<;>simp[tauX,tauM,Loc.cov];done))|exact Ld)
  ·
   have hjn:j=n:=by omega
   subst hjn
   rw[mixF_row]
   repeat' (first|((first|apply Ba|(apply Bb;(· rfl);(· rfl))|(apply Bc;(· exact nxE))|(apply Bd;(· rfl);(· rfl);(· exact nxE)));(· first|exact Ok.pe))|((first|apply Ca|(apply Cb;(· exact nxE)));(· first|exact Ok.e0))|refine Sx ?_|(refine Sy (fun h=>?_) (fun h=>?_)<;>try (exfalso;omega;done))|refine Sz (fun h=>?_) (fun h=>?_))
   refine ⟨⟨i+1,by omega⟩,?_,by simp only;omega⟩
   (apply Le.headG [_,_,_] [{ l:=⟨14,[]⟩,k:=1,R:=TR (tabF (i+1) j (mixF (crF (entN a) (entN b) (entN s)) zz (i+1) 0)),nils:=m - (i+1),src:=⟨14,[]⟩,base:=⟨14,[]⟩ }] (fun _=>False))
   (case' hlen=>rfl)
   (case' hms=>rfl)
   all_goals (try dsimp only[srcs])
   (case' hfr|hob=>(repeat' (first|refine La ?_ ?_|exact Lc|refine Lo ?_|refine ⟨⟨_,rfl,?_⟩,?_⟩|refine Lx ?_)))
   (case' hok=>first|exact ⟨MI.ok_same rfl (Cg),trivial⟩|exact trivial)
   (case' hN=>rfl)
   (case' hS=>rfl)
   all_goals (first|((intro l h;rcases hD l h with rfl|rfl|rfl<;>simp[tauX,tauM,Loc.cov];done))|exact Ld)
 ·
  have him:i=m:=by omega
  subst him
  rw[Nat.sub_self,mixF_all]
  repeat' (first|((first|apply Ba|(apply Bb;(· rfl);(· rfl))|(apply Bc;(· exact nxE))|(apply Bd;(· rfl);(· rfl);(· exact nxE)));(· first|exact Ok.pe))|((first|apply Ca|(apply Cb;(· exact nxE)));(· first|exact Ok.e0))|refine Sx ?_|(refine Sy (fun h=>?_) (fun h=>?_)<;>try (exfalso;omega;done))|refine Sz (fun h=>?_) (fun h=>?_))
  refine Ya ?_
  (apply Le.headG [⟨6,[]⟩,⟨13,[]⟩,⟨0,[]⟩] [mi1 ⟨14,[]⟩ (TR (tabF i n (crF (entN a) (entN b) (entN s))))] (fun _=>False))
  (case' hlen=>rfl)
  (case' hms=>rfl)
  all_goals (try dsimp only[srcs])
  (case' hfr|hob=>(repeat' (first|refine La ?_ ?_|exact Lc|refine Lo ?_|refine ⟨⟨_,rfl,?_⟩,?_⟩|refine Lx ?_)))
  (case' hok=>first|exact ⟨MI.ok_same rfl (Cg),trivial⟩|exact trivial)
  (case' hN=>rfl)
  (case' hS=>rfl)
  all_goals (first|((intro l h;rcases hD l h with rfl|rfl|rfl<;>simp[tauX,tauM,Loc.cov];done))|exact Ld)
noncomputable def cmT (t:List (List Int)) (n:Nat) (r:Int × Int):List (List Int):=tabF n n (crF (entN t) (entN (shT t n r.1 r.2)) (entN (tabF n n (starF (entN (shT t n r.1 r.2)) n))))
set_option maxHeartbeats 2000000 in
theorem criticalMatrix_ac [Mode] (t:List (List Int)) (n:Nat) (hM:MatOk t n) (p q:Int) (hp : -10000000≤p∧p≤10000000) (hq:0<q∧q≤10) (hst:StarM (shT t n p q) n):AC Tryz.prog 117 [TL t,.agg [I p,I q]] H0 (own1 1 n) (hpM 1 (TR (cmT t n (p,q)))):=by
 have hn:=hM.le
 have htl:(mRows 1 (TR t)).length=n:=by rw[mTR_len,hM.sq.l]
 have hSh:=(shifted_ac t n hM p q hp hq).frzT (by rw[TR_len];exact shT_sq.l)
 have hSt:=(starOf_ac (shT t n p q) n hst).frzT2 (by rw[TR_len,tabF_len])
 have hF:=mbyCm_ac n n rfl t (shT t n p q) (tabF n n (starF (entN (shT t n p q)) n)) hM.sq shT_sq ⟨tabF_len,tabF_rc.r⟩ (fun i j hi hj=>by
  rcases shT_big hM hp hq i j with e|e
  ·exact .inl e
  ·right;omega) (fun i j hi hj=>by
  rw[tabF_ent hi hj]
  rw[hst.star hi hj]
  rcases hst.cells (Nat.le_refl n) hi hj with e|e
  ·exact .inl e
  ·right;omega) (by omega) (by omega)
 unfold cmT
 simp only
 generalize shT t n p q=b at *
 generalize tabF n n (starF (entN b) n)=s at *
 refine AC.of_body 0 Tryz.func117 rfl (fun l h=>absurd rfl h) (fun C hC=>?_)
 have hD:∀ l,¬ C.D0 l:=fun l h=>(hC l).1 h rfl
 simp only[startFr,Tryz.ntmps117,List.length_cons,List.length_nil,Nat.reduceAdd,Nat.reduceSub,List.replicate_succ,List.replicate_zero,List.cons_append,List.nil_append]
 repeat' (first|((first|apply Ba|(apply Bb;(· rfl);(· rfl))|(apply Bc;(· exact nxE))|(apply Bd;(· rfl);(· rfl);(· exact nxE)));(· first|exact Ok.lenD rfl rfl htl|exact Kz rfl rfl (hSh) (Ad (Aa (Ad (Ad An)) An))|exact Kz rfl rfl (hSt) (Ad An)|exact OpOk.callSX (hsCm (TD t) (TD b) (TD s)) [mi1 ⟨14,[]⟩ (TR (tabF n n (crF (entN t) (entN b) (entN s))))] rfl rfl hF (by intro p hp;simp only[List.mem_cons,List.not_mem_nil,or_false] at hp;rcases hp with rfl|rfl|rfl<;>rfl) hsCm_ok (by simp[Loc.cov]) (.cons (.dd _) (.cons (.dd _) (.cons (AR.clo' .nil (.cons (AR.ptr _ _ _ _ (by simp)) (.cons (AR.ptr _ _ _ _ (by simp)) (.cons (AR.ptr _ _ _ _ (by simp)) .nil)))) .nil))) (by simp[rn,emb];rfl)|exact Ok.pe))|((first|apply Ca|(apply Cb;(· exact nxE)));(· first|exact OpOk.callSX (hsCm (TD t) (TD b) (TD s)) [mi1 ⟨14,[]⟩ (TR (tabF n n (crF (entN t) (entN b) (entN s))))] rfl rfl hF (by intro p hp;simp only[List.mem_cons,List.not_mem_nil,or_false] at hp;rcases hp with rfl|rfl|rfl<;>rfl) hsCm_ok (by simp[Loc.cov]) (.cons (.dd _) (.cons (.dd _) (.cons (AR.clo' .nil (.cons (AR.ptr _ _ _ _ (by simp)) (.cons (AR.ptr _ _ _ _ (by simp)) (.cons (AR.ptr _ _ _ _ (by simp)) .nil)))) .nil))) (by simp[rn,emb];rfl)|exact Ok.e0))|refine Sx ?_|(refine Sy (fun h=>?_) (fun h=>?_)<;>try (exfalso;omega;done))|refine Sz (fun h=>?_) (fun h=>?_))
 refine Ya ?_
 (apply Le.headG [] [{ l:=⟨0,[]⟩,k:=1,R:=TR (tabF n n (crF (entN t) (entN b) (entN s))),src:=⟨21,[14]⟩,base:=⟨21,[14]⟩ }] (fun _=>False))
 (case' hlen=>rfl)
 (case' hms=>rfl)
 all_goals (try dsimp only[srcs])
 (case' hfr|hob=>(repeat' (first|refine La ?_ ?_|exact Lc|refine Lo ?_|refine ⟨⟨_,rfl,?_⟩,?_⟩|refine Lx ?_)))
 (case' hok=>first|exact ⟨MI.ok_same rfl (Cg),trivial⟩|exact trivial)
 (case' hN=>rfl)
 (case' hS=>rfl)
 all_goals (first|exact Ld|(rfl))
theorem bestFn_ac [Mode] (l:List Int) (w:Int):AC Tryz.prog 130 [IL l,I w] H0 (Bo true) H0:=by
 refine AC.of_body 0 Tryz.func130 rfl (fun l h=>absurd rfl h) (fun C hC=>?_)
 have hD:∀ l,¬ C.D0 l:=fun l h=>(hC l).1 h rfl
 simp only[startFr,Tryz.ntmps130,List.length_cons,List.length_nil,Nat.reduceAdd,Nat.reduceSub,List.replicate_succ,List.replicate_zero,List.cons_append,List.nil_append]
 repeat' (first|((first|apply Ba|(apply Bb;(· rfl);(· rfl))|(apply Bc;(· exact nxE))|(apply Bd;(· rfl);(· rfl);(· exact nxE)));(· first|exact Ok.pe))|((first|apply Ca|(apply Cb;(· exact nxE)));(· first|exact Ok.e0))|refine Sx ?_|(refine Sy (fun h=>?_) (fun h=>?_)<;>try (exfalso;omega;done))|refine Sz (fun h=>?_) (fun h=>?_))
 refine Ya ?_
 (apply Le.headZ (hs:=[]) [] rfl)
 all_goals (try dsimp only[srcs])
 (case' hfr=>(repeat' (first|refine La ?_ ?_|exact Lc|refine Lo ?_|refine ⟨⟨_,rfl,?_⟩,?_⟩|refine Lx ?_)))
 all_goals (first|exact Ld|exact trivial|(rfl))
theorem starM_k [Mode] {t:List (List Int)}{n:Nat} (h:MatOk t n) (hc:hasK (entN t) n):StarM (shT t n (kmR (entN t) n).1 (kmR (entN t) n).2) n:=by
 obtain ⟨h1,h2,h3,h4⟩:=kmR_ok h.b h.le hc
 have hnp:=noPosK h.b h.le hc
 have hbig:=shT_big h h3 h4
 refine ⟨⟨shT_sq.l,shT_sq.r⟩,h.pos,h.le,fun u v hne=>?_,?_⟩
 ·by_cases hv:v<n
  ·by_cases hu:u<n
   ·rw[shT_ent hv hu] at hne ⊢
    have:=sh_bnd h.b h3 h4 u v hne;omega
   ·rw[shT_out (.inr (by omega))];decide
  ·rw[shT_out (.inl (by omega))];decide
 ·intro u c hu hcl hw
  have key:∀ (c:List Nat) (u v:Nat),u<n→v<n→(∀ x∈c,x<n)→(WM (entN (shT t n (kmR (entN t) n).1 (kmR (entN t) n).2)) u c v↔WM (shF (entN t) (kmR (entN t) n).1 (kmR (entN t) n).2) u c v)∧wM (entN (shT t n (kmR (entN t) n).1 (kmR (entN t) n).2)) u c v=wM (shF (entN t) (kmR (entN t) n).1 (kmR (entN t) n).2) u c v:=by
   intro c
   induction c with
   | nil=>intro u v hu hv _;simp only[WM,wM];rw[shT_ent hv hu];exact ⟨Iff.rfl,rfl⟩
   | cons m c ih=>
    intro u v hu hv hx
    have hm:=hx m (by simp)
    obtain ⟨i1,i2⟩:=ih m v hm hv (fun x hx'=>hx x (by simp[hx']))
    simp only[WM,wM]
    rw[shT_ent hm hu,i1,i2]
    exact ⟨Iff.rfl,rfl⟩
  obtain ⟨k1,k2⟩:=key c u u hu hu hcl
  rw[k2]
  exact hnp u c hu hcl (k1.1 hw)
theorem best_cm [Mode] {t:List (List Int)}{n:Nat} (h:MatOk t n) (hc:hasK (entN t) n):fstF (entN (cmT t n (kmR (entN t) n))) n=bkF t n (kmR (entN t) n) (-1):=by
 obtain ⟨h1,h2,h3,h4⟩:=kmR_ok h.b h.le hc
 have hst:=starM_k h hc
 have hs:=hst.ok
 have hs':StarOk (entN (shT t n (kmR (entN t) n).1 (kmR (entN t) n).2)) n (starF (entN (shT t n (kmR (entN t) n).1 (kmR (entN t) n).2)) n):=hs
 have hnp:∀ u l,u<n→(∀ x∈l,x<n)→kP (entN (shT t n (kmR (entN t) n).1 (kmR (entN t) n).2)) u l→kE u l=u→kW (entN (shT t n (kmR (entN t) n).1 (kmR (entN t) n).2)) u l≤0:=fun u l hu hl hp he=>by
  by_cases h0:l=[]
  ·subst h0;simp[kW]
  ·obtain ⟨c,v,rfl⟩:=snoc_of h0
   rw[kE_app] at he
   simp only[kE] at he
   subst he
   have key:∀ (c:List Nat) (u v:Nat) (W:Nat→Nat→Int),(WM W u c v↔kP W u (c++[v]))∧wM W u c v=kW W u (c++[v]):=by
    intro c
    induction c with
    | nil=>intro u v W;simp[WM,kP,wM,kW]
    | cons m c ih=>intro u v W;simp only[WM,wM,List.cons_append,kP,kW];rw[(ih m v W).1,(ih m v W).2];exact ⟨Iff.rfl,rfl⟩
   rw[← (key c v v _).2]
   exact hst.np v c hu (fun x hx=>hl x (by simp[hx])) ((key c v v _).1.2 hp)
 have hK:=star_k hs' hnp
 unfold bkF
 rw[← overF_congr (a:=entN (shT t n (kmR (entN t) n).1 (kmR (entN t) n).2)) (fun u v hu hv=>shT_ent hu hv)]
 refine (best_fst hK (fun u v hu hv=>?_)).symm
 unfold cmT
 rw[tabF_ent hv hu]
 unfold crF crit
 rw[tabF_ent hu hv]
 by_cases hcr:entN (shT t n (kmR (entN t) n).1 (kmR (entN t) n).2) v u=BOT∨starF (entN (shT t n (kmR (entN t) n).1 (kmR (entN t) n).2)) n u v=BOT∨entN (shT t n (kmR (entN t) n).1 (kmR (entN t) n).2) v u+starF (entN (shT t n (kmR (entN t) n).1 (kmR (entN t) n).2)) n u v≠0
 ·rw[if_pos hcr]
  constructor
  ·intro h;exact absurd rfl h
  ·rintro ⟨a1,a2,a3⟩
   rcases hcr with e|e|e
   ·exact absurd e a1
   ·exact absurd e a2
   ·exact absurd a3 e
 ·rw[if_neg hcr]
  simp only[not_or,Decidable.not_not] at hcr
  have hne:entN t v u≠BOT:=by
   have:=hcr.1
   rw[shT_ent hv hu] at this
   exact (shF_ne (sh_ne h.b h3 h4)).1 this
  exact ⟨fun _=>hcr,fun _=>hne⟩
set_option maxHeartbeats 2000000 in
theorem bestCycle_ac [Mode] (t:List (List Int)) (n:Nat) (hM:MatOk t n) (hc:hasK (entN t) n):AC Tryz.prog 76 [TL t,.agg [I (kmR (entN t) n).1,I (kmR (entN t) n).2]] H0 (own1 1 (bkF t n (kmR (entN t) n) (-1)).length) (hp1 (IO (cN (bkF t n (kmR (entN t) n) (-1))))):=by
 obtain ⟨h1,h2,h3,h4⟩:=kmR_ok hM.b hM.le hc
 have hn:=hM.le
 have hCr:=(criticalMatrix_ac t n hM (kmR (entN t) n).1 (kmR (entN t) n).2 h3 h4 (starM_k hM hc)).frzT (by rw[TR_len];exact tabF_len)
 have hFi:=firstCycle_ac (cmT t n (kmR (entN t) n)) n ⟨tabF_len,tabF_rc.r⟩ (by omega) 130 bestFn_ac
 rw[best_cm hM hc] at hFi
 obtain ⟨f,r,e,_⟩:=best_ne hM.b hM.le hc
 have hne:bkF t n (kmR (entN t) n) (-1)≠[]:=by show overF _ _ _≠[];rw[e];simp
 rw[if_neg hne,if_neg hne] at hFi
 generalize bkF t n (kmR (entN t) n) (-1)=c at *
 generalize cmT t n ((kmR (entN t) n).1,(kmR (entN t) n).2)=cm at *
 generalize kmR (entN t) n=m at *
 obtain ⟨p,q⟩:=m
 simp only at *
 refine AC.of_body 0 Tryz.func76 rfl (fun l h=>absurd rfl h) (fun C hC=>?_)
 have hD:∀ l,¬ C.D0 l:=fun l h=>(hC l).1 h rfl
 simp only[startFr,Tryz.ntmps76,List.length_cons,List.length_nil,Nat.reduceAdd,Nat.reduceSub,List.replicate_succ,List.replicate_zero,List.cons_append,List.nil_append]
 repeat' (first|((first|apply Ba|(apply Bb;(· rfl);(· rfl))|(apply Bc;(· exact nxE))|(apply Bd;(· rfl);(· rfl);(· exact nxE)));(· first|exact Kz rfl rfl (hCr) (Ad (Aa (Ad (Ad An)) An))|exact Eo rfl rfl hFi (Sd (Cc Sn))|exact Ok.pe))|((first|apply Ca|(apply Cb;(· exact nxE)));(· first|exact Eo rfl rfl hFi (Sd (Cc Sn))|exact Ok.e0))|refine Sx ?_|(refine Sy (fun h=>?_) (fun h=>?_)<;>try (exfalso;omega;done))|refine Sz (fun h=>?_) (fun h=>?_))
 refine Ya ?_
 (apply Le.head [(⟨0,[]⟩,_,_)])
 (case' hfr|hob=>(repeat' (first|refine La ?_ ?_|exact Lc|refine Lo ?_|refine ⟨⟨_,rfl,?_⟩,?_⟩|refine Lx ?_)))
 all_goals (first|exact Ld|(rfl))
theorem kmR_get [Mode] {t:List (List Int)}{n:Nat} (h:MatOk t n) (hc:hasK (entN t) n):bsV (kD (entN t) n) n n=some (kmR (entN t) n):=karp_yes h.b h.le h.pos hc
set_option maxHeartbeats 1000000 in
theorem iBestCycle_ac [Mode] (t:List (List Int)) (ht:t.length≤100000000) (hr:∀ r∈t,r.length≤100000000):AC Tryz.prog 29 [TL t] H0 (.tup [own1 1 (bmL t).length,I (bmC t)]) (hp1 (IO (cN (bmL t)))):=by
 have hQ:=iIsSquare_ac t ht hr
 by_cases hs:isSq t=true
 ·rw[hs] at hQ
  have hM:=isSq_ok hs
  have hCm:=cycleMean_ac t t.length hM
  by_cases hc:hasK (entN t) t.length
  ·have e:bmC t=0:=by unfold bmC;rw[if_pos hs,if_pos hc]
   unfold bmL
   rw[e,if_pos rfl]
   rw[kmR_get hM hc] at hCm
   simp only[Option.getD,Option.isSome] at hCm
   have hB:=bestCycle_ac t t.length hM hc
   generalize bkF t t.length (kmR (entN t) t.length) (-1)=c at *
   generalize kmR (entN t) t.length=m at *
   refine AC.of_body 0 Tryz.func29 rfl (fun l h=>absurd rfl h) (fun C hC=>?_)
   have hD:∀ l,¬ C.D0 l:=fun l h=>(hC l).1 h rfl
   simp only[startFr,Tryz.ntmps29,List.length_cons,List.length_nil,Nat.reduceAdd,Nat.reduceSub,List.replicate_succ,List.replicate_zero,List.cons_append,List.nil_append]
   repeat' (first|((first|apply Ba|(apply Bb;(· rfl);(· rfl))|(apply Bc;(· exact nxE))|(apply Bd;(· rfl);(· rfl);(· exact nxE)));(· first|exact Kz rfl rfl (hQ) (Ad An)|exact Kz rfl rfl (hCm) (Ad An)|exact Eo rfl rfl (hB) (Sd (Sa (Sd (Sd Sn)) Sn))|exact Ok.pe))|((first|apply Ca|(apply Cb;(· exact nxE)));(· first|exact Eo rfl rfl (hB) (Sd (Sa (Sd (Sd Sn)) Sn))|exact Ok.e0))|refine Sx ?_|(refine Sy (fun h=>?_) (fun h=>?_)<;>try (exfalso;omega;done))|refine Sz (fun h=>?_) (fun h=>?_))
   refine Yb ?_
   (apply Le.head [(⟨0,[]⟩,_,_)])
   (case' hfr|hob=>(repeat' (first|refine La ?_ ?_|exact Lc|refine Lo ?_|refine ⟨⟨_,rfl,?_⟩,?_⟩|refine Lx ?_)))
   all_goals (first|exact Ld|(rfl))
  ·have e:bmC t=4:=by unfold bmC;rw[if_pos hs,if_neg hc]
   unfold bmL
   rw[e,if_neg (by decide)]
   rw[karp_no hM.b hM.le hc] at hCm
   simp only[Option.getD,Option.isSome] at hCm
   refine AC.of_body 0 Tryz.func29 rfl (fun l h=>absurd rfl h) (fun C hC=>?_)
   have hD:∀ l,¬ C.D0 l:=fun l h=>(hC l).1 h rfl
   simp only[startFr,Tryz.ntmps29,List.length_cons,List.length_nil,Nat.reduceAdd,Nat.reduceSub,List.replicate_succ,List.replicate_zero,List.cons_append,List.nil_append]
   repeat' (first|((first|apply Ba|(apply Bb;(· rfl);(· rfl))|(apply Bc;(· exact nxE))|(apply Bd;(· rfl);(· rfl);(· exact nxE)));(· first|exact Kz rfl rfl (hQ) (Ad An)|exact Kz rfl rfl (hCm) (Ad An)|exact Ok.pe))|((first|apply Ca|(apply Cb;(· exact nxE)));(· first|exact Ok.e0))|refine Sx ?_|(refine Sy (fun h=>?_) (fun h=>?_)<;>try (exfalso;omega;done))|refine Sz (fun h=>?_) (fun h=>?_))
   exact end2nil (.inl rfl) rfl (rT rfl) (rT rfl) hD
 ·have e:bmC t=1:=by unfold bmC;rw[if_neg hs]
  unfold bmL
  rw[e,if_neg (by decide)]
  rw[Bool.not_eq_true] at hs
  rw[hs] at hQ
  refine AC.of_body 0 Tryz.func29 rfl (fun l h=>absurd rfl h) (fun C hC=>?_)
  have hD:∀ l,¬ C.D0 l:=fun l h=>(hC l).1 h rfl
  simp only[startFr,Tryz.ntmps29,List.length_cons,List.length_nil,Nat.reduceAdd,Nat.reduceSub,List.replicate_succ,List.replicate_zero,List.cons_append,List.nil_append]
  repeat' (first|((first|apply Ba|(apply Bb;(· rfl);(· rfl))|(apply Bc;(· exact nxE))|(apply Bd;(· rfl);(· rfl);(· exact nxE)));(· first|exact Kz rfl rfl (hQ) (Ad An)|exact Ok.pe))|((first|apply Ca|(apply Cb;(· exact nxE)));(· first|exact Ok.e0))|refine Sx ?_|(refine Sy (fun h=>?_) (fun h=>?_)<;>try (exfalso;omega;done))|refine Sz (fun h=>?_) (fun h=>?_))
  exact end2nil (.inl rfl) rfl (rT rfl) (rT rfl) hD
end
section
open Go Go.RowKit
attribute [local irreducible] AL AD AW OpOk Le AC thenQ blockQ EndQ
structure RtZ (r:Int × Int):Prop where
 n : -1000000000000≤r.1∧r.1≤1000000000000
 d:1≤r.2∧r.2≤1000000
 g:Nat.gcd r.1.natAbs r.2.toNat=1
theorem bmC_cases [Mode] (t:List (List Int)):(bmC t=1∧isSq t=false)∨(isSq t=true∧hasK (entN t) t.length∧bmC t=0)∨(isSq t=true∧¬ hasK (entN t) t.length∧bmC t=4):=by
 unfold bmC
 by_cases hs:isSq t=true
 ·rw[if_pos hs]
  by_cases hc:hasK (entN t) t.length
  ·rw[if_pos hc];exact .inr (.inl ⟨hs,hc,rfl⟩)
  ·rw[if_neg hc];exact .inr (.inr ⟨hs,hc,rfl⟩)
 ·rw[if_neg hs];exact .inl ⟨rfl,by simpa using hs⟩
end
section
open Go Go.RowKit
def RchP (W:Nat→Nat→Int) (n u e:Nat):Prop:=∃ l:List Nat,(∀ x∈l,x<n)∧kP W u l∧kE u l=e
section
variable {W : Nat → Nat → Int} {n : Nat}
theorem RchP.refl {u:Nat}:RchP W n u u:=⟨[],by simp,trivial,rfl⟩
theorem RchP.one {u v:Nat} (hv:v<n) (h:W v u≠BOT):RchP W n u v:=⟨[v],by simpa using hv,⟨h,trivial⟩,rfl⟩
theorem RchP.trans {u v w:Nat} (h:RchP W n u v) (h':RchP W n v w):RchP W n u w:=by
 obtain ⟨a,a1,a2,rfl⟩:=h
 obtain ⟨b,b1,b2,rfl⟩:=h'
 exact ⟨a++b,fun x hx=>(List.mem_append.1 hx).elim (a1 x) (b1 x),(kP_app a b u).2 ⟨a2,b2⟩,kE_app a b u⟩
theorem RchP.short {u e:Nat} (hu:u<n):∀ (m:Nat) (l:List Nat),l.length≤m→(∀ x∈l,x<n)→kP W u l→kE u l=e→∃ l:List Nat,l.length<n∧(∀ x∈l,x<n)∧kP W u l∧kE u l=e:=by
 intro m
 induction m with
 | zero=>
  intro l hl h1 h2 h3
  have:l=[]:=List.length_eq_zero_iff.1 (by omega)
  subst this
  exact ⟨[],by simp;omega,h1,h2,h3⟩
 | succ m ih=>
  intro l hl h1 h2 h3
  by_cases hn:l.length<n
  ·exact ⟨l,hn,h1,h2,h3⟩
  ·obtain ⟨a,b,c,rfl,hb,hk⟩:=kround hu h1 (by omega)
   have hbl:=List.length_pos_iff.2 hb
   have p1:=(kP_app a (b++c) u).1 h2
   have p2:=(kP_app b c (kE u a)).1 p1.2
   rw[hk] at p2
   refine ih (a++c) (by simp at hl ⊢;omega) (fun x hx=>h1 x (by simp at hx ⊢;rcases hx with hx|hx<;>simp[hx])) ((kP_app a c u).2 ⟨p1.1,p2.2⟩) ?_
   rw[kE_app] at h3 ⊢
   rw[kE_app,hk] at h3
   exact h3
theorem rcV_hitP {v:Nat}{g:Nat→Bool} (hv:v<n) (h:g v=true):∀ (m:Nat) (l:List Nat),l.length≤m→(∀ x∈l,x<n)→kP W v l→rcV W n m g (kE v l)=true:=by
 intro m
 induction m with
 | zero=>
  intro l hl _ _
  have:l=[]:=List.length_eq_zero_iff.1 (by omega)
  subst this
  exact h
 | succ m ih=>
  intro l hl h1 h2
  by_cases h0:l=[]
  ·subst h0;exact rcV_mono h (m+1)
  ·obtain ⟨c,x,rfl⟩:=snoc_of h0
   have hx:=h1 x (by simp)
   have hc:∀ y∈c,y<n:=fun y hy=>h1 y (by simp[hy])
   have p:=(kP_app c [x] v).1 h2
   have hi:=ih c (by simp at hl;omega) hc p.1
   rw[kE_app]
   exact rcI_hit hi (kE_lt hv hc) p.2.1 n hx
theorem rch_iff {u e:Nat} (hu:u<n) (he:e<n):rchF W n u e=true↔RchP W n u e:=by
 constructor
 ·intro h
  exact rcV_snd (R:=fun j=>RchP W n u j) (fun i k hi hk hr hw=>hr.trans (.one hi hw)) (fun j _ hj=>by rw[of_decide_eq_true hj];exact .refl) n e he h
 ·rintro ⟨l,h1,h2,h3⟩
  obtain ⟨l,k1,k2,k3,rfl⟩:=RchP.short hu l.length l (Nat.le_refl _) h1 h2 h3
  exact rcV_hitP hu (by simp) n l (by omega) k2 k3
def wsE (W:Nat→Nat→Int) (u v:Nat):Bool:=decide (u=v) || decide (W v u≠BOT)
def wsB (W:Nat→Nat→Int):Nat→Nat→Nat→Bool
 | 0=>wsE W
 | k+1=>fun u v=>wsB W k u v || (wsB W k u k&&wsB W k k v)
theorem wsB_snd:∀ k,k≤n→∀ u v,u<n→v<n→wsB W k u v=true→RchP W n u v
 | 0,_,u,v,hu,hv,h=>by
  simp only[wsB,wsE,Bool.or_eq_true,decide_eq_true_eq] at h
  rcases h with rfl|h
  ·exact .refl
  ·exact .one hv h
 | k+1,hk,u,v,hu,hv,h=>by
  simp only[wsB,Bool.or_eq_true,Bool.and_eq_true] at h
  rcases h with h|⟨h1,h2⟩
  ·exact wsB_snd k (by omega) u v hu hv h
  ·exact (wsB_snd k (by omega) u k hu (by omega) h1).trans (wsB_snd k (by omega) k v (by omega) hv h2)
theorem wsB_mono {u v:Nat} (h:wsE W u v=true):∀ k,wsB W k u v=true
 | 0=>h
 | k+1=>by simp only[wsB,Bool.or_eq_true];exact .inl (wsB_mono h k)
theorem wsB_trans:∀ k m,m<k→∀ u v,wsB W k u m=true→wsB W k m v=true→wsB W k u v=true
 | k+1,m,hm,u,v,h1,h2=>by
  simp only[wsB,Bool.or_eq_true,Bool.and_eq_true] at h1 h2 ⊢
  by_cases e:m=k
  ·subst e
   exact .inr ⟨h1.elim id (fun h=>h.1),h2.elim id (fun h=>h.2)⟩
  ·have ih:=fun u v=>wsB_trans k m (by omega) u v
   rcases h1 with h1|⟨h1,h3⟩<;>rcases h2 with h2|⟨h2,h4⟩
   ·exact .inl (ih u v h1 h2)
   ·exact .inr ⟨ih u k h1 h2,h4⟩
   ·exact .inr ⟨h1,ih k v h3 h2⟩
   ·exact .inr ⟨h1,h4⟩
theorem wsB_hit:∀ (l:List Nat) (u:Nat),(∀ x∈l,x<n)→kP W u l→wsB W n u (kE u l)=true
 | [],u,_,_=>wsB_mono (by simp[wsE,kE]) n
 | v :: l,u,h1,h2=>by
  have ih:=wsB_hit l v (fun x hx=>h1 x (by simp[hx])) h2.2
  exact wsB_trans n v (h1 v (by simp)) u _ (wsB_mono (by simp[wsE,h2.1]) n) ih
theorem wsB_rch {u v:Nat} (hu:u<n) (hv:v<n):wsB W n u v=rchF W n u v:=by
 rw[Bool.eq_iff_iff,rch_iff hu hv]
 constructor
 ·exact wsB_snd n (Nat.le_refl _) u v hu hv
 ·rintro ⟨l,h1,h2,rfl⟩
  exact wsB_hit l u h1 h2
theorem wsB_col {k u:Nat}:wsB W (k+1) u k=wsB W k u k:=by
 simp only[wsB];cases wsB W k u k<;>simp
theorem wsB_row {k v:Nat}:wsB W (k+1) k v=wsB W k k v:=by
 simp only[wsB];cases wsB W k k v<;>simp
end
end
end Go.Proofs.YtkpoclbnnpglfaaGreat
