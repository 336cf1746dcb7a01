/-
  Walks in the abstract reading, part 6.
-/
import Derived.Test.YtkpoclbnnpglfaaGreatKtU5
import Derived.Test.YtkpoclbnnpglfaaGreatKtA2
set_option linter.unusedSimpArgs false
set_option linter.unusedVariables false
namespace Go.Proofs.YtkpoclbnnpglfaaGreat
section
open Go Go.RowKit
attribute [local irreducible] AL AD AW OpOk Le AC thenQ blockQ EndQ
theorem set_at [Mode] {rows:List (List AV)}{i:Nat}{x:List AV} (h:i<rows.length):(rows.set i x)[0+((i:Nat):Int).toNat]? = some x:=by simp[h]
def zz:Nat→Nat→Int:=fun _ _=>0
theorem zz_snoc [Mode] {f:Nat→Nat→Int}{i n:Nat}:TR (tabF (i+1) n (mixF f zz i 0))=TR (tabF i n (mixF f zz i 0))++[List.replicate n [DI 0]]:=by
 have h:IR (rowF n (mixF f zz i 0 i))=List.replicate n [DI 0]:=by
  have e:rowF n (mixF f zz i 0 i)=List.replicate n 0:=by
   apply List.ext_getElem?
   intro j
   by_cases hj:j<n
   ·rw[rowF_get hj,List.getElem?_replicate,if_pos hj];simp[mixF,zz]
   ·rw[List.getElem?_eq_none (by rw[rowF_len];omega),List.getElem?_eq_none (by simp;omega)]
  rw[e];simp
 rw[← h]
 simp[tabF,List.range_succ]
theorem unitFn_ac [Mode] (i j:Nat):AC Tryz.prog 168 [I i,I j] H0 (I (unitF i j)) H0:=by
 unfold unitF
 by_cases h:i=j
 ·rw[if_pos h]
  subst h
  refine AC.of_body 0 Tryz.func168 rfl (fun l h=>absurd rfl h) (fun C hC=>?_)
  have hD:∀ l,¬ C.D0 l:=fun l h=>(hC l).1 h rfl
  simp only[startFr,Tryz.ntmps168,List.length_cons,List.length_nil,Nat.reduceAdd,Nat.reduceSub,List.replicate_succ,List.replicate_zero,List.cons_append,List.nil_append]
  repeat' (first|((first|apply Ba|(apply Bb;(· rfl);(· rfl))|(apply Bc;(· exact nxE))|(apply Bd;(· rfl);(· rfl);(· exact nxE)));(· first|exact Ok.pe))|((first|apply Ca|(apply Cb;(· exact nxE)));(· first|exact Ok.e0))|refine Sx ?_|(refine Sy (fun h=>?_) (fun h=>?_)<;>try (exfalso;omega;done))|refine Sz (fun h=>?_) (fun h=>?_))
  refine Ya ?_
  (apply Le.headZ (hs:=[]) [] rfl)
  all_goals (try dsimp only[srcs])
  (case' hfr=>(repeat' (first|refine La ?_ ?_|exact Lc|refine Lo ?_|refine ⟨⟨_,rfl,?_⟩,?_⟩|refine Lx ?_)))
  all_goals (first|exact Ld|exact trivial|(rfl))
 ·rw[if_neg h]
  refine AC.of_body 0 Tryz.func168 rfl (fun l h=>absurd rfl h) (fun C hC=>?_)
  have hD:∀ l,¬ C.D0 l:=fun l h=>(hC l).1 h rfl
  simp only[startFr,Tryz.ntmps168,List.length_cons,List.length_nil,Nat.reduceAdd,Nat.reduceSub,List.replicate_succ,List.replicate_zero,List.cons_append,List.nil_append]
  repeat' (first|((first|apply Ba|(apply Bb;(· rfl);(· rfl))|(apply Bc;(· exact nxE))|(apply Bd;(· rfl);(· rfl);(· exact nxE)));(· first|exact Ok.pe))|((first|apply Ca|(apply Cb;(· exact nxE)));(· first|exact Ok.e0))|refine Sx ?_|(refine Sy (fun h=>?_) (fun h=>?_)<;>try (exfalso;omega;done))|refine Sz (fun h=>?_) (fun h=>?_))
  refine Ya ?_
  (apply Le.headZ (hs:=[]) [] rfl)
  all_goals (try dsimp only[srcs])
  (case' hfr=>(repeat' (first|refine La ?_ ?_|exact Lc|refine Lo ?_|refine ⟨⟨_,rfl,?_⟩,?_⟩|refine Lx ?_)))
  all_goals (first|exact Ld|exact trivial|(rfl))
set_option maxHeartbeats 2000000 in
theorem mbyUnit_ac [Mode] (m n:Nat)  (hm:m≤1000) (hn:n≤1000):AC Tryz.prog 153 [I m,I n,.clo (.func 168) [] []] H0 (.own 1 ⟨0,[]⟩ 0 m) (heapX [] [mi1 ⟨0,[]⟩ (TR (tabF m n unitF))]):=by
 refine AC.of_body 0 Tryz.func153 rfl (fun l h=>absurd rfl h) (fun C hC=>?_)
 have hD:∀ l,¬ C.D0 l:=fun l h=>(hC l).1 h rfl
 simp only[startFr,Tryz.ntmps153,List.length_cons,List.length_nil,Nat.reduceAdd,Nat.reduceSub,List.replicate_succ,List.replicate_zero,List.cons_append,List.nil_append]
 repeat' (first|((first|apply Ba|(apply Bb;(· rfl);(· rfl))|(apply Bc;(· exact nxE))|(apply Bd;(· rfl);(· rfl);(· exact nxE)));(· first|exact Ok.pe))|((first|apply Ca|(apply Cb;(· exact nxE)));(· first|exact Ok.e0))|refine Sx ?_|(refine Sy (fun h=>?_) (fun h=>?_)<;>try (exfalso;omega;done))|refine Sz (fun h=>?_) (fun h=>?_))
 refine AW.loop (X:={k:Nat // k≤m}) (fun k=>⟨[Oo,I n,.clo (.func 168) [] [],Oo,Oo,Oo,Oo,.own 1 ⟨0,[]⟩ 0 m,Oo,Oo,Oo,Oo,Oo,I m,I (k.1:Nat),Oo,Oo,Oo,Oo,Oo,Oo,Oo,Oo,Oo,Oo,Oo,Oo,Oo,Oo,Oo,Oo,Oo,Oo,Oo,Oo,Oo,Oo,Oo,Oo,Oo,Oo,Oo,Oo],heapX [] [{ l:=⟨0,[]⟩,k:=1,R:=TR (tabF k.1 n (mixF unitF zz k.1 0)),nils:=m - k.1,src:=⟨0,[]⟩,base:=⟨0,[]⟩ }],900⟩) (fun k=>m - k.1) ⟨0,Nat.zero_le _⟩ ?_ (fun k=>?_)
 ·
  (apply Le.headG [] [{ l:=⟨0,[]⟩,k:=1,R:=[],nils:=m,src:=⟨2,[]⟩,base:=⟨2,[]⟩ }] (fun _=>False))
  (case' hlen=>rfl)
  (case' hms=>rfl)
  all_goals (try dsimp only[srcs])
  (case' hfr|hob=>(repeat' (first|refine La ?_ ?_|exact Lc|refine Lo ?_|refine ⟨⟨_,rfl,?_⟩,?_⟩|refine Lx ?_)))
  (case' hok=>first|exact ⟨MI.ok_make rfl,trivial⟩|exact trivial)
  (case' hN=>rfl)
  (case' hS=>rfl)
  all_goals (first|exact Ld|(rfl))
 obtain ⟨i,hi⟩:=k
 simp only
 by_cases hlt:i<m
 ·
  have hti:(TR (tabF i n (mixF unitF zz i 0))).length=i:=by rw[TR_len,tabF_len]
  rw[show m - i=(m - (i+1))+1 by omega]
  repeat' (first|((first|apply Ba|(apply Bb;(· rfl);(· rfl))|(apply Bc;(· exact nxE))|(apply Bd;(· rfl);(· rfl);(· exact nxE)));(· first|exact OpOk.loadCell rfl rfl rfl rfl (set_at (by simp only[outer_len];rw[hti];omega)) rfl|exact Ok.stT rfl rfl rfl (by dsimp only;rw[hti];omega) rfl|exact Ok.pe))|((first|apply Ca|(apply Cb;(· exact nxE)));(· first|exact Ok.stT rfl rfl rfl (by dsimp only;rw[hti];omega) rfl|exact Ok.e0))|refine Sx ?_|(refine Sy (fun h=>?_) (fun h=>?_)<;>try (exfalso;omega;done))|refine Sz (fun h=>?_) (fun h=>?_))
  refine AW.loop (X:={k:Nat // k≤n}) (fun k=>⟨[Oo,I n,.clo (.func 168) [] [],Oo,Oo,Oo,Oo,.own 1 ⟨0,[]⟩ 0 m,I i,Oo,Oo,Oo,Oo,I m,I i,Oo,Oo,Oo,Oo,Oo,Oo,Oo,Oo,Oo,Oo,Oo,I n,I (k.1:Nat),Oo,Oo,Oo,Oo,Oo,Oo,Oo,Oo,Oo,Oo,Oo,Oo,Oo,Oo,Oo],heapX [] [{ l:=⟨0,[]⟩,k:=1,R:=TR (tabF (i+1) n (mixF unitF zz i k.1)),nils:=m - (i+1),src:=⟨0,[]⟩,base:=⟨0,[]⟩ }],900⟩) (fun k=>n - k.1) ⟨0,Nat.zero_le _⟩ ?_ (fun k=>?_)
  ·
   (apply Le.headG [] [{ l:=⟨0,[]⟩,k:=1,R:=TR (tabF (i+1) n (mixF unitF zz i 0)),nils:=m - (i+1),src:=⟨0,[]⟩,base:=⟨0,[]⟩,cut:=i,ext:=some ⟨906,[]⟩ }] (fun _=>False))
   (case' hlen=>rfl)
   (case' hms=>rfl)
   all_goals (try dsimp only[srcs])
   (case' hfr|hob=>(repeat' (first|refine La ?_ ?_|exact Lc|refine Lo ?_|refine ⟨⟨_,rfl,?_⟩,?_⟩|refine Lx ?_)))
   (case' hok=>first|exact ⟨MI.ok_fill (r:=List.replicate n [DI 0]) zz_snoc hti (by simp) rfl (Cg) rfl,trivial⟩|exact trivial)
   (case' hN=>rfl)
   (case' hS=>rfl)
   all_goals (first|exact Ld|((first|(simp[AllP,TR_len,tabF_len];done)|(simp[AllP,TR_len,tabF_len];omega))))
  obtain ⟨j,hj⟩:=k
  simp only
  by_cases hlt2:j<n
  ·
   have hrw:=TRF_get (n:=n) (f:=(mixF unitF zz i j)) (show i<i+1 by omega)
   have hlr:(IR (rowF n ((mixF unitF zz i j) i))).length=n:=by rw[IR_len,rowF_len]
   repeat' (first|((first|apply Ba|(apply Bb;(· rfl);(· rfl))|(apply Bc;(· exact nxE))|(apply Bd;(· rfl);(· rfl);(· exact nxE)));(· first|exact Ok.ldTn rfl rfl rfl hrw hlr|exact Kz rfl rfl (unitFn_ac i j) (Ad (Ad An))|exact Ok.st1 rfl rfl (congrArg (Option.map (dobj 1)) hrw) (by simp[rowF_len];omega) (by rw[IRF_get hlt2];rfl) rfl rfl IR_set|exact Ok.pe))|((first|apply Ca|(apply Cb;(· exact nxE)));(· first|exact Ok.st1 rfl rfl (congrArg (Option.map (dobj 1)) hrw) (by simp[rowF_len];omega) (by rw[IRF_get hlt2];rfl) rfl rfl IR_set|exact Ok.e0))|refine Sx ?_|(refine Sy (fun h=>?_) (fun h=>?_)<;>try (exfalso;omega;done))|refine Sz (fun h=>?_) (fun h=>?_))
   refine ⟨⟨j+1,by omega⟩,?_,by simp only;omega⟩
   (apply Le.headG [] [{ l:=⟨0,[]⟩,k:=1,R:=TR (tabF (i+1) n (mixF unitF zz i (j+1))),nils:=m - (i+1),src:=⟨0,[]⟩,base:=⟨0,[]⟩ }] (fun _=>False))
   (case' hlen=>rfl)
   (case' hms=>rfl)
   all_goals (try dsimp only[srcs])
   (case' hfr|hob=>(repeat' (first|refine La ?_ ?_|exact Lc|refine Lo ?_|refine ⟨⟨_,rfl,?_⟩,?_⟩|refine Lx ?_)))
   (case' hok=>first|exact ⟨MI.ok_row (tabF_set (fun a b _ _=>mixF_set)) hrw (by simp) rfl (Cg),trivial⟩|exact trivial)
   (case' hN=>rfl)
   (case' hS=>rfl)
   all_goals (first|exact Ld|(rfl))
  ·
   have hjn:j=n:=by omega
   subst hjn
   rw[mixF_row]
   repeat' (first|((first|apply Ba|(apply Bb;(· rfl);(· rfl))|(apply Bc;(· exact nxE))|(apply Bd;(· rfl);(· rfl);(· exact nxE)));(· first|exact Ok.pe))|((first|apply Ca|(apply Cb;(· exact nxE)));(· first|exact Ok.e0))|refine Sx ?_|(refine Sy (fun h=>?_) (fun h=>?_)<;>try (exfalso;omega;done))|refine Sz (fun h=>?_) (fun h=>?_))
   refine ⟨⟨i+1,by omega⟩,?_,by simp only;omega⟩
   (apply Le.headG [] [{ l:=⟨0,[]⟩,k:=1,R:=TR (tabF (i+1) j (mixF unitF zz (i+1) 0)),nils:=m - (i+1),src:=⟨0,[]⟩,base:=⟨0,[]⟩ }] (fun _=>False))
   (case' hlen=>rfl)
   (case' hms=>rfl)
   all_goals (try dsimp only[srcs])
   (case' hfr|hob=>(repeat' (first|refine La ?_ ?_|exact Lc|refine Lo ?_|refine ⟨⟨_,rfl,?_⟩,?_⟩|refine Lx ?_)))
   (case' hok=>first|exact ⟨MI.ok_same rfl (Cg),trivial⟩|exact trivial)
   (case' hN=>rfl)
   (case' hS=>rfl)
   all_goals (first|exact Ld|(rfl))
 ·
  have him:i=m:=by omega
  subst him
  rw[Nat.sub_self,mixF_all]
  repeat' (first|((first|apply Ba|(apply Bb;(· rfl);(· rfl))|(apply Bc;(· exact nxE))|(apply Bd;(· rfl);(· rfl);(· exact nxE)));(· first|exact Ok.pe))|((first|apply Ca|(apply Cb;(· exact nxE)));(· first|exact Ok.e0))|refine Sx ?_|(refine Sy (fun h=>?_) (fun h=>?_)<;>try (exfalso;omega;done))|refine Sz (fun h=>?_) (fun h=>?_))
  refine Ya ?_
  (apply Le.headG [] [mi1 ⟨0,[]⟩ (TR (tabF i n unitF))] (fun _=>False))
  (case' hlen=>rfl)
  (case' hms=>rfl)
  all_goals (try dsimp only[srcs])
  (case' hfr|hob=>(repeat' (first|refine La ?_ ?_|exact Lc|refine Lo ?_|refine ⟨⟨_,rfl,?_⟩,?_⟩|refine Lx ?_)))
  (case' hok=>first|exact ⟨MI.ok_same rfl (Cg),trivial⟩|exact trivial)
  (case' hN=>rfl)
  (case' hS=>rfl)
  all_goals (first|exact Ld|(rfl))
theorem Cc [Mode] {H:Heap}{lent:List Loc}{cs vs:List AV}{fn:Fn} (h:CA H lent cs vs):CA H lent (.clo fn [] [] :: cs) (.clo fn [] [] :: vs):=ARs.cons (AR.clo' ARs.nil ARs.nil) h
theorem unitMatrix_ac [Mode] (n:Nat) (hn:n≤1000):AC Tryz.prog 134 [I n] H0 (own1 1 n) (hpM 1 (TR (tabF n n unitF))):=by
 refine AC.of_body 0 Tryz.func134 rfl (fun l h=>absurd rfl h) (fun C hC=>?_)
 have hD:∀ l,¬ C.D0 l:=fun l h=>(hC l).1 h rfl
 simp only[startFr,Tryz.ntmps134,List.length_cons,List.length_nil,Nat.reduceAdd,Nat.reduceSub,List.replicate_succ,List.replicate_zero,List.cons_append,List.nil_append]
 repeat' (first|((first|apply Ba|(apply Bb;(· rfl);(· rfl))|(apply Bc;(· exact nxE))|(apply Bd;(· rfl);(· rfl);(· exact nxE)));(· first|exact Tb rfl rfl (mbyUnit_ac n n hn hn) (Sd (Sd (Cc Sn)))|exact Ok.pe))|((first|apply Ca|(apply Cb;(· exact nxE)));(· first|exact Tb rfl rfl (mbyUnit_ac n n hn hn) (Sd (Sd (Cc Sn)))|exact Ok.e0))|refine Sx ?_|(refine Sy (fun h=>?_) (fun h=>?_)<;>try (exfalso;omega;done))|refine Sz (fun h=>?_) (fun h=>?_))
 refine Ya ?_
 (apply Le.headG [] [{ l:=⟨0,[]⟩,k:=1,R:=TR (tabF n n unitF),src:=⟨3,[0]⟩,base:=⟨3,[0]⟩ }] (fun _=>False))
 (case' hlen=>rfl)
 (case' hms=>rfl)
 all_goals (try dsimp only[srcs])
 (case' hfr|hob=>(repeat' (first|refine La ?_ ?_|exact Lc|refine Lo ?_|refine ⟨⟨_,rfl,?_⟩,?_⟩|refine Lx ?_)))
 (case' hok=>first|exact ⟨MI.ok_same rfl (Cg),trivial⟩|exact trivial)
 (case' hN=>rfl)
 (case' hS=>rfl)
 all_goals (first|exact Ld|(rfl))
abbrev hs2 (x y:D):HL:=[(⟨0,[]⟩,⟨0,[]⟩,⟨1,[[.d x]]⟩),(⟨1,[]⟩,⟨1,[]⟩,⟨1,[[.d y]]⟩)]
theorem hs2_ok [Mode] {x y:D}:HOk (hs2 x y):=by
 intro p hp r hr c hc
 simp only[List.mem_cons,List.not_mem_nil,or_false] at hp
 rcases hp with rfl|rfl<;>(simp at hr;subst hr;simp at hc;subst hc;exact .d _)
abbrev addF (a b:List (List Int)):Nat→Nat→Int:=fun i j=>max (entN a i j) (entN b i j)
theorem addFn_ac [Mode] (a b:List (List Int)) (m n:Nat) (ha:Rc a m n) (hb:Rc b m n) (i j:Nat) (hi:i<m) (hj:j<n):AC Tryz.prog 167 [I i,I j,Bx 1 0,Bx 1 1] (heapL (hs2 (TD a) (TD b))) (I (addF a b i j)) (heapL (hs2 (TD a) (TD b))):=by
 have hal:=ha.l
 have hbl:=hb.l
 obtain ⟨R,hR1,hR2,hR3⟩:=ha.get hi hj
 obtain ⟨S,hS1,hS2,hS3⟩:=hb.get hi hj
 have hRr:=TR_get hR1
 have hRf:=IR_get hR2
 have hRl:(IR R).length=n:=by rw[IR_len,hR3]
 have hSr:=TR_get hS1
 have hSf:=IR_get hS2
 have hSl:(IR S).length=n:=by rw[IR_len,hS3]
 refine AC.of_body 2 Tryz.func167 rfl (fun l h=>by simp[heapL,upd] at h;(repeat' split at h)<;>simp_all) (fun C hC=>?_)
 simp only[startFr,Tryz.ntmps167,List.length_cons,List.length_nil,Nat.reduceAdd,Nat.reduceSub,List.replicate_succ,List.replicate_zero,List.cons_append,List.nil_append]
 have hD:∀ l,C.D0 l→l=⟨0,[]⟩∨l=⟨1,[]⟩:=fun l h=>by have:=(hC l).1 h;simp[heapL,upd] at this;(repeat' split at this)<;>simp_all
 repeat' (first|((first|apply Ba|(apply Bb;(· rfl);(· rfl))|(apply Bc;(· exact nxE))|(apply Bd;(· rfl);(· rfl);(· exact nxE)));(· first|exact Ok.pe))|((first|apply Ca|(apply Cb;(· exact nxE)));(· first|exact Ok.e0))|refine Sx ?_|(refine Sy (fun h=>?_) (fun h=>?_)<;>try (exfalso;omega;done))|refine Sz (fun h=>?_) (fun h=>?_))
 (refine end1p (by first|exact .inl rfl|exact .inr rfl) rfl (by first|exact rT rfl|exact rCA rfl rfl rfl rfl (by simp)|exact rCC rfl rfl rfl rfl rfl) ?_ (Le.head ([(⟨0,[]⟩,⟨0,[]⟩,⟨1,[[TL a]]⟩),(⟨1,[]⟩,⟨1,[]⟩,⟨1,[[TL b]]⟩)]) (by first|exact fun l h=>absurd h (hD l)|(intro l h;rcases hD l h with rfl;simp[tauL])|(intro l h;rcases hD l h with rfl|rfl<;>simp[tauL];done)|(intro l h;rcases hD l h with rfl|rfl|rfl<;>simp[tauL])) ?_ ?_ (by simp) (by simp) (by simp[AllP]) (n':=1000));(· rfl))<;>(repeat' (first|exact trivial|exact ARs.nil|refine ARs.cons ?_ ?_|exact AR.dead _|exact AR.dd _|exact AR.i (by (try dsimp only);omega)|exact AR.ptr _ _ _ _ (by simp[heapL,upd])|exact AR.own _ _ _ _ (by simp[heapL,upd])|refine AR.ownE _ _ _ ?_ (by simp[heapL,upd])|refine ⟨⟨_,rfl,?_⟩,?_⟩|exact ObA.data|refine ObA.box ?_|refine ObA.frE ?_|refine ObA.dataE ?_|refine ARs.agg ?_|refine ARs.tup ?_|exact AR.clo' ARs.nil ARs.nil|exact AR.clo' ARs.nil (hca _ _)))
set_option maxHeartbeats 2000000 in
theorem mbyAdd_ac [Mode] (m n:Nat) (a b:List (List Int)) (ha:Rc a m n) (hb:Rc b m n) (hm:m≤1000) (hn:n≤1000):AC Tryz.prog 153 [I m,I n,.clo (.func 167) [] [Bx 1 0,Bx 1 1]] (heapL [(⟨0,[]⟩,⟨0,[]⟩,⟨1,[[TL a]]⟩),(⟨1,[]⟩,⟨1,[]⟩,⟨1,[[TL b]]⟩)]) (.own 1 ⟨2,[]⟩ 0 m) (heapX [(⟨0,[]⟩,⟨0,[]⟩,⟨1,[[TL a]]⟩),(⟨1,[]⟩,⟨1,[]⟩,⟨1,[[TL b]]⟩)] [mi1 ⟨2,[]⟩ (TR (tabF m n (addF a b)))]):=by
 refine AC.of_body 2 Tryz.func153 rfl (fun l h=>by simp[heapL,upd] at h;(repeat' split at h)<;>simp_all) (fun C hC=>?_)
 simp only[startFr,Tryz.ntmps153,List.length_cons,List.length_nil,Nat.reduceAdd,Nat.reduceSub,List.replicate_succ,List.replicate_zero,List.cons_append,List.nil_append]
 have hD:∀ l,C.D0 l→l=⟨0,[]⟩∨l=⟨1,[]⟩:=fun l h=>by have:=(hC l).1 h;simp[heapL,upd] at this;(repeat' split at this)<;>simp_all
 repeat' (first|((first|apply Ba|(apply Bb;(· rfl);(· rfl))|(apply Bc;(· exact nxE))|(apply Bd;(· rfl);(· rfl);(· exact nxE)));(· first|exact Ok.pe))|((first|apply Ca|(apply Cb;(· exact nxE)));(· first|exact Ok.e0))|refine Sx ?_|(refine Sy (fun h=>?_) (fun h=>?_)<;>try (exfalso;omega;done))|refine Sz (fun h=>?_) (fun h=>?_))
 refine AW.loop (X:={k:Nat // k≤m}) (fun k=>⟨[Oo,I n,.clo (.func 167) [] [Bx 1 0,Bx 1 1],Oo,Oo,Oo,Oo,.own 1 ⟨2,[]⟩ 0 m,Oo,Oo,Oo,Oo,Oo,I m,I (k.1:Nat),Oo,Oo,Oo,Oo,Oo,Oo,Oo,Oo,Oo,Oo,Oo,Oo,Oo,Oo,Oo,Oo,Oo,Oo,Oo,Oo,Oo,Oo,Oo,Oo,Oo,Oo,Oo,Oo],heapX [(⟨0,[]⟩,⟨0,[]⟩,⟨1,[[TL a]]⟩),(⟨1,[]⟩,⟨1,[]⟩,⟨1,[[TL b]]⟩)] [{ l:=⟨2,[]⟩,k:=1,R:=TR (tabF k.1 n (mixF (addF a b) zz k.1 0)),nils:=m - k.1,src:=⟨2,[]⟩,base:=⟨2,[]⟩ }],900⟩) (fun k=>m - k.1) ⟨0,Nat.zero_le _⟩ ?_ (fun k=>?_)
 ·
  (apply Le.headG [_,_] [{ l:=⟨2,[]⟩,k:=1,R:=[],nils:=m,src:=⟨4,[]⟩,base:=⟨4,[]⟩ }] (fun _=>False))
  (case' hlen=>rfl)
  (case' hms=>rfl)
  all_goals (try dsimp only[srcs])
  (case' hfr|hob=>(repeat' (first|refine La ?_ ?_|exact Lc|refine Lo ?_|refine ⟨⟨_,rfl,?_⟩,?_⟩|refine Lx ?_)))
  (case' hok=>first|exact ⟨MI.ok_make rfl,trivial⟩|exact trivial)
  (case' hN=>rfl)
  (case' hS=>rfl)
  all_goals (first|exact Ld|(rfl))
 obtain ⟨i,hi⟩:=k
 simp only
 by_cases hlt:i<m
 ·
  have hti:(TR (tabF i n (mixF (addF a b) zz i 0))).length=i:=by rw[TR_len,tabF_len]
  rw[show m - i=(m - (i+1))+1 by omega]
  repeat' (first|((first|apply Ba|(apply Bb;(· rfl);(· rfl))|(apply Bc;(· exact nxE))|(apply Bd;(· rfl);(· rfl);(· exact nxE)));(· first|exact OpOk.loadCell rfl rfl rfl rfl (set_at (by simp only[outer_len];rw[hti];omega)) rfl|exact Ok.stT rfl rfl rfl (by dsimp only;rw[hti];omega) rfl|exact Ok.pe))|((first|apply Ca|(apply Cb;(· exact nxE)));(· first|exact Ok.stT rfl rfl rfl (by dsimp only;rw[hti];omega) rfl|exact Ok.e0))|refine Sx ?_|(refine Sy (fun h=>?_) (fun h=>?_)<;>try (exfalso;omega;done))|refine Sz (fun h=>?_) (fun h=>?_))
  refine AW.loop (X:={k:Nat // k≤n}) (fun k=>⟨[Oo,I n,.clo (.func 167) [] [Bx 1 0,Bx 1 1],Oo,Oo,Oo,Oo,.own 1 ⟨2,[]⟩ 0 m,I i,Oo,Oo,Oo,Oo,I m,I i,Oo,Oo,Oo,Oo,Oo,Oo,Oo,Oo,Oo,Oo,Oo,I n,I (k.1:Nat),Oo,Oo,Oo,Oo,Oo,Oo,Oo,Oo,Oo,Oo,Oo,Oo,Oo,Oo,Oo],heapX [(⟨0,[]⟩,⟨0,[]⟩,⟨1,[[TL a]]⟩),(⟨1,[]⟩,⟨1,[]⟩,⟨1,[[TL b]]⟩)] [{ l:=⟨2,[]⟩,k:=1,R:=TR (tabF (i+1) n (mixF (addF a b) zz i k.1)),nils:=m - (i+1),src:=⟨2,[]⟩,base:=⟨2,[]⟩ }],900⟩) (fun k=>n - k.1) ⟨0,Nat.zero_le _⟩ ?_ (fun k=>?_)
  ·
   (apply Le.headG [_,_] [{ l:=⟨2,[]⟩,k:=1,R:=TR (tabF (i+1) n (mixF (addF a b) zz i 0)),nils:=m - (i+1),src:=⟨2,[]⟩,base:=⟨2,[]⟩,cut:=i,ext:=some ⟨906,[]⟩ }] (fun _=>False))
   (case' hlen=>rfl)
   (case' hms=>rfl)
   all_goals (try dsimp only[srcs])
   (case' hfr|hob=>(repeat' (first|refine La ?_ ?_|exact Lc|refine Lo ?_|refine ⟨⟨_,rfl,?_⟩,?_⟩|refine Lx ?_)))
   (case' hok=>first|exact ⟨MI.ok_fill (r:=List.replicate n [DI 0]) zz_snoc hti (by simp) rfl (Cg) rfl,trivial⟩|exact trivial)
   (case' hN=>rfl)
   (case' hS=>rfl)
   all_goals (first|exact Ld|((first|(simp[AllP,TR_len,tabF_len];done)|(simp[AllP,TR_len,tabF_len];omega))))
  obtain ⟨j,hj⟩:=k
  simp only
  by_cases hlt2:j<n
  ·
   have hrw:=TRF_get (n:=n) (f:=(mixF (addF a b) zz i j)) (show i<i+1 by omega)
   have hlr:(IR (rowF n ((mixF (addF a b) zz i j) i))).length=n:=by rw[IR_len,rowF_len]
   repeat' (first|((first|apply Ba|(apply Bb;(· rfl);(· rfl))|(apply Bc;(· exact nxE))|(apply Bd;(· rfl);(· rfl);(· exact nxE)));(· first|exact Ok.ldTn rfl rfl rfl hrw hlr|exact OpOk.callS ([(⟨0,[]⟩,⟨0,[]⟩,⟨1,[[TL a]]⟩),(⟨1,[]⟩,⟨1,[]⟩,⟨1,[[TL b]]⟩)]) rfl rfl (addFn_ac a b m n ha hb i j hlt hlt2) (by intro p hp;simp only[List.mem_cons,List.not_mem_nil,or_false] at hp;rcases hp with rfl|rfl<;>rfl) (by intro p hp r hr c hc;simp at hp;rcases hp with rfl|rfl<;>(simp at hr;subst hr;simp at hc;(try subst hc);(try rcases hc with rfl|rfl);exact .d _)) (.d _) (.cons (.dd _) (.cons (.dd _) (.cons (AR.ptr _ _ _ _ (by simp)) (.cons (AR.ptr _ _ _ _ (by simp)) .nil))))|exact Ok.st1 rfl rfl (congrArg (Option.map (dobj 1)) hrw) (by simp[rowF_len];omega) (by rw[IRF_get hlt2];rfl) rfl rfl IR_set|exact Ok.pe))|((first|apply Ca|(apply Cb;(· exact nxE)));(· first|exact Ok.st1 rfl rfl (congrArg (Option.map (dobj 1)) hrw) (by simp[rowF_len];omega) (by rw[IRF_get hlt2];rfl) rfl rfl IR_set|exact Ok.e0))|refine Sx ?_|(refine Sy (fun h=>?_) (fun h=>?_)<;>try (exfalso;omega;done))|refine Sz (fun h=>?_) (fun h=>?_))
   refine ⟨⟨j+1,by omega⟩,?_,by simp only;omega⟩
   (apply Le.headG [_,_] [{ l:=⟨2,[]⟩,k:=1,R:=TR (tabF (i+1) n (mixF (addF a b) zz i (j+1))),nils:=m - (i+1),src:=⟨2,[]⟩,base:=⟨2,[]⟩ }] (fun _=>False))
   (case' hlen=>rfl)
   (case' hms=>rfl)
   all_goals (try dsimp only[srcs])
   (case' hfr|hob=>(repeat' (first|refine La ?_ ?_|exact Lc|refine Lo ?_|refine ⟨⟨_,rfl,?_⟩,?_⟩|refine Lx ?_)))
   (case' hok=>first|exact ⟨MI.ok_row (tabF_set (fun a b _ _=>mixF_set)) hrw (by simp) rfl (Cg),trivial⟩|exact trivial)
   (case' hN=>rfl)
   (case' hS=>rfl)
   all_goals (first|exact Ld|(rfl))
  ·
   have hjn:j=n:=by omega
   subst hjn
   rw[mixF_row]
   repeat' (first|((first|apply Ba|(apply Bb;(· rfl);(· rfl))|(apply Bc;(· exact nxE))|(apply Bd;(· rfl);(· rfl);(· exact nxE)));(· first|exact Ok.pe))|((first|apply Ca|(apply Cb;(· exact nxE)));(· first|exact Ok.e0))|refine Sx ?_|(refine Sy (fun h=>?_) (fun h=>?_)<;>try (exfalso;omega;done))|refine Sz (fun h=>?_) (fun h=>?_))
   refine ⟨⟨i+1,by omega⟩,?_,by simp only;omega⟩
   (apply Le.headG [_,_] [{ l:=⟨2,[]⟩,k:=1,R:=TR (tabF (i+1) j (mixF (addF a b) zz (i+1) 0)),nils:=m - (i+1),src:=⟨2,[]⟩,base:=⟨2,[]⟩ }] (fun _=>False))
   (case' hlen=>rfl)
   (case' hms=>rfl)
   all_goals (try dsimp only[srcs])
   (case' hfr|hob=>(repeat' (first|refine La ?_ ?_|exact Lc|refine Lo ?_|refine ⟨⟨_,rfl,?_⟩,?_⟩|refine Lx ?_)))
   (case' hok=>first|exact ⟨MI.ok_same rfl (Cg),trivial⟩|exact trivial)
   (case' hN=>rfl)
   (case' hS=>rfl)
   all_goals (first|exact Ld|(rfl))
 ·
  have him:i=m:=by omega
  subst him
  rw[Nat.sub_self,mixF_all]
  repeat' (first|((first|apply Ba|(apply Bb;(· rfl);(· rfl))|(apply Bc;(· exact nxE))|(apply Bd;(· rfl);(· rfl);(· exact nxE)));(· first|exact Ok.pe))|((first|apply Ca|(apply Cb;(· exact nxE)));(· first|exact Ok.e0))|refine Sx ?_|(refine Sy (fun h=>?_) (fun h=>?_)<;>try (exfalso;omega;done))|refine Sz (fun h=>?_) (fun h=>?_))
  refine Ya ?_
  (apply Le.headG [⟨0,[]⟩,⟨1,[]⟩] [mi1 ⟨2,[]⟩ (TR (tabF i n (addF a b)))] (fun _=>False))
  (case' hlen=>rfl)
  (case' hms=>rfl)
  all_goals (try dsimp only[srcs])
  (case' hfr|hob=>(repeat' (first|refine La ?_ ?_|exact Lc|refine Lo ?_|refine ⟨⟨_,rfl,?_⟩,?_⟩|refine Lx ?_)))
  (case' hok=>first|exact ⟨MI.ok_same rfl (Cg),trivial⟩|exact trivial)
  (case' hN=>rfl)
  (case' hS=>rfl)
  all_goals (first|exact Ld|(rfl))
set_option maxHeartbeats 1000000 in
theorem addMatrices_ac [Mode] (m n:Nat) (a b:List (List Int)) (ha:Rc a m n) (hb:Rc b m n) (h0:0<m) (hm:m≤1000) (hn:n≤1000):AC Tryz.prog 133 [TL a,TL b] H0 (own1 1 m) (hpM 1 (TR (tabF m n (addF a b)))):=by
 obtain rfl:=ha.l
 obtain ⟨r0,hr0⟩:∃ r0,a[0]? = some r0:=⟨a[0]'(by omega),List.getElem?_eq_getElem (by omega)⟩
 obtain rfl:=ha.r r0 (List.mem_of_getElem? hr0)
 have hRr:(mRows 1 (TR a))[(0:Int).toNat]? = some [.sl 1 (IR r0)]:=TR_get hr0
 have hRl:(IR r0).length=r0.length:=IR_len
 have hF:=mbyAdd_ac a.length r0.length a b ha hb hm hn
 refine AC.of_body 0 Tryz.func133 rfl (fun l h=>absurd rfl h) (fun C hC=>?_)
 have hD:∀ l,¬ C.D0 l:=fun l h=>(hC l).1 h rfl
 simp only[startFr,Tryz.ntmps133,List.length_cons,List.length_nil,Nat.reduceAdd,Nat.reduceSub,List.replicate_succ,List.replicate_zero,List.cons_append,List.nil_append]
 repeat' (first|((first|apply Ba|(apply Bb;(· rfl);(· rfl))|(apply Bc;(· exact nxE))|(apply Bd;(· rfl);(· rfl);(· exact nxE)));(· first|exact OpOk.callSX (hs2 (TD a) (TD b)) [mi1 ⟨2,[]⟩ (TR (tabF a.length r0.length (addF a b)))] rfl rfl hF (by intro p hp;simp only[List.mem_cons,List.not_mem_nil,or_false] at hp;rcases hp with rfl|rfl<;>rfl) hs2_ok (by simp[Loc.cov]) (.cons (.dd _) (.cons (.dd _) (.cons (AR.clo' .nil (.cons (AR.ptr _ _ _ _ (by simp)) (.cons (AR.ptr _ _ _ _ (by simp)) .nil))) .nil))) (by simp[rn,emb];rfl)|exact Ok.pe))|((first|apply Ca|(apply Cb;(· exact nxE)));(· first|exact OpOk.callSX (hs2 (TD a) (TD b)) [mi1 ⟨2,[]⟩ (TR (tabF a.length r0.length (addF a b)))] rfl rfl hF (by intro p hp;simp only[List.mem_cons,List.not_mem_nil,or_false] at hp;rcases hp with rfl|rfl<;>rfl) hs2_ok (by simp[Loc.cov]) (.cons (.dd _) (.cons (.dd _) (.cons (AR.clo' .nil (.cons (AR.ptr _ _ _ _ (by simp)) (.cons (AR.ptr _ _ _ _ (by simp)) .nil))) .nil))) (by simp[rn,emb];rfl)|exact Ok.e0))|refine Sx ?_|(refine Sy (fun h=>?_) (fun h=>?_)<;>try (exfalso;omega;done))|refine Sz (fun h=>?_) (fun h=>?_))
 refine Ya ?_
 (apply Le.headG [] [{ l:=⟨0,[]⟩,k:=1,R:=TR (tabF a.length r0.length (addF a b)),src:=⟨10,[2]⟩,base:=⟨10,[2]⟩ }] (fun _=>False))
 (case' hlen=>rfl)
 (case' hms=>rfl)
 all_goals (try dsimp only[srcs])
 (case' hfr|hob=>(repeat' (first|refine La ?_ ?_|exact Lc|refine Lo ?_|refine ⟨⟨_,rfl,?_⟩,?_⟩|refine Lx ?_)))
 (case' hok=>first|exact ⟨MI.ok_same rfl (Cg),trivial⟩|exact trivial)
 (case' hN=>rfl)
 (case' hS=>rfl)
 all_goals (first|exact Ld|(rfl))
theorem times_ac [Mode] (a b:Int) (h:a≠BOT→b≠BOT→-9223372036854775808≤a+b∧a+b≤9223372036854775807):AC Tryz.prog 135 [I a,I b] H0 (I (timesB a b)) H0:=by
 unfold timesB BOT
 unfold BOT at h
 by_cases h1:a=-1000000000000000
 ·rw[if_pos (.inl h1)]
  subst h1
  refine AC.of_body 0 Tryz.func135 rfl (fun l h=>absurd rfl h) (fun C hC=>?_)
  have hD:∀ l,¬ C.D0 l:=fun l h=>(hC l).1 h rfl
  simp only[startFr,Tryz.ntmps135,List.length_cons,List.length_nil,Nat.reduceAdd,Nat.reduceSub,List.replicate_succ,List.replicate_zero,List.cons_append,List.nil_append]
  repeat' (first|((first|apply Ba|(apply Bb;(· rfl);(· rfl))|(apply Bc;(· exact nxE))|(apply Bd;(· rfl);(· rfl);(· exact nxE)));(· first|exact Ok.pe))|((first|apply Ca|(apply Cb;(· exact nxE)));(· first|exact Ok.e0))|refine Sx ?_|(refine Sy (fun h=>?_) (fun h=>?_)<;>try (exfalso;omega;done))|refine Sz (fun h=>?_) (fun h=>?_))
  refine Ya ?_
  (apply Le.headZ (hs:=[]) [] rfl)
  all_goals (try dsimp only[srcs])
  (case' hfr=>(repeat' (first|refine La ?_ ?_|exact Lc|refine Lo ?_|refine ⟨⟨_,rfl,?_⟩,?_⟩|refine Lx ?_)))
  all_goals (first|exact Ld|exact trivial|(rfl))
 ·by_cases h2:b=-1000000000000000
  ·rw[if_pos (.inr h2)]
   subst h2
   refine AC.of_body 0 Tryz.func135 rfl (fun l h=>absurd rfl h) (fun C hC=>?_)
   have hD:∀ l,¬ C.D0 l:=fun l h=>(hC l).1 h rfl
   simp only[startFr,Tryz.ntmps135,List.length_cons,List.length_nil,Nat.reduceAdd,Nat.reduceSub,List.replicate_succ,List.replicate_zero,List.cons_append,List.nil_append]
   repeat' (first|((first|apply Ba|(apply Bb;(· rfl);(· rfl))|(apply Bc;(· exact nxE))|(apply Bd;(· rfl);(· rfl);(· exact nxE)));(· first|exact Ok.pe))|((first|apply Ca|(apply Cb;(· exact nxE)));(· first|exact Ok.e0))|refine Sx ?_|(refine Sy (fun h=>?_) (fun h=>?_)<;>try (exfalso;omega;done))|refine Sz (fun h=>?_) (fun h=>?_))
   all_goals
    refine Ya ?_
    (apply Le.headZ (hs:=[]) [] rfl)
    all_goals (try dsimp only[srcs])
    (case' hfr=>(repeat' (first|refine La ?_ ?_|exact Lc|refine Lo ?_|refine ⟨⟨_,rfl,?_⟩,?_⟩|refine Lx ?_)))
    all_goals (first|exact Ld|exact trivial|(rfl))
  ·rw[if_neg (by rintro (h3|h3);exact h1 h3;exact h2 h3)]
   obtain ⟨h3,h4⟩:=h h1 h2
   refine AC.of_body 0 Tryz.func135 rfl (fun l h=>absurd rfl h) (fun C hC=>?_)
   have hD:∀ l,¬ C.D0 l:=fun l h=>(hC l).1 h rfl
   simp only[startFr,Tryz.ntmps135,List.length_cons,List.length_nil,Nat.reduceAdd,Nat.reduceSub,List.replicate_succ,List.replicate_zero,List.cons_append,List.nil_append]
   repeat' (first|((first|apply Ba|(apply Bb;(· rfl);(· rfl))|(apply Bc;(· exact nxE))|(apply Bd;(· rfl);(· rfl);(· exact nxE)));(· first|exact Ok.pe))|((first|apply Ca|(apply Cb;(· exact nxE)));(· first|exact Ok.e0))|refine Sx ?_|(refine Sy (fun h=>?_) (fun h=>?_)<;>try (exfalso;omega;done))|refine Sz (fun h=>?_) (fun h=>?_))
   all_goals
    refine Ya ?_
    (apply Le.headZ (hs:=[]) [] rfl)
    all_goals (try dsimp only[srcs])
    (case' hfr=>(repeat' (first|refine La ?_ ?_|exact Lc|refine Lo ?_|refine ⟨⟨_,rfl,?_⟩,?_⟩|refine Lx ?_)))
    all_goals (first|exact Ld|exact trivial|(rfl))
end
section
open Go Go.RowKit
attribute [local irreducible] AL AD AW OpOk Le AC thenQ blockQ EndQ
def fwN (W:Nat→Nat→Int):Nat→Nat→Nat→Int
 | 0=>fun i j=>max (W i j) (if i=j then 0 else BOT)
 | k+1=>fwS (fwN W k) k
structure StarM (t:List (List Int)) (n:Nat):Prop where
 rc:Rc t n n
 n0:0<n
 nn:n≤10
 bnd:∀ u v,entN t v u≠BOT→-100000000000≤entN t v u∧entN t v u≤100000000000
 np:NoPos (entN t) n
theorem pow_le10 [Mode] {k:Nat} (h:k≤10):(2:Int) ^ k≤1024:=by
 have:k=0∨k=1∨k=2∨k=3∨k=4∨k=5∨k=6∨k=7∨k=8∨k=9∨k=10:=by omega
 rcases this with rfl|rfl|rfl|rfl|rfl|rfl|rfl|rfl|rfl|rfl|rfl<;>decide
theorem StarM.fw [Mode] {t:List (List Int)}{n:Nat} (h:StarM t n):∀ k,k≤n→FW (entN t) n 100000000000 k (fwN (entN t) k)
 | 0,_=>FW.start (by decide) (by decide) h.bnd
 | k+1,hk=>by
  have h2:=pow_le10 (show k+1≤10 by have:=h.nn;omega)
  exact (FW.step h.np (by decide) (by omega) (by omega) (h.fw k (by omega))).1
theorem StarM.cells [Mode] {t:List (List Int)}{n:Nat} (h:StarM t n) {k:Nat} (hk:k≤n) {i j:Nat} (hi:i<n) (hj:j<n):fwN (entN t) k i j=BOT∨(-102400000000000≤fwN (entN t) k i j∧fwN (entN t) k i j≤1000000000000):=by
 have hf:=h.fw k hk
 have hn:=h.nn
 have h2:=pow_le10 (show k≤10 by omega)
 by_cases e:fwN (entN t) k i j=BOT
 ·exact .inl e
 ·right
  have h3:=hf.low j i hj hi e
  have h4:=star_hi h.np (by decide) h.bnd hf.some hj hi
  omega
theorem StarM.star [Mode] {t:List (List Int)}{n:Nat} (h:StarM t n) {i j:Nat} (hi:i<n) (hj:j<n):starF (entN t) n i j=fwN (entN t) n i j:=starF_eq (h.fw n (Nat.le_refl _)).star hj hi
theorem StarM.tab [Mode] {t:List (List Int)}{n:Nat} (h:StarM t n):tabF n n (fwN (entN t) n)=tabF n n (starF (entN t) n):=tabF_congr fun i j hi hj=>(h.star hi hj).symm
theorem StarM.ok [Mode] {t:List (List Int)}{n:Nat} (h:StarM t n):StarOk (entN t) n (starF (entN t) n):=by
 unfold starF
 have he:∃ s,StarOk (entN t) n s:=⟨_,(h.fw n (Nat.le_refl _)).star⟩
 rw[dif_pos he]
 exact Classical.choose_spec he
set_option maxHeartbeats 4000000 in
theorem starOf_ac [Mode] (t:List (List Int)) (n:Nat) (h:StarM t n):AC Tryz.prog 83 [TL t] H0 (.tup [own1 1 n,Bo true]) (hpM 1 (TR (tabF n n (starF (entN t) n)))):=by
 have hn:=h.nn
 have h0:=h.n0
 have htl:=h.rc.l
 have hU:=unitMatrix_ac n (by omega)
 have hA:=addMatrices_ac n n t (tabF n n unitF) h.rc tabF_rc h0 (by omega) (by omega)
 have hA0:tabF n n (addF t (tabF n n unitF))=tabF n n (fwN (entN t) 0):=tabF_congr fun i j hi hj=>by
  unfold addF fwN
  rw[tabF_ent hi hj]
  rfl
 rw[hA0] at hA
 have hul:(tabF n n unitF).length=n:=tabF_len
 rw[← h.tab]
 have hL:(mRows 1 (TR t)).length=n:=by rw[mTR_len,htl]
 refine AC.of_body 0 Tryz.func83 rfl (fun l h=>absurd rfl h) (fun C hC=>?_)
 have hD:∀ l,¬ C.D0 l:=fun l h=>(hC l).1 h rfl
 simp only[startFr,Tryz.ntmps83,List.length_cons,List.length_nil,Nat.reduceAdd,Nat.reduceSub,List.replicate_succ,List.replicate_zero,List.cons_append,List.nil_append]
 repeat' (first|((first|apply Ba|(apply Bb;(· rfl);(· rfl))|(apply Bc;(· exact nxE))|(apply Bd;(· rfl);(· rfl);(· exact nxE)));(· first|exact Ok.lenD rfl rfl hL|exact Tb rfl rfl (hU) (Sd Sn)|exact Tb rfl rfl (hA) (Sd (Sm Sn))|exact Ok.pe))|((first|apply Ca|(apply Cb;(· exact nxE)));(· first|exact Tb rfl rfl (hU) (Sd Sn)|exact Tb rfl rfl (hA) (Sd (Sm Sn))|exact Ok.e0))|refine Sx ?_|(refine Sy (fun h=>?_) (fun h=>?_)<;>try (exfalso;omega;done))|refine Sz (fun h=>?_) (fun h=>?_))
 refine AW.loop (X:={k:Nat // k≤n}) (fun k=>⟨[Oo,Oo,Oo,Oo,.own 1 ⟨1,[]⟩ 0 n,Oo,Oo,Oo,Oo,Oo,Oo,Oo,Oo,Oo,Oo,I n,I (k.1:Nat),Oo,Oo,Oo,Oo,Oo,Oo,Oo,Oo,Oo,Oo,Oo,Oo,Oo,Oo,Oo,Oo,Oo,Oo,Oo,Oo,Oo,Oo,Oo,Oo,Oo,Oo,Oo,Oo,Oo,Oo,Oo,Oo,Oo,Oo,Oo,Oo,Oo,Oo,Oo,Oo,Oo,Oo,Oo,Oo,Oo,Oo,Oo,Oo,Oo,Oo,Oo,Oo,Oo,Oo,Oo,Oo,Oo,Oo,Oo,Oo,Oo,Oo,Oo,Oo,Oo,Oo,Oo],heapX [] [mi1 ⟨1,[]⟩ (TR (tabF n n (fwN (entN t) k.1)))],900⟩) (fun k=>n - k.1) ⟨0,Nat.zero_le _⟩ ?_ (fun k=>?_)
 ·
  (apply Le.headG [] [{ l:=⟨1,[]⟩,k:=1,R:=TR (tabF n n (fwN (entN t) 0)),src:=⟨6,[0]⟩,base:=⟨6,[0]⟩ }] (fun _=>False))
  (case' hlen=>rfl)
  (case' hms=>rfl)
  all_goals (try dsimp only[srcs])
  (case' hfr|hob=>(repeat' (first|refine La ?_ ?_|exact Lc|refine Lo ?_|refine ⟨⟨_,rfl,?_⟩,?_⟩|refine Lx ?_)))
  (case' hok=>first|exact ⟨MI.ok_same rfl (Cg),trivial⟩|exact trivial)
  (case' hN=>rfl)
  (case' hS=>rfl)
  all_goals (first|exact Ld|(rfl))
 obtain ⟨p,hk⟩:=k
 simp only
 have hf:=h.fw p hk
 have hcell:=fun {i j}=>h.cells hk (i:=i) (j:=j)
 by_cases hlt:p<n
 ·
  have hkk:=star_dia0 h.np hf.some hf.dia hlt
  obtain ⟨_,hcol,hrw⟩:=FW.step h.np (by decide) (by have:=pow_le10 (show p+1≤10 by omega);omega) hlt hf
  have hst:fwN (entN t) (p+1)=fwS (fwN (entN t) p) p:=rfl
  generalize fwN (entN t) p=s at *
  clear hf hA hA0 hU
  have hrk:=TRF_get (n:=n) (f:=s) hlt
  have hrkl:(IR (rowF n (s p))).length=n:=by rw[IR_len,rowF_len]
  have hck:=IRF_get (g:=s p) hlt
  rw[hkk] at hck
  repeat' (first|((first|apply Ba|(apply Bb;(· rfl);(· rfl))|(apply Bc;(· exact nxE))|(apply Bd;(· rfl);(· rfl);(· exact nxE)));(· first|exact Ok.ldTn rfl rfl rfl hrk hrkl|exact Ok.ld1 rfl rfl (congrArg (Option.map (dobj 1)) hrk) hck|exact Ok.pe))|((first|apply Ca|(apply Cb;(· exact nxE)));(· first|exact Ok.e0))|refine Sx ?_|(refine Sy (fun h=>?_) (fun h=>?_)<;>try (exfalso;omega;done))|refine Sz (fun h=>?_) (fun h=>?_))
  refine AW.loop (X:={k:Nat // k≤n}) (fun k=>⟨[Oo,Oo,Oo,Oo,.own 1 ⟨1,[]⟩ 0 n,I p,Oo,Oo,Oo,Oo,Oo,Oo,Oo,Oo,Oo,I n,I p,Oo,Oo,Oo,Oo,Oo,Oo,Oo,Oo,Oo,Oo,Oo,I n,I (k.1:Nat),Oo,Oo,Oo,Oo,Oo,Oo,Oo,Oo,Oo,Oo,Oo,Oo,Oo,Oo,Oo,Oo,Oo,Oo,Oo,Oo,Oo,Oo,Oo,Oo,Oo,Oo,Oo,Oo,Oo,Oo,Oo,Oo,Oo,Oo,Oo,Oo,Oo,Oo,Oo,Oo,Oo,Oo,Oo,Oo,Oo,Oo,Oo,Oo,Oo,Oo,Oo,Oo,Oo,Oo],heapX [] [mi1 ⟨1,[]⟩ (TR (tabF n n (mixF (fwS s p) s k.1 0)))],900⟩) (fun k=>n - k.1) ⟨0,Nat.zero_le _⟩ ?_ (fun k=>?_)
  ·
   (apply Le.headG [] [mi1 ⟨1,[]⟩ (TR (tabF n n (mixF (fwS s p) s 0 0)))] (fun _=>False))
   (case' hlen=>rfl)
   (case' hms=>rfl)
   all_goals (try dsimp only[srcs])
   (case' hfr|hob=>(repeat' (first|refine La ?_ ?_|exact Lc|refine Lo ?_|refine ⟨⟨_,rfl,?_⟩,?_⟩|refine Lx ?_)))
   (case' hok=>first|exact ⟨by rw[mixF_0];exact MI.ok_same rfl (Cg),trivial⟩|exact trivial)
   (case' hN=>rfl)
   (case' hS=>rfl)
   all_goals (first|exact Ld|(rfl))
  obtain ⟨i,hi⟩:=k
  simp only
  by_cases hlt2:i<n
  ·
   repeat' (first|((first|apply Ba|(apply Bb;(· rfl);(· rfl))|(apply Bc;(· exact nxE))|(apply Bd;(· rfl);(· rfl);(· exact nxE)));(· first|exact Ok.pe))|((first|apply Ca|(apply Cb;(· exact nxE)));(· first|exact Ok.e0))|refine Sx ?_|(refine Sy (fun h=>?_) (fun h=>?_)<;>try (exfalso;omega;done))|refine Sz (fun h=>?_) (fun h=>?_))
   refine AW.loop (X:={k:Nat // k≤n}) (fun k=>⟨[Oo,Oo,Oo,Oo,.own 1 ⟨1,[]⟩ 0 n,I p,I i,Oo,Oo,Oo,Oo,Oo,Oo,Oo,Oo,I n,I p,Oo,Oo,Oo,Oo,Oo,Oo,Oo,Oo,Oo,Oo,Oo,I n,I i,Oo,Oo,Oo,I n,I (k.1:Nat),Oo,Oo,Oo,Oo,Oo,Oo,Oo,Oo,Oo,Oo,Oo,Oo,Oo,Oo,Oo,Oo,Oo,Oo,Oo,Oo,Oo,Oo,Oo,Oo,Oo,Oo,Oo,Oo,Oo,Oo,Oo,Oo,Oo,Oo,Oo,Oo,Oo,Oo,Oo,Oo,Oo,Oo,Oo,Oo,Oo,Oo,Oo,Oo,Oo],heapX [] [mi1 ⟨1,[]⟩ (TR (tabF n n (mixF (fwS s p) s i k.1)))],900⟩) (fun k=>n - k.1) ⟨0,Nat.zero_le _⟩ ?_ (fun k=>?_)
   ·
    (apply Le.headG [] [mi1 ⟨1,[]⟩ (TR (tabF n n (mixF (fwS s p) s i 0)))] (fun _=>False))
    (case' hlen=>rfl)
    (case' hms=>rfl)
    all_goals (try dsimp only[srcs])
    (case' hfr|hob=>(repeat' (first|refine La ?_ ?_|exact Lc|refine Lo ?_|refine ⟨⟨_,rfl,?_⟩,?_⟩|refine Lx ?_)))
    (case' hok=>first|exact ⟨MI.ok_same rfl (Cg),trivial⟩|exact trivial)
    (case' hN=>rfl)
    (case' hS=>rfl)
    all_goals (first|exact Ld|(rfl))
   obtain ⟨j,hj⟩:=k
   simp only
   by_cases hlt3:j<n
   ·
    have hrwi:=TRF_get (n:=n) (f:=mixF (fwS s p) s i j) hlt2
    have hrwk:=TRF_get (n:=n) (f:=mixF (fwS s p) s i j) hlt
    have hli:(IR (rowF n (mixF (fwS s p) s i j i))).length=n:=by rw[IR_len,rowF_len]
    have hlk:(IR (rowF n (mixF (fwS s p) s i j p))).length=n:=by rw[IR_len,rowF_len]
    have hij:=IRF_get (g:=mixF (fwS s p) s i j i) hlt3
    have hik:=IRF_get (g:=mixF (fwS s p) s i j i) hlt
    have hkj:=IRF_get (g:=mixF (fwS s p) s i j p) hlt3
    rw[show mixF (fwS s p) s i j i j=s i j by unfold mixF;rw[if_neg (by omega)]] at hij
    rw[show mixF (fwS s p) s i j i p=s i p by unfold mixF;split<;>first|exact hcol i hlt2|rfl] at hik
    rw[show mixF (fwS s p) s i j p j=s p j by unfold mixF;split<;>first|exact hrw j hlt3|rfl] at hkj
    have hT:=times_ac (s i p) (s p j) (fun e1 e2=>by
     have h1:=(hcell hlt2 hlt).resolve_left e1
     have h2:=(hcell hlt hlt3).resolve_left e2
     omega)
    have hset:(IR (rowF n (mixF (fwS s p) s i j i))).set j [DI (max (s i j) (timesB (s i p) (s p j)))]=IR ((rowF n (mixF (fwS s p) s i j i)).set j (fwS s p i j)):=IR_set
    repeat' (first|((first|apply Ba|(apply Bb;(· rfl);(· rfl))|(apply Bc;(· exact nxE))|(apply Bd;(· rfl);(· rfl);(· exact nxE)));(· first|exact Ok.ldTn rfl rfl rfl hrwi hli|exact Ok.ldTn rfl rfl rfl hrwk hlk|exact Ok.ld1 rfl rfl (congrArg (Option.map (dobj 1)) hrwi) hij|exact Ok.ld1 rfl rfl (congrArg (Option.map (dobj 1)) hrwi) hik|exact Ok.ld1 rfl rfl (congrArg (Option.map (dobj 1)) hrwk) hkj|exact Kz rfl rfl (hT) (Ad (Ad An))|exact Ok.st1 rfl rfl (congrArg (Option.map (dobj 1)) hrwi) (by simp[rowF_len];omega) (by rw[hij];rfl) rfl rfl hset|exact Ok.pe))|((first|apply Ca|(apply Cb;(· exact nxE)));(· first|exact Ok.st1 rfl rfl (congrArg (Option.map (dobj 1)) hrwi) (by simp[rowF_len];omega) (by rw[hij];rfl) rfl rfl hset|exact Ok.e0))|refine Sx ?_|(refine Sy (fun h=>?_) (fun h=>?_)<;>try (exfalso;omega;done))|refine Sz (fun h=>?_) (fun h=>?_))
    refine ⟨⟨j+1,by omega⟩,?_,by simp only;omega⟩
    (apply Le.headG [] [mi1 ⟨1,[]⟩ (TR (tabF n n (mixF (fwS s p) s i (j+1))))] (fun _=>False))
    (case' hlen=>rfl)
    (case' hms=>rfl)
    all_goals (try dsimp only[srcs])
    (case' hfr|hob=>(repeat' (first|refine La ?_ ?_|exact Lc|refine Lo ?_|refine ⟨⟨_,rfl,?_⟩,?_⟩|refine Lx ?_)))
    (case' hok=>first|exact ⟨MI.ok_row (tabF_set (fun a b _ _=>mixF_set)) hrwi (by simp) rfl (Cg),trivial⟩|exact trivial)
    (case' hN=>rfl)
    (case' hS=>rfl)
    all_goals (first|exact Ld|(rfl))
   ·
    obtain rfl:j=n:=by omega
    rw[mixF_row]
    repeat' (first|((first|apply Ba|(apply Bb;(· rfl);(· rfl))|(apply Bc;(· exact nxE))|(apply Bd;(· rfl);(· rfl);(· exact nxE)));(· first|exact Ok.pe))|((first|apply Ca|(apply Cb;(· exact nxE)));(· first|exact Ok.e0))|refine Sx ?_|(refine Sy (fun h=>?_) (fun h=>?_)<;>try (exfalso;omega;done))|refine Sz (fun h=>?_) (fun h=>?_))
    refine ⟨⟨i+1,by omega⟩,?_,by simp only;omega⟩
    (apply Le.headG [] [mi1 ⟨1,[]⟩ (TR (tabF j j (mixF (fwS s p) s (i+1) 0)))] (fun _=>False))
    (case' hlen=>rfl)
    (case' hms=>rfl)
    all_goals (try dsimp only[srcs])
    (case' hfr|hob=>(repeat' (first|refine La ?_ ?_|exact Lc|refine Lo ?_|refine ⟨⟨_,rfl,?_⟩,?_⟩|refine Lx ?_)))
    (case' hok=>first|exact ⟨MI.ok_same rfl (Cg),trivial⟩|exact trivial)
    (case' hN=>rfl)
    (case' hS=>rfl)
    all_goals (first|exact Ld|(rfl))
  ·
   obtain rfl:i=n:=by omega
   rw[mixF_all]
   repeat' (first|((first|apply Ba|(apply Bb;(· rfl);(· rfl))|(apply Bc;(· exact nxE))|(apply Bd;(· rfl);(· rfl);(· exact nxE)));(· first|exact Ok.pe))|((first|apply Ca|(apply Cb;(· exact nxE)));(· first|exact Ok.e0))|refine Sx ?_|(refine Sy (fun h=>?_) (fun h=>?_)<;>try (exfalso;omega;done))|refine Sz (fun h=>?_) (fun h=>?_))
   refine ⟨⟨p+1,by omega⟩,?_,by simp only;omega⟩
   simp only
   rw[hst]
   (apply Le.headG [] [mi1 ⟨1,[]⟩ (TR (tabF i i (fwS s p)))] (fun _=>False))
   (case' hlen=>rfl)
   (case' hms=>rfl)
   all_goals (try dsimp only[srcs])
   (case' hfr|hob=>(repeat' (first|refine La ?_ ?_|exact Lc|refine Lo ?_|refine ⟨⟨_,rfl,?_⟩,?_⟩|refine Lx ?_)))
   (case' hok=>first|exact ⟨MI.ok_same rfl (Cg),trivial⟩|exact trivial)
   (case' hN=>rfl)
   (case' hS=>rfl)
   all_goals (first|exact Ld|(rfl))
 ·
  obtain rfl:n=p:=by omega
  have hdd:=fun {u} (hu:u<n)=>star_dia0 h.np hf.some hf.dia hu
  generalize fwN (entN t) n=s at *
  clear hf hA hA0 hU
  repeat' (first|((first|apply Ba|(apply Bb;(· rfl);(· rfl))|(apply Bc;(· exact nxE))|(apply Bd;(· rfl);(· rfl);(· exact nxE)));(· first|exact Ok.pe))|((first|apply Ca|(apply Cb;(· exact nxE)));(· first|exact Ok.e0))|refine Sx ?_|(refine Sy (fun h=>?_) (fun h=>?_)<;>try (exfalso;omega;done))|refine Sz (fun h=>?_) (fun h=>?_))
  refine AW.loop (X:={k:Nat // k≤n}) (fun k=>⟨[Oo,Oo,Oo,Oo,.own 1 ⟨1,[]⟩ 0 n,Oo,Oo,Oo,Oo,Oo,Oo,Oo,Oo,Oo,Oo,Oo,Oo,Oo,Oo,Oo,Oo,Oo,Oo,Oo,Oo,Oo,Oo,Oo,Oo,Oo,Oo,Oo,Oo,Oo,Oo,Oo,Oo,Oo,Oo,Oo,Oo,Oo,Oo,Oo,Oo,Oo,Oo,Oo,Oo,Oo,Oo,Oo,Oo,Oo,Oo,Oo,Oo,Oo,Oo,Oo,Oo,Oo,Oo,Oo,Oo,Oo,Oo,Oo,Oo,Oo,I n,I (k.1:Nat),Oo,Oo,Oo,Oo,Oo,Oo,Oo,Oo,Oo,Oo,Oo,Oo],heapX [] [mi1 ⟨1,[]⟩ (TR (tabF n n s))],900⟩) (fun k=>n - k.1) ⟨0,Nat.zero_le _⟩ ?_ (fun k=>?_)
  ·
   (apply Le.headG [] [mi1 ⟨1,[]⟩ (TR (tabF n n s))] (fun _=>False))
   (case' hlen=>rfl)
   (case' hms=>rfl)
   all_goals (try dsimp only[srcs])
   (case' hfr|hob=>(repeat' (first|refine La ?_ ?_|exact Lc|refine Lo ?_|refine ⟨⟨_,rfl,?_⟩,?_⟩|refine Lx ?_)))
   (case' hok=>first|exact ⟨MI.ok_same rfl (Cg),trivial⟩|exact trivial)
   (case' hN=>rfl)
   (case' hS=>rfl)
   all_goals (first|exact Ld|(rfl))
  obtain ⟨i,hi⟩:=k
  simp only
  by_cases hlt2:i<n
  ·
   have hrk:=TRF_get (n:=n) (f:=s) hlt2
   have hrkl:(IR (rowF n (s i))).length=n:=by rw[IR_len,rowF_len]
   have hck:=IRF_get (g:=s i) hlt2
   rw[hdd hlt2] at hck
   repeat' (first|((first|apply Ba|(apply Bb;(· rfl);(· rfl))|(apply Bc;(· exact nxE))|(apply Bd;(· rfl);(· rfl);(· exact nxE)));(· first|exact Ok.ldTn rfl rfl rfl hrk hrkl|exact Ok.ld1 rfl rfl (congrArg (Option.map (dobj 1)) hrk) hck|exact Ok.pe))|((first|apply Ca|(apply Cb;(· exact nxE)));(· first|exact Ok.e0))|refine Sx ?_|(refine Sy (fun h=>?_) (fun h=>?_)<;>try (exfalso;omega;done))|refine Sz (fun h=>?_) (fun h=>?_))
   refine ⟨⟨i+1,by omega⟩,?_,by simp only;omega⟩
   (apply Le.headG [] [mi1 ⟨1,[]⟩ (TR (tabF n n s))] (fun _=>False))
   (case' hlen=>rfl)
   (case' hms=>rfl)
   all_goals (try dsimp only[srcs])
   (case' hfr|hob=>(repeat' (first|refine La ?_ ?_|exact Lc|refine Lo ?_|refine ⟨⟨_,rfl,?_⟩,?_⟩|refine Lx ?_)))
   (case' hok=>first|exact ⟨MI.ok_same rfl (Cg),trivial⟩|exact trivial)
   (case' hN=>rfl)
   (case' hS=>rfl)
   all_goals (first|exact Ld|(rfl))
  ·
   obtain rfl:n=i:=by omega
   repeat' (first|((first|apply Ba|(apply Bb;(· rfl);(· rfl))|(apply Bc;(· exact nxE))|(apply Bd;(· rfl);(· rfl);(· exact nxE)));(· first|exact Ok.pe))|((first|apply Ca|(apply Cb;(· exact nxE)));(· first|exact Ok.e0))|refine Sx ?_|(refine Sy (fun h=>?_) (fun h=>?_)<;>try (exfalso;omega;done))|refine Sz (fun h=>?_) (fun h=>?_))
   refine Yb ?_
   (apply Le.headG [] [{ l:=⟨0,[]⟩,k:=1,R:=TR (tabF n n s),src:=⟨1,[]⟩,base:=⟨1,[]⟩ }] (fun _=>False))
   (case' hlen=>rfl)
   (case' hms=>rfl)
   all_goals (try dsimp only[srcs])
   (case' hfr|hob=>(repeat' (first|refine La ?_ ?_|exact Lc|refine Lo ?_|refine ⟨⟨_,rfl,?_⟩,?_⟩|refine Lx ?_)))
   (case' hok=>first|exact ⟨MI.ok_same rfl (Cg),trivial⟩|exact trivial)
   (case' hN=>rfl)
   (case' hS=>rfl)
   all_goals (first|exact Ld|(rfl))
end
end Go.Proofs.YtkpoclbnnpglfaaGreat
