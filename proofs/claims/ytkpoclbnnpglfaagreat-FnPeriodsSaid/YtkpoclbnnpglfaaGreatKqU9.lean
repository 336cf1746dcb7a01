/-
  Walks in the abstract reading, part 9.
-/
import Derived.Test.YtkpoclbnnpglfaaGreatKqU8
import Derived.Test.YtkpoclbnnpglfaaGreatKqU4
import Derived.Test.YtkpoclbnnpglfaaGreatKqU6
set_option linter.unusedSimpArgs false
set_option linter.unusedVariables false
namespace Go.Proofs.YtkpoclbnnpglfaaGreat
section
open Go Go.RowKit
attribute [local irreducible] AL AD AW OpOk Le AC thenQ blockQ EndQ
theorem mixF_skip [Mode] {f g:Nat→Nat→Int}{m n i j:Nat} (h:f i j=g i j):tabF m n (mixF f g i (j+1))=tabF m n (mixF f g i j):=tabF_congr fun a b _ _=>by
 rw[mixF_set]
 by_cases e:a=i∧b=j
 ·obtain ⟨rfl,rfl⟩:=e
  rw[if_pos ⟨rfl,rfl⟩,mixF_at,h]
 ·rw[if_neg e]
theorem sq_tab [Mode] {t:List (List Int)}{n:Nat} (h:Sq t n):tabF n n (entN t)=t:=by
 apply List.ext_getElem?
 intro i
 by_cases hi:i<n
 ·rw[tabF_get hi]
  have hi2:i<t.length:=by rw[h.l];exact hi
  rw[List.getElem?_eq_getElem hi2]
  congr 1
  have hrl:=h.r _ (List.getElem_mem hi2)
  apply List.ext_getElem?
  intro j
  by_cases hj:j<n
  ·rw[rowF_get hj]
   unfold entN
   rw[List.getElem?_eq_getElem hi2,Option.getD_some,List.getElem?_eq_getElem (by rw[hrl];exact hj),Option.getD_some]
  ·rw[List.getElem?_eq_none (by rw[rowF_len];omega),List.getElem?_eq_none (by omega)]
 ·rw[List.getElem?_eq_none (by rw[tabF_len];omega),List.getElem?_eq_none (by rw[h.l];omega)]
def shT (t:List (List Int)) (n:Nat) (p q:Int):List (List Int):=tabF n n (shF (entN t) p q)
theorem shT_sq [Mode] {t:List (List Int)}{n:Nat}{p q:Int}:Sq (shT t n p q) n:=⟨tabF_len,tabF_rc.r⟩
theorem shT_ent [Mode] {t:List (List Int)}{n:Nat}{p q:Int}{u v:Nat} (hv:v<n) (hu:u<n):entN (shT t n p q) v u=shF (entN t) p q v u:=tabF_ent hv hu
theorem shT_out [Mode] {t:List (List Int)}{n:Nat}{p q:Int}{u v:Nat} (h:n≤v∨n≤u):entN (shT t n p q) v u=0:=by
 unfold shT
 generalize shF (entN t) p q=f
 unfold entN
 by_cases hv:v<n
 ·rw[tabF_get hv,Option.getD_some,show (rowF n (f v))[u]? = none from List.getElem?_eq_none (by rw[rowF_len];omega)];rfl
 ·rw[show (tabF n n f)[v]? = none from List.getElem?_eq_none (by rw[tabF_len];omega)];rfl
theorem shT_big [Mode] {t:List (List Int)}{n:Nat}{p q:Int} (h:MatOk t n) (hp : -10000000≤p∧p≤10000000) (hq:0<q∧q≤10):bigB (shT t n p q):=fun v u=>by
 by_cases hv:v<n
 ·by_cases hu:u<n
  ·rw[shT_ent hv hu]
   by_cases e:shF (entN t) p q v u=BOT
   ·exact .inl e
   ·have:=sh_bnd h.b hp hq u v e;omega
  ·right
   rw[shT_out (.inr (by omega))];decide
 ·right
  rw[shT_out (.inl (by omega))];decide
theorem mat_big [Mode] {t:List (List Int)}{n:Nat} (h:MatOk t n):bigB t:=fun v u=>by
 by_cases e:entN t v u=BOT
 ·exact .inl e
 ·have:=h.b u v e;omega
set_option maxHeartbeats 4000000 in
theorem l04Shift_ac [Mode] (t:List (List Int)) (n:Nat) (hM:MatOk t n) (p q:Int) (hp : -10000000≤p∧p≤10000000) (hq:0<q∧q≤10):AC Tryz.prog 159 [TL t,.agg [I p,I q]] H0 (own1 1 n) (hpM 1 (TR (shT t n p q))):=by
 have hn:=hM.le
 have hO:=l02Own_ac t (by rw[hM.sq.l];omega) (fun r hr=>by rw[hM.sq.r r hr];omega)
 have htl:=hM.sq.l
 rw[htl] at hO
 have hst:=sq_tab hM.sq
 have hlen:(mRows 1 (TR t)).length=n:=by rw[mTR_len,htl]
 refine AC.of_body 0 Tryz.func159 rfl (fun l h=>absurd rfl h) (fun C hC=>?_)
 have hD:∀ l,¬ C.D0 l:=fun l h=>(hC l).1 h rfl
 simp only[startFr,Tryz.ntmps159,List.length_cons,List.length_nil,Nat.reduceAdd,Nat.reduceSub,List.replicate_succ,List.replicate_zero,List.cons_append,List.nil_append]
 repeat' (first|((first|apply Ba|(apply Bb;(· rfl);(· rfl))|(apply Bc;(· exact nxE))|(apply Bd;(· rfl);(· rfl);(· exact nxE)));(· first|exact Tb rfl rfl (hO) (Sd Sn)|exact Ok.pe))|((first|apply Ca|(apply Cb;(· exact nxE)));(· first|exact Tb rfl rfl (hO) (Sd Sn)|exact Ok.e0))|refine Sx ?_|(refine Sy (fun h=>?_) (fun h=>?_)<;>try (exfalso;omega;done))|refine Sz (fun h=>?_) (fun h=>?_))
 refine AW.loop (X:={k:Nat // k≤n}) (fun k=>⟨[TL t,Oo,Oo,Bx 2 0,Oo,.own 1 ⟨1,[]⟩ 0 n,I (k.1:Nat),Oo,Oo,Oo,Oo,Oo,Oo,Oo,Oo,Oo,Oo,Oo,Oo,Oo,Oo,Oo,Oo,Oo,Oo,Oo,Oo,Oo,Oo,Oo,Oo,Oo,Oo,Oo,Oo,Oo,Oo,Oo,Oo,Oo,Oo,Oo,Oo,Oo,Oo,Oo,Oo,Oo,Oo,Oo],heapX [(⟨0,[]⟩,⟨0,[]⟩,⟨2,[[I p,I q]]⟩)] [mi1 ⟨1,[]⟩ (TR (tabF n n (mixF (shF (entN t) p q) (entN t) k.1 0)))],900⟩) (fun k=>n - k.1) ⟨0,Nat.zero_le _⟩ ?_ (fun k=>?_)
 ·
  (apply Le.headG [_] [{ l:=⟨1,[]⟩,k:=1,R:=TR (tabF n n (mixF (shF (entN t) p q) (entN t) 0 0)),src:=⟨3,[0]⟩,base:=⟨3,[0]⟩ }] (fun _=>False))
  (case' hlen=>rfl)
  (case' hms=>rfl)
  all_goals (try dsimp only[srcs])
  (case' hfr|hob=>(repeat' (first|refine La ?_ ?_|exact Lc|refine Lo ?_|refine ⟨⟨_,rfl,?_⟩,?_⟩|refine Lx ?_)))
  (case' hok=>first|exact ⟨by rw[mixF_0,hst];exact MI.ok_same rfl (Cg),trivial⟩|exact trivial)
  (case' hN=>rfl)
  (case' hS=>rfl)
  all_goals (first|exact Ld|(rfl))
 obtain ⟨i,hi⟩:=k
 simp only
 by_cases hlt:i<n
 ·
  repeat' (first|((first|apply Ba|(apply Bb;(· rfl);(· rfl))|(apply Bc;(· exact nxE))|(apply Bd;(· rfl);(· rfl);(· exact nxE)));(· first|exact Ok.lenD rfl rfl hlen|exact Ok.pe))|((first|apply Ca|(apply Cb;(· exact nxE)));(· first|exact Ok.e0))|refine Sx ?_|(refine Sy (fun h=>?_) (fun h=>?_)<;>try (exfalso;omega;done))|refine Sz (fun h=>?_) (fun h=>?_))
  refine AW.loop (X:={k:Nat // k≤n}) (fun k=>⟨[TL t,Oo,Oo,Bx 2 0,Oo,.own 1 ⟨1,[]⟩ 0 n,I i,I (k.1:Nat),Oo,Oo,Oo,Oo,Oo,Oo,Oo,Oo,Oo,Oo,Oo,Oo,Oo,Oo,Oo,Oo,Oo,Oo,Oo,Oo,Oo,Oo,Oo,Oo,Oo,Oo,Oo,Oo,Oo,Oo,Oo,Oo,Oo,Oo,Oo,Oo,Oo,Oo,Oo,Oo,Oo,Oo],heapX [(⟨0,[]⟩,⟨0,[]⟩,⟨2,[[I p,I q]]⟩)] [mi1 ⟨1,[]⟩ (TR (tabF n n (mixF (shF (entN t) p q) (entN t) i k.1)))],900⟩) (fun k=>n - k.1) ⟨0,Nat.zero_le _⟩ ?_ (fun k=>?_)
  ·
   (apply Le.headG [_] [{ l:=⟨1,[]⟩,k:=1,R:=TR (tabF n n (mixF (shF (entN t) p q) (entN t) i 0)),src:=⟨1,[]⟩,base:=⟨1,[]⟩ }] (fun _=>False))
   (case' hlen=>rfl)
   (case' hms=>rfl)
   all_goals (try dsimp only[srcs])
   (case' hfr|hob=>(repeat' (first|refine La ?_ ?_|exact Lc|refine Lo ?_|refine ⟨⟨_,rfl,?_⟩,?_⟩|refine Lx ?_)))
   (case' hok=>first|exact ⟨MI.ok_same rfl (Cg),trivial⟩|exact trivial)
   (case' hN=>rfl)
   (case' hS=>rfl)
   all_goals (first|exact Ld|(rfl))
  obtain ⟨j,hj⟩:=k
  simp only
  by_cases hlt2:j<n
  ·
   obtain ⟨r,hr1,hr2,hr3⟩:=hM.sq.get hlt hlt2
   have hRr:=TR_get hr1
   have hRf:=IR_get hr2
   have hRl:(IR r).length=n:=by rw[IR_len,hr3]
   have hrw:=TRF_get (n:=n) (f:=(mixF (shF (entN t) p q) (entN t) i j)) hlt
   have hlr:(IR (rowF n ((mixF (shF (entN t) p q) (entN t) i j) i))).length=n:=by rw[IR_len,rowF_len]
   by_cases hb:entN t i j=BOT
   ·have hsk:tabF n n (mixF (shF (entN t) p q) (entN t) i (j+1))=tabF n n (mixF (shF (entN t) p q) (entN t) i j):=mixF_skip (by unfold shF;rw[if_pos hb,hb])
    rw[hb] at hRf
    unfold BOT at hRf
    repeat' (first|((first|apply Ba|(apply Bb;(· rfl);(· rfl))|(apply Bc;(· exact nxE))|(apply Bd;(· rfl);(· rfl);(· exact nxE)));(· first|exact Ok.lenD rfl rfl hlen|exact Ok.pe))|((first|apply Ca|(apply Cb;(· exact nxE)));(· first|exact Ok.e0))|refine Sx ?_|(refine Sy (fun h=>?_) (fun h=>?_)<;>try (exfalso;omega;done))|refine Sz (fun h=>?_) (fun h=>?_))
    refine ⟨⟨j+1,by omega⟩,?_,by simp only;omega⟩
    rw[hsk]
    (apply Le.headG [_] [{ l:=⟨1,[]⟩,k:=1,R:=TR (tabF n n (mixF (shF (entN t) p q) (entN t) i j)),src:=⟨1,[]⟩,base:=⟨1,[]⟩ }] (fun _=>False))
    (case' hlen=>rfl)
    (case' hms=>rfl)
    all_goals (try dsimp only[srcs])
    (case' hfr|hob=>(repeat' (first|refine La ?_ ?_|exact Lc|refine Lo ?_|refine ⟨⟨_,rfl,?_⟩,?_⟩|refine Lx ?_)))
    (case' hok=>first|exact ⟨MI.ok_same rfl (Cg),trivial⟩|exact trivial)
    (case' hN=>rfl)
    (case' hS=>rfl)
    all_goals (first|exact Ld|(rfl))
   ·have hv:shF (entN t) p q i j=q*entN t i j - p:=by unfold shF;rw[if_neg hb]
    have hset:TR (tabF n n (mixF (shF (entN t) p q) (entN t) i (j+1)))=(TR (tabF n n (mixF (shF (entN t) p q) (entN t) i j))).set i (IR ((rowF n (mixF (shF (entN t) p q) (entN t) i j i)).set j (q*entN t i j - p))):=by
     rw[← hv];exact tabF_set (fun a b _ _=>mixF_set)
    have hbe:=hM.b j i hb
    have hmb:=mulB (q:=q) (w:=entN t i j) (Q:=10) (M:=1000000) (by omega) hq.2 hbe.1 hbe.2 (by decide)
    generalize hW:mixF (shF (entN t) p q) (entN t) i j=Wt at *
    generalize entN t i j=e at *
    unfold BOT at hb
    repeat' (first|((first|apply Ba|(apply Bb;(· rfl);(· rfl))|(apply Bc;(· exact nxE))|(apply Bd;(· rfl);(· rfl);(· exact nxE)));(· first|exact Ok.lenD rfl rfl hlen|exact Ok.ldTn rfl rfl rfl hrw hlr|exact Ok.st1 rfl rfl (congrArg (Option.map (dobj 1)) hrw) (by simp[rowF_len];omega) (by rw[IRF_get hlt2];rfl) rfl rfl IR_set|exact Ok.pe))|((first|apply Ca|(apply Cb;(· exact nxE)));(· first|exact Ok.st1 rfl rfl (congrArg (Option.map (dobj 1)) hrw) (by simp[rowF_len];omega) (by rw[IRF_get hlt2];rfl) rfl rfl IR_set|exact Ok.e0))|refine Sx ?_|(refine Sy (fun h=>?_) (fun h=>?_)<;>try (exfalso;omega;done))|refine Sz (fun h=>?_) (fun h=>?_))
    refine ⟨⟨j+1,by omega⟩,?_,by simp only;omega⟩
    (apply Le.headG [_] [{ l:=⟨1,[]⟩,k:=1,R:=TR (tabF n n (mixF (shF (entN t) p q) (entN t) i (j+1))),src:=⟨1,[]⟩,base:=⟨1,[]⟩ }] (fun _=>False))
    (case' hlen=>rfl)
    (case' hms=>rfl)
    all_goals (try dsimp only[srcs])
    (case' hfr|hob=>(repeat' (first|refine La ?_ ?_|exact Lc|refine Lo ?_|refine ⟨⟨_,rfl,?_⟩,?_⟩|refine Lx ?_)))
    (case' hok=>first|exact ⟨MI.ok_row hset hrw (by simp) rfl (Cg),trivial⟩|exact trivial)
    (case' hN=>rfl)
    (case' hS=>rfl)
    all_goals (first|exact Ld|(rfl))
  ·
   obtain rfl:j=n:=by omega
   rw[mixF_row]
   repeat' (first|((first|apply Ba|(apply Bb;(· rfl);(· rfl))|(apply Bc;(· exact nxE))|(apply Bd;(· rfl);(· rfl);(· exact nxE)));(· first|exact Ok.lenD rfl rfl hlen|exact Ok.pe))|((first|apply Ca|(apply Cb;(· exact nxE)));(· first|exact Ok.e0))|refine Sx ?_|(refine Sy (fun h=>?_) (fun h=>?_)<;>try (exfalso;omega;done))|refine Sz (fun h=>?_) (fun h=>?_))
   refine ⟨⟨i+1,by omega⟩,?_,by simp only;omega⟩
   (apply Le.headG [_] [{ l:=⟨1,[]⟩,k:=1,R:=TR (tabF j j (mixF (shF (entN t) p q) (entN t) (i+1) 0)),src:=⟨1,[]⟩,base:=⟨1,[]⟩ }] (fun _=>False))
   (case' hlen=>rfl)
   (case' hms=>rfl)
   all_goals (try dsimp only[srcs])
   (case' hfr|hob=>(repeat' (first|refine La ?_ ?_|exact Lc|refine Lo ?_|refine ⟨⟨_,rfl,?_⟩,?_⟩|refine Lx ?_)))
   (case' hok=>first|exact ⟨MI.ok_same rfl (Cg),trivial⟩|exact trivial)
   (case' hN=>rfl)
   (case' hS=>rfl)
   all_goals (first|exact Ld|(rfl))
 ·
  obtain rfl:i=n:=by omega
  rw[mixF_all]
  repeat' (first|((first|apply Ba|(apply Bb;(· rfl);(· rfl))|(apply Bc;(· exact nxE))|(apply Bd;(· rfl);(· rfl);(· exact nxE)));(· first|exact Ok.lenD rfl rfl hlen|exact Ok.pe))|((first|apply Ca|(apply Cb;(· exact nxE)));(· first|exact Ok.e0))|refine Sx ?_|(refine Sy (fun h=>?_) (fun h=>?_)<;>try (exfalso;omega;done))|refine Sz (fun h=>?_) (fun h=>?_))
  refine Ya ?_
  (apply Le.headG [] [{ l:=⟨0,[]⟩,k:=1,R:=TR (shT t i p q),src:=⟨1,[]⟩,base:=⟨1,[]⟩ }] (fun _=>False))
  (case' hlen=>rfl)
  (case' hms=>rfl)
  all_goals (try dsimp only[srcs])
  (case' hfr|hob=>(repeat' (first|refine La ?_ ?_|exact Lc|refine Lo ?_|refine ⟨⟨_,rfl,?_⟩,?_⟩|refine Lx ?_)))
  (case' hok=>first|exact ⟨MI.ok_same rfl (Cg),trivial⟩|exact trivial)
  (case' hN=>rfl)
  (case' hS=>rfl)
  all_goals (first|exact Ld|(rfl))
theorem kE_take [Mode] {f : Nat} {r : List Nat} : ∀ {k : Nat}, k ≤ r.length → (f :: r)[k]? = some (kE f (r.take k)) := by
  induction r generalizing f with
  | nil => intro k hk; obtain rfl : k = 0 := by simpa using hk
           rfl
  | cons v r ih =>
    intro k hk
    cases k with
    | zero => rfl
    | succ k => simp only [List.getElem?_cons_succ, List.take_succ_cons, kE]; exact ih (by simp at hk; omega)
theorem kW_take [Mode] {W:Nat→Nat→Int}{f:Nat}{r:List Nat}{k v:Nat} (h:r[k]? = some v):kW W f (r.take (k+1))=kW W f (r.take k)+W v (kE f (r.take k)):=by
 obtain ⟨hk,rfl⟩:=List.getElem?_eq_some_iff.1 h
 rw[List.take_succ_eq_append_getElem hk,kW_app]
 simp[kW]
theorem kP_at [Mode] {W:Nat→Nat→Int}{f:Nat}{r:List Nat}{k v:Nat} (hp:kP W f r) (h:r[k]? = some v):W v (kE f (r.take k))≠BOT∧kP W f (r.take k):=by
 obtain ⟨hk,rfl⟩:=List.getElem?_eq_some_iff.1 h
 have e:r=r.take k++r[k] :: r.drop (k+1):=by rw[← List.drop_eq_getElem_cons hk,List.take_append_drop]
 have:=(kP_app (W:=W) (r.take k) (r[k] :: r.drop (k+1)) f).1 (e▸hp)
 exact ⟨this.2.1,this.1⟩
set_option maxHeartbeats 1000000 in
theorem l03Walk_ac [Mode] (t:List (List Int)) (n:Nat) (hM:MatOk t n) (f:Nat) (r:List Nat) (hf:f<n) (hr:∀ x∈r,x<n) (hp:kP (entN t) f r) (hl:r.length≤1000):AC Tryz.prog 184 [TL t,IL (cN (f :: r))] H0 (.tup [I (kW (entN t) f r),Bo true]) H0:=by
 have hcl:(IR (cN (f :: r))).length=r.length+1:=by simp
 refine AC.of_body 0 Tryz.func184 rfl (fun l h=>absurd rfl h) (fun C hC=>?_)
 have hD:∀ l,¬ C.D0 l:=fun l h=>(hC l).1 h rfl
 simp only[startFr,Tryz.ntmps184,List.length_cons,List.length_nil,Nat.reduceAdd,Nat.reduceSub,List.replicate_succ,List.replicate_zero,List.cons_append,List.nil_append]
 repeat' (first|((first|apply Ba|(apply Bb;(· rfl);(· rfl))|(apply Bc;(· exact nxE))|(apply Bd;(· rfl);(· rfl);(· exact nxE)));(· first|exact Ok.pe))|((first|apply Ca|(apply Cb;(· exact nxE)));(· first|exact Ok.e0))|refine Sx ?_|(refine Sy (fun h=>?_) (fun h=>?_)<;>try (exfalso;omega;done))|refine Sz (fun h=>?_) (fun h=>?_))
 refine AW.loop (X:={k:Nat // k≤r.length}) (fun k=>⟨[TL t,IL (cN (f :: r)),Oo,Oo,Oo,Oo,I (kW (entN t) f (r.take (k.1:Nat))),I ((k.1:Nat)+1:Nat),Oo,Oo,Oo,Oo,Oo,Oo,Oo,Oo,Oo,Oo,Oo,Oo,Oo,Oo,Oo,Oo,Oo,Oo,Oo,Oo,Oo,Oo,Oo,Oo,Oo,Oo,Oo],heapL [],900⟩) (fun k=>r.length - k.1) ⟨0,Nat.zero_le _⟩ ?_ (fun k=>?_)
 ·
  (apply Le.headZ [] rfl)
  all_goals (try dsimp only[srcs])
  (case' hfr|hob=>(repeat' (first|refine La ?_ ?_|exact Lc|refine Lo ?_|refine ⟨⟨_,rfl,?_⟩,?_⟩|refine Lx ?_)))
  all_goals (first|((first|rfl|(simp[kW];done)))|exact Ld)
 obtain ⟨k,hk⟩:=k
 simp only
 by_cases hlt:k<r.length
 ·obtain ⟨v,hv⟩:∃ v,r[k]? = some v:=⟨r[k],by simp⟩
  have hvn:=hr v (List.mem_of_getElem? hv)
  obtain ⟨h1,h2⟩:=kP_at hp hv
  have h3:=kW_take (W:=entN t) (f:=f) hv
  have hu:=kE_take (f:=f) (r:=r) (k:=k) (by omega)
  have hun:kE f (r.take k)<n:=kE_lt hf (fun x hx=>hr x (List.mem_of_mem_take hx))
  have h4:=kW_bnd (M:=1000000) hM.b h2
  have h5:=hM.b _ _ h1
  have h6:(r.take k).length≤1000:=by rw[List.length_take];omega
  generalize kE f (r.take k)=u at *
  generalize kW (entN t) f (r.take k)=w at *
  obtain ⟨R,hR1,hR2,hR3⟩:=hM.sq.get hvn hun
  have hRr:=TR_get hR1
  have hRf:=IR_get hR2
  have hRl:(IR R).length=n:=by rw[IR_len,hR3]
  have hi1:(IR (cN (f :: r)))[((k+1:Nat):Int).toNat]? = some [DI (v:Nat)]:=IR_get (by simp[cN,hv])
  have hi2:(IR (cN (f :: r)))[(((k+1:Nat):Int) - 1).toNat]? = some [DI (u:Nat)]:=by
   rw[show (((k+1:Nat):Int) - 1).toNat=((k:Nat):Int).toNat by omega]
   exact IR_get (by unfold cN;rw[List.getElem?_map,hu];rfl)
  generalize entN t v u=e at *
  unfold BOT at h1
  repeat' (first|((first|apply Ba|(apply Bb;(· rfl);(· rfl))|(apply Bc;(· exact nxE))|(apply Bd;(· rfl);(· rfl);(· exact nxE)));(· first|exact Ok.lenD rfl rfl hcl|exact Ok.pe))|((first|apply Ca|(apply Cb;(· exact nxE)));(· first|exact Ok.e0))|refine Sx ?_|(refine Sy (fun h=>?_) (fun h=>?_)<;>try (exfalso;omega;done))|refine Sz (fun h=>?_) (fun h=>?_))
  refine ⟨⟨k+1,by omega⟩,?_,by simp only;omega⟩
  (apply Le.headZ [] rfl)
  all_goals (try dsimp only[srcs])
  (case' hfr|hob=>(repeat' (first|refine La ?_ ?_|exact Lc|refine Lo ?_|refine ⟨⟨_,rfl,?_⟩,?_⟩|refine Lx ?_)))
  all_goals (first|((first|rfl|(rw[h3];done)))|exact Ld)
 ·obtain rfl:k=r.length:=by omega
  rw[List.take_length]
  repeat' (first|((first|apply Ba|(apply Bb;(· rfl);(· rfl))|(apply Bc;(· exact nxE))|(apply Bd;(· rfl);(· rfl);(· exact nxE)));(· first|exact Ok.lenD rfl rfl hcl|exact Ok.pe))|((first|apply Ca|(apply Cb;(· exact nxE)));(· first|exact Ok.e0))|refine Sx ?_|(refine Sy (fun h=>?_) (fun h=>?_)<;>try (exfalso;omega;done))|refine Sz (fun h=>?_) (fun h=>?_))
  refine Yb ?_
  (apply Le.headZ (hs:=[]) [] rfl)
  all_goals (try dsimp only[srcs])
  (case' hfr=>(repeat' (first|refine La ?_ ?_|exact Lc|refine Lo ?_|refine ⟨⟨_,rfl,?_⟩,?_⟩|refine Lx ?_)))
  all_goals (first|exact Ld|exact trivial|(rfl))
theorem wiB_nodes [Mode] {c:List Nat}{n:Nat} (h:∀ x∈c,x<n):wiB (cN c) c.length 0 ((n:Int) - 1)=true:=by
 unfold wiB
 rw[Bool.and_eq_true,List.all_eq_true,decide_eq_true_eq]
 refine ⟨fun x hx=>?_,by simp[cN]⟩
 obtain ⟨y,hy,rfl⟩:=List.mem_map.1 hx
 have:=h y hy
 exact wi_iff.2 (by omega)
theorem l03Nodes_ac [Mode] (t:List (List Int)) (n:Nat) (h:Sq t n) (c:List Nat) (hc:∀ x∈c,x<n) (hn:n≤1000) (hl:c.length≤100000000):AC Tryz.prog 183 [TL t,IL (cN c)] H0 (Bo true) H0:=by
 have hcl:(IR (cN c)).length=c.length:=by simp
 have hlen:(mRows 1 (TR t)).length=n:=by rw[mTR_len,h.l]
 have hI:=l01Within_ac (cN c) c.length 0 ((n:Int) - 1) (by simp[cN];omega)
 rw[wiB_nodes hc] at hI
 refine AC.of_body 0 Tryz.func183 rfl (fun l h=>absurd rfl h) (fun C hC=>?_)
 have hD:∀ l,¬ C.D0 l:=fun l h=>(hC l).1 h rfl
 simp only[startFr,Tryz.ntmps183,List.length_cons,List.length_nil,Nat.reduceAdd,Nat.reduceSub,List.replicate_succ,List.replicate_zero,List.cons_append,List.nil_append]
 repeat' (first|((first|apply Ba|(apply Bb;(· rfl);(· rfl))|(apply Bc;(· exact nxE))|(apply Bd;(· rfl);(· rfl);(· exact nxE)));(· first|exact Ok.lenD rfl rfl hcl|exact Ok.lenD rfl rfl hlen|exact Kz rfl rfl (hI) (Ad (Ad (Ad (Ad An))))|exact Ok.pe))|((first|apply Ca|(apply Cb;(· exact nxE)));(· first|exact Ok.e0))|refine Sx ?_|(refine Sy (fun h=>?_) (fun h=>?_)<;>try (exfalso;omega;done))|refine Sz (fun h=>?_) (fun h=>?_))
 refine Ya ?_
 (apply Le.headZ (hs:=[]) [] rfl)
 all_goals (try dsimp only[srcs])
 (case' hfr=>(repeat' (first|refine La ?_ ?_|exact Lc|refine Lo ?_|refine ⟨⟨_,rfl,?_⟩,?_⟩|refine Lx ?_)))
 all_goals (first|exact Ld|exact trivial|(rfl))
set_option maxHeartbeats 1000000 in
theorem l03Cycle_ac [Mode] (t:List (List Int)) (n:Nat) (h:MatOk t n) (f:Nat) (r:List Nat) (hcy:CyW (entN t) n BOT f r):AC Tryz.prog 179 [TL t,IL (cN (f :: r))] H0 (.tup [I (cyS (entN t) f r),Bo true]) H0:=by
 have hn:=h.le
 have hlc:=hcy.len
 have hall:∀ x∈f :: r,x<n:=fun x hx=>by
  rcases List.mem_cons.1 hx with rfl|hx
  ·exact hcy.lt
  ·exact (hcy.gt x hx).2
 have hN:=l03Nodes_ac t n h.sq (f :: r) hall (by omega) (by simp;omega)
 have hWk:=l03Walk_ac t n h f (r++[f]) hcy.lt (fun x hx=>by
  rcases List.mem_append.1 hx with hx|hx
  ·exact (hcy.gt x hx).2
  ·simp at hx;subst hx;exact hcy.lt) ((kP_app r [f] f).2 ⟨hcy.path,hcy.close,trivial⟩) (by simp;omega)
 have hOw:=l01Own_ac (cN (f :: r)) (by simp[cN];omega)
 have hS:kW (entN t) f (r++[f])=cyS (entN t) f r:=by rw[kW_app];simp[kW,cyS]
 rw[hS] at hWk
 have h0g:(IR (cN (f :: r)))[(0:Int).toNat]? = some [DI (f:Nat)]:=rfl
 generalize cyS (entN t) f r=w at *
 have hnd:=hcy.nd
 have hWq:AC Tryz.prog 184 [TL t,.d (.sl 1 (IR (cN (f :: r))++[[DI (f:Nat)]]))] H0 (.tup [I w,Bo true]) H0:=by
  have e:IR (cN (f :: r))++[[DI (f:Nat)]]=IR (cN (f :: (r++[f]))):=by simp[cN]
  rw[e];exact hWk
 clear hWk
 have hcl:(IR (cN (f :: r))).length=(f :: r).length:=by simp
 have hcl2:(cN (f :: r)).length=(f :: r).length:=by simp[cN]
 have hlp:0<(f :: r).length:=by simp
 have hlb:(f :: r).length≤10:=by simp;omega
 generalize f :: r=c at *
 rw[hcl2] at hOw
 refine AC.of_body 0 Tryz.func179 rfl (fun l h=>absurd rfl h) (fun C hC=>?_)
 have hD:∀ l,¬ C.D0 l:=fun l h=>(hC l).1 h rfl
 simp only[startFr,Tryz.ntmps179,List.length_cons,List.length_nil,Nat.reduceAdd,Nat.reduceSub,List.replicate_succ,List.replicate_zero,List.cons_append,List.nil_append]
 repeat' (first|((first|apply Ba|(apply Bb;(· rfl);(· rfl))|(apply Bc;(· exact nxE))|(apply Bd;(· rfl);(· rfl);(· exact nxE)));(· first|exact Ok.lenD rfl rfl hcl|exact Kz rfl rfl (hN) (Ad (Ad An))|exact Ok.pe))|((first|apply Ca|(apply Cb;(· exact nxE)));(· first|exact Ok.e0))|refine Sx ?_|(refine Sy (fun h=>?_) (fun h=>?_)<;>try (exfalso;omega;done))|refine Sz (fun h=>?_) (fun h=>?_))
 refine AW.loop (X:={k:Nat // k≤c.length}) (fun k=>⟨[TL t,IL (cN c),Oo,Oo,Oo,Oo,I (k.1:Nat),Oo,Oo,Oo,Oo,Oo,Oo,Oo,Oo,Oo,Oo,Oo,Oo,Oo,Oo,Oo,Oo,Oo,Oo,Oo,Oo,Oo,Oo,Oo,Oo,Oo,Oo,Oo,Oo,Oo,Oo,Oo,Oo,Oo,Oo],heapL [],900⟩) (fun k=>c.length - k.1) ⟨0,Nat.zero_le _⟩ ?_ (fun k=>?_)
 ·
  (apply Le.headZ [] rfl)
  all_goals (try dsimp only[srcs])
  (case' hfr|hob=>(repeat' (first|refine La ?_ ?_|exact Lc|refine Lo ?_|refine ⟨⟨_,rfl,?_⟩,?_⟩|refine Lx ?_)))
  all_goals (first|(rfl)|exact Ld)
 obtain ⟨k,hk⟩:=k
 simp only
 by_cases hlt:k<c.length
 ·obtain ⟨v,hv⟩:∃ v,c[k]? = some v:=⟨c[k],by simp⟩
  have hrow:(IR (cN c))[((k:Nat):Int).toNat]? = some [DI (v:Nat)]:=IR_get (by simp[cN,hv])
  have hH:=l01Has_ac ((cN c).take k) (v:Nat) (by rw[List.length_take];omega)
  rw[show ((cN c).take k).any (fun x=>decide (x=(v:Int)))=false by
   rw[List.any_eq_false]
   intro x hx
   unfold cN at hx
   rw[← List.map_take] at hx
   obtain ⟨y,hy,rfl⟩:=List.mem_map.1 hx
   obtain ⟨hk',rfl⟩:=List.getElem?_eq_some_iff.1 hv
   have h2:=hnd
   rw[← List.take_append_drop k c] at h2
   have h3:=(List.nodup_append.1 h2).2.2 y hy c[k] (by rw[List.drop_eq_getElem_cons hk'];exact List.mem_cons_self)
   simp only[decide_eq_true_eq]
   intro e
   exact h3 (by omega)] at hH
  repeat' (first|((first|apply Ba|(apply Bb;(· rfl);(· rfl))|(apply Bc;(· exact nxE))|(apply Bd;(· rfl);(· rfl);(· exact nxE)));(· first|exact Ok.lenD rfl rfl hcl|exact Ok.sliceTo (row:=fun n=>[DI n]) rfl rfl rfl (by omega) (by rw[hcl2];omega)|exact Kz rfl rfl (hH) (Ad (Ad An))|exact Ok.pe))|((first|apply Ca|(apply Cb;(· exact nxE)));(· first|exact Ok.e0))|refine Sx ?_|(refine Sy (fun h=>?_) (fun h=>?_)<;>try (exfalso;omega;done))|refine Sz (fun h=>?_) (fun h=>?_))
  refine ⟨⟨k+1,by omega⟩,?_,by simp only;omega⟩
  (apply Le.headZ [] rfl)
  all_goals (try dsimp only[srcs])
  (case' hfr|hob=>(repeat' (first|refine La ?_ ?_|exact Lc|refine Lo ?_|refine ⟨⟨_,rfl,?_⟩,?_⟩|refine Lx ?_)))
  all_goals (first|(rfl)|exact Ld)
 ·obtain rfl:k=c.length:=by omega
  repeat' (first|((first|apply Ba|(apply Bb;(· rfl);(· rfl))|(apply Bc;(· exact nxE))|(apply Bd;(· rfl);(· rfl);(· exact nxE)));(· first|exact Ok.lenD rfl rfl hcl|exact Ez rfl rfl (hWq) (Sd (Sw Sn))|exact Eo rfl rfl (hOw) (Sd Sn)|exact Ok.append1 (row:=[DI (f:Nat)]) rfl rfl (by decide) rfl rfl hcl rfl rfl rfl (by rfl) (by omega) (by omega)|exact Ok.pe))|((first|apply Ca|(apply Cb;(· exact nxE)));(· first|exact Eo rfl rfl (hOw) (Sd Sn)|exact Ok.append1 (row:=[DI (f:Nat)]) rfl rfl (by decide) rfl rfl hcl rfl rfl rfl (by rfl) (by omega) (by omega)|exact Ok.e0))|refine Sx ?_|(refine Sy (fun h=>?_) (fun h=>?_)<;>try (exfalso;omega;done))|refine Sz (fun h=>?_) (fun h=>?_))
  refine Yb ?_
  (apply Le.headZ (hs:=[]) [] rfl)
  all_goals (try dsimp only[srcs])
  (case' hfr=>(repeat' (first|refine La ?_ ?_|exact Lc|refine Lo ?_|refine ⟨⟨_,rfl,?_⟩,?_⟩|refine Lx ?_)))
  all_goals (first|exact Ld|exact trivial|(rfl))
set_option maxHeartbeats 1000000 in
theorem l04Mean_ac [Mode] (t:List (List Int)) (n:Nat) (h:MatOk t n) (f:Nat) (r:List Nat) (hcy:CyW (entN t) n BOT f r):AC Tryz.prog 158 [TL t,IL (cN (f :: r))] H0 (.tup [.agg [I (mR (entN t) f r).1,I (mR (entN t) f r).2],Bo true]) H0:=by
 have hCy:=l03Cycle_ac t n h f r hcy
 have hb:=cyS_bnd h.b h.le hcy
 have hlc:=hcy.len
 have hn:=h.le
 have hR:=l01RatioZ_ac (cyS (entN t) f r) ((r.length:Int)+1) (by omega) (by omega)
 unfold mR
 rw[show (r.length:Int)+1=((f :: r).length:Nat) by simp] at hR ⊢
 generalize redR (cyS (entN t) f r) ((f :: r).length:Nat)=m at *
 have hcl:(IR (cN (f :: r))).length=(f :: r).length:=by simp
 generalize f :: r=c at *
 refine AC.of_body 0 Tryz.func158 rfl (fun l h=>absurd rfl h) (fun C hC=>?_)
 have hD:∀ l,¬ C.D0 l:=fun l h=>(hC l).1 h rfl
 simp only[startFr,Tryz.ntmps158,List.length_cons,List.length_nil,Nat.reduceAdd,Nat.reduceSub,List.replicate_succ,List.replicate_zero,List.cons_append,List.nil_append]
 repeat' (first|((first|apply Ba|(apply Bb;(· rfl);(· rfl))|(apply Bc;(· exact nxE))|(apply Bd;(· rfl);(· rfl);(· exact nxE)));(· first|exact Kz rfl rfl (hCy) (Ad (Ad An))|exact Ok.lenD rfl rfl hcl|exact Kz rfl rfl (hR) (Ad (Ad An))|exact Ok.pe))|((first|apply Ca|(apply Cb;(· exact nxE)));(· first|exact Ok.e0))|refine Sx ?_|(refine Sy (fun h=>?_) (fun h=>?_)<;>try (exfalso;omega;done))|refine Sz (fun h=>?_) (fun h=>?_))
 refine Yb ?_
 (apply Le.headZ (hs:=[]) [] rfl)
 all_goals (try dsimp only[srcs])
 (case' hfr=>(repeat' (first|refine La ?_ ?_|exact Lc|refine Lo ?_|refine ⟨⟨_,rfl,?_⟩,?_⟩|refine Lx ?_)))
 all_goals (first|exact Ld|exact trivial|(rfl))
def bkF (t:List (List Int)) (n:Nat) (r:Int × Int) (over:Int):List Nat:=overF (shF (entN t) r.1 r.2) n over
theorem over_sh [Mode] (t:List (List Int)) (n:Nat) (h:MatOk t n) (r:Int × Int) (hp : -10000000≤r.1∧r.1≤10000000) (hq:0<r.2∧r.2≤10) (over:Int):AC Tryz.prog 157 [TL (shT t n r.1 r.2),I over] H0 (IL (cN (bkF t n r over))) H0:=by
 have:=l03Over_ac (shT t n r.1 r.2) n shT_sq (by have:=h.le;omega) (shT_big h hp hq) over
 rw[overF_congr (b:=shF (entN t) r.1 r.2) (fun u v hu hv=>shT_ent hu hv)] at this
 exact this
set_option maxHeartbeats 1000000 in
theorem l04Best_no [Mode] (t:List (List Int)) (n:Nat) (hM:MatOk t n) (hc:¬ hasK (entN t) n):AC Tryz.prog 122 [TL t] H0 (.tup [IL [],Bo false]) H0:=by
 have h0:overF (entN t) n BOT=[]:=Classical.byContradiction fun h2=>hc ((first_has hM.b hM.le).1 h2)
 have hO:=l03Over_ac t n hM.sq (by have:=hM.le;omega) (mat_big hM) BOT
 rw[h0] at hO
 refine AC.of_body 0 Tryz.func122 rfl (fun l h=>absurd rfl h) (fun C hC=>?_)
 have hD:∀ l,¬ C.D0 l:=fun l h=>(hC l).1 h rfl
 simp only[startFr,Tryz.ntmps122,List.length_cons,List.length_nil,Nat.reduceAdd,Nat.reduceSub,List.replicate_succ,List.replicate_zero,List.cons_append,List.nil_append]
 repeat' (first|((first|apply Ba|(apply Bb;(· rfl);(· rfl))|(apply Bc;(· exact nxE))|(apply Bd;(· rfl);(· rfl);(· exact nxE)));(· first|exact Kz rfl rfl (hO) (Ad (Ad An))|exact Ok.pe))|((first|apply Ca|(apply Cb;(· exact nxE)));(· first|exact Ok.e0))|refine Sx ?_|(refine Sy (fun h=>?_) (fun h=>?_)<;>try (exfalso;omega;done))|refine Sz (fun h=>?_) (fun h=>?_))
 refine AW.loop (X:=Unit) (fun _=>⟨[TL t,Oo,Oo,Oo,IL [],Oo,Oo,Oo,Oo,Oo,Oo,Oo,Oo,Oo,Oo,Oo,Oo,Oo,Oo,Oo,Oo,Oo,Oo,Oo,Oo,Oo,Oo,Oo,Oo,Oo,Oo],heapL [],900⟩) (fun _=>0) () ?_ (fun _=>?_)
 ·
  (apply Le.headZ [] rfl)
  all_goals (try dsimp only[srcs])
  (case' hfr|hob=>(repeat' (first|refine La ?_ ?_|exact Lc|refine Lo ?_|refine ⟨⟨_,rfl,?_⟩,?_⟩|refine Lx ?_)))
  all_goals (first|(rfl)|exact Ld)
 ·
  repeat' (first|((first|apply Ba|(apply Bb;(· rfl);(· rfl))|(apply Bc;(· exact nxE))|(apply Bd;(· rfl);(· rfl);(· exact nxE)));(· first|exact Ok.pe))|((first|apply Ca|(apply Cb;(· exact nxE)));(· first|exact Ok.e0))|refine Sx ?_|(refine Sy (fun h=>?_) (fun h=>?_)<;>try (exfalso;omega;done))|refine Sz (fun h=>?_) (fun h=>?_))
  refine Yb ?_
  (apply Le.headZ (hs:=[]) [] rfl)
  all_goals (try dsimp only[srcs])
  (case' hfr=>(repeat' (first|refine La ?_ ?_|exact Lc|refine Lo ?_|refine ⟨⟨_,rfl,?_⟩,?_⟩|refine Lx ?_)))
  all_goals (first|exact Ld|exact trivial|(rfl))
set_option maxHeartbeats 2000000 in
theorem l04Best_yes [Mode] (t:List (List Int)) (n:Nat) (hM:MatOk t n) (hc:hasK (entN t) n):AC Tryz.prog 122 [TL t] H0 (.tup [IL (cN (bkF t n (kmR (entN t) n) (-1))),Bo true]) H0:=by
 have hn:=hM.le
 have hO:=l03Over_ac t n hM.sq (by omega) (mat_big hM) BOT
 obtain ⟨f0,r0,e0,hc0⟩:=overF_w ((first_has hM.b hM.le).2 hc)
 rw[e0] at hO
 refine AC.of_body 0 Tryz.func122 rfl (fun l h=>absurd rfl h) (fun C hC=>?_)
 have hD:∀ l,¬ C.D0 l:=fun l h=>(hC l).1 h rfl
 simp only[startFr,Tryz.ntmps122,List.length_cons,List.length_nil,Nat.reduceAdd,Nat.reduceSub,List.replicate_succ,List.replicate_zero,List.cons_append,List.nil_append]
 repeat' (first|((first|apply Ba|(apply Bb;(· rfl);(· rfl))|(apply Bc;(· exact nxE))|(apply Bd;(· rfl);(· rfl);(· exact nxE)));(· first|exact Kz rfl rfl (hO) (Ad (Ad An))|exact Ok.pe))|((first|apply Ca|(apply Cb;(· exact nxE)));(· first|exact Ok.e0))|refine Sx ?_|(refine Sy (fun h=>?_) (fun h=>?_)<;>try (exfalso;omega;done))|refine Sz (fun h=>?_) (fun h=>?_))
 refine AW.loop (X:={c:Nat × List Nat // CyW (entN t) n BOT c.1 c.2}) (fun c=>⟨[TL t,Oo,Oo,Oo,IL (cN (c.1.1 :: c.1.2)),Oo,Oo,Oo,Oo,Oo,Oo,Oo,Oo,Oo,Oo,Oo,Oo,Oo,Oo,Oo,Oo,Oo,Oo,Oo,Oo,Oo,Oo,Oo,Oo,Oo,Oo],heapL [],900⟩) (fun c=>(100000000000000 - rank 1000 (mR (entN t) c.1.1 c.1.2)).toNat) ⟨(f0,r0),hc0⟩ ?_ (fun c=>?_)
 ·
  (apply Le.headZ [] rfl)
  all_goals (try dsimp only[srcs])
  (case' hfr|hob=>(repeat' (first|refine La ?_ ?_|exact Lc|refine Lo ?_|refine ⟨⟨_,rfl,?_⟩,?_⟩|refine Lx ?_)))
  all_goals (first|(rfl)|exact Ld)
 obtain ⟨⟨f,r⟩,hcy⟩:=c
 simp only at hcy ⊢
 obtain ⟨b1,b2,_,_⟩:=mR_ok hM.b hM.le hcy
 have hMe:=l04Mean_ac t n hM f r hcy
 have hSh:=(l04Shift_ac t n hM (mR (entN t) f r).1 (mR (entN t) f r).2 b1 b2).frzT (by rw[TR_len];exact shT_sq.l)
 have hO1:=over_sh t n hM (mR (entN t) f r) b1 b2 0
 have hO2:=over_sh t n hM (mR (entN t) f r) b1 b2 (-1)
 have htl:(shT t n (mR (entN t) f r).1 (mR (entN t) f r).2).length=n:=shT_sq.l
 have hlp:0<(f :: r).length:=by simp
 by_cases hz:overF (shF (entN t) (mR (entN t) f r).1 (mR (entN t) f r).2) n 0=[]
 ·rw[step_eq hM.b hM.le hcy hz]
  have hz2:bkF t n (mR (entN t) f r) 0=[]:=hz
  rw[hz2] at hO1
  generalize mR (entN t) f r=m at *
  obtain ⟨q1,q2⟩:=m
  simp only at *
  generalize f :: r=c at *
  repeat' (first|((first|apply Ba|(apply Bb;(· rfl);(· rfl))|(apply Bc;(· exact nxE))|(apply Bd;(· rfl);(· rfl);(· exact nxE)));(· first|exact Kz rfl rfl (hMe) (Ad (Ad An))|exact Kz rfl rfl (hSh) (Ad (Aa (Ad (Ad An)) An))|exact Kz rfl rfl (hO1) (Ad (Ad An))|exact Kz rfl rfl (hO2) (Ad (Ad An))|exact Ok.pe))|((first|apply Ca|(apply Cb;(· exact nxE)));(· first|exact Ok.e0))|refine Sx ?_|(refine Sy (fun h=>?_) (fun h=>?_)<;>try (exfalso;omega;done))|refine Sz (fun h=>?_) (fun h=>?_))
  refine Yb ?_
  (apply Le.headZ (hs:=[]) [] rfl)
  all_goals (try dsimp only[srcs])
  (case' hfr=>(repeat' (first|refine La ?_ ?_|exact Lc|refine Lo ?_|refine ⟨⟨_,rfl,?_⟩,?_⟩|refine Lx ?_)))
  all_goals (first|exact Ld|exact trivial|(rfl))
 ·obtain ⟨f',r',e,hcy',hrk⟩:=step_next hM.b hM.le hcy hz
  have hup:=rank_top hM.b hM.le hcy'
  have hz2:bkF t n (mR (entN t) f r) 0=f' :: r':=e
  rw[hz2] at hO1
  have hlq:0<(f' :: r').length:=by simp
  clear hO2
  generalize mR (entN t) f r=m at *
  obtain ⟨q1,q2⟩:=m
  simp only at *
  generalize f :: r=c at *
  repeat' (first|((first|apply Ba|(apply Bb;(· rfl);(· rfl))|(apply Bc;(· exact nxE))|(apply Bd;(· rfl);(· rfl);(· exact nxE)));(· first|exact Kz rfl rfl (hMe) (Ad (Ad An))|exact Kz rfl rfl (hSh) (Ad (Aa (Ad (Ad An)) An))|exact Kz rfl rfl (hO1) (Ad (Ad An))|exact Ok.pe))|((first|apply Ca|(apply Cb;(· exact nxE)));(· first|exact Ok.e0))|refine Sx ?_|(refine Sy (fun h=>?_) (fun h=>?_)<;>try (exfalso;omega;done))|refine Sz (fun h=>?_) (fun h=>?_))
  refine ⟨⟨(f',r'),hcy'⟩,?_,by simp only;omega⟩
  (apply Le.headZ [] rfl)
  all_goals (try dsimp only[srcs])
  (case' hfr|hob=>(repeat' (first|refine La ?_ ?_|exact Lc|refine Lo ?_|refine ⟨⟨_,rfl,?_⟩,?_⟩|refine Lx ?_)))
  all_goals (first|(rfl)|exact Ld)
noncomputable def bmC (t:List (List Int)):Int:=open Classical in if isSq t=true then (if hasK (entN t) t.length then 0 else 4) else 1
noncomputable def bmL (t:List (List Int)):List Nat:=if bmC t=0 then bkF t t.length (kmR (entN t) t.length) (-1) else []
end
section
open Go Go.RowKit
attribute [local irreducible] AL AD AW OpOk Le AC thenQ blockQ EndQ
end
section
open Go Go.RowKit
attribute [local irreducible] AL AD AW OpOk Le AC thenQ blockQ EndQ
def apA (f:Nat→Nat→Int) (v:Nat→Int) (i:Nat):Nat→Int
 | 0=>BOT
 | k+1=>max (apA f v i k) (timesB (f i k) (v k))
structure ApOk (f:Nat→Nat→Int) (v:Nat→Int) (m n:Nat):Prop where
 f:∀ i j,i<m→j<n→f i j=BOT∨(-1000000000000000000≤f i j∧f i j≤1000000000000000000)
 v:∀ j,j<n→v j=BOT∨(-1000000000000000000≤v j∧v j≤1000000000000000000)
set_option maxHeartbeats 4000000 in
theorem timesVector_ac [Mode] (t:List (List Int)) (m n:Nat) (v:Nat→Int) (ht:Rc t m n) (hm:m≤1000000) (hn:n≤1000000) (ho:ApOk (entN t) v m n):AC Tryz.prog 85 [TL t,IL (rowF n v)] H0 (own1 1 m) (hp1 (IO (rowF m fun i=>apA (entN t) v i n))):=by
 obtain rfl:=ht.l
 have hz:=mgF_0 (n:=t.length) (f:=fun i=>apA (entN t) v i n)
 have hvl:(IR (rowF n v)).length=n:=by rw[IR_len,rowF_len]
 have hvl2:(rowF n v).length=n:=rowF_len
 refine AC.of_body 0 Tryz.func85 rfl (fun l h=>absurd rfl h) (fun C hC=>?_)
 have hD:∀ l,¬ C.D0 l:=fun l h=>(hC l).1 h rfl
 simp only[startFr,Tryz.ntmps85,List.length_cons,List.length_nil,Nat.reduceAdd,Nat.reduceSub,List.replicate_succ,List.replicate_zero,List.cons_append,List.nil_append]
 repeat' (first|((first|apply Ba|(apply Bb;(· rfl);(· rfl))|(apply Bc;(· exact nxE))|(apply Bd;(· rfl);(· rfl);(· exact nxE)));(· first|exact Ok.pe))|((first|apply Ca|(apply Cb;(· exact nxE)));(· first|exact Ok.e0))|refine Sx ?_|(refine Sy (fun h=>?_) (fun h=>?_)<;>try (exfalso;omega;done))|refine Sz (fun h=>?_) (fun h=>?_))
 refine AW.loop (X:={k:Nat // k≤t.length}) (fun k=>⟨[Oo,IL (rowF n v),Oo,Oo,Oo,.own 1 ⟨0,[]⟩ 0 t.length,Oo,Oo,Oo,Oo,Oo,Oo,Oo,TL t,I t.length,I (k.1:Nat),Oo,Oo,Oo,Oo,Oo,Oo,Oo,Oo,Oo,Oo,Oo,Oo,Oo,Oo,Oo,Oo,Oo,Oo,Oo,Oo,Oo,Oo,Oo,Oo,Oo,Oo,Oo,Oo,Oo,Oo,Oo],heapL [(⟨0,[]⟩,⟨0,[]⟩,IO (rowF t.length (mixR (fun i=>apA (entN t) v i n) (fun _=>0) k.1)))],900⟩) (fun k=>t.length - k.1) ⟨0,Nat.zero_le _⟩ ?_ (fun k=>?_)
 ·
  (apply Le.headZ [_] rfl)
  all_goals (try dsimp only[srcs])
  (case' hfr|hob=>(repeat' (first|refine La ?_ ?_|exact Lc|refine Lo ?_|refine ⟨⟨_,rfl,?_⟩,?_⟩|refine Lx ?_)))
  all_goals (first|((first|exact hz|(rw[hz];done)))|exact Ld)
 obtain ⟨i,hi⟩:=k
 simp only
 by_cases hlt:i<t.length
 ·
  obtain ⟨r,hr1⟩:∃ r,t[i]? = some r:=⟨t[i],by simp⟩
  have hrl0:=ht.r r (List.mem_of_getElem? hr1)
  have hr1':=TR_get hr1
  have hrl:(IR r).length=n:=by rw[IR_len,hrl0]
  have hc0:=IRF_get (g:=mixR (fun i=>apA (entN t) v i n) (fun _=>0) i) hlt
  have hs1:(IR (rowF t.length (mixR (fun i=>apA (entN t) v i n) (fun _=>0) i))).set i [DI (-1000000000000000)]=IR (rowF t.length (fun b=>if b=i then apA (entN t) v i 0 else mixR (fun i=>apA (entN t) v i n) (fun _=>0) i b)):=by rw[IR_set,rowF_set];rfl
  repeat' (first|((first|apply Ba|(apply Bb;(· rfl);(· rfl))|(apply Bc;(· exact nxE))|(apply Bd;(· rfl);(· rfl);(· exact nxE)));(· first|exact Ok.st1 rfl rfl rfl (by simp[rowF_len];omega) (by rw[hc0];rfl) rfl rfl hs1|exact Ok.pe))|((first|apply Ca|(apply Cb;(· exact nxE)));(· first|exact Ok.st1 rfl rfl rfl (by simp[rowF_len];omega) (by rw[hc0];rfl) rfl rfl hs1|exact Ok.e0))|refine Sx ?_|(refine Sy (fun h=>?_) (fun h=>?_)<;>try (exfalso;omega;done))|refine Sz (fun h=>?_) (fun h=>?_))
  refine AW.loop (X:={k:Nat // k≤n}) (fun k=>⟨[Oo,IL (rowF n v),Oo,Oo,Oo,.own 1 ⟨0,[]⟩ 0 t.length,I i,Oo,Oo,Oo,Oo,Oo,Oo,TL t,I t.length,I i,Oo,Oo,Oo,Oo,Oo,Oo,Oo,IL r,I n,I (k.1:Nat),Oo,Oo,Oo,Oo,Oo,Oo,Oo,Oo,Oo,Oo,Oo,Oo,Oo,Oo,Oo,Oo,Oo,Oo,Oo,Oo,Oo],heapL [(⟨0,[]⟩,⟨0,[]⟩,IO (rowF t.length (fun b=>if b=i then apA (entN t) v i k.1 else mixR (fun i=>apA (entN t) v i n) (fun _=>0) i b)))],900⟩) (fun k=>n - k.1) ⟨0,Nat.zero_le _⟩ ?_ (fun k=>?_)
  ·
   (apply Le.headZ [_] rfl)
   all_goals (try dsimp only[srcs])
   (case' hfr|hob=>(repeat' (first|refine La ?_ ?_|exact Lc|refine Lo ?_|refine ⟨⟨_,rfl,?_⟩,?_⟩|refine Lx ?_)))
   all_goals (first|(rfl)|exact Ld)
  obtain ⟨j,hj⟩:=k
  simp only
  by_cases hlt2:j<n
  ·
   obtain ⟨r',hr1b,hr2,_⟩:=ht.get hlt hlt2
   rw[hr1] at hr1b;cases hr1b
   have hrj:=IR_get hr2
   have hvj:(IR (rowF n v))[((j:Nat):Int).toNat]? = some [DI (v j)]:=IRF_get hlt2
   have hT:=times_ac (entN t i j) (v j) (fun e1 e2=>by
    have h1:=(ho.f i j hlt hlt2).resolve_left e1
    have h2:=(ho.v j hlt2).resolve_left e2
    omega)
   have hcj:=IRF_get (g:=fun b=>if b=i then apA (entN t) v i j else mixR (fun i=>apA (entN t) v i n) (fun _=>0) i b) hlt
   simp only[if_true] at hcj
   have hs2:(IR (rowF t.length (fun b=>if b=i then apA (entN t) v i j else mixR (fun i=>apA (entN t) v i n) (fun _=>0) i b))).set i [DI (max (apA (entN t) v i j) (timesB (entN t i j) (v j)))]=IR (rowF t.length (fun b=>if b=i then apA (entN t) v i (j+1) else mixR (fun i=>apA (entN t) v i n) (fun _=>0) i b)):=by
    rw[IR_set,rowF_set]
    congr 1
    refine rowF_congr fun b _=>?_
    by_cases e:b=i<;>simp[e,apA]
   repeat' (first|((first|apply Ba|(apply Bb;(· rfl);(· rfl))|(apply Bc;(· exact nxE))|(apply Bd;(· rfl);(· rfl);(· exact nxE)));(· first|exact Ok.ld1 rfl rfl rfl hcj|exact Kz rfl rfl (hT) (Ad (Ad An))|exact Ok.st1 rfl rfl rfl (by simp[rowF_len];omega) (by rw[hcj];rfl) rfl rfl hs2|exact Ok.pe))|((first|apply Ca|(apply Cb;(· exact nxE)));(· first|exact Ok.st1 rfl rfl rfl (by simp[rowF_len];omega) (by rw[hcj];rfl) rfl rfl hs2|exact Ok.e0))|refine Sx ?_|(refine Sy (fun h=>?_) (fun h=>?_)<;>try (exfalso;omega;done))|refine Sz (fun h=>?_) (fun h=>?_))
   refine ⟨⟨j+1,by omega⟩,?_,by simp only;omega⟩
   (apply Le.headZ [_] rfl)
   all_goals (try dsimp only[srcs])
   (case' hfr|hob=>(repeat' (first|refine La ?_ ?_|exact Lc|refine Lo ?_|refine ⟨⟨_,rfl,?_⟩,?_⟩|refine Lx ?_)))
   all_goals (first|(rfl)|exact Ld)
  ·
   obtain rfl:j=n:=by omega
   have hnx:rowF t.length (fun b=>if b=i then apA (entN t) v i j else mixR (fun i=>apA (entN t) v i j) (fun _=>0) i b)=rowF t.length (mixR (fun i=>apA (entN t) v i j) (fun _=>0) (i+1)):=by
    rw[← mixR_set,rowF_set]
   rw[hnx]
   repeat' (first|((first|apply Ba|(apply Bb;(· rfl);(· rfl))|(apply Bc;(· exact nxE))|(apply Bd;(· rfl);(· rfl);(· exact nxE)));(· first|exact Ok.pe))|((first|apply Ca|(apply Cb;(· exact nxE)));(· first|exact Ok.e0))|refine Sx ?_|(refine Sy (fun h=>?_) (fun h=>?_)<;>try (exfalso;omega;done))|refine Sz (fun h=>?_) (fun h=>?_))
   refine ⟨⟨i+1,by omega⟩,?_,by simp only;omega⟩
   (apply Le.headZ [_] rfl)
   all_goals (try dsimp only[srcs])
   (case' hfr|hob=>(repeat' (first|refine La ?_ ?_|exact Lc|refine Lo ?_|refine ⟨⟨_,rfl,?_⟩,?_⟩|refine Lx ?_)))
   all_goals (first|(rfl)|exact Ld)
 ·
  have him:i=t.length:=by omega
  subst him
  rw[mixR_all]
  repeat' (first|((first|apply Ba|(apply Bb;(· rfl);(· rfl))|(apply Bc;(· exact nxE))|(apply Bd;(· rfl);(· rfl);(· exact nxE)));(· first|exact Ok.pe))|((first|apply Ca|(apply Cb;(· exact nxE)));(· first|exact Ok.e0))|refine Sx ?_|(refine Sy (fun h=>?_) (fun h=>?_)<;>try (exfalso;omega;done))|refine Sz (fun h=>?_) (fun h=>?_))
  refine Ya ?_
  (apply Le.head [(⟨0,[]⟩,_,_)])
  (case' hfr|hob=>(repeat' (first|refine La ?_ ?_|exact Lc|refine Lo ?_|refine ⟨⟨_,rfl,?_⟩,?_⟩|refine Lx ?_)))
  all_goals (first|exact Ld|(rfl))
end
end Go.Proofs.YtkpoclbnnpglfaaGreat
