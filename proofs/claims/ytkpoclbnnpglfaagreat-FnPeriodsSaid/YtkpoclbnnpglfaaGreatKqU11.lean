/-
  Walks in the abstract reading, part 11.
-/
import Derived.Test.YtkpoclbnnpglfaaGreatKqU10
import Derived.Test.YtkpoclbnnpglfaaGreatKqU6
import Derived.Test.YtkpoclbnnpglfaaGreatKqA3
import Derived.Test.YtkpoclbnnpglfaaGreatKqA2
set_option linter.unusedSimpArgs false
set_option linter.unusedVariables false
namespace Go.Proofs.YtkpoclbnnpglfaaGreat
section
open Go Go.RowKit
attribute [local irreducible] AL AD AW OpOk Le AC thenQ blockQ EndQ
def mixW (f g:Nat→Nat→Bool) (K J:Nat):Nat→Nat→Bool:=fun a b=>if a<K∨(a=K∧b<J) then f a b else g a b
def zzW:Nat→Nat→Bool:=fun _ _=>false
theorem brF_congr [Mode] {n:Nat}{f g:Nat→Bool} (h:∀ j,j<n→f j=g j):brF n f=brF n g:=List.map_congr_left fun j hj=>by rw[h j (List.mem_range.1 hj)]
theorem btF_congr [Mode] {m n:Nat}{f g:Nat→Nat→Bool} (h:∀ i j,i<m→j<n→f i j=g i j):btF m n f=btF m n g:=List.map_congr_left fun i hi=>brF_congr fun j hj=>h i j (List.mem_range.1 hi) hj
theorem mixW_0 [Mode] {f g:Nat→Nat→Bool}{m n:Nat}:btF m n (mixW f g 0 0)=btF m n g:=btF_congr fun i j _ _=>by simp[mixW]
theorem mixW_row [Mode] {f g:Nat→Nat→Bool}{m n K:Nat}:btF m n (mixW f g K n)=btF m n (mixW f g (K+1) 0):=btF_congr fun i j _ hj=>by
 unfold mixW
 by_cases h:i<K∨(i=K∧j<n)
 ·rw[if_pos h,if_pos (by omega)]
 ·rw[if_neg h,if_neg (by omega)]
theorem mixW_all [Mode] {f g:Nat→Nat→Bool}{m n:Nat}:btF m n (mixW f g m 0)=btF m n f:=btF_congr fun i j hi _=>by simp[mixW,hi]
theorem mixW_set [Mode] {f g:Nat→Nat→Bool}{K J a b:Nat}:mixW f g K (J+1) a b=if a=K∧b=J then f K J else mixW f g K J a b:=by
 unfold mixW
 by_cases h:a=K∧b=J
 ·obtain ⟨rfl,rfl⟩:=h;simp
 ·rw[if_neg h]
  by_cases h2:a<K∨(a=K∧b<J)
  ·rw[if_pos h2,if_pos (by omega)]
  ·rw[if_neg h2,if_neg (by omega)]
theorem mixW_at [Mode] {f g:Nat→Nat→Bool}{i j:Nat}:mixW f g i j i j=g i j:=by simp[mixW]
theorem btF_setT [Mode] {m n i:Nat}{F F':Nat→Nat→Bool} (h:∀ a b,a≠i→F' a b=F a b):btF m n F'=(btF m n F).set i (brF n (F' i)):=by
 apply List.ext_getElem?
 intro a
 rw[List.getElem?_set]
 by_cases ha:a<m
 ·rw[btF_get ha]
  by_cases e:i=a
  ·subst e;rw[if_pos rfl,if_pos (by rw[btF_len];exact ha)]
  ·rw[if_neg e,btF_get ha]
   congr 1
   exact brF_congr fun b _=>h a b (fun h=>e h.symm)
 ·rw[List.getElem?_eq_none (by rw[btF_len];omega)]
  split
  ·rw[if_neg (by rw[btF_len];omega)]
  ·rw[List.getElem?_eq_none (by rw[btF_len];omega)]
theorem zzW_snoc [Mode] {f:Nat→Nat→Bool}{i n:Nat}:btF (i+1) n (mixW f zzW i 0)=btF i n (mixW f zzW i 0)++[List.replicate n [DB false]]:=by
 rw[btF_succ,brF_0]
 congr 2
 exact brF_congr fun j _=>by simp[mixW,zzW]
theorem mixW_step [Mode] {f g:Nat→Nat→Bool}{i j n:Nat}{v:Bool} (h:f i j=v):(brF n (mixW f g i j i)).set j [DB v]=brF n (mixW f g i (j+1) i):=by
 subst h
 exact brF_set fun b=>by
  rw[mixW_set]
  by_cases e:b=j
  ·subst e;simp
  ·rw[if_neg (fun h=>e h.2),if_neg e]
theorem mixW_other [Mode] {f g:Nat→Nat→Bool}{i j a b:Nat} (h:a≠i):mixW f g i (j+1) a b=mixW f g i j a b:=by rw[mixW_set,if_neg (fun h'=>h h'.1)]
set_option maxHeartbeats 8000000 in
theorem reaching_ac [Mode] (T:List (List Int)) (n:Nat) (hT:Sq T n) (hn:n≤1000):AC Tryz.prog 156 [TL T] H0 (own1 1 n) (hpM 1 (btF n n (wsB (entN T) n))):=by
 have htl:=hT.l
 have hsg:=fun i j (hi:i<n) (hj:j<n)=>hT.get hi hj
 have hlen:(mRows 1 (TR T)).length=n:=by rw[mTR_len,htl]
 have hE:∀ i j,wsE (entN T) i j=(decide (i=j) || decide (entN T j i≠BOT)):=fun _ _=>rfl
 have hstp:∀ k,wsB (entN T) (k+1)=fun u v=>wsB (entN T) k u v || (wsB (entN T) k u k&&wsB (entN T) k k v):=fun _=>rfl
 have hcol:=fun k u=>wsB_col (W:=entN T) (k:=k) (u:=u)
 have hrowk:=fun k u=>wsB_row (W:=entN T) (k:=k) (v:=u)
 have hw0:wsB (entN T) 0=wsE (entN T):=rfl
 generalize entN T=a at *
 generalize wsB a=B at *
 generalize wsE a=E0 at *
 refine AC.of_body 0 Tryz.func156 rfl (fun l h=>absurd rfl h) (fun C hC=>?_)
 have hD:∀ l,¬ C.D0 l:=fun l h=>(hC l).1 h rfl
 simp only[startFr,Tryz.ntmps156,List.length_cons,List.length_nil,Nat.reduceAdd,Nat.reduceSub,List.replicate_succ,List.replicate_zero,List.cons_append,List.nil_append]
 repeat' (first|((first|apply Ba|(apply Bb;(· rfl);(· rfl))|(apply Bc;(· exact nxE))|(apply Bd;(· rfl);(· rfl);(· exact nxE)));(· first|exact Ok.lenD rfl rfl hlen|exact Ok.pe))|((first|apply Ca|(apply Cb;(· exact nxE)));(· first|exact Ok.e0))|refine Sx ?_|(refine Sy (fun h=>?_) (fun h=>?_)<;>try (exfalso;omega;done))|refine Sz (fun h=>?_) (fun h=>?_))
 refine AW.loop (X:={k:Nat // k≤n}) (fun k=>⟨[TL T,Oo,Oo,I n,.own 1 ⟨1,[]⟩ 0 n,Oo,Oo,Oo,Oo,Oo,Oo,Oo,Oo,Oo,Oo,I n,I (k.1:Nat),Oo,Oo,Oo,Oo,Oo,Oo,Oo,Oo,Oo,Oo,Oo,Oo,Oo,Oo,Oo,Oo,Oo,Oo,Oo,Oo,Oo,Oo,Oo,Oo,Oo,Oo,Oo,Oo,Oo,Oo,Oo,Oo,Oo,Oo,Oo,Oo,Oo,Oo,Oo,Oo,Oo,Oo,Oo,Oo,Oo,Oo,Oo,Oo,Oo,Oo,Oo,Oo,Oo,Oo,Oo,Oo,Oo,Oo,Oo,Oo,Oo,Oo,Oo,Oo,Oo,Oo,Oo,Oo,Oo,Oo,Oo,Oo,Oo,Oo,Oo,Oo,Oo,Oo,Oo],heapX [] [{ l:=⟨1,[]⟩,k:=1,R:=btF k.1 n (mixW E0 zzW k.1 0),nils:=n - k.1,src:=⟨1,[]⟩,base:=⟨1,[]⟩ }],900⟩) (fun k=>n - k.1) ⟨0,Nat.zero_le _⟩ ?_ (fun k=>?_)
 ·
  (apply Le.headG [] [{ l:=⟨1,[]⟩,k:=1,R:=[],nils:=n,src:=⟨5,[]⟩,base:=⟨5,[]⟩ }] (fun _=>False))
  (case' hlen=>rfl)
  (case' hms=>rfl)
  all_goals (try dsimp only[srcs])
  (case' hfr|hob=>(repeat' (first|refine La ?_ ?_|exact Lc|refine Lo ?_|refine ⟨⟨_,rfl,?_⟩,?_⟩|refine Lx ?_)))
  (case' hok=>first|exact ⟨MI.ok_make rfl,trivial⟩|exact trivial)
  (case' hN=>rfl)
  (case' hS=>rfl)
  all_goals (first|exact Ld|(rfl))
 obtain ⟨i,hi⟩:=k
 simp only
 by_cases hlt:i<n
 case neg=>
  obtain rfl:i=n:=by omega
  rw[Nat.sub_self,mixW_all,← hw0]
  repeat' (first|((first|apply Ba|(apply Bb;(· rfl);(· rfl))|(apply Bc;(· exact nxE))|(apply Bd;(· rfl);(· rfl);(· exact nxE)));(· first|exact Ok.pe))|((first|apply Ca|(apply Cb;(· exact nxE)));(· first|exact Ok.e0))|refine Sx ?_|(refine Sy (fun h=>?_) (fun h=>?_)<;>try (exfalso;omega;done))|refine Sz (fun h=>?_) (fun h=>?_))
  refine AW.loop (X:={k:Nat // k≤i}) (fun k=>⟨[Oo,Oo,Oo,I i,.own 1 ⟨1,[]⟩ 0 i,Oo,Oo,Oo,Oo,Oo,Oo,Oo,Oo,Oo,Oo,Oo,Oo,Oo,Oo,Oo,Oo,Oo,Oo,Oo,Oo,Oo,Oo,Oo,Oo,Oo,Oo,Oo,Oo,Oo,Oo,Oo,Oo,Oo,Oo,Oo,Oo,Oo,Oo,Oo,Oo,Oo,Oo,Oo,Oo,I i,I (k.1:Nat),Oo,Oo,Oo,Oo,Oo,Oo,Oo,Oo,Oo,Oo,Oo,Oo,Oo,Oo,Oo,Oo,Oo,Oo,Oo,Oo,Oo,Oo,Oo,Oo,Oo,Oo,Oo,Oo,Oo,Oo,Oo,Oo,Oo,Oo,Oo,Oo,Oo,Oo,Oo,Oo,Oo,Oo,Oo,Oo,Oo],heapX [] [mi1 ⟨1,[]⟩ (btF i i (B k.1))],900⟩) (fun k=>i - k.1) ⟨0,Nat.zero_le _⟩ ?_ (fun k=>?_)
  ·
   (apply Le.headG [] [mi1 ⟨1,[]⟩ (btF i i (B 0))] (fun _=>False))
   (case' hlen=>rfl)
   (case' hms=>rfl)
   all_goals (try dsimp only[srcs])
   (case' hfr|hob=>(repeat' (first|refine La ?_ ?_|exact Lc|refine Lo ?_|refine ⟨⟨_,rfl,?_⟩,?_⟩|refine Lx ?_)))
   (case' hok=>first|exact ⟨MI.ok_same rfl (Cg),trivial⟩|exact trivial)
   (case' hN=>rfl)
   (case' hS=>rfl)
   all_goals (first|exact Ld|(rfl))
  obtain ⟨c,hk⟩:=k
  simp only
  by_cases hltk:c<i
  case neg=>
   obtain rfl:c=i:=by omega
   repeat' (first|((first|apply Ba|(apply Bb;(· rfl);(· rfl))|(apply Bc;(· exact nxE))|(apply Bd;(· rfl);(· rfl);(· exact nxE)));(· first|exact Ok.pe))|((first|apply Ca|(apply Cb;(· exact nxE)));(· first|exact Ok.e0))|refine Sx ?_|(refine Sy (fun h=>?_) (fun h=>?_)<;>try (exfalso;omega;done))|refine Sz (fun h=>?_) (fun h=>?_))
   refine Ya ?_
   (apply Le.headG [] [{ l:=⟨0,[]⟩,k:=1,R:=btF c c (B c),src:=⟨1,[]⟩,base:=⟨1,[]⟩ }] (fun _=>False))
   (case' hlen=>rfl)
   (case' hms=>rfl)
   all_goals (try dsimp only[srcs])
   (case' hfr|hob=>(repeat' (first|refine La ?_ ?_|exact Lc|refine Lo ?_|refine ⟨⟨_,rfl,?_⟩,?_⟩|refine Lx ?_)))
   (case' hok=>first|exact ⟨MI.ok_same rfl (Cg),trivial⟩|exact trivial)
   (case' hN=>rfl)
   (case' hS=>rfl)
   all_goals (first|exact Ld|(rfl))
  have hst:=hstp c
  have hco:=hcol c
  have hro:=hrowk c
  generalize hP':B (c+1)=P' at hst hco hro
  generalize hP:B c=P at *
  repeat' (first|((first|apply Ba|(apply Bb;(· rfl);(· rfl))|(apply Bc;(· exact nxE))|(apply Bd;(· rfl);(· rfl);(· exact nxE)));(· first|exact Ok.pe))|((first|apply Ca|(apply Cb;(· exact nxE)));(· first|exact Ok.e0))|refine Sx ?_|(refine Sy (fun h=>?_) (fun h=>?_)<;>try (exfalso;omega;done))|refine Sz (fun h=>?_) (fun h=>?_))
  refine AW.loop (X:={k:Nat // k≤i}) (fun k=>⟨[Oo,Oo,Oo,I i,.own 1 ⟨1,[]⟩ 0 i,Oo,Oo,I c,Oo,Oo,Oo,Oo,Oo,Oo,Oo,Oo,Oo,Oo,Oo,Oo,Oo,Oo,Oo,Oo,Oo,Oo,Oo,Oo,Oo,Oo,Oo,Oo,Oo,Oo,Oo,Oo,Oo,Oo,Oo,Oo,Oo,Oo,Oo,Oo,Oo,Oo,Oo,Oo,Oo,I i,I c,Oo,Oo,I i,I (k.1:Nat),Oo,Oo,Oo,Oo,Oo,Oo,Oo,Oo,Oo,Oo,Oo,Oo,Oo,Oo,Oo,Oo,Oo,Oo,Oo,Oo,Oo,Oo,Oo,Oo,Oo,Oo,Oo,Oo,Oo,Oo,Oo,Oo,Oo,Oo,Oo,Oo,Oo,Oo,Oo,Oo,Oo],heapX [] [mi1 ⟨1,[]⟩ (btF i i (mixW P' P k.1 0))],900⟩) (fun k=>i - k.1) ⟨0,Nat.zero_le _⟩ ?_ (fun k=>?_)
  ·
   (apply Le.headG [] [mi1 ⟨1,[]⟩ (btF i i (mixW P' P 0 0))] (fun _=>False))
   (case' hlen=>rfl)
   (case' hms=>rfl)
   all_goals (try dsimp only[srcs])
   (case' hfr|hob=>(repeat' (first|refine La ?_ ?_|exact Lc|refine Lo ?_|refine ⟨⟨_,rfl,?_⟩,?_⟩|refine Lx ?_)))
   (case' hok=>first|exact ⟨by rw[mixW_0];exact MI.ok_same rfl (Cg),trivial⟩|exact trivial)
   (case' hN=>rfl)
   (case' hS=>rfl)
   all_goals (first|exact Ld|(rfl))
  obtain ⟨u,hu⟩:=k
  simp only
  by_cases hltu:u<i
  case neg=>
   obtain rfl:u=i:=by omega
   rw[mixW_all]
   repeat' (first|((first|apply Ba|(apply Bb;(· rfl);(· rfl))|(apply Bc;(· exact nxE))|(apply Bd;(· rfl);(· rfl);(· exact nxE)));(· first|exact Ok.pe))|((first|apply Ca|(apply Cb;(· exact nxE)));(· first|exact Ok.e0))|refine Sx ?_|(refine Sy (fun h=>?_) (fun h=>?_)<;>try (exfalso;omega;done))|refine Sz (fun h=>?_) (fun h=>?_))
   refine ⟨⟨c+1,by omega⟩,?_,by simp only;omega⟩
   simp only[hP']
   (apply Le.headG [] [mi1 ⟨1,[]⟩ (btF u u P')] (fun _=>False))
   (case' hlen=>rfl)
   (case' hms=>rfl)
   all_goals (try dsimp only[srcs])
   (case' hfr|hob=>(repeat' (first|refine La ?_ ?_|exact Lc|refine Lo ?_|refine ⟨⟨_,rfl,?_⟩,?_⟩|refine Lx ?_)))
   (case' hok=>first|exact ⟨MI.ok_same rfl (Cg),trivial⟩|exact trivial)
   (case' hN=>rfl)
   (case' hS=>rfl)
   all_goals (first|exact Ld|(rfl))
  repeat' (first|((first|apply Ba|(apply Bb;(· rfl);(· rfl))|(apply Bc;(· exact nxE))|(apply Bd;(· rfl);(· rfl);(· exact nxE)));(· first|exact Ok.pe))|((first|apply Ca|(apply Cb;(· exact nxE)));(· first|exact Ok.e0))|refine Sx ?_|(refine Sy (fun h=>?_) (fun h=>?_)<;>try (exfalso;omega;done))|refine Sz (fun h=>?_) (fun h=>?_))
  refine AW.loop (X:={k:Nat // k≤i}) (fun k=>⟨[Oo,Oo,Oo,I i,.own 1 ⟨1,[]⟩ 0 i,Oo,Oo,I c,I u,Oo,Oo,Oo,Oo,Oo,Oo,Oo,Oo,Oo,Oo,Oo,Oo,Oo,Oo,Oo,Oo,Oo,Oo,Oo,Oo,Oo,Oo,Oo,Oo,Oo,Oo,Oo,Oo,Oo,Oo,Oo,Oo,Oo,Oo,Oo,Oo,Oo,Oo,Oo,Oo,I i,I c,Oo,Oo,I i,I u,Oo,Oo,I i,I (k.1:Nat),Oo,Oo,Oo,Oo,Oo,Oo,Oo,Oo,Oo,Oo,Oo,Oo,Oo,Oo,Oo,Oo,Oo,Oo,Oo,Oo,Oo,Oo,Oo,Oo,Oo,Oo,Oo,Oo,Oo,Oo,Oo,Oo,Oo,Oo,Oo,Oo,Oo],heapX [] [mi1 ⟨1,[]⟩ (btF i i (mixW P' P u k.1))],900⟩) (fun k=>i - k.1) ⟨0,Nat.zero_le _⟩ ?_ (fun k=>?_)
  ·
   (apply Le.headG [] [mi1 ⟨1,[]⟩ (btF i i (mixW P' P u 0))] (fun _=>False))
   (case' hlen=>rfl)
   (case' hms=>rfl)
   all_goals (try dsimp only[srcs])
   (case' hfr|hob=>(repeat' (first|refine La ?_ ?_|exact Lc|refine Lo ?_|refine ⟨⟨_,rfl,?_⟩,?_⟩|refine Lx ?_)))
   (case' hok=>first|exact ⟨MI.ok_same rfl (Cg),trivial⟩|exact trivial)
   (case' hN=>rfl)
   (case' hS=>rfl)
   all_goals (first|exact Ld|(rfl))
  obtain ⟨v,hv⟩:=k
  simp only
  by_cases hltv:v<i
  case neg=>
   obtain rfl:v=i:=by omega
   rw[mixW_row]
   repeat' (first|((first|apply Ba|(apply Bb;(· rfl);(· rfl))|(apply Bc;(· exact nxE))|(apply Bd;(· rfl);(· rfl);(· exact nxE)));(· first|exact Ok.pe))|((first|apply Ca|(apply Cb;(· exact nxE)));(· first|exact Ok.e0))|refine Sx ?_|(refine Sy (fun h=>?_) (fun h=>?_)<;>try (exfalso;omega;done))|refine Sz (fun h=>?_) (fun h=>?_))
   refine ⟨⟨u+1,by omega⟩,?_,by simp only;omega⟩
   (apply Le.headG [] [mi1 ⟨1,[]⟩ (btF v v (mixW P' P (u+1) 0))] (fun _=>False))
   (case' hlen=>rfl)
   (case' hms=>rfl)
   all_goals (try dsimp only[srcs])
   (case' hfr|hob=>(repeat' (first|refine La ?_ ?_|exact Lc|refine Lo ?_|refine ⟨⟨_,rfl,?_⟩,?_⟩|refine Lx ?_)))
   (case' hok=>first|exact ⟨MI.ok_same rfl (Cg),trivial⟩|exact trivial)
   (case' hN=>rfl)
   (case' hS=>rfl)
   all_goals (first|exact Ld|(rfl))
  have huv:mixW P' P u v u v=P u v:=mixW_at
  have huk:mixW P' P u v u c=P u c:=by unfold mixW;split;exact hco u;rfl
  have hkv:mixW P' P u v c v=P c v:=by unfold mixW;split;exact hro v;rfl
  have hval:P' u v=(P u v || (P u c&&P c v)):=by rw[hst]
  have hri:=btF_get (n:=i) (F:=mixW P' P u v) hltu
  have hrk:=btF_get (n:=i) (F:=mixW P' P u v) hltk
  have hil:(brF i (mixW P' P u v u)).length=i:=brF_len
  have hkl:(brF i (mixW P' P u v c)).length=i:=brF_len
  have h1:=brF_get (g:=mixW P' P u v u) hltv
  have h2:=brF_get (g:=mixW P' P u v u) hltk
  have h3:=brF_get (g:=mixW P' P u v c) hltv
  have hset:=fun y (h:P' u v=y)=>mixW_step (g:=P) (n:=i) (j:=v) h
  rw[huv] at h1
  rw[huk] at h2
  rw[hkv] at h3
  generalize P u v=x at *
  generalize P u c=y at *
  generalize P c v=z at *
  have hset:=hset _ hval
  have hcs:x=true∨(x=false∧y=false)∨(x=false∧y=true):=by cases x<;>cases y<;>simp
  rcases hcs with rfl|⟨rfl,rfl⟩|⟨rfl,rfl⟩<;>simp only[Bool.true_or,Bool.false_or,Bool.and_false,Bool.and_true,Bool.true_and,Bool.false_and,Bool.or_self] at hset
  all_goals
   repeat' (first|((first|apply Ba|(apply Bb;(· rfl);(· rfl))|(apply Bc;(· exact nxE))|(apply Bd;(· rfl);(· rfl);(· exact nxE)));(· first|exact Ok.ldTn rfl rfl rfl hri hil|exact Ok.ldTn rfl rfl rfl hrk hkl|exact Ok.ld1 rfl rfl (congrArg (Option.map (dobj 1)) hri) h1|exact Ok.ld1 rfl rfl (congrArg (Option.map (dobj 1)) hri) h2|exact Ok.ld1 rfl rfl (congrArg (Option.map (dobj 1)) hrk) h3|exact Ok.st1 rfl rfl (congrArg (Option.map (dobj 1)) hri) (by rw[brF_len];exact hltv) (by rw[h1];rfl) rfl rfl hset|exact Ok.pe))|((first|apply Ca|(apply Cb;(· exact nxE)));(· first|exact Ok.st1 rfl rfl (congrArg (Option.map (dobj 1)) hri) (by rw[brF_len];exact hltv) (by rw[h1];rfl) rfl rfl hset|exact Ok.e0))|refine Sx ?_|(refine Sy (fun h=>?_) (fun h=>?_)<;>try (exfalso;omega;done))|refine Sz (fun h=>?_) (fun h=>?_))
   refine ⟨⟨v+1,by omega⟩,?_,by simp only;omega⟩
   (apply Le.headG [] [mi1 ⟨1,[]⟩ (btF i i (mixW P' P u (v+1)))] (fun _=>False))
   (case' hlen=>rfl)
   (case' hms=>rfl)
   all_goals (try dsimp only[srcs])
   (case' hfr|hob=>(repeat' (first|refine La ?_ ?_|exact Lc|refine Lo ?_|refine ⟨⟨_,rfl,?_⟩,?_⟩|refine Lx ?_)))
   (case' hok=>first|exact ⟨MI.ok_row (btF_setT fun a b h=>mixW_other h) hri (by rw[brF_len,brF_len]) rfl (Cg),trivial⟩|exact trivial)
   (case' hN=>rfl)
   (case' hS=>rfl)
   all_goals (first|exact Ld|(rfl))
 have hti:(btF i n (mixW E0 zzW i 0)).length=i:=btF_len
 rw[show n - i=(n - (i+1))+1 by omega]
 repeat' (first|((first|apply Ba|(apply Bb;(· rfl);(· rfl))|(apply Bc;(· exact nxE))|(apply Bd;(· rfl);(· rfl);(· exact nxE)));(· first|exact OpOk.loadCell rfl rfl rfl rfl (set_at (by simp only[outer_len];rw[hti];omega)) rfl|exact Ok.stT rfl rfl rfl (by dsimp only;rw[hti];omega) rfl|exact Ok.pe))|((first|apply Ca|(apply Cb;(· exact nxE)));(· first|exact Ok.stT rfl rfl rfl (by dsimp only;rw[hti];omega) rfl|exact Ok.e0))|refine Sx ?_|(refine Sy (fun h=>?_) (fun h=>?_)<;>try (exfalso;omega;done))|refine Sz (fun h=>?_) (fun h=>?_))
 refine AW.loop (X:={k:Nat // k≤n}) (fun k=>⟨[TL T,Oo,Oo,I n,.own 1 ⟨1,[]⟩ 0 n,I i,Oo,Oo,Oo,Oo,Oo,Oo,Oo,Oo,Oo,I n,I i,Oo,Oo,Oo,Oo,Oo,Oo,Oo,I n,I (k.1:Nat),Oo,Oo,Oo,Oo,Oo,Oo,Oo,Oo,Oo,Oo,Oo,Oo,Oo,Oo,Oo,Oo,Oo,Oo,Oo,Oo,Oo,Oo,Oo,Oo,Oo,Oo,Oo,Oo,Oo,Oo,Oo,Oo,Oo,Oo,Oo,Oo,Oo,Oo,Oo,Oo,Oo,Oo,Oo,Oo,Oo,Oo,Oo,Oo,Oo,Oo,Oo,Oo,Oo,Oo,Oo,Oo,Oo,Oo,Oo,Oo,Oo,Oo,Oo,Oo,Oo,Oo,Oo,Oo,Oo,Oo],heapX [] [{ l:=⟨1,[]⟩,k:=1,R:=btF (i+1) n (mixW E0 zzW i k.1),nils:=n - (i+1),src:=⟨1,[]⟩,base:=⟨1,[]⟩ }],900⟩) (fun k=>n - k.1) ⟨0,Nat.zero_le _⟩ ?_ (fun k=>?_)
 ·
  (apply Le.headG [] [{ l:=⟨1,[]⟩,k:=1,R:=btF (i+1) n (mixW E0 zzW i 0),nils:=n - (i+1),src:=⟨1,[]⟩,base:=⟨1,[]⟩,cut:=i,ext:=some ⟨906,[]⟩ }] (fun _=>False))
  (case' hlen=>rfl)
  (case' hms=>rfl)
  all_goals (try dsimp only[srcs])
  (case' hfr|hob=>(repeat' (first|refine La ?_ ?_|exact Lc|refine Lo ?_|refine ⟨⟨_,rfl,?_⟩,?_⟩|refine Lx ?_)))
  (case' hok=>first|exact ⟨MI.ok_fill (r:=List.replicate n [DB false]) zzW_snoc hti (by simp) rfl (Cg) rfl,trivial⟩|exact trivial)
  (case' hN=>rfl)
  (case' hS=>rfl)
  all_goals (first|exact Ld|((first|(simp[AllP,btF_len];done)|(simp[AllP,btF_len];omega))))
 obtain ⟨j,hj⟩:=k
 simp only
 by_cases hlt2:j<n
 case neg=>
  have hjn:j=n:=by omega
  subst hjn
  rw[mixW_row]
  repeat' (first|((first|apply Ba|(apply Bb;(· rfl);(· rfl))|(apply Bc;(· exact nxE))|(apply Bd;(· rfl);(· rfl);(· exact nxE)));(· first|exact Ok.pe))|((first|apply Ca|(apply Cb;(· exact nxE)));(· first|exact Ok.e0))|refine Sx ?_|(refine Sy (fun h=>?_) (fun h=>?_)<;>try (exfalso;omega;done))|refine Sz (fun h=>?_) (fun h=>?_))
  refine ⟨⟨i+1,by omega⟩,?_,by simp only;omega⟩
  (apply Le.headG [] [{ l:=⟨1,[]⟩,k:=1,R:=btF (i+1) j (mixW E0 zzW (i+1) 0),nils:=j - (i+1),src:=⟨1,[]⟩,base:=⟨1,[]⟩ }] (fun _=>False))
  (case' hlen=>rfl)
  (case' hms=>rfl)
  all_goals (try dsimp only[srcs])
  (case' hfr|hob=>(repeat' (first|refine La ?_ ?_|exact Lc|refine Lo ?_|refine ⟨⟨_,rfl,?_⟩,?_⟩|refine Lx ?_)))
  (case' hok=>first|exact ⟨MI.ok_same rfl (Cg),trivial⟩|exact trivial)
  (case' hN=>rfl)
  (case' hS=>rfl)
  all_goals (first|exact Ld|(rfl))
 obtain ⟨r,q1,q2,q3⟩:=hsg j i hlt2 hlt
 have hqr:=TR_get q1
 have hqf:=IR_get q2
 have hval:=hE i j
 have hri:=btF_get (n:=n) (F:=mixW E0 zzW i j) (show i<i+1 by omega)
 have hil:(brF n (mixW E0 zzW i j i)).length=n:=brF_len
 have h1:=brF_get (g:=mixW E0 zzW i j i) hlt2
 have hset:=fun y (h:E0 i j=y)=>mixW_step (g:=zzW) (n:=n) (j:=j) h
 generalize a j i=x at *
 by_cases hij:i=j
 ·have hset:=hset true (by rw[hval,decide_eq_true hij];rfl)
  repeat' (first|((first|apply Ba|(apply Bb;(· rfl);(· rfl))|(apply Bc;(· exact nxE))|(apply Bd;(· rfl);(· rfl);(· exact nxE)));(· first|exact Ok.ldTn rfl rfl rfl hri hil|exact Ok.st1 rfl rfl (congrArg (Option.map (dobj 1)) hri) (by rw[brF_len];exact hlt2) (by rw[h1];rfl) rfl rfl hset|exact Ok.pe))|((first|apply Ca|(apply Cb;(· exact nxE)));(· first|exact Ok.st1 rfl rfl (congrArg (Option.map (dobj 1)) hri) (by rw[brF_len];exact hlt2) (by rw[h1];rfl) rfl rfl hset|exact Ok.e0))|refine Sx ?_|(refine Sy (fun h=>?_) (fun h=>?_)<;>try (exfalso;omega;done))|refine Sz (fun h=>?_) (fun h=>?_))
  refine ⟨⟨j+1,by omega⟩,?_,by simp only;omega⟩
  (apply Le.headG [] [{ l:=⟨1,[]⟩,k:=1,R:=btF (i+1) n (mixW E0 zzW i (j+1)),nils:=n - (i+1),src:=⟨1,[]⟩,base:=⟨1,[]⟩ }] (fun _=>False))
  (case' hlen=>rfl)
  (case' hms=>rfl)
  all_goals (try dsimp only[srcs])
  (case' hfr|hob=>(repeat' (first|refine La ?_ ?_|exact Lc|refine Lo ?_|refine ⟨⟨_,rfl,?_⟩,?_⟩|refine Lx ?_)))
  (case' hok=>first|exact ⟨MI.ok_row (btF_setT fun a b h=>mixW_other h) hri (by rw[brF_len,brF_len]) rfl (Cg),trivial⟩|exact trivial)
  (case' hN=>rfl)
  (case' hS=>rfl)
  all_goals (first|exact Ld|(rfl))
 ·have hset:=hset (decide (x≠-1000000000000000)) (by rw[hval,decide_eq_false hij];rfl)
  repeat' (first|((first|apply Ba|(apply Bb;(· rfl);(· rfl))|(apply Bc;(· exact nxE))|(apply Bd;(· rfl);(· rfl);(· exact nxE)));(· first|exact Ok.ldTn rfl rfl rfl hri hil|exact Ok.st1 rfl rfl (congrArg (Option.map (dobj 1)) hri) (by rw[brF_len];exact hlt2) (by rw[h1];rfl) rfl rfl hset|exact Ok.pe))|((first|apply Ca|(apply Cb;(· exact nxE)));(· first|exact Ok.st1 rfl rfl (congrArg (Option.map (dobj 1)) hri) (by rw[brF_len];exact hlt2) (by rw[h1];rfl) rfl rfl hset|exact Ok.e0))|refine Sx ?_|(refine Sy (fun h=>?_) (fun h=>?_)<;>try (exfalso;omega;done))|refine Sz (fun h=>?_) (fun h=>?_))
  refine ⟨⟨j+1,by omega⟩,?_,by simp only;omega⟩
  (apply Le.headG [] [{ l:=⟨1,[]⟩,k:=1,R:=btF (i+1) n (mixW E0 zzW i (j+1)),nils:=n - (i+1),src:=⟨1,[]⟩,base:=⟨1,[]⟩ }] (fun _=>False))
  (case' hlen=>rfl)
  (case' hms=>rfl)
  all_goals (try dsimp only[srcs])
  (case' hfr|hob=>(repeat' (first|refine La ?_ ?_|exact Lc|refine Lo ?_|refine ⟨⟨_,rfl,?_⟩,?_⟩|refine Lx ?_)))
  (case' hok=>first|exact ⟨MI.ok_row (btF_setT fun a b h=>mixW_other h) hri (by rw[brF_len,brF_len]) rfl (Cg),trivial⟩|exact trivial)
  (case' hN=>rfl)
  (case' hS=>rfl)
  all_goals (first|exact Ld|(rfl))
end
section
open Go Go.RowKit
attribute [local irreducible] AL AD AW OpOk Le AC thenQ blockQ EndQ
set_option maxHeartbeats 8000000 in
theorem componentsOf_ac [Mode] (T:List (List Int)) (n:Nat) (hT:Sq T n) (hn:n≤1000) (F:Nat→Nat→Bool) (hF:∀ u v,u<n→v<n→wsB (entN T) n u v=F u v) (hr:∀ v,v<n→F v v=true):AC Tryz.prog 119 [TL T] H0 (own1 1 (ldrN F n n).length) (hpM 1 (cmpR F n n)):=by
 have htl:(mRows 1 (TR T)).length=n:=by simp[hT.l]
 have hR:=(reaching_ac T n hT hn).frzT btF_len
 have hB1:∀ i,i<n→(mRows 1 (btF n n (wsB (entN T) n)))[((i:Nat):Int).toNat]? = some [.sl 1 (brF n (wsB (entN T) n i))]:=fun i hi=>btM_get hi
 have hB2:∀ i j,i<n→j<n→(brF n (wsB (entN T) n i))[((j:Nat):Int).toNat]? = some [DB (F i j)]:=fun i j hi hj=>by
  rw[Int.toNat_natCast,brF_get hj,hF i j hi hj]
 have hB3:∀ i,(brF n (wsB (entN T) n i)).length=n:=fun i=>brF_len
 have hB4:(mRows 1 (btF n n (wsB (entN T) n))).length=n:=by simp[btF_len]
 generalize wsB (entN T) n=Rf at *
 refine AC.of_body 0 Tryz.func119 rfl (fun l h=>absurd rfl h) (fun C hC=>?_)
 have hD:∀ l,¬ C.D0 l:=fun l h=>(hC l).1 h rfl
 simp only[startFr,Tryz.ntmps119,List.length_cons,List.length_nil,Nat.reduceAdd,Nat.reduceSub,List.replicate_succ,List.replicate_zero,List.cons_append,List.nil_append]
 repeat' (first|((first|apply Ba|(apply Bb;(· rfl);(· rfl))|(apply Bc;(· exact nxE))|(apply Bd;(· rfl);(· rfl);(· exact nxE)));(· first|exact Kz rfl rfl (hR) (Ad An)|exact Ok.lenD rfl rfl htl|exact Ok.pe))|((first|apply Ca|(apply Cb;(· exact nxE)));(· first|exact Ok.e0))|refine Sx ?_|(refine Sy (fun h=>?_) (fun h=>?_)<;>try (exfalso;omega;done))|refine Sz (fun h=>?_) (fun h=>?_))
 refine AW.loop (X:={k:Nat // k≤n}) (fun k=>⟨[TL T,Oo,Oo,.d (.sl 1 (mRows 1 (btF n n Rf))),.own 1 ⟨1,[]⟩ 0 (ldrN F n (k.1:Nat)).length,Oo,Oo,Oo,Oo,Oo,Oo,I n,I (k.1:Nat),Oo,Oo,Oo,Oo,Oo,Oo,Oo,Oo,Oo,Oo,Oo,Oo,Oo,Oo,Oo,Oo,Oo,Oo,Oo,Oo,Oo,Oo,Oo,Oo,Oo,Oo,Oo,Oo,Oo,Oo,Oo,Oo,Oo,Oo,Oo,Oo,Oo,Oo,Oo],heapX [] [mi1 ⟨1,[]⟩ (cmpR F n k.1)],900⟩) (fun k=>n - k.1) ⟨0,Nat.zero_le _⟩ ?_ (fun k=>?_)
 ·
  refine (Le.nil 4 1 rfl).trans ?_
  (apply Le.headG [] [{ l:=⟨1,[]⟩,k:=1,R:=cmpR F n 0,src:=⟨8,[]⟩,base:=⟨8,[]⟩ }] (fun _=>False))
  (case' hlen=>rfl)
  (case' hms=>rfl)
  all_goals (try dsimp only[srcs])
  (case' hfr|hob=>(repeat' (first|refine La ?_ ?_|exact Lc|refine Lo ?_|refine ⟨⟨_,rfl,?_⟩,?_⟩|refine Lx ?_)))
  (case' hok=>first|exact ⟨MI.ok_same rfl (fun i x hx=>by simp[cmpR,ldrN] at hx),trivial⟩|exact trivial)
  (case' hN=>rfl)
  (case' hS=>rfl)
  all_goals (first|exact Ld|(rfl))
 obtain ⟨v,hv⟩:=k
 simp only
 by_cases hlt:v<n
 case neg=>
  obtain rfl:v=n:=by omega
  repeat' (first|((first|apply Ba|(apply Bb;(· rfl);(· rfl))|(apply Bc;(· exact nxE))|(apply Bd;(· rfl);(· rfl);(· exact nxE)));(· first|exact Ok.pe))|((first|apply Ca|(apply Cb;(· exact nxE)));(· first|exact Ok.e0))|refine Sx ?_|(refine Sy (fun h=>?_) (fun h=>?_)<;>try (exfalso;omega;done))|refine Sz (fun h=>?_) (fun h=>?_))
  refine Ya ?_
  (apply Le.headG [] [{ l:=⟨0,[]⟩,k:=1,R:=cmpR F v v,src:=⟨1,[]⟩,base:=⟨1,[]⟩ }] (fun _=>False))
  (case' hlen=>rfl)
  (case' hms=>rfl)
  all_goals (try dsimp only[srcs])
  (case' hfr|hob=>(repeat' (first|refine La ?_ ?_|exact Lc|refine Lo ?_|refine ⟨⟨_,rfl,?_⟩,?_⟩|refine Lx ?_)))
  (case' hok=>first|exact ⟨MI.ok_same rfl (Cg),trivial⟩|exact trivial)
  (case' hN=>rfl)
  (case' hS=>rfl)
  all_goals (first|exact Ld|(rfl))
 repeat' (first|((first|apply Ba|(apply Bb;(· rfl);(· rfl))|(apply Bc;(· exact nxE))|(apply Bd;(· rfl);(· rfl);(· exact nxE)));(· first|exact Ok.lenD rfl rfl htl|exact Ok.pe))|((first|apply Ca|(apply Cb;(· exact nxE)));(· first|exact Ok.e0))|refine Sx ?_|(refine Sy (fun h=>?_) (fun h=>?_)<;>try (exfalso;omega;done))|refine Sz (fun h=>?_) (fun h=>?_))
 refine AW.loop (X:={k:Nat // k≤n}) (fun k=>⟨[TL T,Oo,Oo,.d (.sl 1 (mRows 1 (btF n n Rf))),.own 1 ⟨1,[]⟩ 0 (ldrN F n v).length,I v,.own 1 ⟨2,[]⟩ 0 (clsN F v (k.1:Nat)).length,Oo,Oo,Oo,Oo,I n,I v,Oo,Oo,Oo,I n,I (k.1:Nat),Oo,Oo,Oo,Oo,Oo,Oo,Oo,Oo,Oo,Oo,Oo,Oo,Oo,Oo,Oo,Oo,Oo,Oo,Oo,Oo,Oo,Oo,Oo,Oo,Oo,Oo,Oo,Oo,Oo,Oo,Oo,Oo,Oo,Oo],heapX [(⟨2,[]⟩,⟨2,[]⟩,IO (cN (clsN F v k.1)))] [mi1 ⟨1,[]⟩ (cmpR F n v)],900⟩) (fun k=>n - k.1) ⟨0,Nat.zero_le _⟩ ?_ (fun k=>?_)
 ·
  refine (Le.nil 6 1 rfl).trans ?_
  (apply Le.headG [_] [mi1 ⟨1,[]⟩ (cmpR F n v)] (fun _=>False))
  (case' hlen=>rfl)
  (case' hms=>rfl)
  all_goals (try dsimp only[srcs])
  (case' hfr|hob=>(repeat' (first|refine La ?_ ?_|exact Lc|refine Lo ?_|refine ⟨⟨_,rfl,?_⟩,?_⟩|refine Lx ?_)))
  (case' hok=>first|exact ⟨MI.ok_same rfl (Cg),trivial⟩|exact trivial)
  (case' hN=>rfl)
  (case' hS=>rfl)
  all_goals (first|exact Ld|(rfl))
 obtain ⟨w,hw⟩:=k
 simp only
 by_cases hlt2:w<n
 ·have hst:=clsN_s (F:=F) (v:=v) (k:=w)
  have hle:=clsN_le (F:=F) (v:=v) (k:=w)
  have b1:=hB1 v hlt
  have b2:=hB1 w hlt2
  have b3:=hB2 v w hlt hlt2
  have b4:=hB2 w v hlt2 hlt
  have b5:=hB3 v
  have b6:=hB3 w
  have hapl:(IR (cN (clsN F v w))).length=(clsN F v w).length:=by simp
  generalize clsN F v w=L at *
  obtain ⟨y1,h1⟩:∃ y,F v w=y:=⟨_,rfl⟩
  obtain ⟨y2,h2⟩:∃ y,F w v=y:=⟨_,rfl⟩
  rw[h1] at b3 hst
  rw[h2] at b4 hst
  cases y1<;>cases y2
  case true.true=>
   rw[if_pos (show (true&&true)=true from rfl)] at hst
   repeat' (first|((first|apply Ba|(apply Bb;(· rfl);(· rfl))|(apply Bc;(· exact nxE))|(apply Bd;(· rfl);(· rfl);(· exact nxE)));(· first|exact Ok.append1 (row:=[DI w]) rfl rfl (by decide) rfl rfl hapl rfl rfl rfl (by rfl) (by omega) (by omega)|exact Ok.pe))|((first|apply Ca|(apply Cb;(· exact nxE)));(· first|exact Ok.append1 (row:=[DI w]) rfl rfl (by decide) rfl rfl hapl rfl rfl rfl (by rfl) (by omega) (by omega)|exact Ok.e0))|refine Sx ?_|(refine Sy (fun h=>?_) (fun h=>?_)<;>try (exfalso;omega;done))|refine Sz (fun h=>?_) (fun h=>?_))
   refine ⟨⟨w+1,by omega⟩,?_,by simp only;omega⟩
   simp only[hst]
   (apply Le.headG [_] [mi1 ⟨1,[]⟩ (cmpR F n v)] (fun _=>False))
   (case' hlen=>rfl)
   (case' hms=>rfl)
   all_goals (try dsimp only[srcs])
   (case' hfr|hob=>(repeat' (first|refine La ?_ ?_|exact Lc|refine Lo ?_|refine ⟨⟨_,rfl,?_⟩,?_⟩|refine Lx ?_)))
   (case' hok=>first|exact ⟨MI.ok_same rfl (Cg),trivial⟩|exact trivial)
   (case' hN=>rfl)
   (case' hS=>rfl)
   all_goals (first|exact Ld|((first|rfl|(simp[cN];done))))
  all_goals
   rw[if_neg (by decide)] at hst
   repeat' (first|((first|apply Ba|(apply Bb;(· rfl);(· rfl))|(apply Bc;(· exact nxE))|(apply Bd;(· rfl);(· rfl);(· exact nxE)));(· first|exact Ok.pe))|((first|apply Ca|(apply Cb;(· exact nxE)));(· first|exact Ok.e0))|refine Sx ?_|(refine Sy (fun h=>?_) (fun h=>?_)<;>try (exfalso;omega;done))|refine Sz (fun h=>?_) (fun h=>?_))
   refine ⟨⟨w+1,by omega⟩,?_,by simp only;omega⟩
   simp only[hst]
   (apply Le.headG [_] [mi1 ⟨1,[]⟩ (cmpR F n v)] (fun _=>False))
   (case' hlen=>rfl)
   (case' hms=>rfl)
   all_goals (try dsimp only[srcs])
   (case' hfr|hob=>(repeat' (first|refine La ?_ ?_|exact Lc|refine Lo ?_|refine ⟨⟨_,rfl,?_⟩,?_⟩|refine Lx ?_)))
   (case' hok=>first|exact ⟨MI.ok_same rfl (Cg),trivial⟩|exact trivial)
   (case' hN=>rfl)
   (case' hS=>rfl)
   all_goals (first|exact Ld|(rfl))
 obtain rfl:w=n:=by omega
 have hne:clsN F v w≠[]:=fun h=>by
  have:v∈clsN F v w:=clsN_mem.2 ⟨hlt,hr v hlt,hr v hlt⟩
  rw[h] at this;cases this
 have hst:=ldrN_s (F:=F) (n:=w) (k:=v)
 have hle:=ldrN_le (F:=F) (n:=w) (k:=v)
 have hcl:0<(clsN F v w).length:=List.length_pos_iff.2 hne
 have hcl2:(IR (cN (clsN F v w))).length=(clsN F v w).length:=by simp
 have hle2:=clsN_le (F:=F) (v:=v) (k:=w)
 have hfst:(dobj 1 (IR (cN (clsN F v w)))).rows[0+(0:Int).toNat]? = some [I (hdN (clsN F v w):Nat)]:=by
  cases hc:clsN F v w with
  | nil=>exact absurd hc hne
  | cons a b=>simp[dobj,cN,hdN]
 have hol:(cmpR F w v).length=(ldrN F w v).length:=cmpR_len
 by_cases hh:hdN (clsN F v w)=v
 ·rw[if_pos hh] at hst
  have hR2:cmpR F w (v+1)=cmpR F w v++[IR (cN (clsN F v w))]:=by simp[cmpR,hst]
  rw[hh] at hfst
  repeat' (first|((first|apply Ba|(apply Bb;(· rfl);(· rfl))|(apply Bc;(· exact nxE))|(apply Bd;(· rfl);(· rfl);(· exact nxE)));(· first|exact OpOk.loadCell rfl rfl rfl rfl hfst rfl|exact Ok.appendT rfl rfl (by decide) rfl rfl rfl (by simp[outer_len];done) rfl rfl (by rfl) (by omega) (by omega) rfl|exact Ok.pe))|((first|apply Ca|(apply Cb;(· exact nxE)));(· first|exact Ok.appendT rfl rfl (by decide) rfl rfl rfl (by simp[outer_len];done) rfl rfl (by rfl) (by omega) (by omega) rfl|exact Ok.e0))|refine Sx ?_|(refine Sy (fun h=>?_) (fun h=>?_)<;>try (exfalso;omega;done))|refine Sz (fun h=>?_) (fun h=>?_))
  refine ⟨⟨v+1,by omega⟩,?_,by simp only;omega⟩
  (apply Le.headG [] [{ l:=⟨1,[]⟩,k:=1,R:=cmpR F w (v+1),src:=⟨909,[]⟩,base:=⟨1,[]⟩,cut:=(ldrN F w v).length,ext:=some ⟨2,[]⟩ }] (fun _=>False))
  (case' hlen=>rfl)
  (case' hms=>rfl)
  all_goals (try dsimp only[srcs])
  (case' hfr|hob=>(repeat' (first|refine La ?_ ?_|exact Lc|refine Lo ?_|refine ⟨⟨_,rfl,?_⟩,?_⟩|refine Lx ?_)))
  (case' hok=>first|exact ⟨MI.ok_app hR2 cmpR_len hcl2 rfl (Cg) rfl,trivial⟩|exact trivial)
  (case' hN=>rfl)
  (case' hS=>rfl)
  all_goals (first|exact Ld|((first|(simp[AllP,hst];done)|(rw[hst];simp;done))))
 ·rw[if_neg hh] at hst
  have hR2:cmpR F w (v+1)=cmpR F w v:=by simp[cmpR,hst]
  have hh2:¬ ((hdN (clsN F v w):Nat):Int)=v:=by omega
  generalize hdN (clsN F v w)=z at *
  repeat' (first|((first|apply Ba|(apply Bb;(· rfl);(· rfl))|(apply Bc;(· exact nxE))|(apply Bd;(· rfl);(· rfl);(· exact nxE)));(· first|exact OpOk.loadCell rfl rfl rfl rfl hfst rfl|exact Ok.pe))|((first|apply Ca|(apply Cb;(· exact nxE)));(· first|exact Ok.e0))|refine Sx ?_|(refine Sy (fun h=>?_) (fun h=>?_)<;>try (exfalso;omega;done))|refine Sz (fun h=>?_) (fun h=>?_))
  refine ⟨⟨v+1,by omega⟩,?_,by simp only;omega⟩
  rw[hR2]
  simp only[hst]
  (apply Le.headG [] [mi1 ⟨1,[]⟩ (cmpR F w v)] (fun _=>False))
  (case' hlen=>rfl)
  (case' hms=>rfl)
  all_goals (try dsimp only[srcs])
  (case' hfr|hob=>(repeat' (first|refine La ?_ ?_|exact Lc|refine Lo ?_|refine ⟨⟨_,rfl,?_⟩,?_⟩|refine Lx ?_)))
  (case' hok=>first|exact ⟨MI.ok_same rfl (Cg),trivial⟩|exact trivial)
  (case' hN=>rfl)
  (case' hS=>rfl)
  all_goals (first|exact Ld|(rfl))
end
section
open Go Go.RowKit
attribute [local irreducible] AL AD AW OpOk Le AC thenQ blockQ EndQ
theorem dobR_len [Mode] {k:Nat}{rows:List (List D)}:(dobj k rows).rows.length=rows.length:=by simp[dobj]
abbrev rwD {α:Type} (g:α→List (List D)) (ds:List α):List (List D):=ds.map fun d=>[D.sl 1 (g d)]
theorem rwD_get [Mode] {α:Type}{g:α→List (List D)}{ds:List α}{i:Nat}{d:α} (h:ds[i]? = some d):(rwD g ds)[i]? = some [D.sl 1 (g d)]:=by simp[h]
abbrev hsBx (bx:D):HL:=[(⟨1,[]⟩,⟨1,[]⟩,⟨1,[[.d bx]]⟩)]
abbrev hsDF {α:Type} (g:α→List (List D)) (ds:List α) (bx:D):HL:=[(⟨0,[]⟩,⟨0,[]⟩,dobj 1 (rwD g ds)),(⟨1,[]⟩,⟨1,[]⟩,⟨1,[[.d bx]]⟩)]
theorem hsBx_ok [Mode] {bx:D}:HOk (hsBx bx):=by
 intro p hp r hr c hc
 simp only[List.mem_cons,List.not_mem_nil,or_false] at hp
 subst hp;simp at hr;subst hr;simp at hc;subst hc;exact .d _
theorem hsDF_ok [Mode] {α:Type}{g:α→List (List D)}{ds:List α}{bx:D}:HOk (hsDF g ds bx):=by
 intro p hp r hr c hc
 simp only[List.mem_cons,List.not_mem_nil,or_false] at hp
 rcases hp with rfl|rfl
 ·simp only[dobj,List.mem_map] at hr
  obtain ⟨r',⟨d,_,rfl⟩,rfl⟩:=hr
  simp at hc;subst hc;exact .d _
 ·simp at hr;subst hr;simp at hc;subst hc;exact .d _
abbrev cloC:AV:=.clo (.func 120) [] [Bx 1 1]
set_option maxHeartbeats 1000000 in
theorem ccFn_ac [Mode] (t:List (List Int)) (n:Nat) (hT:Sq t n) (hn:n≤1000) (c:List Nat) (hc:c≠[]) (hlt:∀ x∈c,x<n) (hcl:c.length≤1000):AC Tryz.prog 120 [.d (.sl 1 (IR (cN c))),Bx 1 1] (heapL (hsBx (TD t))) (Bo (decide (c.length=1∧entN t (hdN c) (hdN c)=BOT))) (heapL (hsBx (TD t))):=by
 have hlen:(IR (cN c)).length=c.length:=by simp
 obtain ⟨a,b,rfl⟩:∃ a b,c=a :: b:=by
  cases c with
  | nil=>exact absurd rfl hc
  | cons a b=>exact ⟨a,b,rfl⟩
 have ha:a<n:=hlt a (by simp)
 have hf:(IR (cN (a :: b)))[((0:Int)).toNat]? = some [DI (a:Nat)]:=by simp
 have hhd:hdN (a :: b)=a:=rfl
 rw[hhd]
 obtain ⟨r,h1,h2,h3⟩:=hT.get ha ha
 have hrw:=TR_get h1
 have hcell:=IR_get h2
 have hrl:(IR r).length=n:=by rw[IR_len,h3]
 have htl:(mRows 1 (TR t)).length=n:=by rw[mTR_len,hT.l]
 generalize entN t a a=e at *
 generalize (a :: b).length=m at *
 by_cases hm:m=1
 ·by_cases he:e=BOT
  ·rw[decide_eq_true (show m=1∧e=BOT from ⟨hm,he⟩)]
   subst he
   unfold BOT at hcell
   refine AC.of_body 2 Tryz.func120 rfl (fun l h=>by simp[heapL,upd] at h;simp[h]) (fun C hC=>?_)
   simp only[startFr,Tryz.ntmps120,List.length_cons,List.length_nil,Nat.reduceAdd,Nat.reduceSub,List.replicate_succ,List.replicate_zero,List.cons_append,List.nil_append]
   have hD:∀ l,C.D0 l→l=⟨1,[]⟩:=fun l h=>by have:=(hC l).1 h;simpa [heapL,upd] using this
   repeat' (first|((first|apply Ba|(apply Bb;(· rfl);(· rfl))|(apply Bc;(· exact nxE))|(apply Bd;(· rfl);(· rfl);(· exact nxE)));(· first|exact Ok.lenD rfl rfl hlen|exact Ok.pe))|((first|apply Ca|(apply Cb;(· exact nxE)));(· first|exact Ok.e0))|refine Sx ?_|(refine Sy (fun h=>?_) (fun h=>?_)<;>try (exfalso;omega;done))|refine Sz (fun h=>?_) (fun h=>?_))
   all_goals
    (refine end1p (by first|exact .inl rfl|exact .inr rfl) rfl (by first|exact rT rfl|exact rCA rfl rfl rfl rfl (by simp)|exact rCC rfl rfl rfl rfl rfl) ?_ (Le.head ([(⟨1,[]⟩,⟨1,[]⟩,⟨1,[[TL t]]⟩)]) (by first|exact fun l h=>absurd h (hD l)|(intro l h;rcases hD l h with rfl;simp[tauL])|(intro l h;rcases hD l h with rfl|rfl<;>simp[tauL];done)|(intro l h;rcases hD l h with rfl|rfl|rfl<;>simp[tauL])) ?_ ?_ (by simp) (by simp) (by simp[AllP]) (n':=1000));(· (first|rfl|(rw[decide_eq_false he];done)|(simp_all;done))))<;>(repeat' (first|exact trivial|exact ARs.nil|refine ARs.cons ?_ ?_|exact AR.dead _|exact AR.dd _|exact AR.i (by (try dsimp only);omega)|exact AR.ptr _ _ _ _ (by simp[heapL,upd])|exact AR.own _ _ _ _ (by simp[heapL,upd])|refine AR.ownE _ _ _ ?_ (by simp[heapL,upd])|refine ⟨⟨_,rfl,?_⟩,?_⟩|exact ObA.data|refine ObA.box ?_|refine ObA.frE ?_|refine ObA.dataE ?_|refine ARs.agg ?_|refine ARs.tup ?_|exact AR.clo' ARs.nil ARs.nil|exact AR.clo' ARs.nil (hca _ _)))
  ·rw[decide_eq_false (show ¬ (m=1∧e=BOT) from fun h=>he h.2)]
   unfold BOT at he
   refine AC.of_body 2 Tryz.func120 rfl (fun l h=>by simp[heapL,upd] at h;simp[h]) (fun C hC=>?_)
   simp only[startFr,Tryz.ntmps120,List.length_cons,List.length_nil,Nat.reduceAdd,Nat.reduceSub,List.replicate_succ,List.replicate_zero,List.cons_append,List.nil_append]
   have hD:∀ l,C.D0 l→l=⟨1,[]⟩:=fun l h=>by have:=(hC l).1 h;simpa [heapL,upd] using this
   repeat' (first|((first|apply Ba|(apply Bb;(· rfl);(· rfl))|(apply Bc;(· exact nxE))|(apply Bd;(· rfl);(· rfl);(· exact nxE)));(· first|exact Ok.lenD rfl rfl hlen|exact Ok.pe))|((first|apply Ca|(apply Cb;(· exact nxE)));(· first|exact Ok.e0))|refine Sx ?_|(refine Sy (fun h=>?_) (fun h=>?_)<;>try (exfalso;omega;done))|refine Sz (fun h=>?_) (fun h=>?_))
   all_goals
    (refine end1p (by first|exact .inl rfl|exact .inr rfl) rfl (by first|exact rT rfl|exact rCA rfl rfl rfl rfl (by simp)|exact rCC rfl rfl rfl rfl rfl) ?_ (Le.head ([(⟨1,[]⟩,⟨1,[]⟩,⟨1,[[TL t]]⟩)]) (by first|exact fun l h=>absurd h (hD l)|(intro l h;rcases hD l h with rfl;simp[tauL])|(intro l h;rcases hD l h with rfl|rfl<;>simp[tauL];done)|(intro l h;rcases hD l h with rfl|rfl|rfl<;>simp[tauL])) ?_ ?_ (by simp) (by simp) (by simp[AllP]) (n':=1000));(· (first|rfl|(rw[decide_eq_false he];done)|(simp_all;done))))<;>(repeat' (first|exact trivial|exact ARs.nil|refine ARs.cons ?_ ?_|exact AR.dead _|exact AR.dd _|exact AR.i (by (try dsimp only);omega)|exact AR.ptr _ _ _ _ (by simp[heapL,upd])|exact AR.own _ _ _ _ (by simp[heapL,upd])|refine AR.ownE _ _ _ ?_ (by simp[heapL,upd])|refine ⟨⟨_,rfl,?_⟩,?_⟩|exact ObA.data|refine ObA.box ?_|refine ObA.frE ?_|refine ObA.dataE ?_|refine ARs.agg ?_|refine ARs.tup ?_|exact AR.clo' ARs.nil ARs.nil|exact AR.clo' ARs.nil (hca _ _)))
 ·rw[decide_eq_false (show ¬ (m=1∧e=BOT) from fun h=>hm h.1)]
  refine AC.of_body 2 Tryz.func120 rfl (fun l h=>by simp[heapL,upd] at h;simp[h]) (fun C hC=>?_)
  simp only[startFr,Tryz.ntmps120,List.length_cons,List.length_nil,Nat.reduceAdd,Nat.reduceSub,List.replicate_succ,List.replicate_zero,List.cons_append,List.nil_append]
  have hD:∀ l,C.D0 l→l=⟨1,[]⟩:=fun l h=>by have:=(hC l).1 h;simpa [heapL,upd] using this
  repeat' (first|((first|apply Ba|(apply Bb;(· rfl);(· rfl))|(apply Bc;(· exact nxE))|(apply Bd;(· rfl);(· rfl);(· exact nxE)));(· first|exact Ok.lenD rfl rfl hlen|exact Ok.pe))|((first|apply Ca|(apply Cb;(· exact nxE)));(· first|exact Ok.e0))|refine Sx ?_|(refine Sy (fun h=>?_) (fun h=>?_)<;>try (exfalso;omega;done))|refine Sz (fun h=>?_) (fun h=>?_))
  all_goals
   (refine end1p (by first|exact .inl rfl|exact .inr rfl) rfl (by first|exact rT rfl|exact rCA rfl rfl rfl rfl (by simp)|exact rCC rfl rfl rfl rfl rfl) ?_ (Le.head ([(⟨1,[]⟩,⟨1,[]⟩,⟨1,[[TL t]]⟩)]) (by first|exact fun l h=>absurd h (hD l)|(intro l h;rcases hD l h with rfl;simp[tauL])|(intro l h;rcases hD l h with rfl|rfl<;>simp[tauL];done)|(intro l h;rcases hD l h with rfl|rfl|rfl<;>simp[tauL])) ?_ ?_ (by simp) (by simp) (by simp[AllP]) (n':=1000));(· (first|rfl|(rw[decide_eq_false he];done)|(simp_all;done))))<;>(repeat' (first|exact trivial|exact ARs.nil|refine ARs.cons ?_ ?_|exact AR.dead _|exact AR.dd _|exact AR.i (by (try dsimp only);omega)|exact AR.ptr _ _ _ _ (by simp[heapL,upd])|exact AR.own _ _ _ _ (by simp[heapL,upd])|refine AR.ownE _ _ _ ?_ (by simp[heapL,upd])|refine ⟨⟨_,rfl,?_⟩,?_⟩|exact ObA.data|refine ObA.box ?_|refine ObA.frE ?_|refine ObA.dataE ?_|refine ARs.agg ?_|refine ARs.tup ?_|exact AR.clo' ARs.nil ARs.nil|exact AR.clo' ARs.nil (hca _ _)))
set_option maxHeartbeats 2000000 in
theorem idxRows_ac [Mode] {α:Type} (g:α→List (List D)) (ds:List α) (bx:D) (p:α→Bool) (hn:ds.length≤100000) (hp:∀ d∈ds,AC Tryz.prog 120 [.d (.sl 1 (g d)),Bx 1 1] (heapL (hsBx bx)) (Bo (p d)) (heapL (hsBx bx))):AC Tryz.prog 155 [own1 1 ds.length,cloC] (heapL (hsDF g ds bx)) (I (idxOf p ds 0)) (heapL (hsDF g ds bx)):=by
 refine AC.of_body 2 Tryz.func155 rfl (fun l h=>by simp[heapL,upd] at h;(repeat' split at h)<;>simp_all) (fun C hC=>?_)
 simp only[startFr,Tryz.ntmps155,List.length_cons,List.length_nil,Nat.reduceAdd,Nat.reduceSub,List.replicate_succ,List.replicate_zero,List.cons_append,List.nil_append]
 have hD:∀ l,C.D0 l→l=⟨0,[]⟩∨l=⟨1,[]⟩:=fun l h=>by have:=(hC l).1 h;simp[heapL,upd] at this;(repeat' split at this)<;>simp_all
 repeat' (first|((first|apply Ba|(apply Bb;(· rfl);(· rfl))|(apply Bc;(· exact nxE))|(apply Bd;(· rfl);(· rfl);(· exact nxE)));(· first|exact Ok.pe))|((first|apply Ca|(apply Cb;(· exact nxE)));(· first|exact Ok.e0))|refine Sx ?_|(refine Sy (fun h=>?_) (fun h=>?_)<;>try (exfalso;omega;done))|refine Sz (fun h=>?_) (fun h=>?_))
 refine AW.loop (X:={k:Nat // k≤ds.length∧idxOf p ds 0=idxOf p (ds.drop k) k}) (fun k=>⟨[.own 1 ⟨0,[]⟩ 0 ds.length,cloC,Oo,Oo,Oo,Oo,Oo,I ds.length,I (k.1:Nat),Oo,Oo,Oo,Oo,Oo,Oo,Oo,Oo,Oo,Oo],heapL [(⟨0,[]⟩,⟨0,[]⟩,dobj 1 (rwD g ds)),(⟨1,[]⟩,⟨1,[]⟩,⟨1,[[.d bx]]⟩)],900⟩) (fun k=>ds.length - k.1) ⟨0,Nat.zero_le _,by simp⟩ ?_ (fun k=>?_)
 ·
  (apply Le.headZ [_,_] rfl)
  all_goals (try dsimp only[srcs])
  (case' hfr|hob=>(repeat' (first|refine La ?_ ?_|exact Lc|refine Lo ?_|refine ⟨⟨_,rfl,?_⟩,?_⟩|refine Lx ?_)))
  all_goals (first|(rfl)|exact Ld)
 obtain ⟨i,hi,hall⟩:=k
 simp only
 by_cases hlt:i<ds.length
 ·obtain ⟨d,hd⟩:∃ d,ds[i]? = some d:=⟨ds[i],List.getElem?_eq_getElem hlt⟩
  have hrow:=rwD_get (g:=g) hd
  have hF:=hp d (List.mem_of_getElem? hd)
  have hst:=idxOf_at (f:=p) hd i
  rw[← hall] at hst
  generalize p d=y at *
  repeat' (first|((first|apply Ba|(apply Bb;(· rfl);(· rfl))|(apply Bc;(· exact nxE))|(apply Bd;(· rfl);(· rfl);(· exact nxE)));(· first|exact Ok.ld1 rfl rfl rfl hrow|exact OpOk.callS (hsBx bx) rfl rfl hF (by intro p hp;simp only[List.mem_cons,List.not_mem_nil,or_false] at hp;rcases hp with rfl;rfl) hsBx_ok (.d _) (.cons (.dd _) (.cons (AR.ptr _ _ _ _ (by simp)) .nil))|exact Ok.pe))|((first|apply Ca|(apply Cb;(· exact nxE)));(· first|exact Ok.e0))|refine Sx ?_|(refine Sy (fun h=>?_) (fun h=>?_)<;>try (exfalso;omega;done))|refine Sz (fun h=>?_) (fun h=>?_))
  ·
   (refine end1p (by first|exact .inl rfl|exact .inr rfl) rfl (by first|exact rT rfl|exact rCA rfl rfl rfl rfl (by simp)|exact rCC rfl rfl rfl rfl rfl) ?_ (Le.head ([(⟨0,[]⟩,⟨0,[]⟩,dobj 1 (rwD g ds)),(⟨1,[]⟩,⟨1,[]⟩,⟨1,[[.d bx]]⟩)]) (by first|exact fun l h=>absurd h (hD l)|(intro l h;rcases hD l h with rfl;simp[tauL])|(intro l h;rcases hD l h with rfl|rfl<;>simp[tauL];done)|(intro l h;rcases hD l h with rfl|rfl|rfl<;>simp[tauL])) ?_ ?_ (by simp) (by simp) (by simp[AllP]) (n':=1000));(· (rw[hst,if_pos (by assumption)];done)))<;>(repeat' (first|exact trivial|exact ARs.nil|refine ARs.cons ?_ ?_|exact AR.dead _|exact AR.dd _|exact AR.i (by (try dsimp only);omega)|exact AR.ptr _ _ _ _ (by simp[heapL,upd])|exact AR.own _ _ _ _ (by simp[heapL,upd])|refine AR.ownE _ _ _ ?_ (by simp[heapL,upd])|refine ⟨⟨_,rfl,?_⟩,?_⟩|exact ObA.data|refine ObA.box ?_|refine ObA.frE ?_|refine ObA.dataE ?_|refine ARs.agg ?_|refine ARs.tup ?_|exact AR.clo' ARs.nil ARs.nil|exact AR.clo' ARs.nil (hca _ _)))
  ·refine ⟨⟨i+1,by omega,by rw[hst,if_neg (by simp_all)]⟩,?_,by simp only;omega⟩
   (apply Le.headZ [_,_] rfl)
   all_goals (try dsimp only[srcs])
   (case' hfr|hob=>(repeat' (first|refine La ?_ ?_|exact Lc|refine Lo ?_|refine ⟨⟨_,rfl,?_⟩,?_⟩|refine Lx ?_)))
   all_goals (first|(rfl)|exact Ld)
 ·
  repeat' (first|((first|apply Ba|(apply Bb;(· rfl);(· rfl))|(apply Bc;(· exact nxE))|(apply Bd;(· rfl);(· rfl);(· exact nxE)));(· first|exact Ok.pe))|((first|apply Ca|(apply Cb;(· exact nxE)));(· first|exact Ok.e0))|refine Sx ?_|(refine Sy (fun h=>?_) (fun h=>?_)<;>try (exfalso;omega;done))|refine Sz (fun h=>?_) (fun h=>?_))
  (refine end1p (by first|exact .inl rfl|exact .inr rfl) rfl (by first|exact rT rfl|exact rCA rfl rfl rfl rfl (by simp)|exact rCC rfl rfl rfl rfl rfl) ?_ (Le.head ([(⟨0,[]⟩,⟨0,[]⟩,dobj 1 (rwD g ds)),(⟨1,[]⟩,⟨1,[]⟩,⟨1,[[.d bx]]⟩)]) (by first|exact fun l h=>absurd h (hD l)|(intro l h;rcases hD l h with rfl;simp[tauL])|(intro l h;rcases hD l h with rfl|rfl<;>simp[tauL];done)|(intro l h;rcases hD l h with rfl|rfl|rfl<;>simp[tauL])) ?_ ?_ (by simp) (by simp) (by simp[AllP]) (n':=1000));(· (rw[hall,List.drop_of_length_le (by omega)];rfl)))<;>(repeat' (first|exact trivial|exact ARs.nil|refine ARs.cons ?_ ?_|exact AR.dead _|exact AR.dd _|exact AR.i (by (try dsimp only);omega)|exact AR.ptr _ _ _ _ (by simp[heapL,upd])|exact AR.own _ _ _ _ (by simp[heapL,upd])|refine AR.ownE _ _ _ ?_ (by simp[heapL,upd])|refine ⟨⟨_,rfl,?_⟩,?_⟩|exact ObA.data|refine ObA.box ?_|refine ObA.frE ?_|refine ObA.dataE ?_|refine ARs.agg ?_|refine ARs.tup ?_|exact AR.clo' ARs.nil ARs.nil|exact AR.clo' ARs.nil (hca _ _)))
abbrev kpF {α:Type} (p:α→Bool) (ds:List α) (j:Nat):List α:=(ds.take j).filter fun d=>!p d
theorem kpF_s [Mode] {α:Type}{p:α→Bool}{ds:List α}{j:Nat}{d:α} (h:ds[j]? = some d):kpF p ds (j+1)=if p d=true then kpF p ds j else kpF p ds j++[d]:=by
 unfold kpF
 rw[List.take_add_one,h]
 cases hp:p d<;>simp[hp]
theorem kp_set [Mode] {α:Type}{g:α→List (List D)}{L ds:List α}{d:α} (h:L.length<ds.length):(rwD g (L++ds.drop L.length)).set L.length [D.sl 1 (g d)]=rwD g ((L++[d])++ds.drop (L++[d]).length):=by
 show (List.map (fun d=>[D.sl 1 (g d)]) _).set _ ((fun d=>[D.sl 1 (g d)]) d)=_
 rw[← List.map_set]
 congr 1
 have e:ds.drop L.length=ds[L.length] :: ds.drop (L.length+1):=List.drop_eq_getElem_cons h
 rw[List.set_append_right L.length d (Nat.le_refl _),Nat.sub_self,e,List.set_cons_zero]
 simp
theorem clr_rows [Mode] {α:Type}{g:α→List (List D)}{L ds:List α}{zr:List AV} (h:L.length≤ds.length):(dobj 1 (rwD g (L++ds.drop L.length))).rows.take (0+L.length)++List.replicate (ds.length - L.length) zr++(dobj 1 (rwD g (L++ds.drop L.length))).rows.drop (0+L.length+(ds.length - L.length))=((rwD g L).map fun r=>r.map AV.d)++List.replicate (ds.length - L.length) zr:=by
 have e:(dobj 1 (rwD g (L++ds.drop L.length))).rows=((rwD g L).map fun r=>r.map AV.d)++((rwD g (ds.drop L.length)).map fun r=>r.map AV.d):=by simp[dobj]
 have h1:((rwD g L).map fun r=>r.map AV.d).length=L.length:=by simp
 have h2:((rwD g (ds.drop L.length)).map fun r=>r.map AV.d).length=ds.length - L.length:=by simp
 rw[e,Nat.zero_add,List.take_append_of_le_length (by omega),List.take_of_length_le (by omega),List.drop_of_length_le (by rw[List.length_append];omega),List.append_nil]
theorem idx_no [Mode] {α:Type}{p:α→Bool}{ds:List α} (h:idxOf p ds 0=-1):∀ d∈ds,p d=false:=by
 suffices key:∀ (ds:List α) (k:Nat),idxOf p ds k=-1→∀ d∈ds,p d=false from key ds 0 h
 intro ds
 induction ds with
 | nil=>intro k _ d hd;cases hd
 | cons a l ih=>
  intro k h d hd
  unfold idxOf at h
  cases hp:p a with
  | true=>rw[hp,if_pos rfl] at h;omega
  | false=>
   rw[hp] at h
   rcases List.mem_cons.1 hd with rfl|hd
   ·exact hp
   ·exact ih (k+1) (by simpa using h) d hd
theorem idx_yes [Mode] {α:Type}{p:α→Bool}{ds:List α} (h:idxOf p ds 0≠-1):∃ i:Nat,idxOf p ds 0=i∧i<ds.length∧(∀ j d,j<i→ds[j]? = some d→p d=false)∧∀ d,ds[i]? = some d→p d=true:=by
 suffices key:∀ (ds:List α) (k:Nat),idxOf p ds k≠-1→∃ i:Nat,idxOf p ds k=((i+k:Nat):Int)∧i<ds.length∧(∀ j d,j<i→ds[j]? = some d→p d=false)∧∀ d,ds[i]? = some d→p d=true by
  obtain ⟨i,h1,h2⟩:=key ds 0 h
  exact ⟨i,by simpa using h1,h2⟩
 intro ds
 induction ds with
 | nil=>intro k h;exact absurd rfl h
 | cons a l ih=>
  intro k h
  unfold idxOf at h ⊢
  cases hp:p a with
  | true=>exact ⟨0,by simp,by simp,fun j d hj=>absurd hj (Nat.not_lt_zero j),fun d hd=>by simp at hd;subst hd;exact hp⟩
  | false=>
   rw[hp] at h
   obtain ⟨i,h1,h2,h3,h4⟩:=ih (k+1) (by simpa using h)
   refine ⟨i+1,by simp[h1];omega,by simp;omega,fun j d hj hd=>?_,fun d hd=>h4 d (by simpa using hd)⟩
   cases j with
   | zero=>simp at hd;subst hd;exact hp
   | succ j=>exact h3 j d (by omega) (by simpa using hd)
theorem kpF_all [Mode] {α:Type}{p:α→Bool}{ds:List α}{i:Nat} (h:∀ j d,j<i→ds[j]? = some d→p d=false) (hi:i≤ds.length):kpF p ds i=ds.take i:=by
 unfold kpF
 rw[List.filter_eq_self]
 intro d hd
 obtain ⟨j,hj,rfl⟩:=List.getElem_of_mem hd
 rw[List.length_take] at hj
 rw[h j _ (by omega) (by rw[List.getElem?_eq_getElem (by omega),List.getElem_take])]
 rfl
set_option maxHeartbeats 4000000 in
theorem delRows_ac [Mode] {α:Type} (g:α→List (List D)) (ds:List α) (bx:D) (p:α→Bool) (hn:ds.length≤100000) (hk:kpF p ds ds.length≠[]) (hp:∀ d∈ds,AC Tryz.prog 120 [.d (.sl 1 (g d)),Bx 1 1] (heapL (hsBx bx)) (Bo (p d)) (heapL (hsBx bx))):AC Tryz.prog 118 [own1 1 ds.length,cloC] (heapL (hsDF g ds bx)) (.own 1 ⟨2,[]⟩ 0 (kpF p ds ds.length).length) (upd H0 ⟨2,[]⟩ (some (dobj 1 (rwD g (kpF p ds ds.length))))):=by
 have hI:=idxRows_ac g ds bx p hn hp
 by_cases h0:idxOf p ds 0=-1
 ·rw[h0] at hI
  have e:kpF p ds ds.length=ds:=by
   rw[kpF_all (fun j d hj hd=>idx_no h0 d (List.mem_of_getElem? hd)) (Nat.le_refl _),List.take_length]
  rw[e]
  refine AC.of_body 2 Tryz.func118 rfl (fun l h=>by simp[heapL,upd] at h;(repeat' split at h)<;>simp_all) (fun C hC=>?_)
  simp only[startFr,Tryz.ntmps118,List.length_cons,List.length_nil,Nat.reduceAdd,Nat.reduceSub,List.replicate_succ,List.replicate_zero,List.cons_append,List.nil_append]
  have hD:∀ l,C.D0 l→l=⟨0,[]⟩∨l=⟨1,[]⟩:=fun l h=>by have:=(hC l).1 h;simp[heapL,upd] at this;(repeat' split at this)<;>simp_all
  repeat' (first|((first|apply Ba|(apply Bb;(· rfl);(· rfl))|(apply Bc;(· exact nxE))|(apply Bd;(· rfl);(· rfl);(· exact nxE)));(· first|exact OpOk.callS (hsDF g ds bx) rfl rfl hI (by intro p hp;simp only[List.mem_cons,List.not_mem_nil,or_false] at hp;rcases hp with rfl|rfl<;>rfl) hsDF_ok (.d _) (.cons (AR.own _ _ _ _ (by simp)) (.cons (AR.clo' .nil (.cons (AR.ptr _ _ _ _ (by simp)) .nil)) .nil))|exact Ok.pe))|((first|apply Ca|(apply Cb;(· exact nxE)));(· first|exact Ok.e0))|refine Sx ?_|(refine Sy (fun h=>?_) (fun h=>?_)<;>try (exfalso;omega;done))|refine Sz (fun h=>?_) (fun h=>?_))
  exact end1cut (.inl rfl) rfl (rT rfl) rfl rfl rfl ⟨[],by simp[dobj]⟩ (fun l h=>by rcases hD l h with rfl|rfl<;>simp)
 obtain ⟨i0,e0,hi0,hall,hat⟩:=idx_yes h0
 rw[e0] at hI
 have k0:=kpF_all hall (Nat.le_of_lt hi0)
 have k1:kpF p ds (i0+1)=ds.take i0:=by
  rw[kpF_s (List.getElem?_eq_getElem hi0),if_pos (hat _ (List.getElem?_eq_getElem hi0)),k0]
 have hlt1:∀ j,i0<j→j≤ds.length→(kpF p ds j).length<j:=fun j hj hjl=>by
  induction j with
  | zero=>omega
  | succ j ih=>
   by_cases hji:j=i0
   ·subst hji;rw[k1,List.length_take];omega
   ·have:=ih (by omega) (by omega)
    rw[kpF_s (List.getElem?_eq_getElem (show j<ds.length by omega))]
    split
    ·omega
    ·simp;omega
 refine AC.of_body 2 Tryz.func118 rfl (fun l h=>by simp[heapL,upd] at h;(repeat' split at h)<;>simp_all) (fun C hC=>?_)
 simp only[startFr,Tryz.ntmps118,List.length_cons,List.length_nil,Nat.reduceAdd,Nat.reduceSub,List.replicate_succ,List.replicate_zero,List.cons_append,List.nil_append]
 have hD:∀ l,C.D0 l→l=⟨0,[]⟩∨l=⟨1,[]⟩:=fun l h=>by have:=(hC l).1 h;simp[heapL,upd] at this;(repeat' split at this)<;>simp_all
 repeat' (first|((first|apply Ba|(apply Bb;(· rfl);(· rfl))|(apply Bc;(· exact nxE))|(apply Bd;(· rfl);(· rfl);(· exact nxE)));(· first|exact OpOk.callS (hsDF g ds bx) rfl rfl hI (by intro p hp;simp only[List.mem_cons,List.not_mem_nil,or_false] at hp;rcases hp with rfl|rfl<;>rfl) hsDF_ok (.d _) (.cons (AR.own _ _ _ _ (by simp)) (.cons (AR.clo' .nil (.cons (AR.ptr _ _ _ _ (by simp)) .nil)) .nil))|exact Ok.pe))|((first|apply Ca|(apply Cb;(· exact nxE)));(· first|exact Ok.e0))|refine Sx ?_|(refine Sy (fun h=>?_) (fun h=>?_)<;>try (exfalso;omega;done))|refine Sz (fun h=>?_) (fun h=>?_))
 refine AW.loop (X:={k:Nat // k≤ds.length - (i0+1)}) (fun k=>⟨[.own 1 ⟨0,[]⟩ 0 ds.length,cloC,Oo,Oo,Oo,I (kpF p ds (i0+1+(k.1:Nat))).length,I ((i0+1+(k.1:Nat):Nat)),Oo,Oo,Oo,Oo,Oo,Oo,Oo,Oo,Oo,Oo,Oo,Oo,Oo,Oo,Oo,Oo,Oo,Oo,Oo,Oo,Oo,Oo,Oo,Oo,Oo,Oo,Oo,Oo,Oo,Oo,Oo,Oo,Oo,Oo,Oo],heapL [(⟨0,[]⟩,⟨0,[]⟩,dobj 1 (rwD g (kpF p ds (i0+1+k.1)++ds.drop (kpF p ds (i0+1+k.1)).length))),(⟨1,[]⟩,⟨1,[]⟩,⟨1,[[.d bx]]⟩)],900⟩) (fun k=>ds.length - (i0+1) - k.1) ⟨0,Nat.zero_le _⟩ ?_ (fun k=>?_)
 ·
  have e1:(kpF p ds (i0+1+0)).length=i0:=by rw[Nat.add_zero,k1,List.length_take];omega
  have e2:kpF p ds (i0+1+0)++ds.drop (kpF p ds (i0+1+0)).length=ds:=by rw[e1,Nat.add_zero,k1,List.take_append_drop]
  rw[e2,e1]
  (apply Le.headZ [_,_] rfl)
  all_goals (try dsimp only[srcs])
  (case' hfr|hob=>(repeat' (first|refine La ?_ ?_|exact Lc|refine Lo ?_|refine ⟨⟨_,rfl,?_⟩,?_⟩|refine Lx ?_)))
  all_goals (first|(rfl)|exact Ld)
 obtain ⟨q,hq⟩:=k
 simp only
 obtain ⟨j,hj⟩:∃ j,i0+1+q=j:=⟨_,rfl⟩
 have hj2:i0+1+(q+1)=j+1:=by omega
 rw[hj]
 have hlj:=hlt1 j (by omega) (by omega)
 have hLl:(rwD g (kpF p ds j++ds.drop (kpF p ds j).length)).length=ds.length:=by simp;omega
 by_cases hlt:j<ds.length
 ·obtain ⟨d,hd⟩:∃ d,ds[j]? = some d:=⟨ds[j],List.getElem?_eq_getElem hlt⟩
  have hF:=hp d (List.mem_of_getElem? hd)
  have hst:=kpF_s (p:=p) hd
  have hset:=kp_set (g:=g) (L:=kpF p ds j) (ds:=ds) (d:=d) (by omega)
  have hrow:(rwD g (kpF p ds j++ds.drop (kpF p ds j).length))[j]? = some [D.sl 1 (g d)]:=by
   refine rwD_get ?_
   rw[List.getElem?_append_right (by omega),List.getElem?_drop,show (kpF p ds j).length+(j - (kpF p ds j).length)=j by omega]
   exact hd
  have hLi:(kpF p ds j).length<(rwD g (kpF p ds j++ds.drop (kpF p ds j).length)).length:=by rw[hLl];omega
  have hcl:(rwD g (kpF p ds j++ds.drop (kpF p ds j).length))[(kpF p ds j).length]?.map List.length=some 1:=by
   rw[List.getElem?_eq_getElem (by omega)];simp
  generalize p d=y at *
  generalize hL:kpF p ds j=L at *
  cases y with
  | true=>
   rw[if_pos rfl] at hst
   repeat' (first|((first|apply Ba|(apply Bb;(· rfl);(· rfl))|(apply Bc;(· exact nxE))|(apply Bd;(· rfl);(· rfl);(· exact nxE)));(· first|exact Ok.ld1 rfl rfl rfl hrow|exact OpOk.callS (hsBx bx) rfl rfl hF (by intro p hp;simp only[List.mem_cons,List.not_mem_nil,or_false] at hp;rcases hp with rfl;rfl) hsBx_ok (.d _) (.cons (.dd _) (.cons (AR.ptr _ _ _ _ (by simp)) .nil))|exact Ok.pe))|((first|apply Ca|(apply Cb;(· exact nxE)));(· first|exact Ok.e0))|refine Sx ?_|(refine Sy (fun h=>?_) (fun h=>?_)<;>try (exfalso;omega;done))|refine Sz (fun h=>?_) (fun h=>?_))
   refine ⟨⟨q+1,by omega⟩,?_,by simp only;omega⟩
   simp only[hj2,hst]
   (apply Le.headZ [_,_] rfl)
   all_goals (try dsimp only[srcs])
   (case' hfr|hob=>(repeat' (first|refine La ?_ ?_|exact Lc|refine Lo ?_|refine ⟨⟨_,rfl,?_⟩,?_⟩|refine Lx ?_)))
   all_goals (first|((first|rfl|exact congrArg (fun x:Int=>I x) (by omega)))|exact Ld)
  | false=>
   rw[if_neg (by decide)] at hst
   repeat' (first|((first|apply Ba|(apply Bb;(· rfl);(· rfl))|(apply Bc;(· exact nxE))|(apply Bd;(· rfl);(· rfl);(· exact nxE)));(· first|exact Ok.ld1 rfl rfl rfl hrow|exact OpOk.callS (hsBx bx) rfl rfl hF (by intro p hp;simp only[List.mem_cons,List.not_mem_nil,or_false] at hp;rcases hp with rfl;rfl) hsBx_ok (.d _) (.cons (.dd _) (.cons (AR.ptr _ _ _ _ (by simp)) .nil))|exact Ok.st1 rfl rfl rfl hLi hcl rfl rfl hset|exact Ok.pe))|((first|apply Ca|(apply Cb;(· exact nxE)));(· first|exact Ok.st1 rfl rfl rfl hLi hcl rfl rfl hset|exact Ok.e0))|refine Sx ?_|(refine Sy (fun h=>?_) (fun h=>?_)<;>try (exfalso;omega;done))|refine Sz (fun h=>?_) (fun h=>?_))
   refine ⟨⟨q+1,by omega⟩,?_,by simp only;omega⟩
   simp only[hj2,hst]
   (apply Le.headZ [_,_] rfl)
   all_goals (try dsimp only[srcs])
   (case' hfr|hob=>(repeat' (first|refine La ?_ ?_|exact Lc|refine Lo ?_|refine ⟨⟨_,rfl,?_⟩,?_⟩|refine Lx ?_)))
   all_goals (first|((first|rfl|exact congrArg (fun x:Int=>I x) (by first|omega|(simp;done))|(simp;done)))|exact Ld)
 obtain rfl:j=ds.length:=by omega
 have hpos:=List.length_pos_iff.2 hk
 generalize hL:kpF p ds ds.length=L at *
 repeat' (first|((first|apply Ba|(apply Bb;(· rfl);(· rfl))|(apply Bc;(· exact nxE))|(apply Bd;(· rfl);(· rfl);(· exact nxE)));(· first|exact Ok.oFrom (h:=L.length) (m:=ds.length - L.length) rfl rfl rfl (by omega) (by omega) (by omega) (by omega)|exact Ok.sliceToO (m:=L.length) rfl rfl rfl (by omega) rfl (by omega)|exact Ok.clearC rfl rfl (by decide) (by decide) rfl rfl rfl (by simp only[dobR_len];omega) (by omega) (by rfl)|exact Ok.pe))|((first|apply Ca|(apply Cb;(· exact nxE)));(· first|exact Ok.clearC rfl rfl (by decide) (by decide) rfl rfl rfl (by simp only[dobR_len];omega) (by omega) (by rfl)|exact Ok.e0))|refine Sx ?_|(refine Sy (fun h=>?_) (fun h=>?_)<;>try (exfalso;omega;done))|refine Sz (fun h=>?_) (fun h=>?_))
 exact end1cut (.inl rfl) rfl (rT rfl) rfl rfl rfl ⟨_,clr_rows (by omega)⟩ (fun l h=>by rcases hD l h with rfl|rfl<;>simp)
end
end Go.Proofs.YtkpoclbnnpglfaaGreat
