/-
  Walks in the abstract reading, part 2.
-/
import Derived.Test.YtkpoclbnnpglfaaGreatKtU1
import Derived.Test.YtkpoclbnnpglfaaGreatKtA2
import Derived.Test.YtkpoclbnnpglfaaGreatKtG3
set_option linter.unusedSimpArgs false
set_option linter.unusedVariables false
namespace Go.Proofs.YtkpoclbnnpglfaaGreat
section
open Go Go.RowKit
attribute [local irreducible] AL AD AW OpOk Le AC thenQ blockQ EndQ
def entN (t:List (List Int)) (i j:Nat):Int:=(((t[i]?).getD [])[j]?).getD 0
structure Sq (t:List (List Int)) (n:Nat):Prop where
 l:t.length=n
 r:∀ r∈t,r.length=n
theorem Sq.get [Mode] {t:List (List Int)}{n i j:Nat} (h:Sq t n) (hi:i<n) (hj:j<n):∃ r,t[i]? = some r∧r[j]? = some (entN t i j)∧r.length=n:=by
 have h1:i<t.length:=by rw[h.l];exact hi
 have h2:=h.r t[i] (List.getElem_mem h1)
 refine ⟨t[i],List.getElem?_eq_getElem h1,?_,h2⟩
 unfold entN
 rw[List.getElem?_eq_getElem h1,Option.getD_some,List.getElem?_eq_getElem (by rw[h2];exact hj),Option.getD_some]
abbrev cN (p:List Nat):List Int:=p.map fun v:Nat=>(v:Int)
theorem any_cN [Mode] {p:List Nat}{v:Nat}:(cN p).any (fun x=>decide (x=(v:Int)))=decide (v∈p):=by
 rw[Bool.eq_iff_iff]
 simp only[List.any_map,List.any_eq_true,Function.comp_def,decide_eq_true_eq]
 constructor
 ·rintro ⟨x,hx,e⟩;have:x=v:=by omega
  subst this;exact hx
 ·intro h;exact ⟨v,h,rfl⟩
theorem range'_cons [Mode] {v n:Nat} (h:v<n):List.range' v (n - v)=v :: List.range' (v+1) (n - (v+1)):=by
 rw[show n - v=(n - (v+1))+1 by omega,List.range'_succ]
def bigB (t:List (List Int)):Prop:=∀ i j,entN t i j=-1000000000000000∨(-1000000000000≤entN t i j∧entN t i j≤1000000000000)
set_option maxHeartbeats 2000000 in
theorem l03Grow_ac [Mode] (t:List (List Int)) (n:Nat) (ht:Sq t n) (hn:n≤1000) (hb:bigB t) (over:Int):∀ (k:Nat) (path:List Nat) (w:Int),path≠[]→(∀ v∈path,v<n)→path.Nodup→path.length+k=n+1→(-1000000000000*(path.length:Int)≤w∧w≤1000000000000*(path.length:Int))→
  AC Tryz.prog 178 [TL t,IL (cN path),I w,I over] H0 (IL (cN (growF (entN t) n over k path w))) H0
 | 0,path,w,h0,h1,h2,h3,_=>by
  have:=nodup_le n path h2 h1
  omega
 | k+1,path,w,h0,h1,h2,h3,hw=>by
  have ih:=l03Grow_ac t n ht hn hb over k
  have hpl:0<path.length:=List.length_pos_iff.2 h0
  have hpn:=nodup_le n path h2 h1
  have hfn:hdN path<n:=h1 _ (by rw[hdN_getD,List.getD_eq_getElem?_getD,List.getElem?_eq_getElem hpl];exact List.getElem_mem hpl)
  have hln:lsN path<n:=h1 _ (by rw[lsN_getD,List.getD_eq_getElem?_getD,List.getElem?_eq_getElem (by omega)];exact List.getElem_mem _)
  have h00:(IR (cN path))[(0:Int).toNat]? = some [DI (hdN path)]:=by
   rw[hdN_getD,List.getD_eq_getElem?_getD];simp[List.getElem?_eq_getElem hpl]
  have hls:(IR (cN path))[((path.length:Int) - 1).toNat]? = some [DI (lsN path)]:=by
   rw[lsN_getD,List.getD_eq_getElem?_getD,show ((path.length:Int) - 1).toNat=path.length - 1 by omega];simp[List.getElem?_eq_getElem (show path.length - 1<path.length by omega)]
  obtain ⟨rf,hf1,hf2,hf3⟩:=ht.get hfn hln
  have hf:=TR_get hf1
  have hfl:=IR_get hf2
  have hbf:=hb (hdN path) (lsN path)
  rw[growF,show BOT=-1000000000000000 from rfl]
  refine AC.of_body 0 Tryz.func178 rfl (fun l h=>absurd rfl h) (fun C hC=>?_)
  have hD:∀ l,¬ C.D0 l:=fun l h=>(hC l).1 h rfl
  simp only[startFr,Tryz.ntmps178,List.length_cons,List.length_nil,Nat.reduceAdd,Nat.reduceSub,List.replicate_succ,List.replicate_zero,List.cons_append,List.nil_append]
  repeat' (first|((first|apply Ba|(apply Bb;(· rfl);(· rfl))|(apply Bc;(· exact nxE))|(apply Bd;(· rfl);(· rfl);(· exact nxE)));(· first|exact Ok.pe))|((first|apply Ca|(apply Cb;(· exact nxE)));(· first|exact Ok.e0))|refine Sx ?_|(refine Sy (fun h=>?_) (fun h=>?_)<;>try (exfalso;omega;done))|refine Sz (fun h=>?_) (fun h=>?_))
  ·
   refine Ya ?_
   (apply Le.headZ (hs:=[]) [] rfl)
   all_goals (try dsimp only[srcs])
   (case' hfr=>(repeat' (first|refine La ?_ ?_|exact Lc|refine Lo ?_|refine ⟨⟨_,rfl,?_⟩,?_⟩|refine Lx ?_)))
   all_goals (first|exact Ld|exact trivial|((rw[if_pos ⟨by assumption,by assumption⟩];done)))
  all_goals
   have hno:¬ (entN t (hdN path) (lsN path)≠-1000000000000000∧over<w+entN t (hdN path) (lsN path)):=by omega
   simp only[if_neg hno]
   generalize hf0:(fun v=>if entN t v (lsN path)=-1000000000000000∨v∈path then [] else growF (entN t) n over k (path++[v]) (w+entN t v (lsN path)))=f
   refine AW.loop (X:={v:Nat // hdN path+1≤v∧v≤n∧tryAll f (List.range' (hdN path+1) (n - (hdN path+1)))=tryAll f (List.range' v (n - v))}) (fun v=>⟨[TL t,IL (cN path),I w,I over,Oo,Oo,Oo,Oo,Oo,Oo,I (lsN path:Nat),I (v.1:Nat),Oo,Oo,Oo,Oo,Oo,Oo,Oo,Oo,Oo,Oo,Oo,Oo,Oo,Oo,Oo,Oo,Oo,Oo,Oo,Oo,Oo,Oo,Oo,Oo,Oo,Oo,Oo,Oo,Oo,Oo,Oo,Oo,Oo,Oo,Oo,Oo,Oo,Oo,Oo,Oo,Oo,Oo,Oo,Oo,Oo,Oo,Oo,Oo,Oo,Oo,Oo,Oo,Oo,Oo,Oo,Oo,Oo,Oo,Oo,Oo,Oo,Oo,Oo,Oo,Oo,Oo,Oo,Oo,Oo,Oo,Oo,Oo,Oo,Oo],heapL [],900⟩) (fun v=>n - v.1) ⟨hdN path+1,Nat.le_refl _,by omega,rfl⟩ ?_ (fun v=>?_)
   ·
    (apply Le.headZ [] rfl)
    all_goals (try dsimp only[srcs])
    (case' hfr|hob=>(repeat' (first|refine La ?_ ?_|exact Lc|refine Lo ?_|refine ⟨⟨_,rfl,?_⟩,?_⟩|refine Lx ?_)))
    all_goals (first|(rfl)|exact Ld)
   obtain ⟨v,hv1,hv2,hv3⟩:=v
   simp only
   have htl:=ht.l
   by_cases hlt:v<n
   ·obtain ⟨rv,hv4,hv5,hv6⟩:=ht.get hlt hln
    have hvr:=TR_get hv4
    have hvl:=IR_get hv5
    have hbv:=hb v (lsN path)
    have hst:=range'_cons hlt
    rw[hst,tryAll] at hv3
    have hfv:f v=if entN t v (lsN path)=-1000000000000000∨v∈path then [] else growF (entN t) n over k (path++[v]) (w+entN t v (lsN path)):=by rw[← hf0]
    have hH:=l01Has_ac (cN path) (v:Int) (by simp;omega)
    rw[any_cN] at hH
    by_cases hskip:entN t v (lsN path)=-1000000000000000∨v∈path
    ·rw[if_pos hskip] at hfv
     have hnx:tryAll f (List.range' (hdN path+1) (n - (hdN path+1)))=tryAll f (List.range' (v+1) (n - (v+1))):=by rw[hv3,hfv];simp
     repeat' (first|((first|apply Ba|(apply Bb;(· rfl);(· rfl))|(apply Bc;(· exact nxE))|(apply Bd;(· rfl);(· rfl);(· exact nxE)));(· first|exact Kz rfl rfl (hH) (Ad (Ad An))|exact Ok.pe))|((first|apply Ca|(apply Cb;(· exact nxE)));(· first|exact Ok.e0))|refine Sx ?_|(refine Sy (fun h=>?_) (fun h=>?_)<;>try (exfalso;omega;done))|refine Sz (fun h=>?_) (fun h=>?_))
     all_goals try (exfalso;rcases hskip with h5|h5<;>contradiction)
     all_goals
      refine ⟨⟨v+1,by omega,by omega,hnx⟩,?_,by simp only;omega⟩
      (apply Le.headZ [] rfl)
      all_goals (try dsimp only[srcs])
      (case' hfr|hob=>(repeat' (first|refine La ?_ ?_|exact Lc|refine Lo ?_|refine ⟨⟨_,rfl,?_⟩,?_⟩|refine Lx ?_)))
      all_goals (first|(rfl)|exact Ld)
    ·have hG:=ih (path++[v]) (w+entN t v (lsN path)) (by simp) (fun u hu=>by
      rcases List.mem_append.1 hu with hu|hu
      ·exact h1 u hu
      ·simp at hu;omega) (List.nodup_append.2 ⟨h2,by simp,fun a ha b hb e=>by simp at hb;subst hb;subst e;exact hskip (.inr ha)⟩) (by simp;omega) (by simp;omega)
     have happ:IR (cN (path++[v]))=IR (cN path)++[[DI v]]:=by simp
     unfold IL at hG
     rw[happ] at hG
     have hO:=l01Own_ac (cN path) (by simp;omega)
     rw[show (cN path).length=path.length by simp] at hO
     repeat' (first|((first|apply Ba|(apply Bb;(· rfl);(· rfl))|(apply Bc;(· exact nxE))|(apply Bd;(· rfl);(· rfl);(· exact nxE)));(· first|exact Kz rfl rfl (hH) (Ad (Ad An))|exact Zf rfl rfl (hG) (Sd (Sw (Sd (Sd Sn))))|exact Eo rfl rfl (hO) (Sd Sn)|exact Ok.append1 (row:=[DI v]) rfl rfl (by decide) rfl rfl (by simp;done) rfl rfl rfl (by rfl) (by omega) (by omega)|exact Ok.pe))|((first|apply Ca|(apply Cb;(· exact nxE)));(· first|exact Eo rfl rfl (hO) (Sd Sn)|exact Ok.append1 (row:=[DI v]) rfl rfl (by decide) rfl rfl (by simp;done) rfl rfl rfl (by rfl) (by omega) (by omega)|exact Ok.e0))|refine Sx ?_|(refine Sy (fun h=>?_) (fun h=>?_)<;>try (exfalso;omega;done))|refine Sz (fun h=>?_) (fun h=>?_))
     all_goals try (exfalso;first|exact hskip (.inl (by assumption))|exact hskip (.inr (by assumption)))
     ·
      refine Ya ?_
      (apply Le.headZ (hs:=[]) [] rfl)
      all_goals (try dsimp only[srcs])
      (case' hfr=>(repeat' (first|refine La ?_ ?_|exact Lc|refine Lo ?_|refine ⟨⟨_,rfl,?_⟩,?_⟩|refine Lx ?_)))
      all_goals (first|exact Ld|exact trivial|((rw[hv3,hfv,if_neg hskip,if_pos (by intro e;rw[e] at h;simp at h)];done)))
     ·have hnx:tryAll f (List.range' (hdN path+1) (n - (hdN path+1)))=tryAll f (List.range' (v+1) (n - (v+1))):=by
       rw[hv3,hfv,if_neg hskip,if_neg (by intro e;exact h (by have:=List.length_pos_iff.2 e;omega))]
      refine ⟨⟨v+1,by omega,by omega,hnx⟩,?_,by simp only;omega⟩
      (apply Le.headZ [] rfl)
      all_goals (try dsimp only[srcs])
      (case' hfr|hob=>(repeat' (first|refine La ?_ ?_|exact Lc|refine Lo ?_|refine ⟨⟨_,rfl,?_⟩,?_⟩|refine Lx ?_)))
      all_goals (first|(rfl)|exact Ld)
   ·
    rw[show n - v=0 by omega,List.range'_zero] at hv3
    rw[hv3]
    repeat' (first|((first|apply Ba|(apply Bb;(· rfl);(· rfl))|(apply Bc;(· exact nxE))|(apply Bd;(· rfl);(· rfl);(· exact nxE)));(· first|exact Ok.pe))|((first|apply Ca|(apply Cb;(· exact nxE)));(· first|exact Ok.e0))|refine Sx ?_|(refine Sy (fun h=>?_) (fun h=>?_)<;>try (exfalso;omega;done))|refine Sz (fun h=>?_) (fun h=>?_))
    refine Ya ?_
    (apply Le.headZ (hs:=[]) [] rfl)
    all_goals (try dsimp only[srcs])
    (case' hfr=>(repeat' (first|refine La ?_ ?_|exact Lc|refine Lo ?_|refine ⟨⟨_,rfl,?_⟩,?_⟩|refine Lx ?_)))
    all_goals (first|exact Ld|exact trivial|(rfl))
end
section
open Go Go.RowKit
attribute [local irreducible] AL AD AW OpOk Le AC thenQ blockQ EndQ
abbrev mi1 (l:Loc) (R:List (List (List D))):MI:={ l:=l,k:=1,R:=R,src:=l,base:=l }
def botT (m n:Nat):List (List Int):=List.replicate m (List.replicate n BOT)
theorem botT_succ [Mode] {i n:Nat}:TR (botT (i+1) n)=TR (botT i n)++[IR (List.replicate n BOT)]:=by
 simp[botT,List.replicate_succ']
theorem repl_succ [Mode] {i:Nat}{b:Int}:IR (List.replicate (i+1) b)=IR (List.replicate i b)++[[DI b]]:=by
 simp[List.replicate_succ']
theorem IR_len_repl [Mode] {i:Nat}{b:Int}:(IR (List.replicate i b)).length=i:=by simp
theorem l02Bottom_ac [Mode] (m n:Nat) (hm:m≤1000000) (hn:n≤1000000):AC Tryz.prog 145 [I m,I n] H0 (own1 1 m) (hpM 1 (TR (botT m n))):=by
 refine AC.of_body 0 Tryz.func145 rfl (fun l h=>absurd rfl h) (fun C hC=>?_)
 have hD:∀ l,¬ C.D0 l:=fun l h=>(hC l).1 h rfl
 simp only[startFr,Tryz.ntmps145,List.length_cons,List.length_nil,Nat.reduceAdd,Nat.reduceSub,List.replicate_succ,List.replicate_zero,List.cons_append,List.nil_append]
 repeat' (first|((first|apply Ba|(apply Bb;(· rfl);(· rfl))|(apply Bc;(· exact nxE))|(apply Bd;(· rfl);(· rfl);(· exact nxE)));(· first|exact Ok.pe))|((first|apply Ca|(apply Cb;(· exact nxE)));(· first|exact Ok.e0))|refine Sx ?_|(refine Sy (fun h=>?_) (fun h=>?_)<;>try (exfalso;omega;done))|refine Sz (fun h=>?_) (fun h=>?_))
 refine AW.loop (X:={k:Nat // k≤m}) (fun k=>⟨[I m,I n,Oo,Oo,Oo,.own 1 ⟨1,[]⟩ 0 (k.1:Nat),I (k.1:Nat),Oo,Oo,Oo,Oo,Oo,Oo,Oo,Oo,Oo,Oo,Oo,Oo,Oo,Oo,Oo,Oo,Oo,Oo,Oo,Oo,Oo,Oo],heapX [] [mi1 ⟨1,[]⟩ (TR (botT k.1 n))],900⟩) (fun k=>m - k.1) ⟨0,Nat.zero_le _⟩ ?_ (fun k=>?_)
 ·
  (apply Le.headG [] [{ l:=⟨1,[]⟩,k:=1,R:=TR (botT 0 n),src:=⟨1,[]⟩,base:=⟨1,[]⟩ }] (fun _=>False))
  (case' hlen=>rfl)
  (case' hms=>rfl)
  all_goals (try dsimp only[srcs])
  (case' hfr|hob=>(repeat' (first|refine La ?_ ?_|exact Lc|refine Lo ?_|refine ⟨⟨_,rfl,?_⟩,?_⟩|refine Lx ?_)))
  (case' hok=>first|exact ⟨MI.ok_same rfl (fun i x hx=>by simp[botT] at hx),trivial⟩|exact trivial)
  (case' hN=>rfl)
  (case' hS=>rfl)
  all_goals (first|exact Ld|(rfl))
 obtain ⟨i,hi⟩:=k
 simp only
 by_cases hlt:i<m
 ·
  repeat' (first|((first|apply Ba|(apply Bb;(· rfl);(· rfl))|(apply Bc;(· exact nxE))|(apply Bd;(· rfl);(· rfl);(· exact nxE)));(· first|exact Ok.pe))|((first|apply Ca|(apply Cb;(· exact nxE)));(· first|exact Ok.e0))|refine Sx ?_|(refine Sy (fun h=>?_) (fun h=>?_)<;>try (exfalso;omega;done))|refine Sz (fun h=>?_) (fun h=>?_))
  refine AW.loop (X:={k:Nat // k≤n}) (fun k=>⟨[I m,I n,Oo,Oo,Oo,.own 1 ⟨1,[]⟩ 0 i,I i,.own 1 ⟨2,[]⟩ 0 (k.1:Nat),I (k.1:Nat),Oo,Oo,Oo,Oo,Oo,Oo,Oo,Oo,Oo,Oo,Oo,Oo,Oo,Oo,Oo,Oo,Oo,Oo,Oo,Oo],heapX [(⟨2,[]⟩,⟨2,[]⟩,IO (List.replicate k.1 BOT))] [mi1 ⟨1,[]⟩ (TR (botT i n))],900⟩) (fun k=>n - k.1) ⟨0,Nat.zero_le _⟩ ?_ (fun k=>?_)
  ·
   (apply Le.headG [_] [mi1 ⟨1,[]⟩ (TR (botT i n))] (fun _=>False))
   (case' hlen=>rfl)
   (case' hms=>rfl)
   all_goals (try dsimp only[srcs])
   (case' hfr|hob=>(repeat' (first|refine La ?_ ?_|exact Lc|refine Lo ?_|refine ⟨⟨_,rfl,?_⟩,?_⟩|refine Lx ?_)))
   (case' hok=>first|exact ⟨MI.ok_same rfl (Cg),trivial⟩|exact trivial)
   (case' hN=>rfl)
   (case' hS=>rfl)
   all_goals (first|exact Ld|(rfl))
  obtain ⟨j,hj⟩:=k
  simp only
  by_cases hlt2:j<n
  ·
   repeat' (first|((first|apply Ba|(apply Bb;(· rfl);(· rfl))|(apply Bc;(· exact nxE))|(apply Bd;(· rfl);(· rfl);(· exact nxE)));(· first|exact Ok.append1 (row:=[DI BOT]) rfl rfl (by decide) rfl rfl IR_len_repl rfl rfl rfl (by rfl) (by omega) (by omega)|exact Ok.pe))|((first|apply Ca|(apply Cb;(· exact nxE)));(· first|exact Ok.append1 (row:=[DI BOT]) rfl rfl (by decide) rfl rfl IR_len_repl rfl rfl rfl (by rfl) (by omega) (by omega)|exact Ok.e0))|refine Sx ?_|(refine Sy (fun h=>?_) (fun h=>?_)<;>try (exfalso;omega;done))|refine Sz (fun h=>?_) (fun h=>?_))
   refine ⟨⟨j+1,by omega⟩,?_,by simp only;omega⟩
   (apply Le.headG [_] [mi1 ⟨1,[]⟩ (TR (botT i n))] (fun _=>False))
   (case' hlen=>rfl)
   (case' hms=>rfl)
   all_goals (try dsimp only[srcs])
   (case' hfr|hob=>(repeat' (first|refine La ?_ ?_|exact Lc|refine Lo ?_|refine ⟨⟨_,rfl,?_⟩,?_⟩|refine Lx ?_)))
   (case' hok=>first|exact ⟨MI.ok_same rfl (Cg),trivial⟩|exact trivial)
   (case' hN=>rfl)
   (case' hS=>rfl)
   all_goals (first|exact Ld|((rw[repl_succ])))
  ·
   have hjn:j=n:=by omega
   subst hjn
   repeat' (first|((first|apply Ba|(apply Bb;(· rfl);(· rfl))|(apply Bc;(· exact nxE))|(apply Bd;(· rfl);(· rfl);(· exact nxE)));(· first|exact Ok.appendT rfl rfl (by decide) rfl rfl rfl (by simp[outer_len,botT];done) rfl rfl (by rfl) (by omega) (by omega) rfl|exact Ok.pe))|((first|apply Ca|(apply Cb;(· exact nxE)));(· first|exact Ok.appendT rfl rfl (by decide) rfl rfl rfl (by simp[outer_len,botT];done) rfl rfl (by rfl) (by omega) (by omega) rfl|exact Ok.e0))|refine Sx ?_|(refine Sy (fun h=>?_) (fun h=>?_)<;>try (exfalso;omega;done))|refine Sz (fun h=>?_) (fun h=>?_))
   refine ⟨⟨i+1,by omega⟩,?_,by simp only;omega⟩
   (apply Le.headG [] [{ l:=⟨1,[]⟩,k:=1,R:=TR (botT (i+1) j),src:=⟨906,[]⟩,base:=⟨1,[]⟩,cut:=i,ext:=some ⟨2,[]⟩ }] (fun _=>False))
   (case' hlen=>rfl)
   (case' hms=>rfl)
   all_goals (try dsimp only[srcs])
   (case' hfr|hob=>(repeat' (first|refine La ?_ ?_|exact Lc|refine Lo ?_|refine ⟨⟨_,rfl,?_⟩,?_⟩|refine Lx ?_)))
   (case' hok=>first|exact ⟨MI.ok_app botT_succ (by simp[botT]) IR_len_repl rfl (Cg) rfl,trivial⟩|exact trivial)
   (case' hN=>rfl)
   (case' hS=>rfl)
   all_goals (first|exact Ld|((simp[AllP,botT];done)))
 ·
  repeat' (first|((first|apply Ba|(apply Bb;(· rfl);(· rfl))|(apply Bc;(· exact nxE))|(apply Bd;(· rfl);(· rfl);(· exact nxE)));(· first|exact Ok.pe))|((first|apply Ca|(apply Cb;(· exact nxE)));(· first|exact Ok.e0))|refine Sx ?_|(refine Sy (fun h=>?_) (fun h=>?_)<;>try (exfalso;omega;done))|refine Sz (fun h=>?_) (fun h=>?_))
  have him:i=m:=by omega
  subst him
  refine Ya ?_
  (apply Le.headG [] [{ l:=⟨0,[]⟩,k:=1,R:=TR (botT i n),src:=⟨1,[]⟩,base:=⟨1,[]⟩ }] (fun _=>False))
  (case' hlen=>rfl)
  (case' hms=>rfl)
  all_goals (try dsimp only[srcs])
  (case' hfr|hob=>(repeat' (first|refine La ?_ ?_|exact Lc|refine Lo ?_|refine ⟨⟨_,rfl,?_⟩,?_⟩|refine Lx ?_)))
  (case' hok=>first|exact ⟨MI.ok_same rfl (Cg),trivial⟩|exact trivial)
  (case' hN=>rfl)
  (case' hS=>rfl)
  all_goals (first|exact Ld|(rfl))
end
section
open Go Go.RowKit
attribute [local irreducible] AL AD AW OpOk Le AC thenQ blockQ EndQ
def setT (t:List (List Int)) (i j:Nat) (v:Int):List (List Int):=t.set i ((t.getD i []).set j v)
theorem setT_TR [Mode] {t:List (List Int)}{i j:Nat}{v:Int}{r:List Int} (h:t[i]? = some r):TR (setT t i j v)=(TR t).set i (IR (r.set j v)):=by
 simp[setT,List.map_set,List.getD_eq_getElem?_getD,h]
theorem IR_set [Mode] {r:List Int}{j:Nat}{v:Int}:(IR r).set j [DI v]=IR (r.set j v):=by simp[List.map_set]
theorem Sq.setT [Mode] {t:List (List Int)}{n i j:Nat}{v:Int} (h:Sq t n):Sq (setT t i j v) n:=by
 refine ⟨by simp[Go.Proofs.YtkpoclbnnpglfaaGreat.setT,h.l],fun r hr=>?_⟩
 rcases List.mem_or_eq_of_mem_set hr with hr|rfl
 ·exact h.r r hr
 ·rw[List.length_set]
  cases hg:t[i]? with
  | none=>
   exfalso
   have:t.length≤i:=by simpa using hg
   unfold Go.Proofs.YtkpoclbnnpglfaaGreat.setT at hr
   rw[List.set_eq_of_length_le this] at hr
   rw[List.getD_eq_getElem?_getD,hg] at hr
   have h1:=h.r _ hr
   simp at h1
   have h2:=List.length_pos_of_mem hr
   rw[h.l] at h2;omega
  | some x=>rw[List.getD_eq_getElem?_getD,hg];exact h.r x (List.mem_of_getElem? hg)
theorem entN_setT [Mode] {t:List (List Int)}{n i j:Nat}{v:Int} (h:Sq t n) (hi:i<n) (hj:j<n) (a b:Nat):entN (setT t i j v) a b=if a=i∧b=j then v else entN t a b:=by
 obtain ⟨r,h1,h2,h3⟩:=h.get hi hj
 unfold entN setT
 by_cases e:a=i
 ·subst e
  rw[List.getElem?_set_self (by rw[h.l];exact hi),Option.getD_some,List.getD_eq_getElem?_getD,h1,Option.getD_some]
  by_cases e2:b=j
  ·subst e2;rw[List.getElem?_set_self (by rw[h3];exact hj)];simp
  ·rw[List.getElem?_set_ne (fun h=>e2 h.symm)];simp[e2]
 ·rw[List.getElem?_set_ne (fun h=>e h.symm)];simp[e]
theorem Sq.bot [Mode] (n:Nat):Sq (botT n n) n:=⟨by simp[botT],fun r hr=>by obtain ⟨_,rfl⟩:=List.mem_replicate.1 hr;simp⟩
theorem entN_bot [Mode] {n a b:Nat} (ha:a<n) (hb:b<n):entN (botT n n) a b=BOT:=by
 unfold entN botT
 simp[ha,hb]
theorem take_fold [Mode] {α β:Type}{f:β→α→β}{b:β}{xs:List α}{k:Nat}{x:α} (h:xs[k]? = some x):(xs.take (k+1)).foldl f b=f ((xs.take k).foldl f b) x:=by
 obtain ⟨hk,rfl⟩:=List.getElem?_eq_some_iff.1 h
 rw[List.take_succ_eq_append_getElem hk,List.foldl_append];rfl
def okPl (n:Nat) (p:Pl):Prop:=(0≤p.f∧p.f<n)∧(0≤p.t∧p.t<n)∧(0≤p.d∧p.d≤10000)∧(0≤p.k∧p.k≤5)
def freeS (t:List (List Int)) (p:Pl):List (List Int):=if p.k=0 then setT t p.t.toNat p.f.toNat 0 else t
def freeT (n:Nat) (xs:List Pl):List (List Int):=xs.foldl freeS (botT n n)
theorem freeS_sq [Mode] {n:Nat}{t:List (List Int)}{p:Pl} (h:Sq t n):Sq (freeS t p) n:=by
 unfold freeS;split
 ·exact h.setT
 ·exact h
theorem free_sq [Mode] {n:Nat}:∀ {xs:List Pl}{t:List (List Int)},Sq t n→Sq (xs.foldl freeS t) n
 | [],_,h=>h
 | _ :: r,_,h=>free_sq (xs:=r) (freeS_sq h)
set_option maxHeartbeats 1000000 in
theorem l12Free_ac [Mode] (n:Nat) (xs:List Pl) (hn:n≤10) (hx:xs.length≤100000000) (hv:∀ p∈xs,okPl n p):AC Tryz.prog 170 [grD n xs] H0 (own1 1 n) (hpM 1 (TR (freeT n xs))):=by
 refine AC.of_body 0 Tryz.func170 rfl (fun l h=>absurd rfl h) (fun C hC=>?_)
 have hD:∀ l,¬ C.D0 l:=fun l h=>(hC l).1 h rfl
 simp only[startFr,Tryz.ntmps170,List.length_cons,List.length_nil,Nat.reduceAdd,Nat.reduceSub,List.replicate_succ,List.replicate_zero,List.cons_append,List.nil_append]
 repeat' (first|((first|apply Ba|(apply Bb;(· rfl);(· rfl))|(apply Bc;(· exact nxE))|(apply Bd;(· rfl);(· rfl);(· exact nxE)));(· first|exact Tb rfl rfl (l02Bottom_ac n n (by omega) (by omega)) (Sd (Sd Sn))|exact Ok.pe))|((first|apply Ca|(apply Cb;(· exact nxE)));(· first|exact Tb rfl rfl (l02Bottom_ac n n (by omega) (by omega)) (Sd (Sd Sn))|exact Ok.e0))|refine Sx ?_|(refine Sy (fun h=>?_) (fun h=>?_)<;>try (exfalso;omega;done))|refine Sz (fun h=>?_) (fun h=>?_))
 refine AW.loop (X:={k:Nat // k≤xs.length}) (fun k=>⟨[Oo,Bx 2 0,Oo,.own 1 ⟨1,[]⟩ 0 n,I (k.1:Nat),Oo,Oo,Oo,Oo,Oo,Oo,Oo,Oo,Oo,Oo,Oo,Oo,Oo,Oo,Oo,Oo,Oo,Oo,Oo,Oo,Oo,Oo,Oo,Oo,Oo,Oo,Oo,Oo,Oo,Oo,Oo,Oo,Oo,Oo,Oo,Oo],heapX [(⟨0,[]⟩,⟨0,[]⟩,⟨2,[[I n,PL xs]]⟩)] [mi1 ⟨1,[]⟩ (TR ((xs.take k.1).foldl freeS (botT n n)))],900⟩) (fun k=>xs.length - k.1) ⟨0,Nat.zero_le _⟩ ?_ (fun k=>?_)
 ·
  (apply Le.headG [_] [{ l:=⟨1,[]⟩,k:=1,R:=TR (botT n n),src:=⟨6,[0]⟩,base:=⟨6,[0]⟩ }] (fun _=>False))
  (case' hlen=>rfl)
  (case' hms=>rfl)
  all_goals (try dsimp only[srcs])
  (case' hfr|hob=>(repeat' (first|refine La ?_ ?_|exact Lc|refine Lo ?_|refine ⟨⟨_,rfl,?_⟩,?_⟩|refine Lx ?_)))
  (case' hok=>first|exact ⟨MI.ok_same rfl (Cg),trivial⟩|exact trivial)
  (case' hN=>rfl)
  (case' hS=>rfl)
  all_goals (first|exact Ld|(rfl))
 obtain ⟨k,hk⟩:=k
 simp only
 by_cases hlt:k<xs.length
 ·obtain ⟨p,hp⟩:∃ p,xs[k]? = some p:=⟨xs[k],by simp⟩
  obtain ⟨⟨h1,h2⟩,⟨h3,h4⟩,⟨h5,h6⟩,⟨h7,h8⟩⟩:=hv p (List.mem_of_getElem? hp)
  obtain ⟨pf,pt,pd,pk⟩:=p
  obtain ⟨f,rfl⟩:∃ f:Nat,pf=f:=⟨pf.toNat,by simp at h1;omega⟩
  obtain ⟨t,rfl⟩:∃ t:Nat,pt=t:=⟨pt.toNat,by simp at h3;omega⟩
  simp only at h2 h4
  have hst:=take_fold (f:=freeS) (b:=botT n n) hp
  have hrow:(xs.map Pl.row)[((k:Nat):Int).toNat]? = some [DI f,DI t,DI pd,DI pk]:=row_get hp
  have hsq:Sq ((xs.take k).foldl freeS (botT n n)) n:=free_sq (Sq.bot n)
  generalize hT:(xs.take k).foldl freeS (botT n n)=T at hst hsq
  obtain ⟨r,hr1,hr2,hr3⟩:=hsq.get (show t<n by omega) (show f<n by omega)
  have hr1':(TR T)[t]? = some (IR r):=by simp[hr1]
  have hrl:(IR r).length=n:=by rw[IR_len,hr3]
  repeat' (first|((first|apply Ba|(apply Bb;(· rfl);(· rfl))|(apply Bc;(· exact nxE))|(apply Bd;(· rfl);(· rfl);(· exact nxE)));(· first|exact Ok.ldT rfl rfl rfl hr1'|exact Ok.st1 rfl rfl (congrArg (Option.map (dobj 1)) hr1') (by omega) (by simp[hr2];done) rfl rfl IR_set|exact Ok.pe))|((first|apply Ca|(apply Cb;(· exact nxE)));(· first|exact Ok.st1 rfl rfl (congrArg (Option.map (dobj 1)) hr1') (by omega) (by simp[hr2];done) rfl rfl IR_set|exact Ok.e0))|refine Sx ?_|(refine Sy (fun h=>?_) (fun h=>?_)<;>try (exfalso;omega;done))|refine Sz (fun h=>?_) (fun h=>?_))
  ·refine ⟨⟨k+1,by omega⟩,?_,by simp only;omega⟩
   (apply Le.headG [_] [{ l:=⟨1,[]⟩,k:=1,R:=TR ((xs.take (k+1)).foldl freeS (botT n n)),src:=⟨1,[]⟩,base:=⟨1,[]⟩ }] (fun _=>False))
   (case' hlen=>rfl)
   (case' hms=>rfl)
   all_goals (try dsimp only[srcs])
   (case' hfr|hob=>(repeat' (first|refine La ?_ ?_|exact Lc|refine Lo ?_|refine ⟨⟨_,rfl,?_⟩,?_⟩|refine Lx ?_)))
   (case' hok=>first|exact ⟨MI.ok_row (r0:=IR r) (r:=IR (r.set f 0)) (by rw[hst,freeS,if_pos h];exact setT_TR hr1) hr1' (by simp) rfl (Cg),trivial⟩|exact trivial)
   (case' hN=>rfl)
   (case' hS=>rfl)
   all_goals (first|exact Ld|(rfl))
  ·refine ⟨⟨k+1,by omega⟩,?_,by simp only;omega⟩
   (apply Le.headG [_] [{ l:=⟨1,[]⟩,k:=1,R:=TR ((xs.take (k+1)).foldl freeS (botT n n)),src:=⟨1,[]⟩,base:=⟨1,[]⟩ }] (fun _=>False))
   (case' hlen=>rfl)
   (case' hms=>rfl)
   all_goals (try dsimp only[srcs])
   (case' hfr|hob=>(repeat' (first|refine La ?_ ?_|exact Lc|refine Lo ?_|refine ⟨⟨_,rfl,?_⟩,?_⟩|refine Lx ?_)))
   (case' hok=>first|exact ⟨by rw[hst,freeS,if_neg h];exact MI.ok_same rfl (Cg),trivial⟩|exact trivial)
   (case' hN=>rfl)
   (case' hS=>rfl)
   all_goals (first|exact Ld|(rfl))
 ·
  have hkn:k=xs.length:=by omega
  subst hkn
  rw[List.take_length]
  repeat' (first|((first|apply Ba|(apply Bb;(· rfl);(· rfl))|(apply Bc;(· exact nxE))|(apply Bd;(· rfl);(· rfl);(· exact nxE)));(· first|exact Ok.pe))|((first|apply Ca|(apply Cb;(· exact nxE)));(· first|exact Ok.e0))|refine Sx ?_|(refine Sy (fun h=>?_) (fun h=>?_)<;>try (exfalso;omega;done))|refine Sz (fun h=>?_) (fun h=>?_))
  refine Ya ?_
  (apply Le.headG [] [{ l:=⟨0,[]⟩,k:=1,R:=TR (freeT n xs),src:=⟨1,[]⟩,base:=⟨1,[]⟩ }] (fun _=>False))
  (case' hlen=>rfl)
  (case' hms=>rfl)
  all_goals (try dsimp only[srcs])
  (case' hfr|hob=>(repeat' (first|refine La ?_ ?_|exact Lc|refine Lo ?_|refine ⟨⟨_,rfl,?_⟩,?_⟩|refine Lx ?_)))
  (case' hok=>first|exact ⟨MI.ok_same rfl (Cg),trivial⟩|exact trivial)
  (case' hN=>rfl)
  (case' hS=>rfl)
  all_goals (first|exact Ld|(rfl))
end
section
open Go Go.RowKit
attribute [local irreducible] AL AD AW OpOk Le AC thenQ blockQ EndQ
set_option maxHeartbeats 1000000 in
theorem l03Over_ac [Mode] (t:List (List Int)) (n:Nat) (ht:Sq t n) (hn:n≤1000) (hb:bigB t) (over:Int):AC Tryz.prog 157 [TL t,I over] H0 (IL (cN (overF (entN t) n over))) H0:=by
 have htl:=ht.l
 refine AC.of_body 0 Tryz.func157 rfl (fun l h=>absurd rfl h) (fun C hC=>?_)
 have hD:∀ l,¬ C.D0 l:=fun l h=>(hC l).1 h rfl
 simp only[startFr,Tryz.ntmps157,List.length_cons,List.length_nil,Nat.reduceAdd,Nat.reduceSub,List.replicate_succ,List.replicate_zero,List.cons_append,List.nil_append]
 repeat' (first|((first|apply Ba|(apply Bb;(· rfl);(· rfl))|(apply Bc;(· exact nxE))|(apply Bd;(· rfl);(· rfl);(· exact nxE)));(· first|exact Ok.pe))|((first|apply Ca|(apply Cb;(· exact nxE)));(· first|exact Ok.e0))|refine Sx ?_|(refine Sy (fun h=>?_) (fun h=>?_)<;>try (exfalso;omega;done))|refine Sz (fun h=>?_) (fun h=>?_))
 refine AW.loop (X:={k:Nat // k≤n∧overF (entN t) n over=tryAll (fun v=>growF (entN t) n over n [v] 0) (List.range' k (n - k))}) (fun k=>⟨[TL t,I over,Oo,Oo,Oo,I (k.1:Nat),Oo,Oo,Oo,Oo,Oo,Oo,Oo,Oo,Oo,Oo,Oo,Oo,Oo,Oo,Oo,Oo],heapL [],900⟩) (fun k=>n - k.1) ⟨0,Nat.zero_le _,rfl⟩ ?_ (fun k=>?_)
 ·
  (apply Le.headZ [] rfl)
  all_goals (try dsimp only[srcs])
  (case' hfr|hob=>(repeat' (first|refine La ?_ ?_|exact Lc|refine Lo ?_|refine ⟨⟨_,rfl,?_⟩,?_⟩|refine Lx ?_)))
  all_goals (first|(rfl)|exact Ld)
 obtain ⟨v,hv1,hv2⟩:=k
 simp only
 by_cases hlt:v<n
 ·rw[range'_cons hlt,tryAll] at hv2
  have hG:=l03Grow_ac t n ht hn hb over n [v] 0 (by simp) (by simpa using hlt) (by simp) (by simp;omega) (by simp)
  repeat' (first|((first|apply Ba|(apply Bb;(· rfl);(· rfl))|(apply Bc;(· exact nxE))|(apply Bd;(· rfl);(· rfl);(· exact nxE)));(· first|exact Zf rfl rfl (hG) (Sd (Sw (Sd (Sd Sn))))|exact Ok.pe))|((first|apply Ca|(apply Cb;(· exact nxE)));(· first|exact Ok.e0))|refine Sx ?_|(refine Sy (fun h=>?_) (fun h=>?_)<;>try (exfalso;omega;done))|refine Sz (fun h=>?_) (fun h=>?_))
  ·
   refine Ya ?_
   (apply Le.headZ (hs:=[]) [] rfl)
   all_goals (try dsimp only[srcs])
   (case' hfr=>(repeat' (first|refine La ?_ ?_|exact Lc|refine Lo ?_|refine ⟨⟨_,rfl,?_⟩,?_⟩|refine Lx ?_)))
   all_goals (first|exact Ld|exact trivial|((rw[hv2,if_pos (by intro e;rw[e] at h;simp at h)];done)))
  ·refine ⟨⟨v+1,by omega,by rw[hv2,if_neg (by intro e;exact h (by have:=List.length_pos_iff.2 e;simp;omega))]⟩,?_,by simp only;omega⟩
   (apply Le.headZ [] rfl)
   all_goals (try dsimp only[srcs])
   (case' hfr|hob=>(repeat' (first|refine La ?_ ?_|exact Lc|refine Lo ?_|refine ⟨⟨_,rfl,?_⟩,?_⟩|refine Lx ?_)))
   all_goals (first|(rfl)|exact Ld)
 ·
  rw[show n - v=0 by omega,List.range'_zero] at hv2
  rw[hv2]
  repeat' (first|((first|apply Ba|(apply Bb;(· rfl);(· rfl))|(apply Bc;(· exact nxE))|(apply Bd;(· rfl);(· rfl);(· exact nxE)));(· first|exact Ok.pe))|((first|apply Ca|(apply Cb;(· exact nxE)));(· first|exact Ok.e0))|refine Sx ?_|(refine Sy (fun h=>?_) (fun h=>?_)<;>try (exfalso;omega;done))|refine Sz (fun h=>?_) (fun h=>?_))
  refine Ya ?_
  (apply Le.headZ (hs:=[]) [] rfl)
  all_goals (try dsimp only[srcs])
  (case' hfr=>(repeat' (first|refine La ?_ ?_|exact Lc|refine Lo ?_|refine ⟨⟨_,rfl,?_⟩,?_⟩|refine Lx ?_)))
  all_goals (first|exact Ld|exact trivial|(rfl))
theorem free_ent [Mode] {n:Nat}{xs:List Pl}{t:List (List Int)} (hs:Sq t n) (h:bigB t) (hv:∀ p∈xs,okPl n p):bigB (xs.foldl freeS t):=by
 induction xs generalizing t with
 | nil=>exact h
 | cons p r ih=>
  refine ih (freeS_sq hs) ?_ fun q hq=>hv q (by simp[hq])
  obtain ⟨⟨h1,h2⟩,⟨h3,h4⟩,_⟩:=hv p (by simp)
  unfold freeS
  split
  ·intro i j
   rw[entN_setT hs (by omega) (by omega)]
   split
   ·exact .inr ⟨by omega,by omega⟩
   ·exact h i j
  ·exact h
theorem bot_big [Mode] (n:Nat):bigB (botT n n):=fun i j=>by
 unfold entN botT
 by_cases hi:i<n
 ·by_cases hj:j<n
  ·simp[hi,hj]
  ·simp[hi,hj]
 ·simp[hi]
def deadC (n:Nat) (xs:List Pl):List Nat:=overF (entN (freeT n xs)) n (-1)
theorem l12Dead_ac [Mode] (n:Nat) (xs:List Pl) (hn:n≤10) (hx:xs.length≤100000000) (hv:∀ p∈xs,okPl n p):AC Tryz.prog 138 [grD n xs] H0 (IL (cN (deadC n xs))) H0:=by
 have hl:(TR (freeT n xs)).length=n:=by rw[TR_len];exact (free_sq (Sq.bot n)).l
 refine AC.of_body 0 Tryz.func138 rfl (fun l h=>absurd rfl h) (fun C hC=>?_)
 have hD:∀ l,¬ C.D0 l:=fun l h=>(hC l).1 h rfl
 simp only[startFr,Tryz.ntmps138,List.length_cons,List.length_nil,Nat.reduceAdd,Nat.reduceSub,List.replicate_succ,List.replicate_zero,List.cons_append,List.nil_append]
 repeat' (first|((first|apply Ba|(apply Bb;(· rfl);(· rfl))|(apply Bc;(· exact nxE))|(apply Bd;(· rfl);(· rfl);(· exact nxE)));(· first|exact Zf rfl rfl (l03Over_ac (freeT n xs) n (free_sq (Sq.bot n)) (by omega) (free_ent (Sq.bot n) (bot_big n) hv) (-1)) (Sm (Sd Sn))|exact Tb rfl rfl (l12Free_ac n xs hn hx hv) (Sa (Sd (Sd Sn)) Sn)|exact Ok.pe))|((first|apply Ca|(apply Cb;(· exact nxE)));(· first|exact Tb rfl rfl (l12Free_ac n xs hn hx hv) (Sa (Sd (Sd Sn)) Sn)|exact Ok.e0))|refine Sx ?_|(refine Sy (fun h=>?_) (fun h=>?_)<;>try (exfalso;omega;done))|refine Sz (fun h=>?_) (fun h=>?_))
 all_goals
  refine Ya ?_
  (apply Le.headZ (hs:=[]) [] rfl)
  all_goals (try dsimp only[srcs])
  (case' hfr=>(repeat' (first|refine La ?_ ?_|exact Lc|refine Lo ?_|refine ⟨⟨_,rfl,?_⟩,?_⟩|refine Lx ?_)))
  all_goals (first|exact Ld|exact trivial|(rfl))
theorem isEG_ok [Mode] {ev:Int}{xs:List Pl} (h:isEG ev xs=true):∃ n:Nat,ev=n∧1≤n∧n≤10∧xs.length≤30∧∀ p∈xs,okPl n p:=by
 simp only[isEG,Bool.and_eq_true,decide_eq_true_eq,List.all_eq_true,wi_iff] at h
 obtain ⟨⟨⟨h1,h2⟩,h3⟩,h4⟩:=h
 refine ⟨ev.toNat,by omega,by omega,by omega,h3,fun p hp=>?_⟩
 have:=h4 p hp
 simp only[plB,Bool.and_eq_true,wi_iff] at this
 unfold okPl
 omega
def liveB (ev:Int) (xs:List Pl):Bool:=decide (deadC ev.toNat xs=[])
def liveI (ev:Int) (xs:List Pl):Int:=if isEG ev xs=true then (if liveB ev xs=true then 0 else 5) else 1
theorem l12Live_ac [Mode] (ev:Int) (xs:List Pl) (hx:xs.length≤100000000):AC Tryz.prog 90 [grD ev xs] H0 (I (liveI ev xs)) H0:=by
 by_cases hg:isEG ev xs=true
 ·obtain ⟨n,rfl,h1,h2,h3,h4⟩:=isEG_ok hg
  have hE:=sIsEventGraph_ac n xs hx
  rw[hg] at hE
  refine AC.of_body 0 Tryz.func90 rfl (fun l h=>absurd rfl h) (fun C hC=>?_)
  have hD:∀ l,¬ C.D0 l:=fun l h=>(hC l).1 h rfl
  simp only[startFr,Tryz.ntmps90,List.length_cons,List.length_nil,Nat.reduceAdd,Nat.reduceSub,List.replicate_succ,List.replicate_zero,List.cons_append,List.nil_append]
  repeat' (first|((first|apply Ba|(apply Bb;(· rfl);(· rfl))|(apply Bc;(· exact nxE))|(apply Bd;(· rfl);(· rfl);(· exact nxE)));(· first|exact Kz rfl rfl (hE) (Aa (Ad (Ad An)) An)|exact Kz rfl rfl (l12Dead_ac n xs h2 hx h4) (Aa (Ad (Ad An)) An)|exact Ok.pe))|((first|apply Ca|(apply Cb;(· exact nxE)));(· first|exact Ok.e0))|refine Sx ?_|(refine Sy (fun h=>?_) (fun h=>?_)<;>try (exfalso;omega;done))|refine Sz (fun h=>?_) (fun h=>?_))
  ·
   refine Ya ?_
   (apply Le.headZ (hs:=[]) [] rfl)
   all_goals (try dsimp only[srcs])
   (case' hfr=>(repeat' (first|refine La ?_ ?_|exact Lc|refine Lo ?_|refine ⟨⟨_,rfl,?_⟩,?_⟩|refine Lx ?_)))
   all_goals (first|exact Ld|exact trivial|((unfold liveI liveB;rw[if_pos hg,if_neg (by simp at h ⊢;intro e;rw[e] at h;simp at h)];done)))
  ·
   refine Ya ?_
   (apply Le.headZ (hs:=[]) [] rfl)
   all_goals (try dsimp only[srcs])
   (case' hfr=>(repeat' (first|refine La ?_ ?_|exact Lc|refine Lo ?_|refine ⟨⟨_,rfl,?_⟩,?_⟩|refine Lx ?_)))
   all_goals (first|exact Ld|exact trivial|((unfold liveI liveB;rw[if_pos hg,if_pos (by simp at h ⊢;exact h)];done)))
 ·have hE:=sIsEventGraph_ac ev xs hx
  rw[Bool.not_eq_true] at hg
  rw[hg] at hE
  refine AC.of_body 0 Tryz.func90 rfl (fun l h=>absurd rfl h) (fun C hC=>?_)
  have hD:∀ l,¬ C.D0 l:=fun l h=>(hC l).1 h rfl
  simp only[startFr,Tryz.ntmps90,List.length_cons,List.length_nil,Nat.reduceAdd,Nat.reduceSub,List.replicate_succ,List.replicate_zero,List.cons_append,List.nil_append]
  repeat' (first|((first|apply Ba|(apply Bb;(· rfl);(· rfl))|(apply Bc;(· exact nxE))|(apply Bd;(· rfl);(· rfl);(· exact nxE)));(· first|exact Kz rfl rfl (hE) (Aa (Ad (Ad An)) An)|exact Ok.pe))|((first|apply Ca|(apply Cb;(· exact nxE)));(· first|exact Ok.e0))|refine Sx ?_|(refine Sy (fun h=>?_) (fun h=>?_)<;>try (exfalso;omega;done))|refine Sz (fun h=>?_) (fun h=>?_))
  all_goals
   refine Ya ?_
   (apply Le.headZ (hs:=[]) [] rfl)
   all_goals (try dsimp only[srcs])
   (case' hfr=>(repeat' (first|refine La ?_ ?_|exact Lc|refine Lo ?_|refine ⟨⟨_,rfl,?_⟩,?_⟩|refine Lx ?_)))
   all_goals (first|exact Ld|exact trivial|((unfold liveI;rw[hg];rfl)))
end
section
open Go Go.RowKit
attribute [local irreducible] AL AD AW OpOk Le AC thenQ blockQ EndQ
theorem sumD_snoc [Mode] {xs:List Pl}{l:List Nat}{k i:Nat} (h:l[k]? = some i):sumD xs (l.take (k+1))=sumD xs (l.take k)+(plA xs i).d:=by
 obtain ⟨hk,rfl⟩:=List.getElem?_eq_some_iff.1 h
 rw[List.take_succ_eq_append_getElem hk,sumD_app];simp[sumD]
theorem sumT_snoc [Mode] {xs:List Pl}{l:List Nat}{k i:Nat} (h:l[k]? = some i):sumT xs (l.take (k+1))=sumT xs (l.take k)+(plA xs i).k:=by
 obtain ⟨hk,rfl⟩:=List.getElem?_eq_some_iff.1 h
 rw[List.take_succ_eq_append_getElem hk,sumT_app];simp[sumT]
theorem okPl_at [Mode] {n:Nat}{xs:List Pl} (hv:∀ p∈xs,okPl n p) (i:Nat) (hi:i<xs.length):okPl n (plA xs i):=by
 unfold plA
 rw[List.getElem?_eq_getElem hi]
 exact hv _ (List.getElem_mem hi)
theorem sums_take [Mode] {n:Nat}{xs:List Pl} (hv:∀ p∈xs,okPl n p) {l:List Nat} (hl:∀ i∈l,i<xs.length) (k:Nat):(0≤sumD xs (l.take k)∧sumD xs (l.take k)≤10000*l.length)∧(0≤sumT xs (l.take k)∧sumT xs (l.take k)≤5*l.length):=by
 have h:=sum_bnd (D:=10000) (K:=5) (xs:=xs) (c:=l.take k) (fun i hi=>⟨(okPl_at hv i hi).2.2.1,(okPl_at hv i hi).2.2.2⟩) (fun i hi=>hl i (List.mem_of_mem_take hi))
 have:(l.take k).length≤l.length:=by simp[List.length_take];omega
 omega
theorem pl_row [Mode] {n:Nat}{xs:List Pl}{i:Nat} (hi:i<xs.length):(xs.map Pl.row)[((i:Nat):Int).toNat]? = some [DI (plA xs i).f,DI (plA xs i).t,DI (plA xs i).d,DI (plA xs i).k]:=by
 have h:xs[i]? = some (plA xs i):=by unfold plA;rw[List.getElem?_eq_getElem hi];rfl
 exact row_get h
set_option maxHeartbeats 1000000 in
theorem l15Sums_ac [Mode] (ev:Int) (n:Nat) (xs:List Pl) (l:List Nat) (hx:xs.length≤100000000) (hv:∀ p∈xs,okPl n p) (hl:∀ i∈l,i<xs.length) (hn:l.length≤1000):AC Tryz.prog 38 [grD ev xs,IL (cN l)] H0 (.tup [I (sumD xs l),I (sumT xs l)]) H0:=by
 have hll:(IR (cN l)).length=l.length:=by simp
 refine AC.of_body 0 Tryz.func38 rfl (fun l h=>absurd rfl h) (fun C hC=>?_)
 have hD:∀ l,¬ C.D0 l:=fun l h=>(hC l).1 h rfl
 simp only[startFr,Tryz.ntmps38,List.length_cons,List.length_nil,Nat.reduceAdd,Nat.reduceSub,List.replicate_succ,List.replicate_zero,List.cons_append,List.nil_append]
 repeat' (first|((first|apply Ba|(apply Bb;(· rfl);(· rfl))|(apply Bc;(· exact nxE))|(apply Bd;(· rfl);(· rfl);(· exact nxE)));(· first|exact Ok.pe))|((first|apply Ca|(apply Cb;(· exact nxE)));(· first|exact Ok.e0))|refine Sx ?_|(refine Sy (fun h=>?_) (fun h=>?_)<;>try (exfalso;omega;done))|refine Sz (fun h=>?_) (fun h=>?_))
 refine AW.loop (X:={k:Nat // k≤l.length}) (fun k=>⟨[Oo,IL (cN l),Bx 2 0,Oo,Oo,Oo,I (sumD xs (l.take k.1)),I (sumT xs (l.take k.1)),I (k.1:Nat),Oo,Oo,Oo,Oo,Oo,Oo,Oo,Oo,Oo,Oo,Oo,Oo,Oo,Oo,Oo,Oo,Oo,Oo,Oo,Oo,Oo,Oo,Oo,Oo,Oo,Oo,Oo,Oo,Oo,Oo],heapL [(⟨0,[]⟩,⟨0,[]⟩,⟨2,[[I ev,PL xs]]⟩)],900⟩) (fun k=>l.length - k.1) ⟨0,Nat.zero_le _⟩ ?_ (fun k=>?_)
 ·
  (apply Le.headZ [_] rfl)
  all_goals (try dsimp only[srcs])
  (case' hfr|hob=>(repeat' (first|refine La ?_ ?_|exact Lc|refine Lo ?_|refine ⟨⟨_,rfl,?_⟩,?_⟩|refine Lx ?_)))
  all_goals (first|(rfl)|exact Ld)
 obtain ⟨k,hk⟩:=k
 simp only
 by_cases hlt:k<l.length
 ·obtain ⟨i,hi⟩:∃ i,l[k]? = some i:=⟨l[k],by simp⟩
  have hil:=hl i (List.mem_of_getElem? hi)
  have hrow:=IR_get (xs:=cN l) (k:=k) (x:=(i:Int)) (by simp[hi])
  have hpl:=pl_row (n:=n) hil
  have ho:=okPl_at hv i hil
  obtain ⟨_,_,⟨h5,h6⟩,⟨h7,h8⟩⟩:=ho
  have hs:=sums_take hv hl k
  have hsd:=sumD_snoc (xs:=xs) hi
  have hsk:=sumT_snoc (xs:=xs) hi
  generalize sumD xs (l.take k)=D at hs hsd ⊢
  generalize sumT xs (l.take k)=K at hs hsk ⊢
  generalize plA xs i=p at *
  obtain ⟨pf,pt,pd,pk⟩:=p
  simp only at hpl h5 h6 h7 h8 hsd hsk
  repeat' (first|((first|apply Ba|(apply Bb;(· rfl);(· rfl))|(apply Bc;(· exact nxE))|(apply Bd;(· rfl);(· rfl);(· exact nxE)));(· first|exact Ok.pe))|((first|apply Ca|(apply Cb;(· exact nxE)));(· first|exact Ok.e0))|refine Sx ?_|(refine Sy (fun h=>?_) (fun h=>?_)<;>try (exfalso;omega;done))|refine Sz (fun h=>?_) (fun h=>?_))
  refine ⟨⟨k+1,by omega⟩,?_,by simp only;omega⟩
  (apply Le.headZ [_] rfl)
  all_goals (try dsimp only[srcs])
  (case' hfr|hob=>(repeat' (first|refine La ?_ ?_|exact Lc|refine Lo ?_|refine ⟨⟨_,rfl,?_⟩,?_⟩|refine Lx ?_)))
  all_goals (first|((first|(rw[hsd];done)|(rw[hsk];done)))|exact Ld)
 ·
  have hkn:k=l.length:=by omega
  subst hkn
  rw[List.take_length]
  repeat' (first|((first|apply Ba|(apply Bb;(· rfl);(· rfl))|(apply Bc;(· exact nxE))|(apply Bd;(· rfl);(· rfl);(· exact nxE)));(· first|exact Ok.pe))|((first|apply Ca|(apply Cb;(· exact nxE)));(· first|exact Ok.e0))|refine Sx ?_|(refine Sy (fun h=>?_) (fun h=>?_)<;>try (exfalso;omega;done))|refine Sz (fun h=>?_) (fun h=>?_))
  refine Yb ?_
  (apply Le.headZ (hs:=[]) [] rfl)
  all_goals (try dsimp only[srcs])
  (case' hfr=>(repeat' (first|refine La ?_ ?_|exact Lc|refine Lo ?_|refine ⟨⟨_,rfl,?_⟩,?_⟩|refine Lx ?_)))
  all_goals (first|exact Ld|exact trivial|(rfl))
theorem visB_at [Mode] {xs:List Pl}{l:List Nat}{e:Int}{k i:Nat} (h:l[k]? = some i):visB xs (l.drop k) e=(decide ((plA xs i).f=e) || decide ((plA xs i).t=e) || visB xs (l.drop (k+1)) e):=by
 obtain ⟨hk,rfl⟩:=List.getElem?_eq_some_iff.1 h
 unfold visB
 rw[List.drop_eq_getElem_cons hk,List.any_cons]
set_option maxHeartbeats 1000000 in
theorem l15Visits_ac [Mode] (ev : Int) (n : Nat) (xs : List Pl) (l : List Nat) (e : Int) (hx : xs.length ≤ 100000000) (hl : ∀ i ∈ l, i < xs.length) (hn : l.length ≤ 1000) : AC Tryz.prog 181 [grD ev xs, IL (cN l), I e] H0 (Bo (visB xs l e)) H0 := by
  have hll : (IR (cN l)).length = l.length := by simp
  refine AC.of_body 0 Tryz.func181 rfl (fun l h => absurd rfl h) (fun C hC => ?_)
  have hD : ∀ l, ¬ C.D0 l := fun l h => (hC l).1 h rfl
  simp only [startFr, Tryz.ntmps181, List.length_cons, List.length_nil, Nat.reduceAdd, Nat.reduceSub, List.replicate_succ, List.replicate_zero, List.cons_append, List.nil_append]
  repeat' (first | ((first | apply Ba | (apply Bb; (· rfl); (· rfl)) | (apply Bc; (· exact nxE)) | (apply Bd; (· rfl); (· rfl); (· exact nxE))); (· first | exact Ok.pe)) | ((first | apply Ca | (apply Cb; (· exact nxE))); (· first | exact Ok.e0)) | refine Sx ?_ | (refine Sy (fun h => ?_) (fun h => ?_) <;> try (exfalso; omega; done)) | refine Sz (fun h => ?_) (fun h => ?_))
  refine AW.loop (X := {k : Nat // k ≤ l.length ∧ visB xs l e = visB xs (l.drop k) e}) (fun k => ⟨[Oo, IL (cN l), I e, Bx 2 0, Oo, Oo, Oo, I (k.1 : Nat), Oo, Oo, Oo, Oo, Oo, Oo, Oo, Oo, Oo, Oo, Oo, Oo, Oo, Oo, Oo, Oo, Oo, Oo, Oo, Oo, Oo, Oo, Oo, Oo, Oo, Oo, Oo, Oo, Oo, Oo], heapL [(⟨0, []⟩, ⟨0, []⟩, ⟨2, [[I ev, PL xs]]⟩)], 900⟩) (fun k => l.length - k.1) ⟨0, Nat.zero_le _, by simp⟩ ?_ (fun k => ?_)
  ·
    (apply Le.headZ [_] rfl)
    all_goals (try dsimp only [srcs])
    (case' hfr | hob => (repeat' (first | refine La ?_ ?_ | exact Lc | refine Lo ?_ | refine ⟨⟨_, rfl, ?_⟩, ?_⟩ | refine Lx ?_)))
    all_goals (first | (rfl) | exact Ld)
  obtain ⟨k, hk, hall⟩ := k
  simp only
  by_cases hlt : k < l.length
  · obtain ⟨i, hi⟩ : ∃ i, l[k]? = some i := ⟨l[k], by simp⟩
    have hil := hl i (List.mem_of_getElem? hi)
    have hrow := IR_get (xs := cN l) (k := k) (x := (i : Int)) (by simp [hi])
    have hpl := pl_row (n := n) hil
    rw [visB_at hi] at hall
    generalize plA xs i = p at *
    obtain ⟨pf, pt, pd, pk⟩ := p
    simp only at hpl hall
    repeat' (first | ((first | apply Ba | (apply Bb; (· rfl); (· rfl)) | (apply Bc; (· exact nxE)) | (apply Bd; (· rfl); (· rfl); (· exact nxE))); (· first | exact Ok.pe)) | ((first | apply Ca | (apply Cb; (· exact nxE))); (· first | exact Ok.e0)) | refine Sx ?_ | (refine Sy (fun h => ?_) (fun h => ?_) <;> try (exfalso; omega; done)) | refine Sz (fun h => ?_) (fun h => ?_))
    all_goals first
      | (
        refine Ya ?_
        (apply Le.headZ (hs := []) [] rfl)
        all_goals (try dsimp only [srcs])
        (case' hfr => (repeat' (first | refine La ?_ ?_ | exact Lc | refine Lo ?_ | refine ⟨⟨_, rfl, ?_⟩, ?_⟩ | refine Lx ?_)))
        all_goals (first | exact Ld | exact trivial | ((rw [hall]; simp [*]; done)))
        done)
      | (refine ⟨⟨k + 1, by omega, by rw [hall]; simp [*]⟩, ?_, by simp only; omega⟩
         (apply Le.headZ [_] rfl)
         all_goals (try dsimp only [srcs])
         (case' hfr | hob => (repeat' (first | refine La ?_ ?_ | exact Lc | refine Lo ?_ | refine ⟨⟨_, rfl, ?_⟩, ?_⟩ | refine Lx ?_)))
         all_goals (first | (rfl) | exact Ld)
         done)
  ·
    repeat' (first | ((first | apply Ba | (apply Bb; (· rfl); (· rfl)) | (apply Bc; (· exact nxE)) | (apply Bd; (· rfl); (· rfl); (· exact nxE))); (· first | exact Ok.pe)) | ((first | apply Ca | (apply Cb; (· exact nxE))); (· first | exact Ok.e0)) | refine Sx ?_ | (refine Sy (fun h => ?_) (fun h => ?_) <;> try (exfalso; omega; done)) | refine Sz (fun h => ?_) (fun h => ?_))
    refine Ya ?_
    (apply Le.headZ (hs := []) [] rfl)
    all_goals (try dsimp only [srcs])
    (case' hfr => (repeat' (first | refine La ?_ ?_ | exact Lc | refine Lo ?_ | refine ⟨⟨_, rfl, ?_⟩, ?_⟩ | refine Lx ?_)))
    all_goals (first | exact Ld | exact trivial | ((rw [hall, List.drop_of_length_le (by omega)]; rfl)))
end
section
open Go Go.RowKit
attribute [local irreducible] AL AD AW OpOk Le AC thenQ blockQ EndQ
theorem PathC.len [Mode] {xs:List Pl}{n:Nat}{c:List Nat} (hv:∀ p∈xs,okPl n p) (h:PathC xs c):c.length≤n:=by
 have hlt:=h.wk.lt
 have hnd:(c.map fun i=>(plA xs i).f.toNat).Nodup:=by
  have:=h.nd
  rw[List.nodup_iff_pairwise_ne,List.pairwise_map] at this ⊢
  refine List.Pairwise.imp_of_mem (R:=fun a b=>(plA xs a).f≠(plA xs b).f) ?_ this
  intro a b ha hb hne e
  have h1:=(okPl_at hv a (hlt a ha)).1
  have h2:=(okPl_at hv b (hlt b hb)).1
  omega
 have:=nodup_le n _ hnd (fun x hx=>by
  obtain ⟨i,hi,rfl⟩:=List.mem_map.1 hx
  have:=(okPl_at hv i (hlt i hi)).1
  omega)
 simpa using this
theorem mul_in [Mode] {a b A B:Int} (ha:0≤a∧a≤A) (hb:0≤b∧b≤B):0≤a*b∧a*b≤A*B:=
 ⟨Int.mul_nonneg ha.1 hb.1,Int.mul_le_mul ha.2 hb.2 hb.1 (by omega)⟩
theorem hd_row [Mode] {l:List Nat} (h:l≠[]):(IR (cN l))[(0:Int).toNat]? = some [DI (hdN l)]:=by
 have hpl:0<l.length:=List.length_pos_iff.2 h
 rw[hdN_getD,List.getD_eq_getElem?_getD];simp[List.getElem?_eq_getElem hpl]
theorem ls_row [Mode] {l:List Nat} (h:l≠[]):(IR (cN l))[((l.length:Int) - 1).toNat]? = some [DI (lsN l)]:=by
 have hpl:0<l.length:=List.length_pos_iff.2 h
 rw[lsN_getD,List.getD_eq_getElem?_getD,show ((l.length:Int) - 1).toNat=l.length - 1 by omega];simp[List.getElem?_eq_getElem (show l.length - 1<l.length by omega)]
theorem hdN_mem [Mode] {l:List Nat} (h:l≠[]):hdN l∈l:=by cases l with|nil=>exact absurd rfl h|cons=>simp[hdN]
theorem lsN_mem [Mode] {l:List Nat} (h:l≠[]):lsN l∈l:=by
 unfold lsN
 rw[List.getLastD_eq_getLast?,List.getLast?_eq_some_getLast h]
 exact List.getLast_mem _
set_option maxHeartbeats 4000000 in
theorem l15Grow_ac [Mode] (ev : Int) (n : Nat) (xs : List Pl) (u1 u2 over : Int) (hn : n ≤ 10) (hx : xs.length ≤ 1000) (hv : ∀ p ∈ xs, okPl n p) (hrn : 0 ≤ u1 ∧ u1 ≤ 100000) (hrd : 0 ≤ u2 ∧ u2 ≤ 50) : ∀ (k : Nat) (l : List Nat), PathC xs l → l.length + k = n + 1 →
    AC Tryz.prog 171 [grD ev xs, IL (cN l), .agg [I u1, I u2], I over] H0 (IL (cN (growC xs u1 u2 over k l))) H0
  | 0, l, hp, hk => by
    have := hp.len hv
    omega
  | fu + 1, l, hp, hk => by
    have ih := l15Grow_ac ev n xs u1 u2 over hn hx hv hrn hrd fu
    have hpl : 0 < l.length := List.length_pos_iff.2 hp.ne
    have hll : (IR (cN l)).length = l.length := by simp
    have hlt := hp.wk.lt
    have h0 := hd_row hp.ne
    have hz := ls_row hp.ne
    have hdl := hlt _ (hdN_mem hp.ne)
    have hll2 := hlt _ (lsN_mem hp.ne)
    have h1 := pl_row (n := n) hdl
    have h2 := pl_row (n := n) hll2
    have hSu := l15Sums_ac ev n xs l (by omega) hv hlt (by omega)
    have hsb := sums_take hv hlt l.length
    rw [List.take_length] at hsb
    have hm1 := mul_in hrd (show 0 ≤ sumD xs l ∧ sumD xs l ≤ 1000000 by omega)
    have hm2 := mul_in hrn (show 0 ≤ sumT xs l ∧ sumT xs l ≤ 1000 by omega)
    by_cases hcl : lastT xs l = firstF xs l
    · rw [growC, if_pos hcl, wgt_sums]
      unfold lastT firstF at hcl
      rw [hcl] at h2
      generalize plA xs (hdN l) = p at h1 h2
      generalize plA xs (lsN l) = q at h2
      obtain ⟨pf, pt, pd, pk⟩ := p
      obtain ⟨qf, qt, qd, qk⟩ := q
      simp only at h1 h2
      refine AC.of_body 0 Tryz.func171 rfl (fun l h => absurd rfl h) (fun C hC => ?_)
      have hD : ∀ l, ¬ C.D0 l := fun l h => (hC l).1 h rfl
      simp only [startFr, Tryz.ntmps171, List.length_cons, List.length_nil, Nat.reduceAdd, Nat.reduceSub, List.replicate_succ, List.replicate_zero, List.cons_append, List.nil_append]
      repeat' (first | ((first | apply Ba | (apply Bb; (· rfl); (· rfl)) | (apply Bc; (· exact nxE)) | (apply Bd; (· rfl); (· rfl); (· exact nxE))); (· first | exact Kz rfl rfl (hSu) (Aa (Ad (Ad An)) (Ad An)) | exact Ok.pe)) | ((first | apply Ca | (apply Cb; (· exact nxE))); (· first | exact Ok.e0)) | refine Sx ?_ | (refine Sy (fun h => ?_) (fun h => ?_) <;> try (exfalso; omega; done)) | refine Sz (fun h => ?_) (fun h => ?_))
      ·
        refine Ya ?_
        (apply Le.headZ (hs := []) [] rfl)
        all_goals (try dsimp only [srcs])
        (case' hfr => (repeat' (first | refine La ?_ ?_ | exact Lc | refine Lo ?_ | refine ⟨⟨_, rfl, ?_⟩, ?_⟩ | refine Lx ?_)))
        all_goals (first | exact Ld | exact trivial | ((rw [if_pos (by assumption)]; done)))
      ·
        rw [if_neg (by assumption)]
        refine Ya ?_
        (apply Le.headZ (hs := []) [] rfl)
        all_goals (try dsimp only [srcs])
        (case' hfr => (repeat' (first | refine La ?_ ?_ | exact Lc | refine Lo ?_ | refine ⟨⟨_, rfl, ?_⟩, ?_⟩ | refine Lx ?_)))
        all_goals (first | exact Ld | exact trivial | (rfl))
    · rw [growC, if_neg hcl]
      generalize hf0 : (fun i => if skipC xs l i then [] else growC xs u1 u2 over fu (l ++ [i])) = f
      have hcl2 := hcl
      unfold lastT firstF at hcl
      have hF : firstF xs l = (plA xs (hdN l)).f := rfl
      have hL : lastT xs l = (plA xs (lsN l)).t := rfl
      generalize plA xs (hdN l) = p at h1 hF hcl
      generalize plA xs (lsN l) = q at h2 hL hcl
      obtain ⟨pf, pt, pd, pk⟩ := p
      obtain ⟨qf, qt, qd, qk⟩ := q
      simp only at h1 h2 hF hL hcl
      refine AC.of_body 0 Tryz.func171 rfl (fun l h => absurd rfl h) (fun C hC => ?_)
      have hD : ∀ l, ¬ C.D0 l := fun l h => (hC l).1 h rfl
      simp only [startFr, Tryz.ntmps171, List.length_cons, List.length_nil, Nat.reduceAdd, Nat.reduceSub, List.replicate_succ, List.replicate_zero, List.cons_append, List.nil_append]
      repeat' (first | ((first | apply Ba | (apply Bb; (· rfl); (· rfl)) | (apply Bc; (· exact nxE)) | (apply Bd; (· rfl); (· rfl); (· exact nxE))); (· first | exact Ok.pe)) | ((first | apply Ca | (apply Cb; (· exact nxE))); (· first | exact Ok.e0)) | refine Sx ?_ | (refine Sy (fun h => ?_) (fun h => ?_) <;> try (exfalso; omega; done)) | refine Sz (fun h => ?_) (fun h => ?_))
      refine AW.loop (X := {k : Nat // k ≤ xs.length ∧ tryAll f (List.range' 0 xs.length) = tryAll f (List.range' k (xs.length - k))}) (fun k => ⟨[Oo, IL (cN l), Oo, I over, Bx 2 0, Oo, Bx 2 1, Oo, Oo, I pf, I qt, Oo, Oo, I (k.1 : Nat), Oo, Oo, Oo, Oo, Oo, Oo, Oo, Oo, Oo, Oo, Oo, Oo, Oo, Oo, Oo, Oo, Oo, Oo, Oo, Oo, Oo, Oo, Oo, Oo, Oo, Oo, Oo, Oo, Oo, Oo, Oo, Oo, Oo, Oo, Oo, Oo, Oo, Oo, Oo, Oo, Oo, Oo, Oo, Oo, Oo, Oo, Oo, Oo, Oo, Oo, Oo, Oo, Oo, Oo, Oo, Oo, Oo, Oo, Oo, Oo, Oo, Oo, Oo, Oo, Oo, Oo, Oo, Oo, Oo, Oo, Oo, Oo, Oo, Oo, Oo, Oo, Oo, Oo, Oo, Oo, Oo, Oo, Oo, Oo, Oo, Oo, Oo, Oo, Oo, Oo], heapL [(⟨0, []⟩, ⟨0, []⟩, ⟨2, [[I ev, PL xs]]⟩), (⟨1, []⟩, ⟨1, []⟩, ⟨2, [[I u1, I u2]]⟩)], 900⟩) (fun k => xs.length - k.1) ⟨0, Nat.zero_le _, rfl⟩ ?_ (fun k => ?_)
      ·
        (apply Le.headZ [_, _] rfl)
        all_goals (try dsimp only [srcs])
        (case' hfr | hob => (repeat' (first | refine La ?_ ?_ | exact Lc | refine Lo ?_ | refine ⟨⟨_, rfl, ?_⟩, ?_⟩ | refine Lx ?_)))
        all_goals (first | (rfl) | exact Ld)
      obtain ⟨i, hi1, hi2⟩ := k
      simp only
      by_cases hi : i < xs.length
      · rw [range'_cons hi, tryAll] at hi2
        have hfi : f i = if skipC xs l i then [] else growC xs u1 u2 over fu (l ++ [i]) := by rw [← hf0]
        have hpi := pl_row (n := n) hi
        have hV := l15Visits_ac ev n xs l (plA xs i).t (by omega) hlt (by omega)
        by_cases hskip : skipC xs l i
        · rw [if_pos hskip] at hfi
          have hnx : tryAll f (List.range' 0 xs.length) = tryAll f (List.range' (i + 1) (xs.length - (i + 1))) := by rw [hi2, hfi]; simp
          unfold skipC at hskip
          rw [hF, hL] at hskip
          generalize hvb : visB xs l (plA xs i).t = vb at hV hskip
          generalize plA xs i = s at hpi hV hskip
          obtain ⟨sf, st, sd, sk⟩ := s
          simp only at hpi hV hskip
          repeat' (first | ((first | apply Ba | (apply Bb; (· rfl); (· rfl)) | (apply Bc; (· exact nxE)) | (apply Bd; (· rfl); (· rfl); (· exact nxE))); (· first | exact Kz rfl rfl (hV) (Aa (Ad (Ad An)) (Ad (Ad An))) | exact Ok.pe)) | ((first | apply Ca | (apply Cb; (· exact nxE))); (· first | exact Ok.e0)) | refine Sx ?_ | (refine Sy (fun h => ?_) (fun h => ?_) <;> try (exfalso; omega; done)) | refine Sz (fun h => ?_) (fun h => ?_))
          all_goals try (exfalso; rcases hskip with h5 | h5 | ⟨h5, h6⟩ <;> first | contradiction | omega | (simp_all; done))
          all_goals
            refine ⟨⟨i + 1, by omega, hnx⟩, ?_, by simp only; omega⟩
            (apply Le.headZ [_, _] rfl)
            all_goals (try dsimp only [srcs])
            (case' hfr | hob => (repeat' (first | refine La ?_ ?_ | exact Lc | refine Lo ?_ | refine ⟨⟨_, rfl, ?_⟩, ?_⟩ | refine Lx ?_)))
            all_goals (first | (rfl) | exact Ld)
        · rw [if_neg hskip] at hfi
          have hps := hp.snoc hi hcl2 hskip
          have hG := ih (l ++ [i]) hps (by simp; omega)
          have happ : IR (cN (l ++ [i])) = IR (cN l) ++ [[DI i]] := by simp
          unfold IL at hG
          rw [happ] at hG
          have hO := l01Own_ac (cN l) (by simp; omega)
          rw [show (cN l).length = l.length by simp] at hO
          unfold skipC at hskip
          rw [hF, hL] at hskip
          generalize hvb : visB xs l (plA xs i).t = vb at hV hskip
          generalize plA xs i = s at hpi hV hskip
          obtain ⟨sf, st, sd, sk⟩ := s
          simp only at hpi hV hskip
          repeat' (first | ((first | apply Ba | (apply Bb; (· rfl); (· rfl)) | (apply Bc; (· exact nxE)) | (apply Bd; (· rfl); (· rfl); (· exact nxE))); (· first | exact Kz rfl rfl (hV) (Aa (Ad (Ad An)) (Ad (Ad An))) | exact Zf rfl rfl (hG) (Sa (Sd (Sd Sn)) (Sw (Sa (Sd (Sd Sn)) (Sd Sn)))) | exact Eo rfl rfl (hO) (Sd Sn) | exact Ok.append1 (row := [DI i]) rfl rfl (by decide) rfl rfl (by simp; done) rfl rfl rfl (by rfl) (by omega) (by omega) | exact Ok.pe)) | ((first | apply Ca | (apply Cb; (· exact nxE))); (· first | exact Eo rfl rfl (hO) (Sd Sn) | exact Ok.append1 (row := [DI i]) rfl rfl (by decide) rfl rfl (by simp; done) rfl rfl rfl (by rfl) (by omega) (by omega) | exact Ok.e0)) | refine Sx ?_ | (refine Sy (fun h => ?_) (fun h => ?_) <;> try (exfalso; omega; done)) | refine Sz (fun h => ?_) (fun h => ?_))
          all_goals try (exfalso; first | (exact hskip (.inl (by assumption))) | (exact hskip (.inr (.inl (by assumption)))) | (exact hskip (.inr (.inr ⟨by assumption, by assumption⟩))) | (simp_all; done))
          all_goals first
            | (
              refine Ya ?_
              (apply Le.headZ (hs := []) [] rfl)
              all_goals (try dsimp only [srcs])
              (case' hfr => (repeat' (first | refine La ?_ ?_ | exact Lc | refine Lo ?_ | refine ⟨⟨_, rfl, ?_⟩, ?_⟩ | refine Lx ?_)))
              all_goals (first | exact Ld | exact trivial | ((rw [hi2, hfi, if_pos (by intro e; rw [e] at h; simp at h)]; done)))
              done)
            | (refine ⟨⟨i + 1, by omega, by rw [hi2, hfi, if_neg (by intro e; exact h (by have := List.length_pos_iff.2 e; simp; omega))]⟩, ?_, by simp only; omega⟩
               (apply Le.headZ [_, _] rfl)
               all_goals (try dsimp only [srcs])
               (case' hfr | hob => (repeat' (first | refine La ?_ ?_ | exact Lc | refine Lo ?_ | refine ⟨⟨_, rfl, ?_⟩, ?_⟩ | refine Lx ?_)))
               all_goals (first | (rfl) | exact Ld)
               done)
      ·
        rw [show xs.length - i = 0 by omega, List.range'_zero] at hi2
        rw [hi2]
        repeat' (first | ((first | apply Ba | (apply Bb; (· rfl); (· rfl)) | (apply Bc; (· exact nxE)) | (apply Bd; (· rfl); (· rfl); (· exact nxE))); (· first | exact Ok.pe)) | ((first | apply Ca | (apply Cb; (· exact nxE))); (· first | exact Ok.e0)) | refine Sx ?_ | (refine Sy (fun h => ?_) (fun h => ?_) <;> try (exfalso; omega; done)) | refine Sz (fun h => ?_) (fun h => ?_))
        refine Ya ?_
        (apply Le.headZ (hs := []) [] rfl)
        all_goals (try dsimp only [srcs])
        (case' hfr => (repeat' (first | refine La ?_ ?_ | exact Lc | refine Lo ?_ | refine ⟨⟨_, rfl, ?_⟩, ?_⟩ | refine Lx ?_)))
        all_goals (first | exact Ld | exact trivial | (rfl))
set_option maxHeartbeats 1000000 in
theorem l15Over_ac [Mode] (ev:Int) (n:Nat) (xs:List Pl) (u1 u2 over:Int) (hn:n≤10) (hx:xs.length≤1000) (hv:∀ p∈xs,okPl n p) (hrn:0≤u1∧u1≤100000) (hrd:0≤u2∧u2≤50):AC Tryz.prog 139 [grD ev xs,.agg [I u1,I u2],I over] H0 (IL (cN (overC xs u1 u2 over n))) H0:=by
 refine AC.of_body 0 Tryz.func139 rfl (fun l h=>absurd rfl h) (fun C hC=>?_)
 have hD:∀ l,¬ C.D0 l:=fun l h=>(hC l).1 h rfl
 simp only[startFr,Tryz.ntmps139,List.length_cons,List.length_nil,Nat.reduceAdd,Nat.reduceSub,List.replicate_succ,List.replicate_zero,List.cons_append,List.nil_append]
 repeat' (first|((first|apply Ba|(apply Bb;(· rfl);(· rfl))|(apply Bc;(· exact nxE))|(apply Bd;(· rfl);(· rfl);(· exact nxE)));(· first|exact Ok.pe))|((first|apply Ca|(apply Cb;(· exact nxE)));(· first|exact Ok.e0))|refine Sx ?_|(refine Sy (fun h=>?_) (fun h=>?_)<;>try (exfalso;omega;done))|refine Sz (fun h=>?_) (fun h=>?_))
 refine AW.loop (X:={k:Nat // k≤xs.length∧overC xs u1 u2 over n=tryAll (fun i=>if (plA xs i).t<(plA xs i).f then [] else growC xs u1 u2 over n [i]) (List.range' k (xs.length - k))}) (fun k=>⟨[Oo,Oo,I over,Bx 2 0,Bx 2 1,Oo,Oo,I (k.1:Nat),Oo,Oo,Oo,Oo,Oo,Oo,Oo,Oo,Oo,Oo,Oo,Oo,Oo,Oo,Oo,Oo,Oo,Oo,Oo,Oo,Oo,Oo,Oo,Oo,Oo,Oo,Oo,Oo,Oo],heapL [(⟨0,[]⟩,⟨0,[]⟩,⟨2,[[I ev,PL xs]]⟩),(⟨1,[]⟩,⟨1,[]⟩,⟨2,[[I u1,I u2]]⟩)],900⟩) (fun k=>xs.length - k.1) ⟨0,Nat.zero_le _,rfl⟩ ?_ (fun k=>?_)
 ·
  (apply Le.headZ [_,_] rfl)
  all_goals (try dsimp only[srcs])
  (case' hfr|hob=>(repeat' (first|refine La ?_ ?_|exact Lc|refine Lo ?_|refine ⟨⟨_,rfl,?_⟩,?_⟩|refine Lx ?_)))
  all_goals (first|(rfl)|exact Ld)
 obtain ⟨i,hi1,hi2⟩:=k
 simp only
 by_cases hi:i<xs.length
 ·rw[range'_cons hi,tryAll] at hi2
  have hpi:=pl_row (n:=n) hi
  by_cases hsk:(plA xs i).t<(plA xs i).f
  ·rw[if_pos hsk] at hi2
   generalize plA xs i=s at hpi hsk
   obtain ⟨sf,st,sd,sk⟩:=s
   simp only at hpi hsk
   repeat' (first|((first|apply Ba|(apply Bb;(· rfl);(· rfl))|(apply Bc;(· exact nxE))|(apply Bd;(· rfl);(· rfl);(· exact nxE)));(· first|exact Ok.pe))|((first|apply Ca|(apply Cb;(· exact nxE)));(· first|exact Ok.e0))|refine Sx ?_|(refine Sy (fun h=>?_) (fun h=>?_)<;>try (exfalso;omega;done))|refine Sz (fun h=>?_) (fun h=>?_))
   refine ⟨⟨i+1,by omega,by rw[hi2];simp⟩,?_,by simp only;omega⟩
   (apply Le.headZ [_,_] rfl)
   all_goals (try dsimp only[srcs])
   (case' hfr|hob=>(repeat' (first|refine La ?_ ?_|exact Lc|refine Lo ?_|refine ⟨⟨_,rfl,?_⟩,?_⟩|refine Lx ?_)))
   all_goals (first|(rfl)|exact Ld)
  ·rw[if_neg hsk] at hi2
   have hG:=l15Grow_ac ev n xs u1 u2 over hn hx hv hrn hrd n [i] (PathC.one hi hsk) (by simp;omega)
   generalize plA xs i=s at hpi hsk
   obtain ⟨sf,st,sd,sk⟩:=s
   simp only at hpi hsk
   repeat' (first|((first|apply Ba|(apply Bb;(· rfl);(· rfl))|(apply Bc;(· exact nxE))|(apply Bd;(· rfl);(· rfl);(· exact nxE)));(· first|exact Zf rfl rfl (hG) (Sa (Sd (Sd Sn)) (Sw (Sa (Sd (Sd Sn)) (Sd Sn))))|exact Ok.pe))|((first|apply Ca|(apply Cb;(· exact nxE)));(· first|exact Ok.e0))|refine Sx ?_|(refine Sy (fun h=>?_) (fun h=>?_)<;>try (exfalso;omega;done))|refine Sz (fun h=>?_) (fun h=>?_))
   ·
    refine Ya ?_
    (apply Le.headZ (hs:=[]) [] rfl)
    all_goals (try dsimp only[srcs])
    (case' hfr=>(repeat' (first|refine La ?_ ?_|exact Lc|refine Lo ?_|refine ⟨⟨_,rfl,?_⟩,?_⟩|refine Lx ?_)))
    all_goals (first|exact Ld|exact trivial|((rw[hi2,if_pos (by intro e;rw[e] at h;simp at h)];done)))
   ·refine ⟨⟨i+1,by omega,by rw[hi2,if_neg (by intro e;exact h (by have:=List.length_pos_iff.2 e;simp;omega))]⟩,?_,by simp only;omega⟩
    (apply Le.headZ [_,_] rfl)
    all_goals (try dsimp only[srcs])
    (case' hfr|hob=>(repeat' (first|refine La ?_ ?_|exact Lc|refine Lo ?_|refine ⟨⟨_,rfl,?_⟩,?_⟩|refine Lx ?_)))
    all_goals (first|(rfl)|exact Ld)
 ·
  rw[show xs.length - i=0 by omega,List.range'_zero] at hi2
  rw[hi2]
  repeat' (first|((first|apply Ba|(apply Bb;(· rfl);(· rfl))|(apply Bc;(· exact nxE))|(apply Bd;(· rfl);(· rfl);(· exact nxE)));(· first|exact Ok.pe))|((first|apply Ca|(apply Cb;(· exact nxE)));(· first|exact Ok.e0))|refine Sx ?_|(refine Sy (fun h=>?_) (fun h=>?_)<;>try (exfalso;omega;done))|refine Sz (fun h=>?_) (fun h=>?_))
  refine Ya ?_
  (apply Le.headZ (hs:=[]) [] rfl)
  all_goals (try dsimp only[srcs])
  (case' hfr=>(repeat' (first|refine La ?_ ?_|exact Lc|refine Lo ?_|refine ⟨⟨_,rfl,?_⟩,?_⟩|refine Lx ?_)))
  all_goals (first|exact Ld|exact trivial|(rfl))
end
section
open Go Go.RowKit
attribute [local irreducible] AL AD AW OpOk Le AC thenQ blockQ EndQ
structure Rc (t:List (List Int)) (m n:Nat):Prop where
 l:t.length=m
 r:∀ r∈t,r.length=n
theorem Rc.get [Mode] {t:List (List Int)}{m n i j:Nat} (h:Rc t m n) (hi:i<m) (hj:j<n):∃ r,t[i]? = some r∧r[j]? = some (entN t i j)∧r.length=n:=by
 have h1:i<t.length:=by rw[h.l];exact hi
 have h2:=h.r t[i] (List.getElem_mem h1)
 refine ⟨t[i],List.getElem?_eq_getElem h1,?_,h2⟩
 unfold entN
 rw[List.getElem?_eq_getElem h1,Option.getD_some,List.getElem?_eq_getElem (by rw[h2];exact hj),Option.getD_some]
def alS (t:List (List Int)) (r e:Nat) (a:Int × Int) (p:Pl) (i:Nat):Int × Int:=
 if p.t=e∧p.k+1≤r then (if a.1<entN t (r - 1 - p.k.toNat) p.f.toNat+p.d∨(entN t (r - 1 - p.k.toNat) p.f.toNat+p.d=a.1∧a.2<0) then (entN t (r - 1 - p.k.toNat) p.f.toNat+p.d,(i:Int)) else a) else a
def alA (t:List (List Int)) (r e:Nat) (xs:List Pl):Nat→Int × Int
 | 0=>(0,-1)
 | k+1=>match xs[k]? with
  | some p=>alS t r e (alA t r e xs k) p k
  | none=>alA t r e xs k
end
end Go.Proofs.YtkpoclbnnpglfaaGreat
