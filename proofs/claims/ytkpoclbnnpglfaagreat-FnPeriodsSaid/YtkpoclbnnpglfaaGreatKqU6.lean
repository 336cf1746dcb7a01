/-
  Walks in the abstract reading, part 6.
-/
import Derived.Test.YtkpoclbnnpglfaaGreatKqU5
import Derived.Test.YtkpoclbnnpglfaaGreatKqU2
import Derived.Test.YtkpoclbnnpglfaaGreatKqA3
import Derived.Test.YtkpoclbnnpglfaaGreatKqU4
import Derived.Test.YtkpoclbnnpglfaaGreatKqU3
set_option linter.unusedSimpArgs false
set_option linter.unusedVariables false
namespace Go.Proofs.YtkpoclbnnpglfaaGreat
section
open Go Go.RowKit
attribute [local irreducible] AL AD AW OpOk Le AC thenQ blockQ EndQ
def clsN (F:Nat→Nat→Bool) (v k:Nat):List Nat:=(List.range k).filter fun w=>F v w&&F w v
def ldrN (F:Nat→Nat→Bool) (n k:Nat):List Nat:=(List.range k).filter fun v=>decide (hdN (clsN F v n)=v)
abbrev cmpR (F:Nat→Nat→Bool) (n k:Nat):List (List (List D)):=(ldrN F n k).map fun v=>IR (cN (clsN F v n))
theorem clsN_s [Mode] {F:Nat→Nat→Bool}{v k:Nat}:clsN F v (k+1)=if (F v k&&F k v)=true then clsN F v k++[k] else clsN F v k:=by
 unfold clsN
 rw[List.range_succ,List.filter_append]
 by_cases h:(F v k&&F k v)=true
 ·rw[if_pos h];simp[h]
 ·rw[if_neg h];simp[h]
theorem ldrN_s [Mode] {F:Nat→Nat→Bool}{n k:Nat}:ldrN F n (k+1)=if hdN (clsN F k n)=k then ldrN F n k++[k] else ldrN F n k:=by
 unfold ldrN
 rw[List.range_succ,List.filter_append]
 by_cases h:hdN (clsN F k n)=k
 ·rw[if_pos h];simp[h]
 ·rw[if_neg h];simp[h]
theorem clsN_le [Mode] {F:Nat→Nat→Bool}{v k:Nat}:(clsN F v k).length≤k:=by
 unfold clsN
 exact Nat.le_trans (List.length_filter_le _ _) (by simp)
theorem ldrN_le [Mode] {F:Nat→Nat→Bool}{n k:Nat}:(ldrN F n k).length≤k:=by
 unfold ldrN
 exact Nat.le_trans (List.length_filter_le _ _) (by simp)
theorem cmpR_len [Mode] {F:Nat→Nat→Bool}{n k:Nat}:(cmpR F n k).length=(ldrN F n k).length:=by simp
theorem clsN_mem [Mode] {F:Nat→Nat→Bool}{v k w:Nat}:w∈clsN F v k↔w<k∧F v w=true∧F w v=true:=by
 unfold clsN;simp[List.mem_filter,Bool.and_eq_true]
set_option maxHeartbeats 8000000 in
theorem l05Components_ac [Mode] (T:List (List Int)) (n:Nat) (hT:Sq T n) (hn:n≤1000) (F:Nat→Nat→Bool) (hF:∀ u v,u<n→v<n→rchF (entN T) n u v=F u v) (hr:∀ v,v<n→F v v=true):AC Tryz.prog 123 [TL T] H0 (own1 1 (ldrN F n n).length) (hpM 1 (cmpR F n n)):=by
 have htl:(mRows 1 (TR T)).length=n:=by simp[hT.l]
 have hR:=(l05Reach_ac T n hT hn).frzT btF_len
 have hB1:∀ i,i<n→(mRows 1 (btF n n (rchF (entN T) n)))[((i:Nat):Int).toNat]? = some [.sl 1 (brF n (rchF (entN T) n i))]:=fun i hi=>btM_get hi
 have hB2:∀ i j,i<n→j<n→(brF n (rchF (entN T) n i))[((j:Nat):Int).toNat]? = some [DB (F i j)]:=fun i j hi hj=>by
  rw[Int.toNat_natCast,brF_get hj,hF i j hi hj]
 have hB3:∀ i,(brF n (rchF (entN T) n i)).length=n:=fun i=>brF_len
 have hB4:(mRows 1 (btF n n (rchF (entN T) n))).length=n:=by simp[btF_len]
 generalize rchF (entN T) n=Rf at *
 refine AC.of_body 0 Tryz.func123 rfl (fun l h=>absurd rfl h) (fun C hC=>?_)
 have hD:∀ l,¬ C.D0 l:=fun l h=>(hC l).1 h rfl
 simp only[startFr,Tryz.ntmps123,List.length_cons,List.length_nil,Nat.reduceAdd,Nat.reduceSub,List.replicate_succ,List.replicate_zero,List.cons_append,List.nil_append]
 repeat' (first|((first|apply Ba|(apply Bb;(· rfl);(· rfl))|(apply Bc;(· exact nxE))|(apply Bd;(· rfl);(· rfl);(· exact nxE)));(· first|exact Kz rfl rfl (hR) (Ad An)|exact Ok.pe))|((first|apply Ca|(apply Cb;(· exact nxE)));(· first|exact Ok.e0))|refine Sx ?_|(refine Sy (fun h=>?_) (fun h=>?_)<;>try (exfalso;omega;done))|refine Sz (fun h=>?_) (fun h=>?_))
 refine AW.loop (X:={k:Nat // k≤n}) (fun k=>⟨[TL T,Oo,Oo,.d (.sl 1 (mRows 1 (btF n n Rf))),.own 1 ⟨1,[]⟩ 0 (ldrN F n (k.1:Nat)).length,I (k.1:Nat),Oo,Oo,Oo,Oo,Oo,Oo,Oo,Oo,Oo,Oo,Oo,Oo,Oo,Oo,Oo,Oo,Oo,Oo,Oo,Oo,Oo,Oo,Oo,Oo,Oo,Oo,Oo,Oo,Oo,Oo,Oo,Oo,Oo,Oo,Oo,Oo,Oo,Oo,Oo,Oo,Oo,Oo,Oo,Oo,Oo,Oo,Oo,Oo],heapX [] [mi1 ⟨1,[]⟩ (cmpR F n k.1)],900⟩) (fun k=>n - k.1) ⟨0,Nat.zero_le _⟩ ?_ (fun k=>?_)
 ·
  (apply Le.headG [] [{ l:=⟨1,[]⟩,k:=1,R:=cmpR F n 0,src:=⟨4,[]⟩,base:=⟨4,[]⟩ }] (fun _=>False))
  (case' hlen=>rfl)
  (case' hms=>rfl)
  all_goals (try dsimp only[srcs])
  (case' hfr|hob=>(repeat' (first|refine La ?_ ?_|exact Lc|refine Lo ?_|refine ⟨⟨_,rfl,?_⟩,?_⟩|refine Lx ?_)))
  (case' hok=>first|exact ⟨MI.ok_same rfl (fun i x hx=>by simp[cmpR,ldrN] at hx),trivial⟩|exact trivial)
  (case' hN=>rfl)
  (case' hS=>rfl)
  all_goals (first|exact Ld|(rfl))
 obtain ⟨v,hv⟩:=k
 simp only
 by_cases hlt:v<n
 case neg=>
  obtain rfl:v=n:=by omega
  repeat' (first|((first|apply Ba|(apply Bb;(· rfl);(· rfl))|(apply Bc;(· exact nxE))|(apply Bd;(· rfl);(· rfl);(· exact nxE)));(· first|exact Ok.lenD rfl rfl htl|exact Ok.pe))|((first|apply Ca|(apply Cb;(· exact nxE)));(· first|exact Ok.e0))|refine Sx ?_|(refine Sy (fun h=>?_) (fun h=>?_)<;>try (exfalso;omega;done))|refine Sz (fun h=>?_) (fun h=>?_))
  refine Ya ?_
  (apply Le.headG [] [{ l:=⟨0,[]⟩,k:=1,R:=cmpR F v v,src:=⟨1,[]⟩,base:=⟨1,[]⟩ }] (fun _=>False))
  (case' hlen=>rfl)
  (case' hms=>rfl)
  all_goals (try dsimp only[srcs])
  (case' hfr|hob=>(repeat' (first|refine La ?_ ?_|exact Lc|refine Lo ?_|refine ⟨⟨_,rfl,?_⟩,?_⟩|refine Lx ?_)))
  (case' hok=>first|exact ⟨MI.ok_same rfl (Cg),trivial⟩|exact trivial)
  (case' hN=>rfl)
  (case' hS=>rfl)
  all_goals (first|exact Ld|(rfl))
 repeat' (first|((first|apply Ba|(apply Bb;(· rfl);(· rfl))|(apply Bc;(· exact nxE))|(apply Bd;(· rfl);(· rfl);(· exact nxE)));(· first|exact Ok.lenD rfl rfl htl|exact Ok.pe))|((first|apply Ca|(apply Cb;(· exact nxE)));(· first|exact Ok.e0))|refine Sx ?_|(refine Sy (fun h=>?_) (fun h=>?_)<;>try (exfalso;omega;done))|refine Sz (fun h=>?_) (fun h=>?_))
 refine AW.loop (X:={k:Nat // k≤n}) (fun k=>⟨[TL T,Oo,Oo,.d (.sl 1 (mRows 1 (btF n n Rf))),.own 1 ⟨1,[]⟩ 0 (ldrN F n v).length,I v,.own 1 ⟨2,[]⟩ 0 (clsN F v (k.1:Nat)).length,I (k.1:Nat),Oo,Oo,Oo,Oo,Oo,Oo,Oo,Oo,Oo,Oo,Oo,Oo,Oo,Oo,Oo,Oo,Oo,Oo,Oo,Oo,Oo,Oo,Oo,Oo,Oo,Oo,Oo,Oo,Oo,Oo,Oo,Oo,Oo,Oo,Oo,Oo,Oo,Oo,Oo,Oo,Oo,Oo,Oo,Oo,Oo,Oo],heapX [(⟨2,[]⟩,⟨2,[]⟩,IO (cN (clsN F v k.1)))] [mi1 ⟨1,[]⟩ (cmpR F n v)],900⟩) (fun k=>n - k.1) ⟨0,Nat.zero_le _⟩ ?_ (fun k=>?_)
 ·
  (apply Le.headG [_] [mi1 ⟨1,[]⟩ (cmpR F n v)] (fun _=>False))
  (case' hlen=>rfl)
  (case' hms=>rfl)
  all_goals (try dsimp only[srcs])
  (case' hfr|hob=>(repeat' (first|refine La ?_ ?_|exact Lc|refine Lo ?_|refine ⟨⟨_,rfl,?_⟩,?_⟩|refine Lx ?_)))
  (case' hok=>first|exact ⟨MI.ok_same rfl (Cg),trivial⟩|exact trivial)
  (case' hN=>rfl)
  (case' hS=>rfl)
  all_goals (first|exact Ld|(rfl))
 obtain ⟨w,hw⟩:=k
 simp only
 by_cases hlt2:w<n
 ·have hst:=clsN_s (F:=F) (v:=v) (k:=w)
  have hle:=clsN_le (F:=F) (v:=v) (k:=w)
  have b1:=hB1 v hlt
  have b2:=hB1 w hlt2
  have b3:=hB2 v w hlt hlt2
  have b4:=hB2 w v hlt2 hlt
  have b5:=hB3 v
  have b6:=hB3 w
  have hapl:(IR (cN (clsN F v w))).length=(clsN F v w).length:=by simp
  generalize clsN F v w=L at *
  obtain ⟨y1,h1⟩:∃ y,F v w=y:=⟨_,rfl⟩
  obtain ⟨y2,h2⟩:∃ y,F w v=y:=⟨_,rfl⟩
  rw[h1] at b3 hst
  rw[h2] at b4 hst
  cases y1<;>cases y2
  case true.true=>
   rw[if_pos (show (true&&true)=true from rfl)] at hst
   repeat' (first|((first|apply Ba|(apply Bb;(· rfl);(· rfl))|(apply Bc;(· exact nxE))|(apply Bd;(· rfl);(· rfl);(· exact nxE)));(· first|exact Ok.lenD rfl rfl htl|exact Ok.append1 (row:=[DI w]) rfl rfl (by decide) rfl rfl hapl rfl rfl rfl (by rfl) (by omega) (by omega)|exact Ok.pe))|((first|apply Ca|(apply Cb;(· exact nxE)));(· first|exact Ok.append1 (row:=[DI w]) rfl rfl (by decide) rfl rfl hapl rfl rfl rfl (by rfl) (by omega) (by omega)|exact Ok.e0))|refine Sx ?_|(refine Sy (fun h=>?_) (fun h=>?_)<;>try (exfalso;omega;done))|refine Sz (fun h=>?_) (fun h=>?_))
   refine ⟨⟨w+1,by omega⟩,?_,by simp only;omega⟩
   simp only[hst]
   (apply Le.headG [_] [mi1 ⟨1,[]⟩ (cmpR F n v)] (fun _=>False))
   (case' hlen=>rfl)
   (case' hms=>rfl)
   all_goals (try dsimp only[srcs])
   (case' hfr|hob=>(repeat' (first|refine La ?_ ?_|exact Lc|refine Lo ?_|refine ⟨⟨_,rfl,?_⟩,?_⟩|refine Lx ?_)))
   (case' hok=>first|exact ⟨MI.ok_same rfl (Cg),trivial⟩|exact trivial)
   (case' hN=>rfl)
   (case' hS=>rfl)
   all_goals (first|exact Ld|((first|rfl|(simp[cN];done))))
  all_goals
   rw[if_neg (by decide)] at hst
   repeat' (first|((first|apply Ba|(apply Bb;(· rfl);(· rfl))|(apply Bc;(· exact nxE))|(apply Bd;(· rfl);(· rfl);(· exact nxE)));(· first|exact Ok.lenD rfl rfl htl|exact Ok.pe))|((first|apply Ca|(apply Cb;(· exact nxE)));(· first|exact Ok.e0))|refine Sx ?_|(refine Sy (fun h=>?_) (fun h=>?_)<;>try (exfalso;omega;done))|refine Sz (fun h=>?_) (fun h=>?_))
   refine ⟨⟨w+1,by omega⟩,?_,by simp only;omega⟩
   simp only[hst]
   (apply Le.headG [_] [mi1 ⟨1,[]⟩ (cmpR F n v)] (fun _=>False))
   (case' hlen=>rfl)
   (case' hms=>rfl)
   all_goals (try dsimp only[srcs])
   (case' hfr|hob=>(repeat' (first|refine La ?_ ?_|exact Lc|refine Lo ?_|refine ⟨⟨_,rfl,?_⟩,?_⟩|refine Lx ?_)))
   (case' hok=>first|exact ⟨MI.ok_same rfl (Cg),trivial⟩|exact trivial)
   (case' hN=>rfl)
   (case' hS=>rfl)
   all_goals (first|exact Ld|(rfl))
 obtain rfl:w=n:=by omega
 have hne:clsN F v w≠[]:=fun h=>by
  have:v∈clsN F v w:=clsN_mem.2 ⟨hlt,hr v hlt,hr v hlt⟩
  rw[h] at this;cases this
 have hst:=ldrN_s (F:=F) (n:=w) (k:=v)
 have hle:=ldrN_le (F:=F) (n:=w) (k:=v)
 have hcl:0<(clsN F v w).length:=List.length_pos_iff.2 hne
 have hcl2:(IR (cN (clsN F v w))).length=(clsN F v w).length:=by simp
 have hle2:=clsN_le (F:=F) (v:=v) (k:=w)
 have hfst:(dobj 1 (IR (cN (clsN F v w)))).rows[0+(0:Int).toNat]? = some [I (hdN (clsN F v w):Nat)]:=by
  cases hc:clsN F v w with
  | nil=>exact absurd hc hne
  | cons a b=>simp[dobj,cN,hdN]
 have hol:(cmpR F w v).length=(ldrN F w v).length:=cmpR_len
 by_cases hh:hdN (clsN F v w)=v
 ·rw[if_pos hh] at hst
  have hR2:cmpR F w (v+1)=cmpR F w v++[IR (cN (clsN F v w))]:=by simp[cmpR,hst]
  rw[hh] at hfst
  repeat' (first|((first|apply Ba|(apply Bb;(· rfl);(· rfl))|(apply Bc;(· exact nxE))|(apply Bd;(· rfl);(· rfl);(· exact nxE)));(· first|exact Ok.lenD rfl rfl htl|exact OpOk.loadCell rfl rfl rfl rfl hfst rfl|exact Ok.appendT rfl rfl (by decide) rfl rfl rfl (by simp[outer_len];done) rfl rfl (by rfl) (by omega) (by omega) rfl|exact Ok.pe))|((first|apply Ca|(apply Cb;(· exact nxE)));(· first|exact Ok.appendT rfl rfl (by decide) rfl rfl rfl (by simp[outer_len];done) rfl rfl (by rfl) (by omega) (by omega) rfl|exact Ok.e0))|refine Sx ?_|(refine Sy (fun h=>?_) (fun h=>?_)<;>try (exfalso;omega;done))|refine Sz (fun h=>?_) (fun h=>?_))
  refine ⟨⟨v+1,by omega⟩,?_,by simp only;omega⟩
  (apply Le.headG [] [{ l:=⟨1,[]⟩,k:=1,R:=cmpR F w (v+1),src:=⟨912,[]⟩,base:=⟨1,[]⟩,cut:=(ldrN F w v).length,ext:=some ⟨2,[]⟩ }] (fun _=>False))
  (case' hlen=>rfl)
  (case' hms=>rfl)
  all_goals (try dsimp only[srcs])
  (case' hfr|hob=>(repeat' (first|refine La ?_ ?_|exact Lc|refine Lo ?_|refine ⟨⟨_,rfl,?_⟩,?_⟩|refine Lx ?_)))
  (case' hok=>first|exact ⟨MI.ok_app hR2 cmpR_len hcl2 rfl (Cg) rfl,trivial⟩|exact trivial)
  (case' hN=>rfl)
  (case' hS=>rfl)
  all_goals (first|exact Ld|((first|(simp[AllP,hst];done)|(rw[hst];simp;done))))
 ·rw[if_neg hh] at hst
  have hR2:cmpR F w (v+1)=cmpR F w v:=by simp[cmpR,hst]
  have hh2:¬ ((hdN (clsN F v w):Nat):Int)=v:=by omega
  generalize hdN (clsN F v w)=z at *
  repeat' (first|((first|apply Ba|(apply Bb;(· rfl);(· rfl))|(apply Bc;(· exact nxE))|(apply Bd;(· rfl);(· rfl);(· exact nxE)));(· first|exact Ok.lenD rfl rfl htl|exact OpOk.loadCell rfl rfl rfl rfl hfst rfl|exact Ok.pe))|((first|apply Ca|(apply Cb;(· exact nxE)));(· first|exact Ok.e0))|refine Sx ?_|(refine Sy (fun h=>?_) (fun h=>?_)<;>try (exfalso;omega;done))|refine Sz (fun h=>?_) (fun h=>?_))
  refine ⟨⟨v+1,by omega⟩,?_,by simp only;omega⟩
  rw[hR2]
  simp only[hst]
  (apply Le.headG [] [mi1 ⟨1,[]⟩ (cmpR F w v)] (fun _=>False))
  (case' hlen=>rfl)
  (case' hms=>rfl)
  all_goals (try dsimp only[srcs])
  (case' hfr|hob=>(repeat' (first|refine La ?_ ?_|exact Lc|refine Lo ?_|refine ⟨⟨_,rfl,?_⟩,?_⟩|refine Lx ?_)))
  (case' hok=>first|exact ⟨MI.ok_same rfl (Cg),trivial⟩|exact trivial)
  (case' hN=>rfl)
  (case' hS=>rfl)
  all_goals (first|exact Ld|(rfl))
theorem hd_min [Mode] {F:Nat→Nat→Bool}{v n w:Nat} (h:w∈clsN F v n):hdN (clsN F v n)≤w∧hdN (clsN F v n)∈clsN F v n:=by
 have hs:(clsN F v n).Pairwise (· < ·):=List.Pairwise.filter _ (List.pairwise_lt_range)
 cases hc:clsN F v n with
 | nil=>rw[hc] at h;cases h
 | cons a b=>
  rw[hc] at h hs
  refine ⟨?_,by simp[hdN]⟩
  rcases List.mem_cons.1 h with rfl|h
  ·exact Nat.le_refl _
  ·exact Nat.le_of_lt ((List.pairwise_cons.1 hs).1 w h)
end
section
open Go Go.RowKit
attribute [local irreducible] AL AD AW OpOk Le AC thenQ blockQ EndQ
def boR (n:Nat) (g:Nat→Bool):List (List D):=(List.range n).map fun e=>[D.v (.bool (g e))]
theorem boR_len [Mode] {n:Nat}{g:Nat→Bool}:(boR n g).length=n:=by simp[boR]
theorem boR_get [Mode] {n e:Nat}{g:Nat→Bool} (h:e<n):(boR n g)[e]? = some [D.v (.bool (g e))]:=by simp[boR,h]
theorem boR_congr [Mode] {n:Nat}{f g:Nat→Bool} (h:∀ j,j<n→f j=g j):boR n f=boR n g:=List.map_congr_left fun j hj=>by rw[h j (List.mem_range.1 hj)]
theorem boR_set [Mode] {n j:Nat}{g:Nat→Bool}{v:Bool}:(boR n g).set j [D.v (.bool v)]=boR n (fun b=>if b=j then v else g b):=by
 unfold boR
 apply List.ext_getElem?
 intro i
 rw[List.getElem?_set]
 by_cases hi:i<n
 ·by_cases e:j=i
  ·subst e;simp[hi]
  ·simp[hi,e,Ne.symm e]
 ·by_cases e:j=i
  ·subst e;simp[hi]
  ·simp[hi,e]
theorem boR_0 [Mode] {n:Nat}:dobj 1 (List.replicate n [D.v (.bool false)])=dobj 1 (boR n fun _=>false):=by
 unfold boR;simp[List.map_const']
theorem tryAll_no [Mode] {α:Type}{F:Nat→List α}{j m:Nat} (h:j<m) (h0:F j=[]):tryAll F (List.range' j (m - j))=tryAll F (List.range' (j+1) (m - (j+1))):=by
 rw[range'_cons h,tryAll,if_neg (by rw[h0];simp)]
theorem tryAll_yes [Mode] {α:Type}{F:Nat→List α}{j m:Nat} (h:j<m) (h0:F j≠[]):tryAll F (List.range' j (m - j))=F j:=by
 rw[range'_cons h,tryAll,if_pos h0]
end
section
open Go Go.RowKit
attribute [local irreducible] AL AD AW OpOk Le AC thenQ blockQ EndQ
section
variable {P : Program} {o : Oper} {A : Operand → AV} {H : Heap} {new : Nat}
end
def goF (a:Nat→Nat→Int) (n:Nat):Nat→List Nat→List Nat
 | 0,_=>[]
 | m+1,l=>if a (hdN l) (lsN l)≠BOT then l else tryAll (fun v=>if a v (lsN l)=BOT∨v∈l then [] else goF a n m (l++[v])) (List.range' (hdN l+1) (n - (hdN l+1)))
def fstF (a:Nat→Nat→Int) (n:Nat):List Nat:=tryAll (fun v=>goF a n n [v]) (List.range' 0 n)
structure PathN (n:Nat) (l:List Nat):Prop where
 ne:l≠[]
 lt:∀ v∈l,v<n
 nd:l.Nodup
 tl:∀ v∈l.tail,hdN l<v
theorem PathN.snoc [Mode] {n:Nat}{l:List Nat} (h:PathN n l) {v:Nat} (hv:v<n) (h0:hdN l<v) (hm:v∉l):PathN n (l++[v]):=by
 refine ⟨by simp,fun x hx=>?_,?_,fun x hx=>?_⟩
 ·rcases List.mem_append.1 hx with hx|hx
  ·exact h.lt x hx
  ·simp at hx;omega
 ·rw[List.nodup_append]
  exact ⟨h.nd,by simp,fun x hx y hy e=>by simp at hy;subst hy;subst e;exact hm hx⟩
 ·rw[hdN_app h.ne]
  rw[List.tail_append_of_ne_nil h.ne] at hx
  rcases List.mem_append.1 hx with hx|hx
  ·exact h.tl x hx
  ·simp at hx;omega
theorem PathN.mem [Mode] {n:Nat}{l:List Nat} (h:PathN n l) {v:Nat} (h0:hdN l<v):v∈l↔v∈l.tail:=by
 cases l with
 | nil=>exact absurd rfl h.ne
 | cons x l=>
  have e:hdN (x :: l)=x:=rfl
  rw[e] at h0
  simp only[List.tail_cons,List.mem_cons]
  exact ⟨fun h=>h.resolve_left (by omega),.inr⟩
abbrev usV (l:List Nat):Nat→Bool:=fun v=>decide (v∈l.tail)
abbrev cyD (T:List (List Int)) (F:FuncId):List AV:=[TL T,.clo (.func F) [] []]
abbrev cyH (T:List (List Int)) (F:FuncId) (n:Nat) (l:List Nat):Heap:=
 upd (upd (upd H0 ⟨2,[]⟩ (some (dobj 1 (boR n (usV l))))) ⟨1,[]⟩ (some (IO (cN l)))) ⟨0,[]⟩ (some ⟨4,[cyD T F++[.own 1 ⟨1,[]⟩ 0 l.length,.own 1 ⟨2,[]⟩ 0 n]]⟩)
abbrev cyHF (T:List (List Int)) (F:FuncId) (n:Nat) (l:List Nat):Heap:=
 upd (upd (upd H0 ⟨2,[]⟩ (some (dobj 1 (boR n (usV l))))) ⟨3,[]⟩ (some (IO (cN l)))) ⟨0,[]⟩ (some ⟨4,[cyD T F++[.own 1 ⟨3,[]⟩ 0 l.length,.own 1 ⟨2,[]⟩ 0 n]]⟩)
abbrev cyHT (T:List (List Int)) (F:FuncId) (l:List Nat):Heap:=
 upd (upd (upd H0 ⟨2,[]⟩ none) ⟨3,[]⟩ (some (IO (cN l)))) ⟨0,[]⟩ (some ⟨4,[cyD T F++[.own 1 ⟨3,[]⟩ 0 l.length,.dead]]⟩)
theorem cyHT_eq [Mode] {T:List (List Int)}{F:FuncId}{l:List Nat}:cyHT T F l=heapL [(⟨0,[]⟩,⟨0,[]⟩,⟨4,[[TL T,.clo (.func F) [] [],.own 1 ⟨3,[]⟩ 0 l.length,.dead]]⟩),(⟨3,[]⟩,⟨3,[]⟩,IO (cN l))]:=by
 have e:upd H0 ⟨2,[]⟩ none=H0:=by funext l;simp[upd]
 unfold cyHT;rw[e];rfl
theorem cyD_ar [Mode] {T:List (List Int)}{F:FuncId}:∀ c∈cyD T F,∀ H lent τ L,AR H lent τ L c c:=fun c hc H lent τ L=>by
 simp only[List.mem_cons,List.not_mem_nil,or_false] at hc
 rcases hc with rfl|rfl
 ·exact .dd _
 ·exact AR.clo' ARs.nil ARs.nil
theorem cyD_rn [Mode] {T:List (List Int)}{F:FuncId}:∀ c∈cyD T F,∀ g,rn g c=c:=fun c hc g=>by
 simp only[List.mem_cons,List.not_mem_nil,or_false] at hc
 rcases hc with rfl|rfl<;>simp[rn]
theorem cNr_get [Mode] {l:List Nat}{i:Nat}{v:Nat} (h:l[i]? = some v):(dobj 1 (IR (cN l))).rows[0+i]? = some [I (v:Nat)]:=by
 rw[Nat.zero_add];simp[dobj,cN,h]
set_option maxHeartbeats 8000000 in
theorem goOnM_ac [Mode] (T:List (List Int)) (n:Nat) (hT:Sq T n) (hn:n≤1000) (F:FuncId) [FnBody Tryz.prog F] (hW:∀ (l:List Int) (w:Int),AC Tryz.prog F [IL l,I w] H0 (Bo true) H0):∀ (k:Nat) (l:List Nat) (w:Int),PathN n l→k+l.length=n+1→
  AC Tryz.prog 166 [Bx 4 0,I w] (cyH T F n l) (Bo (decide (goF (entN T) n k l≠[]))) (if goF (entN T) n k l=[] then cyHF T F n l else cyHT T F (goF (entN T) n k l)):=by
 intro m
 induction m with
 | zero=>
  intro l w hp hk
  have:=nodup_le n l hp.nd hp.lt
  omega
 | succ m ih=>
  intro l w hp hk
  have hln:=nodup_le n l hp.nd hp.lt
  have hlen:0<l.length:=List.length_pos_iff.2 hp.ne
  have hfi:=hp.lt _ (hdN_mem hp.ne)
  have hla:=hp.lt _ (lsN_mem hp.ne)
  have htl:(mRows 1 (TR T)).length=n:=by simp[hT.l]
  have hsg:∀ i j,i<n→j<n→∃ r,(mRows 1 (TR T))[((i:Nat):Int).toNat]? = some [.sl 1 (IR r)]∧(IR r)[((j:Nat):Int).toNat]? = some [DI (entN T i j)]∧(IR r).length=n:=fun i j hi hj=>by
   obtain ⟨r,h1,h2,h3⟩:=hT.get hi hj
   exact ⟨r,TR_get h1,IR_get h2,by rw[IR_len,h3]⟩
  have h0g:l[0]? = some (hdN l):=by
   cases l with
   | nil=>exact absurd rfl hp.ne
   | cons x l=>rfl
  have hng:l[l.length - 1]? = some (lsN l):=by
   unfold lsN
   rw[List.getLastD_eq_getLast?,List.getLast?_eq_getElem?]
   rw[List.getElem?_eq_getElem (show l.length - 1<l.length by omega)]
   rfl
  have hfst:(dobj 1 (IR (cN l))).rows[0+(0:Int).toNat]? = some [I (hdN l:Nat)]:=cNr_get h0g
  have hlst:(dobj 1 (IR (cN l))).rows[0+((l.length:Int) - 1).toNat]? = some [I (lsN l:Nat)]:=by
   rw[show ((l.length:Int) - 1).toNat=l.length - 1 by omega];exact cNr_get hng
  have hapl:(IR (cN l)).length=l.length:=by simp
  have hpl:(dobj 1 (IR (cN l))).rows.length=l.length:=by simp[dobj]
  obtain ⟨G,hG⟩:∃ G,goF (entN T) n (m+1) l=G:=⟨_,rfl⟩
  rw[hG]
  unfold goF at hG
  generalize hFF:(fun v=>if entN T v (lsN l)=BOT∨v∈l then [] else goF (entN T) n m (l++[v]))=Fv at hG
  have hFj0:∀ v,Fv v=if entN T v (lsN l)=BOT∨v∈l then [] else goF (entN T) n m (l++[v]):=fun v=>by rw[← hFF]
  clear hFF
  obtain ⟨r0,e1,e2,e3⟩:=hsg (hdN l) (lsN l) hfi hla
  have hhd:∀ v,hdN (l++[v])=hdN l:=fun v=>hdN_app hp.ne
  generalize hfe:hdN l=fi at *
  generalize hle:lsN l=la at *
  by_cases harc:entN T fi la=BOT
  case neg=>
   rw[if_pos harc] at hG
   have hwc:=hW (cN l)
   rw[← hG,if_neg hp.ne,decide_eq_true hp.ne,cyHT_eq]
   generalize entN T fi la=x at *
   unfold BOT at harc
   refine AC.of_body 3 Tryz.func166 rfl (fun l h=>by simp[upd] at h;(repeat' split at h)<;>simp_all) (fun C hC=>?_)
   simp only[startFr,Tryz.ntmps166,List.length_cons,List.length_nil,Nat.reduceAdd,Nat.reduceSub,List.replicate_succ,List.replicate_zero,List.cons_append,List.nil_append]
   have hD:∀ l,C.D0 l→l=⟨0,[]⟩∨l=⟨1,[]⟩∨l=⟨2,[]⟩:=fun l h=>by have:=(hC l).1 h;simp[upd] at this;(repeat' split at this)<;>simp_all
   repeat' (first|((first|apply Ba|(apply Bb;(· rfl);(· rfl))|(apply Bc;(· exact nxE))|(apply Bd;(· rfl);(· rfl);(· exact nxE)));(· first|exact OpOk.loadCell rfl rfl rfl rfl hfst rfl|exact OpOk.loadCell rfl rfl rfl rfl hlst rfl|exact Ez rfl rfl (hwc _) (Sw (Sd Sn))|exact OpOk.nilCheck rfl rfl|exact Ok.pe))|((first|apply Ca|(apply Cb;(· exact nxE)));(· first|exact Ok.e0))|refine Sx ?_|(refine Sy (fun h=>?_) (fun h=>?_)<;>try (exfalso;omega;done))|refine Sz (fun h=>?_) (fun h=>?_))
   (refine end1p (by first|exact .inl rfl|exact .inr rfl) rfl (by first|exact rT rfl|exact rCA rfl rfl rfl rfl (by simp)|exact rCC rfl rfl rfl rfl rfl) ?_ (Le.head ([(⟨0,[]⟩,⟨0,[]⟩,⟨4,[[TL T,.clo (.func F) [] [],.own 1 ⟨3,[]⟩ 0 l.length,.dead]]⟩),(⟨3,[]⟩,⟨1,[]⟩,IO (cN l))]) (by first|exact fun l h=>absurd h (hD l)|(intro l h;rcases hD l h with rfl;simp[tauL])|(intro l h;rcases hD l h with rfl|rfl<;>simp[tauL];done)|(intro l h;rcases hD l h with rfl|rfl|rfl<;>simp[tauL])) ?_ ?_ (by simp) (by simp) (by simp[AllP]) (n':=1000));(· rfl))<;>(repeat' (first|exact trivial|exact ARs.nil|refine ARs.cons ?_ ?_|exact AR.dead _|exact AR.dd _|exact AR.i (by (try dsimp only);omega)|exact AR.ptr _ _ _ _ (by simp[heapL,upd])|exact AR.own _ _ _ _ (by simp[heapL,upd])|refine AR.ownE _ _ _ ?_ (by simp[heapL,upd])|refine ⟨⟨_,rfl,?_⟩,?_⟩|exact ObA.data|refine ObA.box ?_|refine ObA.frE ?_|refine ObA.dataE ?_|refine ARs.agg ?_|refine ARs.tup ?_|exact AR.clo' ARs.nil ARs.nil|exact AR.clo' ARs.nil (hca _ _)))
  rw[if_neg (fun h=>h harc)] at hG
  refine AC.of_body 3 Tryz.func166 rfl (fun l h=>by simp[upd] at h;(repeat' split at h)<;>simp_all) (fun C hC=>?_)
  simp only[startFr,Tryz.ntmps166,List.length_cons,List.length_nil,Nat.reduceAdd,Nat.reduceSub,List.replicate_succ,List.replicate_zero,List.cons_append,List.nil_append]
  have hD:∀ l,C.D0 l→l=⟨0,[]⟩∨l=⟨1,[]⟩∨l=⟨2,[]⟩:=fun l h=>by have:=(hC l).1 h;simp[upd] at this;(repeat' split at this)<;>simp_all
  rw[harc] at e2
  unfold BOT at e2
  repeat' (first|((first|apply Ba|(apply Bb;(· rfl);(· rfl))|(apply Bc;(· exact nxE))|(apply Bd;(· rfl);(· rfl);(· exact nxE)));(· first|exact OpOk.loadCell rfl rfl rfl rfl hfst rfl|exact OpOk.loadCell rfl rfl rfl rfl hlst rfl|exact OpOk.nilCheck rfl rfl|exact Ok.pe))|((first|apply Ca|(apply Cb;(· exact nxE)));(· first|exact Ok.e0))|refine Sx ?_|(refine Sy (fun h=>?_) (fun h=>?_)<;>try (exfalso;omega;done))|refine Sz (fun h=>?_) (fun h=>?_))
  refine AW.loop (X:={k:Nat // k≤n - (fi+1)∧G=tryAll Fv (List.range' (fi+1+k) (n - (fi+1+k)))}) (fun k=>⟨[Bx 4 0,I w,Oo,Oo,Oo,Oo,I la,Oo,I (fi+1+(k.1:Nat):Nat),Oo,Oo,Oo,Oo,Oo,Oo,Oo,Oo,Oo,Oo,Oo,Oo,Oo,Oo,Oo,Oo,Oo,Oo,Oo,Oo,Oo,Oo,Oo,Oo,Oo,Oo,Oo,Oo,Oo,Oo,Oo,Oo,Oo,Oo,Oo,Oo,Oo,Oo,Oo,Oo,Oo,Oo,Oo,Oo,Oo,Oo,Oo,Oo,Oo,Oo,Oo,Oo,Oo,Oo,Oo,Oo,Oo,Oo,Oo,Oo,Oo,Oo,Oo,Oo,Oo,Oo,Oo,Oo,Oo,Oo,Oo,Oo,Oo,Oo,Oo,Oo,Oo,Oo,Oo,Oo,Oo,Oo,Oo,Oo,Oo,Oo,Oo,Oo,Oo,Oo,Oo,Oo,Oo,Oo,Oo,Oo,Oo,Oo,Oo,Oo,Oo,Oo,Oo,Oo,Oo,Oo,Oo,Oo,Oo,Oo,Oo,Oo,Oo,Oo,Oo,Oo,Oo,Oo],heapL [(⟨0,[]⟩,⟨0,[]⟩,⟨4,[[TL T,.clo (.func F) [] [],.own 1 ⟨3,[]⟩ 0 l.length,.own 1 ⟨2,[]⟩ 0 n]]⟩),(⟨3,[]⟩,⟨3,[]⟩,IO (cN l)),(⟨2,[]⟩,⟨2,[]⟩,dobj 1 (boR n (usV l)))],900⟩) (fun k=>n - (fi+1) - k.1) ⟨0,Nat.zero_le _,hG.symm⟩ ?_ (fun k=>?_)
  ·
   (apply Le.headZ [_,_,_] rfl)
   all_goals (try dsimp only[srcs])
   (case' hfr|hob=>(repeat' (first|refine La ?_ ?_|exact Lc|refine Lo ?_|refine ⟨⟨_,rfl,?_⟩,?_⟩|refine Lx ?_)))
   all_goals (first|(rfl)|exact Ld)
  obtain ⟨j0,hj,hinv⟩:=k
  simp only
  obtain ⟨j,hjj⟩:∃ j,fi+1+j0=j:=⟨_,rfl⟩
  rw[hjj] at hinv ⊢
  by_cases hlt:j<n
  case neg=>
   have hG0:G=[]:=by rw[hinv,show n - j=0 by omega];rfl
   rw[hG0]
   rw[if_pos rfl,decide_eq_false (by simp)]
   repeat' (first|((first|apply Ba|(apply Bb;(· rfl);(· rfl))|(apply Bc;(· exact nxE))|(apply Bd;(· rfl);(· rfl);(· exact nxE)));(· first|exact Ok.lenD rfl rfl htl|exact OpOk.nilCheck rfl rfl|exact Ok.pe))|((first|apply Ca|(apply Cb;(· exact nxE)));(· first|exact Ok.e0))|refine Sx ?_|(refine Sy (fun h=>?_) (fun h=>?_)<;>try (exfalso;omega;done))|refine Sz (fun h=>?_) (fun h=>?_))
   (refine end1p (by first|exact .inl rfl|exact .inr rfl) rfl (by first|exact rT rfl|exact rCA rfl rfl rfl rfl (by simp)|exact rCC rfl rfl rfl rfl rfl) ?_ (Le.head ([(⟨0,[]⟩,⟨0,[]⟩,⟨4,[[TL T,.clo (.func F) [] [],.own 1 ⟨3,[]⟩ 0 l.length,.own 1 ⟨2,[]⟩ 0 n]]⟩),(⟨3,[]⟩,⟨3,[]⟩,IO (cN l)),(⟨2,[]⟩,⟨2,[]⟩,dobj 1 (boR n (usV l)))]) (by first|exact fun l h=>absurd h (hD l)|(intro l h;rcases hD l h with rfl;simp[tauL])|(intro l h;rcases hD l h with rfl|rfl<;>simp[tauL];done)|(intro l h;rcases hD l h with rfl|rfl|rfl<;>simp[tauL])) ?_ ?_ (by simp) (by simp) (by simp[AllP]) (n':=1000));(· rfl))<;>(repeat' (first|exact trivial|exact ARs.nil|refine ARs.cons ?_ ?_|exact AR.dead _|exact AR.dd _|exact AR.i (by (try dsimp only);omega)|exact AR.ptr _ _ _ _ (by simp[heapL,upd])|exact AR.own _ _ _ _ (by simp[heapL,upd])|refine AR.ownE _ _ _ ?_ (by simp[heapL,upd])|refine ⟨⟨_,rfl,?_⟩,?_⟩|exact ObA.data|refine ObA.box ?_|refine ObA.frE ?_|refine ObA.dataE ?_|refine ARs.agg ?_|refine ARs.tup ?_|exact AR.clo' ARs.nil ARs.nil|exact AR.clo' ARs.nil (hca _ _)))
  obtain ⟨r,q1,q2,q3⟩:=hsg j la hlt hla
  have hFj:=hFj0 j
  have hus:=boR_get (g:=usV l) hlt
  have hmem:=hp.mem (v:=j) (by rw[hfe];omega)
  have hskipEnd:Fv j=[]→G=tryAll Fv (List.range' (j+1) (n - (j+1))):=fun h=>by rw[hinv,tryAll_no hlt h]
  have hnext:∀ h:G=tryAll Fv (List.range' (j+1) (n - (j+1))),G=tryAll Fv (List.range' (fi+1+(j0+1)) (n - (fi+1+(j0+1)))):=fun h=>by rw[show fi+1+(j0+1)=j+1 by omega];exact h
  by_cases hx:entN T j la=BOT
  ·have hnx:=hnext (hskipEnd (by rw[hFj,if_pos (.inl hx)]))
   rw[hx] at q2
   unfold BOT at q2
   repeat' (first|((first|apply Ba|(apply Bb;(· rfl);(· rfl))|(apply Bc;(· exact nxE))|(apply Bd;(· rfl);(· rfl);(· exact nxE)));(· first|exact Ok.lenD rfl rfl htl|exact OpOk.nilCheck rfl rfl|exact Ok.pe))|((first|apply Ca|(apply Cb;(· exact nxE)));(· first|exact Ok.e0))|refine Sx ?_|(refine Sy (fun h=>?_) (fun h=>?_)<;>try (exfalso;omega;done))|refine Sz (fun h=>?_) (fun h=>?_))
   refine ⟨⟨j0+1,by omega,hnx⟩,?_,by simp only;omega⟩
   (apply Le.headZ [_,_,_] rfl)
   all_goals (try dsimp only[srcs])
   (case' hfr|hob=>(repeat' (first|refine La ?_ ?_|exact Lc|refine Lo ?_|refine ⟨⟨_,rfl,?_⟩,?_⟩|refine Lx ?_)))
   all_goals (first|(rfl)|exact Ld)
  by_cases hv:j∈l
  ·have hnx:=hnext (hskipEnd (by rw[hFj,if_pos (.inr hv)]))
   rw[show usV l j=true from decide_eq_true (hmem.1 hv)] at hus
   generalize entN T j la=x at *
   unfold BOT at hx
   repeat' (first|((first|apply Ba|(apply Bb;(· rfl);(· rfl))|(apply Bc;(· exact nxE))|(apply Bd;(· rfl);(· rfl);(· exact nxE)));(· first|exact Ok.lenD rfl rfl htl|exact Ok.ld1 rfl rfl rfl hus|exact OpOk.nilCheck rfl rfl|exact Ok.pe))|((first|apply Ca|(apply Cb;(· exact nxE)));(· first|exact Ok.e0))|refine Sx ?_|(refine Sy (fun h=>?_) (fun h=>?_)<;>try (exfalso;omega;done))|refine Sz (fun h=>?_) (fun h=>?_))
   refine ⟨⟨j0+1,by omega,hnx⟩,?_,by simp only;omega⟩
   (apply Le.headZ [_,_,_] rfl)
   all_goals (try dsimp only[srcs])
   (case' hfr|hob=>(repeat' (first|refine La ?_ ?_|exact Lc|refine Lo ?_|refine ⟨⟨_,rfl,?_⟩,?_⟩|refine Lx ?_)))
   all_goals (first|(rfl)|exact Ld)
  have hvt:j∉l.tail:=fun h=>hv (hmem.2 h)
  rw[show usV l j=false from decide_eq_false hvt] at hus
  rw[if_neg (by rintro (h|h);exact hx h;exact hv h)] at hFj
  have hset1:(boR n (usV l)).set j [D.v (.bool true)]=boR n (usV (l++[j])):=by
   rw[boR_set]
   refine boR_congr fun e _=>?_
   simp only[usV,List.tail_append_of_ne_nil hp.ne,List.mem_append,List.mem_singleton]
   by_cases e1:e=j
   ·simp[e1]
   ·simp[e1]
  have hget2:=boR_get (g:=usV (l++[j])) hlt
  have hset2:(boR n (usV (l++[j]))).set j [D.v (.bool false)]=boR n (usV l):=by
   rw[boR_set]
   refine boR_congr fun e _=>?_
   simp only[usV,List.tail_append_of_ne_nil hp.ne,List.mem_append,List.mem_singleton]
   by_cases e1:e=j
   ·subst e1;simp[hvt]
   ·simp[e1]
  have hll:(l++[j]).length=l.length+1:=by simp
  have hIH:=ih (l++[j]) (IntKind.i64.wrap (w+entN T j la)) (hp.snoc hlt (by rw[hfe];omega) hv) (by rw[hll];omega)
  by_cases hg:goF (entN T) n m (l++[j])=[]
  ·have hnx:=hnext (hskipEnd (by rw[hFj,hg]))
   rw[if_pos hg,hg,decide_eq_false (by simp)] at hIH
   unfold cyH cyHF IO at hIH
   rw[cN_snoc,hll] at hIH
   generalize usV (l++[j])=sv at *
   generalize entN T j la=x at *
   unfold BOT at hx
   repeat' (first|((first|apply Ba|(apply Bb;(· rfl);(· rfl))|(apply Bc;(· exact nxE))|(apply Bd;(· rfl);(· rfl);(· exact nxE)));(· first|exact Ok.lenD rfl rfl htl|exact Ok.ld1 rfl rfl rfl hus|exact Ok.sliceToO rfl rfl rfl (by omega) rfl (by omega)|exact OpOk.nilCheck rfl rfl|exact Ok.append1 (row:=[DI (j:Nat)]) rfl rfl (by decide) rfl rfl hapl rfl rfl rfl (by rfl) (by omega) (by omega)|exact Ok.st1 rfl rfl rfl (by rw[boR_len];omega) (by rw[hus];rfl) rfl rfl hset1|exact Ok.st1 rfl rfl rfl (by rw[boR_len];omega) (by rw[hget2];rfl) rfl rfl hset2|exact OpOk.callB3a (b:=⟨0,[]⟩) (p:=⟨943,[]⟩) (q:=⟨2,[]⟩) (x':=.own 1 ⟨2,[]⟩ 0 n) rfl rfl hIH rfl rfl rfl (by decide) (by decide) (by decide) rfl (fun g=>congrArg some (rnO_dobj _ _ _)) (by simp[Go.Proofs.YtkpoclbnnpglfaaGreat.rn,emb,thr]) (.cons (AR.ptr _ _ _ _ (by simp)) (.cons (.dd _) .nil)) cyD_ar cyD_rn|exact Ok.storeC rfl rfl rfl rfl rfl (by simp;done) (by conv=>lhs;whnf) (by rfl) (by rfl) rfl|exact Ok.pe))|((first|apply Ca|(apply Cb;(· exact nxE)));(· first|exact Ok.append1 (row:=[DI (j:Nat)]) rfl rfl (by decide) rfl rfl hapl rfl rfl rfl (by rfl) (by omega) (by omega)|exact Ok.st1 rfl rfl rfl (by rw[boR_len];omega) (by rw[hus];rfl) rfl rfl hset1|exact Ok.st1 rfl rfl rfl (by rw[boR_len];omega) (by rw[hget2];rfl) rfl rfl hset2|exact OpOk.callB3a (b:=⟨0,[]⟩) (p:=⟨943,[]⟩) (q:=⟨2,[]⟩) (x':=.own 1 ⟨2,[]⟩ 0 n) rfl rfl hIH rfl rfl rfl (by decide) (by decide) (by decide) rfl (fun g=>congrArg some (rnO_dobj _ _ _)) (by simp[Go.Proofs.YtkpoclbnnpglfaaGreat.rn,emb,thr]) (.cons (AR.ptr _ _ _ _ (by simp)) (.cons (.dd _) .nil)) cyD_ar cyD_rn|exact Ok.storeC rfl rfl rfl rfl rfl (by simp;done) (by conv=>lhs;whnf) (by rfl) (by rfl) rfl|exact Ok.e0))|refine Sx ?_|(refine Sy (fun h=>?_) (fun h=>?_)<;>try (exfalso;omega;done))|refine Sz (fun h=>?_) (fun h=>?_))
   refine ⟨⟨j0+1,by omega,hnx⟩,?_,by simp only;omega⟩
   refine (Le.takeL ⟨951,[3]⟩ l.length rfl).trans ?_
   (apply Le.headZ [_,_,_] rfl)
   all_goals (try dsimp only[srcs])
   (case' hfr|hob=>(repeat' (first|refine La ?_ ?_|exact Lc|refine Lo ?_|refine ⟨⟨_,rfl,?_⟩,?_⟩|refine Lx ?_)))
   all_goals (first|((first|rfl|(simp[dobj];done)))|exact Ld)
  ·have hG1:G=goF (entN T) n m (l++[j]):=by rw[hinv,tryAll_yes hlt (by rw[hFj];exact hg),hFj]
   rw[if_neg hg,decide_eq_true hg] at hIH
   rw[hG1,if_neg hg,decide_eq_true hg,cyHT_eq]
   generalize goF (entN T) n m (l++[j])=c at *
   unfold cyH cyHT IO at hIH
   rw[cN_snoc,hll] at hIH
   generalize usV (l++[j])=sv at *
   generalize entN T j la=x at *
   unfold BOT at hx
   repeat' (first|((first|apply Ba|(apply Bb;(· rfl);(· rfl))|(apply Bc;(· exact nxE))|(apply Bd;(· rfl);(· rfl);(· exact nxE)));(· first|exact Ok.lenD rfl rfl htl|exact Ok.ld1 rfl rfl rfl hus|exact OpOk.nilCheck rfl rfl|exact Ok.append1 (row:=[DI (j:Nat)]) rfl rfl (by decide) rfl rfl hapl rfl rfl rfl (by rfl) (by omega) (by omega)|exact Ok.st1 rfl rfl rfl (by rw[boR_len];omega) (by rw[hus];rfl) rfl rfl hset1|exact OpOk.callB3a (b:=⟨0,[]⟩) (p:=⟨943,[]⟩) (q:=⟨2,[]⟩) (x':=.dead) rfl rfl hIH rfl rfl rfl (by decide) (by decide) (by decide) rfl (fun _=>rfl) (by simp[Go.Proofs.YtkpoclbnnpglfaaGreat.rn]) (.cons (AR.ptr _ _ _ _ (by simp)) (.cons (.dd _) .nil)) cyD_ar cyD_rn|exact Ok.pe))|((first|apply Ca|(apply Cb;(· exact nxE)));(· first|exact Ok.append1 (row:=[DI (j:Nat)]) rfl rfl (by decide) rfl rfl hapl rfl rfl rfl (by rfl) (by omega) (by omega)|exact Ok.st1 rfl rfl rfl (by rw[boR_len];omega) (by rw[hus];rfl) rfl rfl hset1|exact OpOk.callB3a (b:=⟨0,[]⟩) (p:=⟨943,[]⟩) (q:=⟨2,[]⟩) (x':=.dead) rfl rfl hIH rfl rfl rfl (by decide) (by decide) (by decide) rfl (fun _=>rfl) (by simp[Go.Proofs.YtkpoclbnnpglfaaGreat.rn]) (.cons (AR.ptr _ _ _ _ (by simp)) (.cons (.dd _) .nil)) cyD_ar cyD_rn|exact Ok.e0))|refine Sx ?_|(refine Sy (fun h=>?_) (fun h=>?_)<;>try (exfalso;omega;done))|refine Sz (fun h=>?_) (fun h=>?_))
   (refine end1p (by first|exact .inl rfl|exact .inr rfl) rfl (by first|exact rT rfl|exact rCA rfl rfl rfl rfl (by simp)|exact rCC rfl rfl rfl rfl rfl) ?_ (Le.head ([(⟨0,[]⟩,⟨0,[]⟩,⟨4,[[TL T,.clo (.func F) [] [],.own 1 ⟨3,[]⟩ 0 c.length,.dead]]⟩),(⟨3,[]⟩,⟨951,[3]⟩,IO (cN c))]) (by first|exact fun l h=>absurd h (hD l)|(intro l h;rcases hD l h with rfl;simp[tauL])|(intro l h;rcases hD l h with rfl|rfl<;>simp[tauL];done)|(intro l h;rcases hD l h with rfl|rfl|rfl<;>simp[tauL])) ?_ ?_ (by simp) (by simp) (by simp[AllP]) (n':=1000));(· rfl))<;>(repeat' (first|exact trivial|exact ARs.nil|refine ARs.cons ?_ ?_|exact AR.dead _|exact AR.dd _|exact AR.i (by (try dsimp only);omega)|exact AR.ptr _ _ _ _ (by simp[heapL,upd])|exact AR.own _ _ _ _ (by simp[heapL,upd])|refine AR.ownE _ _ _ ?_ (by simp[heapL,upd])|refine ⟨⟨_,rfl,?_⟩,?_⟩|exact ObA.data|refine ObA.box ?_|refine ObA.frE ?_|refine ObA.dataE ?_|refine ARs.agg ?_|refine ARs.tup ?_|exact AR.clo' ARs.nil ARs.nil|exact AR.clo' ARs.nil (hca _ _)))
end
section
open Go Go.RowKit
attribute [local irreducible] AL AD AW OpOk Le AC thenQ blockQ EndQ
theorem mixF_at [Mode] {f g:Nat→Nat→Int}{i j:Nat}:mixF f g i j i j=g i j:=by simp[mixF]
end
section
open Go Go.RowKit
attribute [local irreducible] AL AD AW OpOk Le AC thenQ blockQ EndQ
section
variable {P : Program} {o : Oper} {A : Operand → AV} {H : Heap} {new : Nat}
theorem Ok.ldTj [Mode] {t:TypeId}{a:Operand}{k nils i j n:Nat}{l:Loc}{f:Nat→Loc}{R:List (List (List D))}{r:List (List D)} (ho:o.op = .load t a) (ha:A a = .ptr 1 l j 0) [TyCell P t] (hl:H l=some (outer f k R nils)) (hr:R[i]? = some r) (hn:r.length=n) (hj:j=i):OpOk P o A [l] H new (.own k (f i) 0 n) []:=by
 subst hj
 exact Ok.ldTn ho (by rw[ha];simp) hl hr hn
end
theorem tabF_row2 [Mode] {m n:Nat}{f:Nat→Nat→Int}:∀ r∈tabF m n f,r.length=n:=tabF_rc.r
end
section
open Go Go.RowKit
attribute [local irreducible] AL AD AW OpOk Le AC thenQ blockQ EndQ
set_option maxHeartbeats 4000000 in
theorem firstCycle_ac [Mode] (T:List (List Int)) (n:Nat) (hT:Sq T n) (hn:n≤1000) (F:FuncId) [FnBody Tryz.prog F] (hW:∀ (l:List Int) (w:Int),AC Tryz.prog F [IL l,I w] H0 (Bo true) H0) :
  AC Tryz.prog 129 [TL T,.clo (.func F) [] []] H0 (if fstF (entN T) n=[] then nilS else own1 1 (fstF (entN T) n).length) (if fstF (entN T) n=[] then H0 else hp1 (IO (cN (fstF (entN T) n)))):=by
 have htl:(mRows 1 (TR T)).length=n:=by simp[hT.l]
 obtain ⟨G,hG⟩:∃ G,fstF (entN T) n=G:=⟨_,rfl⟩
 rw[hG]
 unfold fstF at hG
 generalize hFF:(fun v=>goF (entN T) n n [v])=Fv at hG
 have hFj0:∀ v,Fv v=goF (entN T) n n [v]:=fun v=>by rw[← hFF]
 clear hFF
 rw[show List.range' 0 n=List.range' 0 (n - 0) by simp] at hG
 refine AC.of_body 0 Tryz.func129 rfl (fun l h=>absurd rfl h) (fun C hC=>?_)
 have hD:∀ l,¬ C.D0 l:=fun l h=>(hC l).1 h rfl
 simp only[startFr,Tryz.ntmps129,List.length_cons,List.length_nil,Nat.reduceAdd,Nat.reduceSub,List.replicate_succ,List.replicate_zero,List.cons_append,List.nil_append]
 repeat' (first|((first|apply Ba|(apply Bb;(· rfl);(· rfl))|(apply Bc;(· exact nxE))|(apply Bd;(· rfl);(· rfl);(· exact nxE)));(· first|exact Ok.lenD rfl rfl htl|exact Ok.pe))|((first|apply Ca|(apply Cb;(· exact nxE)));(· first|exact Ok.e0))|refine Sx ?_|(refine Sy (fun h=>?_) (fun h=>?_)<;>try (exfalso;omega;done))|refine Sz (fun h=>?_) (fun h=>?_))
 refine AW.loop (X:={k:Nat // k≤n∧G=tryAll Fv (List.range' k (n - k))}) (fun k=>⟨[TL T,.clo (.func F) [] [],Oo,Oo,Oo,Oo,Oo,Oo,I n,I (k.1:Nat),Oo,Oo,Oo,Oo,Oo,Oo,Oo,Oo,Oo,Oo,Oo,Oo,Oo,Oo],heapL [],900⟩) (fun k=>n - k.1) ⟨0,Nat.zero_le _,hG.symm⟩ ?_ (fun k=>?_)
 ·
  (apply Le.headZ [] rfl)
  all_goals (try dsimp only[srcs])
  (case' hfr|hob=>(repeat' (first|refine La ?_ ?_|exact Lc|refine Lo ?_|refine ⟨⟨_,rfl,?_⟩,?_⟩|refine Lx ?_)))
  all_goals (first|(rfl)|exact Ld)
 obtain ⟨j,hj,hinv⟩:=k
 simp only
 by_cases hlt:j<n
 case neg=>
  have hG0:G=[]:=by rw[hinv,show n - j=0 by omega];rfl
  rw[if_pos hG0,if_pos hG0]
  repeat' (first|((first|apply Ba|(apply Bb;(· rfl);(· rfl))|(apply Bc;(· exact nxE))|(apply Bd;(· rfl);(· rfl);(· exact nxE)));(· first|exact Ok.pe))|((first|apply Ca|(apply Cb;(· exact nxE)));(· first|exact Ok.e0))|refine Sx ?_|(refine Sy (fun h=>?_) (fun h=>?_)<;>try (exfalso;omega;done))|refine Sz (fun h=>?_) (fun h=>?_))
  (refine end1p (by first|exact .inl rfl|exact .inr rfl) rfl (by first|exact rT rfl|exact rCA rfl rfl rfl rfl (by simp)|exact rCC rfl rfl rfl rfl rfl) ?_ (Le.head ([]) (by first|exact fun l h=>absurd h (hD l)|(intro l h;rcases hD l h with rfl;simp[tauL])|(intro l h;rcases hD l h with rfl|rfl<;>simp[tauL];done)|(intro l h;rcases hD l h with rfl|rfl|rfl<;>simp[tauL])) ?_ ?_ (by simp) (by simp) (by simp[AllP]) (n':=1000));(· rfl))<;>(repeat' (first|exact trivial|exact ARs.nil|refine ARs.cons ?_ ?_|exact AR.dead _|exact AR.dd _|exact AR.i (by (try dsimp only);omega)|exact AR.ptr _ _ _ _ (by simp[heapL,upd])|exact AR.own _ _ _ _ (by simp[heapL,upd])|refine AR.ownE _ _ _ ?_ (by simp[heapL,upd])|refine ⟨⟨_,rfl,?_⟩,?_⟩|exact ObA.data|refine ObA.box ?_|refine ObA.frE ?_|refine ObA.dataE ?_|refine ARs.agg ?_|refine ARs.tup ?_|exact AR.clo' ARs.nil ARs.nil|exact AR.clo' ARs.nil (hca _ _)))
 have hIH:=goOnM_ac T n hT hn F hW n [j] 0 ⟨by simp,by simp[hlt],by simp,by simp⟩ rfl
 have hus:usV [j]=fun _=>false:=by funext e;simp[usV]
 by_cases hg:goF (entN T) n n [j]=[]
 ·have hnx:G=tryAll Fv (List.range' (j+1) (n - (j+1))):=by rw[hinv,tryAll_no hlt (by rw[hFj0,hg])]
  rw[if_pos hg,hg,decide_eq_false (by simp)] at hIH
  unfold cyH cyHF IO at hIH
  rw[hus] at hIH
  repeat' (first|((first|apply Ba|(apply Bb;(· rfl);(· rfl))|(apply Bc;(· exact nxE))|(apply Bd;(· rfl);(· rfl);(· exact nxE)));(· first|exact Ok.lenD rfl rfl htl|exact OpOk.callB3a (b:=⟨911,[]⟩) (p:=⟨906,[]⟩) (q:=⟨909,[]⟩) (x':=.own 1 ⟨909,[]⟩ 0 n) rfl rfl hIH rfl rfl (congrArg some boR_0) (by decide) (by decide) (by decide) rfl (fun g=>congrArg some (rnO_dobj _ _ _)) (by simp[Go.Proofs.YtkpoclbnnpglfaaGreat.rn,emb,thr]) (.cons (AR.ptr _ _ _ _ (by simp)) (.cons (.dd _) .nil)) cyD_ar cyD_rn|exact Ok.pe))|((first|apply Ca|(apply Cb;(· exact nxE)));(· first|exact OpOk.callB3a (b:=⟨911,[]⟩) (p:=⟨906,[]⟩) (q:=⟨909,[]⟩) (x':=.own 1 ⟨909,[]⟩ 0 n) rfl rfl hIH rfl rfl (congrArg some boR_0) (by decide) (by decide) (by decide) rfl (fun g=>congrArg some (rnO_dobj _ _ _)) (by simp[Go.Proofs.YtkpoclbnnpglfaaGreat.rn,emb,thr]) (.cons (AR.ptr _ _ _ _ (by simp)) (.cons (.dd _) .nil)) cyD_ar cyD_rn|exact Ok.e0))|refine Sx ?_|(refine Sy (fun h=>?_) (fun h=>?_)<;>try (exfalso;omega;done))|refine Sz (fun h=>?_) (fun h=>?_))
  refine ⟨⟨j+1,by omega,hnx⟩,?_,by simp only;omega⟩
  (apply Le.headZ [] rfl)
  all_goals (try dsimp only[srcs])
  (case' hfr|hob=>(repeat' (first|refine La ?_ ?_|exact Lc|refine Lo ?_|refine ⟨⟨_,rfl,?_⟩,?_⟩|refine Lx ?_)))
  all_goals (first|(rfl)|exact Ld)
 ·have hG1:G=goF (entN T) n n [j]:=by rw[hinv,tryAll_yes hlt (by rw[hFj0];exact hg),hFj0]
  rw[if_neg hg,decide_eq_true hg] at hIH
  rw[hG1,if_neg hg,if_neg hg]
  generalize goF (entN T) n n [j]=c at *
  unfold cyH cyHT IO at hIH
  rw[hus] at hIH
  repeat' (first|((first|apply Ba|(apply Bb;(· rfl);(· rfl))|(apply Bc;(· exact nxE))|(apply Bd;(· rfl);(· rfl);(· exact nxE)));(· first|exact Ok.lenD rfl rfl htl|exact OpOk.callB3a (b:=⟨911,[]⟩) (p:=⟨906,[]⟩) (q:=⟨909,[]⟩) (x':=.dead) rfl rfl hIH rfl rfl (congrArg some boR_0) (by decide) (by decide) (by decide) rfl (fun _=>rfl) (by simp[Go.Proofs.YtkpoclbnnpglfaaGreat.rn]) (.cons (AR.ptr _ _ _ _ (by simp)) (.cons (.dd _) .nil)) cyD_ar cyD_rn|exact Ok.pe))|((first|apply Ca|(apply Cb;(· exact nxE)));(· first|exact OpOk.callB3a (b:=⟨911,[]⟩) (p:=⟨906,[]⟩) (q:=⟨909,[]⟩) (x':=.dead) rfl rfl hIH rfl rfl (congrArg some boR_0) (by decide) (by decide) (by decide) rfl (fun _=>rfl) (by simp[Go.Proofs.YtkpoclbnnpglfaaGreat.rn]) (.cons (AR.ptr _ _ _ _ (by simp)) (.cons (.dd _) .nil)) cyD_ar cyD_rn|exact Ok.e0))|refine Sx ?_|(refine Sy (fun h=>?_) (fun h=>?_)<;>try (exfalso;omega;done))|refine Sz (fun h=>?_) (fun h=>?_))
  refine Ya ?_
  (apply Le.head [(⟨0,[]⟩,_,_)])
  (case' hfr|hob=>(repeat' (first|refine La ?_ ?_|exact Lc|refine Lo ?_|refine ⟨⟨_,rfl,?_⟩,?_⟩|refine Lx ?_)))
  all_goals (first|exact Ld|(rfl))
end
section
open Go Go.RowKit
attribute [local irreducible] AL AD AW OpOk Le AC thenQ blockQ EndQ
def isVal (a:Int):Bool:=decide (a=BOT) || wi a (-1000000) 1000000
theorem isFinite_ac [Mode] (a:Int):AC Tryz.prog 107 [I a] H0 (Bo (wi a (-1000000) 1000000)) H0:=by
 have hI:=within_ac a (-1000000) 1000000
 refine AC.of_body 0 Tryz.func107 rfl (fun l h=>absurd rfl h) (fun C hC=>?_)
 have hD:∀ l,¬ C.D0 l:=fun l h=>(hC l).1 h rfl
 simp only[startFr,Tryz.ntmps107,List.length_cons,List.length_nil,Nat.reduceAdd,Nat.reduceSub,List.replicate_succ,List.replicate_zero,List.cons_append,List.nil_append]
 repeat' (first|((first|apply Ba|(apply Bb;(· rfl);(· rfl))|(apply Bc;(· exact nxE))|(apply Bd;(· rfl);(· rfl);(· exact nxE)));(· first|exact Kz rfl rfl (hI) (Ad (Ad (Ad An)))|exact Ok.pe))|((first|apply Ca|(apply Cb;(· exact nxE)));(· first|exact Ok.e0))|refine Sx ?_|(refine Sy (fun h=>?_) (fun h=>?_)<;>try (exfalso;omega;done))|refine Sz (fun h=>?_) (fun h=>?_))
 all_goals
  refine Ya ?_
  (apply Le.headZ (hs:=[]) [] rfl)
  all_goals (try dsimp only[srcs])
  (case' hfr=>(repeat' (first|refine La ?_ ?_|exact Lc|refine Lo ?_|refine ⟨⟨_,rfl,?_⟩,?_⟩|refine Lx ?_)))
  all_goals (first|exact Ld|exact trivial|(rfl))
theorem iIsValue_ac [Mode] (a:Int):AC Tryz.prog 88 [I a] H0 (Bo (isVal a)) H0:=by
 have hF:=isFinite_ac a
 unfold isVal BOT
 by_cases h:a=-1000000000000000
 ·rw[decide_eq_true h]
  subst h
  refine AC.of_body 0 Tryz.func88 rfl (fun l h=>absurd rfl h) (fun C hC=>?_)
  have hD:∀ l,¬ C.D0 l:=fun l h=>(hC l).1 h rfl
  simp only[startFr,Tryz.ntmps88,List.length_cons,List.length_nil,Nat.reduceAdd,Nat.reduceSub,List.replicate_succ,List.replicate_zero,List.cons_append,List.nil_append]
  repeat' (first|((first|apply Ba|(apply Bb;(· rfl);(· rfl))|(apply Bc;(· exact nxE))|(apply Bd;(· rfl);(· rfl);(· exact nxE)));(· first|exact Ok.pe))|((first|apply Ca|(apply Cb;(· exact nxE)));(· first|exact Ok.e0))|refine Sx ?_|(refine Sy (fun h=>?_) (fun h=>?_)<;>try (exfalso;omega;done))|refine Sz (fun h=>?_) (fun h=>?_))
  refine Ya ?_
  (apply Le.headZ (hs:=[]) [] rfl)
  all_goals (try dsimp only[srcs])
  (case' hfr=>(repeat' (first|refine La ?_ ?_|exact Lc|refine Lo ?_|refine ⟨⟨_,rfl,?_⟩,?_⟩|refine Lx ?_)))
  all_goals (first|exact Ld|exact trivial|(rfl))
 ·rw[decide_eq_false h]
  refine AC.of_body 0 Tryz.func88 rfl (fun l h=>absurd rfl h) (fun C hC=>?_)
  have hD:∀ l,¬ C.D0 l:=fun l h=>(hC l).1 h rfl
  simp only[startFr,Tryz.ntmps88,List.length_cons,List.length_nil,Nat.reduceAdd,Nat.reduceSub,List.replicate_succ,List.replicate_zero,List.cons_append,List.nil_append]
  repeat' (first|((first|apply Ba|(apply Bb;(· rfl);(· rfl))|(apply Bc;(· exact nxE))|(apply Bd;(· rfl);(· rfl);(· exact nxE)));(· first|exact Kz rfl rfl (hF) (Ad An)|exact Ok.pe))|((first|apply Ca|(apply Cb;(· exact nxE)));(· first|exact Ok.e0))|refine Sx ?_|(refine Sy (fun h=>?_) (fun h=>?_)<;>try (exfalso;omega;done))|refine Sz (fun h=>?_) (fun h=>?_))
  all_goals
   refine Ya ?_
   (apply Le.headZ (hs:=[]) [] rfl)
   all_goals (try dsimp only[srcs])
   (case' hfr=>(repeat' (first|refine La ?_ ?_|exact Lc|refine Lo ?_|refine ⟨⟨_,rfl,?_⟩,?_⟩|refine Lx ?_)))
   all_goals (first|exact Ld|exact trivial|(rfl))
theorem areFn_ac [Mode] (a:Int):AC Tryz.prog 87 [I a] H0 (Bo (!isVal a)) H0:=by
 have hF:=iIsValue_ac a
 refine AC.of_body 0 Tryz.func87 rfl (fun l h=>absurd rfl h) (fun C hC=>?_)
 have hD:∀ l,¬ C.D0 l:=fun l h=>(hC l).1 h rfl
 simp only[startFr,Tryz.ntmps87,List.length_cons,List.length_nil,Nat.reduceAdd,Nat.reduceSub,List.replicate_succ,List.replicate_zero,List.cons_append,List.nil_append]
 repeat' (first|((first|apply Ba|(apply Bb;(· rfl);(· rfl))|(apply Bc;(· exact nxE))|(apply Bd;(· rfl);(· rfl);(· exact nxE)));(· first|exact Kz rfl rfl (hF) (Ad An)|exact Ok.pe))|((first|apply Ca|(apply Cb;(· exact nxE)));(· first|exact Ok.e0))|refine Sx ?_|(refine Sy (fun h=>?_) (fun h=>?_)<;>try (exfalso;omega;done))|refine Sz (fun h=>?_) (fun h=>?_))
 refine Ya ?_
 (apply Le.headZ (hs:=[]) [] rfl)
 all_goals (try dsimp only[srcs])
 (case' hfr=>(repeat' (first|refine La ?_ ?_|exact Lc|refine Lo ?_|refine ⟨⟨_,rfl,?_⟩,?_⟩|refine Lx ?_)))
 all_goals (first|exact Ld|exact trivial|(rfl))
theorem l01Finite_ac [Mode] (a:Int):AC Tryz.prog 115 [I a] H0 (Bo (wi a (-1000000) 1000000)) H0:=by
 have hI:=l01In_ac a (-1000000) 1000000
 refine AC.of_body 0 Tryz.func115 rfl (fun l h=>absurd rfl h) (fun C hC=>?_)
 have hD:∀ l,¬ C.D0 l:=fun l h=>(hC l).1 h rfl
 simp only[startFr,Tryz.ntmps115,List.length_cons,List.length_nil,Nat.reduceAdd,Nat.reduceSub,List.replicate_succ,List.replicate_zero,List.cons_append,List.nil_append]
 repeat' (first|((first|apply Ba|(apply Bb;(· rfl);(· rfl))|(apply Bc;(· exact nxE))|(apply Bd;(· rfl);(· rfl);(· exact nxE)));(· first|exact Kz rfl rfl (hI) (Ad (Ad (Ad An)))|exact Ok.pe))|((first|apply Ca|(apply Cb;(· exact nxE)));(· first|exact Ok.e0))|refine Sx ?_|(refine Sy (fun h=>?_) (fun h=>?_)<;>try (exfalso;omega;done))|refine Sz (fun h=>?_) (fun h=>?_))
 refine Ya ?_
 (apply Le.headZ (hs:=[]) [] rfl)
 all_goals (try dsimp only[srcs])
 (case' hfr=>(repeat' (first|refine La ?_ ?_|exact Lc|refine Lo ?_|refine ⟨⟨_,rfl,?_⟩,?_⟩|refine Lx ?_)))
 all_goals (first|exact Ld|exact trivial|(rfl))
theorem sIsValue_ac [Mode] (a:Int):AC Tryz.prog 147 [I a] H0 (Bo (isVal a)) H0:=by
 have hF:=l01Finite_ac a
 unfold isVal BOT
 by_cases h:a=-1000000000000000
 ·rw[decide_eq_true h]
  subst h
  refine AC.of_body 0 Tryz.func147 rfl (fun l h=>absurd rfl h) (fun C hC=>?_)
  have hD:∀ l,¬ C.D0 l:=fun l h=>(hC l).1 h rfl
  simp only[startFr,Tryz.ntmps147,List.length_cons,List.length_nil,Nat.reduceAdd,Nat.reduceSub,List.replicate_succ,List.replicate_zero,List.cons_append,List.nil_append]
  repeat' (first|((first|apply Ba|(apply Bb;(· rfl);(· rfl))|(apply Bc;(· exact nxE))|(apply Bd;(· rfl);(· rfl);(· exact nxE)));(· first|exact Ok.pe))|((first|apply Ca|(apply Cb;(· exact nxE)));(· first|exact Ok.e0))|refine Sx ?_|(refine Sy (fun h=>?_) (fun h=>?_)<;>try (exfalso;omega;done))|refine Sz (fun h=>?_) (fun h=>?_))
  refine Ya ?_
  (apply Le.headZ (hs:=[]) [] rfl)
  all_goals (try dsimp only[srcs])
  (case' hfr=>(repeat' (first|refine La ?_ ?_|exact Lc|refine Lo ?_|refine ⟨⟨_,rfl,?_⟩,?_⟩|refine Lx ?_)))
  all_goals (first|exact Ld|exact trivial|(rfl))
 ·rw[decide_eq_false h]
  refine AC.of_body 0 Tryz.func147 rfl (fun l h=>absurd rfl h) (fun C hC=>?_)
  have hD:∀ l,¬ C.D0 l:=fun l h=>(hC l).1 h rfl
  simp only[startFr,Tryz.ntmps147,List.length_cons,List.length_nil,Nat.reduceAdd,Nat.reduceSub,List.replicate_succ,List.replicate_zero,List.cons_append,List.nil_append]
  repeat' (first|((first|apply Ba|(apply Bb;(· rfl);(· rfl))|(apply Bc;(· exact nxE))|(apply Bd;(· rfl);(· rfl);(· exact nxE)));(· first|exact Kz rfl rfl (hF) (Ad An)|exact Ok.pe))|((first|apply Ca|(apply Cb;(· exact nxE)));(· first|exact Ok.e0))|refine Sx ?_|(refine Sy (fun h=>?_) (fun h=>?_)<;>try (exfalso;omega;done))|refine Sz (fun h=>?_) (fun h=>?_))
  all_goals
   refine Ya ?_
   (apply Le.headZ (hs:=[]) [] rfl)
   all_goals (try dsimp only[srcs])
   (case' hfr=>(repeat' (first|refine La ?_ ?_|exact Lc|refine Lo ?_|refine ⟨⟨_,rfl,?_⟩,?_⟩|refine Lx ?_)))
   all_goals (first|exact Ld|exact trivial|(rfl))
theorem Ce [Mode] {H:Heap}{lent:List Loc}{cs vs:List AV}{g:FuncId} (h:CA H lent cs vs):CA H lent (.clo (.func g) [] [] :: cs) (.clo (.func g) [] [] :: vs):=ARs.cons (AR.clo' ARs.nil ARs.nil) h
set_option maxHeartbeats 1000000 in
theorem indexFuncI_ac [Mode] (xs:List Int) (hn:xs.length≤100000000) (g:FuncId) [FnBody Tryz.prog g] (pred:Int→Bool) (hg:∀ x∈xs,AC Tryz.prog g [I x] H0 (Bo (pred x)) H0):AC Tryz.prog 137 [IL xs,.clo (.func g) [] []] H0 (I (idxOf pred xs 0)) H0:=by
 refine AC.of_body 0 Tryz.func137 rfl (fun l h=>absurd rfl h) (fun C hC=>?_)
 have hD:∀ l,¬ C.D0 l:=fun l h=>(hC l).1 h rfl
 simp only[startFr,Tryz.ntmps137,List.length_cons,List.length_nil,Nat.reduceAdd,Nat.reduceSub,List.replicate_succ,List.replicate_zero,List.cons_append,List.nil_append]
 repeat' (first|((first|apply Ba|(apply Bb;(· rfl);(· rfl))|(apply Bc;(· exact nxE))|(apply Bd;(· rfl);(· rfl);(· exact nxE)));(· first|exact Ok.pe))|((first|apply Ca|(apply Cb;(· exact nxE)));(· first|exact Ok.e0))|refine Sx ?_|(refine Sy (fun h=>?_) (fun h=>?_)<;>try (exfalso;omega;done))|refine Sz (fun h=>?_) (fun h=>?_))
 refine AW.loop (X:={k:Nat // k≤xs.length∧idxOf pred xs 0=idxOf pred (xs.drop k) k}) (fun k=>⟨[IL xs,.clo (.func g) [] [],Oo,Oo,Oo,Oo,Oo,I xs.length,I (k.1:Nat),Oo,Oo,Oo,Oo,Oo,Oo,Oo,Oo,Oo,Oo],heapL [],900⟩) (fun k=>xs.length - k.1) ⟨0,Nat.zero_le _,by simp⟩ ?_ (fun k=>?_)
 ·
  (apply Le.headZ [] rfl)
  all_goals (try dsimp only[srcs])
  (case' hfr|hob=>(repeat' (first|refine La ?_ ?_|exact Lc|refine Lo ?_|refine ⟨⟨_,rfl,?_⟩,?_⟩|refine Lx ?_)))
  all_goals (first|(rfl)|exact Ld)
 obtain ⟨k,hk,hall⟩:=k
 simp only
 by_cases hlt:k<xs.length
 ·obtain ⟨x,hx⟩:∃ x,xs[k]? = some x:=⟨xs[k],by simp⟩
  have hrow:=IR_get hx
  have hgx:=hg x (List.mem_of_getElem? hx)
  have hst:=idxOf_at (f:=pred) hx k
  rw[← hall] at hst
  generalize pred x=px at *
  cases px
  ·rw[if_neg (by simp)] at hst
   repeat' (first|((first|apply Ba|(apply Bb;(· rfl);(· rfl))|(apply Bc;(· exact nxE))|(apply Bd;(· rfl);(· rfl);(· exact nxE)));(· first|exact Kz rfl rfl hgx (Ad An)|exact Ok.pe))|((first|apply Ca|(apply Cb;(· exact nxE)));(· first|exact Ok.e0))|refine Sx ?_|(refine Sy (fun h=>?_) (fun h=>?_)<;>try (exfalso;omega;done))|refine Sz (fun h=>?_) (fun h=>?_))
   refine ⟨⟨k+1,by omega,hst⟩,?_,by simp only;omega⟩
   (apply Le.headZ [] rfl)
   all_goals (try dsimp only[srcs])
   (case' hfr|hob=>(repeat' (first|refine La ?_ ?_|exact Lc|refine Lo ?_|refine ⟨⟨_,rfl,?_⟩,?_⟩|refine Lx ?_)))
   all_goals (first|(rfl)|exact Ld)
  ·rw[if_pos rfl] at hst
   rw[hst]
   repeat' (first|((first|apply Ba|(apply Bb;(· rfl);(· rfl))|(apply Bc;(· exact nxE))|(apply Bd;(· rfl);(· rfl);(· exact nxE)));(· first|exact Kz rfl rfl hgx (Ad An)|exact Ok.pe))|((first|apply Ca|(apply Cb;(· exact nxE)));(· first|exact Ok.e0))|refine Sx ?_|(refine Sy (fun h=>?_) (fun h=>?_)<;>try (exfalso;omega;done))|refine Sz (fun h=>?_) (fun h=>?_))
   refine Ya ?_
   (apply Le.headZ (hs:=[]) [] rfl)
   all_goals (try dsimp only[srcs])
   (case' hfr=>(repeat' (first|refine La ?_ ?_|exact Lc|refine Lo ?_|refine ⟨⟨_,rfl,?_⟩,?_⟩|refine Lx ?_)))
   all_goals (first|exact Ld|exact trivial|(rfl))
 ·have hk':k=xs.length:=by omega
  rw[hk',List.drop_length] at hall
  rw[hall]
  repeat' (first|((first|apply Ba|(apply Bb;(· rfl);(· rfl))|(apply Bc;(· exact nxE))|(apply Bd;(· rfl);(· rfl);(· exact nxE)));(· first|exact Ok.pe))|((first|apply Ca|(apply Cb;(· exact nxE)));(· first|exact Ok.e0))|refine Sx ?_|(refine Sy (fun h=>?_) (fun h=>?_)<;>try (exfalso;omega;done))|refine Sz (fun h=>?_) (fun h=>?_))
  refine Ya ?_
  (apply Le.headZ (hs:=[]) [] rfl)
  all_goals (try dsimp only[srcs])
  (case' hfr=>(repeat' (first|refine La ?_ ?_|exact Lc|refine Lo ?_|refine ⟨⟨_,rfl,?_⟩,?_⟩|refine Lx ?_)))
  all_goals (first|exact Ld|exact trivial|(rfl))
theorem containsFuncI_ac [Mode] (xs:List Int) (hn:xs.length≤100000000) (g:FuncId) [FnBody Tryz.prog g] (pred:Int→Bool) (hg:∀ x∈xs,AC Tryz.prog g [I x] H0 (Bo (pred x)) H0):AC Tryz.prog 86 [IL xs,.clo (.func g) [] []] H0 (Bo (xs.any pred)) H0:=by
 have hI:=indexFuncI_ac xs hn g pred hg
 rw[← idxOf_any]
 refine AC.of_body 0 Tryz.func86 rfl (fun l h=>absurd rfl h) (fun C hC=>?_)
 have hD:∀ l,¬ C.D0 l:=fun l h=>(hC l).1 h rfl
 simp only[startFr,Tryz.ntmps86,List.length_cons,List.length_nil,Nat.reduceAdd,Nat.reduceSub,List.replicate_succ,List.replicate_zero,List.cons_append,List.nil_append]
 repeat' (first|((first|apply Ba|(apply Bb;(· rfl);(· rfl))|(apply Bc;(· exact nxE))|(apply Bd;(· rfl);(· rfl);(· exact nxE)));(· first|exact Ez rfl rfl hI (Sd (Ce Sn))|exact Ok.pe))|((first|apply Ca|(apply Cb;(· exact nxE)));(· first|exact Ok.e0))|refine Sx ?_|(refine Sy (fun h=>?_) (fun h=>?_)<;>try (exfalso;omega;done))|refine Sz (fun h=>?_) (fun h=>?_))
 refine Ya ?_
 (apply Le.headZ (hs:=[]) [] rfl)
 all_goals (try dsimp only[srcs])
 (case' hfr=>(repeat' (first|refine La ?_ ?_|exact Lc|refine Lo ?_|refine ⟨⟨_,rfl,?_⟩,?_⟩|refine Lx ?_)))
 all_goals (first|exact Ld|exact trivial|(rfl))
theorem areValues_ac [Mode] (xs:List Int) (hn:xs.length≤100000000):AC Tryz.prog 35 [IL xs] H0 (Bo (xs.all isVal)) H0:=by
 have hQ:=containsFuncI_ac xs hn 87 (fun a=>!isVal a) (fun x _=>areFn_ac x)
 rw[show xs.all isVal = !(xs.any fun a=>!isVal a) by rw[List.all_eq_not_any_not]]
 refine AC.of_body 0 Tryz.func35 rfl (fun l h=>absurd rfl h) (fun C hC=>?_)
 have hD:∀ l,¬ C.D0 l:=fun l h=>(hC l).1 h rfl
 simp only[startFr,Tryz.ntmps35,List.length_cons,List.length_nil,Nat.reduceAdd,Nat.reduceSub,List.replicate_succ,List.replicate_zero,List.cons_append,List.nil_append]
 repeat' (first|((first|apply Ba|(apply Bb;(· rfl);(· rfl))|(apply Bc;(· exact nxE))|(apply Bd;(· rfl);(· rfl);(· exact nxE)));(· first|exact Ez rfl rfl hQ (Sd (Ce Sn))|exact Ok.pe))|((first|apply Ca|(apply Cb;(· exact nxE)));(· first|exact Ok.e0))|refine Sx ?_|(refine Sy (fun h=>?_) (fun h=>?_)<;>try (exfalso;omega;done))|refine Sz (fun h=>?_) (fun h=>?_))
 refine Ya ?_
 (apply Le.headZ (hs:=[]) [] rfl)
 all_goals (try dsimp only[srcs])
 (case' hfr=>(repeat' (first|refine La ?_ ?_|exact Lc|refine Lo ?_|refine ⟨⟨_,rfl,?_⟩,?_⟩|refine Lx ?_)))
 all_goals (first|exact Ld|exact trivial|(rfl))
end
end Go.Proofs.YtkpoclbnnpglfaaGreat
