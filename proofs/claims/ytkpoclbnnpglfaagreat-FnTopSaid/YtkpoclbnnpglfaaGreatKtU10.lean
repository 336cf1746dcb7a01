/-
  Walks in the abstract reading, part 10.
-/
import Derived.Test.YtkpoclbnnpglfaaGreatKtU9
import Derived.Test.YtkpoclbnnpglfaaGreatKtA3
import Derived.Test.YtkpoclbnnpglfaaGreatKtU8
import Derived.Test.YtkpoclbnnpglfaaGreatKtU5
import Derived.Test.YtkpoclbnnpglfaaGreatKtU7
set_option linter.unusedSimpArgs false
set_option linter.unusedVariables false
namespace Go.Proofs.YtkpoclbnnpglfaaGreat
section
open Go Go.RowKit
attribute [local irreducible] AL AD AW OpOk Le AC thenQ blockQ EndQ
def boR (n:Nat) (g:Nat→Bool):List (List D):=(List.range n).map fun e=>[D.v (.bool (g e))]
theorem boR_len [Mode] {n:Nat}{g:Nat→Bool}:(boR n g).length=n:=by simp[boR]
theorem boR_get [Mode] {n e:Nat}{g:Nat→Bool} (h:e<n):(boR n g)[e]? = some [D.v (.bool (g e))]:=by simp[boR,h]
theorem boR_congr [Mode] {n:Nat}{f g:Nat→Bool} (h:∀ j,j<n→f j=g j):boR n f=boR n g:=List.map_congr_left fun j hj=>by rw[h j (List.mem_range.1 hj)]
theorem boR_set [Mode] {n j:Nat}{g:Nat→Bool}{v:Bool}:(boR n g).set j [D.v (.bool v)]=boR n (fun b=>if b=j then v else g b):=by
 unfold boR
 apply List.ext_getElem?
 intro i
 rw[List.getElem?_set]
 by_cases hi:i<n
 ·by_cases e:j=i
  ·subst e;simp[hi]
  ·simp[hi,e,Ne.symm e]
 ·by_cases e:j=i
  ·subst e;simp[hi]
  ·simp[hi,e]
theorem boR_0 [Mode] {n:Nat}:dobj 1 (List.replicate n [D.v (.bool false)])=dobj 1 (boR n fun _=>false):=by
 unfold boR;simp[List.map_const']
theorem tryAll_no [Mode] {α:Type}{F:Nat→List α}{j m:Nat} (h:j<m) (h0:F j=[]):tryAll F (List.range' j (m - j))=tryAll F (List.range' (j+1) (m - (j+1))):=by
 rw[range'_cons h,tryAll,if_neg (by rw[h0];simp)]
theorem tryAll_yes [Mode] {α:Type}{F:Nat→List α}{j m:Nat} (h:j<m) (h0:F j≠[]):tryAll F (List.range' j (m - j))=F j:=by
 rw[range'_cons h,tryAll,if_pos h0]
abbrev sdD (ev:Int) (xs:List Pl) (cr:Nat→Bool):List D:=[DI ev,.sl 4 (xs.map Pl.row),.sl 1 (boR xs.length cr)]
abbrev seenV (xs:List Pl) (l:List Nat):Nat→Bool:=fun e=>visB xs l (e:Int)
abbrev goH (ev:Int) (n:Nat) (xs:List Pl) (cr:Nat→Bool) (l:List Nat):Heap:=
 upd (upd (upd H0 ⟨2,[]⟩ (some (dobj 1 (boR n (seenV xs l))))) ⟨1,[]⟩ (some (IO (cN l)))) ⟨0,[]⟩ (some ⟨5,[(sdD ev xs cr).map .d++[.own 1 ⟨1,[]⟩ 0 l.length,.own 1 ⟨2,[]⟩ 0 n]]⟩)
abbrev goHF (ev:Int) (n:Nat) (xs:List Pl) (cr:Nat→Bool) (l:List Nat):Heap:=
 upd (upd (upd H0 ⟨2,[]⟩ (some (dobj 1 (boR n (seenV xs l))))) ⟨3,[]⟩ (some (IO (cN l)))) ⟨0,[]⟩ (some ⟨5,[(sdD ev xs cr).map .d++[.own 1 ⟨3,[]⟩ 0 l.length,.own 1 ⟨2,[]⟩ 0 n]]⟩)
abbrev goHT (ev:Int) (xs:List Pl) (cr:Nat→Bool) (l:List Nat):Heap:=
 upd (upd (upd H0 ⟨2,[]⟩ none) ⟨3,[]⟩ (some (IO (cN l)))) ⟨0,[]⟩ (some ⟨5,[(sdD ev xs cr).map .d++[.own 1 ⟨3,[]⟩ 0 l.length,.dead]]⟩)
theorem goHT_eq [Mode] {ev:Int}{xs:List Pl}{cr:Nat→Bool}{l:List Nat}:goHT ev xs cr l=heapL [(⟨0,[]⟩,⟨0,[]⟩,⟨5,[[I ev,PL xs,.d (.sl 1 (boR xs.length cr)),.own 1 ⟨3,[]⟩ 0 l.length,.dead]]⟩),(⟨3,[]⟩,⟨3,[]⟩,IO (cN l))]:=by
 have e:upd H0 ⟨2,[]⟩ none=H0:=by funext l;simp[upd]
 unfold goHT;rw[e];rfl
theorem visB_snoc [Mode] {xs:List Pl}{l:List Nat}{i:Nat}{e:Int}:visB xs (l++[i]) e=(visB xs l e || (decide ((plA xs i).f=e) || decide ((plA xs i).t=e))):=by
 simp[visB]
theorem visB_last [Mode] {xs:List Pl}{l:List Nat} (h:l≠[]):visB xs l (lastT xs l)=true:=by
 unfold visB
 rw[List.any_eq_true]
 refine ⟨lsN l,?_,by simp[lastT]⟩
 unfold lsN
 rw[List.getLastD_eq_getLast?,List.getLast?_eq_some_getLast h]
 exact List.getLast_mem _
set_option maxHeartbeats 8000000 in
theorem goOn_ac [Mode] (n:Nat) (xs:List Pl) (cr:Nat→Bool) (hn:n≤10) (hx:xs.length≤1000) (hv:∀ p∈xs,okPl n p):∀ (k:Nat) (l:List Nat),PathC xs l→lastT xs l≠firstF xs l→k+l.length=n+1→
  AC Tryz.prog 89 [Bx 5 0,I (firstF xs l),I (lastT xs l)] (goH n n xs cr l) (Bo (decide (goC xs cr k l≠[]))) (if goC xs cr k l=[] then goHF n n xs cr l else goHT n xs cr (goC xs cr k l)):=by
 intro m
 induction m with
 | zero=>
  intro l hp _ hk
  have:=hp.len (n:=n) hv
  omega
 | succ m ih=>
  intro l hp hne hk
  have hln:=hp.len (n:=n) hv
  have hvl:=visB_last (xs:=xs) hp.ne
  obtain ⟨G,hG⟩:∃ G,goC xs cr (m+1) l=G:=⟨_,rfl⟩
  rw[hG]
  unfold goC at hG
  generalize hF:(fun i=>if cr i=false∨skipC xs l i then [] else if (plA xs i).t=firstF xs l then l++[i] else goC xs cr m (l++[i]))=F at hG
  have hrg:List.range' 0 xs.length=List.range' 0 (xs.length - 0):=by simp
  rw[hrg] at hG
  generalize hfi:firstF xs l=fi at *
  generalize hla:lastT xs l=la at *
  refine AC.of_body 3 Tryz.func89 rfl (fun l h=>by simp[upd] at h;(repeat' split at h)<;>simp_all) (fun C hC=>?_)
  simp only[startFr,Tryz.ntmps89,List.length_cons,List.length_nil,Nat.reduceAdd,Nat.reduceSub,List.replicate_succ,List.replicate_zero,List.cons_append,List.nil_append]
  have hD:∀ l,C.D0 l→l=⟨0,[]⟩∨l=⟨1,[]⟩∨l=⟨2,[]⟩:=fun l h=>by have:=(hC l).1 h;simp[upd] at this;(repeat' split at this)<;>simp_all
  repeat' (first|((first|apply Ba|(apply Bb;(· rfl);(· rfl))|(apply Bc;(· exact nxE))|(apply Bd;(· rfl);(· rfl);(· exact nxE)));(· first|exact OpOk.nilCheck rfl rfl|exact Ok.pe))|((first|apply Ca|(apply Cb;(· exact nxE)));(· first|exact Ok.e0))|refine Sx ?_|(refine Sy (fun h=>?_) (fun h=>?_)<;>try (exfalso;omega;done))|refine Sz (fun h=>?_) (fun h=>?_))
  refine AW.loop (X:={k:Nat // k≤xs.length∧G=tryAll F (List.range' k (xs.length - k))}) (fun k=>⟨[Bx 5 0,I fi,I la,Oo,Oo,Oo,Oo,Oo,Oo,Oo,Oo,Oo,Oo,PL xs,I xs.length,I (k.1:Nat),Oo,Oo,Oo,Oo,Oo,Oo,Oo,Oo,Oo,Oo,Oo,Oo,Oo,Oo,Oo,Oo,Oo,Oo,Oo,Oo,Oo,Oo,Oo,Oo,Oo,Oo,Oo,Oo,Oo,Oo,Oo,Oo,Oo,Oo,Oo,Oo,Oo,Oo,Oo,Oo,Oo,Oo,Oo,Oo,Oo,Oo,Oo,Oo,Oo,Oo,Oo,Oo,Oo,Oo,Oo,Oo,Oo,Oo,Oo,Oo,Oo,Oo,Oo,Oo,Oo,Oo,Oo,Oo,Oo,Oo,Oo,Oo,Oo,Oo,Oo,Oo,Oo,Oo,Oo,Oo,Oo,Oo,Oo,Oo,Oo,Oo,Oo,Oo],heapL [(⟨0,[]⟩,⟨0,[]⟩,⟨5,[[I n,PL xs,.d (.sl 1 (boR xs.length cr)),.own 1 ⟨3,[]⟩ 0 l.length,.own 1 ⟨2,[]⟩ 0 n]]⟩),(⟨3,[]⟩,⟨3,[]⟩,IO (cN l)),(⟨2,[]⟩,⟨2,[]⟩,dobj 1 (boR n (seenV xs l)))],900⟩) (fun k=>xs.length - k.1) ⟨0,Nat.zero_le _,hG.symm⟩ ?_ (fun k=>?_)
  ·
   (apply Le.headZ [_,_,_] rfl)
   all_goals (try dsimp only[srcs])
   (case' hfr|hob=>(repeat' (first|refine La ?_ ?_|exact Lc|refine Lo ?_|refine ⟨⟨_,rfl,?_⟩,?_⟩|refine Lx ?_)))
   all_goals (first|(rfl)|exact Ld)
  obtain ⟨j,hj,hinv⟩:=k
  simp only
  have hpl:(dobj 1 (IR (cN l))).rows.length=l.length:=by simp[dobj]
  by_cases hlt:j<xs.length
  case neg=>
   obtain rfl:j=xs.length:=by omega
   rw[Nat.sub_self] at hinv
   have hG0:G=[]:=by rw[hinv];rfl
   rw[hG0]
   rw[if_pos rfl,decide_eq_false (by simp)]
   repeat' (first|((first|apply Ba|(apply Bb;(· rfl);(· rfl))|(apply Bc;(· exact nxE))|(apply Bd;(· rfl);(· rfl);(· exact nxE)));(· first|exact OpOk.nilCheck rfl rfl|exact Ok.pe))|((first|apply Ca|(apply Cb;(· exact nxE)));(· first|exact Ok.e0))|refine Sx ?_|(refine Sy (fun h=>?_) (fun h=>?_)<;>try (exfalso;omega;done))|refine Sz (fun h=>?_) (fun h=>?_))
   (refine end1p (by first|exact .inl rfl|exact .inr rfl) rfl (by first|exact rT rfl|exact rCA rfl rfl rfl rfl (by simp)|exact rCC rfl rfl rfl rfl rfl) ?_ (Le.head ([(⟨0,[]⟩,⟨0,[]⟩,⟨5,[[I n,PL xs,.d (.sl 1 (boR xs.length cr)),.own 1 ⟨3,[]⟩ 0 l.length,.own 1 ⟨2,[]⟩ 0 n]]⟩),(⟨3,[]⟩,⟨3,[]⟩,IO (cN l)),(⟨2,[]⟩,⟨2,[]⟩,dobj 1 (boR n (seenV xs l)))]) (by first|exact fun l h=>absurd h (hD l)|(intro l h;rcases hD l h with rfl;simp[tauL])|(intro l h;rcases hD l h with rfl|rfl<;>simp[tauL];done)|(intro l h;rcases hD l h with rfl|rfl|rfl<;>simp[tauL])) ?_ ?_ (by simp) (by simp) (by simp[AllP]) (n':=1000));(· rfl))<;>(repeat' (first|exact trivial|exact ARs.nil|refine ARs.cons ?_ ?_|exact AR.dead _|exact AR.dd _|exact AR.i (by (try dsimp only);omega)|exact AR.ptr _ _ _ _ (by simp[heapL,upd])|exact AR.own _ _ _ _ (by simp[heapL,upd])|refine AR.ownE _ _ _ ?_ (by simp[heapL,upd])|refine ⟨⟨_,rfl,?_⟩,?_⟩|exact ObA.data|refine ObA.box ?_|refine ObA.frE ?_|refine ObA.dataE ?_|refine ARs.agg ?_|refine ARs.tup ?_|exact AR.clo' ARs.nil ARs.nil|exact AR.clo' ARs.nil (hca _ _)))
  have hrow:=pl_row (n:=0) hlt
  have hcr:=boR_get (g:=cr) hlt
  obtain ⟨⟨g1,g2⟩,⟨g3,g4⟩,_⟩:=okPl_at hv j hlt
  have hFj:F j=if cr j=false∨skipC xs l j then [] else if (plA xs j).t=fi then l++[j] else goC xs cr m (l++[j]):=by rw[← hF]
  have hsk:skipC xs l j↔((plA xs j).f≠la∨(plA xs j).t<fi∨((plA xs j).t≠fi∧visB xs l (plA xs j).t=true)):=by unfold skipC;rw[hfi,hla]
  have hsn:PathC xs (l++[j])∨skipC xs l j:=by
   by_cases h:skipC xs l j
   ·exact .inr h
   ·exact .inl (hp.snoc hlt (by rw[hla,hfi];exact hne) h)
  have hvs:∀ e,visB xs (l++[j]) e=(visB xs l e || (decide ((plA xs j).f=e) || decide ((plA xs j).t=e))):=fun e=>visB_snoc
  have hih:=fun h1 h2 h3=>ih (l++[j]) h1 h2 h3
  rw[firstF_snoc hp.ne,lastT_snoc,hfi] at hih
  generalize plA xs j=p at *
  obtain ⟨pf,pt,pd,pk⟩:=p
  obtain ⟨a,rfl⟩:∃ f:Nat,pf=f:=⟨pf.toNat,by simp at g1;omega⟩
  obtain ⟨t,rfl⟩:∃ t:Nat,pt=t:=⟨pt.toNat,by simp at g3;omega⟩
  simp only at hrow g2 g4 hFj hsk hvs hih
  have hseen:=boR_get (g:=seenV xs l) (show t<n by omega)
  have hskipEnd:F j=[]→G=tryAll F (List.range' (j+1) (xs.length - (j+1))):=fun h=>by rw[hinv,tryAll_no hlt h]
  by_cases hskip:cr j=false∨skipC xs l j
  ·have hnx:=hskipEnd (by rw[hFj,if_pos hskip])
   rcases Bool.eq_false_or_eq_true (cr j) with hc1|hc1
   ·have h2:=hsk.1 (hskip.resolve_left (by rw[hc1];decide))
    rw[hc1] at hcr
    rcases Bool.eq_false_or_eq_true (visB xs l (t:Int)) with hv1|hv1
    ·rw[show seenV xs l t=true from hv1] at hseen
     have h3:(a:Int)≠la∨(t:Int)<fi∨(t:Int)≠fi:=by rcases h2 with h|h|h;exact .inl h;exact .inr (.inl h);exact .inr (.inr h.1)
     clear h2
     repeat' (first|((first|apply Ba|(apply Bb;(· rfl);(· rfl))|(apply Bc;(· exact nxE))|(apply Bd;(· rfl);(· rfl);(· exact nxE)));(· first|exact Ok.ld1 rfl rfl rfl hseen|exact OpOk.nilCheck rfl rfl|exact Ok.pe))|((first|apply Ca|(apply Cb;(· exact nxE)));(· first|exact Ok.e0))|refine Sx ?_|(refine Sy (fun h=>?_) (fun h=>?_)<;>try (exfalso;omega;done))|refine Sz (fun h=>?_) (fun h=>?_))
     all_goals
      refine ⟨⟨j+1,by omega,hnx⟩,?_,by simp only;omega⟩
      (apply Le.headZ [_,_,_] rfl)
      all_goals (try dsimp only[srcs])
      (case' hfr|hob=>(repeat' (first|refine La ?_ ?_|exact Lc|refine Lo ?_|refine ⟨⟨_,rfl,?_⟩,?_⟩|refine Lx ?_)))
      all_goals (first|(rfl)|exact Ld)
    ·rw[show seenV xs l t=false from hv1] at hseen
     have h3:(a:Int)≠la∨(t:Int)<fi:=by rcases h2 with h|h|h;exact .inl h;exact .inr h;rw[hv1] at h;cases h.2
     clear h2
     repeat' (first|((first|apply Ba|(apply Bb;(· rfl);(· rfl))|(apply Bc;(· exact nxE))|(apply Bd;(· rfl);(· rfl);(· exact nxE)));(· first|exact Ok.ld1 rfl rfl rfl hseen|exact OpOk.nilCheck rfl rfl|exact Ok.pe))|((first|apply Ca|(apply Cb;(· exact nxE)));(· first|exact Ok.e0))|refine Sx ?_|(refine Sy (fun h=>?_) (fun h=>?_)<;>try (exfalso;omega;done))|refine Sz (fun h=>?_) (fun h=>?_))
     all_goals
      refine ⟨⟨j+1,by omega,hnx⟩,?_,by simp only;omega⟩
      (apply Le.headZ [_,_,_] rfl)
      all_goals (try dsimp only[srcs])
      (case' hfr|hob=>(repeat' (first|refine La ?_ ?_|exact Lc|refine Lo ?_|refine ⟨⟨_,rfl,?_⟩,?_⟩|refine Lx ?_)))
      all_goals (first|(rfl)|exact Ld)
   ·rw[hc1] at hcr
    repeat' (first|((first|apply Ba|(apply Bb;(· rfl);(· rfl))|(apply Bc;(· exact nxE))|(apply Bd;(· rfl);(· rfl);(· exact nxE)));(· first|exact OpOk.nilCheck rfl rfl|exact Ok.pe))|((first|apply Ca|(apply Cb;(· exact nxE)));(· first|exact Ok.e0))|refine Sx ?_|(refine Sy (fun h=>?_) (fun h=>?_)<;>try (exfalso;omega;done))|refine Sz (fun h=>?_) (fun h=>?_))
    refine ⟨⟨j+1,by omega,hnx⟩,?_,by simp only;omega⟩
    (apply Le.headZ [_,_,_] rfl)
    all_goals (try dsimp only[srcs])
    (case' hfr|hob=>(repeat' (first|refine La ?_ ?_|exact Lc|refine Lo ?_|refine ⟨⟨_,rfl,?_⟩,?_⟩|refine Lx ?_)))
    all_goals (first|(rfl)|exact Ld)
  ·have hc1:cr j=true:=by
    rcases Bool.eq_false_or_eq_true (cr j) with h|h
    ·exact h
    ·exact absurd (.inl h) hskip
   have hns:¬ skipC xs l j:=fun h=>hskip (.inr h)
   rw[hc1] at hcr
   rw[if_neg hskip] at hFj
   have hp2:=hsn.resolve_right hns
   have hal:(a:Int)=la:=Classical.byContradiction fun h=>hns (hsk.2 (.inl h))
   have htf:¬ (t:Int)<fi:=fun h=>hns (hsk.2 (.inr (.inl h)))
   have hapl:(IR (cN l)).length=l.length:=by simp
   by_cases hcl:(t:Int)=fi
   ·rw[if_pos hcl] at hFj
    have hG1:G=l++[j]:=by rw[hinv,tryAll_yes hlt (by rw[hFj];simp),hFj]
    rw[hG1,if_neg (by simp),decide_eq_true (by simp),goHT_eq,show (l++[j]).length=l.length+1 by simp,show IO (cN (l++[j]))=dobj 1 (IR (cN l)++[[DI (j:Nat)]]) by rw[← cN_snoc]]
    repeat' (first|((first|apply Ba|(apply Bb;(· rfl);(· rfl))|(apply Bc;(· exact nxE))|(apply Bd;(· rfl);(· rfl);(· exact nxE)));(· first|exact OpOk.nilCheck rfl rfl|exact Ok.append1 (row:=[DI (j:Nat)]) rfl rfl (by decide) rfl rfl hapl rfl rfl rfl (by rfl) (by omega) (by omega)|exact Ok.pe))|((first|apply Ca|(apply Cb;(· exact nxE)));(· first|exact Ok.append1 (row:=[DI (j:Nat)]) rfl rfl (by decide) rfl rfl hapl rfl rfl rfl (by rfl) (by omega) (by omega)|exact Ok.e0))|refine Sx ?_|(refine Sy (fun h=>?_) (fun h=>?_)<;>try (exfalso;omega;done))|refine Sz (fun h=>?_) (fun h=>?_))
    (refine end1p (by first|exact .inl rfl|exact .inr rfl) rfl (by first|exact rT rfl|exact rCA rfl rfl rfl rfl (by simp)|exact rCC rfl rfl rfl rfl rfl) ?_ (Le.head ([(⟨0,[]⟩,⟨0,[]⟩,⟨5,[[I n,PL xs,.d (.sl 1 (boR xs.length cr)),.own 1 ⟨3,[]⟩ 0 (l.length+1),.dead]]⟩),(⟨3,[]⟩,⟨950,[]⟩,dobj 1 (IR (cN l)++[[DI (j:Nat)]]))]) (by first|exact fun l h=>absurd h (hD l)|(intro l h;rcases hD l h with rfl;simp[tauL])|(intro l h;rcases hD l h with rfl|rfl<;>simp[tauL];done)|(intro l h;rcases hD l h with rfl|rfl|rfl<;>simp[tauL])) ?_ ?_ (by simp) (by simp) (by simp[AllP]) (n':=1000));(· rfl))<;>(repeat' (first|exact trivial|exact ARs.nil|refine ARs.cons ?_ ?_|exact AR.dead _|exact AR.dd _|exact AR.i (by (try dsimp only);omega)|exact AR.ptr _ _ _ _ (by simp[heapL,upd])|exact AR.own _ _ _ _ (by simp[heapL,upd])|refine AR.ownE _ _ _ ?_ (by simp[heapL,upd])|refine ⟨⟨_,rfl,?_⟩,?_⟩|exact ObA.data|refine ObA.box ?_|refine ObA.frE ?_|refine ObA.dataE ?_|refine ARs.agg ?_|refine ARs.tup ?_|exact AR.clo' ARs.nil ARs.nil|exact AR.clo' ARs.nil (hca _ _)))
   ·rw[if_neg hcl] at hFj
    have hvis:visB xs l (t:Int)=false:=by
     rcases Bool.eq_false_or_eq_true (visB xs l (t:Int)) with h|h
     ·exact absurd (hsk.2 (.inr (.inr ⟨hcl,h⟩))) hns
     ·exact h
    rw[show seenV xs l t=false from hvis] at hseen
    have hIH:=hih hp2 hcl (by simp;omega)
    have hva:visB xs l (a:Int)=true:=by rw[hal];exact hvl
    have hset1:(boR n (seenV xs l)).set t [D.v (.bool true)]=boR n (seenV xs (l++[j])):=by
     rw[boR_set]
     refine boR_congr fun e _=>?_
     simp only[seenV,hvs]
     by_cases e1:e=t
     ·subst e1;simp
     ·rw[if_neg e1]
      by_cases e2:a=e
      ·subst e2;rw[hva];rfl
      ·rw[decide_eq_false (by omega),decide_eq_false (by omega)];simp
    have hget2:=boR_get (g:=seenV xs (l++[j])) (show t<n by omega)
    have hset2:(boR n (seenV xs (l++[j]))).set t [D.v (.bool false)]=boR n (seenV xs l):=by
     rw[boR_set]
     refine boR_congr fun e _=>?_
     simp only[seenV,hvs]
     by_cases e1:e=t
     ·subst e1;rw[if_pos rfl,hvis]
     ·rw[if_neg e1]
      by_cases e2:a=e
      ·subst e2;rw[hva];rfl
      ·rw[decide_eq_false (by omega),decide_eq_false (by omega)];simp
    have hll:(l++[j]).length=l.length+1:=by simp
    by_cases hg:goC xs cr m (l++[j])=[]
    ·have hnx:=hskipEnd (by rw[hFj,hg])
     rw[if_pos hg,hg,decide_eq_false (by simp)] at hIH
     unfold goH goHF IO at hIH
     rw[cN_snoc,hll] at hIH
     generalize seenV xs (l++[j])=sv at *
     repeat' (first|((first|apply Ba|(apply Bb;(· rfl);(· rfl))|(apply Bc;(· exact nxE))|(apply Bd;(· rfl);(· rfl);(· exact nxE)));(· first|exact Ok.ld1 rfl rfl rfl hseen|exact Ok.sliceToO rfl rfl rfl (by omega) rfl (by omega)|exact OpOk.nilCheck rfl rfl|exact Ok.append1 (row:=[DI (j:Nat)]) rfl rfl (by decide) rfl rfl hapl rfl rfl rfl (by rfl) (by omega) (by omega)|exact Ok.st1 rfl rfl rfl (by rw[boR_len];omega) (by rw[hseen];rfl) rfl rfl hset1|exact Ok.st1 rfl rfl rfl (by rw[boR_len];omega) (by rw[hget2];rfl) rfl rfl hset2|exact OpOk.callB3 (b:=⟨0,[]⟩) (p:=⟨950,[]⟩) (q:=⟨2,[]⟩) (x':=.own 1 ⟨2,[]⟩ 0 n) rfl rfl hIH rfl rfl rfl (by decide) (by decide) (by decide) rfl (fun g=>congrArg some (rnO_dobj _ _ _)) (by simp[Go.Proofs.YtkpoclbnnpglfaaGreat.rn,emb,thr]) (.cons (AR.ptr _ _ _ _ (by simp)) (.cons (.dd _) (.cons (.dd _) .nil)))|exact Ok.storeC rfl rfl rfl rfl rfl (by simp;done) (by conv=>lhs;whnf) (by rfl) (by rfl) rfl|exact Ok.pe))|((first|apply Ca|(apply Cb;(· exact nxE)));(· first|exact Ok.append1 (row:=[DI (j:Nat)]) rfl rfl (by decide) rfl rfl hapl rfl rfl rfl (by rfl) (by omega) (by omega)|exact Ok.st1 rfl rfl rfl (by rw[boR_len];omega) (by rw[hseen];rfl) rfl rfl hset1|exact Ok.st1 rfl rfl rfl (by rw[boR_len];omega) (by rw[hget2];rfl) rfl rfl hset2|exact OpOk.callB3 (b:=⟨0,[]⟩) (p:=⟨950,[]⟩) (q:=⟨2,[]⟩) (x':=.own 1 ⟨2,[]⟩ 0 n) rfl rfl hIH rfl rfl rfl (by decide) (by decide) (by decide) rfl (fun g=>congrArg some (rnO_dobj _ _ _)) (by simp[Go.Proofs.YtkpoclbnnpglfaaGreat.rn,emb,thr]) (.cons (AR.ptr _ _ _ _ (by simp)) (.cons (.dd _) (.cons (.dd _) .nil)))|exact Ok.storeC rfl rfl rfl rfl rfl (by simp;done) (by conv=>lhs;whnf) (by rfl) (by rfl) rfl|exact Ok.e0))|refine Sx ?_|(refine Sy (fun h=>?_) (fun h=>?_)<;>try (exfalso;omega;done))|refine Sz (fun h=>?_) (fun h=>?_))
     refine ⟨⟨j+1,by omega,hnx⟩,?_,by simp only;omega⟩
     refine (Le.takeL ⟨970,[3]⟩ l.length rfl).trans ?_
     (apply Le.headZ [_,_,_] rfl)
     all_goals (try dsimp only[srcs])
     (case' hfr|hob=>(repeat' (first|refine La ?_ ?_|exact Lc|refine Lo ?_|refine ⟨⟨_,rfl,?_⟩,?_⟩|refine Lx ?_)))
     all_goals (first|((first|rfl|(simp[dobj];done)))|exact Ld)
    ·have hG1:G=goC xs cr m (l++[j]):=by rw[hinv,tryAll_yes hlt (by rw[hFj];exact hg),hFj]
     rw[if_neg hg,decide_eq_true hg] at hIH
     rw[hG1,if_neg hg,decide_eq_true hg,goHT_eq]
     generalize goC xs cr m (l++[j])=c at *
     unfold goH goHT IO at hIH
     rw[cN_snoc,hll] at hIH
     generalize seenV xs (l++[j])=sv at *
     repeat' (first|((first|apply Ba|(apply Bb;(· rfl);(· rfl))|(apply Bc;(· exact nxE))|(apply Bd;(· rfl);(· rfl);(· exact nxE)));(· first|exact Ok.ld1 rfl rfl rfl hseen|exact OpOk.nilCheck rfl rfl|exact Ok.append1 (row:=[DI (j:Nat)]) rfl rfl (by decide) rfl rfl hapl rfl rfl rfl (by rfl) (by omega) (by omega)|exact Ok.st1 rfl rfl rfl (by rw[boR_len];omega) (by rw[hseen];rfl) rfl rfl hset1|exact OpOk.callB3 (b:=⟨0,[]⟩) (p:=⟨950,[]⟩) (q:=⟨2,[]⟩) (x':=.dead) rfl rfl hIH rfl rfl rfl (by decide) (by decide) (by decide) rfl (fun _=>rfl) (by simp[Go.Proofs.YtkpoclbnnpglfaaGreat.rn]) (.cons (AR.ptr _ _ _ _ (by simp)) (.cons (.dd _) (.cons (.dd _) .nil)))|exact Ok.pe))|((first|apply Ca|(apply Cb;(· exact nxE)));(· first|exact Ok.append1 (row:=[DI (j:Nat)]) rfl rfl (by decide) rfl rfl hapl rfl rfl rfl (by rfl) (by omega) (by omega)|exact Ok.st1 rfl rfl rfl (by rw[boR_len];omega) (by rw[hseen];rfl) rfl rfl hset1|exact OpOk.callB3 (b:=⟨0,[]⟩) (p:=⟨950,[]⟩) (q:=⟨2,[]⟩) (x':=.dead) rfl rfl hIH rfl rfl rfl (by decide) (by decide) (by decide) rfl (fun _=>rfl) (by simp[Go.Proofs.YtkpoclbnnpglfaaGreat.rn]) (.cons (AR.ptr _ _ _ _ (by simp)) (.cons (.dd _) (.cons (.dd _) .nil)))|exact Ok.e0))|refine Sx ?_|(refine Sy (fun h=>?_) (fun h=>?_)<;>try (exfalso;omega;done))|refine Sz (fun h=>?_) (fun h=>?_))
     (refine end1p (by first|exact .inl rfl|exact .inr rfl) rfl (by first|exact rT rfl|exact rCA rfl rfl rfl rfl (by simp)|exact rCC rfl rfl rfl rfl rfl) ?_ (Le.head ([(⟨0,[]⟩,⟨0,[]⟩,⟨5,[[I n,PL xs,.d (.sl 1 (boR xs.length cr)),.own 1 ⟨3,[]⟩ 0 c.length,.dead]]⟩),(⟨3,[]⟩,⟨970,[3]⟩,IO (cN c))]) (by first|exact fun l h=>absurd h (hD l)|(intro l h;rcases hD l h with rfl;simp[tauL])|(intro l h;rcases hD l h with rfl|rfl<;>simp[tauL];done)|(intro l h;rcases hD l h with rfl|rfl|rfl<;>simp[tauL])) ?_ ?_ (by simp) (by simp) (by simp[AllP]) (n':=1000));(· rfl))<;>(repeat' (first|exact trivial|exact ARs.nil|refine ARs.cons ?_ ?_|exact AR.dead _|exact AR.dd _|exact AR.i (by (try dsimp only);omega)|exact AR.ptr _ _ _ _ (by simp[heapL,upd])|exact AR.own _ _ _ _ (by simp[heapL,upd])|refine AR.ownE _ _ _ ?_ (by simp[heapL,upd])|refine ⟨⟨_,rfl,?_⟩,?_⟩|exact ObA.data|refine ObA.box ?_|refine ObA.frE ?_|refine ObA.dataE ?_|refine ARs.agg ?_|refine ARs.tup ?_|exact AR.clo' ARs.nil ARs.nil|exact AR.clo' ARs.nil (hca _ _)))
end
section
open Go Go.RowKit
attribute [local irreducible] AL AD AW OpOk Le AC thenQ blockQ EndQ
section
variable {P : Program} {o : Oper} {A : Operand → AV} {H : Heap} {new : Nat}
end
structure PathN (n:Nat) (l:List Nat):Prop where
 ne:l≠[]
 lt:∀ v∈l,v<n
 nd:l.Nodup
 tl:∀ v∈l.tail,hdN l<v
theorem PathN.snoc [Mode] {n:Nat}{l:List Nat} (h:PathN n l) {v:Nat} (hv:v<n) (h0:hdN l<v) (hm:v∉l):PathN n (l++[v]):=by
 refine ⟨by simp,fun x hx=>?_,?_,fun x hx=>?_⟩
 ·rcases List.mem_append.1 hx with hx|hx
  ·exact h.lt x hx
  ·simp at hx;omega
 ·rw[List.nodup_append]
  exact ⟨h.nd,by simp,fun x hx y hy e=>by simp at hy;subst hy;subst e;exact hm hx⟩
 ·rw[hdN_app h.ne]
  rw[List.tail_append_of_ne_nil h.ne] at hx
  rcases List.mem_append.1 hx with hx|hx
  ·exact h.tl x hx
  ·simp at hx;omega
theorem PathN.mem [Mode] {n:Nat}{l:List Nat} (h:PathN n l) {v:Nat} (h0:hdN l<v):v∈l↔v∈l.tail:=by
 cases l with
 | nil=>exact absurd rfl h.ne
 | cons x l=>
  have e:hdN (x :: l)=x:=rfl
  rw[e] at h0
  simp only[List.tail_cons,List.mem_cons]
  exact ⟨fun h=>h.resolve_left (by omega),.inr⟩
end
section
open Go Go.RowKit
attribute [local irreducible] AL AD AW OpOk Le AC thenQ blockQ EndQ
end
section
def kP (W:Nat→Nat→Int):Nat→List Nat→Prop
 | _,[]=>True
 | u,v :: l=>W v u≠BOT∧kP W v l
def kW (W:Nat→Nat→Int):Nat→List Nat→Int
 | _,[]=>0
 | u,v :: l=>W v u+kW W v l
def kE:Nat→List Nat→Nat
 | u,[]=>u
 | _,v :: l=>kE v l
theorem kE_app:∀ (a b:List Nat) (u:Nat),kE u (a++b)=kE (kE u a) b
 | [],_,_=>rfl
 | v :: a,b,u=>kE_app a b v
theorem kP_app {W:Nat→Nat→Int}:∀ (a b:List Nat) (u:Nat),kP W u (a++b)↔kP W u a∧kP W (kE u a) b
 | [],b,u=>by simp[kP,kE]
 | v :: a,b,u=>by
  simp only[List.cons_append,kP,kE,kP_app a b v,and_assoc]
theorem kW_app {W:Nat→Nat→Int}:∀ (a b:List Nat) (u:Nat),kW W u (a++b)=kW W u a+kW W (kE u a) b
 | [],b,u=>by simp[kW,kE]
 | v :: a,b,u=>by
  simp only[List.cons_append,kW,kE,kW_app a b v];omega
theorem kE_lt {n:Nat}:∀ {l:List Nat}{u:Nat},u<n→(∀ x∈l,x<n)→kE u l<n
 | [],_,hu,_=>hu
 | v :: l,_,_,hl=>kE_lt (l:=l) (u:=v) (hl v (by simp)) fun x hx=>hl x (by simp[hx])
def kV (W:Nat→Nat→Int) (p q:Int) (u:Nat) (l:List Nat):Int:=q*kW W u l - p*l.length
structure KMean (W:Nat→Nat→Int) (n:Nat) (p q:Int):Prop where
 pos:0<q
 le:∀ u l,u<n→(∀ x∈l,x<n)→kP W u l→kE u l=u→kV W p q u l≤0
 eq:∃ u l,u<n∧(∀ x∈l,x<n)∧l≠[]∧kP W u l∧kE u l=u∧kV W p q u l=0
section
variable {W : Nat → Nat → Int} {n : Nat} {M : Int} (hM : 0 ≤ M) (hW : ∀ u v, W v u ≠ BOT → -M ≤ W v u ∧ W v u ≤ M)
include hM hW
omit hM hW in
omit hM hW in
omit hM hW in
omit hM hW in
omit hM hW in
end
end
section
structure CyW (a:Nat→Nat→Int) (n:Nat) (over:Int) (f:Nat) (r:List Nat):Prop where
 lt:f<n
 gt:∀ x∈r,f<x∧x<n
 nd:(f :: r).Nodup
 path:kP a f r
 close:a f (kE f r)≠BOT
 more:over<kW a f r+a f (kE f r)
theorem CyW.len {a:Nat→Nat→Int}{n:Nat}{over:Int}{f:Nat}{r:List Nat} (h:CyW a n over f r):r.length+1≤n:=by
 have:=nodup_le n (f :: r) h.nd (fun x hx=>by
  rcases List.mem_cons.1 hx with rfl|hx
  ·exact h.lt
  ·exact (h.gt x hx).2)
 simpa using this
section
variable {W : Nat → Nat → Int} {n : Nat} {p q : Int} (hs : ∀ u v, W v u ≠ BOT → q * W v u - p ≠ BOT)
include hs
omit hs in
end
end
section
structure KStar (W:Nat→Nat→Int) (n:Nat) (s:Nat→Nat→Int):Prop where
 at':∀ u v,u<n→v<n→s v u=BOT∨∃ l,(∀ x∈l,x<n)∧kP W u l∧kE u l=v∧kW W u l=s v u
 ge:∀ u l,u<n→(∀ x∈l,x<n)→kP W u l→s (kE u l) u≠BOT∧kW W u l≤s (kE u l) u
 np:∀ u l,u<n→(∀ x∈l,x<n)→kP W u l→kE u l=u→kW W u l≤0
def crit (W s:Nat→Nat→Int) (v u:Nat):Prop:=W v u≠BOT∧s u v≠BOT∧W v u+s u v=0
def kC (W s:Nat→Nat→Int):Nat→List Nat→Prop
 | _,[]=>True
 | u,v :: l=>crit W s v u∧kC W s v l
theorem kC_path {W s:Nat→Nat→Int}:∀ {l:List Nat}{u:Nat},kC W s u l→kP W u l
 | [],_,_=>trivial
 | _ :: _,_,h=>⟨h.1.1,kC_path h.2⟩
section
variable {W s : Nat → Nat → Int} {n : Nat} (h : KStar W n s)
include h
theorem KStar.super {u m v:Nat} (hu:u<n) (hm:m<n) (hv:v<n) (h1:s m u≠BOT) (h2:s v m≠BOT):s v u≠BOT∧s m u+s v m≤s v u:=by
 rcases h.at' u m hu hm with e|⟨a,a1,a2,a3,a4⟩
 ·exact absurd e h1
 ·rcases h.at' m v hm hv with e|⟨b,b1,b2,b3,b4⟩
  ·exact absurd e h2
  ·have:=h.ge u (a++b) hu (fun x hx=>by
    rcases List.mem_append.1 hx with hx|hx
    ·exact a1 x hx
    ·exact b1 x hx) ((kP_app a b u).2 ⟨a2,by rw[a3];exact b2⟩)
   rw[kE_app,a3,b3,kW_app,a3,a4,b4] at this
   exact this
theorem KStar.dia {u:Nat} (hu:u<n):s u u≠BOT∧s u u=0:=by
 have h1:=h.ge u [] hu (by simp) trivial
 simp only[kE,kW] at h1
 refine ⟨h1.1,?_⟩
 rcases h.at' u u hu hu with e|⟨l,l1,l2,l3,l4⟩
 ·exact absurd e h1.1
 ·have:=h.np u l hu l1 l2 l3
  omega
theorem KStar.back:∀ {l:List Nat}{u:Nat},u<n→(∀ x∈l,x<n)→kC W s u l→s u (kE u l)≠BOT∧- kW W u l≤s u (kE u l)
 | [],u,hu,_,_=>by
  have:=h.dia hu
  simp only[kE,kW]
  exact ⟨this.1,by omega⟩
 | v :: l,u,hu,hl,hc=>by
  have hv:=hl v (by simp)
  have hl':∀ x∈l,x<n:=fun x hx=>hl x (by simp[hx])
  obtain ⟨g1,g2⟩:=KStar.back (l:=l) hv hl' hc.2
  have h3:=h.super (kE_lt hv hl') hv hu g1 hc.1.2.1
  have:=hc.1.2.2
  simp only[kE,kW]
  exact ⟨h3.1,by omega⟩
theorem KStar.zero {u:Nat}{l:List Nat} (hu:u<n) (hl:∀ x∈l,x<n) (hc:kC W s u l) (he:kE u l=u):kW W u l=0:=by
 have h1:=(h.back hu hl hc).2
 rw[he,(h.dia hu).2] at h1
 have:=h.np u l hu hl (kC_path hc) he
 omega
theorem KStar.arc {v u:Nat} (hu:u<n) (hv:v<n) (ha:W v u≠BOT) (hs:s u v≠BOT):W v u+s u v≤0:=by
 rcases h.at' v u hv hu with e|⟨l,l1,l2,l3,l4⟩
 ·exact absurd e hs
 ·have:=h.np u (v :: l) hu (fun x hx=>by
   rcases List.mem_cons.1 hx with rfl|hx
   ·exact hv
   ·exact l1 x hx) ⟨ha,l2⟩ l3
  simp only[kW] at this
  omega
theorem KStar.crit:∀ {b a:List Nat}{u:Nat},u<n→(∀ x∈a++b,x<n)→kP W u (a++b)→kE u (a++b)=u→kW W u (a++b)=0→kC W s (kE u a) b
 | [],_,_,_,_,_,_,_=>trivial
 | v :: b,a,u,hu,hl,hp,he,hw=>by
  have hv:=hl v (by simp)
  have ha:∀ x∈a,x<n:=fun x hx=>hl x (by simp[hx])
  have hb:∀ x∈b,x<n:=fun x hx=>hl x (by simp[hx])
  have hp2:=(kP_app a (v :: b) u).1 hp
  have he2:=he
  have hw2:=hw
  rw[kE_app] at he2
  rw[kW_app] at hw2
  simp only[kE] at he2
  simp only[kW] at hw2
  have hm:=kE_lt hu ha
  have hge:=h.ge v (b++a) hv (fun x hx=>by
   rcases List.mem_append.1 hx with hx|hx
   ·exact hb x hx
   ·exact ha x hx) ((kP_app b a v).2 ⟨hp2.2.2,by rw[he2];exact hp2.1⟩)
  rw[kE_app,he2,kW_app,he2] at hge
  have harc:=h.arc hm hv hp2.2.1 hge.1
  refine ⟨⟨hp2.2.1,hge.1,by omega⟩,?_⟩
  have e:a++v :: b=(a++[v])++b:=by simp
  have:=KStar.crit (b:=b) (a:=a++[v]) hu (by rw[← e];exact hl) (by rw[← e];exact hp) (by rw[← e];exact he) (by rw[← e];exact hw)
  rw[kE_app] at this
  exact this
end
section
variable {W s C : Nat → Nat → Int} {n : Nat} (h : KStar W n s) (hC : ∀ u v, u < n → v < n → (C v u ≠ BOT ↔ crit W s v u))
include h
include hC
end
end
section
open Go Go.RowKit
attribute [local irreducible] AL AD AW OpOk Le AC thenQ blockQ EndQ
def smallR (a:Int × Int):Prop:=(0≤a.1∧a.1≤1000000)∧(0≤a.2∧a.2≤1000000)
theorem smallR.mul [Mode] {a b:Int × Int} (h:smallR a) (k:smallR b):(0≤a.1*b.2∧a.1*b.2≤1000000000000)∧(0≤b.1*a.2∧b.1*a.2≤1000000000000):=
 ⟨mul_in h.1 k.2,mul_in k.1 h.2⟩
end
section
open Go Go.RowKit
attribute [local irreducible] AL AD AW OpOk Le AC thenQ blockQ EndQ
theorem absOfZ_ac [Mode] (a:Int) (ha : -1000000000000000000≤a∧a≤1000000000000000000):AC Tryz.prog 106 [I a] H0 (I (a.natAbs:Nat)) H0:=by
 by_cases h:a<0
 ·rw[show ((a.natAbs:Nat):Int)=-a by omega]
  refine AC.of_body 0 Tryz.func106 rfl (fun l h=>absurd rfl h) (fun C hC=>?_)
  have hD:∀ l,¬ C.D0 l:=fun l h=>(hC l).1 h rfl
  simp only[startFr,Tryz.ntmps106,List.length_cons,List.length_nil,Nat.reduceAdd,Nat.reduceSub,List.replicate_succ,List.replicate_zero,List.cons_append,List.nil_append]
  repeat' (first|((first|apply Ba|(apply Bb;(· rfl);(· rfl))|(apply Bc;(· exact nxE))|(apply Bd;(· rfl);(· rfl);(· exact nxE)));(· first|exact Ok.pe))|((first|apply Ca|(apply Cb;(· exact nxE)));(· first|exact Ok.e0))|refine Sx ?_|(refine Sy (fun h=>?_) (fun h=>?_)<;>try (exfalso;omega;done))|refine Sz (fun h=>?_) (fun h=>?_))
  refine Ya ?_
  (apply Le.headZ (hs:=[]) [] rfl)
  all_goals (try dsimp only[srcs])
  (case' hfr=>(repeat' (first|refine La ?_ ?_|exact Lc|refine Lo ?_|refine ⟨⟨_,rfl,?_⟩,?_⟩|refine Lx ?_)))
  all_goals (first|exact Ld|exact trivial|(rfl))
 ·rw[show ((a.natAbs:Nat):Int)=a by omega]
  refine AC.of_body 0 Tryz.func106 rfl (fun l h=>absurd rfl h) (fun C hC=>?_)
  have hD:∀ l,¬ C.D0 l:=fun l h=>(hC l).1 h rfl
  simp only[startFr,Tryz.ntmps106,List.length_cons,List.length_nil,Nat.reduceAdd,Nat.reduceSub,List.replicate_succ,List.replicate_zero,List.cons_append,List.nil_append]
  repeat' (first|((first|apply Ba|(apply Bb;(· rfl);(· rfl))|(apply Bc;(· exact nxE))|(apply Bd;(· rfl);(· rfl);(· exact nxE)));(· first|exact Ok.pe))|((first|apply Ca|(apply Cb;(· exact nxE)));(· first|exact Ok.e0))|refine Sx ?_|(refine Sy (fun h=>?_) (fun h=>?_)<;>try (exfalso;omega;done))|refine Sz (fun h=>?_) (fun h=>?_))
  refine Ya ?_
  (apply Le.headZ (hs:=[]) [] rfl)
  all_goals (try dsimp only[srcs])
  (case' hfr=>(repeat' (first|refine La ?_ ?_|exact Lc|refine Lo ?_|refine ⟨⟨_,rfl,?_⟩,?_⟩|refine Lx ?_)))
  all_goals (first|exact Ld|exact trivial|(rfl))
theorem redR_divZ [Mode] {d m:Int} (hm:0<m):d.tdiv ((Nat.gcd d.natAbs m.toNat:Nat):Int)=(redR d m).1∧m.tdiv ((Nat.gcd d.natAbs m.toNat:Nat):Int)=(redR d m).2∧0<((Nat.gcd d.natAbs m.toNat:Nat):Int):=by
 have e:Nat.gcd d.natAbs m.toNat=Int.gcd d m:=by
  unfold Int.gcd
  congr 1;omega
 rw[e]
 exact ⟨Int.tdiv_eq_ediv_of_dvd (Int.gcd_dvd_left ..),Int.tdiv_eq_ediv_of_dvd (Int.gcd_dvd_right ..),(redR_ok (d:=d) hm).2.2.2.2⟩
theorem ratioOfZ_ac [Mode] (d m:Int) (hd : -1000000000000000≤d∧d≤1000000000000000) (hm:0<m∧m≤1000000000000000):AC Tryz.prog 49 [I d,I m] H0 (.agg [I (redR d m).1,I (redR d m).2]) H0:=by
 obtain ⟨e1,e2,e3⟩:=redR_divZ (d:=d) hm.1
 have hG:=divisorOf_ac d.natAbs m.toNat (by omega) (by omega)
 rw[Int.toNat_of_nonneg (Int.le_of_lt hm.1)] at hG
 have hA:=absOfZ_ac d (by omega)
 rw[← e1,← e2]
 generalize ((Nat.gcd d.natAbs m.toNat:Nat):Int)=g at *
 generalize ((d.natAbs:Nat):Int)=z at *
 refine AC.of_body 0 Tryz.func49 rfl (fun l h=>absurd rfl h) (fun C hC=>?_)
 have hD:∀ l,¬ C.D0 l:=fun l h=>(hC l).1 h rfl
 simp only[startFr,Tryz.ntmps49,List.length_cons,List.length_nil,Nat.reduceAdd,Nat.reduceSub,List.replicate_succ,List.replicate_zero,List.cons_append,List.nil_append]
 repeat' (first|((first|apply Ba|(apply Bb;(· rfl);(· rfl))|(apply Bc;(· exact nxE))|(apply Bd;(· rfl);(· rfl);(· exact nxE)));(· first|exact Kz rfl rfl (hA) (Ad An)|exact Kz rfl rfl (hG) (Ad (Ad An))|exact Ok.quo rfl rfl rfl (by omega) (by omega) (by omega)|exact Ok.pe))|((first|apply Ca|(apply Cb;(· exact nxE)));(· first|exact Ok.e0))|refine Sx ?_|(refine Sy (fun h=>?_) (fun h=>?_)<;>try (exfalso;omega;done))|refine Sz (fun h=>?_) (fun h=>?_))
 (refine end1p (by first|exact .inl rfl|exact .inr rfl) rfl (by first|exact rT rfl|exact rCA rfl rfl rfl rfl (by simp)|exact rCC rfl rfl rfl rfl rfl) ?_ (Le.head ([]) (by first|exact fun l h=>absurd h (hD l)|(intro l h;rcases hD l h with rfl;simp[tauL])|(intro l h;rcases hD l h with rfl|rfl<;>simp[tauL];done)|(intro l h;rcases hD l h with rfl|rfl|rfl<;>simp[tauL])) ?_ ?_ (by simp) (by simp) (by simp[AllP]) (n':=1000));(· rfl))<;>(repeat' (first|exact trivial|exact ARs.nil|refine ARs.cons ?_ ?_|exact AR.dead _|exact AR.dd _|exact AR.i (by (try dsimp only);omega)|exact AR.ptr _ _ _ _ (by simp[heapL,upd])|exact AR.own _ _ _ _ (by simp[heapL,upd])|refine AR.ownE _ _ _ ?_ (by simp[heapL,upd])|refine ⟨⟨_,rfl,?_⟩,?_⟩|exact ObA.data|refine ObA.box ?_|refine ObA.frE ?_|refine ObA.dataE ?_|refine ARs.agg ?_|refine ARs.tup ?_|exact AR.clo' ARs.nil ARs.nil|exact AR.clo' ARs.nil (hca _ _)))
end
section
open Go Go.RowKit
structure LsOk (D:Nat→Nat→Int) (n v K:Nat) (l:Int × Int):Prop where
 pos:0<l.2
 red:Int.gcd l.1 l.2=1
 at':∃ k,k<K∧D k v≠BOT∧l=redR (D n v - D k v) ((n:Int) - k)
 le:∀ k,k<K→D k v≠BOT→l.1*((n:Int) - k)≤(D n v - D k v)*l.2
end
section
open Go Go.RowKit
structure MatOk (t:List (List Int)) (n:Nat):Prop where
 sq:Sq t n
 pos:1≤n
 le:n≤10
 b:∀ u v,entN t v u≠BOT→-1000000≤entN t v u∧entN t v u≤1000000
theorem mulB {q w Q M:Int} (h1:0≤q) (h2:q≤Q) (h3 : -M≤w) (h4:w≤M) (hM:0≤M) : -(Q*M)≤q*w∧q*w≤Q*M:=by
 have a1:=Int.mul_le_mul_of_nonneg_left h4 h1
 have a2:=Int.mul_le_mul_of_nonneg_left h3 h1
 have a3:=Int.mul_le_mul_of_nonneg_right h2 hM
 rw[Int.mul_neg] at a2
 omega
section
variable {W : Nat → Nat → Int} {n : Nat} (hW : ∀ u v, W v u ≠ BOT → -1000000 ≤ W v u ∧ W v u ≤ 1000000) (hn : n ≤ 10)
include hW hn
omit hn in
omit hn in
end
end
section
open Go Go.RowKit
attribute [local irreducible] AL AD AW OpOk Le AC thenQ blockQ EndQ
theorem isVal_iff [Mode] {a:Int}:isVal a=true↔a=BOT∨(-1000000≤a∧a≤1000000):=by
 unfold isVal
 rw[Bool.or_eq_true,decide_eq_true_eq,wi_iff]
abbrev hs1 (x:D):HL:=[(⟨0,[]⟩,⟨0,[]⟩,⟨1,[[.d x]]⟩)]
end
section
open Go Go.RowKit
attribute [local irreducible] AL AD AW OpOk Le AC thenQ blockQ EndQ
end
section
open Go Go.RowKit
attribute [local irreducible] AL AD AW OpOk Le AC thenQ blockQ EndQ
abbrev mixB (g:Nat→Bool) (K:Nat):Nat→Bool:=fun b=>if b<K then g b else false
theorem mixB_0 [Mode] {g:Nat→Bool}{n:Nat}:dobj 1 (List.replicate n [D.v (.bool false)])=dobj 1 (boR n (mixB g 0)):=by
 rw[boR_0];congr 1
theorem mixB_set [Mode] {g:Nat→Bool}{n K:Nat}{v:Bool} (h:g K=v):(boR n (mixB g K)).set K [D.v (.bool v)]=boR n (mixB g (K+1)):=by
 rw[boR_set]
 refine boR_congr fun b _=>?_
 by_cases e:b=K
 ·subst e;simp[h]
 ·simp only[if_neg e,mixB]
  by_cases e2:b<K
  ·rw[if_pos e2,if_pos (by omega)]
  ·rw[if_neg e2,if_neg (by omega)]
theorem mixB_all [Mode] {g:Nat→Bool}{n:Nat}:boR n (mixB g n)=boR n g:=boR_congr fun b hb=>by simp[hb]
set_option maxHeartbeats 8000000 in
theorem bestCircuit_ac [Mode] (n:Nat) (xs:List Pl) (u1 u2:Int) (h0:0<n) (hn:n≤10) (hx:xs.length≤30) (hv:∀ p∈xs,okPl n p) (h1:0≤u1∧u1≤100000) (h2:0<u2∧u2≤50) (hst:StarM (wmT n xs (u1,u2)) n) (cr:Nat→Bool) (hcr:cr=crB xs (u1,u2) (starF (entN (wmT n xs (u1,u2))) n)) (hB:bestC xs cr n≠[]) :
  AC Tryz.prog 36 [grD n xs,.agg [I u1,I u2]] H0 (own1 1 (bestC xs cr n).length) (hp1 (IO (cN (bestC xs cr n)))):=by
 have hW:=(weightMatrix_ac n xs u1 u2 (by omega) (by omega) hv h1 ⟨by omega,h2.2⟩).frzT (by rw[TR_len];exact hst.rc.l)
 have hS:=(starOf_ac (wmT n xs (u1,u2)) n hst).frzT2 (by rw[TR_len,tabF_len])
 have hsb:=fun {i j}=>hst.starB (i:=i) (j:=j)
 have hpw:=plW_le hv h1 (show 0≤u2∧u2≤50 by omega)
 have hgo:=fun l h1 h2 h3=>goOn_ac n xs cr hn (by omega) hv n l h1 h2 h3
 have hci:∀ i,cr i=(!decide (starF (entN (wmT n xs (u1,u2))) n (plA xs i).f.toNat (plA xs i).t.toNat=BOT)&&decide (pw u1 u2 (plA xs i)+starF (entN (wmT n xs (u1,u2))) n (plA xs i).f.toNat (plA xs i).t.toNat=0)):=fun i=>by rw[hcr];rfl
 have hWl:(mRows 1 (TR (wmT n xs (u1,u2)))).length=n:=by rw[mTR_len];exact hst.rc.l
 generalize starF (entN (wmT n xs (u1,u2))) n=s at *
 generalize wmT n xs (u1,u2)=wm at *
 clear hcr hst
 obtain ⟨B,hBe⟩:∃ B,bestC xs cr n=B:=⟨_,rfl⟩
 rw[hBe] at hB ⊢
 unfold bestC at hBe
 generalize hF:(fun i=>if cr i=false then [] else if (plA xs i).t=(plA xs i).f then [i] else if (plA xs i).t<(plA xs i).f then [] else goC xs cr n [i])=F at hBe
 rw[show List.range' 0 xs.length=List.range' 0 (xs.length - 0) by simp] at hBe
 have hPW:=fun i hi=>placeWeight_ac (plA xs i) u1 u2 (by have:=hpw i hi;omega) (by have:=hpw i hi;omega)
 have hz:=mixB_0 (n:=xs.length) (g:=cr)
 refine AC.of_body 0 Tryz.func36 rfl (fun l h=>absurd rfl h) (fun C hC=>?_)
 have hD:∀ l,¬ C.D0 l:=fun l h=>(hC l).1 h rfl
 simp only[startFr,Tryz.ntmps36,List.length_cons,List.length_nil,Nat.reduceAdd,Nat.reduceSub,List.replicate_succ,List.replicate_zero,List.cons_append,List.nil_append]
 repeat' (first|((first|apply Ba|(apply Bb;(· rfl);(· rfl))|(apply Bc;(· exact nxE))|(apply Bd;(· rfl);(· rfl);(· exact nxE)));(· first|exact Kz rfl rfl (hW) (Aa (Ad (Ad An)) (Aa (Ad (Ad An)) An))|exact Kz rfl rfl (hS) (Ad An)|exact OpOk.nilCheck rfl rfl|exact Ok.pe))|((first|apply Ca|(apply Cb;(· exact nxE)));(· first|exact Ok.e0))|refine Sx ?_|(refine Sy (fun h=>?_) (fun h=>?_)<;>try (exfalso;omega;done))|refine Sz (fun h=>?_) (fun h=>?_))
 refine AW.loop (X:={k:Nat // k≤xs.length}) (fun k=>⟨[Oo,Oo,Bx 2 0,Bx 2 1,Oo,TL (tabF n n s),Oo,.own 1 ⟨2,[]⟩ 0 xs.length,Oo,Oo,Oo,Oo,Oo,Oo,Oo,Oo,Oo,Oo,Oo,Oo,Oo,Oo,Oo,Oo,Oo,Oo,PL xs,I xs.length,I (k.1:Nat),Oo,Oo,Oo,Oo,Oo,Oo,Oo,Oo,Oo,Oo,Oo,Oo,Oo,Oo,Oo,Oo,Oo,Oo,Oo,Oo,Oo,Oo,Oo,Oo,Oo,Oo,Oo,Oo,Oo,Oo,Oo,Oo,Oo,Oo,Oo,Oo,Oo,Oo,Oo,Oo,Oo,Oo,Oo,Oo,Oo,Oo,Oo,Oo,Oo,Oo,Oo,Oo,Oo,Oo,Oo,Oo,Oo,Oo,Oo,Oo,Oo,Oo,Oo,Oo,Oo,Oo,Oo,Oo,Oo,Oo,Oo,Oo,Oo,Oo,Oo,Oo,Oo,Oo],heapL [(⟨0,[]⟩,⟨0,[]⟩,⟨2,[[I n,PL xs]]⟩),(⟨1,[]⟩,⟨1,[]⟩,⟨2,[[I u1,I u2]]⟩),(⟨2,[]⟩,⟨2,[]⟩,dobj 1 (boR xs.length (mixB cr k.1)))],900⟩) (fun k=>xs.length - k.1) ⟨0,Nat.zero_le _⟩ ?_ (fun k=>?_)
 ·
  (apply Le.headZ [_,_,_] rfl)
  all_goals (try dsimp only[srcs])
  (case' hfr|hob=>(repeat' (first|refine La ?_ ?_|exact Lc|refine Lo ?_|refine ⟨⟨_,rfl,?_⟩,?_⟩|refine Lx ?_)))
  all_goals (first|((first|exact hz|(rw[hz];done)))|exact Ld)
 obtain ⟨k,hk⟩:=k
 simp only
 by_cases hlt:k<xs.length
 ·have hrow:=pl_row (n:=0) hlt
  have hpwk:=hpw k hlt
  have hPW:=hPW k hlt
  have hck:=hci k
  obtain ⟨⟨g1,g2⟩,⟨g3,g4⟩,⟨g5,g6⟩,_⟩:=okPl_at hv k hlt
  have hpwb : -1000000≤pw u1 u2 (plA xs k)∧pw u1 u2 (plA xs k)≤1000000:=by unfold pw;omega
  clear hF
  generalize hw:pw u1 u2 (plA xs k)=w at *
  generalize plA xs k=p at *
  obtain ⟨pf,pt,pd,pk⟩:=p
  obtain ⟨a,rfl⟩:∃ f:Nat,pf=f:=⟨pf.toNat,by simp at g1;omega⟩
  obtain ⟨t,rfl⟩:∃ t:Nat,pt=t:=⟨pt.toNat,by simp at g3;omega⟩
  simp only[Int.toNat_natCast] at hrow g2 g4 g5 g6 hpwk hck
  obtain ⟨rr,hr1,hr2,hr3⟩:=(tabF_rc (m:=n) (n:=n) (f:=s)).get (show a<n by omega) (show t<n by omega)
  rw[tabF_ent (by omega) (by omega)] at hr2
  have hr1':=TR_get hr1
  have hrf:=IR_get hr2
  have hrl:(IR rr).length=n:=by rw[IR_len,hr3]
  have hb:=hsb (i:=a) (j:=t) (by omega) (by omega)
  have hc0:=boR_get (g:=mixB cr k) hlt
  by_cases hbot:s a t=BOT
  ·rw[decide_eq_true hbot] at hck
   have hset:=mixB_set (n:=xs.length) (K:=k) (g:=cr) (v:=false) hck
   rw[hbot] at hrf
   unfold BOT at hrf
   repeat' (first|((first|apply Ba|(apply Bb;(· rfl);(· rfl))|(apply Bc;(· exact nxE))|(apply Bd;(· rfl);(· rfl);(· exact nxE)));(· first|exact OpOk.nilCheck rfl rfl|exact Ok.st1 rfl rfl rfl (by rw[boR_len];omega) (by rw[hc0];rfl) rfl rfl hset|exact Ok.pe))|((first|apply Ca|(apply Cb;(· exact nxE)));(· first|exact Ok.st1 rfl rfl rfl (by rw[boR_len];omega) (by rw[hc0];rfl) rfl rfl hset|exact Ok.e0))|refine Sx ?_|(refine Sy (fun h=>?_) (fun h=>?_)<;>try (exfalso;omega;done))|refine Sz (fun h=>?_) (fun h=>?_))
   refine ⟨⟨k+1,by omega⟩,?_,by simp only;omega⟩
   (apply Le.headZ [_,_,_] rfl)
   all_goals (try dsimp only[srcs])
   (case' hfr|hob=>(repeat' (first|refine La ?_ ?_|exact Lc|refine Lo ?_|refine ⟨⟨_,rfl,?_⟩,?_⟩|refine Lx ?_)))
   all_goals (first|(rfl)|exact Ld)
  ·rw[decide_eq_false hbot] at hck
   simp only[Bool.not_false,Bool.true_and] at hck
   have hb2:=hb.resolve_left hbot
   have hset:=mixB_set (n:=xs.length) (K:=k) (g:=cr) hck
   unfold BOT at hbot
   repeat' (first|((first|apply Ba|(apply Bb;(· rfl);(· rfl))|(apply Bc;(· exact nxE))|(apply Bd;(· rfl);(· rfl);(· exact nxE)));(· first|exact Kz rfl rfl (hPW) (Aa (Ad (Ad (Ad (Ad An)))) (Aa (Ad (Ad An)) An))|exact OpOk.nilCheck rfl rfl|exact Ok.st1 rfl rfl rfl (by rw[boR_len];omega) (by rw[hc0];rfl) rfl rfl hset|exact Ok.pe))|((first|apply Ca|(apply Cb;(· exact nxE)));(· first|exact Ok.st1 rfl rfl rfl (by rw[boR_len];omega) (by rw[hc0];rfl) rfl rfl hset|exact Ok.e0))|refine Sx ?_|(refine Sy (fun h=>?_) (fun h=>?_)<;>try (exfalso;omega;done))|refine Sz (fun h=>?_) (fun h=>?_))
   all_goals
    refine ⟨⟨k+1,by omega⟩,?_,by simp only;omega⟩
    (apply Le.headZ [_,_,_] rfl)
    all_goals (try dsimp only[srcs])
    (case' hfr|hob=>(repeat' (first|refine La ?_ ?_|exact Lc|refine Lo ?_|refine ⟨⟨_,rfl,?_⟩,?_⟩|refine Lx ?_)))
    all_goals (first|(rfl)|exact Ld)
 obtain rfl:k=xs.length:=by omega
 rw[mixB_all]
 clear hW hS hsb hci hPW hz hlt hk
 have hbl:(boR xs.length cr).length=xs.length:=boR_len
 repeat' (first|((first|apply Ba|(apply Bb;(· rfl);(· rfl))|(apply Bc;(· exact nxE))|(apply Bd;(· rfl);(· rfl);(· exact nxE)));(· first|exact OpOk.nilCheck rfl rfl|exact Ok.pe))|((first|apply Ca|(apply Cb;(· exact nxE)));(· first|exact Ok.e0))|refine Sx ?_|(refine Sy (fun h=>?_) (fun h=>?_)<;>try (exfalso;omega;done))|refine Sz (fun h=>?_) (fun h=>?_))
 refine AW.loop (X:={k:Nat // k≤xs.length∧B=tryAll F (List.range' k (xs.length - k))}) (fun k=>⟨[Oo,Oo,Bx 2 0,Oo,Oo,Oo,Oo,.d (.sl 1 (boR xs.length cr)),Oo,Oo,Oo,Oo,Oo,Oo,Oo,Oo,Oo,Oo,Oo,Oo,Oo,Oo,Oo,Oo,Oo,Oo,Oo,Oo,Oo,Oo,Oo,Oo,Oo,Oo,Oo,Oo,Oo,Oo,Oo,Oo,Oo,Oo,Oo,Oo,Oo,Oo,Oo,Oo,Oo,Oo,Oo,Oo,Oo,Oo,Oo,Oo,Oo,PL xs,I xs.length,I (k.1:Nat),Oo,Oo,Oo,Oo,Oo,Oo,Oo,Oo,Oo,Oo,Oo,Oo,Oo,Oo,Oo,Oo,Oo,Oo,Oo,Oo,Oo,Oo,Oo,Oo,Oo,Oo,Oo,Oo,Oo,Oo,Oo,Oo,Oo,Oo,Oo,Oo,Oo,Oo,Oo,Oo,Oo,Oo,Oo,Oo,Oo,Oo,Oo],heapL [(⟨0,[]⟩,⟨0,[]⟩,⟨2,[[I n,PL xs]]⟩)],900⟩) (fun k=>xs.length - k.1) ⟨0,Nat.zero_le _,hBe.symm⟩ ?_ (fun k=>?_)
 ·
  (apply Le.headZ [_] rfl)
  all_goals (try dsimp only[srcs])
  (case' hfr|hob=>(repeat' (first|refine La ?_ ?_|exact Lc|refine Lo ?_|refine ⟨⟨_,rfl,?_⟩,?_⟩|refine Lx ?_)))
  all_goals (first|(rfl)|exact Ld)
 obtain ⟨k,hk,hinv⟩:=k
 simp only
 by_cases hlt:k<xs.length
 case neg=>
  obtain rfl:k=xs.length:=by omega
  rw[Nat.sub_self] at hinv
  exact absurd hinv hB
 have hrow:=pl_row (n:=0) hlt
 have hcr:=boR_get (g:=cr) hlt
 obtain ⟨⟨g1,g2⟩,⟨g3,g4⟩,_⟩:=okPl_at hv k hlt
 have hFk:F k=if cr k=false then [] else if (plA xs k).t=(plA xs k).f then [k] else if (plA xs k).t<(plA xs k).f then [] else goC xs cr n [k]:=by rw[← hF]
 have hvis:∀ e,visB xs [k] e=(decide ((plA xs k).f=e) || decide ((plA xs k).t=e)):=fun e=>by simp[visB]
 have hp1:¬ (plA xs k).t<(plA xs k).f→PathC xs [k]:=fun h=>PathC.one hlt h
 have hgo:=fun h1 h2 h3=>hgo [k] h1 h2 h3
 rw[show firstF xs [k]=(plA xs k).f from rfl,show lastT xs [k]=(plA xs k).t from rfl] at hgo
 generalize plA xs k=p at *
 obtain ⟨pf,pt,pd,pk⟩:=p
 obtain ⟨a,rfl⟩:∃ f:Nat,pf=f:=⟨pf.toNat,by simp at g1;omega⟩
 obtain ⟨t,rfl⟩:∃ t:Nat,pt=t:=⟨pt.toNat,by simp at g3;omega⟩
 simp only at hrow g2 g4 hFk hvis hp1 hgo
 rcases Bool.eq_false_or_eq_true (cr k) with hc1|hc1
 case inr=>
  rw[hc1] at hcr
  rw[if_pos hc1] at hFk
  rw[tryAll_no hlt hFk] at hinv
  repeat' (first|((first|apply Ba|(apply Bb;(· rfl);(· rfl))|(apply Bc;(· exact nxE))|(apply Bd;(· rfl);(· rfl);(· exact nxE)));(· first|exact OpOk.nilCheck rfl rfl|exact Ok.pe))|((first|apply Ca|(apply Cb;(· exact nxE)));(· first|exact Ok.e0))|refine Sx ?_|(refine Sy (fun h=>?_) (fun h=>?_)<;>try (exfalso;omega;done))|refine Sz (fun h=>?_) (fun h=>?_))
  refine ⟨⟨k+1,by omega,hinv⟩,?_,by simp only;omega⟩
  (apply Le.headZ [_] rfl)
  all_goals (try dsimp only[srcs])
  (case' hfr|hob=>(repeat' (first|refine La ?_ ?_|exact Lc|refine Lo ?_|refine ⟨⟨_,rfl,?_⟩,?_⟩|refine Lx ?_)))
  all_goals (first|(rfl)|exact Ld)
 rw[hc1] at hcr
 rw[if_neg (by rw[hc1];decide)] at hFk
 by_cases he:(t:Int)=(a:Int)
 ·rw[if_pos he] at hFk
  have hB1:B=[k]:=by rw[hinv,tryAll_yes hlt (by rw[hFk];simp),hFk]
  rw[hB1]
  repeat' (first|((first|apply Ba|(apply Bb;(· rfl);(· rfl))|(apply Bc;(· exact nxE))|(apply Bd;(· rfl);(· rfl);(· exact nxE)));(· first|exact OpOk.nilCheck rfl rfl|exact Ok.pe))|((first|apply Ca|(apply Cb;(· exact nxE)));(· first|exact Ok.e0))|refine Sx ?_|(refine Sy (fun h=>?_) (fun h=>?_)<;>try (exfalso;omega;done))|refine Sz (fun h=>?_) (fun h=>?_))
  refine Ya ?_
  (apply Le.head [(⟨0,[]⟩,_,_)])
  (case' hfr|hob=>(repeat' (first|refine La ?_ ?_|exact Lc|refine Lo ?_|refine ⟨⟨_,rfl,?_⟩,?_⟩|refine Lx ?_)))
  all_goals (first|exact Ld|(rfl))
 rw[if_neg he] at hFk
 by_cases hlt2:(t:Int)<(a:Int)
 ·rw[if_pos hlt2] at hFk
  rw[tryAll_no hlt hFk] at hinv
  repeat' (first|((first|apply Ba|(apply Bb;(· rfl);(· rfl))|(apply Bc;(· exact nxE))|(apply Bd;(· rfl);(· rfl);(· exact nxE)));(· first|exact OpOk.nilCheck rfl rfl|exact Ok.pe))|((first|apply Ca|(apply Cb;(· exact nxE)));(· first|exact Ok.e0))|refine Sx ?_|(refine Sy (fun h=>?_) (fun h=>?_)<;>try (exfalso;omega;done))|refine Sz (fun h=>?_) (fun h=>?_))
  refine ⟨⟨k+1,by omega,hinv⟩,?_,by simp only;omega⟩
  (apply Le.headZ [_] rfl)
  all_goals (try dsimp only[srcs])
  (case' hfr|hob=>(repeat' (first|refine La ?_ ?_|exact Lc|refine Lo ?_|refine ⟨⟨_,rfl,?_⟩,?_⟩|refine Lx ?_)))
  all_goals (first|(rfl)|exact Ld)
 rw[if_neg hlt2] at hFk
 have hG:=hgo (hp1 hlt2) he (by simp)
 have hrep:List.replicate n [D.v (.bool false)]=boR n fun _=>false:=by simp[boR,List.map_const']
 have hset1:(List.replicate n [D.v (.bool false)]).set a [D.v (.bool true)]=boR n (fun e=>if e=a then true else false):=by rw[hrep,boR_set]
 have hget1:(List.replicate n [D.v (.bool false)])[a]? = some [D.v (.bool false)]:=by rw[hrep];exact boR_get (show a<n by omega)
 have hget2:=boR_get (g:=fun e=>if e=a then true else false) (show t<n by omega)
 have hset2:(boR n fun e=>if e=a then true else false).set t [D.v (.bool true)]=boR n (seenV xs [k]):=by
  rw[boR_set]
  refine boR_congr fun e _=>?_
  simp only[seenV,hvis]
  by_cases e1:e=t
  ·subst e1;simp
  ·rw[if_neg e1]
   by_cases e2:e=a
   ·subst e2;simp
   ·rw[if_neg e2,decide_eq_false (by omega),decide_eq_false (by omega)];rfl
 by_cases hg:goC xs cr n [k]=[]
 ·rw[if_pos hg,hg,decide_eq_false (by simp)] at hG
  rw[hg] at hFk
  rw[tryAll_no hlt hFk] at hinv
  unfold goH goHF IO at hG
  generalize seenV xs [k]=sv at *
  repeat' (first|((first|apply Ba|(apply Bb;(· rfl);(· rfl))|(apply Bc;(· exact nxE))|(apply Bd;(· rfl);(· rfl);(· exact nxE)));(· first|exact Ok.ld1 rfl rfl rfl hget1|exact OpOk.nilCheck rfl rfl|exact Ok.st1 rfl rfl rfl (by rw[List.length_replicate];omega) (congrArg (Option.map List.length) hget1) rfl rfl hset1|exact Ok.st1 rfl rfl rfl (by rw[boR_len];omega) (by rw[hget2];rfl) rfl rfl hset2|exact OpOk.callB3 (b:=⟨930,[]⟩) (p:=⟨925,[]⟩) (q:=⟨928,[]⟩) (x':=.own 1 ⟨928,[]⟩ 0 n) rfl rfl hG rfl rfl rfl (by decide) (by decide) (by decide) rfl (fun g=>congrArg some (rnO_dobj _ _ _)) (by simp[Go.Proofs.YtkpoclbnnpglfaaGreat.rn,emb,thr]) (.cons (AR.ptr _ _ _ _ (by simp)) (.cons (.dd _) (.cons (.dd _) .nil)))|exact Ok.pe))|((first|apply Ca|(apply Cb;(· exact nxE)));(· first|exact Ok.st1 rfl rfl rfl (by rw[List.length_replicate];omega) (congrArg (Option.map List.length) hget1) rfl rfl hset1|exact Ok.st1 rfl rfl rfl (by rw[boR_len];omega) (by rw[hget2];rfl) rfl rfl hset2|exact OpOk.callB3 (b:=⟨930,[]⟩) (p:=⟨925,[]⟩) (q:=⟨928,[]⟩) (x':=.own 1 ⟨928,[]⟩ 0 n) rfl rfl hG rfl rfl rfl (by decide) (by decide) (by decide) rfl (fun g=>congrArg some (rnO_dobj _ _ _)) (by simp[Go.Proofs.YtkpoclbnnpglfaaGreat.rn,emb,thr]) (.cons (AR.ptr _ _ _ _ (by simp)) (.cons (.dd _) (.cons (.dd _) .nil)))|exact Ok.e0))|refine Sx ?_|(refine Sy (fun h=>?_) (fun h=>?_)<;>try (exfalso;omega;done))|refine Sz (fun h=>?_) (fun h=>?_))
  refine ⟨⟨k+1,by omega,hinv⟩,?_,by simp only;omega⟩
  (apply Le.headZ [_] rfl)
  all_goals (try dsimp only[srcs])
  (case' hfr|hob=>(repeat' (first|refine La ?_ ?_|exact Lc|refine Lo ?_|refine ⟨⟨_,rfl,?_⟩,?_⟩|refine Lx ?_)))
  all_goals (first|(rfl)|exact Ld)
 ·have hB1:B=goC xs cr n [k]:=by rw[hinv,tryAll_yes hlt (by rw[hFk];exact hg),hFk]
  rw[if_neg hg,decide_eq_true hg] at hG
  rw[hB1]
  generalize goC xs cr n [k]=c at *
  unfold goH goHT IO at hG
  generalize seenV xs [k]=sv at *
  repeat' (first|((first|apply Ba|(apply Bb;(· rfl);(· rfl))|(apply Bc;(· exact nxE))|(apply Bd;(· rfl);(· rfl);(· exact nxE)));(· first|exact Ok.ld1 rfl rfl rfl hget1|exact OpOk.nilCheck rfl rfl|exact Ok.st1 rfl rfl rfl (by rw[List.length_replicate];omega) (congrArg (Option.map List.length) hget1) rfl rfl hset1|exact Ok.st1 rfl rfl rfl (by rw[boR_len];omega) (by rw[hget2];rfl) rfl rfl hset2|exact OpOk.callB3 (b:=⟨930,[]⟩) (p:=⟨925,[]⟩) (q:=⟨928,[]⟩) (x':=.dead) rfl rfl hG rfl rfl rfl (by decide) (by decide) (by decide) rfl (fun _=>rfl) (by simp[Go.Proofs.YtkpoclbnnpglfaaGreat.rn,emb,thr]) (.cons (AR.ptr _ _ _ _ (by simp)) (.cons (.dd _) (.cons (.dd _) .nil)))|exact Ok.pe))|((first|apply Ca|(apply Cb;(· exact nxE)));(· first|exact Ok.st1 rfl rfl rfl (by rw[List.length_replicate];omega) (congrArg (Option.map List.length) hget1) rfl rfl hset1|exact Ok.st1 rfl rfl rfl (by rw[boR_len];omega) (by rw[hget2];rfl) rfl rfl hset2|exact OpOk.callB3 (b:=⟨930,[]⟩) (p:=⟨925,[]⟩) (q:=⟨928,[]⟩) (x':=.dead) rfl rfl hG rfl rfl rfl (by decide) (by decide) (by decide) rfl (fun _=>rfl) (by simp[Go.Proofs.YtkpoclbnnpglfaaGreat.rn,emb,thr]) (.cons (AR.ptr _ _ _ _ (by simp)) (.cons (.dd _) (.cons (.dd _) .nil)))|exact Ok.e0))|refine Sx ?_|(refine Sy (fun h=>?_) (fun h=>?_)<;>try (exfalso;omega;done))|refine Sz (fun h=>?_) (fun h=>?_))
  refine Ya ?_
  (apply Le.head [(⟨0,[]⟩,_,_)])
  (case' hfr|hob=>(repeat' (first|refine La ?_ ?_|exact Lc|refine Lo ?_|refine ⟨⟨_,rfl,?_⟩,?_⟩|refine Lx ?_)))
  all_goals (first|exact Ld|(rfl))
theorem crOk_max [Mode] {n:Nat}{xs:List Pl}{r:Int × Int} (hn:n≤10) (h0:0<n) (hv:∀ p∈xs,okPl n p) (hr:MaxR xs r) (h1:0≤r.1∧r.1≤100000) (h2:0≤r.2∧r.2≤50):CrOk xs n r (starF (entN (wmT n xs r)) n):=by
 have hb:=wm_bnd hv h1 h2
 have hw:WmOk n xs r (wmT n xs r):=wm_ok (M:=500000) (by decide) xs (fun p hp=>⟨hv p hp,(hb p hp).1⟩)
 have hst:=starM_wm hn h0 hv hr h1 h2
 exact ⟨hv,hr,hw,hst.np,hst.ok⟩
theorem bcL_len [Mode] {ev:Int}{xs:List Pl}:(bcL ev xs).length≤1000:=by
 unfold bcL
 split
 ·rename_i h
  obtain ⟨n,rfl,h1,h2,h3,h4,h5,h6,_⟩:=bc_star h
  obtain ⟨c,e1,e2,_⟩:=h5.best h2 h6
  rw[Int.toNat_natCast,e1]
  have:=e2.len (n:=n) fun i hi=>(okPl_at h4 i hi).1
  omega
 ·simp
end
end Go.Proofs.YtkpoclbnnpglfaaGreat
