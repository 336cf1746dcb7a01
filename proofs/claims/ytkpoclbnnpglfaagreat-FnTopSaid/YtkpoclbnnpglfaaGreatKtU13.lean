/-
  Walks in the abstract reading, part 13.
-/
import Derived.Test.YtkpoclbnnpglfaaGreatKtU10
import Derived.Test.YtkpoclbnnpglfaaGreatKtA3
set_option linter.unusedSimpArgs false
set_option linter.unusedVariables false
namespace Go.Proofs.YtkpoclbnnpglfaaGreat
section
open Go Go.RowKit
attribute [local irreducible] AL AD AW OpOk Le AC thenQ blockQ EndQ
def goW (xs:List Pl) (P:Int):Nat→List Nat→List Nat
 | 0,_=>[]
 | k+1,l=>tryAll (fun i=>if skipC xs l i∨((plA xs i).t=firstF xs l∧¬ 0<wgt xs P 1 (l++[i])) then [] else if (plA xs i).t=firstF xs l then l++[i] else goW xs P k (l++[i])) (List.range' 0 xs.length)
theorem goW_grow [Mode] {n:Nat}{xs:List Pl}{P:Int} (hv:∀ p∈xs,okPl n p):∀ (k:Nat) (l:List Nat),PathC xs l→lastT xs l≠firstF xs l→k+l.length=n+1→growC xs P 1 0 k l=goW xs P k l
 | 0,_,_,_,_=>rfl
 | k+1,l,hp,hne,hk=>by
  unfold growC goW
  rw[if_neg hne]
  refine tryAll_congr fun i hi=>?_
  simp only[List.mem_range'_1] at hi
  by_cases hs:skipC xs l i
  ·rw[if_pos hs,if_pos (.inl hs)]
  ·have hp2:=hp.snoc (by omega) hne hs
   rw[if_neg hs]
   by_cases hcl:(plA xs i).t=firstF xs l
   ·have hcl2:lastT xs (l++[i])=firstF xs (l++[i]):=by rw[lastT_snoc,firstF_snoc hp.ne,hcl]
    have hln:=hp2.len (n:=n) hv
    simp at hln
    obtain ⟨k',rfl⟩:∃ k',k=k'+1:=⟨k - 1,by omega⟩
    unfold growC
    rw[if_pos hcl2]
    by_cases hw:0<wgt xs P 1 (l++[i])
    ·rw[if_pos hw,if_neg (by rintro (h|h);exact hs h;exact h.2 hw),if_pos hcl]
    ·rw[if_neg hw,if_pos (.inr ⟨hcl,hw⟩)]
   ·rw[if_neg (by rintro (h|h);exact hs h;exact hcl h.1),if_neg hcl]
    exact goW_grow hv k (l++[i]) hp2 (by rw[lastT_snoc,firstF_snoc hp.ne];exact hcl) (by simp;omega)
theorem overW [Mode] {n:Nat}{xs:List Pl}{P:Int} (hv:∀ p∈xs,okPl n p) (h0:0<n):overC xs P 1 0 n=tryAll (fun i=>if (plA xs i).t<(plA xs i).f then [] else if (plA xs i).t=(plA xs i).f then (if 0<pw P 1 (plA xs i) then [i] else []) else goW xs P n [i]) (List.range' 0 xs.length):=by
 unfold overC
 refine tryAll_congr fun i hi=>?_
 simp only[List.mem_range'_1] at hi
 by_cases hlt:(plA xs i).t<(plA xs i).f
 ·rw[if_pos hlt,if_pos hlt]
 ·rw[if_neg hlt,if_neg hlt]
  have hp:PathC xs [i]:=PathC.one (by omega) hlt
  by_cases he:(plA xs i).t=(plA xs i).f
  ·rw[if_pos he]
   obtain ⟨k,rfl⟩:∃ k,n=k+1:=⟨n - 1,by omega⟩
   unfold growC
   rw[if_pos (show lastT xs [i]=firstF xs [i] from he)]
   simp only[wgt,Int.add_zero]
  ·rw[if_neg he]
   exact goW_grow hv n [i] hp (show ¬ (plA xs i).t=(plA xs i).f from he) (by simp)
theorem pw_bndP [Mode] {n:Nat}{P:Int} (hP:0≤P∧P≤100000) {p:Pl} (h:okPl n p) : -500000≤pw P 1 p∧pw P 1 p≤10000:=by
 obtain ⟨_,_,h3,h4⟩:=h
 have:=mul_in hP h4
 unfold pw
 omega
theorem wgt_bnd [Mode] {n:Nat}{xs:List Pl}{P:Int} (hP:0≤P∧P≤100000) (hv:∀ p∈xs,okPl n p):∀ {c:List Nat},(∀ i∈c,i<xs.length)→-500000*(c.length:Int)≤wgt xs P 1 c∧wgt xs P 1 c≤10000*(c.length:Int)
 | [],_=>by simp[wgt]
 | i :: c,h=>by
  have h1:=wgt_bnd hP hv (c:=c) fun j hj=>h j (by simp[hj])
  have h2:=pw_bndP hP (okPl_at hv i (h i (by simp)))
  simp only[wgt,List.length_cons]
  omega
theorem wgt_snoc [Mode] {xs:List Pl}{P:Int}{l:List Nat}{j:Nat}:wgt xs P 1 (l++[j])=wgt xs P 1 l+pw P 1 (plA xs j):=by
 rw[wgt_app]
 simp[wgt]
abbrev sdP (ev:Int) (xs:List Pl) (P:Int):List D:=[DI ev,.sl 4 (xs.map Pl.row),DI P]
abbrev cfH (ev:Int) (n:Nat) (xs:List Pl) (P:Int) (l:List Nat):Heap:=
 upd (upd (upd H0 ⟨2,[]⟩ (some (dobj 1 (boR n (seenV xs l))))) ⟨1,[]⟩ (some (IO (cN l)))) ⟨0,[]⟩ (some ⟨5,[(sdP ev xs P).map .d++[.own 1 ⟨1,[]⟩ 0 l.length,.own 1 ⟨2,[]⟩ 0 n]]⟩)
abbrev cfHF (ev:Int) (n:Nat) (xs:List Pl) (P:Int) (l:List Nat):Heap:=
 upd (upd (upd H0 ⟨2,[]⟩ (some (dobj 1 (boR n (seenV xs l))))) ⟨3,[]⟩ (some (IO (cN l)))) ⟨0,[]⟩ (some ⟨5,[(sdP ev xs P).map .d++[.own 1 ⟨3,[]⟩ 0 l.length,.own 1 ⟨2,[]⟩ 0 n]]⟩)
abbrev cfHT (ev:Int) (xs:List Pl) (P:Int) (l:List Nat):Heap:=
 upd (upd (upd H0 ⟨2,[]⟩ none) ⟨3,[]⟩ (some (IO (cN l)))) ⟨0,[]⟩ (some ⟨5,[(sdP ev xs P).map .d++[.own 1 ⟨3,[]⟩ 0 l.length,.dead]]⟩)
theorem cfHT_eq [Mode] {ev:Int}{xs:List Pl}{P:Int}{l:List Nat}:cfHT ev xs P l=heapL [(⟨0,[]⟩,⟨0,[]⟩,⟨5,[[I ev,PL xs,I P,.own 1 ⟨3,[]⟩ 0 l.length,.dead]]⟩),(⟨3,[]⟩,⟨3,[]⟩,IO (cN l))]:=by
 have e:upd H0 ⟨2,[]⟩ none=H0:=by funext l;simp[upd]
 unfold cfHT;rw[e];rfl
set_option maxHeartbeats 8000000 in
theorem cfOn_ac [Mode] (n:Nat) (xs:List Pl) (P:Int) (hP:0≤P∧P≤100000) (hn:n≤10) (hx:xs.length≤1000) (hv:∀ p∈xs,okPl n p):∀ (k:Nat) (l:List Nat),PathC xs l→lastT xs l≠firstF xs l→k+l.length=n+1→
  AC Tryz.prog 102 [Bx 5 0,I (firstF xs l),I (lastT xs l),I (wgt xs P 1 l)] (cfH n n xs P l) (Bo (decide (goW xs P k l≠[]))) (if goW xs P k l=[] then cfHF n n xs P l else cfHT n xs P (goW xs P k l)):=by
 intro m
 induction m with
 | zero=>
  intro l hp _ hk
  have:=hp.len (n:=n) hv
  omega
 | succ m ih=>
  intro l hp hne hk
  have hln:=hp.len (n:=n) hv
  have hvl:=visB_last (xs:=xs) hp.ne
  obtain ⟨G,hG⟩:∃ G,goW xs P (m+1) l=G:=⟨_,rfl⟩
  rw[hG]
  unfold goW at hG
  generalize hF:(fun i=>if skipC xs l i∨((plA xs i).t=firstF xs l∧¬ 0<wgt xs P 1 (l++[i])) then [] else if (plA xs i).t=firstF xs l then l++[i] else goW xs P m (l++[i]))=F at hG
  have hrg:List.range' 0 xs.length=List.range' 0 (xs.length - 0):=by simp
  rw[hrg] at hG
  generalize hfi:firstF xs l=fi at *
  generalize hla:lastT xs l=la at *
  have hwb:=wgt_bnd hP hv hp.wk.lt
  have hwj:=fun j=>wgt_snoc (xs:=xs) (P:=P) (l:=l) (j:=j)
  have hwj2:=hwj
  generalize hwl:wgt xs P 1 l=wl at *
  refine AC.of_body 3 Tryz.func102 rfl (fun l h=>by simp[upd] at h;(repeat' split at h)<;>simp_all) (fun C hC=>?_)
  simp only[startFr,Tryz.ntmps102,List.length_cons,List.length_nil,Nat.reduceAdd,Nat.reduceSub,List.replicate_succ,List.replicate_zero,List.cons_append,List.nil_append]
  have hD:∀ l,C.D0 l→l=⟨0,[]⟩∨l=⟨1,[]⟩∨l=⟨2,[]⟩:=fun l h=>by have:=(hC l).1 h;simp[upd] at this;(repeat' split at this)<;>simp_all
  repeat' (first|((first|apply Ba|(apply Bb;(· rfl);(· rfl))|(apply Bc;(· exact nxE))|(apply Bd;(· rfl);(· rfl);(· exact nxE)));(· first|exact OpOk.nilCheck rfl rfl|exact Ok.pe))|((first|apply Ca|(apply Cb;(· exact nxE)));(· first|exact Ok.e0))|refine Sx ?_|(refine Sy (fun h=>?_) (fun h=>?_)<;>try (exfalso;omega;done))|refine Sz (fun h=>?_) (fun h=>?_))
  refine AW.loop (X:={k:Nat // k≤xs.length∧G=tryAll F (List.range' k (xs.length - k))}) (fun k=>⟨[Bx 5 0,I fi,I la,I wl,Oo,Oo,Oo,Oo,Oo,Oo,Oo,Oo,Oo,Oo,Oo,Oo,PL xs,I xs.length,I (k.1:Nat),Oo,Oo,Oo,Oo,Oo,Oo,Oo,Oo,Oo,Oo,Oo,Oo,Oo,Oo,Oo,Oo,Oo,Oo,Oo,Oo,Oo,Oo,Oo,Oo,Oo,Oo,Oo,Oo,Oo,Oo,Oo,Oo,Oo,Oo,Oo,Oo,Oo,Oo,Oo,Oo,Oo,Oo,Oo,Oo,Oo,Oo,Oo,Oo,Oo,Oo,Oo,Oo,Oo,Oo,Oo,Oo,Oo,Oo,Oo,Oo,Oo,Oo,Oo,Oo,Oo,Oo,Oo,Oo,Oo,Oo,Oo,Oo,Oo,Oo,Oo,Oo,Oo,Oo,Oo,Oo,Oo,Oo,Oo,Oo,Oo,Oo,Oo,Oo,Oo,Oo,Oo,Oo,Oo,Oo,Oo,Oo],heapL [(⟨0,[]⟩,⟨0,[]⟩,⟨5,[[I n,PL xs,I P,.own 1 ⟨3,[]⟩ 0 l.length,.own 1 ⟨2,[]⟩ 0 n]]⟩),(⟨3,[]⟩,⟨3,[]⟩,IO (cN l)),(⟨2,[]⟩,⟨2,[]⟩,dobj 1 (boR n (seenV xs l)))],900⟩) (fun k=>xs.length - k.1) ⟨0,Nat.zero_le _,hG.symm⟩ ?_ (fun k=>?_)
  ·
   (apply Le.headZ [_,_,_] rfl)
   all_goals (try dsimp only[srcs])
   (case' hfr|hob=>(repeat' (first|refine La ?_ ?_|exact Lc|refine Lo ?_|refine ⟨⟨_,rfl,?_⟩,?_⟩|refine Lx ?_)))
   all_goals (first|(rfl)|exact Ld)
  obtain ⟨j,hj,hinv⟩:=k
  simp only
  have hpl:(dobj 1 (IR (cN l))).rows.length=l.length:=by simp[dobj]
  by_cases hlt:j<xs.length
  case neg=>
   obtain rfl:j=xs.length:=by omega
   rw[Nat.sub_self] at hinv
   have hG0:G=[]:=by rw[hinv];rfl
   rw[hG0]
   rw[if_pos rfl,decide_eq_false (by simp)]
   repeat' (first|((first|apply Ba|(apply Bb;(· rfl);(· rfl))|(apply Bc;(· exact nxE))|(apply Bd;(· rfl);(· rfl);(· exact nxE)));(· first|exact OpOk.nilCheck rfl rfl|exact Ok.pe))|((first|apply Ca|(apply Cb;(· exact nxE)));(· first|exact Ok.e0))|refine Sx ?_|(refine Sy (fun h=>?_) (fun h=>?_)<;>try (exfalso;omega;done))|refine Sz (fun h=>?_) (fun h=>?_))
   (refine end1p (by first|exact .inl rfl|exact .inr rfl) rfl (by first|exact rT rfl|exact rCA rfl rfl rfl rfl (by simp)|exact rCC rfl rfl rfl rfl rfl) ?_ (Le.head ([(⟨0,[]⟩,⟨0,[]⟩,⟨5,[[I n,PL xs,I P,.own 1 ⟨3,[]⟩ 0 l.length,.own 1 ⟨2,[]⟩ 0 n]]⟩),(⟨3,[]⟩,⟨3,[]⟩,IO (cN l)),(⟨2,[]⟩,⟨2,[]⟩,dobj 1 (boR n (seenV xs l)))]) (by first|exact fun l h=>absurd h (hD l)|(intro l h;rcases hD l h with rfl;simp[tauL])|(intro l h;rcases hD l h with rfl|rfl<;>simp[tauL];done)|(intro l h;rcases hD l h with rfl|rfl|rfl<;>simp[tauL])) ?_ ?_ (by simp) (by simp) (by simp[AllP]) (n':=1000));(· rfl))<;>(repeat' (first|exact trivial|exact ARs.nil|refine ARs.cons ?_ ?_|exact AR.dead _|exact AR.dd _|exact AR.i (by (try dsimp only);omega)|exact AR.ptr _ _ _ _ (by simp[heapL,upd])|exact AR.own _ _ _ _ (by simp[heapL,upd])|refine AR.ownE _ _ _ ?_ (by simp[heapL,upd])|refine ⟨⟨_,rfl,?_⟩,?_⟩|exact ObA.data|refine ObA.box ?_|refine ObA.frE ?_|refine ObA.dataE ?_|refine ARs.agg ?_|refine ARs.tup ?_|exact AR.clo' ARs.nil ARs.nil|exact AR.clo' ARs.nil (hca _ _)))
  have hrow:=pl_row (n:=0) hlt
  have hwj:=hwj j
  have hpb:=pw_bndP hP (okPl_at hv j hlt)
  have hPW:=placeWeight_ac (plA xs j) P 1 (by have:=okPl_at hv j hlt;unfold okPl at this;omega) (by have:=mul_in hP (okPl_at hv j hlt).2.2.2;omega)
  obtain ⟨⟨g1,g2⟩,⟨g3,g4⟩,_⟩:=okPl_at hv j hlt
  have hFj:F j=if skipC xs l j∨((plA xs j).t=fi∧¬ 0<wgt xs P 1 (l++[j])) then [] else if (plA xs j).t=fi then l++[j] else goW xs P m (l++[j]):=by rw[← hF]
  have hsk:skipC xs l j↔((plA xs j).f≠la∨(plA xs j).t<fi∨((plA xs j).t≠fi∧visB xs l (plA xs j).t=true)):=by unfold skipC;rw[hfi,hla]
  have hsn:PathC xs (l++[j])∨skipC xs l j:=by
   by_cases h:skipC xs l j
   ·exact .inr h
   ·exact .inl (hp.snoc hlt (by rw[hla,hfi];exact hne) h)
  have hvs:∀ e,visB xs (l++[j]) e=(visB xs l e || (decide ((plA xs j).f=e) || decide ((plA xs j).t=e))):=fun e=>visB_snoc
  have hih:=fun h1 h2 h3=>ih (l++[j]) h1 h2 h3
  rw[firstF_snoc hp.ne,lastT_snoc,hfi,hwj] at hih
  rw[hwj] at hFj
  clear hwj hwj2 hF
  generalize hwp:pw P 1 (plA xs j)=wp at *
  clear hwp
  generalize plA xs j=p at *
  obtain ⟨pf,pt,pd,pk⟩:=p
  obtain ⟨a,rfl⟩:∃ f:Nat,pf=f:=⟨pf.toNat,by simp at g1;omega⟩
  obtain ⟨t,rfl⟩:∃ t:Nat,pt=t:=⟨pt.toNat,by simp at g3;omega⟩
  simp only at hrow g2 g4 hFj hsk hvs hih hPW
  have hseen:=boR_get (g:=seenV xs l) (show t<n by omega)
  have hskipEnd:F j=[]→G=tryAll F (List.range' (j+1) (xs.length - (j+1))):=fun h=>by rw[hinv,tryAll_no hlt h]
  by_cases hskip:skipC xs l j
  ·have hnx:=hskipEnd (by rw[hFj,if_pos (.inl hskip)])
   have h2:=hsk.1 hskip
   rcases Bool.eq_false_or_eq_true (visB xs l (t:Int)) with hv1|hv1
   ·rw[show seenV xs l t=true from hv1] at hseen
    have h3:(a:Int)≠la∨(t:Int)<fi∨(t:Int)≠fi:=by rcases h2 with h|h|h;exact .inl h;exact .inr (.inl h);exact .inr (.inr h.1)
    clear h2
    repeat' (first|((first|apply Ba|(apply Bb;(· rfl);(· rfl))|(apply Bc;(· exact nxE))|(apply Bd;(· rfl);(· rfl);(· exact nxE)));(· first|exact Ok.ld1 rfl rfl rfl hseen|exact OpOk.nilCheck rfl rfl|exact Ok.pe))|((first|apply Ca|(apply Cb;(· exact nxE)));(· first|exact Ok.e0))|refine Sx ?_|(refine Sy (fun h=>?_) (fun h=>?_)<;>try (exfalso;omega;done))|refine Sz (fun h=>?_) (fun h=>?_))
    all_goals
     refine ⟨⟨j+1,by omega,hnx⟩,?_,by simp only;omega⟩
     (apply Le.headZ [_,_,_] rfl)
     all_goals (try dsimp only[srcs])
     (case' hfr|hob=>(repeat' (first|refine La ?_ ?_|exact Lc|refine Lo ?_|refine ⟨⟨_,rfl,?_⟩,?_⟩|refine Lx ?_)))
     all_goals (first|(rfl)|exact Ld)
   ·rw[show seenV xs l t=false from hv1] at hseen
    have h3:(a:Int)≠la∨(t:Int)<fi:=by rcases h2 with h|h|h;exact .inl h;exact .inr h;rw[hv1] at h;cases h.2
    clear h2
    repeat' (first|((first|apply Ba|(apply Bb;(· rfl);(· rfl))|(apply Bc;(· exact nxE))|(apply Bd;(· rfl);(· rfl);(· exact nxE)));(· first|exact Ok.ld1 rfl rfl rfl hseen|exact OpOk.nilCheck rfl rfl|exact Ok.pe))|((first|apply Ca|(apply Cb;(· exact nxE)));(· first|exact Ok.e0))|refine Sx ?_|(refine Sy (fun h=>?_) (fun h=>?_)<;>try (exfalso;omega;done))|refine Sz (fun h=>?_) (fun h=>?_))
    all_goals
     refine ⟨⟨j+1,by omega,hnx⟩,?_,by simp only;omega⟩
     (apply Le.headZ [_,_,_] rfl)
     all_goals (try dsimp only[srcs])
     (case' hfr|hob=>(repeat' (first|refine La ?_ ?_|exact Lc|refine Lo ?_|refine ⟨⟨_,rfl,?_⟩,?_⟩|refine Lx ?_)))
     all_goals (first|(rfl)|exact Ld)
  ·have hns:=hskip
   have hp2:=hsn.resolve_right hns
   have hal:(a:Int)=la:=Classical.byContradiction fun h=>hns (hsk.2 (.inl h))
   have htf:¬ (t:Int)<fi:=fun h=>hns (hsk.2 (.inr (.inl h)))
   have hapl:(IR (cN l)).length=l.length:=by simp
   by_cases hcl:(t:Int)=fi
   ·by_cases hw0:0<wl+wp
    ·rw[if_neg (by rintro (h|h);exact hns h;exact h.2 hw0),if_pos hcl] at hFj
     have hG1:G=l++[j]:=by rw[hinv,tryAll_yes hlt (by rw[hFj];simp),hFj]
     rw[hG1,if_neg (by simp),decide_eq_true (by simp),cfHT_eq,show (l++[j]).length=l.length+1 by simp,show IO (cN (l++[j]))=dobj 1 (IR (cN l)++[[DI (j:Nat)]]) by rw[← cN_snoc]]
     repeat' (first|((first|apply Ba|(apply Bb;(· rfl);(· rfl))|(apply Bc;(· exact nxE))|(apply Bd;(· rfl);(· rfl);(· exact nxE)));(· first|exact Kz rfl rfl (hPW) (Aa (Ad (Ad (Ad (Ad An)))) (Aa (Ad (Ad An)) An))|exact OpOk.nilCheck rfl rfl|exact Ok.append1 (row:=[DI (j:Nat)]) rfl rfl (by decide) rfl rfl hapl rfl rfl rfl (by rfl) (by omega) (by omega)|exact Ok.pe))|((first|apply Ca|(apply Cb;(· exact nxE)));(· first|exact Ok.append1 (row:=[DI (j:Nat)]) rfl rfl (by decide) rfl rfl hapl rfl rfl rfl (by rfl) (by omega) (by omega)|exact Ok.e0))|refine Sx ?_|(refine Sy (fun h=>?_) (fun h=>?_)<;>try (exfalso;omega;done))|refine Sz (fun h=>?_) (fun h=>?_))
     (refine end1p (by first|exact .inl rfl|exact .inr rfl) rfl (by first|exact rT rfl|exact rCA rfl rfl rfl rfl (by simp)|exact rCC rfl rfl rfl rfl rfl) ?_ (Le.head ([(⟨0,[]⟩,⟨0,[]⟩,⟨5,[[I n,PL xs,I P,.own 1 ⟨3,[]⟩ 0 (l.length+1),.dead]]⟩),(⟨3,[]⟩,⟨958,[]⟩,dobj 1 (IR (cN l)++[[DI (j:Nat)]]))]) (by first|exact fun l h=>absurd h (hD l)|(intro l h;rcases hD l h with rfl;simp[tauL])|(intro l h;rcases hD l h with rfl|rfl<;>simp[tauL];done)|(intro l h;rcases hD l h with rfl|rfl|rfl<;>simp[tauL])) ?_ ?_ (by simp) (by simp) (by simp[AllP]) (n':=1000));(· rfl))<;>(repeat' (first|exact trivial|exact ARs.nil|refine ARs.cons ?_ ?_|exact AR.dead _|exact AR.dd _|exact AR.i (by (try dsimp only);omega)|exact AR.ptr _ _ _ _ (by simp[heapL,upd])|exact AR.own _ _ _ _ (by simp[heapL,upd])|refine AR.ownE _ _ _ ?_ (by simp[heapL,upd])|refine ⟨⟨_,rfl,?_⟩,?_⟩|exact ObA.data|refine ObA.box ?_|refine ObA.frE ?_|refine ObA.dataE ?_|refine ARs.agg ?_|refine ARs.tup ?_|exact AR.clo' ARs.nil ARs.nil|exact AR.clo' ARs.nil (hca _ _)))
    ·have hnx:=hskipEnd (by rw[hFj,if_pos (.inr ⟨hcl,hw0⟩)])
     repeat' (first|((first|apply Ba|(apply Bb;(· rfl);(· rfl))|(apply Bc;(· exact nxE))|(apply Bd;(· rfl);(· rfl);(· exact nxE)));(· first|exact Kz rfl rfl (hPW) (Aa (Ad (Ad (Ad (Ad An)))) (Aa (Ad (Ad An)) An))|exact OpOk.nilCheck rfl rfl|exact Ok.pe))|((first|apply Ca|(apply Cb;(· exact nxE)));(· first|exact Ok.e0))|refine Sx ?_|(refine Sy (fun h=>?_) (fun h=>?_)<;>try (exfalso;omega;done))|refine Sz (fun h=>?_) (fun h=>?_))
     all_goals
      refine ⟨⟨j+1,by omega,hnx⟩,?_,by simp only;omega⟩
      (apply Le.headZ [_,_,_] rfl)
      all_goals (try dsimp only[srcs])
      (case' hfr|hob=>(repeat' (first|refine La ?_ ?_|exact Lc|refine Lo ?_|refine ⟨⟨_,rfl,?_⟩,?_⟩|refine Lx ?_)))
      all_goals (first|(rfl)|exact Ld)
   ·rw[if_neg (by rintro (h|h);exact hns h;exact hcl h.1),if_neg hcl] at hFj
    have hvis:visB xs l (t:Int)=false:=by
     rcases Bool.eq_false_or_eq_true (visB xs l (t:Int)) with h|h
     ·exact absurd (hsk.2 (.inr (.inr ⟨hcl,h⟩))) hns
     ·exact h
    rw[show seenV xs l t=false from hvis] at hseen
    have hIH:=hih hp2 hcl (by simp;omega)
    have hva:visB xs l (a:Int)=true:=by rw[hal];exact hvl
    have hset1:(boR n (seenV xs l)).set t [D.v (.bool true)]=boR n (seenV xs (l++[j])):=by
     rw[boR_set]
     refine boR_congr fun e _=>?_
     simp only[seenV,hvs]
     by_cases e1:e=t
     ·subst e1;simp
     ·rw[if_neg e1]
      by_cases e2:a=e
      ·subst e2;rw[hva];rfl
      ·rw[decide_eq_false (by omega),decide_eq_false (by omega)];simp
    have hget2:=boR_get (g:=seenV xs (l++[j])) (show t<n by omega)
    have hset2:(boR n (seenV xs (l++[j]))).set t [D.v (.bool false)]=boR n (seenV xs l):=by
     rw[boR_set]
     refine boR_congr fun e _=>?_
     simp only[seenV,hvs]
     by_cases e1:e=t
     ·subst e1;rw[if_pos rfl,hvis]
     ·rw[if_neg e1]
      by_cases e2:a=e
      ·subst e2;rw[hva];rfl
      ·rw[decide_eq_false (by omega),decide_eq_false (by omega)];simp
    have hll:(l++[j]).length=l.length+1:=by simp
    by_cases hg:goW xs P m (l++[j])=[]
    ·have hnx:=hskipEnd (by rw[hFj,hg])
     rw[if_pos hg,hg,decide_eq_false (by simp)] at hIH
     unfold cfH cfHF IO at hIH
     rw[cN_snoc,hll] at hIH
     generalize seenV xs (l++[j])=sv at *
     repeat' (first|((first|apply Ba|(apply Bb;(· rfl);(· rfl))|(apply Bc;(· exact nxE))|(apply Bd;(· rfl);(· rfl);(· exact nxE)));(· first|exact Ok.ld1 rfl rfl rfl hseen|exact Kz rfl rfl (hPW) (Aa (Ad (Ad (Ad (Ad An)))) (Aa (Ad (Ad An)) An))|exact Ok.sliceToO rfl rfl rfl (by omega) rfl (by omega)|exact OpOk.nilCheck rfl rfl|exact Ok.append1 (row:=[DI (j:Nat)]) rfl rfl (by decide) rfl rfl hapl rfl rfl rfl (by rfl) (by omega) (by omega)|exact Ok.st1 rfl rfl rfl (by rw[boR_len];omega) (by rw[hseen];rfl) rfl rfl hset1|exact Ok.st1 rfl rfl rfl (by rw[boR_len];omega) (by rw[hget2];rfl) rfl rfl hset2|exact OpOk.callB3 (b:=⟨0,[]⟩) (p:=⟨958,[]⟩) (q:=⟨2,[]⟩) (x':=.own 1 ⟨2,[]⟩ 0 n) rfl rfl hIH rfl rfl rfl (by decide) (by decide) (by decide) rfl (fun g=>congrArg some (rnO_dobj _ _ _)) (by simp[Go.Proofs.YtkpoclbnnpglfaaGreat.rn,emb,thr]) (.cons (AR.ptr _ _ _ _ (by simp)) (.cons (.dd _) (.cons (.dd _) (.cons (.dd _) .nil))))|exact Ok.storeC rfl rfl rfl rfl rfl (by simp;done) (by conv=>lhs;whnf) (by rfl) (by rfl) rfl|exact Ok.pe))|((first|apply Ca|(apply Cb;(· exact nxE)));(· first|exact Ok.append1 (row:=[DI (j:Nat)]) rfl rfl (by decide) rfl rfl hapl rfl rfl rfl (by rfl) (by omega) (by omega)|exact Ok.st1 rfl rfl rfl (by rw[boR_len];omega) (by rw[hseen];rfl) rfl rfl hset1|exact Ok.st1 rfl rfl rfl (by rw[boR_len];omega) (by rw[hget2];rfl) rfl rfl hset2|exact OpOk.callB3 (b:=⟨0,[]⟩) (p:=⟨958,[]⟩) (q:=⟨2,[]⟩) (x':=.own 1 ⟨2,[]⟩ 0 n) rfl rfl hIH rfl rfl rfl (by decide) (by decide) (by decide) rfl (fun g=>congrArg some (rnO_dobj _ _ _)) (by simp[Go.Proofs.YtkpoclbnnpglfaaGreat.rn,emb,thr]) (.cons (AR.ptr _ _ _ _ (by simp)) (.cons (.dd _) (.cons (.dd _) (.cons (.dd _) .nil))))|exact Ok.storeC rfl rfl rfl rfl rfl (by simp;done) (by conv=>lhs;whnf) (by rfl) (by rfl) rfl|exact Ok.e0))|refine Sx ?_|(refine Sy (fun h=>?_) (fun h=>?_)<;>try (exfalso;omega;done))|refine Sz (fun h=>?_) (fun h=>?_))
     refine ⟨⟨j+1,by omega,hnx⟩,?_,by simp only;omega⟩
     refine (Le.takeL ⟨979,[3]⟩ l.length rfl).trans ?_
     (apply Le.headZ [_,_,_] rfl)
     all_goals (try dsimp only[srcs])
     (case' hfr|hob=>(repeat' (first|refine La ?_ ?_|exact Lc|refine Lo ?_|refine ⟨⟨_,rfl,?_⟩,?_⟩|refine Lx ?_)))
     all_goals (first|((first|rfl|(simp[dobj];done)))|exact Ld)
    ·have hG1:G=goW xs P m (l++[j]):=by rw[hinv,tryAll_yes hlt (by rw[hFj];exact hg),hFj]
     rw[if_neg hg,decide_eq_true hg] at hIH
     rw[hG1,if_neg hg,decide_eq_true hg,cfHT_eq]
     generalize goW xs P m (l++[j])=c at *
     unfold cfH cfHT IO at hIH
     rw[cN_snoc,hll] at hIH
     generalize seenV xs (l++[j])=sv at *
     repeat' (first|((first|apply Ba|(apply Bb;(· rfl);(· rfl))|(apply Bc;(· exact nxE))|(apply Bd;(· rfl);(· rfl);(· exact nxE)));(· first|exact Ok.ld1 rfl rfl rfl hseen|exact Kz rfl rfl (hPW) (Aa (Ad (Ad (Ad (Ad An)))) (Aa (Ad (Ad An)) An))|exact OpOk.nilCheck rfl rfl|exact Ok.append1 (row:=[DI (j:Nat)]) rfl rfl (by decide) rfl rfl hapl rfl rfl rfl (by rfl) (by omega) (by omega)|exact Ok.st1 rfl rfl rfl (by rw[boR_len];omega) (by rw[hseen];rfl) rfl rfl hset1|exact OpOk.callB3 (b:=⟨0,[]⟩) (p:=⟨958,[]⟩) (q:=⟨2,[]⟩) (x':=.dead) rfl rfl hIH rfl rfl rfl (by decide) (by decide) (by decide) rfl (fun _=>rfl) (by simp[Go.Proofs.YtkpoclbnnpglfaaGreat.rn]) (.cons (AR.ptr _ _ _ _ (by simp)) (.cons (.dd _) (.cons (.dd _) (.cons (.dd _) .nil))))|exact Ok.pe))|((first|apply Ca|(apply Cb;(· exact nxE)));(· first|exact Ok.append1 (row:=[DI (j:Nat)]) rfl rfl (by decide) rfl rfl hapl rfl rfl rfl (by rfl) (by omega) (by omega)|exact Ok.st1 rfl rfl rfl (by rw[boR_len];omega) (by rw[hseen];rfl) rfl rfl hset1|exact OpOk.callB3 (b:=⟨0,[]⟩) (p:=⟨958,[]⟩) (q:=⟨2,[]⟩) (x':=.dead) rfl rfl hIH rfl rfl rfl (by decide) (by decide) (by decide) rfl (fun _=>rfl) (by simp[Go.Proofs.YtkpoclbnnpglfaaGreat.rn]) (.cons (AR.ptr _ _ _ _ (by simp)) (.cons (.dd _) (.cons (.dd _) (.cons (.dd _) .nil))))|exact Ok.e0))|refine Sx ?_|(refine Sy (fun h=>?_) (fun h=>?_)<;>try (exfalso;omega;done))|refine Sz (fun h=>?_) (fun h=>?_))
     (refine end1p (by first|exact .inl rfl|exact .inr rfl) rfl (by first|exact rT rfl|exact rCA rfl rfl rfl rfl (by simp)|exact rCC rfl rfl rfl rfl rfl) ?_ (Le.head ([(⟨0,[]⟩,⟨0,[]⟩,⟨5,[[I n,PL xs,I P,.own 1 ⟨3,[]⟩ 0 c.length,.dead]]⟩),(⟨3,[]⟩,⟨979,[3]⟩,IO (cN c))]) (by first|exact fun l h=>absurd h (hD l)|(intro l h;rcases hD l h with rfl;simp[tauL])|(intro l h;rcases hD l h with rfl|rfl<;>simp[tauL];done)|(intro l h;rcases hD l h with rfl|rfl|rfl<;>simp[tauL])) ?_ ?_ (by simp) (by simp) (by simp[AllP]) (n':=1000));(· rfl))<;>(repeat' (first|exact trivial|exact ARs.nil|refine ARs.cons ?_ ?_|exact AR.dead _|exact AR.dd _|exact AR.i (by (try dsimp only);omega)|exact AR.ptr _ _ _ _ (by simp[heapL,upd])|exact AR.own _ _ _ _ (by simp[heapL,upd])|refine AR.ownE _ _ _ ?_ (by simp[heapL,upd])|refine ⟨⟨_,rfl,?_⟩,?_⟩|exact ObA.data|refine ObA.box ?_|refine ObA.frE ?_|refine ObA.dataE ?_|refine ARs.agg ?_|refine ARs.tup ?_|exact AR.clo' ARs.nil ARs.nil|exact AR.clo' ARs.nil (hca _ _)))
end
section
open Go Go.RowKit
attribute [local irreducible] AL AD AW OpOk Le AC thenQ blockQ EndQ
set_option maxHeartbeats 8000000 in
theorem firstConflict_ac [Mode] (n:Nat) (xs:List Pl) (P:Int) (hP:0≤P∧P≤100000) (h0:0<n) (hn:n≤10) (hx:xs.length≤1000) (hv:∀ p∈xs,okPl n p) (hB:overC xs P 1 0 n≠[]):AC Tryz.prog 44 [grD n xs,I P] H0 (own1 1 (overC xs P 1 0 n).length) (hp1 (IO (cN (overC xs P 1 0 n)))):=by
 have hgo:=fun l h1 h2 h3=>cfOn_ac n xs P hP hn hx hv n l h1 h2 h3
 have hBe:=overW (P:=P) hv h0
 obtain ⟨B,hBB⟩:∃ B,overC xs P 1 0 n=B:=⟨_,rfl⟩
 rw[hBB] at hB hBe ⊢
 generalize hF:(fun i=>if (plA xs i).t<(plA xs i).f then [] else if (plA xs i).t=(plA xs i).f then (if 0<pw P 1 (plA xs i) then [i] else []) else goW xs P n [i])=F at hBe
 rw[show List.range' 0 xs.length=List.range' 0 (xs.length - 0) by simp] at hBe
 refine AC.of_body 0 Tryz.func44 rfl (fun l h=>absurd rfl h) (fun C hC=>?_)
 have hD:∀ l,¬ C.D0 l:=fun l h=>(hC l).1 h rfl
 simp only[startFr,Tryz.ntmps44,List.length_cons,List.length_nil,Nat.reduceAdd,Nat.reduceSub,List.replicate_succ,List.replicate_zero,List.cons_append,List.nil_append]
 repeat' (first|((first|apply Ba|(apply Bb;(· rfl);(· rfl))|(apply Bc;(· exact nxE))|(apply Bd;(· rfl);(· rfl);(· exact nxE)));(· first|exact OpOk.nilCheck rfl rfl|exact Ok.pe))|((first|apply Ca|(apply Cb;(· exact nxE)));(· first|exact Ok.e0))|refine Sx ?_|(refine Sy (fun h=>?_) (fun h=>?_)<;>try (exfalso;omega;done))|refine Sz (fun h=>?_) (fun h=>?_))
 refine AW.loop (X:={k:Nat // k≤xs.length∧B=tryAll F (List.range' k (xs.length - k))}) (fun k=>⟨[Oo,I P,Bx 2 0,Oo,Oo,Oo,Oo,Oo,Oo,Oo,PL xs,I xs.length,I (k.1:Nat),Oo,Oo,Oo,Oo,Oo,Oo,Oo,Oo,Oo,Oo,Oo,Oo,Oo,Oo,Oo,Oo,Oo,Oo,Oo,Oo,Oo,Oo,Oo,Oo,Oo,Oo,Oo,Oo,Oo,Oo,Oo,Oo,Oo,Oo,Oo,Oo,Oo,Oo,Oo,Oo,Oo,Oo,Oo,Oo,Oo,Oo,Oo,Oo,Oo,Oo,Oo,Oo,Oo,Oo,Oo,Oo,Oo,Oo,Oo],heapL [(⟨0,[]⟩,⟨0,[]⟩,⟨2,[[I n,PL xs]]⟩)],900⟩) (fun k=>xs.length - k.1) ⟨0,Nat.zero_le _,hBe⟩ ?_ (fun k=>?_)
 ·
  (apply Le.headZ [_] rfl)
  all_goals (try dsimp only[srcs])
  (case' hfr|hob=>(repeat' (first|refine La ?_ ?_|exact Lc|refine Lo ?_|refine ⟨⟨_,rfl,?_⟩,?_⟩|refine Lx ?_)))
  all_goals (first|(rfl)|exact Ld)
 obtain ⟨k,hk,hinv⟩:=k
 simp only
 by_cases hlt:k<xs.length
 case neg=>
  obtain rfl:k=xs.length:=by omega
  rw[Nat.sub_self] at hinv
  exact absurd hinv hB
 have hrow:=pl_row (n:=0) hlt
 have hpb:=pw_bndP hP (okPl_at hv k hlt)
 have hPW:=placeWeight_ac (plA xs k) P 1 (by have:=okPl_at hv k hlt;unfold okPl at this;omega) (by have:=mul_in hP (okPl_at hv k hlt).2.2.2;omega)
 obtain ⟨⟨g1,g2⟩,⟨g3,g4⟩,_⟩:=okPl_at hv k hlt
 have hFk:F k=if (plA xs k).t<(plA xs k).f then [] else if (plA xs k).t=(plA xs k).f then (if 0<pw P 1 (plA xs k) then [k] else []) else goW xs P n [k]:=by rw[← hF]
 have hvis:∀ e,visB xs [k] e=(decide ((plA xs k).f=e) || decide ((plA xs k).t=e)):=fun e=>by simp[visB]
 have hp1:¬ (plA xs k).t<(plA xs k).f→PathC xs [k]:=fun h=>PathC.one hlt h
 have hgo:=fun h1 h2 h3=>hgo [k] h1 h2 h3
 rw[show firstF xs [k]=(plA xs k).f from rfl,show lastT xs [k]=(plA xs k).t from rfl,show wgt xs P 1 [k]=pw P 1 (plA xs k) by simp[wgt]] at hgo
 clear hF
 generalize hwp:pw P 1 (plA xs k)=wp at *
 clear hwp
 generalize plA xs k=p at *
 obtain ⟨pf,pt,pd,pk⟩:=p
 obtain ⟨a,rfl⟩:∃ f:Nat,pf=f:=⟨pf.toNat,by simp at g1;omega⟩
 obtain ⟨t,rfl⟩:∃ t:Nat,pt=t:=⟨pt.toNat,by simp at g3;omega⟩
 simp only at hrow g2 g4 hFk hvis hp1 hgo hPW
 by_cases hlt2:(t:Int)<(a:Int)
 ·rw[if_pos hlt2] at hFk
  rw[tryAll_no hlt hFk] at hinv
  repeat' (first|((first|apply Ba|(apply Bb;(· rfl);(· rfl))|(apply Bc;(· exact nxE))|(apply Bd;(· rfl);(· rfl);(· exact nxE)));(· first|exact Kz rfl rfl (hPW) (Aa (Ad (Ad (Ad (Ad An)))) (Aa (Ad (Ad An)) An))|exact OpOk.nilCheck rfl rfl|exact Ok.pe))|((first|apply Ca|(apply Cb;(· exact nxE)));(· first|exact Ok.e0))|refine Sx ?_|(refine Sy (fun h=>?_) (fun h=>?_)<;>try (exfalso;omega;done))|refine Sz (fun h=>?_) (fun h=>?_))
  all_goals
   refine ⟨⟨k+1,by omega,hinv⟩,?_,by simp only;omega⟩
   (apply Le.headZ [_] rfl)
   all_goals (try dsimp only[srcs])
   (case' hfr|hob=>(repeat' (first|refine La ?_ ?_|exact Lc|refine Lo ?_|refine ⟨⟨_,rfl,?_⟩,?_⟩|refine Lx ?_)))
   all_goals (first|(rfl)|exact Ld)
 rw[if_neg hlt2] at hFk
 by_cases he:(t:Int)=(a:Int)
 ·rw[if_pos he] at hFk
  by_cases hw0:0<wp
  ·rw[if_pos hw0] at hFk
   have hB1:B=[k]:=by rw[hinv,tryAll_yes hlt (by rw[hFk];simp),hFk]
   rw[hB1]
   repeat' (first|((first|apply Ba|(apply Bb;(· rfl);(· rfl))|(apply Bc;(· exact nxE))|(apply Bd;(· rfl);(· rfl);(· exact nxE)));(· first|exact Kz rfl rfl (hPW) (Aa (Ad (Ad (Ad (Ad An)))) (Aa (Ad (Ad An)) An))|exact OpOk.nilCheck rfl rfl|exact Ok.pe))|((first|apply Ca|(apply Cb;(· exact nxE)));(· first|exact Ok.e0))|refine Sx ?_|(refine Sy (fun h=>?_) (fun h=>?_)<;>try (exfalso;omega;done))|refine Sz (fun h=>?_) (fun h=>?_))
   refine Ya ?_
   (apply Le.head [(⟨0,[]⟩,_,_)])
   (case' hfr|hob=>(repeat' (first|refine La ?_ ?_|exact Lc|refine Lo ?_|refine ⟨⟨_,rfl,?_⟩,?_⟩|refine Lx ?_)))
   all_goals (first|exact Ld|(rfl))
  ·rw[if_neg hw0] at hFk
   rw[tryAll_no hlt hFk] at hinv
   repeat' (first|((first|apply Ba|(apply Bb;(· rfl);(· rfl))|(apply Bc;(· exact nxE))|(apply Bd;(· rfl);(· rfl);(· exact nxE)));(· first|exact Kz rfl rfl (hPW) (Aa (Ad (Ad (Ad (Ad An)))) (Aa (Ad (Ad An)) An))|exact OpOk.nilCheck rfl rfl|exact Ok.pe))|((first|apply Ca|(apply Cb;(· exact nxE)));(· first|exact Ok.e0))|refine Sx ?_|(refine Sy (fun h=>?_) (fun h=>?_)<;>try (exfalso;omega;done))|refine Sz (fun h=>?_) (fun h=>?_))
   all_goals
    refine ⟨⟨k+1,by omega,hinv⟩,?_,by simp only;omega⟩
    (apply Le.headZ [_] rfl)
    all_goals (try dsimp only[srcs])
    (case' hfr|hob=>(repeat' (first|refine La ?_ ?_|exact Lc|refine Lo ?_|refine ⟨⟨_,rfl,?_⟩,?_⟩|refine Lx ?_)))
    all_goals (first|(rfl)|exact Ld)
 rw[if_neg he] at hFk
 have hG:=hgo (hp1 hlt2) he (by simp)
 have hrep:List.replicate n [D.v (.bool false)]=boR n fun _=>false:=by simp[boR,List.map_const']
 have hset1:(List.replicate n [D.v (.bool false)]).set a [D.v (.bool true)]=boR n (fun e=>if e=a then true else false):=by rw[hrep,boR_set]
 have hget1:(List.replicate n [D.v (.bool false)])[a]? = some [D.v (.bool false)]:=by rw[hrep];exact boR_get (show a<n by omega)
 have hget2:=boR_get (g:=fun e=>if e=a then true else false) (show t<n by omega)
 have hset2:(boR n fun e=>if e=a then true else false).set t [D.v (.bool true)]=boR n (seenV xs [k]):=by
  rw[boR_set]
  refine boR_congr fun e _=>?_
  simp only[seenV,hvis]
  by_cases e1:e=t
  ·subst e1;simp
  ·rw[if_neg e1]
   by_cases e2:e=a
   ·subst e2;simp
   ·rw[if_neg e2,decide_eq_false (by omega),decide_eq_false (by omega)];rfl
 by_cases hg:goW xs P n [k]=[]
 ·rw[if_pos hg,hg,decide_eq_false (by simp)] at hG
  rw[hg] at hFk
  rw[tryAll_no hlt hFk] at hinv
  unfold cfH cfHF IO at hG
  generalize seenV xs [k]=sv at *
  repeat' (first|((first|apply Ba|(apply Bb;(· rfl);(· rfl))|(apply Bc;(· exact nxE))|(apply Bd;(· rfl);(· rfl);(· exact nxE)));(· first|exact Kz rfl rfl (hPW) (Aa (Ad (Ad (Ad (Ad An)))) (Aa (Ad (Ad An)) An))|exact Ok.ld1 rfl rfl rfl hget1|exact OpOk.nilCheck rfl rfl|exact Ok.st1 rfl rfl rfl (by rw[List.length_replicate];omega) (congrArg (Option.map List.length) hget1) rfl rfl hset1|exact Ok.st1 rfl rfl rfl (by rw[boR_len];omega) (by rw[hget2];rfl) rfl rfl hset2|exact OpOk.callB3 (b:=⟨942,[]⟩) (p:=⟨937,[]⟩) (q:=⟨940,[]⟩) (x':=.own 1 ⟨940,[]⟩ 0 n) rfl rfl hG rfl rfl rfl (by decide) (by decide) (by decide) rfl (fun g=>congrArg some (rnO_dobj _ _ _)) (by simp[Go.Proofs.YtkpoclbnnpglfaaGreat.rn,emb,thr]) (.cons (AR.ptr _ _ _ _ (by simp)) (.cons (.dd _) (.cons (.dd _) (.cons (.dd _) .nil))))|exact Ok.pe))|((first|apply Ca|(apply Cb;(· exact nxE)));(· first|exact Ok.st1 rfl rfl rfl (by rw[List.length_replicate];omega) (congrArg (Option.map List.length) hget1) rfl rfl hset1|exact Ok.st1 rfl rfl rfl (by rw[boR_len];omega) (by rw[hget2];rfl) rfl rfl hset2|exact OpOk.callB3 (b:=⟨942,[]⟩) (p:=⟨937,[]⟩) (q:=⟨940,[]⟩) (x':=.own 1 ⟨940,[]⟩ 0 n) rfl rfl hG rfl rfl rfl (by decide) (by decide) (by decide) rfl (fun g=>congrArg some (rnO_dobj _ _ _)) (by simp[Go.Proofs.YtkpoclbnnpglfaaGreat.rn,emb,thr]) (.cons (AR.ptr _ _ _ _ (by simp)) (.cons (.dd _) (.cons (.dd _) (.cons (.dd _) .nil))))|exact Ok.e0))|refine Sx ?_|(refine Sy (fun h=>?_) (fun h=>?_)<;>try (exfalso;omega;done))|refine Sz (fun h=>?_) (fun h=>?_))
  refine ⟨⟨k+1,by omega,hinv⟩,?_,by simp only;omega⟩
  (apply Le.headZ [_] rfl)
  all_goals (try dsimp only[srcs])
  (case' hfr|hob=>(repeat' (first|refine La ?_ ?_|exact Lc|refine Lo ?_|refine ⟨⟨_,rfl,?_⟩,?_⟩|refine Lx ?_)))
  all_goals (first|(rfl)|exact Ld)
 ·have hB1:B=goW xs P n [k]:=by rw[hinv,tryAll_yes hlt (by rw[hFk];exact hg),hFk]
  rw[if_neg hg,decide_eq_true hg] at hG
  rw[hB1]
  generalize goW xs P n [k]=c at *
  unfold cfH cfHT IO at hG
  generalize seenV xs [k]=sv at *
  repeat' (first|((first|apply Ba|(apply Bb;(· rfl);(· rfl))|(apply Bc;(· exact nxE))|(apply Bd;(· rfl);(· rfl);(· exact nxE)));(· first|exact Kz rfl rfl (hPW) (Aa (Ad (Ad (Ad (Ad An)))) (Aa (Ad (Ad An)) An))|exact Ok.ld1 rfl rfl rfl hget1|exact OpOk.nilCheck rfl rfl|exact Ok.st1 rfl rfl rfl (by rw[List.length_replicate];omega) (congrArg (Option.map List.length) hget1) rfl rfl hset1|exact Ok.st1 rfl rfl rfl (by rw[boR_len];omega) (by rw[hget2];rfl) rfl rfl hset2|exact OpOk.callB3 (b:=⟨942,[]⟩) (p:=⟨937,[]⟩) (q:=⟨940,[]⟩) (x':=.dead) rfl rfl hG rfl rfl rfl (by decide) (by decide) (by decide) rfl (fun _=>rfl) (by simp[Go.Proofs.YtkpoclbnnpglfaaGreat.rn,emb,thr]) (.cons (AR.ptr _ _ _ _ (by simp)) (.cons (.dd _) (.cons (.dd _) (.cons (.dd _) .nil))))|exact Ok.pe))|((first|apply Ca|(apply Cb;(· exact nxE)));(· first|exact Ok.st1 rfl rfl rfl (by rw[List.length_replicate];omega) (congrArg (Option.map List.length) hget1) rfl rfl hset1|exact Ok.st1 rfl rfl rfl (by rw[boR_len];omega) (by rw[hget2];rfl) rfl rfl hset2|exact OpOk.callB3 (b:=⟨942,[]⟩) (p:=⟨937,[]⟩) (q:=⟨940,[]⟩) (x':=.dead) rfl rfl hG rfl rfl rfl (by decide) (by decide) (by decide) rfl (fun _=>rfl) (by simp[Go.Proofs.YtkpoclbnnpglfaaGreat.rn,emb,thr]) (.cons (AR.ptr _ _ _ _ (by simp)) (.cons (.dd _) (.cons (.dd _) (.cons (.dd _) .nil))))|exact Ok.e0))|refine Sx ?_|(refine Sy (fun h=>?_) (fun h=>?_)<;>try (exfalso;omega;done))|refine Sz (fun h=>?_) (fun h=>?_))
  refine Ya ?_
  (apply Le.head [(⟨0,[]⟩,_,_)])
  (case' hfr|hob=>(repeat' (first|refine La ?_ ?_|exact Lc|refine Lo ?_|refine ⟨⟨_,rfl,?_⟩,?_⟩|refine Lx ?_)))
  all_goals (first|exact Ld|(rfl))
end
section
open Go Go.RowKit
attribute [local irreducible] AL AD AW OpOk Le AC thenQ blockQ EndQ
noncomputable def ccC (ev:Int) (xs:List Pl) (P:Int):Int:=if isEG ev xs=true then (if wi P 0 100000=true then (if overC xs P 1 0 ev.toNat=[] then 4 else 0) else 2) else 1
noncomputable def ccL (ev:Int) (xs:List Pl) (P:Int):List Nat:=if ccC ev xs P=0 then overC xs P 1 0 ev.toNat else []
def prC (ev:Int) (xs:List Pl) (P:Int):Int:=if isEG ev xs=true then (if wi P 0 100000=true then 0 else 2) else 1
theorem checkPeriod_ac [Mode] (ev:Int) (xs:List Pl) (P:Int) (hx:xs.length≤1000):AC Tryz.prog 42 [grD ev xs,I P] H0 (I (prC ev xs P)) H0:=by
 have hE:=iIsEventGraph_ac ev xs (by omega)
 have hW:=within_ac P 0 100000
 unfold prC
 cases hg:isEG ev xs
 ·rw[hg] at hE
  rw[if_neg (by simp)]
  refine AC.of_body 0 Tryz.func42 rfl (fun l h=>absurd rfl h) (fun C hC=>?_)
  have hD:∀ l,¬ C.D0 l:=fun l h=>(hC l).1 h rfl
  simp only[startFr,Tryz.ntmps42,List.length_cons,List.length_nil,Nat.reduceAdd,Nat.reduceSub,List.replicate_succ,List.replicate_zero,List.cons_append,List.nil_append]
  repeat' (first|((first|apply Ba|(apply Bb;(· rfl);(· rfl))|(apply Bc;(· exact nxE))|(apply Bd;(· rfl);(· rfl);(· exact nxE)));(· first|exact Kz rfl rfl (hE) (Aa (Ad (Ad An)) An)|exact Ok.pe))|((first|apply Ca|(apply Cb;(· exact nxE)));(· first|exact Ok.e0))|refine Sx ?_|(refine Sy (fun h=>?_) (fun h=>?_)<;>try (exfalso;omega;done))|refine Sz (fun h=>?_) (fun h=>?_))
  refine Ya ?_
  (apply Le.headZ (hs:=[]) [] rfl)
  all_goals (try dsimp only[srcs])
  (case' hfr=>(repeat' (first|refine La ?_ ?_|exact Lc|refine Lo ?_|refine ⟨⟨_,rfl,?_⟩,?_⟩|refine Lx ?_)))
  all_goals (first|exact Ld|exact trivial|(rfl))
 rw[hg] at hE
 rw[if_pos rfl]
 cases hb:wi P 0 100000
 ·rw[hb] at hW
  rw[if_neg (by simp)]
  refine AC.of_body 0 Tryz.func42 rfl (fun l h=>absurd rfl h) (fun C hC=>?_)
  have hD:∀ l,¬ C.D0 l:=fun l h=>(hC l).1 h rfl
  simp only[startFr,Tryz.ntmps42,List.length_cons,List.length_nil,Nat.reduceAdd,Nat.reduceSub,List.replicate_succ,List.replicate_zero,List.cons_append,List.nil_append]
  repeat' (first|((first|apply Ba|(apply Bb;(· rfl);(· rfl))|(apply Bc;(· exact nxE))|(apply Bd;(· rfl);(· rfl);(· exact nxE)));(· first|exact Kz rfl rfl (hE) (Aa (Ad (Ad An)) An)|exact Kz rfl rfl (hW) (Ad (Ad (Ad An)))|exact Ok.pe))|((first|apply Ca|(apply Cb;(· exact nxE)));(· first|exact Ok.e0))|refine Sx ?_|(refine Sy (fun h=>?_) (fun h=>?_)<;>try (exfalso;omega;done))|refine Sz (fun h=>?_) (fun h=>?_))
  refine Ya ?_
  (apply Le.headZ (hs:=[]) [] rfl)
  all_goals (try dsimp only[srcs])
  (case' hfr=>(repeat' (first|refine La ?_ ?_|exact Lc|refine Lo ?_|refine ⟨⟨_,rfl,?_⟩,?_⟩|refine Lx ?_)))
  all_goals (first|exact Ld|exact trivial|(rfl))
 ·rw[hb] at hW
  rw[if_pos rfl]
  refine AC.of_body 0 Tryz.func42 rfl (fun l h=>absurd rfl h) (fun C hC=>?_)
  have hD:∀ l,¬ C.D0 l:=fun l h=>(hC l).1 h rfl
  simp only[startFr,Tryz.ntmps42,List.length_cons,List.length_nil,Nat.reduceAdd,Nat.reduceSub,List.replicate_succ,List.replicate_zero,List.cons_append,List.nil_append]
  repeat' (first|((first|apply Ba|(apply Bb;(· rfl);(· rfl))|(apply Bc;(· exact nxE))|(apply Bd;(· rfl);(· rfl);(· exact nxE)));(· first|exact Kz rfl rfl (hE) (Aa (Ad (Ad An)) An)|exact Kz rfl rfl (hW) (Ad (Ad (Ad An)))|exact Ok.pe))|((first|apply Ca|(apply Cb;(· exact nxE)));(· first|exact Ok.e0))|refine Sx ?_|(refine Sy (fun h=>?_) (fun h=>?_)<;>try (exfalso;omega;done))|refine Sz (fun h=>?_) (fun h=>?_))
  refine Ya ?_
  (apply Le.headZ (hs:=[]) [] rfl)
  all_goals (try dsimp only[srcs])
  (case' hfr=>(repeat' (first|refine La ?_ ?_|exact Lc|refine Lo ?_|refine ⟨⟨_,rfl,?_⟩,?_⟩|refine Lx ?_)))
  all_goals (first|exact Ld|exact trivial|(rfl))
theorem pr_ok [Mode] {ev:Int}{xs:List Pl}{P:Int} (h:prC ev xs P=0):∃ n:Nat,ev=n∧1≤n∧n≤10∧xs.length≤30∧(∀ p∈xs,okPl n p)∧isEG n xs=true∧(0≤P∧P≤100000):=by
 unfold prC at h
 cases hg:isEG ev xs
 ·rw[hg] at h;simp at h
 ·rw[hg,if_pos rfl] at h
  obtain ⟨n,rfl,g1,g2,g3,hv⟩:=isEG_ok hg
  cases hb:wi P 0 100000
  ·rw[hb] at h;simp at h
  ·exact ⟨n,rfl,g1,g2,g3,hv,hg,wi_iff.1 hb⟩
theorem cc_no [Mode] {ev:Int}{xs:List Pl}{P:Int} (h:prC ev xs P≠0):ccC ev xs P=prC ev xs P∧ccL ev xs P=[]:=by
 have e:ccC ev xs P=prC ev xs P:=by
  unfold ccC
  unfold prC at h ⊢
  cases hg:isEG ev xs
  ·simp
  ·rw[hg,if_pos rfl] at h
   rw[if_pos rfl,if_pos rfl]
   cases hb:wi P 0 100000
   ·simp
   ·rw[hb] at h;simp at h
 exact ⟨e,by unfold ccL;rw[if_neg (by rw[e];exact h)]⟩
theorem cc_yes [Mode] {n:Nat}{xs:List Pl}{P:Int} (h:prC n xs P=0):ccC n xs P=(if overC xs P 1 0 n=[] then 4 else 0)∧ccL n xs P=overC xs P 1 0 n:=by
 obtain ⟨m,hm,_,_,_,_,hg,hb⟩:=pr_ok h
 obtain rfl:n=m:=by omega
 have e:ccC n xs P=(if overC xs P 1 0 n=[] then 4 else 0):=by
  unfold ccC
  rw[hg,if_pos rfl,wi_iff.2 hb,if_pos rfl,Int.toNat_natCast]
 refine ⟨e,?_⟩
 unfold ccL
 rw[e,Int.toNat_natCast]
 by_cases h2:overC xs P 1 0 n=[]
 ·rw[if_pos h2,if_neg (by decide),h2]
 ·rw[if_neg h2,if_pos rfl]
theorem bt_pos [Mode] {n:Nat}{xs:List Pl}{r:Int × Int} (hv:∀ p∈xs,okPl n p) {s:BF} (hb:bfRun xs r (n+1) bf0=some s):0<(btL xs n s).length∧(btL xs n s).length≤n∧∃ (c:List Nat) (u:Int),c≠[]∧Wk xs u c u∧0<wgt xs r.1 r.2 c:=by
 obtain ⟨v,z,L,hF⟩:=bf_found (n:=n) (fun i hi=>by have:=(okPl_at hv i hi).2.1;simp only[plTo];omega) hb
 have hw:Wk xs (z:Nat) (backC s.y (predF xs s.y) z L).reverse (z:Nat):=by
  have:=back_walk (xs:=xs) (y:=s.y) (z:=z) (fun p hp=>⟨(hv p hp).1.1,(hv p hp).2.1.1⟩) hF.ok L
  have e:iter (predF xs s.y) L z=z:=hF.per.back
  rw[show iter (fun v=>plF xs (s.y v)) L z=z from e] at this
  exact this
 have hlen:(backC s.y (predF xs s.y) z L).reverse.length=L:=by simp[backC]
 have hpos:=hF.pos
 rw[← wgt_rev] at hpos
 have hpL:=hF.per.pos
 have hLn:=hF.Ln
 rw[btL_eq hF,hlen]
 exact ⟨hpL,hLn,_,_,fun e=>by rw[e] at hlen;simp at hlen;omega,hw,hpos⟩
theorem better_iff [Mode] {n:Nat}{xs:List Pl}{P:Int} (hv:∀ p∈xs,okPl n p):bfRun xs (P,1) (n+1) bf0=none↔overC xs P 1 0 n=[]:=by
 have hok:okN xs n:=fun i hi=>by have:=(okPl_at hv i hi).2.1;simp only[plTo];omega
 constructor
 ·intro h
  refine Classical.byContradiction fun hne=>?_
  obtain ⟨h1,h2⟩:=overC_sound hne
  have:=(bf_spec hok).1 h _ _ h1.wk
  simp only at this
  omega
 ·intro h
  cases hb:bfRun xs (P,1) (n+1) bf0 with
  | none=>rfl
  | some s=>
   obtain ⟨_,_,c,u,h1,h2,h3⟩:=bt_pos hv hb
   obtain ⟨c',h4,h5⟩:=circ_of_walk1 (rn:=P) (rd:=1) c.length c u (Nat.le_refl _) h1 h2 h3
   exact absurd h (overC_finds h4 (h4.len fun i hi=>(okPl_at hv i hi).1) h5)
theorem better_cs [Mode] (n:Nat) (xs:List Pl) (P:Int) (h0:1≤n) (hn:n≤10) (hx:xs.length≤30) (hv:∀ p∈xs,okPl n p) (hP:0≤P∧P≤100000):(overC xs P 1 0 n=[]∧AC Tryz.prog 43 [grD n xs,.agg [I P,I 1]] H0 nilS H0)∨
  (overC xs P 1 0 n≠[]∧∃ L:List Nat,0<L.length∧L.length≤n∧AC Tryz.prog 43 [grD n xs,.agg [I P,I 1]] H0 (own1 1 L.length) (hp1 (IO (cN L)))):=by
 have hb:=betterCircuit_ac n xs P 1 h0 hn hx hv hP (by omega)
 have hi:=better_iff (n:=n) (P:=P) hv
 cases hbf:bfRun xs (P,1) (n+1) bf0 with
 | none=>
  rw[hbf] at hb
  exact .inl ⟨hi.1 hbf,hb⟩
 | some s=>
  rw[hbf] at hb
  obtain ⟨h1,h2,_⟩:=bt_pos hv hbf
  refine .inr ⟨fun e=>?_,btL xs n s,h1,h2,hb⟩
  rw[hi.2 e] at hbf
  cases hbf
theorem iConflictCircuit_ac [Mode] (ev:Int) (xs:List Pl) (P:Int) (hx:xs.length≤1000):AC Tryz.prog 12 [grD ev xs,I P] H0 (.tup [IL (cN (ccL ev xs P)),I (ccC ev xs P)]) H0:=by
 have hK:=checkPeriod_ac ev xs P hx
 by_cases h0:prC ev xs P=0
 case neg=>
  obtain ⟨e1,e2⟩:=cc_no h0
  rw[e1,e2,show cN []=([]:List Int) from rfl]
  generalize prC ev xs P=c at *
  refine AC.of_body 0 Tryz.func12 rfl (fun l h=>absurd rfl h) (fun C hC=>?_)
  have hD:∀ l,¬ C.D0 l:=fun l h=>(hC l).1 h rfl
  simp only[startFr,Tryz.ntmps12,List.length_cons,List.length_nil,Nat.reduceAdd,Nat.reduceSub,List.replicate_succ,List.replicate_zero,List.cons_append,List.nil_append]
  repeat' (first|((first|apply Ba|(apply Bb;(· rfl);(· rfl))|(apply Bc;(· exact nxE))|(apply Bd;(· rfl);(· rfl);(· exact nxE)));(· first|exact Kz rfl rfl (hK) (Aa (Ad (Ad An)) (Ad An))|exact Ok.pe))|((first|apply Ca|(apply Cb;(· exact nxE)));(· first|exact Ok.e0))|refine Sx ?_|(refine Sy (fun h=>?_) (fun h=>?_)<;>try (exfalso;omega;done))|refine Sz (fun h=>?_) (fun h=>?_))
  refine Yb ?_
  (apply Le.headZ (hs:=[]) [] rfl)
  all_goals (try dsimp only[srcs])
  (case' hfr=>(repeat' (first|refine La ?_ ?_|exact Lc|refine Lo ?_|refine ⟨⟨_,rfl,?_⟩,?_⟩|refine Lx ?_)))
  all_goals (first|exact Ld|exact trivial|(rfl))
 obtain ⟨n,rfl,g1,g2,g3,hv,hg,hp⟩:=pr_ok h0
 obtain ⟨e1,e2⟩:=cc_yes h0
 rw[e1,e2]
 rw[h0] at hK
 rcases better_cs n xs P g1 g2 g3 hv hp with ⟨hb,hB⟩|⟨hb,L,l1,l2,hB⟩
 ·rw[hb,if_pos rfl,show cN []=([]:List Int) from rfl]
  refine AC.of_body 0 Tryz.func12 rfl (fun l h=>absurd rfl h) (fun C hC=>?_)
  have hD:∀ l,¬ C.D0 l:=fun l h=>(hC l).1 h rfl
  simp only[startFr,Tryz.ntmps12,List.length_cons,List.length_nil,Nat.reduceAdd,Nat.reduceSub,List.replicate_succ,List.replicate_zero,List.cons_append,List.nil_append]
  repeat' (first|((first|apply Ba|(apply Bb;(· rfl);(· rfl))|(apply Bc;(· exact nxE))|(apply Bd;(· rfl);(· rfl);(· exact nxE)));(· first|exact Kz rfl rfl (hK) (Aa (Ad (Ad An)) (Ad An))|exact Kz rfl rfl (hB) (Aa (Ad (Ad An)) (Aa (Ad (Ad An)) An))|exact Ok.eqNilV rfl rfl rfl|exact Ok.pe))|((first|apply Ca|(apply Cb;(· exact nxE)));(· first|exact Ok.e0))|refine Sx ?_|(refine Sy (fun h=>?_) (fun h=>?_)<;>try (exfalso;omega;done))|refine Sz (fun h=>?_) (fun h=>?_))
  refine Yb ?_
  (apply Le.headZ (hs:=[]) [] rfl)
  all_goals (try dsimp only[srcs])
  (case' hfr=>(repeat' (first|refine La ?_ ?_|exact Lc|refine Lo ?_|refine ⟨⟨_,rfl,?_⟩,?_⟩|refine Lx ?_)))
  all_goals (first|exact Ld|exact trivial|(rfl))
 ·have hF:=firstConflict_ac n xs P hp (by omega) g2 (by omega) hv hb
  rw[if_neg hb]
  have hlen2:(overC xs P 1 0 n).length≤n:=(overC_sound hb).1.len fun i hi=>(okPl_at hv i hi).1
  clear e1 e2 hb
  generalize overC xs P 1 0 n=c at *
  have hQ:AC Tryz.prog 44 [grD n xs,I P] H0 (IL (cN c)) H0:=hF.frz (AR.whole (lent:=fun _=>True) rfl trivial (by simp))
  refine AC.of_body 0 Tryz.func12 rfl (fun l h=>absurd rfl h) (fun C hC=>?_)
  have hD:∀ l,¬ C.D0 l:=fun l h=>(hC l).1 h rfl
  simp only[startFr,Tryz.ntmps12,List.length_cons,List.length_nil,Nat.reduceAdd,Nat.reduceSub,List.replicate_succ,List.replicate_zero,List.cons_append,List.nil_append]
  repeat' (first|((first|apply Ba|(apply Bb;(· rfl);(· rfl))|(apply Bc;(· exact nxE))|(apply Bd;(· rfl);(· rfl);(· exact nxE)));(· first|exact Kz rfl rfl (hK) (Aa (Ad (Ad An)) (Ad An))|exact Ok.eqNilO rfl rfl rfl (by omega)|exact Kz rfl rfl (hQ) (Aa (Ad (Ad An)) (Ad An))|exact Eo rfl rfl (hB) (Sa (Sd (Sd Sn)) (Sa (Sd (Sd Sn)) Sn))|exact Ok.pe))|((first|apply Ca|(apply Cb;(· exact nxE)));(· first|exact Eo rfl rfl (hB) (Sa (Sd (Sd Sn)) (Sa (Sd (Sd Sn)) Sn))|exact Ok.e0))|refine Sx ?_|(refine Sy (fun h=>?_) (fun h=>?_)<;>try (exfalso;omega;done))|refine Sz (fun h=>?_) (fun h=>?_))
  refine Yb ?_
  (apply Le.headZ (hs:=[]) [] rfl)
  all_goals (try dsimp only[srcs])
  (case' hfr=>(repeat' (first|refine La ?_ ?_|exact Lc|refine Lo ?_|refine ⟨⟨_,rfl,?_⟩,?_⟩|refine Lx ?_)))
  all_goals (first|exact Ld|exact trivial|(rfl))
end
end Go.Proofs.YtkpoclbnnpglfaaGreat
