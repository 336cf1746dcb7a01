/-
  Walks in the abstract reading, part 4.
-/
import Derived.Test.YtkpoclbnnpglfaaGreatKtU2
import Derived.Test.YtkpoclbnnpglfaaGreatKtU3
import Derived.Test.YtkpoclbnnpglfaaGreatKtA2
import Derived.Test.YtkpoclbnnpglfaaGreatKtU1
import Derived.Test.YtkpoclbnnpglfaaGreatKtA3
import Derived.Test.YtkpoclbnnpglfaaGreatKtR1
import Derived.Test.YtkpoclbnnpglfaaGreatKtG3
set_option linter.unusedSimpArgs false
set_option linter.unusedVariables false
namespace Go.Proofs.YtkpoclbnnpglfaaGreat
section
open Go Go.RowKit
attribute [local irreducible] AL AD AW OpOk Le AC thenQ blockQ EndQ
theorem l01Divisor_ac [Mode] (a b:Nat) (ha:a≤1000000000000000000) (hb:b≤1000000000000000000):AC Tryz.prog 98 [I a,I b] H0 (I (Nat.gcd a b:Nat)) H0:=by
 refine AC.of_body 0 Tryz.func98 rfl (fun l h=>absurd rfl h) (fun C hC=>?_)
 have hD:∀ l,¬ C.D0 l:=fun l h=>(hC l).1 h rfl
 simp only[startFr,Tryz.ntmps98,List.length_cons,List.length_nil,Nat.reduceAdd,Nat.reduceSub,List.replicate_succ,List.replicate_zero,List.cons_append,List.nil_append]
 repeat' (first|((first|apply Ba|(apply Bb;(· rfl);(· rfl))|(apply Bc;(· exact nxE))|(apply Bd;(· rfl);(· rfl);(· exact nxE)));(· first|exact Ok.pe))|((first|apply Ca|(apply Cb;(· exact nxE)));(· first|exact Ok.e0))|refine Sx ?_|(refine Sy (fun h=>?_) (fun h=>?_)<;>try (exfalso;omega;done))|refine Sz (fun h=>?_) (fun h=>?_))
 refine AW.loop (X:={p:Nat × Nat // Nat.gcd p.1 p.2=Nat.gcd a b∧p.1≤1000000000000000000∧p.2≤1000000000000000000}) (fun p=>⟨[I (p.1.1:Nat),I (p.1.2:Nat),Oo,Oo,Oo,Oo,Oo,Oo,Oo,Oo,Oo,Oo,Oo,Oo,Oo,Oo,Oo,Oo,Oo,Oo],heapL [],900⟩) (fun p=>p.1.2) ⟨(a,b),rfl,ha,hb⟩ ?_ (fun p=>?_)
 ·
  (apply Le.headZ [] rfl)
  all_goals (try dsimp only[srcs])
  (case' hfr|hob=>(repeat' (first|refine La ?_ ?_|exact Lc|refine Lo ?_|refine ⟨⟨_,rfl,?_⟩,?_⟩|refine Lx ?_)))
  all_goals (first|(rfl)|exact Ld)
 obtain ⟨⟨x,y⟩,hg,hx,hy⟩:=p
 simp only at hg hx hy ⊢
 by_cases h0:0<y
 ·
  repeat' (first|((first|apply Ba|(apply Bb;(· rfl);(· rfl))|(apply Bc;(· exact nxE))|(apply Bd;(· rfl);(· rfl);(· exact nxE)));(· first|exact Ok.rem rfl rfl rfl (by omega)|exact Ok.pe))|((first|apply Ca|(apply Cb;(· exact nxE)));(· first|exact Ok.e0))|refine Sx ?_|(refine Sy (fun h=>?_) (fun h=>?_)<;>try (exfalso;omega;done))|refine Sz (fun h=>?_) (fun h=>?_))
  refine ⟨⟨(y,x % y),by rw[← hg,Nat.gcd_comm y (x % y),← Nat.gcd_rec,Nat.gcd_comm],hy,by have:=Nat.mod_lt x h0;simp only;omega⟩,?_,by simp only;exact Nat.mod_lt x h0⟩
  (apply Le.headZ [] rfl)
  all_goals (try dsimp only[srcs])
  (case' hfr|hob=>(repeat' (first|refine La ?_ ?_|exact Lc|refine Lo ?_|refine ⟨⟨_,rfl,?_⟩,?_⟩|refine Lx ?_)))
  all_goals (first|(rfl)|exact Ld)
 ·
  obtain rfl:y=0:=by omega
  rw[Nat.gcd_zero_right] at hg
  subst hg
  repeat' (first|((first|apply Ba|(apply Bb;(· rfl);(· rfl))|(apply Bc;(· exact nxE))|(apply Bd;(· rfl);(· rfl);(· exact nxE)));(· first|exact Ok.pe))|((first|apply Ca|(apply Cb;(· exact nxE)));(· first|exact Ok.e0))|refine Sx ?_|(refine Sy (fun h=>?_) (fun h=>?_)<;>try (exfalso;omega;done))|refine Sz (fun h=>?_) (fun h=>?_))
  refine Ya ?_
  (apply Le.headZ (hs:=[]) [] rfl)
  all_goals (try dsimp only[srcs])
  (case' hfr=>(repeat' (first|refine La ?_ ?_|exact Lc|refine Lo ?_|refine ⟨⟨_,rfl,?_⟩,?_⟩|refine Lx ?_)))
  all_goals (first|exact Ld|exact trivial|(rfl))
theorem redR_div [Mode] {d m:Int} (hd:0≤d) (hm:0<m):d.tdiv ((Nat.gcd d.toNat m.toNat:Nat):Int)=(redR d m).1∧m.tdiv ((Nat.gcd d.toNat m.toNat:Nat):Int)=(redR d m).2∧0<((Nat.gcd d.toNat m.toNat:Nat):Int):=by
 have e:Nat.gcd d.toNat m.toNat=Int.gcd d m:=by
  unfold Int.gcd
  congr 1<;>omega
 rw[e]
 refine ⟨Int.tdiv_eq_ediv_of_nonneg hd,Int.tdiv_eq_ediv_of_nonneg (Int.le_of_lt hm),(redR_ok (d:=d) hm).2.2.2.2⟩
theorem l01Ratio_ac [Mode] (d m:Int) (hd:0≤d∧d≤1000000000000000) (hm:0<m∧m≤1000000000000000):AC Tryz.prog 40 [I d,I m] H0 (.agg [I (redR d m).1,I (redR d m).2]) H0:=by
 obtain ⟨e1,e2,e3⟩:=redR_div hd.1 hm.1
 have hG:=l01Divisor_ac d.toNat m.toNat (by omega) (by omega)
 rw[Int.toNat_of_nonneg hd.1,Int.toNat_of_nonneg (Int.le_of_lt hm.1)] at hG
 rw[← e1,← e2]
 generalize ((Nat.gcd d.toNat m.toNat:Nat):Int)=g at *
 refine AC.of_body 0 Tryz.func40 rfl (fun l h=>absurd rfl h) (fun C hC=>?_)
 have hD:∀ l,¬ C.D0 l:=fun l h=>(hC l).1 h rfl
 simp only[startFr,Tryz.ntmps40,List.length_cons,List.length_nil,Nat.reduceAdd,Nat.reduceSub,List.replicate_succ,List.replicate_zero,List.cons_append,List.nil_append]
 repeat' (first|((first|apply Ba|(apply Bb;(· rfl);(· rfl))|(apply Bc;(· exact nxE))|(apply Bd;(· rfl);(· rfl);(· exact nxE)));(· first|exact Kz rfl rfl (hG) (Ad (Ad An))|exact Ok.quo rfl rfl rfl (by omega) (by omega) (by omega)|exact Ok.pe))|((first|apply Ca|(apply Cb;(· exact nxE)));(· first|exact Ok.e0))|refine Sx ?_|(refine Sy (fun h=>?_) (fun h=>?_)<;>try (exfalso;omega;done))|refine Sz (fun h=>?_) (fun h=>?_))
 (refine end1p (by first|exact .inl rfl|exact .inr rfl) rfl (by first|exact rT rfl|exact rCA rfl rfl rfl rfl (by simp)|exact rCC rfl rfl rfl rfl rfl) ?_ (Le.head ([]) (by first|exact fun l h=>absurd h (hD l)|(intro l h;rcases hD l h with rfl;simp[tauL])|(intro l h;rcases hD l h with rfl|rfl<;>simp[tauL];done)|(intro l h;rcases hD l h with rfl|rfl|rfl<;>simp[tauL])) ?_ ?_ (by simp) (by simp) (by simp[AllP]) (n':=1000));(· rfl))<;>(repeat' (first|exact trivial|exact ARs.nil|refine ARs.cons ?_ ?_|exact AR.dead _|exact AR.dd _|exact AR.i (by (try dsimp only);omega)|exact AR.ptr _ _ _ _ (by simp[heapL,upd])|exact AR.own _ _ _ _ (by simp[heapL,upd])|refine AR.ownE _ _ _ ?_ (by simp[heapL,upd])|refine ⟨⟨_,rfl,?_⟩,?_⟩|exact ObA.data|refine ObA.box ?_|refine ObA.frE ?_|refine ObA.dataE ?_|refine ARs.agg ?_|refine ARs.tup ?_|exact AR.clo' ARs.nil ARs.nil|exact AR.clo' ARs.nil (hca _ _)))
theorem redR_of_zero [Mode] {xs:List Pl}{r:Int × Int}{c:List Nat} (h1:0<r.2) (h2:Int.gcd r.1 r.2=1) (hk:0<sumT xs c) (h:wgt xs r.1 r.2 c=0):redR (sumD xs c) (sumT xs c)=r:=by
 obtain ⟨g1,g2,g3,g4,g5⟩:=redR_ok (d:=sumD xs c) hk
 rw[wgt_sums] at h
 generalize (Int.gcd (sumD xs c) (sumT xs c):Int)=g at g3 g4 g5
 generalize redR (sumD xs c) (sumT xs c)=s at *
 rw[← g3,← g4] at h
 have e:g*(s.1*r.2)=g*(r.1*s.2):=by
  have e1:r.2*(g*s.1)=g*(s.1*r.2):=by rw[Int.mul_left_comm,Int.mul_comm r.2]
  have e2:r.1*(g*s.2)=g*(r.1*s.2):=by rw[Int.mul_left_comm]
  omega
 have e2:=Int.eq_of_mul_eq_mul_left (by omega) e
 obtain ⟨e3,e4⟩:=frac_eq g1 h1 g2 h2 e2
 exact Prod.ext e3 e4
theorem live_of [Mode] {n:Nat}{xs:List Pl} (hv:∀ p∈xs,okPl n p) (hl:liveB n xs=true):Live xs n:=by
 have h1:=liveB_ord hv
 rw[hl] at h1
 obtain ⟨ord,ho⟩:=Option.isSome_iff_exists.1 h1.symm
 obtain ⟨_,h2,_⟩:=ord_idx ho
 refine ⟨fun i hi=>okPl_at hv i hi,fun c u hc hw=>walk_tok (pos:=fun e=>(ord.idxOf e.toNat:Int)) (fun i hi=>(okPl_at hv i hi).2.2.2.1) (fun i hi hk=>?_) hc hw⟩
 have ⟨⟨g1,g2⟩,⟨g3,g4⟩,_⟩:=okPl_at hv i hi
 have:=h2 (plA xs i).t.toNat (plA xs i).f.toNat (by omega) (by omega) (by
  unfold wPl
  rw[List.any_eq_true]
  exact ⟨plA xs i,by unfold plA;rw[List.getElem?_eq_getElem hi];exact List.getElem_mem hi,by simp[hk,Int.toNat_of_nonneg g1,Int.toNat_of_nonneg g3]⟩)
 omega
theorem Live.over [Mode] {n:Nat}{xs:List Pl} (hl:Live xs n) {u1 u2 over:Int}{c:List Nat} (hc:Circ xs c) (hw:over<wgt xs u1 u2 c):overC xs u1 u2 over n≠[]:=overC_finds hc (hl.circ hc).1 hw
theorem Live.over0 [Mode] {n:Nat}{xs:List Pl} (hl:Live xs n):overC xs 0 1 (-1) n≠[]↔hasC xs:=by
 constructor
 ·intro h;exact ⟨_,(overC_sound h).1⟩
 ·rintro ⟨c,hc⟩
  refine hl.over hc ?_
  rw[wgt_sums]
  have:=(hl.circ hc).2.1.1
  omega
theorem Live.max_of [Mode] {n:Nat}{xs:List Pl} (hl:Live xs n) (hn:n≤10) {c:List Nat} (hc:Circ xs c) (h0:overC xs (redR (sumD xs c) (sumT xs c)).1 (redR (sumD xs c) (sumT xs c)).2 0 n=[]):MaxR xs (redR (sumD xs c) (sumT xs c)):=by
 have hk:=(hl.circ hc).2.2.1
 obtain ⟨_,⟨g1,_⟩,g2⟩:=hl.red hn (hl.circ hc).1 hc.wk.lt hk
 refine ⟨g1,g2,fun c' hc'=>?_,c,hc,wgt_redR hk⟩
 apply Classical.byContradiction
 intro hlt
 exact hl.over hc' (by omega) h0
set_option maxHeartbeats 1000000 in
theorem l15Best_no [Mode] (ev:Int) (n:Nat) (xs:List Pl) (hn:n≤10) (hx:xs.length≤1000) (hv:∀ p∈xs,okPl n p) (hl:Live xs n) (hc:¬ hasC xs):AC Tryz.prog 91 [grD ev xs] H0 (.tup [IL [],Bo false]) H0:=by
 have h0:overC xs 0 1 (-1) n=[]:=Classical.byContradiction fun h=>hc (hl.over0.1 h)
 have hO:=l15Over_ac ev n xs 0 1 (-1) hn hx hv (by omega) (by omega)
 rw[h0] at hO
 refine AC.of_body 0 Tryz.func91 rfl (fun l h=>absurd rfl h) (fun C hC=>?_)
 have hD:∀ l,¬ C.D0 l:=fun l h=>(hC l).1 h rfl
 simp only[startFr,Tryz.ntmps91,List.length_cons,List.length_nil,Nat.reduceAdd,Nat.reduceSub,List.replicate_succ,List.replicate_zero,List.cons_append,List.nil_append]
 repeat' (first|((first|apply Ba|(apply Bb;(· rfl);(· rfl))|(apply Bc;(· exact nxE))|(apply Bd;(· rfl);(· rfl);(· exact nxE)));(· first|exact Kz rfl rfl (hO) (Aa (Ad (Ad An)) (Aa (Ad (Ad An)) (Ad An)))|exact Ok.pe))|((first|apply Ca|(apply Cb;(· exact nxE)));(· first|exact Ok.e0))|refine Sx ?_|(refine Sy (fun h=>?_) (fun h=>?_)<;>try (exfalso;omega;done))|refine Sz (fun h=>?_) (fun h=>?_))
 refine AW.loop (X:=Unit) (fun _=>⟨[Oo,Bx 2 0,Oo,Oo,IL [],Oo,Oo,Oo,Oo,Oo,Oo,Oo,Oo,Oo,Oo,Oo,Oo,Oo,Oo,Oo,Oo,Oo,Oo,Oo,Oo,Oo,Oo,Oo,Oo,Oo,Oo,Oo,Oo,Oo],heapL [(⟨0,[]⟩,⟨0,[]⟩,⟨2,[[I ev,PL xs]]⟩)],900⟩) (fun _=>0) () ?_ (fun _=>?_)
 ·
  (apply Le.headZ [_] rfl)
  all_goals (try dsimp only[srcs])
  (case' hfr|hob=>(repeat' (first|refine La ?_ ?_|exact Lc|refine Lo ?_|refine ⟨⟨_,rfl,?_⟩,?_⟩|refine Lx ?_)))
  all_goals (first|(rfl)|exact Ld)
 ·
  repeat' (first|((first|apply Ba|(apply Bb;(· rfl);(· rfl))|(apply Bc;(· exact nxE))|(apply Bd;(· rfl);(· rfl);(· exact nxE)));(· first|exact Ok.pe))|((first|apply Ca|(apply Cb;(· exact nxE)));(· first|exact Ok.e0))|refine Sx ?_|(refine Sy (fun h=>?_) (fun h=>?_)<;>try (exfalso;omega;done))|refine Sz (fun h=>?_) (fun h=>?_))
  refine Yb ?_
  (apply Le.headZ (hs:=[]) [] rfl)
  all_goals (try dsimp only[srcs])
  (case' hfr=>(repeat' (first|refine La ?_ ?_|exact Lc|refine Lo ?_|refine ⟨⟨_,rfl,?_⟩,?_⟩|refine Lx ?_)))
  all_goals (first|exact Ld|exact trivial|(rfl))
set_option maxHeartbeats 2000000 in
theorem l15Best_yes [Mode] (ev:Int) (n:Nat) (xs:List Pl) (hn:n≤10) (hx:xs.length≤1000) (hv:∀ p∈xs,okPl n p) (hl:Live xs n) (hc:hasC xs):AC Tryz.prog 91 [grD ev xs] H0 (.tup [IL (cN (overC xs (maxR xs).1 (maxR xs).2 (-1) n)),Bo true]) H0:=by
 have h0:=hl.over0.2 hc
 have hO:=l15Over_ac ev n xs 0 1 (-1) hn hx hv (by omega) (by omega)
 refine AC.of_body 0 Tryz.func91 rfl (fun l h=>absurd rfl h) (fun C hC=>?_)
 have hD:∀ l,¬ C.D0 l:=fun l h=>(hC l).1 h rfl
 simp only[startFr,Tryz.ntmps91,List.length_cons,List.length_nil,Nat.reduceAdd,Nat.reduceSub,List.replicate_succ,List.replicate_zero,List.cons_append,List.nil_append]
 repeat' (first|((first|apply Ba|(apply Bb;(· rfl);(· rfl))|(apply Bc;(· exact nxE))|(apply Bd;(· rfl);(· rfl);(· exact nxE)));(· first|exact Kz rfl rfl (hO) (Aa (Ad (Ad An)) (Aa (Ad (Ad An)) (Ad An)))|exact Ok.pe))|((first|apply Ca|(apply Cb;(· exact nxE)));(· first|exact Ok.e0))|refine Sx ?_|(refine Sy (fun h=>?_) (fun h=>?_)<;>try (exfalso;omega;done))|refine Sz (fun h=>?_) (fun h=>?_))
 refine AW.loop (X:={c:List Nat // Circ xs c}) (fun c=>⟨[Oo,Bx 2 0,Oo,Oo,IL (cN c.1),Oo,Oo,Oo,Oo,Oo,Oo,Oo,Oo,Oo,Oo,Oo,Oo,Oo,Oo,Oo,Oo,Oo,Oo,Oo,Oo,Oo,Oo,Oo,Oo,Oo,Oo,Oo,Oo,Oo],heapL [(⟨0,[]⟩,⟨0,[]⟩,⟨2,[[I ev,PL xs]]⟩)],900⟩) (fun c=>(1000000000000 - rank 1000 (redR (sumD xs c.1) (sumT xs c.1))).toNat) ⟨_,(overC_sound h0).1⟩ ?_ (fun c=>?_)
 ·
  (apply Le.headZ [_] rfl)
  all_goals (try dsimp only[srcs])
  (case' hfr|hob=>(repeat' (first|refine La ?_ ?_|exact Lc|refine Lo ?_|refine ⟨⟨_,rfl,?_⟩,?_⟩|refine Lx ?_)))
  all_goals (first|(rfl)|exact Ld)
 obtain ⟨c,hcc⟩:=c
 simp only
 obtain ⟨g1,⟨g2,g3⟩,⟨g4,g5⟩⟩:=hl.circ hcc
 obtain ⟨⟨r1,r2⟩,⟨r3,r4⟩,r5⟩:=hl.red hn g1 hcc.wk.lt g4
 have hS:=l15Sums_ac ev n xs c (by omega) hv hcc.wk.lt (by omega)
 have hR:=l01Ratio_ac (sumD xs c) (sumT xs c) (by omega) (by omega)
 have hO1:=l15Over_ac ev n xs (redR (sumD xs c) (sumT xs c)).1 (redR (sumD xs c) (sumT xs c)).2 0 hn hx hv (by omega) (by omega)
 have hO2:=l15Over_ac ev n xs (redR (sumD xs c) (sumT xs c)).1 (redR (sumD xs c) (sumT xs c)).2 (-1) hn hx hv (by omega) (by omega)
 have hne:0<c.length:=List.length_pos_iff.2 hcc.ne
 have hcl:(IR (cN c)).length=c.length:=by simp
 by_cases hz:overC xs (redR (sumD xs c) (sumT xs c)).1 (redR (sumD xs c) (sumT xs c)).2 0 n=[]
 ·rw[maxR_eq hl (hl.max_of hn hcc hz)]
  rw[hz] at hO1
  generalize redR (sumD xs c) (sumT xs c)=r at *
  obtain ⟨q1,q2⟩:=r
  simp only at *
  repeat' (first|((first|apply Ba|(apply Bb;(· rfl);(· rfl))|(apply Bc;(· exact nxE))|(apply Bd;(· rfl);(· rfl);(· exact nxE)));(· first|exact Kz rfl rfl (hS) (Aa (Ad (Ad An)) (Ad An))|exact Kz rfl rfl (hR) (Ad (Ad An))|exact Kz rfl rfl (hO1) (Aa (Ad (Ad An)) (Aa (Ad (Ad An)) (Ad An)))|exact Kz rfl rfl (hO2) (Aa (Ad (Ad An)) (Aa (Ad (Ad An)) (Ad An)))|exact Ok.pe))|((first|apply Ca|(apply Cb;(· exact nxE)));(· first|exact Ok.e0))|refine Sx ?_|(refine Sy (fun h=>?_) (fun h=>?_)<;>try (exfalso;omega;done))|refine Sz (fun h=>?_) (fun h=>?_))
  refine Yb ?_
  (apply Le.headZ (hs:=[]) [] rfl)
  all_goals (try dsimp only[srcs])
  (case' hfr=>(repeat' (first|refine La ?_ ?_|exact Lc|refine Lo ?_|refine ⟨⟨_,rfl,?_⟩,?_⟩|refine Lx ?_)))
  all_goals (first|exact Ld|exact trivial|(rfl))
 ·obtain ⟨s1,s2⟩:=overC_sound hz
  obtain ⟨k1,_,⟨k4,k5⟩⟩:=hl.circ s1
  have hrank:=rank_redR (M:=1000) (r:=redR (sumD xs c) (sumT xs c)) (by omega) (by omega) k4 (by omega) s2
  have hsn:=hl.red hn k1 s1.wk.lt k4
  have hup:rank 1000 (redR (sumD xs (overC xs (redR (sumD xs c) (sumT xs c)).1 (redR (sumD xs c) (sumT xs c)).2 0 n)) (sumT xs (overC xs (redR (sumD xs c) (sumT xs c)).1 (redR (sumD xs c) (sumT xs c)).2 0 n)))≤100000*1000000:=by
   unfold rank
   refine Int.le_trans (Int.ediv_le_self _ (Int.mul_nonneg (by omega) (by omega))) ?_
   omega
  have hlen:0<(overC xs (redR (sumD xs c) (sumT xs c)).1 (redR (sumD xs c) (sumT xs c)).2 0 n).length:=List.length_pos_iff.2 hz
  generalize overC xs (redR (sumD xs c) (sumT xs c)).1 (redR (sumD xs c) (sumT xs c)).2 0 n=nx at *
  have hrk:rank 1000 (redR (sumD xs c) (sumT xs c))<rank 1000 (redR (sumD xs nx) (sumT xs nx)):=hrank
  have hnl:(IR (cN nx)).length=nx.length:=by simp
  generalize redR (sumD xs c) (sumT xs c)=r at *
  obtain ⟨q1,q2⟩:=r
  simp only at *
  repeat' (first|((first|apply Ba|(apply Bb;(· rfl);(· rfl))|(apply Bc;(· exact nxE))|(apply Bd;(· rfl);(· rfl);(· exact nxE)));(· first|exact Kz rfl rfl (hS) (Aa (Ad (Ad An)) (Ad An))|exact Kz rfl rfl (hR) (Ad (Ad An))|exact Kz rfl rfl (hO1) (Aa (Ad (Ad An)) (Aa (Ad (Ad An)) (Ad An)))|exact Ok.pe))|((first|apply Ca|(apply Cb;(· exact nxE)));(· first|exact Ok.e0))|refine Sx ?_|(refine Sy (fun h=>?_) (fun h=>?_)<;>try (exfalso;omega;done))|refine Sz (fun h=>?_) (fun h=>?_))
  refine ⟨⟨nx,s1⟩,?_,by simp only;omega⟩
  (apply Le.headZ [_] rfl)
  all_goals (try dsimp only[srcs])
  (case' hfr|hob=>(repeat' (first|refine La ?_ ?_|exact Lc|refine Lo ?_|refine ⟨⟨_,rfl,?_⟩,?_⟩|refine Lx ?_)))
  all_goals (first|(rfl)|exact Ld)
end
section
open Go Go.RowKit
attribute [local irreducible] AL AD AW OpOk Le AC thenQ blockQ EndQ
end
section
open Go Go.RowKit
attribute [local irreducible] AL AD AW OpOk Le AC thenQ blockQ EndQ
noncomputable def bcC (ev:Int) (xs:List Pl):Int:=open Classical in if liveI ev xs=0 then (if hasC xs then 0 else 4) else liveI ev xs
noncomputable def bcL (ev:Int) (xs:List Pl):List Nat:=if bcC ev xs=0 then overC xs (maxR xs).1 (maxR xs).2 (-1) ev.toNat else []
noncomputable def ctR (ev:Int) (xs:List Pl):Int × Int:=if bcC ev xs=0 then maxR xs else (0,0)
theorem live_ok [Mode] {ev:Int}{xs:List Pl} (h:liveI ev xs=0):∃ n:Nat,ev=n∧1≤n∧n≤10∧xs.length≤30∧(∀ p∈xs,okPl n p)∧Live xs n:=by
 unfold liveI at h
 by_cases hg:isEG ev xs=true
 ·obtain ⟨n,rfl,h1,h2,h3,h4⟩:=isEG_ok hg
  rw[if_pos hg] at h
  cases hl:liveB n xs
  ·rw[hl] at h;simp at h
  ·exact ⟨n,rfl,h1,h2,h3,h4,live_of h4 hl⟩
 ·rw[if_neg hg] at h;simp at h
theorem Live.isMax [Mode] {n:Nat}{xs:List Pl} (hl:Live xs n) (hn:n≤10) (hc:hasC xs):MaxR xs (maxR xs):=by
 obtain ⟨c0,h0⟩:=hc
 have key:∀ (m:Nat) (c:List Nat),Circ xs c→(1000000000000 - rank 1000 (redR (sumD xs c) (sumT xs c))).toNat≤m→∃ r,MaxR xs r:=by
  intro m
  induction m with
  | zero=>
   intro c hcc hm
   obtain ⟨g1,⟨g2,g3⟩,⟨g4,g5⟩⟩:=hl.circ hcc
   obtain ⟨⟨r1,r2⟩,⟨r3,r4⟩,r5⟩:=hl.red hn g1 hcc.wk.lt g4
   have hup:rank 1000 (redR (sumD xs c) (sumT xs c))≤100000*1000000:=by
    unfold rank
    refine Int.le_trans (Int.ediv_le_self _ (Int.mul_nonneg (by omega) (by omega))) ?_
    omega
   omega
  | succ m ih=>
   intro c hcc hm
   obtain ⟨g1,⟨g2,g3⟩,⟨g4,g5⟩⟩:=hl.circ hcc
   obtain ⟨⟨r1,r2⟩,⟨r3,r4⟩,r5⟩:=hl.red hn g1 hcc.wk.lt g4
   by_cases hz:overC xs (redR (sumD xs c) (sumT xs c)).1 (redR (sumD xs c) (sumT xs c)).2 0 n=[]
   ·exact ⟨_,hl.max_of hn hcc hz⟩
   ·obtain ⟨s1,s2⟩:=overC_sound hz
    obtain ⟨k1,_,⟨k4,k5⟩⟩:=hl.circ s1
    have hrank:=rank_redR (M:=1000) (r:=redR (sumD xs c) (sumT xs c)) (by omega) (by omega) k4 (by omega) s2
    exact ih _ s1 (by omega)
 obtain ⟨r,hr⟩:=key _ c0 h0 (Nat.le_refl _)
 rw[maxR_eq hl hr]
 exact hr
theorem Live.best [Mode] {n:Nat}{xs:List Pl} (hl:Live xs n) (hn:n≤10) (hc:hasC xs):∃ c,overC xs (maxR xs).1 (maxR xs).2 (-1) n=c∧Circ xs c∧redR (sumD xs c) (sumT xs c)=maxR xs:=by
 have hm:=hl.isMax hn hc
 obtain ⟨c,h1,h2⟩:=hm.eq
 obtain ⟨h3,h4⟩:=overC_sound (hl.over (u1:=(Go.Proofs.YtkpoclbnnpglfaaGreat.maxR xs).1) (u2:=(Go.Proofs.YtkpoclbnnpglfaaGreat.maxR xs).2) (over:=-1) h1 (by omega))
 refine ⟨_,rfl,h3,?_⟩
 have:=hm.le _ h3
 exact redR_of_zero hm.pos hm.red (hl.circ h3).2.2.1 (by omega)
set_option maxHeartbeats 1000000 in
theorem BestCircuit_ac [Mode] (ev:Int) (xs:List Pl) (hx:xs.length≤100000000):AC Tryz.prog 37 [grD ev xs] H0 (.tup [IL (cN (bcL ev xs)),I (bcC ev xs)]) H0:=by
 have hL:=l12Live_ac ev xs hx
 by_cases h0:liveI ev xs=0
 ·obtain ⟨n,rfl,h1,h2,h3,h4,h5⟩:=live_ok h0
  rw[h0] at hL
  by_cases hc:hasC xs
  ·have hC:bcC n xs=0:=by unfold bcC;rw[if_pos h0,if_pos hc]
   unfold bcL
   rw[hC,if_pos rfl,Int.toNat_natCast]
   have hB:=l15Best_yes n n xs h2 (by omega) h4 h5 hc
   generalize overC xs (maxR xs).1 (maxR xs).2 (-1) n=c at hB
   refine AC.of_body 0 Tryz.func37 rfl (fun l h=>absurd rfl h) (fun C hC=>?_)
   have hD:∀ l,¬ C.D0 l:=fun l h=>(hC l).1 h rfl
   simp only[startFr,Tryz.ntmps37,List.length_cons,List.length_nil,Nat.reduceAdd,Nat.reduceSub,List.replicate_succ,List.replicate_zero,List.cons_append,List.nil_append]
   repeat' (first|((first|apply Ba|(apply Bb;(· rfl);(· rfl))|(apply Bc;(· exact nxE))|(apply Bd;(· rfl);(· rfl);(· exact nxE)));(· first|exact Kz rfl rfl (hL) (Aa (Ad (Ad An)) An)|exact Kz rfl rfl (hB) (Aa (Ad (Ad An)) An)|exact Ok.pe))|((first|apply Ca|(apply Cb;(· exact nxE)));(· first|exact Ok.e0))|refine Sx ?_|(refine Sy (fun h=>?_) (fun h=>?_)<;>try (exfalso;omega;done))|refine Sz (fun h=>?_) (fun h=>?_))
   refine Yb ?_
   (apply Le.headZ (hs:=[]) [] rfl)
   all_goals (try dsimp only[srcs])
   (case' hfr=>(repeat' (first|refine La ?_ ?_|exact Lc|refine Lo ?_|refine ⟨⟨_,rfl,?_⟩,?_⟩|refine Lx ?_)))
   all_goals (first|exact Ld|exact trivial|(rfl))
  ·have hC:bcC n xs=4:=by unfold bcC;rw[if_pos h0,if_neg hc]
   unfold bcL
   rw[hC,if_neg (by decide)]
   have hB:=l15Best_no n n xs h2 (by omega) h4 h5 hc
   refine AC.of_body 0 Tryz.func37 rfl (fun l h=>absurd rfl h) (fun C hC=>?_)
   have hD:∀ l,¬ C.D0 l:=fun l h=>(hC l).1 h rfl
   simp only[startFr,Tryz.ntmps37,List.length_cons,List.length_nil,Nat.reduceAdd,Nat.reduceSub,List.replicate_succ,List.replicate_zero,List.cons_append,List.nil_append]
   repeat' (first|((first|apply Ba|(apply Bb;(· rfl);(· rfl))|(apply Bc;(· exact nxE))|(apply Bd;(· rfl);(· rfl);(· exact nxE)));(· first|exact Kz rfl rfl (hL) (Aa (Ad (Ad An)) An)|exact Kz rfl rfl (hB) (Aa (Ad (Ad An)) An)|exact Ok.pe))|((first|apply Ca|(apply Cb;(· exact nxE)));(· first|exact Ok.e0))|refine Sx ?_|(refine Sy (fun h=>?_) (fun h=>?_)<;>try (exfalso;omega;done))|refine Sz (fun h=>?_) (fun h=>?_))
   refine Yb ?_
   (apply Le.headZ (hs:=[]) [] rfl)
   all_goals (try dsimp only[srcs])
   (case' hfr=>(repeat' (first|refine La ?_ ?_|exact Lc|refine Lo ?_|refine ⟨⟨_,rfl,?_⟩,?_⟩|refine Lx ?_)))
   all_goals (first|exact Ld|exact trivial|(rfl))
 ·have hC:bcC ev xs=liveI ev xs:=by unfold bcC;rw[if_neg h0]
  unfold bcL
  rw[hC,if_neg h0]
  refine AC.of_body 0 Tryz.func37 rfl (fun l h=>absurd rfl h) (fun C hC=>?_)
  have hD:∀ l,¬ C.D0 l:=fun l h=>(hC l).1 h rfl
  simp only[startFr,Tryz.ntmps37,List.length_cons,List.length_nil,Nat.reduceAdd,Nat.reduceSub,List.replicate_succ,List.replicate_zero,List.cons_append,List.nil_append]
  repeat' (first|((first|apply Ba|(apply Bb;(· rfl);(· rfl))|(apply Bc;(· exact nxE))|(apply Bd;(· rfl);(· rfl);(· exact nxE)));(· first|exact Kz rfl rfl (hL) (Aa (Ad (Ad An)) An)|exact Ok.pe))|((first|apply Ca|(apply Cb;(· exact nxE)));(· first|exact Ok.e0))|refine Sx ?_|(refine Sy (fun h=>?_) (fun h=>?_)<;>try (exfalso;omega;done))|refine Sz (fun h=>?_) (fun h=>?_))
  refine Yb ?_
  (apply Le.headZ (hs:=[]) [] rfl)
  all_goals (try dsimp only[srcs])
  (case' hfr=>(repeat' (first|refine La ?_ ?_|exact Lc|refine Lo ?_|refine ⟨⟨_,rfl,?_⟩,?_⟩|refine Lx ?_)))
  all_goals (first|exact Ld|exact trivial|(rfl))
theorem ownPl_row [Mode] {xs:List Pl}{i:Nat} (hi:i<xs.length):(dobj 4 (xs.map Pl.row)).rows[0+((i:Nat):Int).toNat]? = some [I (plA xs i).f,I (plA xs i).t,I (plA xs i).d,I (plA xs i).k]:=by
 simp[dobj,plA,hi,Pl.row]
theorem ownPl_set [Mode] {xs:List Pl}{i:Nat}{p:Pl}:(dobj 4 (xs.map Pl.row)).rows.set (0+((i:Nat):Int).toNat) [I p.f,I p.t,I p.d,I p.k]=((xs.set i p).map Pl.row).map fun r=>r.map .d:=by
 simp[dobj,List.map_set,Pl.row]
end
section
open Go Go.RowKit
attribute [local irreducible] AL AD AW OpOk Le AC thenQ blockQ EndQ
abbrev srcO (code:List Int) (s:Src):AObj:=dobj 3 (srcR code s)
abbrev PO (xs:List Pl):AObj:=dobj 4 (xs.map Pl.row)
theorem next_ex [Mode] {code:List Int} (hc:CodeOk code) {s:Src} (hs:SrcOk code s) (n:Int):∃ a s',0≤a∧a≤max (n - 1) 0∧SrcOk code s'∧nxt code s n=(a,s')∧AC Tryz.prog 60 [Bx 3 0,I n] (srcH code s) (I a) (srcH code s'):=
 ⟨(nxt code s n).1,(nxt code s n).2,(nxt_ok hc hs n).1,(nxt_ok hc hs n).2.1,(nxt_ok hc hs n).2.2,rfl,l01Next_ac code hc s hs n⟩
theorem pick_ex [Mode] {code:List Int} (hc:CodeOk code) {s:Src} (hs:SrcOk code s) (xs:List Int) (n:Int) (hn:(xs.length:Int)=n) (h0:0<xs.length:=by simp) (hx:xs.length≤100:=by simp) :
  ∃ v s',v∈xs∧SrcOk code s'∧pick code s xs=v∧(nxt code s n).2=s'∧AC Tryz.prog 61 [Bx 3 0,.own 1 ⟨1,[]⟩ 0 xs.length] (upd (upd H0 ⟨1,[]⟩ (some (IO xs))) ⟨0,[]⟩ (some (dobj 3 (srcR code s)))) (I v) (srcH code s'):=by
 subst hn
 refine ⟨pick code s xs,(nxt code s xs.length).2,?_,(nxt_ok hc hs _).2.2,rfl,rfl,l01Pick_ac code hc s hs xs h0 hx⟩
 obtain ⟨b1,b2,b3⟩:=nxt_ok hc hs xs.length
 unfold pick
 rw[List.getElem?_eq_getElem (by omega),Option.getD_some]
 exact List.getElem_mem _
def itr {S:Type} (f:S→S):Nat→S→S
 | 0,s=>s
 | n+1,s=>f (itr f n s)
theorem itr_ok [Mode] {S:Type}{f:S→S}{p:Nat→S→Prop}{s:S} (h0:p 0 s) (h:∀ k x,p k x→p (k+1) (f x)):∀ n,p n (itr f n s)
 | 0=>h0
 | n+1=>h n _ (itr_ok h0 h n)
def drPl (code:List Int) (ev:Int) (s:Src):Pl × Src:=
 let a:=nxt code s ev
 let b:=nxt code a.2 ev
 let d:=nxt code b.2 12
 let q:=nxt code d.2 4
 let t:=if b.1≤a.1 then d.2 else q.2
 let x:=nxt code t 2
 let y:=nxt code x.2 3
 let k:Int × Src:=if b.1≤a.1∨q.1=0 then (1+x.1*y.1,y.2) else (0,t)
 let z:=nxt code k.2 30
 (⟨a.1,b.1,d.1,if z.1=0 then 0 else k.1⟩,z.2)
abbrev RSt:=Src × List Pl
def drF (code:List Int) (ev:Int) (q:RSt):RSt:=((drPl code ev q.1).2,q.2++[(drPl code ev q.1).1])
def drMany (code:List Int):Nat→Nat→RSt→RSt
 | 0,_,q=>q
 | f+1,k,q=>if (k:Int)<22+(nxt code q.1 9).1 then drMany code f (k+1) ((nxt code q.1 9).2,q.2++[⟨0,0,k,1⟩]) else ((nxt code q.1 9).2,q.2)
structure DrG where
 ev:Int
 xs:List Pl
 s:Src
def drEnd (code:List Int) (ev:Int) (q:RSt):DrG:=
 let z:=nxt code q.1 60
 let a:=nxt code z.2 3
 if z.1=0 then ⟨pick code z.2 [0,10,11],q.2,a.2⟩
 else if z.1=1 then ⟨ev,q.2++[⟨pick code z.2 [-1,0,ev],0,pick code a.2 [-1,1000,1001],1⟩],(nxt code a.2 3).2⟩
 else if z.1=2 then ⟨ev,q.2++[⟨0,0,0,pick code z.2 [5,6,-1]⟩],a.2⟩
 else if z.1=3 then ⟨ev,(drMany code 31 0 (z.2,q.2)).2,(drMany code 31 0 (z.2,q.2)).1⟩
 else ⟨ev,q.2,z.2⟩
def dr11 (code:List Int) (s:Src):DrG:=
 let e:=nxt code s 5
 let n:=nxt code e.2 9
 drEnd code (1+e.1) (itr (drF code (1+e.1)) n.1.toNat (n.2,[]))
structure DrPl (p:Pl):Prop where
 f : -1≤p.f∧p.f≤100
 t : -1≤p.t∧p.t≤100
 d : -1≤p.d∧p.d≤1001
 k : -1≤p.k∧p.k≤6
structure RStOk (code:List Int) (m:Nat) (q:RSt):Prop where
 s:SrcOk code q.1
 xs:∀ p∈q.2,DrPl p
 len:q.2.length≤m
theorem RStOk.app [Mode] {code:List Int}{m:Nat}{q:RSt}{p:Pl}{s:Src} (h:RStOk code m q) (hp:DrPl p) (hs:SrcOk code s):RStOk code (m+1) (s,q.2++[p]):=
 ⟨hs,fun p' hp'=>by
  rcases List.mem_append.1 hp' with h'|h'
  ·exact h.xs p' h'
  ·simp at h';subst h';exact hp,by have:=h.len;simp;omega⟩
theorem drPl_ok [Mode] {code:List Int} (hc:CodeOk code) {s:Src} (hs:SrcOk code s) {ev:Int} (he:ev≤100):DrPl (drPl code ev s).1∧SrcOk code (drPl code ev s).2:=by
 obtain ⟨a1,a2,a3⟩:=nxt_ok hc hs ev
 obtain ⟨b1,b2,b3⟩:=nxt_ok hc a3 ev
 obtain ⟨d1,d2,d3⟩:=nxt_ok hc b3 12
 obtain ⟨q1,q2,q3⟩:=nxt_ok hc d3 4
 have ht:SrcOk code (if (nxt code (nxt code s ev).2 ev).1≤(nxt code s ev).1 then (nxt code (nxt code (nxt code s ev).2 ev).2 12).2 else (nxt code (nxt code (nxt code (nxt code s ev).2 ev).2 12).2 4).2):=by split<;>assumption
 obtain ⟨x1,x2,x3⟩:=nxt_ok hc ht 2
 obtain ⟨y1,y2,y3⟩:=nxt_ok hc x3 3
 unfold drPl
 simp only
 generalize (nxt code (if (nxt code (nxt code s ev).2 ev).1≤(nxt code s ev).1 then (nxt code (nxt code (nxt code s ev).2 ev).2 12).2 else (nxt code (nxt code (nxt code (nxt code s ev).2 ev).2 12).2 4).2) 2)=X at *
 generalize (nxt code X.2 3)=Y at *
 have hxy:0≤X.1*Y.1∧X.1*Y.1≤2:=by
  have e1:X.1≤1:=by omega
  have e2:Y.1≤2:=by omega
  have:=Int.mul_nonneg x1 y1
  have:=Int.mul_le_mul_of_nonneg_right e1 y1
  omega
 generalize X.1*Y.1=m at *
 split
 ·obtain ⟨z1,z2,z3⟩:=nxt_ok hc y3 30
  exact ⟨⟨by simp only;omega,by simp only;omega,by simp only;omega,by simp only;split<;>omega⟩,z3⟩
 ·obtain ⟨z1,z2,z3⟩:=nxt_ok hc ht 30
  exact ⟨⟨by simp only;omega,by simp only;omega,by simp only;omega,by simp only;split<;>omega⟩,z3⟩
theorem drF_ok [Mode] {code:List Int} (hc:CodeOk code) {ev:Int} (he:ev≤100) {m:Nat}{q:RSt} (h:RStOk code m q):RStOk code (m+1) (drF code ev q):=
 h.app (drPl_ok hc h.s he).1 (drPl_ok hc h.s he).2
theorem drMany_ok [Mode] {code:List Int} (hc:CodeOk code):∀ (f k:Nat) (q:RSt) (m:Nat),f+k=31→RStOk code m q→RStOk code (m+f) (drMany code f k q)
 | 0,k,q,m,_,h=>h
 | f+1,k,q,m,hk,h=>by
  obtain ⟨a1,a2,a3⟩:=nxt_ok hc h.s 9
  unfold drMany
  split
  ·have:=drMany_ok hc f (k+1) ((nxt code q.1 9).2,q.2++[⟨0,0,k,1⟩]) (m+1) (by omega) (h.app ⟨by simp,by simp,by simp only;omega,by simp⟩ a3)
   rwa [show m+1+f=m+(f+1) by omega] at this
  ·exact ⟨a3,h.xs,by have:=h.len;simp only;omega⟩
theorem pick_mem [Mode] {code:List Int} (hc:CodeOk code) {s:Src} (hs:SrcOk code s) {xs:List Int} (h0:0<xs.length):pick code s xs∈xs:=by
 obtain ⟨b1,b2,b3⟩:=nxt_ok hc hs xs.length
 unfold pick
 rw[List.getElem?_eq_getElem (by omega),Option.getD_some]
 exact List.getElem_mem _
structure DrOk (code:List Int) (g:DrG):Prop where
 ev:0≤g.ev∧g.ev≤11
 xs:∀ p∈g.xs,DrPl p
 len:g.xs.length≤40
 s:SrcOk code g.s
theorem drEnd_ok [Mode] {code:List Int} (hc:CodeOk code) {ev:Int} (he:0≤ev∧ev≤5) {q:RSt} (h:RStOk code 8 q):DrOk code (drEnd code ev q):=by
 obtain ⟨z1,z2,z3⟩:=nxt_ok hc h.s 60
 obtain ⟨y1,y2,y3⟩:=nxt_ok hc z3 3
 obtain ⟨x1,x2,x3⟩:=nxt_ok hc y3 3
 have hl:=h.len
 unfold drEnd
 simp only
 split
 ·have:=pick_mem hc z3 (xs:=[0,10,11]) (by simp)
  simp at this
  exact ⟨by simp only;omega,h.xs,by simp only;omega,y3⟩
 ·split
  ·have h1:=pick_mem hc z3 (xs:=[-1,0,ev]) (by simp)
   have h2:=pick_mem hc y3 (xs:=[-1,1000,1001]) (by simp)
   simp at h1 h2
   have:=h.app (p:=⟨pick code (nxt code q.1 60).2 [-1,0,ev],0,pick code (nxt code (nxt code q.1 60).2 3).2 [-1,1000,1001],1⟩) (s:=(nxt code (nxt code (nxt code q.1 60).2 3).2 3).2) ⟨by simp only;omega,by simp,by simp only;omega,by simp⟩ x3
   exact ⟨by simp only;omega,this.xs,by have:=this.len;simp only at this ⊢;omega,x3⟩
  ·split
   ·have h1:=pick_mem hc z3 (xs:=[5,6,-1]) (by simp)
    simp at h1
    have:=h.app (p:=⟨0,0,0,pick code (nxt code q.1 60).2 [5,6,-1]⟩) (s:=(nxt code (nxt code q.1 60).2 3).2) ⟨by simp,by simp,by simp,by simp only;omega⟩ y3
    exact ⟨by simp only;omega,this.xs,by have:=this.len;simp only at this ⊢;omega,y3⟩
   ·split
    ·have:=drMany_ok hc 31 0 ((nxt code q.1 60).2,q.2) 8 rfl ⟨z3,h.xs,hl⟩
     exact ⟨by simp only;omega,this.xs,by have:=this.len;simp only;omega,this.s⟩
    ·exact ⟨by simp only;omega,h.xs,by simp only;omega,z3⟩
theorem drI_ok [Mode] {code:List Int} (hc:CodeOk code) {ev:Int} (he:ev≤100) {s:Src} (hs:SrcOk code s) (n:Nat):RStOk code n (itr (drF code ev) n (s,[])):=
 itr_ok (p:=fun k q=>RStOk code k q) ⟨hs,by simp,by simp⟩ (fun k x h=>drF_ok hc he h) n
theorem dr11_ok [Mode] {code:List Int} (hc:CodeOk code) {s:Src} (hs:SrcOk code s):DrOk code (dr11 code s):=by
 obtain ⟨e1,e2,e3⟩:=nxt_ok hc hs 5
 obtain ⟨n1,n2,n3⟩:=nxt_ok hc e3 9
 have h:=drI_ok hc (ev:=1+(nxt code s 5).1) (by omega) n3 (nxt code (nxt code s 5).2 9).1.toNat
 exact drEnd_ok hc (by omega) ⟨h.s,h.xs,by have:=h.len;omega⟩
end
end Go.Proofs.YtkpoclbnnpglfaaGreat
