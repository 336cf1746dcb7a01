/-
  Walks in the abstract reading, part 18.
-/
import Derived.Test.YtkpoclbnnpglfaaGreatKtU17
set_option linter.unusedSimpArgs false
set_option linter.unusedVariables false
namespace Go.Proofs.YtkpoclbnnpglfaaGreat
section
open Go Go.RowKit
attribute [local irreducible] AL AD AW OpOk Le AC thenQ blockQ EndQ
set_option maxRecDepth 100000 in
set_option maxHeartbeats 16000000 in
theorem topWalkD [Mode] (code:List Int) (hbig:¬ 4096<(code.length:Int)) (ev:Int) (xs:List Pl) (r1 r2:Int) (cl x:List Int) (bad:Int) (ew:Int) (ys:List Pl) (P P1:Int) (s1:List Int) (one:Int) (l:List Nat) (two:Int) (n:Nat) (hn:1≤n∧n≤10) (X:Nat→Nat→Int) (fs:List Fi) (hev:ev=n) (hbad:bad=0) (hone:one=0) (htwo:two=4)
  (hBig:AC Tryz.prog 5 [.d (BD code)] H0 (Bo (decide (4096<(code.length:Int)))) H0)
  (hG:AC Tryz.prog 6 [.d (BD code)] H0 (grD ev xs) H0)
  (hG2:AC Tryz.prog 10 [.d (BD code)] H0 (.tup [grD ew ys,I P]) H0)
  (hI:AC Tryz.prog 7 [grD ev xs] H0 (.tup [.agg [I r1,I r2],IL cl,IL x,I bad]) H0)
  (hS:AC Tryz.prog 8 [grD ev xs] H0 (.tup [.agg [I r1,I r2],IL cl,IL x,I bad]) H0)
  (hE:AC Tryz.prog 11 [grD ew ys,I P] H0 (.tup [ttA P1 s1,I one]) H0)
  (hB:AC Tryz.prog 12 [grD ew ys,I P] H0 (.tup [IL (cN l),I two]) H0)
  (hL1:AC Tryz.prog 9 [IL cl,IL cl] H0 (Bo true) H0)
  (hL2:AC Tryz.prog 9 [IL x,IL x] H0 (Bo true) H0)
  (hK:AC Tryz.prog 13 [grD ew ys,ttA P1 s1] H0 (.tup [Bo true,I 0]) H0)
  (hR:AC Tryz.prog 15 [grD n xs,IL cl] H0 (.tup [.agg [I r1,I r2],I 0]) H0)
  (hQ:AC Tryz.prog 16 [grD n xs,.agg [I r1,I r2],IL x] H0 (Bo true) H0)
  (hF:AC Tryz.prog 17 [grD n xs,I 6] H0 (.tup [TL (tabF 6 n X),I 0]) H0)
  (hSi:AC Tryz.prog 18 [grD n xs,I 6] H0 (.tup [FL fs,I 0]) H0)
  (hRn:AC Tryz.prog 19 [grD n xs,FL fs] H0 (Bo true) H0)
  (hT:∀ e:Nat,AC Tryz.prog 20 [FL fs,I e] H0 (.tup [IL (tms fs e),I 0]) H0)
  (htm:∀ e,e<n→tms fs (e:Nat)=(List.range 6).map fun k=>X k e)
  (hXb:∀ k e,k<6→e<n→0≤X k e∧X k e≤1000000)
  (hr:(0≤r1∧r1≤100000)∧(1≤r2∧r2≤50)) (hxl:x.length=n) (hxb:∀ e,e<n→0≤x.getD e 0∧x.getD e 0≤1000000)
  (hpot:∀ k e,k<6→e<n→r2*X k e≤x.getD e 0+r1*(k:Int)):AC Tryz.prog 3 [.d (BD code)] H0 (Bo true) H0:=by
 subst hev hbad hone htwo
 have h6:(mRows 1 (TR (tabF 6 n X))).length=6:=by rw[mTR_len,tabF_len]
 refine AC.of_body 0 Tryz.func3 rfl (fun l h=>absurd rfl h) (fun C hC=>?_)
 have hD:∀ l,¬ C.D0 l:=fun l h=>(hC l).1 h rfl
 simp only[startFr,Tryz.ntmps3,List.length_cons,List.length_nil,Nat.reduceAdd,Nat.reduceSub,List.replicate_succ,List.replicate_zero,List.cons_append,List.nil_append]
 repeat' (first|((first|apply Ba|(apply Bb;(· rfl);(· rfl))|(apply Bc;(· exact nxE))|(apply Bd;(· rfl);(· rfl);(· exact nxE)));(· first|exact Kz rfl rfl (hBig) (Ad An)|exact Kz rfl rfl (hG) (Ad An)|exact Kz rfl rfl (hG2) (Ad An)|exact Kz rfl rfl (hI) (Aa (Ad (Ad An)) An)|exact Kz rfl rfl (hS) (Aa (Ad (Ad An)) An)|exact Kz rfl rfl (hE) (Aa (Ad (Ad An)) (Ad An))|exact Kz rfl rfl (hB) (Aa (Ad (Ad An)) (Ad An))|exact Kz rfl rfl (hL1) (Ad (Ad An))|exact Kz rfl rfl (hL2) (Ad (Ad An))|exact Ok.neqRtS rfl rfl rfl|exact Ok.beq rfl rfl rfl (by kernel_rfl)|exact Kz rfl rfl (hK) (Aa (Ad (Ad An)) (Aa (Ad (Ad An)) An))|exact Kz rfl rfl (hR) (Aa (Ad (Ad An)) (Ad An))|exact Kz rfl rfl (hQ) (Aa (Ad (Ad An)) (Aa (Ad (Ad An)) (Ad An)))|exact Kz rfl rfl (hF) (Aa (Ad (Ad An)) (Ad An))|exact Kz rfl rfl (hSi) (Aa (Ad (Ad An)) (Ad An))|exact Kz rfl rfl (hRn) (Aa (Ad (Ad An)) (Ad An))|exact Ok.lenD rfl rfl h6|exact Ok.pe))|((first|apply Ca|(apply Cb;(· exact nxE)));(· first|exact Ok.e0))|refine Sx ?_|(refine Sy (fun h=>?_) (fun h=>?_)<;>try (exfalso;omega;done))|refine Sz (fun h=>?_) (fun h=>?_))
 refine AW.loop (X:={k:Nat // k≤n}) (fun k=>⟨[Oo,Oo,Oo,Bx 2 0,Bx 2 1,Oo,IL x,Oo,Oo,Oo,Oo,Oo,Oo,Oo,Oo,Oo,Oo,Oo,Oo,Oo,Oo,Oo,TL (tabF 6 n X),Oo,FL fs,Oo,I (k.1:Nat),Oo,Oo,Oo,Oo,Oo,Oo,Oo,Oo,Oo,Oo,Oo,Oo,Oo,Oo,Oo,Oo,Oo,Oo,Oo,Oo,Oo,Oo,Oo,Oo,Oo,Oo,Oo,Oo,Oo,Oo,Oo,Oo,Oo,Oo,Oo,Oo,Oo,Oo,Oo,Oo,Oo,Oo,Oo,Oo,Oo,Oo,Oo,Oo,Oo,Oo,Oo,Oo,Oo,Oo,Oo,Oo,Oo,Oo,Oo,Oo,Oo,Oo,Oo,Oo,Oo,Oo,Oo,Oo,Oo,Oo,Oo,Oo,Oo,Oo,Oo,Oo,Oo,Oo,Oo,Oo,Oo,Oo,Oo,Oo,Oo,Oo,Oo,Oo,Oo,Oo,Oo,Oo,Oo,Oo,Oo,Oo,Oo,Oo,Oo,Oo,Oo,Oo,Oo,Oo,Oo,Oo,Oo,Oo,Oo,Oo,Oo,Oo,Oo,Oo,Oo,Oo,Oo,Oo,Oo,Oo,Oo,Oo,Oo,Oo,Oo,Oo,Oo,Oo,Oo,Oo,Oo,Oo,Oo,Oo,Oo,Oo,Oo,Oo,Oo,Oo,Oo,Oo,Oo,Oo,Oo,Oo,Oo,Oo,Oo,Oo,Oo,Oo,Oo,Oo,Oo,Oo,Oo,Oo,Oo,Oo,Oo,Oo,Oo,Oo,Oo,Oo,Oo,Oo,Oo,Oo,Oo,Oo,Oo,Oo,Oo,Oo,Oo,Oo,Oo,Oo,Oo,Oo,Oo,Oo,Oo,Oo,Oo,Oo,Oo,Oo,Oo,Oo,Oo,Oo,Oo,Oo,Oo,Oo,Oo,Oo,Oo,Oo,Oo],heapL [(⟨0,[]⟩,⟨0,[]⟩,⟨2,[[I n,PL xs]]⟩),(⟨1,[]⟩,⟨1,[]⟩,⟨2,[[I r1,I r2]]⟩)],900⟩) (fun k=>n - k.1) ⟨0,Nat.zero_le _⟩ ?_ (fun k=>?_)
 ·
  (apply Le.headZ [_,_] rfl)
  all_goals (try dsimp only[srcs])
  (case' hfr|hob=>(repeat' (first|refine La ?_ ?_|exact Lc|refine Lo ?_|refine ⟨⟨_,rfl,?_⟩,?_⟩|refine Lx ?_)))
  all_goals (first|(rfl)|exact Ld)
 obtain ⟨e,he⟩:=k
 simp only
 by_cases hlt:e<n
 case neg=>
  obtain rfl:e=n:=by omega
  repeat' (first|((first|apply Ba|(apply Bb;(· rfl);(· rfl))|(apply Bc;(· exact nxE))|(apply Bd;(· rfl);(· rfl);(· exact nxE)));(· first|exact Ok.pe))|((first|apply Ca|(apply Cb;(· exact nxE)));(· first|exact Ok.e0))|refine Sx ?_|(refine Sy (fun h=>?_) (fun h=>?_)<;>try (exfalso;omega;done))|refine Sz (fun h=>?_) (fun h=>?_))
  refine Ya ?_
  (apply Le.headZ (hs:=[]) [] rfl)
  all_goals (try dsimp only[srcs])
  (case' hfr=>(repeat' (first|refine La ?_ ?_|exact Lc|refine Lo ?_|refine ⟨⟨_,rfl,?_⟩,?_⟩|refine Lx ?_)))
  all_goals (first|exact Ld|exact trivial|(rfl))
 have hTe:=hT e
 have hte:=htm e hlt
 have hxe:=hxb e hlt
 have hcx:(IR x)[((e:Nat):Int).toNat]? = some [DI (x.getD e 0)]:=by rw[Int.toNat_natCast];exact getD_cell hxl hlt
 rw[hte] at hTe
 have hl6:(IR ((List.range 6).map fun k=>X k e)).length=6:=by simp
 obtain ⟨xe,hX1⟩:∃ y,x.getD e 0=y:=⟨_,rfl⟩
 rw[hX1] at hxe hcx
 repeat' (first|((first|apply Ba|(apply Bb;(· rfl);(· rfl))|(apply Bc;(· exact nxE))|(apply Bd;(· rfl);(· rfl);(· exact nxE)));(· first|exact Kz rfl rfl (hTe) (Ad (Ad An))|exact Ok.lenD rfl rfl hl6|exact Ok.pe))|((first|apply Ca|(apply Cb;(· exact nxE)));(· first|exact Ok.e0))|refine Sx ?_|(refine Sy (fun h=>?_) (fun h=>?_)<;>try (exfalso;omega;done))|refine Sz (fun h=>?_) (fun h=>?_))
 refine AW.loop (X:={k:Nat // k≤6}) (fun k=>⟨[Oo,Oo,Oo,Bx 2 0,Bx 2 1,Oo,IL x,Oo,Oo,Oo,Oo,Oo,Oo,Oo,Oo,Oo,Oo,Oo,Oo,Oo,Oo,Oo,TL (tabF 6 n X),Oo,FL fs,Oo,I e,IL ((List.range 6).map fun k=>X k e),Oo,I (k.1:Nat),Oo,Oo,Oo,Oo,Oo,Oo,Oo,Oo,Oo,Oo,Oo,Oo,Oo,Oo,Oo,Oo,Oo,Oo,Oo,Oo,Oo,Oo,Oo,Oo,Oo,Oo,Oo,Oo,Oo,Oo,Oo,Oo,Oo,Oo,Oo,Oo,Oo,Oo,Oo,Oo,Oo,Oo,Oo,Oo,Oo,Oo,Oo,Oo,Oo,Oo,Oo,Oo,Oo,Oo,Oo,Oo,Oo,Oo,Oo,Oo,Oo,Oo,Oo,Oo,Oo,Oo,Oo,Oo,Oo,Oo,Oo,Oo,Oo,Oo,Oo,Oo,Oo,Oo,Oo,Oo,Oo,Oo,Oo,Oo,Oo,Oo,Oo,Oo,Oo,Oo,Oo,Oo,Oo,Oo,Oo,Oo,Oo,Oo,Oo,Oo,Oo,Oo,Oo,Oo,Oo,Oo,Oo,Oo,Oo,Oo,Oo,Oo,Oo,Oo,Oo,Oo,Oo,Oo,Oo,Oo,Oo,Oo,Oo,Oo,Oo,Oo,Oo,Oo,Oo,Oo,Oo,Oo,Oo,Oo,Oo,Oo,Oo,Oo,Oo,Oo,Oo,Oo,Oo,Oo,Oo,Oo,Oo,Oo,Oo,Oo,Oo,Oo,Oo,Oo,Oo,Oo,Oo,Oo,Oo,Oo,Oo,Oo,Oo,Oo,Oo,Oo,Oo,Oo,Oo,Oo,Oo,Oo,Oo,Oo,Oo,Oo,Oo,Oo,Oo,Oo,Oo,Oo,Oo,Oo,Oo,Oo,Oo,Oo,Oo,Oo,Oo,Oo,Oo,Oo,Oo,Oo,Oo,Oo,Oo,Oo],heapL [(⟨0,[]⟩,⟨0,[]⟩,⟨2,[[I n,PL xs]]⟩),(⟨1,[]⟩,⟨1,[]⟩,⟨2,[[I r1,I r2]]⟩)],900⟩) (fun k=>6 - k.1) ⟨0,Nat.zero_le _⟩ ?_ (fun k=>?_)
 ·
  (apply Le.headZ [_,_] rfl)
  all_goals (try dsimp only[srcs])
  (case' hfr|hob=>(repeat' (first|refine La ?_ ?_|exact Lc|refine Lo ?_|refine ⟨⟨_,rfl,?_⟩,?_⟩|refine Lx ?_)))
  all_goals (first|(rfl)|exact Ld)
 obtain ⟨k,hk⟩:=k
 simp only
 by_cases hk6:k<6
 case neg=>
  obtain rfl:k=6:=by omega
  repeat' (first|((first|apply Ba|(apply Bb;(· rfl);(· rfl))|(apply Bc;(· exact nxE))|(apply Bd;(· rfl);(· rfl);(· exact nxE)));(· first|exact Ok.pe))|((first|apply Ca|(apply Cb;(· exact nxE)));(· first|exact Ok.e0))|refine Sx ?_|(refine Sy (fun h=>?_) (fun h=>?_)<;>try (exfalso;omega;done))|refine Sz (fun h=>?_) (fun h=>?_))
  refine ⟨⟨e+1,by omega⟩,?_,by simp only;omega⟩
  (apply Le.headZ [_,_] rfl)
  all_goals (try dsimp only[srcs])
  (case' hfr|hob=>(repeat' (first|refine La ?_ ?_|exact Lc|refine Lo ?_|refine ⟨⟨_,rfl,?_⟩,?_⟩|refine Lx ?_)))
  all_goals (first|(rfl)|exact Ld)
 have hb:=hXb k e hk6 hlt
 have hp:=hpot k e hk6 hlt
 rw[hX1] at hp
 have hct:(IR ((List.range 6).map fun k=>X k e))[((k:Nat):Int).toNat]? = some [DI (X k e)]:=by simp[hk6]
 have hrw:(mRows 1 (TR (tabF 6 n X)))[((k:Nat):Int).toNat]? = some [.sl 1 (IR (rowF n (X k)))]:=by rw[Int.toNat_natCast];exact TR_get (tabF_get hk6)
 have hrl:(IR (rowF n (X k))).length=n:=by rw[IR_len,rowF_len]
 have hcc:(IR (rowF n (X k)))[((e:Nat):Int).toNat]? = some [DI (X k e)]:=by rw[Int.toNat_natCast];exact IRF_get hlt
 have hm1:0≤r2*X k e∧r2*X k e≤50000000:=by
  have h1:=Int.mul_nonneg (show 0≤r2 by omega) hb.1
  have h2:r2*X k e≤50*1000000:=Int.le_trans (Int.mul_le_mul_of_nonneg_right hr.2.2 hb.1) (Int.mul_le_mul_of_nonneg_left hb.2 (by decide))
  omega
 have hm2:0≤r1*(k:Int)∧r1*(k:Int)≤600000:=by
  have h1:=Int.mul_nonneg hr.1.1 (show 0≤(k:Int) by omega)
  have h2:r1*(k:Int)≤100000*6:=Int.le_trans (Int.mul_le_mul_of_nonneg_right hr.1.2 (by omega)) (Int.mul_le_mul_of_nonneg_left (by omega) (by decide))
  omega
 generalize X k e=xk at *
 repeat' (first|((first|apply Ba|(apply Bb;(· rfl);(· rfl))|(apply Bc;(· exact nxE))|(apply Bd;(· rfl);(· rfl);(· exact nxE)));(· first|exact Ok.lenD rfl rfl hrl|exact Ok.pe))|((first|apply Ca|(apply Cb;(· exact nxE)));(· first|exact Ok.e0))|refine Sx ?_|(refine Sy (fun h=>?_) (fun h=>?_)<;>try (exfalso;omega;done))|refine Sz (fun h=>?_) (fun h=>?_))
 refine ⟨⟨k+1,by omega⟩,?_,by simp only;omega⟩
 (apply Le.headZ [_,_] rfl)
 all_goals (try dsimp only[srcs])
 (case' hfr|hob=>(repeat' (first|refine La ?_ ?_|exact Lc|refine Lo ?_|refine ⟨⟨_,rfl,?_⟩,?_⟩|refine Lx ?_)))
 all_goals (first|(rfl)|exact Ld)
end
section
open Go Go.RowKit
attribute [local irreducible] AL AD AW OpOk Le AC thenQ blockQ EndQ
set_option maxRecDepth 100000 in
set_option maxHeartbeats 16000000 in
theorem topWalkE [Mode] (code:List Int) (hbig:¬ 4096<(code.length:Int)) (ev:Int) (xs:List Pl) (r1 r2:Int) (cl x:List Int) (bad:Int) (ew:Int) (ys:List Pl) (P P1:Int) (s1:List Int) (one:Int) (l:List Nat) (two:Int) (n:Nat) (hn:1≤n∧n≤10) (X:Nat→Nat→Int) (fs:List Fi) (hev:ev=n) (hbad:bad=0) (hone:one=5) (htwo:two=0)
  (hBig:AC Tryz.prog 5 [.d (BD code)] H0 (Bo (decide (4096<(code.length:Int)))) H0)
  (hG:AC Tryz.prog 6 [.d (BD code)] H0 (grD ev xs) H0)
  (hG2:AC Tryz.prog 10 [.d (BD code)] H0 (.tup [grD ew ys,I P]) H0)
  (hI:AC Tryz.prog 7 [grD ev xs] H0 (.tup [.agg [I r1,I r2],IL cl,IL x,I bad]) H0)
  (hS:AC Tryz.prog 8 [grD ev xs] H0 (.tup [.agg [I r1,I r2],IL cl,IL x,I bad]) H0)
  (hE:AC Tryz.prog 11 [grD ew ys,I P] H0 (.tup [ttA P1 s1,I one]) H0)
  (hB:AC Tryz.prog 12 [grD ew ys,I P] H0 (.tup [IL (cN l),I two]) H0)
  (hL1:AC Tryz.prog 9 [IL cl,IL cl] H0 (Bo true) H0)
  (hL2:AC Tryz.prog 9 [IL x,IL x] H0 (Bo true) H0)
  (hCi:AC Tryz.prog 14 [grD ew ys,IL (cN l)] H0 (Bo true) H0)
  (hR:AC Tryz.prog 15 [grD n xs,IL cl] H0 (.tup [.agg [I r1,I r2],I 0]) H0)
  (hQ:AC Tryz.prog 16 [grD n xs,.agg [I r1,I r2],IL x] H0 (Bo true) H0)
  (hF:AC Tryz.prog 17 [grD n xs,I 6] H0 (.tup [TL (tabF 6 n X),I 0]) H0)
  (hSi:AC Tryz.prog 18 [grD n xs,I 6] H0 (.tup [FL fs,I 0]) H0)
  (hRn:AC Tryz.prog 19 [grD n xs,FL fs] H0 (Bo true) H0)
  (hT:∀ e:Nat,AC Tryz.prog 20 [FL fs,I e] H0 (.tup [IL (tms fs e),I 0]) H0)
  (htm:∀ e,e<n→tms fs (e:Nat)=(List.range 6).map fun k=>X k e)
  (hXb:∀ k e,k<6→e<n→0≤X k e∧X k e≤1000000)
  (hr:(0≤r1∧r1≤100000)∧(1≤r2∧r2≤50)) (hxl:x.length=n) (hxb:∀ e,e<n→0≤x.getD e 0∧x.getD e 0≤1000000)
  (hpot:∀ k e,k<6→e<n→r2*X k e≤x.getD e 0+r1*(k:Int)):AC Tryz.prog 3 [.d (BD code)] H0 (Bo true) H0:=by
 subst hev hbad hone htwo
 have h6:(mRows 1 (TR (tabF 6 n X))).length=6:=by rw[mTR_len,tabF_len]
 refine AC.of_body 0 Tryz.func3 rfl (fun l h=>absurd rfl h) (fun C hC=>?_)
 have hD:∀ l,¬ C.D0 l:=fun l h=>(hC l).1 h rfl
 simp only[startFr,Tryz.ntmps3,List.length_cons,List.length_nil,Nat.reduceAdd,Nat.reduceSub,List.replicate_succ,List.replicate_zero,List.cons_append,List.nil_append]
 repeat' (first|((first|apply Ba|(apply Bb;(· rfl);(· rfl))|(apply Bc;(· exact nxE))|(apply Bd;(· rfl);(· rfl);(· exact nxE)));(· first|exact Kz rfl rfl (hBig) (Ad An)|exact Kz rfl rfl (hG) (Ad An)|exact Kz rfl rfl (hG2) (Ad An)|exact Kz rfl rfl (hI) (Aa (Ad (Ad An)) An)|exact Kz rfl rfl (hS) (Aa (Ad (Ad An)) An)|exact Kz rfl rfl (hE) (Aa (Ad (Ad An)) (Ad An))|exact Kz rfl rfl (hB) (Aa (Ad (Ad An)) (Ad An))|exact Kz rfl rfl (hL1) (Ad (Ad An))|exact Kz rfl rfl (hL2) (Ad (Ad An))|exact Ok.neqRtS rfl rfl rfl|exact Ok.beq rfl rfl rfl (by kernel_rfl)|exact Kz rfl rfl (hCi) (Aa (Ad (Ad An)) (Ad An))|exact Kz rfl rfl (hR) (Aa (Ad (Ad An)) (Ad An))|exact Kz rfl rfl (hQ) (Aa (Ad (Ad An)) (Aa (Ad (Ad An)) (Ad An)))|exact Kz rfl rfl (hF) (Aa (Ad (Ad An)) (Ad An))|exact Kz rfl rfl (hSi) (Aa (Ad (Ad An)) (Ad An))|exact Kz rfl rfl (hRn) (Aa (Ad (Ad An)) (Ad An))|exact Ok.lenD rfl rfl h6|exact Ok.pe))|((first|apply Ca|(apply Cb;(· exact nxE)));(· first|exact Ok.e0))|refine Sx ?_|(refine Sy (fun h=>?_) (fun h=>?_)<;>try (exfalso;omega;done))|refine Sz (fun h=>?_) (fun h=>?_))
 refine AW.loop (X:={k:Nat // k≤n}) (fun k=>⟨[Oo,Oo,Oo,Bx 2 0,Bx 2 1,Oo,IL x,Oo,Oo,Oo,Oo,Oo,Oo,Oo,Oo,Oo,Oo,Oo,Oo,Oo,Oo,Oo,TL (tabF 6 n X),Oo,FL fs,Oo,I (k.1:Nat),Oo,Oo,Oo,Oo,Oo,Oo,Oo,Oo,Oo,Oo,Oo,Oo,Oo,Oo,Oo,Oo,Oo,Oo,Oo,Oo,Oo,Oo,Oo,Oo,Oo,Oo,Oo,Oo,Oo,Oo,Oo,Oo,Oo,Oo,Oo,Oo,Oo,Oo,Oo,Oo,Oo,Oo,Oo,Oo,Oo,Oo,Oo,Oo,Oo,Oo,Oo,Oo,Oo,Oo,Oo,Oo,Oo,Oo,Oo,Oo,Oo,Oo,Oo,Oo,Oo,Oo,Oo,Oo,Oo,Oo,Oo,Oo,Oo,Oo,Oo,Oo,Oo,Oo,Oo,Oo,Oo,Oo,Oo,Oo,Oo,Oo,Oo,Oo,Oo,Oo,Oo,Oo,Oo,Oo,Oo,Oo,Oo,Oo,Oo,Oo,Oo,Oo,Oo,Oo,Oo,Oo,Oo,Oo,Oo,Oo,Oo,Oo,Oo,Oo,Oo,Oo,Oo,Oo,Oo,Oo,Oo,Oo,Oo,Oo,Oo,Oo,Oo,Oo,Oo,Oo,Oo,Oo,Oo,Oo,Oo,Oo,Oo,Oo,Oo,Oo,Oo,Oo,Oo,Oo,Oo,Oo,Oo,Oo,Oo,Oo,Oo,Oo,Oo,Oo,Oo,Oo,Oo,Oo,Oo,Oo,Oo,Oo,Oo,Oo,Oo,Oo,Oo,Oo,Oo,Oo,Oo,Oo,Oo,Oo,Oo,Oo,Oo,Oo,Oo,Oo,Oo,Oo,Oo,Oo,Oo,Oo,Oo,Oo,Oo,Oo,Oo,Oo,Oo,Oo,Oo,Oo,Oo,Oo,Oo,Oo,Oo,Oo,Oo],heapL [(⟨0,[]⟩,⟨0,[]⟩,⟨2,[[I n,PL xs]]⟩),(⟨1,[]⟩,⟨1,[]⟩,⟨2,[[I r1,I r2]]⟩)],900⟩) (fun k=>n - k.1) ⟨0,Nat.zero_le _⟩ ?_ (fun k=>?_)
 ·
  (apply Le.headZ [_,_] rfl)
  all_goals (try dsimp only[srcs])
  (case' hfr|hob=>(repeat' (first|refine La ?_ ?_|exact Lc|refine Lo ?_|refine ⟨⟨_,rfl,?_⟩,?_⟩|refine Lx ?_)))
  all_goals (first|(rfl)|exact Ld)
 obtain ⟨e,he⟩:=k
 simp only
 by_cases hlt:e<n
 case neg=>
  obtain rfl:e=n:=by omega
  repeat' (first|((first|apply Ba|(apply Bb;(· rfl);(· rfl))|(apply Bc;(· exact nxE))|(apply Bd;(· rfl);(· rfl);(· exact nxE)));(· first|exact Ok.pe))|((first|apply Ca|(apply Cb;(· exact nxE)));(· first|exact Ok.e0))|refine Sx ?_|(refine Sy (fun h=>?_) (fun h=>?_)<;>try (exfalso;omega;done))|refine Sz (fun h=>?_) (fun h=>?_))
  refine Ya ?_
  (apply Le.headZ (hs:=[]) [] rfl)
  all_goals (try dsimp only[srcs])
  (case' hfr=>(repeat' (first|refine La ?_ ?_|exact Lc|refine Lo ?_|refine ⟨⟨_,rfl,?_⟩,?_⟩|refine Lx ?_)))
  all_goals (first|exact Ld|exact trivial|(rfl))
 have hTe:=hT e
 have hte:=htm e hlt
 have hxe:=hxb e hlt
 have hcx:(IR x)[((e:Nat):Int).toNat]? = some [DI (x.getD e 0)]:=by rw[Int.toNat_natCast];exact getD_cell hxl hlt
 rw[hte] at hTe
 have hl6:(IR ((List.range 6).map fun k=>X k e)).length=6:=by simp
 obtain ⟨xe,hX1⟩:∃ y,x.getD e 0=y:=⟨_,rfl⟩
 rw[hX1] at hxe hcx
 repeat' (first|((first|apply Ba|(apply Bb;(· rfl);(· rfl))|(apply Bc;(· exact nxE))|(apply Bd;(· rfl);(· rfl);(· exact nxE)));(· first|exact Kz rfl rfl (hTe) (Ad (Ad An))|exact Ok.lenD rfl rfl hl6|exact Ok.pe))|((first|apply Ca|(apply Cb;(· exact nxE)));(· first|exact Ok.e0))|refine Sx ?_|(refine Sy (fun h=>?_) (fun h=>?_)<;>try (exfalso;omega;done))|refine Sz (fun h=>?_) (fun h=>?_))
 refine AW.loop (X:={k:Nat // k≤6}) (fun k=>⟨[Oo,Oo,Oo,Bx 2 0,Bx 2 1,Oo,IL x,Oo,Oo,Oo,Oo,Oo,Oo,Oo,Oo,Oo,Oo,Oo,Oo,Oo,Oo,Oo,TL (tabF 6 n X),Oo,FL fs,Oo,I e,IL ((List.range 6).map fun k=>X k e),Oo,I (k.1:Nat),Oo,Oo,Oo,Oo,Oo,Oo,Oo,Oo,Oo,Oo,Oo,Oo,Oo,Oo,Oo,Oo,Oo,Oo,Oo,Oo,Oo,Oo,Oo,Oo,Oo,Oo,Oo,Oo,Oo,Oo,Oo,Oo,Oo,Oo,Oo,Oo,Oo,Oo,Oo,Oo,Oo,Oo,Oo,Oo,Oo,Oo,Oo,Oo,Oo,Oo,Oo,Oo,Oo,Oo,Oo,Oo,Oo,Oo,Oo,Oo,Oo,Oo,Oo,Oo,Oo,Oo,Oo,Oo,Oo,Oo,Oo,Oo,Oo,Oo,Oo,Oo,Oo,Oo,Oo,Oo,Oo,Oo,Oo,Oo,Oo,Oo,Oo,Oo,Oo,Oo,Oo,Oo,Oo,Oo,Oo,Oo,Oo,Oo,Oo,Oo,Oo,Oo,Oo,Oo,Oo,Oo,Oo,Oo,Oo,Oo,Oo,Oo,Oo,Oo,Oo,Oo,Oo,Oo,Oo,Oo,Oo,Oo,Oo,Oo,Oo,Oo,Oo,Oo,Oo,Oo,Oo,Oo,Oo,Oo,Oo,Oo,Oo,Oo,Oo,Oo,Oo,Oo,Oo,Oo,Oo,Oo,Oo,Oo,Oo,Oo,Oo,Oo,Oo,Oo,Oo,Oo,Oo,Oo,Oo,Oo,Oo,Oo,Oo,Oo,Oo,Oo,Oo,Oo,Oo,Oo,Oo,Oo,Oo,Oo,Oo,Oo,Oo,Oo,Oo,Oo,Oo,Oo,Oo,Oo,Oo,Oo,Oo,Oo,Oo,Oo,Oo,Oo,Oo,Oo,Oo,Oo,Oo,Oo,Oo,Oo],heapL [(⟨0,[]⟩,⟨0,[]⟩,⟨2,[[I n,PL xs]]⟩),(⟨1,[]⟩,⟨1,[]⟩,⟨2,[[I r1,I r2]]⟩)],900⟩) (fun k=>6 - k.1) ⟨0,Nat.zero_le _⟩ ?_ (fun k=>?_)
 ·
  (apply Le.headZ [_,_] rfl)
  all_goals (try dsimp only[srcs])
  (case' hfr|hob=>(repeat' (first|refine La ?_ ?_|exact Lc|refine Lo ?_|refine ⟨⟨_,rfl,?_⟩,?_⟩|refine Lx ?_)))
  all_goals (first|(rfl)|exact Ld)
 obtain ⟨k,hk⟩:=k
 simp only
 by_cases hk6:k<6
 case neg=>
  obtain rfl:k=6:=by omega
  repeat' (first|((first|apply Ba|(apply Bb;(· rfl);(· rfl))|(apply Bc;(· exact nxE))|(apply Bd;(· rfl);(· rfl);(· exact nxE)));(· first|exact Ok.pe))|((first|apply Ca|(apply Cb;(· exact nxE)));(· first|exact Ok.e0))|refine Sx ?_|(refine Sy (fun h=>?_) (fun h=>?_)<;>try (exfalso;omega;done))|refine Sz (fun h=>?_) (fun h=>?_))
  refine ⟨⟨e+1,by omega⟩,?_,by simp only;omega⟩
  (apply Le.headZ [_,_] rfl)
  all_goals (try dsimp only[srcs])
  (case' hfr|hob=>(repeat' (first|refine La ?_ ?_|exact Lc|refine Lo ?_|refine ⟨⟨_,rfl,?_⟩,?_⟩|refine Lx ?_)))
  all_goals (first|(rfl)|exact Ld)
 have hb:=hXb k e hk6 hlt
 have hp:=hpot k e hk6 hlt
 rw[hX1] at hp
 have hct:(IR ((List.range 6).map fun k=>X k e))[((k:Nat):Int).toNat]? = some [DI (X k e)]:=by simp[hk6]
 have hrw:(mRows 1 (TR (tabF 6 n X)))[((k:Nat):Int).toNat]? = some [.sl 1 (IR (rowF n (X k)))]:=by rw[Int.toNat_natCast];exact TR_get (tabF_get hk6)
 have hrl:(IR (rowF n (X k))).length=n:=by rw[IR_len,rowF_len]
 have hcc:(IR (rowF n (X k)))[((e:Nat):Int).toNat]? = some [DI (X k e)]:=by rw[Int.toNat_natCast];exact IRF_get hlt
 have hm1:0≤r2*X k e∧r2*X k e≤50000000:=by
  have h1:=Int.mul_nonneg (show 0≤r2 by omega) hb.1
  have h2:r2*X k e≤50*1000000:=Int.le_trans (Int.mul_le_mul_of_nonneg_right hr.2.2 hb.1) (Int.mul_le_mul_of_nonneg_left hb.2 (by decide))
  omega
 have hm2:0≤r1*(k:Int)∧r1*(k:Int)≤600000:=by
  have h1:=Int.mul_nonneg hr.1.1 (show 0≤(k:Int) by omega)
  have h2:r1*(k:Int)≤100000*6:=Int.le_trans (Int.mul_le_mul_of_nonneg_right hr.1.2 (by omega)) (Int.mul_le_mul_of_nonneg_left (by omega) (by decide))
  omega
 generalize X k e=xk at *
 repeat' (first|((first|apply Ba|(apply Bb;(· rfl);(· rfl))|(apply Bc;(· exact nxE))|(apply Bd;(· rfl);(· rfl);(· exact nxE)));(· first|exact Ok.lenD rfl rfl hrl|exact Ok.pe))|((first|apply Ca|(apply Cb;(· exact nxE)));(· first|exact Ok.e0))|refine Sx ?_|(refine Sy (fun h=>?_) (fun h=>?_)<;>try (exfalso;omega;done))|refine Sz (fun h=>?_) (fun h=>?_))
 refine ⟨⟨k+1,by omega⟩,?_,by simp only;omega⟩
 (apply Le.headZ [_,_] rfl)
 all_goals (try dsimp only[srcs])
 (case' hfr|hob=>(repeat' (first|refine La ?_ ?_|exact Lc|refine Lo ?_|refine ⟨⟨_,rfl,?_⟩,?_⟩|refine Lx ?_)))
 all_goals (first|(rfl)|exact Ld)
end
end Go.Proofs.YtkpoclbnnpglfaaGreat
