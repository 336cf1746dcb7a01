/-
  The law FnTop, in the abstract reading.
-/
import Derived.Test.YtkpoclbnnpglfaaGreatKtU17
import Derived.Test.YtkpoclbnnpglfaaGreatKtU18
set_option linter.unusedSimpArgs false
set_option linter.unusedVariables false
namespace Go.Proofs.YtkpoclbnnpglfaaGreat
open Go Go.RowKit
attribute [local irreducible] AL AD AW OpOk Le AC thenQ blockQ EndQ
set_option maxRecDepth 100000 in
set_option maxHeartbeats 16000000 in
theorem lawFnTop_ac [Mode] (code:List Int) (hl:code.length≤9223372036854775807) (hb:∀ b∈code,0≤b∧b≤255):AC Tryz.prog 3 [.d (BD code)] H0 (Bo true) H0:=by
 have hBig:=big_ac code hl
 by_cases hbig:4096<(code.length:Int)
 ·
  refine AC.of_body 0 Tryz.func3 rfl (fun l h=>absurd rfl h) (fun C hC=>?_)
  have hD:∀ l,¬ C.D0 l:=fun l h=>(hC l).1 h rfl
  simp only[startFr,Tryz.ntmps3,List.length_cons,List.length_nil,Nat.reduceAdd,Nat.reduceSub,List.replicate_succ,List.replicate_zero,List.cons_append,List.nil_append]
  repeat' (first|((first|apply Ba|(apply Bb;(· rfl);(· rfl))|(apply Bc;(· exact nxE))|(apply Bd;(· rfl);(· rfl);(· exact nxE)));(· first|exact Kz rfl rfl (hBig) (Ad An)|exact Ok.pe))|((first|apply Ca|(apply Cb;(· exact nxE)));(· first|exact Ok.e0))|refine Sx ?_|(refine Sy (fun h=>?_) (fun h=>?_)<;>try (exfalso;omega;done))|refine Sz (fun h=>?_) (fun h=>?_))
  refine Ya ?_
  (apply Le.headZ (hs:=[]) [] rfl)
  all_goals (try dsimp only[srcs])
  (case' hfr=>(repeat' (first|refine La ?_ ?_|exact Lc|refine Lo ?_|refine ⟨⟨_,rfl,?_⟩,?_⟩|refine Lx ?_)))
  all_goals (first|exact Ld|exact trivial|(rfl))
 have hc:CodeOk code:=⟨by omega,hb⟩
 obtain ⟨ev,xs,hev,hx,hG⟩:=drawCertifyTime_ex code hc
 obtain ⟨ew,ys,P,hew,hy,hP,hG2⟩:=drawEarliestTimetable_ex code hc
 have hI:=iCertifyTimeZ_ac ev xs (by omega)
 have hS:=sCertifyTime_ac ev xs (by omega)
 have hE:=iEarliestTimetable_ac ew ys P (by omega)
 have hB:=iConflictCircuit_ac ew ys P (by omega)
 have hol:(ceL ev xs).length≤1000:=ceL_len
 have hol2:(ceX ev xs).length≤1000:=ceX_len
 have hL1:=likeInts_refl (ceL ev xs) (by omega)
 have hL2:=likeInts_refl (ceX ev xs) (by omega)
 rcases top_two ew ys P with ⟨h1,h2⟩|⟨h1,h2⟩|⟨h1,h2⟩
 ·exact topWalkA code hbig ev xs (ceR ev xs).1 (ceR ev xs).2 (ceL ev xs) (ceX ev xs) (ceC ev xs) ew ys P (etP ew ys P) (etS ew ys P) (etC ew ys P) (ccL ew ys P) (ccC ew ys P) h1 h2 hBig hG hG2 hI hS hE hB hL1 hL2
 ·have hK:AC Tryz.prog 13 [grD ew ys,ttA (etP ew ys P) (etS ew ys P)] H0 (.tup [Bo true,I 0]) H0:=by
   obtain ⟨e1,e2,e3⟩:=et_kept h1
   have:=iIsKept_ac ew ys (etP ew ys P) (etS ew ys P) (by omega) (by have:=et_len (ev:=ew) (xs:=ys) (P:=P);omega)
   rwa [e1,e2] at this
  by_cases h0:ceC ev xs=0
  case neg=>exact topWalkB code hbig ev xs (ceR ev xs).1 (ceR ev xs).2 (ceL ev xs) (ceX ev xs) (ceC ev xs) ew ys P (etP ew ys P) (etS ew ys P) (etC ew ys P) (ccL ew ys P) (ccC ew ys P) h0 h1 h2 hBig hG hG2 hI hS hE hB hL1 hL2 hK
  obtain ⟨n,ord,rfl,hn,hx30,hl0,hord,hv,hbc,hct,hrt,hrb,e1,e2,e3,htp,hxl,hxb,hpt⟩:=top_ce h0
  have hX:=top_run hv hord
  have hsm:=sm_ok hX (6*n) (Nat.le_refl _)
  have hsl:=smL_len 6 n xs (6*n)
  have hR:AC Tryz.prog 15 [grD n xs,IL (ceL n xs)] H0 (.tup [.agg [I (ceR n xs).1,I (ceR n xs).2],I 0]) H0:=by
   obtain ⟨m,hm,k1,k2,k3,k4,k5⟩:=bc_circ hbc
   obtain rfl:n=m:=by omega
   have:=iCircuitRatio_ac n xs (bcL n xs) k1 k2 k3 k4
   rw[k5,hct] at this
   rw[e1,e2];exact this
  have hQ:AC Tryz.prog 16 [grD n xs,.agg [I (ceR n xs).1,I (ceR n xs).2],IL (ceX n xs)] H0 (Bo true) H0:=by
   have:=iIsTimePotential_ac n xs (maxR xs) (tpX n xs (maxR xs)) (by omega) ⟨by have:=hrt.n;omega,by have:=hrt.d;omega⟩ (by rw[← e3];omega)
   rw[tp_law htp] at this
   rw[e1,e3];exact this
  exact topWalkD code hbig (n:Nat) xs (ceR n xs).1 (ceR n xs).2 (ceL n xs) (ceX n xs) (ceC n xs) ew ys P (etP ew ys P) (etS ew ys P) (etC ew ys P) (ccL ew ys P) (ccC ew ys P) n hn (stT xs ord (fun _=>0) 6) (smL 6 n xs (6*n)) rfl h0 h1 h2 hBig hG hG2 hI hS hE hB hL1 hL2 hK hR hQ (iFiringTimes_ac n 6 xs ord hl0 hord (by omega) (by decide)) (iSimulateGraph_ac n xs ord _ hl0 (by omega) hX) (iIsRun_ac n xs _ hl0 (by omega) hsm.num (hsm.tmOk hX (by omega)) (by omega) hsm.rnB) (fun e=>iTimesIn_ac _ e (by omega)) (fun e he=>hsm.full hsl he)
   (fun k e hk he=>⟨hX.ge0 hk he,top_bd hX hn.2 hk he⟩) (by rw[e1];exact ⟨⟨hrt.n.1,hrb.1⟩,⟨hrt.d.1,hrb.2⟩⟩) hxl hxb (by rw[e1];exact hX.pot (by have:=hrt.d;omega) hrt.n.1 (fun e he=>(hxb e he).1) hpt)
 ·have hCi:AC Tryz.prog 14 [grD ew ys,IL (cN (ccL ew ys P))] H0 (Bo true) H0:=by
   obtain ⟨m,rfl,g1,g2,g3,hv,hg,hp,k1,k2,k3⟩:=cc_ok h2
   exact iIsCircuit_ac m ys (ccL m ys P) hg k1 (by omega)
  by_cases h0:ceC ev xs=0
  case neg=>exact topWalkC code hbig ev xs (ceR ev xs).1 (ceR ev xs).2 (ceL ev xs) (ceX ev xs) (ceC ev xs) ew ys P (etP ew ys P) (etS ew ys P) (etC ew ys P) (ccL ew ys P) (ccC ew ys P) h0 h1 h2 hBig hG hG2 hI hS hE hB hL1 hL2 hCi
  obtain ⟨n,ord,rfl,hn,hx30,hl0,hord,hv,hbc,hct,hrt,hrb,e1,e2,e3,htp,hxl,hxb,hpt⟩:=top_ce h0
  have hX:=top_run hv hord
  have hsm:=sm_ok hX (6*n) (Nat.le_refl _)
  have hsl:=smL_len 6 n xs (6*n)
  have hR:AC Tryz.prog 15 [grD n xs,IL (ceL n xs)] H0 (.tup [.agg [I (ceR n xs).1,I (ceR n xs).2],I 0]) H0:=by
   obtain ⟨m,hm,k1,k2,k3,k4,k5⟩:=bc_circ hbc
   obtain rfl:n=m:=by omega
   have:=iCircuitRatio_ac n xs (bcL n xs) k1 k2 k3 k4
   rw[k5,hct] at this
   rw[e1,e2];exact this
  have hQ:AC Tryz.prog 16 [grD n xs,.agg [I (ceR n xs).1,I (ceR n xs).2],IL (ceX n xs)] H0 (Bo true) H0:=by
   have:=iIsTimePotential_ac n xs (maxR xs) (tpX n xs (maxR xs)) (by omega) ⟨by have:=hrt.n;omega,by have:=hrt.d;omega⟩ (by rw[← e3];omega)
   rw[tp_law htp] at this
   rw[e1,e3];exact this
  exact topWalkE code hbig (n:Nat) xs (ceR n xs).1 (ceR n xs).2 (ceL n xs) (ceX n xs) (ceC n xs) ew ys P (etP ew ys P) (etS ew ys P) (etC ew ys P) (ccL ew ys P) (ccC ew ys P) n hn (stT xs ord (fun _=>0) 6) (smL 6 n xs (6*n)) rfl h0 h1 h2 hBig hG hG2 hI hS hE hB hL1 hL2 hCi hR hQ (iFiringTimes_ac n 6 xs ord hl0 hord (by omega) (by decide)) (iSimulateGraph_ac n xs ord _ hl0 (by omega) hX) (iIsRun_ac n xs _ hl0 (by omega) hsm.num (hsm.tmOk hX (by omega)) (by omega) hsm.rnB) (fun e=>iTimesIn_ac _ e (by omega)) (fun e he=>hsm.full hsl he)
   (fun k e hk he=>⟨hX.ge0 hk he,top_bd hX hn.2 hk he⟩) (by rw[e1];exact ⟨⟨hrt.n.1,hrb.1⟩,⟨hrt.d.1,hrb.2⟩⟩) hxl hxb (by rw[e1];exact hX.pot (by have:=hrt.d;omega) hrt.n.1 (fun e he=>(hxb e he).1) hpt)
end Go.Proofs.YtkpoclbnnpglfaaGreat
