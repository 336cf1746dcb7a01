/-
  Walks in the abstract reading: the greatest mean of a cycle by Karp's table, by the program.
-/
import Derived.Test.YtkpoclbnnpglfaaGreatKqU8
import Derived.Test.YtkpoclbnnpglfaaGreatKqU9
import Derived.Test.YtkpoclbnnpglfaaGreatKqU7
set_option linter.unusedSimpArgs false
set_option linter.unusedVariables false
namespace Go.Proofs.YtkpoclbnnpglfaaGreat
open Go Go.RowKit
attribute [local irreducible] AL AD AW OpOk Le AC thenQ blockQ EndQ
theorem apA_max [Mode] {f:Nat→Nat→Int}{v:Nat→Int}{i:Nat}:∀ k,apA f v i k=maxN (fun j=>timesB (f i j) (v j)) k
 | 0=>rfl
 | k+1=>by simp only[apA,maxN];rw[apA_max k]
theorem kD_row [Mode] {W:Nat→Nat→Int}{n k:Nat}:(rowF n fun i=>apA W (kD W n k) i n)=rowF n (kD W n (k+1)):=rowF_congr fun i _=>apA_max n
theorem tabF_sn [Mode] {k n:Nat}{f:Nat→Nat→Int}:TR (tabF (k+1) n f)=TR (tabF k n f)++[IR (rowF n (f k))]:=by simp[tabF,List.range_succ]
abbrev obR (o:Option (Int × Int)):Int × Int:=o.getD (0,0)
def smR (r:Int × Int):Prop:=(-20000000≤r.1∧r.1≤20000000)∧(0≤r.2∧r.2≤10)
theorem smR.fit [Mode] {a b:Int × Int} (ha:smR a) (hb:smR b):fitR a b:=by
 have h1:=mulB (q:=b.2) (w:=a.1) (Q:=10) (M:=20000000) hb.2.1 hb.2.2 ha.1.1 ha.1.2 (by decide)
 have h2:=mulB (q:=a.2) (w:=b.1) (Q:=10) (M:=20000000) ha.2.1 ha.2.2 hb.1.1 hb.1.2 (by decide)
 rw[Int.mul_comm b.2 a.1] at h1
 rw[Int.mul_comm a.2 b.1] at h2
 exact ⟨by omega,by omega⟩
theorem smR_0 [Mode]:smR (0,0):=⟨by decide,by decide⟩
section
variable {W : Nat → Nat → Int} {n : Nat} (hb : ∀ k v, k ≤ n → v < n → W k v = BOT ∨ (-10000000 ≤ W k v ∧ W k v ≤ 10000000)) (hn : n ≤ 10)
include hb hn
theorem own_sm [Mode] {k v:Nat} (hv:v<n) (hk:k<n) (h1:W n v≠BOT) (h2:W k v≠BOT):smR (redR (W n v - W k v) ((n:Int) - k)):=by
 have a1:=(hb n v (Nat.le_refl n) hv).resolve_left h1
 have a2:=(hb k v (by omega) hv).resolve_left h2
 obtain ⟨c1,c2,c3⟩:=redR_bnd (d:=W n v - W k v) (m:=(n:Int) - k) (B:=20000000) (by omega) (by omega)
 exact ⟨c1,by omega,by omega⟩
theorem lsK_sm [Mode] {v:Nat} (hv:v<n) (h1:W n v≠BOT):∀ k,k≤n→smR (obR (lsK W n v k))
 | 0,_=>smR_0
 | k+1,hk=>by
  have ih:=lsK_sm hv h1 k (by omega)
  simp only[lsK]
  by_cases h2:W k v=BOT
  ·rw[if_pos h2];exact ih
  ·rw[if_neg h2]
   have ho:=own_sm hb hn hv (by omega) h1 h2
   cases hl:lsK W n v k with
   | none=>exact ho
   | some l=>
    rw[hl] at ih
    simp only
    split
    ·exact ho
    ·exact ih
theorem bsV_sm [Mode]:∀ v,v≤n→smR (obR (bsV W n v))
 | 0,_=>smR_0
 | v+1,hv=>by
  have ih:=bsV_sm v (by omega)
  simp only[bsV]
  by_cases h1:W n v=BOT
  ·rw[if_pos h1];exact ih
  ·rw[if_neg h1]
   have hl:=lsK_sm hb hn (v:=v) (by omega) h1 n (Nat.le_refl n)
   cases hq:lsK W n v n with
   | none=>exact ih
   | some l=>
    rw[hq] at hl
    simp only
    cases hbv:bsV W n v with
    | none=>exact hl
    | some b=>
     rw[hbv] at ih
     simp only
     split
     ·exact hl
     ·exact ih
end
set_option maxHeartbeats 16000000 in
theorem cycleMean_ac [Mode] (t:List (List Int)) (n:Nat) (h:MatOk t n):AC Tryz.prog 75 [TL t] H0 (.tup [.agg [I (obR (bsV (kD (entN t) n) n n)).1,I (obR (bsV (kD (entN t) n) n n)).2],Bo (bsV (kD (entN t) n) n n).isSome]) H0:=by
 have hn:=h.le
 have h0:=h.pos
 have htl:(mRows 1 (TR t)).length=n:=by rw[mTR_len,h.sq.l]
 have hrD:∀ k,(rowF n fun i=>apA (entN t) (kD (entN t) n k) i n)=rowF n (kD (entN t) n (k+1)):=fun k=>kD_row
 have hDb:∀ k v,k≤n→v<n→kD (entN t) n k v=BOT∨(-10000000≤kD (entN t) n k v∧kD (entN t) n k v≤10000000):=fun k v hk hv=>by
  rcases kD_bnd (M:=1000000) (by decide) h.b k (by omega) v hv with e|e
  ·exact .inl e
  ·right;omega
 have hDz:TR (tabF 1 n (kD (entN t) n))=[List.replicate n [DI 0]]:=by
  have e:rowF n (kD (entN t) n 0)=List.replicate n 0:=by
   show rowF n (fun _=>0)=_
   simp[rowF,List.map_const']
  show [IR (rowF n (kD (entN t) n 0))]=_
  rw[e];simp
 have hD0:∀ v,kD (entN t) n 0 v≠BOT:=fun v=>by simp[kD,BOT]
 have hRc:Rc t n n:=⟨h.sq.l,h.sq.r⟩
 have hEnt:=h.b
 generalize kD (entN t) n=dk at *
 refine AC.of_body 0 Tryz.func75 rfl (fun l h=>absurd rfl h) (fun C hC=>?_)
 have hD:∀ l,¬ C.D0 l:=fun l h=>(hC l).1 h rfl
 simp only[startFr,Tryz.ntmps75,List.length_cons,List.length_nil,Nat.reduceAdd,Nat.reduceSub,List.replicate_succ,List.replicate_zero,List.cons_append,List.nil_append]
 repeat' (first|((first|apply Ba|(apply Bb;(· rfl);(· rfl))|(apply Bc;(· exact nxE))|(apply Bd;(· rfl);(· rfl);(· exact nxE)));(· first|exact Ok.lenD rfl rfl htl|exact Ok.pe))|((first|apply Ca|(apply Cb;(· exact nxE)));(· first|exact Ok.e0))|refine Sx ?_|(refine Sy (fun h=>?_) (fun h=>?_)<;>try (exfalso;omega;done))|refine Sz (fun h=>?_) (fun h=>?_))
 refine AW.loop (X:={k:Nat // k≤n}) (fun k=>⟨[TL t,Oo,Bx 2 0,Oo,I n,.own 1 ⟨1,[]⟩ 0 ((k.1:Nat)+1),Oo,Oo,Oo,Oo,Oo,Oo,Oo,Oo,Oo,Oo,Oo,Oo,Oo,I n,I (k.1:Nat),Oo,Oo,Oo,Oo,Oo,Oo,Oo,Oo,Oo,Oo,Oo,Oo,Oo,Oo,Oo,Oo,Oo,Oo,Oo,Oo,Oo,Oo,Oo,Oo,Oo,Oo,Oo,Oo,Oo,Oo,Oo,Oo,Oo,Oo,Oo,Oo,Oo,Oo,Oo,Oo,Oo,Oo,Oo,Oo,Oo,Oo,Oo,Oo,Oo,Oo,Oo,Oo,Oo,Oo,Oo,Oo,Oo,Oo,Oo,Oo,Oo,Oo,Oo,Oo,Oo,Oo,Oo,Oo,Oo,Oo,Oo,Oo,Oo,Oo,Oo,Oo,Oo,Oo],heapX [(⟨0,[]⟩,⟨0,[]⟩,⟨2,[[I 0,I 0]]⟩)] [mi1 ⟨1,[]⟩ (TR (tabF (k.1+1) n dk))],900⟩) (fun k=>n - k.1) ⟨0,Nat.zero_le _⟩ ?_ (fun k=>?_)
 ·
  (apply Le.headG [_] [{ l:=⟨1,[]⟩,k:=1,R:=TR (tabF (0+1) n dk),src:=⟨7,[]⟩,base:=⟨7,[]⟩,cut:=0,ext:=some ⟨6,[]⟩ }] (fun _=>False))
  (case' hlen=>rfl)
  (case' hms=>rfl)
  all_goals (try dsimp only[srcs])
  (case' hfr|hob=>(repeat' (first|refine La ?_ ?_|exact Lc|refine Lo ?_|refine ⟨⟨_,rfl,?_⟩,?_⟩|refine Lx ?_)))
  (case' hok=>first|exact ⟨MI.ok_app (R:=[]) (r:=List.replicate n [DI 0]) hDz rfl (by simp) rfl (fun i x hx=>by simp at hx) rfl,trivial⟩|exact trivial)
  (case' hN=>rfl)
  (case' hS=>rfl)
  all_goals (first|exact Ld|((first|(simp[AllP];done)|(simp[AllP,tabF_len,TR_len];done))))
 obtain ⟨k,hk⟩:=k
 simp only
 by_cases hlt:k<n
 ·have hrk:(TR (tabF (k+1) n dk))[k]? = some (IR (rowF n (dk k))):=TRF_get (by omega)
  have hlk:(IR (rowF n (dk k))).length=n:=by rw[IR_len,rowF_len]
  have htk:(TR (tabF (k+1) n dk)).length=k+1:=by rw[TR_len,tabF_len]
  have hTV:=timesVector_ac t n n (dk k) hRc (by omega) (by omega) ⟨fun i j _ _=>by
   by_cases e:entN t i j=BOT
   ·exact .inl e
   ·have:=hEnt j i e;right;omega,fun j hj=>by
   rcases hDb k j (by omega) hj with e|e
   ·exact .inl e
   ·right;omega⟩
  rw[hrD] at hTV
  repeat' (first|((first|apply Ba|(apply Bb;(· rfl);(· rfl))|(apply Bc;(· exact nxE))|(apply Bd;(· rfl);(· rfl);(· exact nxE)));(· first|exact Ok.ldTn rfl rfl rfl hrk hlk|exact Eo rfl rfl hTV (Sd (CA.w (congrArg (Option.map (dobj 1)) hrk) hlk Sn))|exact Ok.appendT rfl rfl (by decide) rfl rfl rfl (by rw[outer_len,htk];rfl) rfl rfl (by rfl) (by omega) (by omega) rfl|exact Ok.pe))|((first|apply Ca|(apply Cb;(· exact nxE)));(· first|exact Eo rfl rfl hTV (Sd (CA.w (congrArg (Option.map (dobj 1)) hrk) hlk Sn))|exact Ok.appendT rfl rfl (by decide) rfl rfl rfl (by rw[outer_len,htk];rfl) rfl rfl (by rfl) (by omega) (by omega) rfl|exact Ok.e0))|refine Sx ?_|(refine Sy (fun h=>?_) (fun h=>?_)<;>try (exfalso;omega;done))|refine Sz (fun h=>?_) (fun h=>?_))
  refine ⟨⟨k+1,by omega⟩,?_,by simp only;omega⟩
  (apply Le.headG [_] [{ l:=⟨1,[]⟩,k:=1,R:=TR (tabF (k+1+1) n dk),src:=⟨911,[]⟩,base:=⟨1,[]⟩,cut:=k+1,ext:=some ⟨909,[0]⟩ }] (fun _=>False))
  (case' hlen=>rfl)
  (case' hms=>rfl)
  all_goals (try dsimp only[srcs])
  (case' hfr|hob=>(repeat' (first|refine La ?_ ?_|exact Lc|refine Lo ?_|refine ⟨⟨_,rfl,?_⟩,?_⟩|refine Lx ?_)))
  (case' hok=>first|exact ⟨MI.ok_app tabF_sn htk (by rw[IR_len,rowF_len]) rfl (Cg) rfl,trivial⟩|exact trivial)
  (case' hN=>rfl)
  (case' hS=>rfl)
  all_goals (first|exact Ld|((first|(simp[AllP,tabF_len,TR_len];done)|(simp[AllP,tabF_len,TR_len];omega))))
 obtain rfl:n=k:=by omega
 have hrn:(TR (tabF (n+1) n dk))[n]? = some (IR (rowF n (dk n))):=TRF_get (by omega)
 have hln:(IR (rowF n (dk n))).length=n:=by rw[IR_len,rowF_len]
 have hls:=fun v hv h1=>lsK_sm hDb hn (v:=v) hv h1
 have hbs:=bsV_sm hDb hn
 repeat' (first|((first|apply Ba|(apply Bb;(· rfl);(· rfl))|(apply Bc;(· exact nxE))|(apply Bd;(· rfl);(· rfl);(· exact nxE)));(· first|exact Ok.pe))|((first|apply Ca|(apply Cb;(· exact nxE)));(· first|exact Ok.e0))|refine Sx ?_|(refine Sy (fun h=>?_) (fun h=>?_)<;>try (exfalso;omega;done))|refine Sz (fun h=>?_) (fun h=>?_))
 refine AW.loop (X:={k:Nat // k≤n}) (fun k=>⟨[Oo,Oo,Bx 2 0,Oo,I n,.own 1 ⟨1,[]⟩ 0 (n+1),Oo,Bx 2 2,Bo (bsV dk n (k.1:Nat)).isSome,Oo,Oo,Oo,Oo,Oo,Oo,Oo,Oo,Oo,Oo,Oo,Oo,Oo,Oo,Oo,Oo,Oo,Oo,Oo,Oo,Oo,Oo,Oo,Oo,I n,I (k.1:Nat),Oo,Oo,Oo,Oo,Oo,Oo,Oo,Oo,Oo,Oo,Oo,Oo,Oo,Oo,Oo,Oo,Oo,Oo,Oo,Oo,Oo,Oo,Oo,Oo,Oo,Oo,Oo,Oo,Oo,Oo,Oo,Oo,Oo,Oo,Oo,Oo,Oo,Oo,Oo,Oo,Oo,Oo,Oo,Oo,Oo,Oo,Oo,Oo,Oo,Oo,Oo,Oo,Oo,Oo,Oo,Oo,Oo,Oo,Oo,Oo,Oo,Oo,Oo,Oo],heapX [(⟨0,[]⟩,⟨0,[]⟩,⟨2,[[I 0,I 0]]⟩),(⟨2,[]⟩,⟨2,[]⟩,⟨2,[[I (obR (bsV dk n k.1)).1,I (obR (bsV dk n k.1)).2]]⟩)] [mi1 ⟨1,[]⟩ (TR (tabF (n+1) n dk))],900⟩) (fun k=>n - k.1) ⟨0,Nat.zero_le _⟩ ?_ (fun k=>?_)
 ·
  (apply Le.headG [_,_] [{ l:=⟨1,[]⟩,k:=1,R:=TR (tabF (n+1) n dk),src:=⟨1,[]⟩,base:=⟨1,[]⟩ }] (fun _=>False))
  (case' hlen=>rfl)
  (case' hms=>rfl)
  all_goals (try dsimp only[srcs])
  (case' hfr|hob=>(repeat' (first|refine La ?_ ?_|exact Lc|refine Lo ?_|refine ⟨⟨_,rfl,?_⟩,?_⟩|refine Lx ?_)))
  (case' hok=>first|exact ⟨MI.ok_same rfl (Cg),trivial⟩|exact trivial)
  (case' hN=>rfl)
  (case' hS=>rfl)
  all_goals (first|exact Ld|(rfl))
 obtain ⟨v,hv⟩:=k
 simp only
 by_cases hvn:v<n
 case neg=>
  obtain rfl:v=n:=by omega
  generalize bsV dk v v=o at *
  repeat' (first|((first|apply Ba|(apply Bb;(· rfl);(· rfl))|(apply Bc;(· exact nxE))|(apply Bd;(· rfl);(· rfl);(· exact nxE)));(· first|exact Ok.pe))|((first|apply Ca|(apply Cb;(· exact nxE)));(· first|exact Ok.e0))|refine Sx ?_|(refine Sy (fun h=>?_) (fun h=>?_)<;>try (exfalso;omega;done))|refine Sz (fun h=>?_) (fun h=>?_))
  refine Yb ?_
  (apply Le.headZ (hs:=[]) [] rfl)
  all_goals (try dsimp only[srcs])
  (case' hfr=>(repeat' (first|refine La ?_ ?_|exact Lc|refine Lo ?_|refine ⟨⟨_,rfl,?_⟩,?_⟩|refine Lx ?_)))
  all_goals (first|exact Ld|exact trivial|(rfl))
 have hcn:(IR (rowF n (dk n)))[v]? = some [DI (dk n v)]:=IRF_get hvn
 by_cases hb:dk n v=BOT
 ·have hsk:bsV dk n (v+1)=bsV dk n v:=by simp only[bsV,if_pos hb]
  rw[hb] at hcn
  unfold BOT at hcn
  repeat' (first|((first|apply Ba|(apply Bb;(· rfl);(· rfl))|(apply Bc;(· exact nxE))|(apply Bd;(· rfl);(· rfl);(· exact nxE)));(· first|exact Ok.ldTn rfl rfl rfl hrn hln|exact Ok.ld1 rfl rfl (congrArg (Option.map (dobj 1)) hrn) hcn|exact Ok.pe))|((first|apply Ca|(apply Cb;(· exact nxE)));(· first|exact Ok.e0))|refine Sx ?_|(refine Sy (fun h=>?_) (fun h=>?_)<;>try (exfalso;omega;done))|refine Sz (fun h=>?_) (fun h=>?_))
  refine ⟨⟨v+1,by omega⟩,?_,by simp only;omega⟩
  rw[hsk]
  (apply Le.headG [_,_] [{ l:=⟨1,[]⟩,k:=1,R:=TR (tabF (n+1) n dk),src:=⟨1,[]⟩,base:=⟨1,[]⟩ }] (fun _=>False))
  (case' hlen=>rfl)
  (case' hms=>rfl)
  all_goals (try dsimp only[srcs])
  (case' hfr|hob=>(repeat' (first|refine La ?_ ?_|exact Lc|refine Lo ?_|refine ⟨⟨_,rfl,?_⟩,?_⟩|refine Lx ?_)))
  (case' hok=>first|exact ⟨MI.ok_same rfl (Cg),trivial⟩|exact trivial)
  (case' hN=>rfl)
  (case' hS=>rfl)
  all_goals (first|exact Ld|(rfl))
 have hlsv:=fun k hk=>hls v hvn hb k hk
 have hlsk:∀ k,dk k v=BOT→lsK dk n v (k+1)=lsK dk n v k:=fun k e=>by simp only[lsK,if_pos e]
 have hlst:∀ k,dk k v≠BOT→lsK dk n v (k+1)=match lsK dk n v k with
   | none=>some (redR (dk n v - dk k v) ((n:Int) - k))
   | some l=>if crI (redR (dk n v - dk k v) ((n:Int) - k)) l<0 then some (redR (dk n v - dk k v) ((n:Int) - k)) else some l:=fun k e=>by simp only[lsK,if_neg e];rfl
 have hlend:∃ l,lsK dk n v n=some l:=by
  obtain ⟨l,hl,_⟩:=(lsK_ok (D:=dk) (v:=v) n (Nat.le_refl n)).resolve_left (fun e=>hD0 v (e.2 0 (by omega)))
  exact ⟨l,hl⟩
 have hbst:bsV dk n (v+1)=match lsK dk n v n with
   | none=>bsV dk n v
   | some l=>match bsV dk n v with
    | none=>some l
    | some b=>if 0<crI l b then some l else some b:=by simp only[bsV,if_neg hb];rfl
 have hl00:lsK dk n v 0=none:=rfl
 generalize lsK dk n v=lq at *
 have hnb:¬ dk n v=-1000000000000000:=hb
 have hown:=fun k (hk:k<n) hq=>own_sm hDb hn (v:=v) hvn hk hb hq
 have hcmpB:=hbs v (by omega)
 generalize hbsv:bsV dk n v=bo at *
 repeat' (first|((first|apply Ba|(apply Bb;(· rfl);(· rfl))|(apply Bc;(· exact nxE))|(apply Bd;(· rfl);(· rfl);(· exact nxE)));(· first|exact Ok.ldTn rfl rfl rfl hrn hln|exact Ok.ld1 rfl rfl (congrArg (Option.map (dobj 1)) hrn) hcn|exact Ok.pe))|((first|apply Ca|(apply Cb;(· exact nxE)));(· first|exact Ok.e0))|refine Sx ?_|(refine Sy (fun h=>?_) (fun h=>?_)<;>try (exfalso;omega;done))|refine Sz (fun h=>?_) (fun h=>?_))
 refine AW.loop (X:={k:Nat // k≤n}) (fun k=>⟨[Oo,Oo,Bx 2 0,Oo,I n,.own 1 ⟨1,[]⟩ 0 (n+1),Oo,Bx 2 2,Bo bo.isSome,I v,Bx 2 3,Bo (lq (k.1:Nat)).isSome,Oo,Oo,Oo,Oo,Oo,Oo,Oo,Oo,Oo,Oo,Oo,Oo,Oo,Oo,Oo,Oo,Oo,Oo,Oo,Oo,Oo,I n,I v,Oo,Oo,Oo,Oo,Oo,Oo,Oo,Oo,Oo,Oo,Oo,I n,I (k.1:Nat),Oo,Oo,Oo,Oo,Oo,Oo,Oo,Oo,Oo,Oo,Oo,Oo,Oo,Oo,Oo,Oo,Oo,Oo,Oo,Oo,Oo,Oo,Oo,Oo,Oo,Oo,Oo,Oo,Oo,Oo,Oo,Oo,Oo,Oo,Oo,Oo,Oo,Oo,Oo,Oo,Oo,Oo,Oo,Oo,Oo,Oo,Oo,Oo,Oo,Oo,Oo],heapX [(⟨0,[]⟩,⟨0,[]⟩,⟨2,[[I 0,I 0]]⟩),(⟨2,[]⟩,⟨2,[]⟩,⟨2,[[I (obR bo).1,I (obR bo).2]]⟩),(⟨3,[]⟩,⟨3,[]⟩,⟨2,[[I (obR (lq k.1)).1,I (obR (lq k.1)).2]]⟩)] [mi1 ⟨1,[]⟩ (TR (tabF (n+1) n dk))],900⟩) (fun k=>n - k.1) ⟨0,Nat.zero_le _⟩ ?_ (fun k=>?_)
 ·
  simp only[hl00]
  (apply Le.headG [_,_,_] [{ l:=⟨1,[]⟩,k:=1,R:=TR (tabF (n+1) n dk),src:=⟨1,[]⟩,base:=⟨1,[]⟩ }] (fun _=>False))
  (case' hlen=>rfl)
  (case' hms=>rfl)
  all_goals (try dsimp only[srcs])
  (case' hfr|hob=>(repeat' (first|refine La ?_ ?_|exact Lc|refine Lo ?_|refine ⟨⟨_,rfl,?_⟩,?_⟩|refine Lx ?_)))
  (case' hok=>first|exact ⟨MI.ok_same rfl (Cg),trivial⟩|exact trivial)
  (case' hN=>rfl)
  (case' hS=>rfl)
  all_goals (first|exact Ld|(rfl))
 obtain ⟨k,hk⟩:=k
 simp only
 by_cases hkn:k<n
 ·have hrk:(TR (tabF (n+1) n dk))[k]? = some (IR (rowF n (dk k))):=TRF_get (by omega)
  have hlk:(IR (rowF n (dk k))).length=n:=by rw[IR_len,rowF_len]
  have hck:(IR (rowF n (dk k)))[v]? = some [DI (dk k v)]:=IRF_get hvn
  by_cases hkb:dk k v=BOT
  ·have hsk:=hlsk k hkb
   rw[hkb] at hck
   unfold BOT at hck
   repeat' (first|((first|apply Ba|(apply Bb;(· rfl);(· rfl))|(apply Bc;(· exact nxE))|(apply Bd;(· rfl);(· rfl);(· exact nxE)));(· first|exact Ok.ldTn rfl rfl rfl hrk hlk|exact Ok.ld1 rfl rfl (congrArg (Option.map (dobj 1)) hrk) hck|exact Ok.pe))|((first|apply Ca|(apply Cb;(· exact nxE)));(· first|exact Ok.e0))|refine Sx ?_|(refine Sy (fun h=>?_) (fun h=>?_)<;>try (exfalso;omega;done))|refine Sz (fun h=>?_) (fun h=>?_))
   refine ⟨⟨k+1,by omega⟩,?_,by simp only;omega⟩
   rw[hsk]
   (apply Le.headG [_,_,_] [{ l:=⟨1,[]⟩,k:=1,R:=TR (tabF (n+1) n dk),src:=⟨1,[]⟩,base:=⟨1,[]⟩ }] (fun _=>False))
   (case' hlen=>rfl)
   (case' hms=>rfl)
   all_goals (try dsimp only[srcs])
   (case' hfr|hob=>(repeat' (first|refine La ?_ ?_|exact Lc|refine Lo ?_|refine ⟨⟨_,rfl,?_⟩,?_⟩|refine Lx ?_)))
   (case' hok=>first|exact ⟨MI.ok_same rfl (Cg),trivial⟩|exact trivial)
   (case' hN=>rfl)
   (case' hS=>rfl)
   all_goals (first|exact Ld|(rfl))
  have hkb':¬ dk k v=-1000000000000000:=hkb
  have ho:=hown k hkn hkb
  have b1:=(hDb n v (by omega) hvn).resolve_left hb
  have b2:=(hDb k v (by omega) hvn).resolve_left hkb
  have hR:=ratioOfZ_ac (dk n v - dk k v) ((n:Int) - k) (by omega) (by omega)
  have hl0:=hlsv k (by omega)
  have hstep:=hlst k hkb
  generalize redR (dk n v - dk k v) ((n:Int) - k)=own at *
  cases hl:lq k with
  | none=>
   rw[hl] at hstep
   simp only at hstep
   obtain ⟨o1,o2⟩:=own
   simp only at hR
   simp only[Option.getD,Option.isSome]
   repeat' (first|((first|apply Ba|(apply Bb;(· rfl);(· rfl))|(apply Bc;(· exact nxE))|(apply Bd;(· rfl);(· rfl);(· exact nxE)));(· first|exact Ok.ldTn rfl rfl rfl hrn hln|exact Ok.ldTn rfl rfl rfl hrk hlk|exact Ok.ld1 rfl rfl (congrArg (Option.map (dobj 1)) hrn) hcn|exact Ok.ld1 rfl rfl (congrArg (Option.map (dobj 1)) hrk) hck|exact Kz rfl rfl (hR) (Ad (Ad An))|exact Ok.pe))|((first|apply Ca|(apply Cb;(· exact nxE)));(· first|exact Ok.e0))|refine Sx ?_|(refine Sy (fun h=>?_) (fun h=>?_)<;>try (exfalso;omega;done))|refine Sz (fun h=>?_) (fun h=>?_))
   refine ⟨⟨k+1,by omega⟩,?_,by simp only;omega⟩
   rw[hstep]
   (apply Le.headG [_,_,_] [{ l:=⟨1,[]⟩,k:=1,R:=TR (tabF (n+1) n dk),src:=⟨1,[]⟩,base:=⟨1,[]⟩ }] (fun _=>False))
   (case' hlen=>rfl)
   (case' hms=>rfl)
   all_goals (try dsimp only[srcs])
   (case' hfr|hob=>(repeat' (first|refine La ?_ ?_|exact Lc|refine Lo ?_|refine ⟨⟨_,rfl,?_⟩,?_⟩|refine Lx ?_)))
   (case' hok=>first|exact ⟨MI.ok_same rfl (Cg),trivial⟩|exact trivial)
   (case' hN=>rfl)
   (case' hS=>rfl)
   all_goals (first|exact Ld|(rfl))
  | some l=>
   rw[hl] at hstep hl0
   simp only at hstep
   have hcmp:=compareRatiosZ_ac own l (ho.fit hl0)
   generalize crI own l=cr at *
   obtain ⟨o1,o2⟩:=own
   obtain ⟨l1,l2⟩:=l
   simp only at hR hcmp
   simp only[Option.getD,Option.isSome]
   by_cases hcr:cr<0
   ·rw[if_pos hcr] at hstep
    repeat' (first|((first|apply Ba|(apply Bb;(· rfl);(· rfl))|(apply Bc;(· exact nxE))|(apply Bd;(· rfl);(· rfl);(· exact nxE)));(· first|exact Ok.ldTn rfl rfl rfl hrn hln|exact Ok.ldTn rfl rfl rfl hrk hlk|exact Ok.ld1 rfl rfl (congrArg (Option.map (dobj 1)) hrn) hcn|exact Ok.ld1 rfl rfl (congrArg (Option.map (dobj 1)) hrk) hck|exact Kz rfl rfl (hR) (Ad (Ad An))|exact Kz rfl rfl (hcmp) (Aa (Ad (Ad An)) (Aa (Ad (Ad An)) An))|exact Ok.pe))|((first|apply Ca|(apply Cb;(· exact nxE)));(· first|exact Ok.e0))|refine Sx ?_|(refine Sy (fun h=>?_) (fun h=>?_)<;>try (exfalso;omega;done))|refine Sz (fun h=>?_) (fun h=>?_))
    refine ⟨⟨k+1,by omega⟩,?_,by simp only;omega⟩
    rw[hstep]
    (apply Le.headG [_,_,_] [{ l:=⟨1,[]⟩,k:=1,R:=TR (tabF (n+1) n dk),src:=⟨1,[]⟩,base:=⟨1,[]⟩ }] (fun _=>False))
    (case' hlen=>rfl)
    (case' hms=>rfl)
    all_goals (try dsimp only[srcs])
    (case' hfr|hob=>(repeat' (first|refine La ?_ ?_|exact Lc|refine Lo ?_|refine ⟨⟨_,rfl,?_⟩,?_⟩|refine Lx ?_)))
    (case' hok=>first|exact ⟨MI.ok_same rfl (Cg),trivial⟩|exact trivial)
    (case' hN=>rfl)
    (case' hS=>rfl)
    all_goals (first|exact Ld|(rfl))
   ·rw[if_neg hcr] at hstep
    repeat' (first|((first|apply Ba|(apply Bb;(· rfl);(· rfl))|(apply Bc;(· exact nxE))|(apply Bd;(· rfl);(· rfl);(· exact nxE)));(· first|exact Ok.ldTn rfl rfl rfl hrn hln|exact Ok.ldTn rfl rfl rfl hrk hlk|exact Ok.ld1 rfl rfl (congrArg (Option.map (dobj 1)) hrn) hcn|exact Ok.ld1 rfl rfl (congrArg (Option.map (dobj 1)) hrk) hck|exact Kz rfl rfl (hR) (Ad (Ad An))|exact Kz rfl rfl (hcmp) (Aa (Ad (Ad An)) (Aa (Ad (Ad An)) An))|exact Ok.pe))|((first|apply Ca|(apply Cb;(· exact nxE)));(· first|exact Ok.e0))|refine Sx ?_|(refine Sy (fun h=>?_) (fun h=>?_)<;>try (exfalso;omega;done))|refine Sz (fun h=>?_) (fun h=>?_))
    refine ⟨⟨k+1,by omega⟩,?_,by simp only;omega⟩
    rw[hstep]
    (apply Le.headG [_,_,_] [{ l:=⟨1,[]⟩,k:=1,R:=TR (tabF (n+1) n dk),src:=⟨1,[]⟩,base:=⟨1,[]⟩ }] (fun _=>False))
    (case' hlen=>rfl)
    (case' hms=>rfl)
    all_goals (try dsimp only[srcs])
    (case' hfr|hob=>(repeat' (first|refine La ?_ ?_|exact Lc|refine Lo ?_|refine ⟨⟨_,rfl,?_⟩,?_⟩|refine Lx ?_)))
    (case' hok=>first|exact ⟨MI.ok_same rfl (Cg),trivial⟩|exact trivial)
    (case' hN=>rfl)
    (case' hS=>rfl)
    all_goals (first|exact Ld|(rfl))
 obtain rfl:k=n:=by omega
 have hle:=hlsv k (by omega)
 obtain ⟨l,hl⟩:=hlend
 rw[hl] at hbst hle ⊢
 have hstep:=hbst
 clear hbst
 cases bo with
 | none=>
  simp only at hstep
  obtain ⟨l1,l2⟩:=l
  simp only[Option.getD,Option.isSome]
  repeat' (first|((first|apply Ba|(apply Bb;(· rfl);(· rfl))|(apply Bc;(· exact nxE))|(apply Bd;(· rfl);(· rfl);(· exact nxE)));(· first|exact Ok.pe))|((first|apply Ca|(apply Cb;(· exact nxE)));(· first|exact Ok.e0))|refine Sx ?_|(refine Sy (fun h=>?_) (fun h=>?_)<;>try (exfalso;omega;done))|refine Sz (fun h=>?_) (fun h=>?_))
  refine ⟨⟨v+1,by omega⟩,?_,by simp only;omega⟩
  simp only
  rw[hstep]
  (apply Le.headG [_,_] [{ l:=⟨1,[]⟩,k:=1,R:=TR (tabF (k+1) k dk),src:=⟨1,[]⟩,base:=⟨1,[]⟩ }] (fun _=>False))
  (case' hlen=>rfl)
  (case' hms=>rfl)
  all_goals (try dsimp only[srcs])
  (case' hfr|hob=>(repeat' (first|refine La ?_ ?_|exact Lc|refine Lo ?_|refine ⟨⟨_,rfl,?_⟩,?_⟩|refine Lx ?_)))
  (case' hok=>first|exact ⟨MI.ok_same rfl (Cg),trivial⟩|exact trivial)
  (case' hN=>rfl)
  (case' hS=>rfl)
  all_goals (first|exact Ld|(rfl))
 | some b=>
  simp only at hstep
  have hcmp:=compareRatiosZ_ac l b (smR.fit hle hcmpB)
  generalize crI l b=cr at *
  obtain ⟨l1,l2⟩:=l
  obtain ⟨b1,b2⟩:=b
  simp only at hcmp
  simp only[Option.getD,Option.isSome]
  by_cases hcr:0<cr
  ·rw[if_pos hcr] at hstep
   repeat' (first|((first|apply Ba|(apply Bb;(· rfl);(· rfl))|(apply Bc;(· exact nxE))|(apply Bd;(· rfl);(· rfl);(· exact nxE)));(· first|exact Kz rfl rfl (hcmp) (Aa (Ad (Ad An)) (Aa (Ad (Ad An)) An))|exact Ok.pe))|((first|apply Ca|(apply Cb;(· exact nxE)));(· first|exact Ok.e0))|refine Sx ?_|(refine Sy (fun h=>?_) (fun h=>?_)<;>try (exfalso;omega;done))|refine Sz (fun h=>?_) (fun h=>?_))
   refine ⟨⟨v+1,by omega⟩,?_,by simp only;omega⟩
   simp only
   rw[hstep]
   (apply Le.headG [_,_] [{ l:=⟨1,[]⟩,k:=1,R:=TR (tabF (k+1) k dk),src:=⟨1,[]⟩,base:=⟨1,[]⟩ }] (fun _=>False))
   (case' hlen=>rfl)
   (case' hms=>rfl)
   all_goals (try dsimp only[srcs])
   (case' hfr|hob=>(repeat' (first|refine La ?_ ?_|exact Lc|refine Lo ?_|refine ⟨⟨_,rfl,?_⟩,?_⟩|refine Lx ?_)))
   (case' hok=>first|exact ⟨MI.ok_same rfl (Cg),trivial⟩|exact trivial)
   (case' hN=>rfl)
   (case' hS=>rfl)
   all_goals (first|exact Ld|(rfl))
  ·rw[if_neg hcr] at hstep
   repeat' (first|((first|apply Ba|(apply Bb;(· rfl);(· rfl))|(apply Bc;(· exact nxE))|(apply Bd;(· rfl);(· rfl);(· exact nxE)));(· first|exact Kz rfl rfl (hcmp) (Aa (Ad (Ad An)) (Aa (Ad (Ad An)) An))|exact Ok.pe))|((first|apply Ca|(apply Cb;(· exact nxE)));(· first|exact Ok.e0))|refine Sx ?_|(refine Sy (fun h=>?_) (fun h=>?_)<;>try (exfalso;omega;done))|refine Sz (fun h=>?_) (fun h=>?_))
   refine ⟨⟨v+1,by omega⟩,?_,by simp only;omega⟩
   simp only
   rw[hstep]
   (apply Le.headG [_,_] [{ l:=⟨1,[]⟩,k:=1,R:=TR (tabF (k+1) k dk),src:=⟨1,[]⟩,base:=⟨1,[]⟩ }] (fun _=>False))
   (case' hlen=>rfl)
   (case' hms=>rfl)
   all_goals (try dsimp only[srcs])
   (case' hfr|hob=>(repeat' (first|refine La ?_ ?_|exact Lc|refine Lo ?_|refine ⟨⟨_,rfl,?_⟩,?_⟩|refine Lx ?_)))
   (case' hok=>first|exact ⟨MI.ok_same rfl (Cg),trivial⟩|exact trivial)
   (case' hN=>rfl)
   (case' hS=>rfl)
   all_goals (first|exact Ld|(rfl))
end Go.Proofs.YtkpoclbnnpglfaaGreat
