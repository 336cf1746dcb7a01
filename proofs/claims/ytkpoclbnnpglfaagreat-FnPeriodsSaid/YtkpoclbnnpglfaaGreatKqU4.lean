/-
  Walks in the abstract reading, part 4.
-/
import Derived.Test.YtkpoclbnnpglfaaGreatKqU3
import Derived.Test.YtkpoclbnnpglfaaGreatKqU2
import Derived.Test.YtkpoclbnnpglfaaGreatKqA2
import Derived.Test.YtkpoclbnnpglfaaGreatKqU1
import Derived.Test.YtkpoclbnnpglfaaGreatKqA3
set_option linter.unusedSimpArgs false
set_option linter.unusedVariables false
namespace Go.Proofs.YtkpoclbnnpglfaaGreat
section
open Go Go.RowKit
attribute [local irreducible] AL AD AW OpOk Le AC thenQ blockQ EndQ
def fwN (W:Nat→Nat→Int):Nat→Nat→Nat→Int
 | 0=>fun i j=>max (W i j) (if i=j then 0 else BOT)
 | k+1=>fwS (fwN W k) k
structure StarM (t:List (List Int)) (n:Nat):Prop where
 rc:Rc t n n
 n0:0<n
 nn:n≤10
 bnd:∀ u v,entN t v u≠BOT→-100000000000≤entN t v u∧entN t v u≤100000000000
 np:NoPos (entN t) n
theorem pow_le10 [Mode] {k:Nat} (h:k≤10):(2:Int) ^ k≤1024:=by
 have:k=0∨k=1∨k=2∨k=3∨k=4∨k=5∨k=6∨k=7∨k=8∨k=9∨k=10:=by omega
 rcases this with rfl|rfl|rfl|rfl|rfl|rfl|rfl|rfl|rfl|rfl|rfl<;>decide
theorem StarM.fw [Mode] {t:List (List Int)}{n:Nat} (h:StarM t n):∀ k,k≤n→FW (entN t) n 100000000000 k (fwN (entN t) k)
 | 0,_=>FW.start (by decide) (by decide) h.bnd
 | k+1,hk=>by
  have h2:=pow_le10 (show k+1≤10 by have:=h.nn;omega)
  exact (FW.step h.np (by decide) (by omega) (by omega) (h.fw k (by omega))).1
theorem StarM.cells [Mode] {t:List (List Int)}{n:Nat} (h:StarM t n) {k:Nat} (hk:k≤n) {i j:Nat} (hi:i<n) (hj:j<n):fwN (entN t) k i j=BOT∨(-102400000000000≤fwN (entN t) k i j∧fwN (entN t) k i j≤1000000000000):=by
 have hf:=h.fw k hk
 have hn:=h.nn
 have h2:=pow_le10 (show k≤10 by omega)
 by_cases e:fwN (entN t) k i j=BOT
 ·exact .inl e
 ·right
  have h3:=hf.low j i hj hi e
  have h4:=star_hi h.np (by decide) h.bnd hf.some hj hi
  omega
theorem StarM.star [Mode] {t:List (List Int)}{n:Nat} (h:StarM t n) {i j:Nat} (hi:i<n) (hj:j<n):starF (entN t) n i j=fwN (entN t) n i j:=starF_eq (h.fw n (Nat.le_refl _)).star hj hi
theorem StarM.tab [Mode] {t:List (List Int)}{n:Nat} (h:StarM t n):tabF n n (fwN (entN t) n)=tabF n n (starF (entN t) n):=tabF_congr fun i j hi hj=>(h.star hi hj).symm
theorem StarM.ok [Mode] {t:List (List Int)}{n:Nat} (h:StarM t n):StarOk (entN t) n (starF (entN t) n):=by
 unfold starF
 have he:∃ s,StarOk (entN t) n s:=⟨_,(h.fw n (Nat.le_refl _)).star⟩
 rw[dif_pos he]
 exact Classical.choose_spec he
set_option maxHeartbeats 4000000 in
theorem starOf_ac [Mode] (t:List (List Int)) (n:Nat) (h:StarM t n):AC Tryz.prog 83 [TL t] H0 (.tup [own1 1 n,Bo true]) (hpM 1 (TR (tabF n n (starF (entN t) n)))):=by
 have hn:=h.nn
 have h0:=h.n0
 have htl:=h.rc.l
 have hU:=unitMatrix_ac n (by omega)
 have hA:=addMatrices_ac n n t (tabF n n unitF) h.rc tabF_rc h0 (by omega) (by omega)
 have hA0:tabF n n (addF t (tabF n n unitF))=tabF n n (fwN (entN t) 0):=tabF_congr fun i j hi hj=>by
  unfold addF fwN
  rw[tabF_ent hi hj]
  rfl
 rw[hA0] at hA
 have hul:(tabF n n unitF).length=n:=tabF_len
 rw[← h.tab]
 have hL:(mRows 1 (TR t)).length=n:=by rw[mTR_len,htl]
 refine AC.of_body 0 Tryz.func83 rfl (fun l h=>absurd rfl h) (fun C hC=>?_)
 have hD:∀ l,¬ C.D0 l:=fun l h=>(hC l).1 h rfl
 simp only[startFr,Tryz.ntmps83,List.length_cons,List.length_nil,Nat.reduceAdd,Nat.reduceSub,List.replicate_succ,List.replicate_zero,List.cons_append,List.nil_append]
 repeat' (first|((first|apply Ba|(apply Bb;(· rfl);(· rfl))|(apply Bc;(· exact nxE))|(apply Bd;(· rfl);(· rfl);(· exact nxE)));(· first|exact Ok.lenD rfl rfl hL|exact Tb rfl rfl (hU) (Sd Sn)|exact Tb rfl rfl (hA) (Sd (Sm Sn))|exact Ok.pe))|((first|apply Ca|(apply Cb;(· exact nxE)));(· first|exact Tb rfl rfl (hU) (Sd Sn)|exact Tb rfl rfl (hA) (Sd (Sm Sn))|exact Ok.e0))|refine Sx ?_|(refine Sy (fun h=>?_) (fun h=>?_)<;>try (exfalso;omega;done))|refine Sz (fun h=>?_) (fun h=>?_))
 refine AW.loop (X:={k:Nat // k≤n}) (fun k=>⟨[Oo,Oo,Oo,Oo,.own 1 ⟨1,[]⟩ 0 n,Oo,Oo,Oo,Oo,Oo,Oo,Oo,Oo,Oo,Oo,I n,I (k.1:Nat),Oo,Oo,Oo,Oo,Oo,Oo,Oo,Oo,Oo,Oo,Oo,Oo,Oo,Oo,Oo,Oo,Oo,Oo,Oo,Oo,Oo,Oo,Oo,Oo,Oo,Oo,Oo,Oo,Oo,Oo,Oo,Oo,Oo,Oo,Oo,Oo,Oo,Oo,Oo,Oo,Oo,Oo,Oo,Oo,Oo,Oo,Oo,Oo,Oo,Oo,Oo,Oo,Oo,Oo,Oo,Oo,Oo,Oo,Oo,Oo,Oo,Oo,Oo,Oo,Oo,Oo,Oo],heapX [] [mi1 ⟨1,[]⟩ (TR (tabF n n (fwN (entN t) k.1)))],900⟩) (fun k=>n - k.1) ⟨0,Nat.zero_le _⟩ ?_ (fun k=>?_)
 ·
  (apply Le.headG [] [{ l:=⟨1,[]⟩,k:=1,R:=TR (tabF n n (fwN (entN t) 0)),src:=⟨6,[0]⟩,base:=⟨6,[0]⟩ }] (fun _=>False))
  (case' hlen=>rfl)
  (case' hms=>rfl)
  all_goals (try dsimp only[srcs])
  (case' hfr|hob=>(repeat' (first|refine La ?_ ?_|exact Lc|refine Lo ?_|refine ⟨⟨_,rfl,?_⟩,?_⟩|refine Lx ?_)))
  (case' hok=>first|exact ⟨MI.ok_same rfl (Cg),trivial⟩|exact trivial)
  (case' hN=>rfl)
  (case' hS=>rfl)
  all_goals (first|exact Ld|(rfl))
 obtain ⟨p,hk⟩:=k
 simp only
 have hf:=h.fw p hk
 have hcell:=fun {i j}=>h.cells hk (i:=i) (j:=j)
 by_cases hlt:p<n
 ·
  have hkk:=star_dia0 h.np hf.some hf.dia hlt
  obtain ⟨_,hcol,hrw⟩:=FW.step h.np (by decide) (by have:=pow_le10 (show p+1≤10 by omega);omega) hlt hf
  have hst:fwN (entN t) (p+1)=fwS (fwN (entN t) p) p:=rfl
  generalize fwN (entN t) p=s at *
  clear hf hA hA0 hU
  have hrk:=TRF_get (n:=n) (f:=s) hlt
  have hrkl:(IR (rowF n (s p))).length=n:=by rw[IR_len,rowF_len]
  have hck:=IRF_get (g:=s p) hlt
  rw[hkk] at hck
  repeat' (first|((first|apply Ba|(apply Bb;(· rfl);(· rfl))|(apply Bc;(· exact nxE))|(apply Bd;(· rfl);(· rfl);(· exact nxE)));(· first|exact Ok.ldTn rfl rfl rfl hrk hrkl|exact Ok.ld1 rfl rfl (congrArg (Option.map (dobj 1)) hrk) hck|exact Ok.pe))|((first|apply Ca|(apply Cb;(· exact nxE)));(· first|exact Ok.e0))|refine Sx ?_|(refine Sy (fun h=>?_) (fun h=>?_)<;>try (exfalso;omega;done))|refine Sz (fun h=>?_) (fun h=>?_))
  refine AW.loop (X:={k:Nat // k≤n}) (fun k=>⟨[Oo,Oo,Oo,Oo,.own 1 ⟨1,[]⟩ 0 n,I p,Oo,Oo,Oo,Oo,Oo,Oo,Oo,Oo,Oo,I n,I p,Oo,Oo,Oo,Oo,Oo,Oo,Oo,Oo,Oo,Oo,Oo,I n,I (k.1:Nat),Oo,Oo,Oo,Oo,Oo,Oo,Oo,Oo,Oo,Oo,Oo,Oo,Oo,Oo,Oo,Oo,Oo,Oo,Oo,Oo,Oo,Oo,Oo,Oo,Oo,Oo,Oo,Oo,Oo,Oo,Oo,Oo,Oo,Oo,Oo,Oo,Oo,Oo,Oo,Oo,Oo,Oo,Oo,Oo,Oo,Oo,Oo,Oo,Oo,Oo,Oo,Oo,Oo,Oo],heapX [] [mi1 ⟨1,[]⟩ (TR (tabF n n (mixF (fwS s p) s k.1 0)))],900⟩) (fun k=>n - k.1) ⟨0,Nat.zero_le _⟩ ?_ (fun k=>?_)
  ·
   (apply Le.headG [] [mi1 ⟨1,[]⟩ (TR (tabF n n (mixF (fwS s p) s 0 0)))] (fun _=>False))
   (case' hlen=>rfl)
   (case' hms=>rfl)
   all_goals (try dsimp only[srcs])
   (case' hfr|hob=>(repeat' (first|refine La ?_ ?_|exact Lc|refine Lo ?_|refine ⟨⟨_,rfl,?_⟩,?_⟩|refine Lx ?_)))
   (case' hok=>first|exact ⟨by rw[mixF_0];exact MI.ok_same rfl (Cg),trivial⟩|exact trivial)
   (case' hN=>rfl)
   (case' hS=>rfl)
   all_goals (first|exact Ld|(rfl))
  obtain ⟨i,hi⟩:=k
  simp only
  by_cases hlt2:i<n
  ·
   repeat' (first|((first|apply Ba|(apply Bb;(· rfl);(· rfl))|(apply Bc;(· exact nxE))|(apply Bd;(· rfl);(· rfl);(· exact nxE)));(· first|exact Ok.pe))|((first|apply Ca|(apply Cb;(· exact nxE)));(· first|exact Ok.e0))|refine Sx ?_|(refine Sy (fun h=>?_) (fun h=>?_)<;>try (exfalso;omega;done))|refine Sz (fun h=>?_) (fun h=>?_))
   refine AW.loop (X:={k:Nat // k≤n}) (fun k=>⟨[Oo,Oo,Oo,Oo,.own 1 ⟨1,[]⟩ 0 n,I p,I i,Oo,Oo,Oo,Oo,Oo,Oo,Oo,Oo,I n,I p,Oo,Oo,Oo,Oo,Oo,Oo,Oo,Oo,Oo,Oo,Oo,I n,I i,Oo,Oo,Oo,I n,I (k.1:Nat),Oo,Oo,Oo,Oo,Oo,Oo,Oo,Oo,Oo,Oo,Oo,Oo,Oo,Oo,Oo,Oo,Oo,Oo,Oo,Oo,Oo,Oo,Oo,Oo,Oo,Oo,Oo,Oo,Oo,Oo,Oo,Oo,Oo,Oo,Oo,Oo,Oo,Oo,Oo,Oo,Oo,Oo,Oo,Oo,Oo,Oo,Oo,Oo,Oo],heapX [] [mi1 ⟨1,[]⟩ (TR (tabF n n (mixF (fwS s p) s i k.1)))],900⟩) (fun k=>n - k.1) ⟨0,Nat.zero_le _⟩ ?_ (fun k=>?_)
   ·
    (apply Le.headG [] [mi1 ⟨1,[]⟩ (TR (tabF n n (mixF (fwS s p) s i 0)))] (fun _=>False))
    (case' hlen=>rfl)
    (case' hms=>rfl)
    all_goals (try dsimp only[srcs])
    (case' hfr|hob=>(repeat' (first|refine La ?_ ?_|exact Lc|refine Lo ?_|refine ⟨⟨_,rfl,?_⟩,?_⟩|refine Lx ?_)))
    (case' hok=>first|exact ⟨MI.ok_same rfl (Cg),trivial⟩|exact trivial)
    (case' hN=>rfl)
    (case' hS=>rfl)
    all_goals (first|exact Ld|(rfl))
   obtain ⟨j,hj⟩:=k
   simp only
   by_cases hlt3:j<n
   ·
    have hrwi:=TRF_get (n:=n) (f:=mixF (fwS s p) s i j) hlt2
    have hrwk:=TRF_get (n:=n) (f:=mixF (fwS s p) s i j) hlt
    have hli:(IR (rowF n (mixF (fwS s p) s i j i))).length=n:=by rw[IR_len,rowF_len]
    have hlk:(IR (rowF n (mixF (fwS s p) s i j p))).length=n:=by rw[IR_len,rowF_len]
    have hij:=IRF_get (g:=mixF (fwS s p) s i j i) hlt3
    have hik:=IRF_get (g:=mixF (fwS s p) s i j i) hlt
    have hkj:=IRF_get (g:=mixF (fwS s p) s i j p) hlt3
    rw[show mixF (fwS s p) s i j i j=s i j by unfold mixF;rw[if_neg (by omega)]] at hij
    rw[show mixF (fwS s p) s i j i p=s i p by unfold mixF;split<;>first|exact hcol i hlt2|rfl] at hik
    rw[show mixF (fwS s p) s i j p j=s p j by unfold mixF;split<;>first|exact hrw j hlt3|rfl] at hkj
    have hT:=times_ac (s i p) (s p j) (fun e1 e2=>by
     have h1:=(hcell hlt2 hlt).resolve_left e1
     have h2:=(hcell hlt hlt3).resolve_left e2
     omega)
    have hset:(IR (rowF n (mixF (fwS s p) s i j i))).set j [DI (max (s i j) (timesB (s i p) (s p j)))]=IR ((rowF n (mixF (fwS s p) s i j i)).set j (fwS s p i j)):=IR_set
    repeat' (first|((first|apply Ba|(apply Bb;(· rfl);(· rfl))|(apply Bc;(· exact nxE))|(apply Bd;(· rfl);(· rfl);(· exact nxE)));(· first|exact Ok.ldTn rfl rfl rfl hrwi hli|exact Ok.ldTn rfl rfl rfl hrwk hlk|exact Ok.ld1 rfl rfl (congrArg (Option.map (dobj 1)) hrwi) hij|exact Ok.ld1 rfl rfl (congrArg (Option.map (dobj 1)) hrwi) hik|exact Ok.ld1 rfl rfl (congrArg (Option.map (dobj 1)) hrwk) hkj|exact Kz rfl rfl (hT) (Ad (Ad An))|exact Ok.st1 rfl rfl (congrArg (Option.map (dobj 1)) hrwi) (by simp[rowF_len];omega) (by rw[hij];rfl) rfl rfl hset|exact Ok.pe))|((first|apply Ca|(apply Cb;(· exact nxE)));(· first|exact Ok.st1 rfl rfl (congrArg (Option.map (dobj 1)) hrwi) (by simp[rowF_len];omega) (by rw[hij];rfl) rfl rfl hset|exact Ok.e0))|refine Sx ?_|(refine Sy (fun h=>?_) (fun h=>?_)<;>try (exfalso;omega;done))|refine Sz (fun h=>?_) (fun h=>?_))
    refine ⟨⟨j+1,by omega⟩,?_,by simp only;omega⟩
    (apply Le.headG [] [mi1 ⟨1,[]⟩ (TR (tabF n n (mixF (fwS s p) s i (j+1))))] (fun _=>False))
    (case' hlen=>rfl)
    (case' hms=>rfl)
    all_goals (try dsimp only[srcs])
    (case' hfr|hob=>(repeat' (first|refine La ?_ ?_|exact Lc|refine Lo ?_|refine ⟨⟨_,rfl,?_⟩,?_⟩|refine Lx ?_)))
    (case' hok=>first|exact ⟨MI.ok_row (tabF_set (fun a b _ _=>mixF_set)) hrwi (by simp) rfl (Cg),trivial⟩|exact trivial)
    (case' hN=>rfl)
    (case' hS=>rfl)
    all_goals (first|exact Ld|(rfl))
   ·
    obtain rfl:j=n:=by omega
    rw[mixF_row]
    repeat' (first|((first|apply Ba|(apply Bb;(· rfl);(· rfl))|(apply Bc;(· exact nxE))|(apply Bd;(· rfl);(· rfl);(· exact nxE)));(· first|exact Ok.pe))|((first|apply Ca|(apply Cb;(· exact nxE)));(· first|exact Ok.e0))|refine Sx ?_|(refine Sy (fun h=>?_) (fun h=>?_)<;>try (exfalso;omega;done))|refine Sz (fun h=>?_) (fun h=>?_))
    refine ⟨⟨i+1,by omega⟩,?_,by simp only;omega⟩
    (apply Le.headG [] [mi1 ⟨1,[]⟩ (TR (tabF j j (mixF (fwS s p) s (i+1) 0)))] (fun _=>False))
    (case' hlen=>rfl)
    (case' hms=>rfl)
    all_goals (try dsimp only[srcs])
    (case' hfr|hob=>(repeat' (first|refine La ?_ ?_|exact Lc|refine Lo ?_|refine ⟨⟨_,rfl,?_⟩,?_⟩|refine Lx ?_)))
    (case' hok=>first|exact ⟨MI.ok_same rfl (Cg),trivial⟩|exact trivial)
    (case' hN=>rfl)
    (case' hS=>rfl)
    all_goals (first|exact Ld|(rfl))
  ·
   obtain rfl:i=n:=by omega
   rw[mixF_all]
   repeat' (first|((first|apply Ba|(apply Bb;(· rfl);(· rfl))|(apply Bc;(· exact nxE))|(apply Bd;(· rfl);(· rfl);(· exact nxE)));(· first|exact Ok.pe))|((first|apply Ca|(apply Cb;(· exact nxE)));(· first|exact Ok.e0))|refine Sx ?_|(refine Sy (fun h=>?_) (fun h=>?_)<;>try (exfalso;omega;done))|refine Sz (fun h=>?_) (fun h=>?_))
   refine ⟨⟨p+1,by omega⟩,?_,by simp only;omega⟩
   simp only
   rw[hst]
   (apply Le.headG [] [mi1 ⟨1,[]⟩ (TR (tabF i i (fwS s p)))] (fun _=>False))
   (case' hlen=>rfl)
   (case' hms=>rfl)
   all_goals (try dsimp only[srcs])
   (case' hfr|hob=>(repeat' (first|refine La ?_ ?_|exact Lc|refine Lo ?_|refine ⟨⟨_,rfl,?_⟩,?_⟩|refine Lx ?_)))
   (case' hok=>first|exact ⟨MI.ok_same rfl (Cg),trivial⟩|exact trivial)
   (case' hN=>rfl)
   (case' hS=>rfl)
   all_goals (first|exact Ld|(rfl))
 ·
  obtain rfl:n=p:=by omega
  have hdd:=fun {u} (hu:u<n)=>star_dia0 h.np hf.some hf.dia hu
  generalize fwN (entN t) n=s at *
  clear hf hA hA0 hU
  repeat' (first|((first|apply Ba|(apply Bb;(· rfl);(· rfl))|(apply Bc;(· exact nxE))|(apply Bd;(· rfl);(· rfl);(· exact nxE)));(· first|exact Ok.pe))|((first|apply Ca|(apply Cb;(· exact nxE)));(· first|exact Ok.e0))|refine Sx ?_|(refine Sy (fun h=>?_) (fun h=>?_)<;>try (exfalso;omega;done))|refine Sz (fun h=>?_) (fun h=>?_))
  refine AW.loop (X:={k:Nat // k≤n}) (fun k=>⟨[Oo,Oo,Oo,Oo,.own 1 ⟨1,[]⟩ 0 n,Oo,Oo,Oo,Oo,Oo,Oo,Oo,Oo,Oo,Oo,Oo,Oo,Oo,Oo,Oo,Oo,Oo,Oo,Oo,Oo,Oo,Oo,Oo,Oo,Oo,Oo,Oo,Oo,Oo,Oo,Oo,Oo,Oo,Oo,Oo,Oo,Oo,Oo,Oo,Oo,Oo,Oo,Oo,Oo,Oo,Oo,Oo,Oo,Oo,Oo,Oo,Oo,Oo,Oo,Oo,Oo,Oo,Oo,Oo,Oo,Oo,Oo,Oo,Oo,Oo,I n,I (k.1:Nat),Oo,Oo,Oo,Oo,Oo,Oo,Oo,Oo,Oo,Oo,Oo,Oo],heapX [] [mi1 ⟨1,[]⟩ (TR (tabF n n s))],900⟩) (fun k=>n - k.1) ⟨0,Nat.zero_le _⟩ ?_ (fun k=>?_)
  ·
   (apply Le.headG [] [mi1 ⟨1,[]⟩ (TR (tabF n n s))] (fun _=>False))
   (case' hlen=>rfl)
   (case' hms=>rfl)
   all_goals (try dsimp only[srcs])
   (case' hfr|hob=>(repeat' (first|refine La ?_ ?_|exact Lc|refine Lo ?_|refine ⟨⟨_,rfl,?_⟩,?_⟩|refine Lx ?_)))
   (case' hok=>first|exact ⟨MI.ok_same rfl (Cg),trivial⟩|exact trivial)
   (case' hN=>rfl)
   (case' hS=>rfl)
   all_goals (first|exact Ld|(rfl))
  obtain ⟨i,hi⟩:=k
  simp only
  by_cases hlt2:i<n
  ·
   have hrk:=TRF_get (n:=n) (f:=s) hlt2
   have hrkl:(IR (rowF n (s i))).length=n:=by rw[IR_len,rowF_len]
   have hck:=IRF_get (g:=s i) hlt2
   rw[hdd hlt2] at hck
   repeat' (first|((first|apply Ba|(apply Bb;(· rfl);(· rfl))|(apply Bc;(· exact nxE))|(apply Bd;(· rfl);(· rfl);(· exact nxE)));(· first|exact Ok.ldTn rfl rfl rfl hrk hrkl|exact Ok.ld1 rfl rfl (congrArg (Option.map (dobj 1)) hrk) hck|exact Ok.pe))|((first|apply Ca|(apply Cb;(· exact nxE)));(· first|exact Ok.e0))|refine Sx ?_|(refine Sy (fun h=>?_) (fun h=>?_)<;>try (exfalso;omega;done))|refine Sz (fun h=>?_) (fun h=>?_))
   refine ⟨⟨i+1,by omega⟩,?_,by simp only;omega⟩
   (apply Le.headG [] [mi1 ⟨1,[]⟩ (TR (tabF n n s))] (fun _=>False))
   (case' hlen=>rfl)
   (case' hms=>rfl)
   all_goals (try dsimp only[srcs])
   (case' hfr|hob=>(repeat' (first|refine La ?_ ?_|exact Lc|refine Lo ?_|refine ⟨⟨_,rfl,?_⟩,?_⟩|refine Lx ?_)))
   (case' hok=>first|exact ⟨MI.ok_same rfl (Cg),trivial⟩|exact trivial)
   (case' hN=>rfl)
   (case' hS=>rfl)
   all_goals (first|exact Ld|(rfl))
  ·
   obtain rfl:n=i:=by omega
   repeat' (first|((first|apply Ba|(apply Bb;(· rfl);(· rfl))|(apply Bc;(· exact nxE))|(apply Bd;(· rfl);(· rfl);(· exact nxE)));(· first|exact Ok.pe))|((first|apply Ca|(apply Cb;(· exact nxE)));(· first|exact Ok.e0))|refine Sx ?_|(refine Sy (fun h=>?_) (fun h=>?_)<;>try (exfalso;omega;done))|refine Sz (fun h=>?_) (fun h=>?_))
   refine Yb ?_
   (apply Le.headG [] [{ l:=⟨0,[]⟩,k:=1,R:=TR (tabF n n s),src:=⟨1,[]⟩,base:=⟨1,[]⟩ }] (fun _=>False))
   (case' hlen=>rfl)
   (case' hms=>rfl)
   all_goals (try dsimp only[srcs])
   (case' hfr|hob=>(repeat' (first|refine La ?_ ?_|exact Lc|refine Lo ?_|refine ⟨⟨_,rfl,?_⟩,?_⟩|refine Lx ?_)))
   (case' hok=>first|exact ⟨MI.ok_same rfl (Cg),trivial⟩|exact trivial)
   (case' hN=>rfl)
   (case' hS=>rfl)
   all_goals (first|exact Ld|(rfl))
end
section
open Go Go.RowKit
attribute [local irreducible] AL AD AW OpOk Le AC thenQ blockQ EndQ
theorem PathC.len [Mode] {xs:List Pl}{n:Nat}{c:List Nat} (hv:∀ p∈xs,okPl n p) (h:PathC xs c):c.length≤n:=by
 have hlt:=h.wk.lt
 have hnd:(c.map fun i=>(plA xs i).f.toNat).Nodup:=by
  have:=h.nd
  rw[List.nodup_iff_pairwise_ne,List.pairwise_map] at this ⊢
  refine List.Pairwise.imp_of_mem (R:=fun a b=>(plA xs a).f≠(plA xs b).f) ?_ this
  intro a b ha hb hne e
  have h1:=(okPl_at hv a (hlt a ha)).1
  have h2:=(okPl_at hv b (hlt b hb)).1
  omega
 have:=nodup_le n _ hnd (fun x hx=>by
  obtain ⟨i,hi,rfl⟩:=List.mem_map.1 hx
  have:=(okPl_at hv i (hlt i hi)).1
  omega)
 simpa using this
theorem mul_in [Mode] {a b A B:Int} (ha:0≤a∧a≤A) (hb:0≤b∧b≤B):0≤a*b∧a*b≤A*B:=
 ⟨Int.mul_nonneg ha.1 hb.1,Int.mul_le_mul ha.2 hb.2 hb.1 (by omega)⟩
theorem hdN_mem [Mode] {l:List Nat} (h:l≠[]):hdN l∈l:=by cases l with|nil=>exact absurd rfl h|cons=>simp[hdN]
theorem lsN_mem [Mode] {l:List Nat} (h:l≠[]):lsN l∈l:=by
 unfold lsN
 rw[List.getLastD_eq_getLast?,List.getLast?_eq_some_getLast h]
 exact List.getLast_mem _
end
section
open Go Go.RowKit
attribute [local irreducible] AL AD AW OpOk Le AC thenQ blockQ EndQ
def okP (r e:Nat) (p:Pl):Prop:=p.t=e∧p.k+1≤r
instance {r e:Nat}{p:Pl}:Decidable (okP r e p):=by unfold okP;exact inferInstance
def stopC (t:List (List Int)) (xs:List Pl) (r e:Nat):Prop:=(alA t r e xs xs.length).2<0∨(alA t r e xs xs.length).1<entN t (r - 1) e
instance {t:List (List Int)}{xs:List Pl}{r e:Nat}:Decidable (stopC t xs r e):=by unfold stopC;exact inferInstance
end
section
open Go Go.RowKit
attribute [local irreducible] AL AD AW OpOk Le AC thenQ blockQ EndQ
theorem l01Divisor_ac [Mode] (a b:Nat) (ha:a≤1000000000000000000) (hb:b≤1000000000000000000):AC Tryz.prog 98 [I a,I b] H0 (I (Nat.gcd a b:Nat)) H0:=by
 refine AC.of_body 0 Tryz.func98 rfl (fun l h=>absurd rfl h) (fun C hC=>?_)
 have hD:∀ l,¬ C.D0 l:=fun l h=>(hC l).1 h rfl
 simp only[startFr,Tryz.ntmps98,List.length_cons,List.length_nil,Nat.reduceAdd,Nat.reduceSub,List.replicate_succ,List.replicate_zero,List.cons_append,List.nil_append]
 repeat' (first|((first|apply Ba|(apply Bb;(· rfl);(· rfl))|(apply Bc;(· exact nxE))|(apply Bd;(· rfl);(· rfl);(· exact nxE)));(· first|exact Ok.pe))|((first|apply Ca|(apply Cb;(· exact nxE)));(· first|exact Ok.e0))|refine Sx ?_|(refine Sy (fun h=>?_) (fun h=>?_)<;>try (exfalso;omega;done))|refine Sz (fun h=>?_) (fun h=>?_))
 refine AW.loop (X:={p:Nat × Nat // Nat.gcd p.1 p.2=Nat.gcd a b∧p.1≤1000000000000000000∧p.2≤1000000000000000000}) (fun p=>⟨[I (p.1.1:Nat),I (p.1.2:Nat),Oo,Oo,Oo,Oo,Oo,Oo,Oo,Oo,Oo,Oo,Oo,Oo,Oo,Oo,Oo,Oo,Oo,Oo],heapL [],900⟩) (fun p=>p.1.2) ⟨(a,b),rfl,ha,hb⟩ ?_ (fun p=>?_)
 ·
  (apply Le.headZ [] rfl)
  all_goals (try dsimp only[srcs])
  (case' hfr|hob=>(repeat' (first|refine La ?_ ?_|exact Lc|refine Lo ?_|refine ⟨⟨_,rfl,?_⟩,?_⟩|refine Lx ?_)))
  all_goals (first|(rfl)|exact Ld)
 obtain ⟨⟨x,y⟩,hg,hx,hy⟩:=p
 simp only at hg hx hy ⊢
 by_cases h0:0<y
 ·
  repeat' (first|((first|apply Ba|(apply Bb;(· rfl);(· rfl))|(apply Bc;(· exact nxE))|(apply Bd;(· rfl);(· rfl);(· exact nxE)));(· first|exact Ok.rem rfl rfl rfl (by omega)|exact Ok.pe))|((first|apply Ca|(apply Cb;(· exact nxE)));(· first|exact Ok.e0))|refine Sx ?_|(refine Sy (fun h=>?_) (fun h=>?_)<;>try (exfalso;omega;done))|refine Sz (fun h=>?_) (fun h=>?_))
  refine ⟨⟨(y,x % y),by rw[← hg,Nat.gcd_comm y (x % y),← Nat.gcd_rec,Nat.gcd_comm],hy,by have:=Nat.mod_lt x h0;simp only;omega⟩,?_,by simp only;exact Nat.mod_lt x h0⟩
  (apply Le.headZ [] rfl)
  all_goals (try dsimp only[srcs])
  (case' hfr|hob=>(repeat' (first|refine La ?_ ?_|exact Lc|refine Lo ?_|refine ⟨⟨_,rfl,?_⟩,?_⟩|refine Lx ?_)))
  all_goals (first|(rfl)|exact Ld)
 ·
  obtain rfl:y=0:=by omega
  rw[Nat.gcd_zero_right] at hg
  subst hg
  repeat' (first|((first|apply Ba|(apply Bb;(· rfl);(· rfl))|(apply Bc;(· exact nxE))|(apply Bd;(· rfl);(· rfl);(· exact nxE)));(· first|exact Ok.pe))|((first|apply Ca|(apply Cb;(· exact nxE)));(· first|exact Ok.e0))|refine Sx ?_|(refine Sy (fun h=>?_) (fun h=>?_)<;>try (exfalso;omega;done))|refine Sz (fun h=>?_) (fun h=>?_))
  refine Ya ?_
  (apply Le.headZ (hs:=[]) [] rfl)
  all_goals (try dsimp only[srcs])
  (case' hfr=>(repeat' (first|refine La ?_ ?_|exact Lc|refine Lo ?_|refine ⟨⟨_,rfl,?_⟩,?_⟩|refine Lx ?_)))
  all_goals (first|exact Ld|exact trivial|(rfl))
theorem Live.over [Mode] {n:Nat}{xs:List Pl} (hl:Live xs n) {u1 u2 over:Int}{c:List Nat} (hc:Circ xs c) (hw:over<wgt xs u1 u2 c):overC xs u1 u2 over n≠[]:=overC_finds hc (hl.circ hc).1 hw
end
section
open Go Go.RowKit
attribute [local irreducible] AL AD AW OpOk Le AC thenQ blockQ EndQ
end
section
open Go Go.RowKit
attribute [local irreducible] AL AD AW OpOk Le AC thenQ blockQ EndQ
end
section
open Go Go.RowKit
attribute [local irreducible] AL AD AW OpOk Le AC thenQ blockQ EndQ
noncomputable def perL (f:Nat→Nat) (z:Nat):Nat:=open Classical in if h:∃ L,Per f z L then Classical.choose h else 0
theorem perL_eq [Mode] {f:Nat→Nat}{z L:Nat} (h:Per f z L):perL f z=L:=by
 have he:∃ L,Per f z L:=⟨L,h⟩
 unfold perL
 rw[dif_pos he]
 exact Per.uniq (Classical.choose_spec he) h
abbrev predF (xs:List Pl) (y:Nat→Nat):Nat→Nat:=fun v=>plF xs (y v)
noncomputable def btL (xs:List Pl) (n:Nat) (s:BF):List Nat:=(backC s.y (predF xs s.y) (iter (predF xs s.y) n s.last.toNat) (perL (predF xs s.y) (iter (predF xs s.y) n s.last.toNat))).reverse
theorem btL_eq [Mode] {xs:List Pl}{n:Nat}{r:Int × Int}{s:BF}{v z L:Nat} (h:Found xs n r s v z L):btL xs n s=(backC s.y (predF xs s.y) z L).reverse:=by
 unfold btL
 rw[h.last,Int.toNat_natCast]
 have e:iter (predF xs s.y) n v=z:=h.zv
 rw[e,perL_eq h.per]
structure BtSt (xs:List Pl) (n:Nat) (r:Int × Int) (q:Nat) (s:BF):Prop where
 le:q≤n+1
 run:bfRun xs r (n+1) bf0=bfRun xs r (n+1 - q) s
 bnd:∀ v,0≤s.b v∧s.b v≤30000000*(q:Int)
end
section
open Go Go.RowKit
attribute [local irreducible] AL AD AW OpOk Le AC thenQ blockQ EndQ
theorem absOf_ac [Mode] (a:Int) (ha:0≤a):AC Tryz.prog 106 [I a] H0 (I a) H0:=by
 refine AC.of_body 0 Tryz.func106 rfl (fun l h=>absurd rfl h) (fun C hC=>?_)
 have hD:∀ l,¬ C.D0 l:=fun l h=>(hC l).1 h rfl
 simp only[startFr,Tryz.ntmps106,List.length_cons,List.length_nil,Nat.reduceAdd,Nat.reduceSub,List.replicate_succ,List.replicate_zero,List.cons_append,List.nil_append]
 repeat' (first|((first|apply Ba|(apply Bb;(· rfl);(· rfl))|(apply Bc;(· exact nxE))|(apply Bd;(· rfl);(· rfl);(· exact nxE)));(· first|exact Ok.pe))|((first|apply Ca|(apply Cb;(· exact nxE)));(· first|exact Ok.e0))|refine Sx ?_|(refine Sy (fun h=>?_) (fun h=>?_)<;>try (exfalso;omega;done))|refine Sz (fun h=>?_) (fun h=>?_))
 refine Ya ?_
 (apply Le.headZ (hs:=[]) [] rfl)
 all_goals (try dsimp only[srcs])
 (case' hfr=>(repeat' (first|refine La ?_ ?_|exact Lc|refine Lo ?_|refine ⟨⟨_,rfl,?_⟩,?_⟩|refine Lx ?_)))
 all_goals (first|exact Ld|exact trivial|(rfl))
theorem divisorOf_ac [Mode] (a b:Nat) (ha:a≤1000000000000000000) (hb:b≤1000000000000000000):AC Tryz.prog 72 [I a,I b] H0 (I (Nat.gcd a b:Nat)) H0:=by
 refine AC.of_body 0 Tryz.func72 rfl (fun l h=>absurd rfl h) (fun C hC=>?_)
 have hD:∀ l,¬ C.D0 l:=fun l h=>(hC l).1 h rfl
 simp only[startFr,Tryz.ntmps72,List.length_cons,List.length_nil,Nat.reduceAdd,Nat.reduceSub,List.replicate_succ,List.replicate_zero,List.cons_append,List.nil_append]
 repeat' (first|((first|apply Ba|(apply Bb;(· rfl);(· rfl))|(apply Bc;(· exact nxE))|(apply Bd;(· rfl);(· rfl);(· exact nxE)));(· first|exact Ok.pe))|((first|apply Ca|(apply Cb;(· exact nxE)));(· first|exact Ok.e0))|refine Sx ?_|(refine Sy (fun h=>?_) (fun h=>?_)<;>try (exfalso;omega;done))|refine Sz (fun h=>?_) (fun h=>?_))
 refine AW.loop (X:={p:Nat × Nat // Nat.gcd p.1 p.2=Nat.gcd a b∧p.1≤1000000000000000000∧p.2≤1000000000000000000}) (fun p=>⟨[I (p.1.1:Nat),I (p.1.2:Nat),Oo,Oo,Oo,Oo,Oo,Oo,Oo,Oo,Oo,Oo],heapL [],900⟩) (fun p=>p.1.2) ⟨(a,b),rfl,ha,hb⟩ ?_ (fun p=>?_)
 ·
  (apply Le.headZ [] rfl)
  all_goals (try dsimp only[srcs])
  (case' hfr|hob=>(repeat' (first|refine La ?_ ?_|exact Lc|refine Lo ?_|refine ⟨⟨_,rfl,?_⟩,?_⟩|refine Lx ?_)))
  all_goals (first|(rfl)|exact Ld)
 obtain ⟨⟨x,y⟩,hg,hx,hy⟩:=p
 simp only at hg hx hy ⊢
 by_cases h0:0<y
 ·
  repeat' (first|((first|apply Ba|(apply Bb;(· rfl);(· rfl))|(apply Bc;(· exact nxE))|(apply Bd;(· rfl);(· rfl);(· exact nxE)));(· first|exact Ok.rem rfl rfl rfl (by omega)|exact Ok.pe))|((first|apply Ca|(apply Cb;(· exact nxE)));(· first|exact Ok.e0))|refine Sx ?_|(refine Sy (fun h=>?_) (fun h=>?_)<;>try (exfalso;omega;done))|refine Sz (fun h=>?_) (fun h=>?_))
  refine ⟨⟨(y,x % y),by rw[← hg,Nat.gcd_comm y (x % y),← Nat.gcd_rec,Nat.gcd_comm],hy,by have:=Nat.mod_lt x h0;simp only;omega⟩,?_,by simp only;exact Nat.mod_lt x h0⟩
  (apply Le.headZ [] rfl)
  all_goals (try dsimp only[srcs])
  (case' hfr|hob=>(repeat' (first|refine La ?_ ?_|exact Lc|refine Lo ?_|refine ⟨⟨_,rfl,?_⟩,?_⟩|refine Lx ?_)))
  all_goals (first|(rfl)|exact Ld)
 ·
  obtain rfl:y=0:=by omega
  rw[Nat.gcd_zero_right] at hg
  subst hg
  repeat' (first|((first|apply Ba|(apply Bb;(· rfl);(· rfl))|(apply Bc;(· exact nxE))|(apply Bd;(· rfl);(· rfl);(· exact nxE)));(· first|exact Ok.pe))|((first|apply Ca|(apply Cb;(· exact nxE)));(· first|exact Ok.e0))|refine Sx ?_|(refine Sy (fun h=>?_) (fun h=>?_)<;>try (exfalso;omega;done))|refine Sz (fun h=>?_) (fun h=>?_))
  refine Ya ?_
  (apply Le.headZ (hs:=[]) [] rfl)
  all_goals (try dsimp only[srcs])
  (case' hfr=>(repeat' (first|refine La ?_ ?_|exact Lc|refine Lo ?_|refine ⟨⟨_,rfl,?_⟩,?_⟩|refine Lx ?_)))
  all_goals (first|exact Ld|exact trivial|(rfl))
structure CtSt (xs:List Pl) (r:Int × Int):Prop where
 n1:0≤r.1∧r.1≤100000
 n2:0<r.2∧r.2≤50
 red:Int.gcd r.1 r.2=1
 walk:∃ c u,c≠[]∧Wk xs u c u∧0≤wgt xs r.1 r.2 c
theorem CtSt.fin [Mode] {n:Nat}{xs:List Pl} (hl:Live xs n) {r:Int × Int} (h:CtSt xs r) (hb:bfRun xs r (n+1) bf0=none):Go.Proofs.YtkpoclbnnpglfaaGreat.maxR xs=r:=by
 obtain ⟨c,u,h1,h2,h3⟩:=h.walk
 have hs:=(bf_spec (n:=n) (r:=r) (fun i hi=>by have:=(hl.pl i hi).2.1;simp only[plTo];omega)).1 hb
 exact maxR_eq hl (MaxR.of_walk h.n2.1 h.red (fun c hc=>hs c _ hc.wk) h1 h2 h3)
theorem CtSt.next [Mode] {n:Nat}{xs:List Pl} (hl:Live xs n) (hn:n≤10) {r:Int × Int} (h:CtSt xs r) {s:BF} (hb:bfRun xs r (n+1) bf0=some s):∃ c,btL xs n s=c∧0<c.length∧c.length≤n∧(∀ i∈c,i<xs.length)∧(0≤sumD xs c∧sumD xs c≤100000)∧(0<sumT xs c∧sumT xs c≤50)∧CtSt xs (redR (sumD xs c) (sumT xs c))∧rank 1000 r<rank 1000 (redR (sumD xs c) (sumT xs c)):=by
 obtain ⟨v,z,L,hF⟩:=bf_found (n:=n) (fun i hi=>by have:=(hl.pl i hi).2.1;simp only[plTo];omega) hb
 have hw:Wk xs (z:Nat) (backC s.y (predF xs s.y) z L).reverse (z:Nat):=by
  have:=back_walk (xs:=xs) (y:=s.y) (z:=z) (fun p hp=>by
   obtain ⟨i,hi,rfl⟩:=List.getElem_of_mem hp
   have:=hl.pl i hi
   simp only[plA,List.getElem?_eq_getElem hi,Option.getD_some] at this
   exact ⟨this.1.1,this.2.1.1⟩) hF.ok L
  have e:iter (predF xs s.y) L z=z:=hF.per.back
  rw[show iter (fun v=>plF xs (s.y v)) L z=z from e] at this
  exact this
 have hlen:(backC s.y (predF xs s.y) z L).reverse.length=L:=by simp[backC]
 have hpos:=hF.pos
 rw[← wgt_rev] at hpos
 have hpL:=hF.per.pos
 have hLn:=hF.Ln
 refine ⟨_,rfl,?_⟩
 rw[btL_eq hF]
 have hpos2:0<wgt xs r.1 r.2 (backC s.y (predF xs s.y) z L).reverse:=hpos
 generalize (backC s.y (predF xs s.y) z L).reverse=c at *
 have hne:c≠[]:=by intro e;rw[e] at hlen;simp at hlen;omega
 have hk:=hl.tok c _ hne hw
 have hsb:=sum_bnd (fun i hi=>(hl.pl i hi).2.2) hw.lt
 have hrd:=hl.red hn (c:=c) (by omega) hw.lt hk
 have h1:=h.n1
 have h2:=h.n2
 exact ⟨by omega,by omega,hw.lt,by omega,by omega,⟨hrd.1,hrd.2.1,hrd.2.2,c,_,hne,hw,by rw[wgt_redR hk];exact Int.le_refl _⟩,rank_redR (M:=1000) h2.1 (by omega) hk (by omega) hpos2⟩
noncomputable def btV (xs:List Pl) (n new:Nat):Option BF→AV
 | none=>nilS
 | some s=>.own 1 ⟨new,[0]⟩ 0 (btL xs n s).length
noncomputable def btW (xs:List Pl) (n new:Nat):Option BF→List W
 | none=>[]
 | some s=>[.one ⟨new,[0]⟩ (some (IO (cN (btL xs n s))))]
attribute [local irreducible] btV btW
end
section
def wmS (r:Int × Int) (t:List (List Int)) (p:Pl):List (List Int):=setT t p.t.toNat p.f.toNat (max (entN t p.t.toNat p.f.toNat) (pw r.1 r.2 p))
def wmT (n:Nat) (xs:List Pl) (r:Int × Int):List (List Int):=xs.foldl (wmS r) (botT n n)
structure WmOk (n:Nat) (xs:List Pl) (r:Int × Int) (t:List (List Int)):Prop where
 sq:Sq t n
 some:∀ u v,u<n→v<n→entN t v u=BOT∨∃ p∈xs,p.f=(u:Int)∧p.t=(v:Int)∧pw r.1 r.2 p=entN t v u
 all:∀ p∈xs,entN t p.t.toNat p.f.toNat≠BOT∧pw r.1 r.2 p≤entN t p.t.toNat p.f.toNat
end
section
open Go Go.RowKit
attribute [local irreducible] AL AD AW OpOk Le AC thenQ blockQ EndQ
end
section
open Go Go.RowKit
attribute [local irreducible] AL AD AW OpOk Le AC thenQ blockQ EndQ
end
section
open Go Go.RowKit
attribute [local irreducible] AL AD AW OpOk Le AC thenQ blockQ EndQ
theorem Wk.same [Mode] {xs ys:List Pl} (hl:ys.length=xs.length) (h:∀ i,(plA ys i).f=(plA xs i).f∧(plA ys i).t=(plA xs i).t):∀ {c:List Nat}{u v:Int},Wk xs u c v→Wk ys u c v
 | [],_,_,hw=>hw
 | i :: c,u,v,⟨h1,h2,h3⟩=>⟨by omega,by rw[(h i).1];exact h2,by rw[(h i).2];exact Wk.same hl h h3⟩
theorem Circ.same [Mode] {xs ys:List Pl} (hl:ys.length=xs.length) (h:∀ i,(plA ys i).f=(plA xs i).f∧(plA ys i).t=(plA xs i).t) {c:List Nat} (hc:Circ xs c):Circ ys c:=by
 have e:(c.map fun i=>(plA ys i).f)=c.map fun i=>(plA xs i).f:=List.map_congr_left fun i _=>(h i).1
 refine ⟨hc.ne,?_,by rw[e];exact hc.nd,fun i hi=>?_⟩
 ·have:=hc.wk.same hl h
  simp only[firstF] at this ⊢
  rw[(h (hdN c)).1]
  exact this
 ·have:=hc.mn i hi
  simp only[firstF] at this ⊢
  rw[(h (hdN c)).1,(h i).1]
  exact this
end
section
open Go Go.RowKit
attribute [local irreducible] AL AD AW OpOk Le AC thenQ blockQ EndQ
abbrev botF:Nat→Nat→Int:=fun _ _=>BOT
theorem botF_tab [Mode] {n:Nat}:tabF n n botF=botT n n:=by
 unfold tabF botT rowF
 apply List.ext_getElem?
 intro i
 by_cases hi:i<n
 ·simp only[List.getElem?_map,List.getElem?_range hi,Option.map_some,List.getElem?_replicate,if_pos hi,Option.some.injEq]
  apply List.ext_getElem?
  intro j
  by_cases hj:j<n
  ·simp[hj]
  ·simp[hj]
 ·simp[hi]
end
section
open Go Go.RowKit
attribute [local irreducible] AL AD AW OpOk Le AC thenQ blockQ EndQ
set_option maxHeartbeats 1000000 in
theorem l02Own_ac [Mode] (t:List (List Int)) (hn:t.length≤10000000) (hr:∀ r∈t,r.length≤100000000):AC Tryz.prog 172 [TL t] H0 (own1 1 t.length) (hpM 1 (TR t)):=by
 refine AC.of_body 0 Tryz.func172 rfl (fun l h=>absurd rfl h) (fun C hC=>?_)
 have hD:∀ l,¬ C.D0 l:=fun l h=>(hC l).1 h rfl
 simp only[startFr,Tryz.ntmps172,List.length_cons,List.length_nil,Nat.reduceAdd,Nat.reduceSub,List.replicate_succ,List.replicate_zero,List.cons_append,List.nil_append]
 repeat' (first|((first|apply Ba|(apply Bb;(· rfl);(· rfl))|(apply Bc;(· exact nxE))|(apply Bd;(· rfl);(· rfl);(· exact nxE)));(· first|exact Ok.pe))|((first|apply Ca|(apply Cb;(· exact nxE)));(· first|exact Ok.e0))|refine Sx ?_|(refine Sy (fun h=>?_) (fun h=>?_)<;>try (exfalso;omega;done))|refine Sz (fun h=>?_) (fun h=>?_))
 refine AW.loop (X:={k:Nat // k≤t.length}) (fun k=>⟨[TL t,Oo,Oo,.own 1 ⟨1,[]⟩ 0 (k.1:Nat),I (k.1:Nat),Oo,Oo,Oo,Oo,Oo,Oo,Oo,Oo,Oo,Oo,Oo,Oo,Oo,Oo,Oo,Oo],heapX [] [mi1 ⟨1,[]⟩ (TR (t.take k.1))],900⟩) (fun k=>t.length - k.1) ⟨0,Nat.zero_le _⟩ ?_ (fun k=>?_)
 ·
  (apply Le.headG [] [{ l:=⟨1,[]⟩,k:=1,R:=[],src:=⟨1,[]⟩,base:=⟨1,[]⟩ }] (fun _=>False))
  (case' hlen=>rfl)
  (case' hms=>rfl)
  all_goals (try dsimp only[srcs])
  (case' hfr|hob=>(repeat' (first|refine La ?_ ?_|exact Lc|refine Lo ?_|refine ⟨⟨_,rfl,?_⟩,?_⟩|refine Lx ?_)))
  (case' hok=>first|exact ⟨MI.ok_same rfl (fun i x hx=>by simp at hx),trivial⟩|exact trivial)
  (case' hN=>rfl)
  (case' hS=>rfl)
  all_goals (first|exact Ld|(rfl))
 obtain ⟨k,hk⟩:=k
 simp only
 by_cases hlt:k<t.length
 ·obtain ⟨r,hr1⟩:∃ r,t[k]? = some r:=⟨t[k],by simp⟩
  have hrow:=TR_get hr1
  have htk:(TR (t.take k)).length=k:=by simp;omega
  repeat' (first|((first|apply Ba|(apply Bb;(· rfl);(· rfl))|(apply Bc;(· exact nxE))|(apply Bd;(· rfl);(· rfl);(· exact nxE)));(· first|exact Eo rfl rfl (l01Own_ac r (hr r (List.mem_of_getElem? hr1))) (Sd Sn)|exact Ok.appendT rfl rfl (by decide) rfl rfl rfl (by rw[outer_len,htk];rfl) rfl rfl (by rfl) (by omega) (by omega) rfl|exact Ok.pe))|((first|apply Ca|(apply Cb;(· exact nxE)));(· first|exact Eo rfl rfl (l01Own_ac r (hr r (List.mem_of_getElem? hr1))) (Sd Sn)|exact Ok.appendT rfl rfl (by decide) rfl rfl rfl (by rw[outer_len,htk];rfl) rfl rfl (by rfl) (by omega) (by omega) rfl|exact Ok.e0))|refine Sx ?_|(refine Sy (fun h=>?_) (fun h=>?_)<;>try (exfalso;omega;done))|refine Sz (fun h=>?_) (fun h=>?_))
  refine ⟨⟨k+1,by omega⟩,?_,by simp only;omega⟩
  (apply Le.headG [] [{ l:=⟨1,[]⟩,k:=1,R:=TR (t.take (k+1)),src:=⟨911,[]⟩,base:=⟨1,[]⟩,cut:=k,ext:=some ⟨909,[0]⟩ }] (fun _=>False))
  (case' hlen=>rfl)
  (case' hms=>rfl)
  all_goals (try dsimp only[srcs])
  (case' hfr|hob=>(repeat' (first|refine La ?_ ?_|exact Lc|refine Lo ?_|refine ⟨⟨_,rfl,?_⟩,?_⟩|refine Lx ?_)))
  (case' hok=>first|exact ⟨MI.ok_app (TR_take hr1) htk IR_len rfl (Cg) rfl,trivial⟩|exact trivial)
  (case' hN=>rfl)
  (case' hS=>rfl)
  all_goals (first|exact Ld|((simp[AllP];omega)))
 ·
  have hkn:k=t.length:=by omega
  subst hkn
  rw[List.take_length]
  repeat' (first|((first|apply Ba|(apply Bb;(· rfl);(· rfl))|(apply Bc;(· exact nxE))|(apply Bd;(· rfl);(· rfl);(· exact nxE)));(· first|exact Ok.pe))|((first|apply Ca|(apply Cb;(· exact nxE)));(· first|exact Ok.e0))|refine Sx ?_|(refine Sy (fun h=>?_) (fun h=>?_)<;>try (exfalso;omega;done))|refine Sz (fun h=>?_) (fun h=>?_))
  refine Ya ?_
  (apply Le.headG [] [{ l:=⟨0,[]⟩,k:=1,R:=TR t,src:=⟨1,[]⟩,base:=⟨1,[]⟩ }] (fun _=>False))
  (case' hlen=>rfl)
  (case' hms=>rfl)
  all_goals (try dsimp only[srcs])
  (case' hfr|hob=>(repeat' (first|refine La ?_ ?_|exact Lc|refine Lo ?_|refine ⟨⟨_,rfl,?_⟩,?_⟩|refine Lx ?_)))
  (case' hok=>first|exact ⟨MI.ok_same rfl (Cg),trivial⟩|exact trivial)
  (case' hN=>rfl)
  (case' hS=>rfl)
  all_goals (first|exact Ld|(rfl))
end
section
open Go Go.RowKit
attribute [local irreducible] AL AD AW OpOk Le AC thenQ blockQ EndQ
def unitQ (m:Nat):Nat→Nat→Int:=fun i j=>if i=j∧i<m then 0 else BOT
theorem unitQ_set [Mode] {i a b:Nat}:unitQ (i+1) a b=if a=i∧b=i then 0 else unitQ i a b:=by
 unfold unitQ
 by_cases h:a=i∧b=i
 ·obtain ⟨rfl,rfl⟩:=h;simp
 ·rw[if_neg h]
  by_cases h2:a=b∧a<i
  ·rw[if_pos h2,if_pos (by omega)]
  ·rw[if_neg h2,if_neg (by omega)]
theorem l02Unit_ac [Mode] (n:Nat) (hn:n≤1000):AC Tryz.prog 141 [I n] H0 (own1 1 n) (hpM 1 (TR (tabF n n unitF))):=by
 have hB:=l02Bottom_ac n n (by omega) (by omega)
 have h0:tabF n n (unitQ 0)=botT n n:=by rw[← botF_tab];exact tabF_congr fun i j _ _=>by simp[unitQ]
 have h1:tabF n n (unitQ n)=tabF n n unitF:=tabF_congr fun i j hi _=>by simp only[unitQ,unitF,hi,and_true]
 rw[← h0] at hB
 rw[← h1]
 refine AC.of_body 0 Tryz.func141 rfl (fun l h=>absurd rfl h) (fun C hC=>?_)
 have hD:∀ l,¬ C.D0 l:=fun l h=>(hC l).1 h rfl
 simp only[startFr,Tryz.ntmps141,List.length_cons,List.length_nil,Nat.reduceAdd,Nat.reduceSub,List.replicate_succ,List.replicate_zero,List.cons_append,List.nil_append]
 repeat' (first|((first|apply Ba|(apply Bb;(· rfl);(· rfl))|(apply Bc;(· exact nxE))|(apply Bd;(· rfl);(· rfl);(· exact nxE)));(· first|exact Tb rfl rfl (hB) (Sd (Sd Sn))|exact Ok.pe))|((first|apply Ca|(apply Cb;(· exact nxE)));(· first|exact Tb rfl rfl (hB) (Sd (Sd Sn))|exact Ok.e0))|refine Sx ?_|(refine Sy (fun h=>?_) (fun h=>?_)<;>try (exfalso;omega;done))|refine Sz (fun h=>?_) (fun h=>?_))
 refine AW.loop (X:={k:Nat // k≤n}) (fun k=>⟨[I n,Oo,Oo,.own 1 ⟨1,[]⟩ 0 n,I (k.1:Nat),Oo,Oo,Oo,Oo,Oo,Oo,Oo,Oo,Oo,Oo,Oo,Oo,Oo,Oo,Oo],heapX [] [mi1 ⟨1,[]⟩ (TR (tabF n n (unitQ k.1)))],900⟩) (fun k=>n - k.1) ⟨0,Nat.zero_le _⟩ ?_ (fun k=>?_)
 ·
  (apply Le.headG [] [{ l:=⟨1,[]⟩,k:=1,R:=TR (tabF n n (unitQ 0)),src:=⟨3,[0]⟩,base:=⟨3,[0]⟩ }] (fun _=>False))
  (case' hlen=>rfl)
  (case' hms=>rfl)
  all_goals (try dsimp only[srcs])
  (case' hfr|hob=>(repeat' (first|refine La ?_ ?_|exact Lc|refine Lo ?_|refine ⟨⟨_,rfl,?_⟩,?_⟩|refine Lx ?_)))
  (case' hok=>first|exact ⟨MI.ok_same rfl (Cg),trivial⟩|exact trivial)
  (case' hN=>rfl)
  (case' hS=>rfl)
  all_goals (first|exact Ld|(rfl))
 obtain ⟨i,hi⟩:=k
 simp only
 by_cases hlt:i<n
 ·
  have hrw:=TRF_get (n:=n) (f:=unitQ i) hlt
  have hli:(IR (rowF n (unitQ i i))).length=n:=by rw[IR_len,rowF_len]
  repeat' (first|((first|apply Ba|(apply Bb;(· rfl);(· rfl))|(apply Bc;(· exact nxE))|(apply Bd;(· rfl);(· rfl);(· exact nxE)));(· first|exact Ok.ldTn rfl rfl rfl hrw hli|exact Ok.st1 rfl rfl (congrArg (Option.map (dobj 1)) hrw) (by rw[hli];omega) (by rw[IRF_get hlt];rfl) rfl rfl IR_set|exact Ok.pe))|((first|apply Ca|(apply Cb;(· exact nxE)));(· first|exact Ok.st1 rfl rfl (congrArg (Option.map (dobj 1)) hrw) (by rw[hli];omega) (by rw[IRF_get hlt];rfl) rfl rfl IR_set|exact Ok.e0))|refine Sx ?_|(refine Sy (fun h=>?_) (fun h=>?_)<;>try (exfalso;omega;done))|refine Sz (fun h=>?_) (fun h=>?_))
  refine ⟨⟨i+1,by omega⟩,?_,by simp only;omega⟩
  (apply Le.headG [] [mi1 ⟨1,[]⟩ (TR (tabF n n (unitQ (i+1))))] (fun _=>False))
  (case' hlen=>rfl)
  (case' hms=>rfl)
  all_goals (try dsimp only[srcs])
  (case' hfr|hob=>(repeat' (first|refine La ?_ ?_|exact Lc|refine Lo ?_|refine ⟨⟨_,rfl,?_⟩,?_⟩|refine Lx ?_)))
  (case' hok=>first|exact ⟨MI.ok_row (tabF_set (f:=unitQ i) (v:=0) (fun a b _ _=>unitQ_set)) hrw (by simp) rfl (Cg),trivial⟩|exact trivial)
  (case' hN=>rfl)
  (case' hS=>rfl)
  all_goals (first|exact Ld|(rfl))
 ·
  obtain rfl:i=n:=by omega
  repeat' (first|((first|apply Ba|(apply Bb;(· rfl);(· rfl))|(apply Bc;(· exact nxE))|(apply Bd;(· rfl);(· rfl);(· exact nxE)));(· first|exact Ok.pe))|((first|apply Ca|(apply Cb;(· exact nxE)));(· first|exact Ok.e0))|refine Sx ?_|(refine Sy (fun h=>?_) (fun h=>?_)<;>try (exfalso;omega;done))|refine Sz (fun h=>?_) (fun h=>?_))
  refine Ya ?_
  (apply Le.headG [] [{ l:=⟨0,[]⟩,k:=1,R:=TR (tabF i i (unitQ i)),src:=⟨1,[]⟩,base:=⟨1,[]⟩ }] (fun _=>False))
  (case' hlen=>rfl)
  (case' hms=>rfl)
  all_goals (try dsimp only[srcs])
  (case' hfr|hob=>(repeat' (first|refine La ?_ ?_|exact Lc|refine Lo ?_|refine ⟨⟨_,rfl,?_⟩,?_⟩|refine Lx ?_)))
  (case' hok=>first|exact ⟨MI.ok_same rfl (Cg),trivial⟩|exact trivial)
  (case' hN=>rfl)
  (case' hS=>rfl)
  all_goals (first|exact Ld|(rfl))
theorem l01Times_ac [Mode] (a b:Int) (h:a≠BOT→b≠BOT→-9223372036854775808≤a+b∧a+b≤9223372036854775807):AC Tryz.prog 146 [I a,I b] H0 (I (timesB a b)) H0:=by
 unfold timesB BOT
 unfold BOT at h
 by_cases h1:a=-1000000000000000
 ·rw[if_pos (.inl h1)]
  subst h1
  refine AC.of_body 0 Tryz.func146 rfl (fun l h=>absurd rfl h) (fun C hC=>?_)
  have hD:∀ l,¬ C.D0 l:=fun l h=>(hC l).1 h rfl
  simp only[startFr,Tryz.ntmps146,List.length_cons,List.length_nil,Nat.reduceAdd,Nat.reduceSub,List.replicate_succ,List.replicate_zero,List.cons_append,List.nil_append]
  repeat' (first|((first|apply Ba|(apply Bb;(· rfl);(· rfl))|(apply Bc;(· exact nxE))|(apply Bd;(· rfl);(· rfl);(· exact nxE)));(· first|exact Ok.pe))|((first|apply Ca|(apply Cb;(· exact nxE)));(· first|exact Ok.e0))|refine Sx ?_|(refine Sy (fun h=>?_) (fun h=>?_)<;>try (exfalso;omega;done))|refine Sz (fun h=>?_) (fun h=>?_))
  refine Ya ?_
  (apply Le.headZ (hs:=[]) [] rfl)
  all_goals (try dsimp only[srcs])
  (case' hfr=>(repeat' (first|refine La ?_ ?_|exact Lc|refine Lo ?_|refine ⟨⟨_,rfl,?_⟩,?_⟩|refine Lx ?_)))
  all_goals (first|exact Ld|exact trivial|(rfl))
 ·by_cases h2:b=-1000000000000000
  ·rw[if_pos (.inr h2)]
   subst h2
   refine AC.of_body 0 Tryz.func146 rfl (fun l h=>absurd rfl h) (fun C hC=>?_)
   have hD:∀ l,¬ C.D0 l:=fun l h=>(hC l).1 h rfl
   simp only[startFr,Tryz.ntmps146,List.length_cons,List.length_nil,Nat.reduceAdd,Nat.reduceSub,List.replicate_succ,List.replicate_zero,List.cons_append,List.nil_append]
   repeat' (first|((first|apply Ba|(apply Bb;(· rfl);(· rfl))|(apply Bc;(· exact nxE))|(apply Bd;(· rfl);(· rfl);(· exact nxE)));(· first|exact Ok.pe))|((first|apply Ca|(apply Cb;(· exact nxE)));(· first|exact Ok.e0))|refine Sx ?_|(refine Sy (fun h=>?_) (fun h=>?_)<;>try (exfalso;omega;done))|refine Sz (fun h=>?_) (fun h=>?_))
   all_goals
    refine Ya ?_
    (apply Le.headZ (hs:=[]) [] rfl)
    all_goals (try dsimp only[srcs])
    (case' hfr=>(repeat' (first|refine La ?_ ?_|exact Lc|refine Lo ?_|refine ⟨⟨_,rfl,?_⟩,?_⟩|refine Lx ?_)))
    all_goals (first|exact Ld|exact trivial|(rfl))
  ·rw[if_neg (by rintro (h3|h3);exact h1 h3;exact h2 h3)]
   obtain ⟨h3,h4⟩:=h h1 h2
   refine AC.of_body 0 Tryz.func146 rfl (fun l h=>absurd rfl h) (fun C hC=>?_)
   have hD:∀ l,¬ C.D0 l:=fun l h=>(hC l).1 h rfl
   simp only[startFr,Tryz.ntmps146,List.length_cons,List.length_nil,Nat.reduceAdd,Nat.reduceSub,List.replicate_succ,List.replicate_zero,List.cons_append,List.nil_append]
   repeat' (first|((first|apply Ba|(apply Bb;(· rfl);(· rfl))|(apply Bc;(· exact nxE))|(apply Bd;(· rfl);(· rfl);(· exact nxE)));(· first|exact Ok.pe))|((first|apply Ca|(apply Cb;(· exact nxE)));(· first|exact Ok.e0))|refine Sx ?_|(refine Sy (fun h=>?_) (fun h=>?_)<;>try (exfalso;omega;done))|refine Sz (fun h=>?_) (fun h=>?_))
   all_goals
    refine Ya ?_
    (apply Le.headZ (hs:=[]) [] rfl)
    all_goals (try dsimp only[srcs])
    (case' hfr=>(repeat' (first|refine La ?_ ?_|exact Lc|refine Lo ?_|refine ⟨⟨_,rfl,?_⟩,?_⟩|refine Lx ?_)))
    all_goals (first|exact Ld|exact trivial|(rfl))
set_option maxHeartbeats 2000000 in
theorem l02Add_ac [Mode] (m n:Nat) (a b:List (List Int)) (ha:Rc a m n) (hb:Rc b m n) (hm:m≤1000) (hn:n≤1000):AC Tryz.prog 142 [TL a,TL b] H0 (own1 1 m) (hpM 1 (TR (tabF m n (addF a b)))):=by
 have hbl:=hb.l
 have hO:=l02Own_ac a (by have:=ha.l;omega) (fun r hr=>by rw[ha.r r hr];omega)
 rw[ha.l] at hO
 have h0:tabF m n (mixF (addF a b) (entN a) 0 0)=a:=by rw[mixF_0,tabF_self ha]
 rw[← h0] at hO
 rw[h0] at hO
 refine AC.of_body 0 Tryz.func142 rfl (fun l h=>absurd rfl h) (fun C hC=>?_)
 have hD:∀ l,¬ C.D0 l:=fun l h=>(hC l).1 h rfl
 simp only[startFr,Tryz.ntmps142,List.length_cons,List.length_nil,Nat.reduceAdd,Nat.reduceSub,List.replicate_succ,List.replicate_zero,List.cons_append,List.nil_append]
 repeat' (first|((first|apply Ba|(apply Bb;(· rfl);(· rfl))|(apply Bc;(· exact nxE))|(apply Bd;(· rfl);(· rfl);(· exact nxE)));(· first|exact Tb rfl rfl (hO) (Sd Sn)|exact Ok.pe))|((first|apply Ca|(apply Cb;(· exact nxE)));(· first|exact Tb rfl rfl (hO) (Sd Sn)|exact Ok.e0))|refine Sx ?_|(refine Sy (fun h=>?_) (fun h=>?_)<;>try (exfalso;omega;done))|refine Sz (fun h=>?_) (fun h=>?_))
 refine AW.loop (X:={k:Nat // k≤m}) (fun k=>⟨[Oo,TL b,Oo,Oo,Oo,.own 1 ⟨1,[]⟩ 0 m,I (k.1:Nat),Oo,Oo,Oo,Oo,Oo,Oo,Oo,Oo,Oo,Oo,Oo,Oo,Oo,Oo,Oo,Oo,Oo,Oo,Oo,Oo,Oo,Oo,Oo,Oo,Oo,Oo,Oo,Oo,Oo,Oo,Oo,Oo,Oo,Oo,Oo,Oo,Oo,Oo,Oo,Oo],heapX [] [mi1 ⟨1,[]⟩ (TR (tabF m n (mixF (addF a b) (entN a) k.1 0)))],900⟩) (fun k=>m - k.1) ⟨0,Nat.zero_le _⟩ ?_ (fun k=>?_)
 ·
  (apply Le.headG [] [{ l:=⟨1,[]⟩,k:=1,R:=TR (tabF m n (mixF (addF a b) (entN a) 0 0)),src:=⟨2,[0]⟩,base:=⟨2,[0]⟩ }] (fun _=>False))
  (case' hlen=>rfl)
  (case' hms=>rfl)
  all_goals (try dsimp only[srcs])
  (case' hfr|hob=>(repeat' (first|refine La ?_ ?_|exact Lc|refine Lo ?_|refine ⟨⟨_,rfl,?_⟩,?_⟩|refine Lx ?_)))
  (case' hok=>first|exact ⟨by rw[h0];exact MI.ok_same rfl (Cg),trivial⟩|exact trivial)
  (case' hN=>rfl)
  (case' hS=>rfl)
  all_goals (first|exact Ld|(rfl))
 obtain ⟨i,hi⟩:=k
 simp only
 by_cases hlt:i<m
 ·
  repeat' (first|((first|apply Ba|(apply Bb;(· rfl);(· rfl))|(apply Bc;(· exact nxE))|(apply Bd;(· rfl);(· rfl);(· exact nxE)));(· first|exact Ok.pe))|((first|apply Ca|(apply Cb;(· exact nxE)));(· first|exact Ok.e0))|refine Sx ?_|(refine Sy (fun h=>?_) (fun h=>?_)<;>try (exfalso;omega;done))|refine Sz (fun h=>?_) (fun h=>?_))
  refine AW.loop (X:={k:Nat // k≤n}) (fun k=>⟨[Oo,TL b,Oo,Oo,Oo,.own 1 ⟨1,[]⟩ 0 m,I i,I (k.1:Nat),Oo,Oo,Oo,Oo,Oo,Oo,Oo,Oo,Oo,Oo,Oo,Oo,Oo,Oo,Oo,Oo,Oo,Oo,Oo,Oo,Oo,Oo,Oo,Oo,Oo,Oo,Oo,Oo,Oo,Oo,Oo,Oo,Oo,Oo,Oo,Oo,Oo,Oo,Oo],heapX [] [mi1 ⟨1,[]⟩ (TR (tabF m n (mixF (addF a b) (entN a) i k.1)))],900⟩) (fun k=>n - k.1) ⟨0,Nat.zero_le _⟩ ?_ (fun k=>?_)
  ·
   (apply Le.headG [] [mi1 ⟨1,[]⟩ (TR (tabF m n (mixF (addF a b) (entN a) i 0)))] (fun _=>False))
   (case' hlen=>rfl)
   (case' hms=>rfl)
   all_goals (try dsimp only[srcs])
   (case' hfr|hob=>(repeat' (first|refine La ?_ ?_|exact Lc|refine Lo ?_|refine ⟨⟨_,rfl,?_⟩,?_⟩|refine Lx ?_)))
   (case' hok=>first|exact ⟨MI.ok_same rfl (Cg),trivial⟩|exact trivial)
   (case' hN=>rfl)
   (case' hS=>rfl)
   all_goals (first|exact Ld|(rfl))
  obtain ⟨j,hj⟩:=k
  simp only
  have hrw:=TRF_get (n:=n) (f:=mixF (addF a b) (entN a) i j) hlt
  have hli:(IR (rowF n (mixF (addF a b) (entN a) i j i))).length=n:=by rw[IR_len,rowF_len]
  by_cases hlt2:j<n
  ·
   obtain ⟨S,hS1,hS2,hS3⟩:=hb.get hlt hlt2
   have hSr:=TR_get hS1
   have hSf:=IR_get hS2
   have hSl:(IR S).length=n:=by rw[IR_len,hS3]
   have hij:=IRF_get (g:=mixF (addF a b) (entN a) i j i) hlt2
   rw[show mixF (addF a b) (entN a) i j i j=entN a i j by unfold mixF;rw[if_neg (by omega)]] at hij
   have hset:(IR (rowF n (mixF (addF a b) (entN a) i j i))).set j [DI (max (entN a i j) (entN b i j))]=IR ((rowF n (mixF (addF a b) (entN a) i j i)).set j (addF a b i j)):=IR_set
   repeat' (first|((first|apply Ba|(apply Bb;(· rfl);(· rfl))|(apply Bc;(· exact nxE))|(apply Bd;(· rfl);(· rfl);(· exact nxE)));(· first|exact Ok.ldTn rfl rfl rfl hrw hli|exact Ok.ld1 rfl rfl (congrArg (Option.map (dobj 1)) hrw) hij|exact Ok.st1 rfl rfl (congrArg (Option.map (dobj 1)) hrw) (by rw[hli];omega) (by rw[hij];rfl) rfl rfl hset|exact Ok.pe))|((first|apply Ca|(apply Cb;(· exact nxE)));(· first|exact Ok.st1 rfl rfl (congrArg (Option.map (dobj 1)) hrw) (by rw[hli];omega) (by rw[hij];rfl) rfl rfl hset|exact Ok.e0))|refine Sx ?_|(refine Sy (fun h=>?_) (fun h=>?_)<;>try (exfalso;omega;done))|refine Sz (fun h=>?_) (fun h=>?_))
   refine ⟨⟨j+1,by omega⟩,?_,by simp only;omega⟩
   (apply Le.headG [] [mi1 ⟨1,[]⟩ (TR (tabF m n (mixF (addF a b) (entN a) i (j+1))))] (fun _=>False))
   (case' hlen=>rfl)
   (case' hms=>rfl)
   all_goals (try dsimp only[srcs])
   (case' hfr|hob=>(repeat' (first|refine La ?_ ?_|exact Lc|refine Lo ?_|refine ⟨⟨_,rfl,?_⟩,?_⟩|refine Lx ?_)))
   (case' hok=>first|exact ⟨MI.ok_row (tabF_set (fun a b _ _=>mixF_set)) hrw (by simp) rfl (Cg),trivial⟩|exact trivial)
   (case' hN=>rfl)
   (case' hS=>rfl)
   all_goals (first|exact Ld|(rfl))
  ·
   obtain rfl:j=n:=by omega
   repeat' (first|((first|apply Ba|(apply Bb;(· rfl);(· rfl))|(apply Bc;(· exact nxE))|(apply Bd;(· rfl);(· rfl);(· exact nxE)));(· first|exact Ok.ldTn rfl rfl rfl hrw hli|exact Ok.pe))|((first|apply Ca|(apply Cb;(· exact nxE)));(· first|exact Ok.e0))|refine Sx ?_|(refine Sy (fun h=>?_) (fun h=>?_)<;>try (exfalso;omega;done))|refine Sz (fun h=>?_) (fun h=>?_))
   refine ⟨⟨i+1,by omega⟩,?_,by simp only;omega⟩
   simp only
   rw[← mixF_row]
   (apply Le.headG [] [mi1 ⟨1,[]⟩ (TR (tabF m j (mixF (addF a b) (entN a) i j)))] (fun _=>False))
   (case' hlen=>rfl)
   (case' hms=>rfl)
   all_goals (try dsimp only[srcs])
   (case' hfr|hob=>(repeat' (first|refine La ?_ ?_|exact Lc|refine Lo ?_|refine ⟨⟨_,rfl,?_⟩,?_⟩|refine Lx ?_)))
   (case' hok=>first|exact ⟨MI.ok_same rfl (Cg),trivial⟩|exact trivial)
   (case' hN=>rfl)
   (case' hS=>rfl)
   all_goals (first|exact Ld|(rfl))
 ·
  obtain rfl:i=m:=by omega
  rw[mixF_all]
  repeat' (first|((first|apply Ba|(apply Bb;(· rfl);(· rfl))|(apply Bc;(· exact nxE))|(apply Bd;(· rfl);(· rfl);(· exact nxE)));(· first|exact Ok.pe))|((first|apply Ca|(apply Cb;(· exact nxE)));(· first|exact Ok.e0))|refine Sx ?_|(refine Sy (fun h=>?_) (fun h=>?_)<;>try (exfalso;omega;done))|refine Sz (fun h=>?_) (fun h=>?_))
  refine Ya ?_
  (apply Le.headG [] [{ l:=⟨0,[]⟩,k:=1,R:=TR (tabF i n (addF a b)),src:=⟨1,[]⟩,base:=⟨1,[]⟩ }] (fun _=>False))
  (case' hlen=>rfl)
  (case' hms=>rfl)
  all_goals (try dsimp only[srcs])
  (case' hfr|hob=>(repeat' (first|refine La ?_ ?_|exact Lc|refine Lo ?_|refine ⟨⟨_,rfl,?_⟩,?_⟩|refine Lx ?_)))
  (case' hok=>first|exact ⟨MI.ok_same rfl (Cg),trivial⟩|exact trivial)
  (case' hN=>rfl)
  (case' hS=>rfl)
  all_goals (first|exact Ld|(rfl))
end
end Go.Proofs.YtkpoclbnnpglfaaGreat
