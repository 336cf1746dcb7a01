/-
  Walks in the abstract reading, part 11.
-/
import Derived.Test.YtkpoclbnnpglfaaGreatKtU10
import Derived.Test.YtkpoclbnnpglfaaGreatKtU8
import Derived.Test.YtkpoclbnnpglfaaGreatKtU6
import Derived.Test.YtkpoclbnnpglfaaGreatKtU9
import Derived.Test.YtkpoclbnnpglfaaGreatKtA3
import Derived.Test.YtkpoclbnnpglfaaGreatKtU5
import Derived.Test.YtkpoclbnnpglfaaGreatKtU7
set_option linter.unusedSimpArgs false
set_option linter.unusedVariables false
namespace Go.Proofs.YtkpoclbnnpglfaaGreat
section
open Go Go.RowKit
attribute [local irreducible] AL AD AW OpOk Le AC thenQ blockQ EndQ
def apA (f:Nat→Nat→Int) (v:Nat→Int) (i:Nat):Nat→Int
 | 0=>BOT
 | k+1=>max (apA f v i k) (timesB (f i k) (v k))
structure ApOk (f:Nat→Nat→Int) (v:Nat→Int) (m n:Nat):Prop where
 f:∀ i j,i<m→j<n→f i j=BOT∨(-1000000000000000000≤f i j∧f i j≤1000000000000000000)
 v:∀ j,j<n→v j=BOT∨(-1000000000000000000≤v j∧v j≤1000000000000000000)
set_option maxHeartbeats 4000000 in
theorem timesVector_ac [Mode] (t:List (List Int)) (m n:Nat) (v:Nat→Int) (ht:Rc t m n) (hm:m≤1000000) (hn:n≤1000000) (ho:ApOk (entN t) v m n):AC Tryz.prog 85 [TL t,IL (rowF n v)] H0 (own1 1 m) (hp1 (IO (rowF m fun i=>apA (entN t) v i n))):=by
 obtain rfl:=ht.l
 have hz:=mgF_0 (n:=t.length) (f:=fun i=>apA (entN t) v i n)
 have hvl:(IR (rowF n v)).length=n:=by rw[IR_len,rowF_len]
 have hvl2:(rowF n v).length=n:=rowF_len
 refine AC.of_body 0 Tryz.func85 rfl (fun l h=>absurd rfl h) (fun C hC=>?_)
 have hD:∀ l,¬ C.D0 l:=fun l h=>(hC l).1 h rfl
 simp only[startFr,Tryz.ntmps85,List.length_cons,List.length_nil,Nat.reduceAdd,Nat.reduceSub,List.replicate_succ,List.replicate_zero,List.cons_append,List.nil_append]
 repeat' (first|((first|apply Ba|(apply Bb;(· rfl);(· rfl))|(apply Bc;(· exact nxE))|(apply Bd;(· rfl);(· rfl);(· exact nxE)));(· first|exact Ok.pe))|((first|apply Ca|(apply Cb;(· exact nxE)));(· first|exact Ok.e0))|refine Sx ?_|(refine Sy (fun h=>?_) (fun h=>?_)<;>try (exfalso;omega;done))|refine Sz (fun h=>?_) (fun h=>?_))
 refine AW.loop (X:={k:Nat // k≤t.length}) (fun k=>⟨[Oo,IL (rowF n v),Oo,Oo,Oo,.own 1 ⟨0,[]⟩ 0 t.length,Oo,Oo,Oo,Oo,Oo,Oo,Oo,TL t,I t.length,I (k.1:Nat),Oo,Oo,Oo,Oo,Oo,Oo,Oo,Oo,Oo,Oo,Oo,Oo,Oo,Oo,Oo,Oo,Oo,Oo,Oo,Oo,Oo,Oo,Oo,Oo,Oo,Oo,Oo,Oo,Oo,Oo,Oo],heapL [(⟨0,[]⟩,⟨0,[]⟩,IO (rowF t.length (mixR (fun i=>apA (entN t) v i n) (fun _=>0) k.1)))],900⟩) (fun k=>t.length - k.1) ⟨0,Nat.zero_le _⟩ ?_ (fun k=>?_)
 ·
  (apply Le.headZ [_] rfl)
  all_goals (try dsimp only[srcs])
  (case' hfr|hob=>(repeat' (first|refine La ?_ ?_|exact Lc|refine Lo ?_|refine ⟨⟨_,rfl,?_⟩,?_⟩|refine Lx ?_)))
  all_goals (first|((first|exact hz|(rw[hz];done)))|exact Ld)
 obtain ⟨i,hi⟩:=k
 simp only
 by_cases hlt:i<t.length
 ·
  obtain ⟨r,hr1⟩:∃ r,t[i]? = some r:=⟨t[i],by simp⟩
  have hrl0:=ht.r r (List.mem_of_getElem? hr1)
  have hr1':=TR_get hr1
  have hrl:(IR r).length=n:=by rw[IR_len,hrl0]
  have hc0:=IRF_get (g:=mixR (fun i=>apA (entN t) v i n) (fun _=>0) i) hlt
  have hs1:(IR (rowF t.length (mixR (fun i=>apA (entN t) v i n) (fun _=>0) i))).set i [DI (-1000000000000000)]=IR (rowF t.length (fun b=>if b=i then apA (entN t) v i 0 else mixR (fun i=>apA (entN t) v i n) (fun _=>0) i b)):=by rw[IR_set,rowF_set];rfl
  repeat' (first|((first|apply Ba|(apply Bb;(· rfl);(· rfl))|(apply Bc;(· exact nxE))|(apply Bd;(· rfl);(· rfl);(· exact nxE)));(· first|exact Ok.st1 rfl rfl rfl (by simp[rowF_len];omega) (by rw[hc0];rfl) rfl rfl hs1|exact Ok.pe))|((first|apply Ca|(apply Cb;(· exact nxE)));(· first|exact Ok.st1 rfl rfl rfl (by simp[rowF_len];omega) (by rw[hc0];rfl) rfl rfl hs1|exact Ok.e0))|refine Sx ?_|(refine Sy (fun h=>?_) (fun h=>?_)<;>try (exfalso;omega;done))|refine Sz (fun h=>?_) (fun h=>?_))
  refine AW.loop (X:={k:Nat // k≤n}) (fun k=>⟨[Oo,IL (rowF n v),Oo,Oo,Oo,.own 1 ⟨0,[]⟩ 0 t.length,I i,Oo,Oo,Oo,Oo,Oo,Oo,TL t,I t.length,I i,Oo,Oo,Oo,Oo,Oo,Oo,Oo,IL r,I n,I (k.1:Nat),Oo,Oo,Oo,Oo,Oo,Oo,Oo,Oo,Oo,Oo,Oo,Oo,Oo,Oo,Oo,Oo,Oo,Oo,Oo,Oo,Oo],heapL [(⟨0,[]⟩,⟨0,[]⟩,IO (rowF t.length (fun b=>if b=i then apA (entN t) v i k.1 else mixR (fun i=>apA (entN t) v i n) (fun _=>0) i b)))],900⟩) (fun k=>n - k.1) ⟨0,Nat.zero_le _⟩ ?_ (fun k=>?_)
  ·
   (apply Le.headZ [_] rfl)
   all_goals (try dsimp only[srcs])
   (case' hfr|hob=>(repeat' (first|refine La ?_ ?_|exact Lc|refine Lo ?_|refine ⟨⟨_,rfl,?_⟩,?_⟩|refine Lx ?_)))
   all_goals (first|(rfl)|exact Ld)
  obtain ⟨j,hj⟩:=k
  simp only
  by_cases hlt2:j<n
  ·
   obtain ⟨r',hr1b,hr2,_⟩:=ht.get hlt hlt2
   rw[hr1] at hr1b;cases hr1b
   have hrj:=IR_get hr2
   have hvj:(IR (rowF n v))[((j:Nat):Int).toNat]? = some [DI (v j)]:=IRF_get hlt2
   have hT:=times_ac (entN t i j) (v j) (fun e1 e2=>by
    have h1:=(ho.f i j hlt hlt2).resolve_left e1
    have h2:=(ho.v j hlt2).resolve_left e2
    omega)
   have hcj:=IRF_get (g:=fun b=>if b=i then apA (entN t) v i j else mixR (fun i=>apA (entN t) v i n) (fun _=>0) i b) hlt
   simp only[if_true] at hcj
   have hs2:(IR (rowF t.length (fun b=>if b=i then apA (entN t) v i j else mixR (fun i=>apA (entN t) v i n) (fun _=>0) i b))).set i [DI (max (apA (entN t) v i j) (timesB (entN t i j) (v j)))]=IR (rowF t.length (fun b=>if b=i then apA (entN t) v i (j+1) else mixR (fun i=>apA (entN t) v i n) (fun _=>0) i b)):=by
    rw[IR_set,rowF_set]
    congr 1
    refine rowF_congr fun b _=>?_
    by_cases e:b=i<;>simp[e,apA]
   repeat' (first|((first|apply Ba|(apply Bb;(· rfl);(· rfl))|(apply Bc;(· exact nxE))|(apply Bd;(· rfl);(· rfl);(· exact nxE)));(· first|exact Ok.ld1 rfl rfl rfl hcj|exact Kz rfl rfl (hT) (Ad (Ad An))|exact Ok.st1 rfl rfl rfl (by simp[rowF_len];omega) (by rw[hcj];rfl) rfl rfl hs2|exact Ok.pe))|((first|apply Ca|(apply Cb;(· exact nxE)));(· first|exact Ok.st1 rfl rfl rfl (by simp[rowF_len];omega) (by rw[hcj];rfl) rfl rfl hs2|exact Ok.e0))|refine Sx ?_|(refine Sy (fun h=>?_) (fun h=>?_)<;>try (exfalso;omega;done))|refine Sz (fun h=>?_) (fun h=>?_))
   refine ⟨⟨j+1,by omega⟩,?_,by simp only;omega⟩
   (apply Le.headZ [_] rfl)
   all_goals (try dsimp only[srcs])
   (case' hfr|hob=>(repeat' (first|refine La ?_ ?_|exact Lc|refine Lo ?_|refine ⟨⟨_,rfl,?_⟩,?_⟩|refine Lx ?_)))
   all_goals (first|(rfl)|exact Ld)
  ·
   obtain rfl:j=n:=by omega
   have hnx:rowF t.length (fun b=>if b=i then apA (entN t) v i j else mixR (fun i=>apA (entN t) v i j) (fun _=>0) i b)=rowF t.length (mixR (fun i=>apA (entN t) v i j) (fun _=>0) (i+1)):=by
    rw[← mixR_set,rowF_set]
   rw[hnx]
   repeat' (first|((first|apply Ba|(apply Bb;(· rfl);(· rfl))|(apply Bc;(· exact nxE))|(apply Bd;(· rfl);(· rfl);(· exact nxE)));(· first|exact Ok.pe))|((first|apply Ca|(apply Cb;(· exact nxE)));(· first|exact Ok.e0))|refine Sx ?_|(refine Sy (fun h=>?_) (fun h=>?_)<;>try (exfalso;omega;done))|refine Sz (fun h=>?_) (fun h=>?_))
   refine ⟨⟨i+1,by omega⟩,?_,by simp only;omega⟩
   (apply Le.headZ [_] rfl)
   all_goals (try dsimp only[srcs])
   (case' hfr|hob=>(repeat' (first|refine La ?_ ?_|exact Lc|refine Lo ?_|refine ⟨⟨_,rfl,?_⟩,?_⟩|refine Lx ?_)))
   all_goals (first|(rfl)|exact Ld)
 ·
  have him:i=t.length:=by omega
  subst him
  rw[mixR_all]
  repeat' (first|((first|apply Ba|(apply Bb;(· rfl);(· rfl))|(apply Bc;(· exact nxE))|(apply Bd;(· rfl);(· rfl);(· exact nxE)));(· first|exact Ok.pe))|((first|apply Ca|(apply Cb;(· exact nxE)));(· first|exact Ok.e0))|refine Sx ?_|(refine Sy (fun h=>?_) (fun h=>?_)<;>try (exfalso;omega;done))|refine Sz (fun h=>?_) (fun h=>?_))
  refine Ya ?_
  (apply Le.head [(⟨0,[]⟩,_,_)])
  (case' hfr|hob=>(repeat' (first|refine La ?_ ?_|exact Lc|refine Lo ?_|refine ⟨⟨_,rfl,?_⟩,?_⟩|refine Lx ?_)))
  all_goals (first|exact Ld|(rfl))
set_option maxHeartbeats 4000000 in
theorem l02Apply_ac [Mode] (t:List (List Int)) (m n:Nat) (v:Nat→Int) (ht:Rc t m n) (hm:m≤1000000) (hn:n≤1000000) (ho:ApOk (entN t) v m n):AC Tryz.prog 96 [TL t,IL (rowF n v)] H0 (own1 1 m) (hp1 (IO (rowF m fun i=>apA (entN t) v i n))):=by
 obtain rfl:=ht.l
 have hvl:(IR (rowF n v)).length=n:=by rw[IR_len,rowF_len]
 have hvl2:(rowF n v).length=n:=rowF_len
 have htl:(mRows 1 (TR t)).length=t.length:=by rw[mTR_len]
 refine AC.of_body 0 Tryz.func96 rfl (fun l h=>absurd rfl h) (fun C hC=>?_)
 have hD:∀ l,¬ C.D0 l:=fun l h=>(hC l).1 h rfl
 simp only[startFr,Tryz.ntmps96,List.length_cons,List.length_nil,Nat.reduceAdd,Nat.reduceSub,List.replicate_succ,List.replicate_zero,List.cons_append,List.nil_append]
 repeat' (first|((first|apply Ba|(apply Bb;(· rfl);(· rfl))|(apply Bc;(· exact nxE))|(apply Bd;(· rfl);(· rfl);(· exact nxE)));(· first|exact Ok.pe))|((first|apply Ca|(apply Cb;(· exact nxE)));(· first|exact Ok.e0))|refine Sx ?_|(refine Sy (fun h=>?_) (fun h=>?_)<;>try (exfalso;omega;done))|refine Sz (fun h=>?_) (fun h=>?_))
 refine AW.loop (X:={k:Nat // k≤t.length}) (fun k=>⟨[TL t,IL (rowF n v),Oo,Oo,Oo,.own 1 ⟨0,[]⟩ 0 (k.1:Nat),I (k.1:Nat),Oo,Oo,Oo,Oo,Oo,Oo,Oo,Oo,Oo,Oo,Oo,Oo,Oo,Oo,Oo,Oo,Oo,Oo,Oo,Oo,Oo,Oo,Oo,Oo,Oo,Oo,Oo,Oo,Oo,Oo,Oo,Oo,Oo,Oo],heapL [(⟨0,[]⟩,⟨0,[]⟩,IO (rowF k.1 (fun i=>apA (entN t) v i n)))],900⟩) (fun k=>t.length - k.1) ⟨0,Nat.zero_le _⟩ ?_ (fun k=>?_)
 ·
  (apply Le.headZ [_] rfl)
  all_goals (try dsimp only[srcs])
  (case' hfr|hob=>(repeat' (first|refine La ?_ ?_|exact Lc|refine Lo ?_|refine ⟨⟨_,rfl,?_⟩,?_⟩|refine Lx ?_)))
  all_goals (first|(rfl)|exact Ld)
 obtain ⟨i,hi⟩:=k
 simp only
 by_cases hlt:i<t.length
 ·
  obtain ⟨r,hr1⟩:∃ r,t[i]? = some r:=⟨t[i],by simp⟩
  have hrl0:=ht.r r (List.mem_of_getElem? hr1)
  have hr1':=TR_get hr1
  have hrl:(IR r).length=n:=by rw[IR_len,hrl0]
  have hol:(IR (rowF i fun i=>apA (entN t) v i n)).length=i:=by rw[IR_len,rowF_len]
  repeat' (first|((first|apply Ba|(apply Bb;(· rfl);(· rfl))|(apply Bc;(· exact nxE))|(apply Bd;(· rfl);(· rfl);(· exact nxE)));(· first|exact Ok.pe))|((first|apply Ca|(apply Cb;(· exact nxE)));(· first|exact Ok.e0))|refine Sx ?_|(refine Sy (fun h=>?_) (fun h=>?_)<;>try (exfalso;omega;done))|refine Sz (fun h=>?_) (fun h=>?_))
  refine AW.loop (X:={k:Nat // k≤n}) (fun k=>⟨[TL t,IL (rowF n v),Oo,Oo,Oo,.own 1 ⟨0,[]⟩ 0 i,I i,I (apA (entN t) v i (k.1:Nat)),I (k.1:Nat),Oo,Oo,Oo,Oo,Oo,Oo,Oo,Oo,Oo,Oo,Oo,Oo,Oo,Oo,Oo,Oo,Oo,Oo,Oo,Oo,Oo,Oo,Oo,Oo,Oo,Oo,Oo,Oo,Oo,Oo,Oo,Oo],heapL [(⟨0,[]⟩,⟨0,[]⟩,IO (rowF i (fun i=>apA (entN t) v i n)))],900⟩) (fun k=>n - k.1) ⟨0,Nat.zero_le _⟩ ?_ (fun k=>?_)
  ·
   (apply Le.headZ [_] rfl)
   all_goals (try dsimp only[srcs])
   (case' hfr|hob=>(repeat' (first|refine La ?_ ?_|exact Lc|refine Lo ?_|refine ⟨⟨_,rfl,?_⟩,?_⟩|refine Lx ?_)))
   all_goals (first|(rfl)|exact Ld)
  obtain ⟨j,hj⟩:=k
  simp only
  by_cases hlt2:j<n
  ·
   obtain ⟨r',hr1b,hr2,_⟩:=ht.get hlt hlt2
   rw[hr1] at hr1b;cases hr1b
   have hrj:=IR_get hr2
   have hvj:(IR (rowF n v))[((j:Nat):Int).toNat]? = some [DI (v j)]:=IRF_get hlt2
   have hT:=l01Times_ac (entN t i j) (v j) (fun e1 e2=>by
    have h1:=(ho.f i j hlt hlt2).resolve_left e1
    have h2:=(ho.v j hlt2).resolve_left e2
    omega)
   repeat' (first|((first|apply Ba|(apply Bb;(· rfl);(· rfl))|(apply Bc;(· exact nxE))|(apply Bd;(· rfl);(· rfl);(· exact nxE)));(· first|exact Kz rfl rfl (hT) (Ad (Ad An))|exact Ok.pe))|((first|apply Ca|(apply Cb;(· exact nxE)));(· first|exact Ok.e0))|refine Sx ?_|(refine Sy (fun h=>?_) (fun h=>?_)<;>try (exfalso;omega;done))|refine Sz (fun h=>?_) (fun h=>?_))
   refine ⟨⟨j+1,by omega⟩,?_,by simp only;omega⟩
   (apply Le.headZ [_] rfl)
   all_goals (try dsimp only[srcs])
   (case' hfr|hob=>(repeat' (first|refine La ?_ ?_|exact Lc|refine Lo ?_|refine ⟨⟨_,rfl,?_⟩,?_⟩|refine Lx ?_)))
   all_goals (first|(rfl)|exact Ld)
  ·
   obtain rfl:j=n:=by omega
   repeat' (first|((first|apply Ba|(apply Bb;(· rfl);(· rfl))|(apply Bc;(· exact nxE))|(apply Bd;(· rfl);(· rfl);(· exact nxE)));(· first|exact Ok.append1 (row:=[DI (apA (entN t) v i j)]) rfl rfl (by decide) rfl rfl hol rfl rfl rfl (by rfl) (by omega) (by omega)|exact Ok.pe))|((first|apply Ca|(apply Cb;(· exact nxE)));(· first|exact Ok.append1 (row:=[DI (apA (entN t) v i j)]) rfl rfl (by decide) rfl rfl hol rfl rfl rfl (by rfl) (by omega) (by omega)|exact Ok.e0))|refine Sx ?_|(refine Sy (fun h=>?_) (fun h=>?_)<;>try (exfalso;omega;done))|refine Sz (fun h=>?_) (fun h=>?_))
   refine ⟨⟨i+1,by omega⟩,?_,by simp only;omega⟩
   (apply Le.headZ [_] rfl)
   all_goals (try dsimp only[srcs])
   (case' hfr|hob=>(repeat' (first|refine La ?_ ?_|exact Lc|refine Lo ?_|refine ⟨⟨_,rfl,?_⟩,?_⟩|refine Lx ?_)))
   all_goals (first|((first|(rw[rowF_succ];simp;done)|(rw[rowF_succ];rw[IR_app];done)))|exact Ld)
 ·
  have him:i=t.length:=by omega
  subst him
  repeat' (first|((first|apply Ba|(apply Bb;(· rfl);(· rfl))|(apply Bc;(· exact nxE))|(apply Bd;(· rfl);(· rfl);(· exact nxE)));(· first|exact Ok.pe))|((first|apply Ca|(apply Cb;(· exact nxE)));(· first|exact Ok.e0))|refine Sx ?_|(refine Sy (fun h=>?_) (fun h=>?_)<;>try (exfalso;omega;done))|refine Sz (fun h=>?_) (fun h=>?_))
  refine Ya ?_
  (apply Le.head [(⟨0,[]⟩,_,_)])
  (case' hfr|hob=>(repeat' (first|refine La ?_ ?_|exact Lc|refine Lo ?_|refine ⟨⟨_,rfl,?_⟩,?_⟩|refine Lx ?_)))
  all_goals (first|exact Ld|(rfl))
end
section
open Go Go.RowKit
attribute [local irreducible] AL AD AW OpOk Le AC thenQ blockQ EndQ
section
variable {W : Nat → Nat → Int} {n : Nat} (hb : ∀ k v, k ≤ n → v < n → W k v = BOT ∨ (-10000000 ≤ W k v ∧ W k v ≤ 10000000)) (hn : n ≤ 10)
include hb hn
end
end
section
open Go Go.RowKit
attribute [local irreducible] AL AD AW OpOk Le AC thenQ blockQ EndQ
end
section
open Go Go.RowKit
attribute [local irreducible] AL AD AW OpOk Le AC thenQ blockQ EndQ
structure RtZ (r:Int × Int):Prop where
 n : -1000000000000≤r.1∧r.1≤1000000000000
 d:1≤r.2∧r.2≤1000000
 g:Nat.gcd r.1.natAbs r.2.toNat=1
end
section
open Go Go.RowKit
attribute [local irreducible] AL AD AW OpOk Le AC thenQ blockQ EndQ
def isRtG (r:Int × Int):Bool:=wi r.1 (-1000000) 1000000&&(wi r.2 1 1000000&&(Nat.gcd r.1.natAbs r.2.toNat == 1))
structure DrR (r:Int × Int):Prop where
 n : -2000000≤r.1∧r.1≤2000000
 d : -1≤r.2∧r.2≤1000000
 s:isRtG r=true→r.2≤10
end
section
open Go Go.RowKit
attribute [local irreducible] AL AD AW OpOk Le AC thenQ blockQ EndQ
end
section
open Go Go.RowKit
attribute [local irreducible] AL AD AW OpOk Le AC thenQ blockQ EndQ
noncomputable def ptL (n:Nat) (xs:List Pl) (r:Int × Int):List Int:=rowF n fun i=>apA (entN (tabF n n (starF (entN (wmT n xs r)) n))) (fun _=>0) i n
theorem apA_ge [Mode] {f:Nat→Nat→Int}{v:Nat→Int}{i j:Nat}:∀ {k:Nat},j<k→timesB (f i j) (v j)≤apA f v i k
 | k+1,h=>by
  simp only[apA]
  by_cases e:j=k
  ·subst e;omega
  ·have:=apA_ge (f:=f) (v:=v) (i:=i) (j:=j) (k:=k) (by omega);omega
theorem ptL_ne [Mode] {n:Nat}{xs:List Pl}{r:Int × Int} (hst:StarM (wmT n xs r) n):∀ a∈ptL n xs r,a≠BOT:=by
 intro a ha
 obtain ⟨i,hi,rfl⟩:=List.mem_map.1 ha
 rw[List.mem_range] at hi
 have:=apA_ge (f:=entN (tabF n n (starF (entN (wmT n xs r)) n))) (v:=fun _=>0) (i:=i) (j:=i) (k:=n) hi
 rw[tabF_ent hi hi,star_dia0 hst.np hst.ok.some hst.ok.dia hi] at this
 unfold timesB BOT at this
 unfold BOT
 simp at this
 omega
theorem ptL_ok [Mode] {n:Nat}{xs:List Pl}{r:Int × Int} (hst:StarM (wmT n xs r) n):((ptL n xs r).all fun a=>isVal a&&!decide (a=BOT))=(ptL n xs r).all isVal:=by
 rw[Bool.eq_iff_iff]
 simp only[List.all_eq_true]
 refine ⟨fun h a ha=>?_,fun h a ha=>?_⟩
 ·have:=h a ha;simp at this;exact this.1
 ·rw[h a ha,decide_eq_false (ptL_ne hst a ha)];rfl
theorem apOk_star [Mode] {n:Nat}{xs:List Pl}{r:Int × Int} (hst:StarM (wmT n xs r) n):ApOk (entN (tabF n n (starF (entN (wmT n xs r)) n))) (fun _=>0) n n:=⟨fun i j hi hj=>by
 rw[tabF_ent hi hj]
 rcases hst.starB hi hj with h|h
 ·exact .inl h
 ·exact .inr (by omega),fun j _=>.inr (by omega)⟩
theorem zeroRow [Mode] {n:Nat}:IR (rowF n fun _=>0)=List.replicate n [DI 0]:=by simp[rowF,List.map_const']
set_option maxHeartbeats 2000000 in
theorem timePotential_ac [Mode] (n:Nat) (xs:List Pl) (u1 u2:Int) (hn:n≤10) (hx:xs.length≤1000) (hv:∀ p∈xs,okPl n p) (h1:0≤u1∧u1≤100000) (h2:0≤u2∧u2≤50) (hst:StarM (wmT n xs (u1,u2)) n):AC Tryz.prog 34 [grD n xs,.agg [I u1,I u2]] H0 (.tup [own1 1 n,Bo true]) (hp1 (IO (ptL n xs (u1,u2)))):=by
 have hW:=(weightMatrix_ac n xs u1 u2 hn hx hv h1 h2).frzT (by rw[TR_len];exact hst.rc.l)
 have hS:=(starOf_ac (wmT n xs (u1,u2)) n hst).frzT2 (by rw[TR_len,tabF_len])
 have hT:AC Tryz.prog 85 [TL (tabF n n (starF (entN (wmT n xs (u1,u2))) n)),.d (.sl 1 (List.replicate n [DI 0]))] H0 (own1 1 n) (hp1 (IO (ptL n xs (u1,u2)))):=by
  rw[← zeroRow]
  exact timesVector_ac (tabF n n (starF (entN (wmT n xs (u1,u2))) n)) n n (fun _=>0) tabF_rc (by omega) (by omega) (apOk_star hst)
 have hWl:(mRows 1 (TR (wmT n xs (u1,u2)))).length=n:=by rw[mTR_len];exact hst.rc.l
 have hpl:(ptL n xs (u1,u2)).length=n:=rowF_len
 generalize ptL n xs (u1,u2)=pt at *
 generalize starF (entN (wmT n xs (u1,u2))) n=s at *
 generalize wmT n xs (u1,u2)=wm at *
 clear hst
 refine AC.of_body 0 Tryz.func34 rfl (fun l h=>absurd rfl h) (fun C hC=>?_)
 have hD:∀ l,¬ C.D0 l:=fun l h=>(hC l).1 h rfl
 simp only[startFr,Tryz.ntmps34,List.length_cons,List.length_nil,Nat.reduceAdd,Nat.reduceSub,List.replicate_succ,List.replicate_zero,List.cons_append,List.nil_append]
 repeat' (first|((first|apply Ba|(apply Bb;(· rfl);(· rfl))|(apply Bc;(· exact nxE))|(apply Bd;(· rfl);(· rfl);(· exact nxE)));(· first|exact Kz rfl rfl (hW) (Aa (Ad (Ad An)) (Aa (Ad (Ad An)) An))|exact Kz rfl rfl (hS) (Ad An)|exact Eo rfl rfl (hT) (Sd (Sw Sn))|exact Ok.pe))|((first|apply Ca|(apply Cb;(· exact nxE)));(· first|exact Eo rfl rfl (hT) (Sd (Sw Sn))|exact Ok.e0))|refine Sx ?_|(refine Sy (fun h=>?_) (fun h=>?_)<;>try (exfalso;omega;done))|refine Sz (fun h=>?_) (fun h=>?_))
 refine Yb ?_
 (apply Le.head [(⟨0,[]⟩,_,_)])
 (case' hfr|hob=>(repeat' (first|refine La ?_ ?_|exact Lc|refine Lo ?_|refine ⟨⟨_,rfl,?_⟩,?_⟩|refine Lx ?_)))
 all_goals (first|exact Ld|(rfl))
set_option maxHeartbeats 2000000 in
theorem TimePotential_ac [Mode] (n:Nat) (xs:List Pl) (u1 u2:Nat) (hg:isEG n xs=true) (hn:n≤10) (hx:xs.length≤1000) (hv:∀ p∈xs,okPl n p) (h1:u1≤100000) (h2:1≤u2∧u2≤50) (hgc:Nat.gcd u1 u2=1) (hst:StarM (wmT n xs ((u1:Int),(u2:Int))) n) (b:Bool) (hb:(ptL n xs ((u1:Int),(u2:Int))).all isVal=b) :
  AC Tryz.prog 39 [grD n xs,.agg [I u1,I u2]] H0 (.tup [IL (if b=true then ptL n xs ((u1:Int),(u2:Int)) else []),I (if b=true then 0 else 3)]) H0:=by
 have hE:=sIsEventGraph_ac n xs (by omega)
 rw[hg] at hE
 have hR:=IsRatio_ac u1 u2 (by omega) h2.1 (by omega) hgc
 have hW:=(l15Weights_ac n xs u1 u2 hst.nn hx hv (by omega) (by omega)).frzT (by rw[TR_len];exact hst.rc.l)
 have hS:=(l03Star_ac (wmT n xs ((u1:Int),(u2:Int))) n hst).frzT2 (by rw[TR_len,tabF_len])
 have hT:AC Tryz.prog 96 [TL (tabF n n (starF (entN (wmT n xs ((u1:Int),(u2:Int)))) n)),.d (.sl 1 (List.replicate n [DI 0]))] H0 (own1 1 (ptL n xs ((u1:Int),(u2:Int))).length) (hp1 (IO (ptL n xs ((u1:Int),(u2:Int))))):=by
  rw[show (ptL n xs ((u1:Int),(u2:Int))).length=n from rowF_len,← zeroRow]
  exact l02Apply_ac (tabF n n (starF (entN (wmT n xs ((u1:Int),(u2:Int)))) n)) n n (fun _=>0) tabF_rc (by omega) (by omega) (apOk_star hst)
 have hWl:(mRows 1 (TR (wmT n xs ((u1:Int),(u2:Int))))).length=n:=by rw[mTR_len];exact hst.rc.l
 have hpl:(ptL n xs ((u1:Int),(u2:Int))).length=n:=rowF_len
 have hA:=l01All_ac (ptL n xs ((u1:Int),(u2:Int))) (by omega)
 rw[ptL_ok hst,hb] at hA
 have hpl2:(IR (ptL n xs ((u1:Int),(u2:Int)))).length=n:=by rw[IR_len,hpl]
 clear hb
 generalize ptL n xs ((u1:Int),(u2:Int))=pt at *
 generalize starF (entN (wmT n xs ((u1:Int),(u2:Int)))) n=s at *
 generalize wmT n xs ((u1:Int),(u2:Int))=wm at *
 clear hst
 cases b
 ·rw[if_neg (by decide),if_neg (by decide)]
  refine AC.of_body 0 Tryz.func39 rfl (fun l h=>absurd rfl h) (fun C hC=>?_)
  have hD:∀ l,¬ C.D0 l:=fun l h=>(hC l).1 h rfl
  simp only[startFr,Tryz.ntmps39,List.length_cons,List.length_nil,Nat.reduceAdd,Nat.reduceSub,List.replicate_succ,List.replicate_zero,List.cons_append,List.nil_append]
  repeat' (first|((first|apply Ba|(apply Bb;(· rfl);(· rfl))|(apply Bc;(· exact nxE))|(apply Bd;(· rfl);(· rfl);(· exact nxE)));(· first|exact Kz rfl rfl (hE) (Aa (Ad (Ad An)) An)|exact Kz rfl rfl (hR) (Aa (Ad (Ad An)) An)|exact Kz rfl rfl (hW) (Aa (Ad (Ad An)) (Aa (Ad (Ad An)) An))|exact Kz rfl rfl (hS) (Ad An)|exact Ez rfl rfl (hA) (Sw (Sd Sn))|exact Eo rfl rfl (hT) (Sd (Sw Sn))|exact Ok.pe))|((first|apply Ca|(apply Cb;(· exact nxE)));(· first|exact Eo rfl rfl (hT) (Sd (Sw Sn))|exact Ok.e0))|refine Sx ?_|(refine Sy (fun h=>?_) (fun h=>?_)<;>try (exfalso;omega;done))|refine Sz (fun h=>?_) (fun h=>?_))
  refine Yb ?_
  (apply Le.headZ (hs:=[]) [] rfl)
  all_goals (try dsimp only[srcs])
  (case' hfr=>(repeat' (first|refine La ?_ ?_|exact Lc|refine Lo ?_|refine ⟨⟨_,rfl,?_⟩,?_⟩|refine Lx ?_)))
  all_goals (first|exact Ld|exact trivial|(rfl))
 ·rw[if_pos rfl,if_pos rfl]
  refine AC.of_body 0 Tryz.func39 rfl (fun l h=>absurd rfl h) (fun C hC=>?_)
  have hD:∀ l,¬ C.D0 l:=fun l h=>(hC l).1 h rfl
  simp only[startFr,Tryz.ntmps39,List.length_cons,List.length_nil,Nat.reduceAdd,Nat.reduceSub,List.replicate_succ,List.replicate_zero,List.cons_append,List.nil_append]
  repeat' (first|((first|apply Ba|(apply Bb;(· rfl);(· rfl))|(apply Bc;(· exact nxE))|(apply Bd;(· rfl);(· rfl);(· exact nxE)));(· first|exact Kz rfl rfl (hE) (Aa (Ad (Ad An)) An)|exact Kz rfl rfl (hR) (Aa (Ad (Ad An)) An)|exact Kz rfl rfl (hW) (Aa (Ad (Ad An)) (Aa (Ad (Ad An)) An))|exact Kz rfl rfl (hS) (Ad An)|exact Ez rfl rfl (hA) (Sw (Sd Sn))|exact Eo rfl rfl (hT) (Sd (Sw Sn))|exact Ok.pe))|((first|apply Ca|(apply Cb;(· exact nxE)));(· first|exact Eo rfl rfl (hT) (Sd (Sw Sn))|exact Ok.e0))|refine Sx ?_|(refine Sy (fun h=>?_) (fun h=>?_)<;>try (exfalso;omega;done))|refine Sz (fun h=>?_) (fun h=>?_))
  refine Yb ?_
  (apply Le.headZ (hs:=[]) [] rfl)
  all_goals (try dsimp only[srcs])
  (case' hfr=>(repeat' (first|refine La ?_ ?_|exact Lc|refine Lo ?_|refine ⟨⟨_,rfl,?_⟩,?_⟩|refine Lx ?_)))
  all_goals (first|exact Ld|exact trivial|(rfl))
end
section
open Go Go.RowKit
attribute [local irreducible] AL AD AW OpOk Le AC thenQ blockQ EndQ
end
section
open Go Go.RowKit
attribute [local irreducible] AL AD AW OpOk Le AC thenQ blockQ EndQ
set_option maxHeartbeats 1000000 in
theorem iIsRatioG_ac [Mode] (r:Int × Int) (h : -1000000000000≤r.1∧r.1≤1000000000000):AC Tryz.prog 50 [.agg [I r.1,I r.2]] H0 (Bo (isRtG r)) H0:=by
 obtain ⟨a,b⟩:=r
 simp only at h
 unfold isRtG
 simp only
 have hF:=isFinite_ac a
 have hI:=within_ac b 1 1000000
 have hA:=absOfZ_ac a (by omega)
 cases hw:wi a (-1000000) 1000000
 ·rw[hw] at hF
  simp only[Bool.false_and]
  refine AC.of_body 0 Tryz.func50 rfl (fun l h=>absurd rfl h) (fun C hC=>?_)
  have hD:∀ l,¬ C.D0 l:=fun l h=>(hC l).1 h rfl
  simp only[startFr,Tryz.ntmps50,List.length_cons,List.length_nil,Nat.reduceAdd,Nat.reduceSub,List.replicate_succ,List.replicate_zero,List.cons_append,List.nil_append]
  repeat' (first|((first|apply Ba|(apply Bb;(· rfl);(· rfl))|(apply Bc;(· exact nxE))|(apply Bd;(· rfl);(· rfl);(· exact nxE)));(· first|exact Kz rfl rfl (hF) (Ad An)|exact Kz rfl rfl (hI) (Ad (Ad (Ad An)))|exact Ok.pe))|((first|apply Ca|(apply Cb;(· exact nxE)));(· first|exact Ok.e0))|refine Sx ?_|(refine Sy (fun h=>?_) (fun h=>?_)<;>try (exfalso;omega;done))|refine Sz (fun h=>?_) (fun h=>?_))
  refine Ya ?_
  (apply Le.headZ (hs:=[]) [] rfl)
  all_goals (try dsimp only[srcs])
  (case' hfr=>(repeat' (first|refine La ?_ ?_|exact Lc|refine Lo ?_|refine ⟨⟨_,rfl,?_⟩,?_⟩|refine Lx ?_)))
  all_goals (first|exact Ld|exact trivial|(rfl))
 rw[hw] at hF
 cases hv:wi b 1 1000000
 ·rw[hv] at hI
  simp only[Bool.false_and,Bool.and_false]
  refine AC.of_body 0 Tryz.func50 rfl (fun l h=>absurd rfl h) (fun C hC=>?_)
  have hD:∀ l,¬ C.D0 l:=fun l h=>(hC l).1 h rfl
  simp only[startFr,Tryz.ntmps50,List.length_cons,List.length_nil,Nat.reduceAdd,Nat.reduceSub,List.replicate_succ,List.replicate_zero,List.cons_append,List.nil_append]
  repeat' (first|((first|apply Ba|(apply Bb;(· rfl);(· rfl))|(apply Bc;(· exact nxE))|(apply Bd;(· rfl);(· rfl);(· exact nxE)));(· first|exact Kz rfl rfl (hF) (Ad An)|exact Kz rfl rfl (hI) (Ad (Ad (Ad An)))|exact Ok.pe))|((first|apply Ca|(apply Cb;(· exact nxE)));(· first|exact Ok.e0))|refine Sx ?_|(refine Sy (fun h=>?_) (fun h=>?_)<;>try (exfalso;omega;done))|refine Sz (fun h=>?_) (fun h=>?_))
  refine Ya ?_
  (apply Le.headZ (hs:=[]) [] rfl)
  all_goals (try dsimp only[srcs])
  (case' hfr=>(repeat' (first|refine La ?_ ?_|exact Lc|refine Lo ?_|refine ⟨⟨_,rfl,?_⟩,?_⟩|refine Lx ?_)))
  all_goals (first|exact Ld|exact trivial|(rfl))
 rw[hv] at hI
 have h2:=wi_iff.1 hv
 obtain ⟨v,rfl⟩:∃ v:Nat,b=v:=⟨b.toNat,by omega⟩
 have hG:=divisorOf_ac a.natAbs v (by omega) (by omega)
 rw[Int.toNat_natCast]
 simp only[Bool.true_and]
 generalize Nat.gcd a.natAbs v=g at *
 by_cases hg:g=1
 ·subst hg
  refine AC.of_body 0 Tryz.func50 rfl (fun l h=>absurd rfl h) (fun C hC=>?_)
  have hD:∀ l,¬ C.D0 l:=fun l h=>(hC l).1 h rfl
  simp only[startFr,Tryz.ntmps50,List.length_cons,List.length_nil,Nat.reduceAdd,Nat.reduceSub,List.replicate_succ,List.replicate_zero,List.cons_append,List.nil_append]
  repeat' (first|((first|apply Ba|(apply Bb;(· rfl);(· rfl))|(apply Bc;(· exact nxE))|(apply Bd;(· rfl);(· rfl);(· exact nxE)));(· first|exact Kz rfl rfl (hF) (Ad An)|exact Kz rfl rfl (hI) (Ad (Ad (Ad An)))|exact Kz rfl rfl (hA) (Ad An)|exact Kz rfl rfl (hG) (Ad (Ad An))|exact Ok.pe))|((first|apply Ca|(apply Cb;(· exact nxE)));(· first|exact Ok.e0))|refine Sx ?_|(refine Sy (fun h=>?_) (fun h=>?_)<;>try (exfalso;omega;done))|refine Sz (fun h=>?_) (fun h=>?_))
  refine Ya ?_
  (apply Le.headZ (hs:=[]) [] rfl)
  all_goals (try dsimp only[srcs])
  (case' hfr=>(repeat' (first|refine La ?_ ?_|exact Lc|refine Lo ?_|refine ⟨⟨_,rfl,?_⟩,?_⟩|refine Lx ?_)))
  all_goals (first|exact Ld|exact trivial|(rfl))
 ·rw[show (g == 1)=false from beq_eq_false_iff_ne.2 hg]
  refine AC.of_body 0 Tryz.func50 rfl (fun l h=>absurd rfl h) (fun C hC=>?_)
  have hD:∀ l,¬ C.D0 l:=fun l h=>(hC l).1 h rfl
  simp only[startFr,Tryz.ntmps50,List.length_cons,List.length_nil,Nat.reduceAdd,Nat.reduceSub,List.replicate_succ,List.replicate_zero,List.cons_append,List.nil_append]
  repeat' (first|((first|apply Ba|(apply Bb;(· rfl);(· rfl))|(apply Bc;(· exact nxE))|(apply Bd;(· rfl);(· rfl);(· exact nxE)));(· first|exact Kz rfl rfl (hF) (Ad An)|exact Kz rfl rfl (hI) (Ad (Ad (Ad An)))|exact Kz rfl rfl (hA) (Ad An)|exact Kz rfl rfl (hG) (Ad (Ad An))|exact Ok.pe))|((first|apply Ca|(apply Cb;(· exact nxE)));(· first|exact Ok.e0))|refine Sx ?_|(refine Sy (fun h=>?_) (fun h=>?_)<;>try (exfalso;omega;done))|refine Sz (fun h=>?_) (fun h=>?_))
  refine Ya ?_
  (apply Le.headZ (hs:=[]) [] rfl)
  all_goals (try dsimp only[srcs])
  (case' hfr=>(repeat' (first|refine La ?_ ?_|exact Lc|refine Lo ?_|refine ⟨⟨_,rfl,?_⟩,?_⟩|refine Lx ?_)))
  all_goals (first|exact Ld|exact trivial|(first|rfl|exact (decide_eq_false (by omega)).symm))
def finL (x:List Int):Bool:=x.all fun a=>wi a (-1000000) 1000000
theorem getD_cell [Mode] {x:List Int}{n j:Nat} (hl:x.length=n) (hj:j<n):(IR x)[((j:Nat):Int).toNat]? = some [DI (x.getD j 0)]:=by
 have:x[j]? = some (x.getD j 0):=by rw[List.getD_eq_getElem?_getD,List.getElem?_eq_getElem (by omega)];rfl
 exact IR_get this
theorem finL_at [Mode] {x:List Int}{n j:Nat} (h:finL x=true) (hl:x.length=n) (hj:j<n) : -1000000≤x.getD j 0∧x.getD j 0≤1000000:=by
 unfold finL at h
 rw[List.all_eq_true] at h
 have h1:x.getD j 0∈x:=by rw[List.getD_eq_getElem?_getD,List.getElem?_eq_getElem (by omega)];exact List.getElem_mem _
 exact wi_iff.1 (h _ h1)
end
section
structure FWX (W:Nat→Nat→Int) (n:Nat) (M:Int) (k:Nat) (s:Nat→Nat→Int):Prop where
 bnd:∀ u v,u<n→v<n→s v u≠BOT→-(M*2 ^ k)≤s v u∧s v u≤M*2 ^ k
 dia:∀ u,u<n→s u u≠BOT∧0≤s u u
 arc:∀ u v,u<n→v<n→W v u≠BOT→s v u≠BOT∧W v u≤s v u
 tr:∀ u m v,u<n→m<k→m<n→v<n→s m u≠BOT→s v m≠BOT→s v u≠BOT∧s m u+s v m≤s v u
section
variable {W : Nat → Nat → Int} {n : Nat} {M : Int}
theorem FWX.start (hM:0≤M) (hMb:M<1000000000000000) (hW:∀ u v,W v u≠BOT→-M≤W v u∧W v u≤M):FWX W n M 0 (fun i j=>max (W i j) (if i=j then 0 else BOT)):=by
 have hb:∀ u v,W v u=BOT∨(-M≤W v u∧W v u≤M):=fun u v=>by
  by_cases h:W v u=BOT
  ·exact .inl h
  ·exact .inr (hW u v h)
 refine ⟨fun u v _ _ h=>?_,fun u _=>?_,fun u v _ _ h=>?_,fun u m v _ h=>by omega⟩
 ·rw[Int.pow_zero,Int.mul_one]
  have h1:=hb u v
  revert h
  unfold BOT at *
  split<;>omega
 ·have h1:=hb u u
  simp only[if_true]
  unfold BOT at *
  omega
 ·have h1:=hW u v h
  unfold BOT at *
  split<;>omega
variable {k : Nat} {s : Nat → Nat → Int}
theorem FWX.step (hM:0≤M) (hMb:M*2 ^ (k+1)<1000000000000000) (hk:k<n) (h:FWX W n M k s) (hkk:s k k=0):FWX W n M (k+1) (fwS s k)∧(∀ i,i<n→fwS s k i k=s i k)∧∀ j,j<n→fwS s k k j=s k j:=by
 have hpow:M*2 ^ (k+1)=M*2 ^ k*2:=by rw[Int.pow_succ,Int.mul_assoc]
 have hp0:0≤M*2 ^ k:=Int.mul_nonneg hM (Int.pow_nonneg (by omega))
 obtain ⟨hb,hd,ha,ht⟩:=h
 generalize M*2 ^ k=B at *
 rw[hpow] at hMb
 have hc:∀ v u,u<n→v<n→s v u=BOT∨(s v u≠BOT∧-B≤s v u∧s v u≤B):=fun v u hu hv=>by
  by_cases e:s v u=BOT
  ·exact .inl e
  ·exact .inr ⟨e,hb u v hu hv e⟩
 have g1:∀ v u,u<n→v<n→s v u≠BOT→fwS s k v u≠BOT∧s v u≤fwS s k v u:=fun v u hu hv h=>by
  have:=hb u v hu hv h
  unfold fwS BOT at *
  omega
 have g2:∀ v u,u<n→v<n→s v k≠BOT→s k u≠BOT→fwS s k v u≠BOT∧s v k+s k u≤fwS s k v u:=fun v u hu hv h1 h2=>by
  have a1:=hb k v hk hv h1
  have a2:=hb u k hu hk h2
  unfold fwS
  rw[timesB_ne h1 h2]
  unfold BOT at *
  omega
 have g3:∀ v u,u<n→v<n→fwS s k v u≠BOT→(s v u≠BOT∧fwS s k v u=s v u)∨(s v k≠BOT∧s k u≠BOT∧fwS s k v u=s v k+s k u):=fun v u hu hv h=>by
  have a0:=hc v u hu hv
  by_cases h1:s v k=BOT
  ·have e:fwS s k v u=max (s v u) BOT:=by unfold fwS timesB;rw[if_pos (.inl h1)]
   rw[e] at h ⊢
   left;unfold BOT at *;omega
  ·by_cases h2:s k u=BOT
   ·have e:fwS s k v u=max (s v u) BOT:=by unfold fwS timesB;rw[if_pos (.inr h2)]
    rw[e] at h ⊢
    left;unfold BOT at *;omega
   ·have a1:=hb k v hk hv h1
    have a2:=hb u k hu hk h2
    have e:fwS s k v u=max (s v u) (s v k+s k u):=by unfold fwS;rw[timesB_ne h1 h2]
    rw[e] at h ⊢
    by_cases h3:s v u=BOT
    ·right;refine ⟨h1,h2,?_⟩;unfold BOT at *;omega
    ·by_cases h4:s v k+s k u≤s v u
     ·left;exact ⟨h3,by omega⟩
     ·right;exact ⟨h1,h2,by omega⟩
 refine ⟨⟨fun u v hu hv h=>?_,fun u hu=>?_,fun u v hu hv h=>?_,fun u m v hu hm hmn hv h1 h2=>?_⟩,fun i hi=>?_,fun j hj=>?_⟩
 ·rw[hpow]
  rcases g3 v u hu hv h with ⟨a,e⟩|⟨a,b,e⟩
  ·have:=hb u v hu hv a;omega
  ·have:=hb k v hk hv a
   have:=hb u k hu hk b
   omega
 ·obtain ⟨a,b⟩:=hd u hu
  have:=g1 u u hu hu a
  exact ⟨this.1,by omega⟩
 ·obtain ⟨a,b⟩:=ha u v hu hv h
  have:=g1 v u hu hv a
  exact ⟨this.1,by omega⟩
 ·by_cases e:m=k
  ·subst e
   have e1:fwS s m m u=s m u:=by unfold fwS;rw[hkk,timesB_0'];omega
   have e2:fwS s m v m=s v m:=by unfold fwS;rw[hkk,timesB_0];omega
   rw[e1] at h1 ⊢
   rw[e2] at h2 ⊢
   have:=g2 v u hu hv h2 h1
   exact ⟨this.1,by omega⟩
  ·have ih:=fun u v hu hv=>ht u m v hu (by omega) hmn hv
   rcases g3 m u hu hmn h1 with ⟨a,ea⟩|⟨a,a',ea⟩<;>rcases g3 v m hmn hv h2 with ⟨b,eb⟩|⟨b,b',eb⟩
   ·obtain ⟨i1,i2⟩:=ih u v hu hv a b
    have:=g1 v u hu hv i1
    exact ⟨this.1,by omega⟩
   ·obtain ⟨i1,i2⟩:=ih u k hu hk a b'
    have:=g2 v u hu hv b i1
    exact ⟨this.1,by omega⟩
   ·obtain ⟨i1,i2⟩:=ih k v hk hv a b
    have:=g2 v u hu hv i1 a'
    exact ⟨this.1,by omega⟩
   ·obtain ⟨i1,i2⟩:=ih k k hk hk a b'
    have:=g2 v u hu hv b a'
    exact ⟨this.1,by omega⟩
 ·unfold fwS;rw[hkk,timesB_0];omega
 ·unfold fwS;rw[hkk,timesB_0'];omega
theorem FWX.walk (h:FWX W n M n s):∀ (c:List Nat) (u v:Nat),u<n→v<n→(∀ x∈c,x<n)→WM W u c v→s v u≠BOT∧wM W u c v≤s v u
 | [],u,v,hu,hv,_,hw=>h.arc u v hu hv hw
 | m :: c,u,v,hu,hv,hc,hw=>by
  have hm:=hc m (by simp)
  obtain ⟨a1,a2⟩:=h.arc u m hu hm hw.1
  obtain ⟨b1,b2⟩:=h.walk c m v hm hv (fun x hx=>hc x (by simp[hx])) hw.2
  obtain ⟨c1,c2⟩:=h.tr u m v hu hm hm hv a1 b1
  exact ⟨c1,by simp only[wM];omega⟩
theorem FWX.np (h:FWX W n M n s) (h0:∀ u,u<n→s u u≤0):NoPos W n:=fun u c hu hc hw=>by
 have:=h.walk c u u hu hu hc hw
 have:=h0 u hu
 omega
end
end
section
open Go Go.RowKit
attribute [local irreducible] AL AD AW OpOk Le AC thenQ blockQ EndQ
structure StarB (t:List (List Int)) (n:Nat):Prop where
 rc:Rc t n n
 n0:0<n
 nn:n≤10
 bnd:∀ u v,entN t v u≠BOT→-100000000000≤entN t v u∧entN t v u≤100000000000
theorem StarB.m [Mode] {t:List (List Int)}{n:Nat} (h:StarB t n) (hp:NoPos (entN t) n):StarM t n:=⟨h.rc,h.n0,h.nn,h.bnd,hp⟩
section
variable {t : List (List Int)} {n : Nat} (h : StarB t n)
include h
theorem StarB.fwx [Mode]:∀ k,k≤n→(∀ j,j<k→fwN (entN t) j j j≤0)→FWX (entN t) n 100000000000 k (fwN (entN t) k)
 | 0,_,_=>FWX.start (by decide) (by decide) h.bnd
 | k+1,hk,hd=>by
  have h2:=pow_le10 (show k+1≤10 by have:=h.nn;omega)
  have ih:=StarB.fwx k (by omega) (fun j hj=>hd j (by omega))
  have d1:=hd k (by omega)
  have d2:=(ih.dia k (by omega)).2
  exact (FWX.step (by decide) (by omega) (by omega) ih (by omega)).1
theorem StarB.cells [Mode] {k:Nat} (hk:k≤n) (hd:∀ j,j<k→fwN (entN t) j j j≤0) {i j:Nat} (hi:i<n) (hj:j<n):fwN (entN t) k i j=BOT∨(-102400000000000≤fwN (entN t) k i j∧fwN (entN t) k i j≤102400000000000):=by
 by_cases e:fwN (entN t) k i j=BOT
 ·exact .inl e
 ·have:=(h.fwx k hk hd).bnd j i hj hi e
  have:=pow_le10 (show k≤10 by have:=h.nn;omega)
  right;omega
theorem StarB.px [Mode] {m:Nat} (hm:m≤n+1):PX (entN t) n 100000000000 m (powN (entN t) n m):=
 powN_px (by decide) h.bnd m (by have:=h.nn;omega)
theorem StarB.mul [Mode] {m:Nat} (hm:m≤n):AC Tryz.prog 143 [TL t,TL (tabF n n (powN (entN t) n m))] H0 (own1 1 n) (hpM 1 (TR (tabF n n (mulF t (tabF n n (powN (entN t) n m)) n)))):=by
 have hn:=h.nn
 refine l02Multiply_ac n t _ h.rc tabF_rc (by omega) h.n0 (fun i q j hi hq hj h1 h2=>?_)
 rw[tabF_ent hq hj] at h2 ⊢
 have g1:=h.bnd q i h1
 have g2:=(h.px (show m≤n+1 by omega)).bnd j q hj hq h2
 omega
theorem StarB.add [Mode] {m:Nat}:AC Tryz.prog 142 [TL (tabF n n unitF),TL (tabF n n (mulF t (tabF n n (powN (entN t) n m)) n))] H0 (own1 1 n) (hpM 1 (TR (tabF n n (powN (entN t) n (m+1))))):=by
 have hn:=h.nn
 have hA:=l02Add_ac n n (tabF n n unitF) (tabF n n (mulF t (tabF n n (powN (entN t) n m)) n)) tabF_rc tabF_rc (by omega) (by omega)
 have e:tabF n n (addF (tabF n n unitF) (tabF n n (mulF t (tabF n n (powN (entN t) n m)) n)))=tabF n n (powN (entN t) n (m+1)):=tabF_congr fun i j hi hj=>by
  unfold addF
  rw[tabF_ent hi hj,tabF_ent hi hj]
  show _=powS (entN t) n (powN (entN t) n m) i j
  unfold powS mulF
  rw[maxN_congr (g:=fun q=>timesB (entN t i q) (powN (entN t) n m q j)) (fun q hq=>by show timesB (entN t i q) (entN (tabF n n (powN (entN t) n m)) q j)=_;rw[tabF_ent hq hj])]
 rw[← e]
 exact hA
end
set_option maxHeartbeats 4000000 in
theorem starOf_no [Mode] (t:List (List Int)) (n:Nat) (h:StarB t n) (hp:¬ NoPos (entN t) n):AC Tryz.prog 83 [TL t] H0 (.tup [TL [],Bo false]) H0:=by
 have hn:=h.nn
 have h0:=h.n0
 have htl:=h.rc.l
 have hU:=unitMatrix_ac n (by omega)
 have hA:=addMatrices_ac n n t (tabF n n unitF) h.rc tabF_rc h0 (by omega) (by omega)
 have hA0:tabF n n (addF t (tabF n n unitF))=tabF n n (fwN (entN t) 0):=tabF_congr fun i j hi hj=>by
  unfold addF fwN
  rw[tabF_ent hi hj]
  rfl
 rw[hA0] at hA
 have hul:(tabF n n unitF).length=n:=tabF_len
 have hL:(mRows 1 (TR t)).length=n:=by rw[mTR_len,htl]
 refine AC.of_body 0 Tryz.func83 rfl (fun l h=>absurd rfl h) (fun C hC=>?_)
 have hD:∀ l,¬ C.D0 l:=fun l h=>(hC l).1 h rfl
 simp only[startFr,Tryz.ntmps83,List.length_cons,List.length_nil,Nat.reduceAdd,Nat.reduceSub,List.replicate_succ,List.replicate_zero,List.cons_append,List.nil_append]
 repeat' (first|((first|apply Ba|(apply Bb;(· rfl);(· rfl))|(apply Bc;(· exact nxE))|(apply Bd;(· rfl);(· rfl);(· exact nxE)));(· first|exact Ok.lenD rfl rfl hL|exact Tb rfl rfl (hU) (Sd Sn)|exact Tb rfl rfl (hA) (Sd (Sm Sn))|exact Ok.pe))|((first|apply Ca|(apply Cb;(· exact nxE)));(· first|exact Tb rfl rfl (hU) (Sd Sn)|exact Tb rfl rfl (hA) (Sd (Sm Sn))|exact Ok.e0))|refine Sx ?_|(refine Sy (fun h=>?_) (fun h=>?_)<;>try (exfalso;omega;done))|refine Sz (fun h=>?_) (fun h=>?_))
 refine AW.loop (X:={k:Nat // k≤n∧∀ j,j<k→fwN (entN t) j j j≤0}) (fun k=>⟨[Oo,Oo,Oo,Oo,.own 1 ⟨1,[]⟩ 0 n,Oo,Oo,Oo,Oo,Oo,Oo,Oo,Oo,Oo,Oo,I n,I (k.1:Nat),Oo,Oo,Oo,Oo,Oo,Oo,Oo,Oo,Oo,Oo,Oo,Oo,Oo,Oo,Oo,Oo,Oo,Oo,Oo,Oo,Oo,Oo,Oo,Oo,Oo,Oo,Oo,Oo,Oo,Oo,Oo,Oo,Oo,Oo,Oo,Oo,Oo,Oo,Oo,Oo,Oo,Oo,Oo,Oo,Oo,Oo,Oo,Oo,Oo,Oo,Oo,Oo,Oo,Oo,Oo,Oo,Oo,Oo,Oo,Oo,Oo,Oo,Oo,Oo,Oo,Oo,Oo],heapX [] [mi1 ⟨1,[]⟩ (TR (tabF n n (fwN (entN t) k.1)))],900⟩) (fun k=>n - k.1) ⟨0,Nat.zero_le _,by intro j hj;omega⟩ ?_ (fun k=>?_)
 ·
  (apply Le.headG [] [{ l:=⟨1,[]⟩,k:=1,R:=TR (tabF n n (fwN (entN t) 0)),src:=⟨6,[0]⟩,base:=⟨6,[0]⟩ }] (fun _=>False))
  (case' hlen=>rfl)
  (case' hms=>rfl)
  all_goals (try dsimp only[srcs])
  (case' hfr|hob=>(repeat' (first|refine La ?_ ?_|exact Lc|refine Lo ?_|refine ⟨⟨_,rfl,?_⟩,?_⟩|refine Lx ?_)))
  (case' hok=>first|exact ⟨MI.ok_same rfl (Cg),trivial⟩|exact trivial)
  (case' hN=>rfl)
  (case' hS=>rfl)
  all_goals (first|exact Ld|(rfl))
 obtain ⟨p,hk,hdj⟩:=k
 simp only
 have hf:=h.fwx p hk hdj
 have hcell:=fun {i j}=>h.cells hk hdj (i:=i) (j:=j)
 by_cases hlt:p<n
 ·
  have hst:fwN (entN t) (p+1)=fwS (fwN (entN t) p) p:=rfl
  have hnext:fwN (entN t) p p p≤0→∀ j,j<p+1→fwN (entN t) j j j≤0:=fun h0 j hj=>by
   by_cases e:j=p
   ·subst e;exact h0
   ·exact hdj j (by omega)
  have hdia:=(hf.dia p hlt).2
  have hstep:=fun (e:fwN (entN t) p p p=0)=>FWX.step (by decide) (by have:=pow_le10 (show p+1≤10 by omega);omega) hlt hf e
  generalize fwN (entN t) p=s at *
  clear hf hA hA0 hU
  have hrk:=TRF_get (n:=n) (f:=s) hlt
  have hrkl:(IR (rowF n (s p))).length=n:=by rw[IR_len,rowF_len]
  have hck:=IRF_get (g:=s p) hlt
  by_cases hpos:0<s p p
  ·
   repeat' (first|((first|apply Ba|(apply Bb;(· rfl);(· rfl))|(apply Bc;(· exact nxE))|(apply Bd;(· rfl);(· rfl);(· exact nxE)));(· first|exact Ok.ldTn rfl rfl rfl hrk hrkl|exact Ok.ld1 rfl rfl (congrArg (Option.map (dobj 1)) hrk) hck|exact Ok.pe))|((first|apply Ca|(apply Cb;(· exact nxE)));(· first|exact Ok.e0))|refine Sx ?_|(refine Sy (fun h=>?_) (fun h=>?_)<;>try (exfalso;omega;done))|refine Sz (fun h=>?_) (fun h=>?_))
   refine Yb ?_
   (apply Le.headZ (hs:=[]) [] rfl)
   all_goals (try dsimp only[srcs])
   (case' hfr=>(repeat' (first|refine La ?_ ?_|exact Lc|refine Lo ?_|refine ⟨⟨_,rfl,?_⟩,?_⟩|refine Lx ?_)))
   all_goals (first|exact Ld|exact trivial|(rfl))
  have hkk:s p p=0:=by omega
  obtain ⟨_,hcol,hrw⟩:=hstep hkk
  have hnext:=hnext (by omega)
  rw[hkk] at hck
  repeat' (first|((first|apply Ba|(apply Bb;(· rfl);(· rfl))|(apply Bc;(· exact nxE))|(apply Bd;(· rfl);(· rfl);(· exact nxE)));(· first|exact Ok.ldTn rfl rfl rfl hrk hrkl|exact Ok.ld1 rfl rfl (congrArg (Option.map (dobj 1)) hrk) hck|exact Ok.pe))|((first|apply Ca|(apply Cb;(· exact nxE)));(· first|exact Ok.e0))|refine Sx ?_|(refine Sy (fun h=>?_) (fun h=>?_)<;>try (exfalso;omega;done))|refine Sz (fun h=>?_) (fun h=>?_))
  refine AW.loop (X:={k:Nat // k≤n}) (fun k=>⟨[Oo,Oo,Oo,Oo,.own 1 ⟨1,[]⟩ 0 n,I p,Oo,Oo,Oo,Oo,Oo,Oo,Oo,Oo,Oo,I n,I p,Oo,Oo,Oo,Oo,Oo,Oo,Oo,Oo,Oo,Oo,Oo,I n,I (k.1:Nat),Oo,Oo,Oo,Oo,Oo,Oo,Oo,Oo,Oo,Oo,Oo,Oo,Oo,Oo,Oo,Oo,Oo,Oo,Oo,Oo,Oo,Oo,Oo,Oo,Oo,Oo,Oo,Oo,Oo,Oo,Oo,Oo,Oo,Oo,Oo,Oo,Oo,Oo,Oo,Oo,Oo,Oo,Oo,Oo,Oo,Oo,Oo,Oo,Oo,Oo,Oo,Oo,Oo,Oo],heapX [] [mi1 ⟨1,[]⟩ (TR (tabF n n (mixF (fwS s p) s k.1 0)))],900⟩) (fun k=>n - k.1) ⟨0,Nat.zero_le _⟩ ?_ (fun k=>?_)
  ·
   (apply Le.headG [] [mi1 ⟨1,[]⟩ (TR (tabF n n (mixF (fwS s p) s 0 0)))] (fun _=>False))
   (case' hlen=>rfl)
   (case' hms=>rfl)
   all_goals (try dsimp only[srcs])
   (case' hfr|hob=>(repeat' (first|refine La ?_ ?_|exact Lc|refine Lo ?_|refine ⟨⟨_,rfl,?_⟩,?_⟩|refine Lx ?_)))
   (case' hok=>first|exact ⟨by rw[mixF_0];exact MI.ok_same rfl (Cg),trivial⟩|exact trivial)
   (case' hN=>rfl)
   (case' hS=>rfl)
   all_goals (first|exact Ld|(rfl))
  obtain ⟨i,hi⟩:=k
  simp only
  by_cases hlt2:i<n
  ·
   repeat' (first|((first|apply Ba|(apply Bb;(· rfl);(· rfl))|(apply Bc;(· exact nxE))|(apply Bd;(· rfl);(· rfl);(· exact nxE)));(· first|exact Ok.pe))|((first|apply Ca|(apply Cb;(· exact nxE)));(· first|exact Ok.e0))|refine Sx ?_|(refine Sy (fun h=>?_) (fun h=>?_)<;>try (exfalso;omega;done))|refine Sz (fun h=>?_) (fun h=>?_))
   refine AW.loop (X:={k:Nat // k≤n}) (fun k=>⟨[Oo,Oo,Oo,Oo,.own 1 ⟨1,[]⟩ 0 n,I p,I i,Oo,Oo,Oo,Oo,Oo,Oo,Oo,Oo,I n,I p,Oo,Oo,Oo,Oo,Oo,Oo,Oo,Oo,Oo,Oo,Oo,I n,I i,Oo,Oo,Oo,I n,I (k.1:Nat),Oo,Oo,Oo,Oo,Oo,Oo,Oo,Oo,Oo,Oo,Oo,Oo,Oo,Oo,Oo,Oo,Oo,Oo,Oo,Oo,Oo,Oo,Oo,Oo,Oo,Oo,Oo,Oo,Oo,Oo,Oo,Oo,Oo,Oo,Oo,Oo,Oo,Oo,Oo,Oo,Oo,Oo,Oo,Oo,Oo,Oo,Oo,Oo,Oo],heapX [] [mi1 ⟨1,[]⟩ (TR (tabF n n (mixF (fwS s p) s i k.1)))],900⟩) (fun k=>n - k.1) ⟨0,Nat.zero_le _⟩ ?_ (fun k=>?_)
   ·
    (apply Le.headG [] [mi1 ⟨1,[]⟩ (TR (tabF n n (mixF (fwS s p) s i 0)))] (fun _=>False))
    (case' hlen=>rfl)
    (case' hms=>rfl)
    all_goals (try dsimp only[srcs])
    (case' hfr|hob=>(repeat' (first|refine La ?_ ?_|exact Lc|refine Lo ?_|refine ⟨⟨_,rfl,?_⟩,?_⟩|refine Lx ?_)))
    (case' hok=>first|exact ⟨MI.ok_same rfl (Cg),trivial⟩|exact trivial)
    (case' hN=>rfl)
    (case' hS=>rfl)
    all_goals (first|exact Ld|(rfl))
   obtain ⟨j,hj⟩:=k
   simp only
   by_cases hlt3:j<n
   ·
    have hrwi:=TRF_get (n:=n) (f:=mixF (fwS s p) s i j) hlt2
    have hrwk:=TRF_get (n:=n) (f:=mixF (fwS s p) s i j) hlt
    have hli:(IR (rowF n (mixF (fwS s p) s i j i))).length=n:=by rw[IR_len,rowF_len]
    have hlk:(IR (rowF n (mixF (fwS s p) s i j p))).length=n:=by rw[IR_len,rowF_len]
    have hij:=IRF_get (g:=mixF (fwS s p) s i j i) hlt3
    have hik:=IRF_get (g:=mixF (fwS s p) s i j i) hlt
    have hkj:=IRF_get (g:=mixF (fwS s p) s i j p) hlt3
    rw[show mixF (fwS s p) s i j i j=s i j by unfold mixF;rw[if_neg (by omega)]] at hij
    rw[show mixF (fwS s p) s i j i p=s i p by unfold mixF;split<;>first|exact hcol i hlt2|rfl] at hik
    rw[show mixF (fwS s p) s i j p j=s p j by unfold mixF;split<;>first|exact hrw j hlt3|rfl] at hkj
    have hT:=times_ac (s i p) (s p j) (fun e1 e2=>by
     have h1:=(hcell hlt2 hlt).resolve_left e1
     have h2:=(hcell hlt hlt3).resolve_left e2
     omega)
    have hset:(IR (rowF n (mixF (fwS s p) s i j i))).set j [DI (max (s i j) (timesB (s i p) (s p j)))]=IR ((rowF n (mixF (fwS s p) s i j i)).set j (fwS s p i j)):=IR_set
    repeat' (first|((first|apply Ba|(apply Bb;(· rfl);(· rfl))|(apply Bc;(· exact nxE))|(apply Bd;(· rfl);(· rfl);(· exact nxE)));(· first|exact Ok.ldTn rfl rfl rfl hrwi hli|exact Ok.ldTn rfl rfl rfl hrwk hlk|exact Ok.ld1 rfl rfl (congrArg (Option.map (dobj 1)) hrwi) hij|exact Ok.ld1 rfl rfl (congrArg (Option.map (dobj 1)) hrwi) hik|exact Ok.ld1 rfl rfl (congrArg (Option.map (dobj 1)) hrwk) hkj|exact Kz rfl rfl (hT) (Ad (Ad An))|exact Ok.st1 rfl rfl (congrArg (Option.map (dobj 1)) hrwi) (by simp[rowF_len];omega) (by rw[hij];rfl) rfl rfl hset|exact Ok.pe))|((first|apply Ca|(apply Cb;(· exact nxE)));(· first|exact Ok.st1 rfl rfl (congrArg (Option.map (dobj 1)) hrwi) (by simp[rowF_len];omega) (by rw[hij];rfl) rfl rfl hset|exact Ok.e0))|refine Sx ?_|(refine Sy (fun h=>?_) (fun h=>?_)<;>try (exfalso;omega;done))|refine Sz (fun h=>?_) (fun h=>?_))
    refine ⟨⟨j+1,by omega⟩,?_,by simp only;omega⟩
    (apply Le.headG [] [mi1 ⟨1,[]⟩ (TR (tabF n n (mixF (fwS s p) s i (j+1))))] (fun _=>False))
    (case' hlen=>rfl)
    (case' hms=>rfl)
    all_goals (try dsimp only[srcs])
    (case' hfr|hob=>(repeat' (first|refine La ?_ ?_|exact Lc|refine Lo ?_|refine ⟨⟨_,rfl,?_⟩,?_⟩|refine Lx ?_)))
    (case' hok=>first|exact ⟨MI.ok_row (tabF_set (fun a b _ _=>mixF_set)) hrwi (by simp) rfl (Cg),trivial⟩|exact trivial)
    (case' hN=>rfl)
    (case' hS=>rfl)
    all_goals (first|exact Ld|(rfl))
   ·
    obtain rfl:j=n:=by omega
    rw[mixF_row]
    repeat' (first|((first|apply Ba|(apply Bb;(· rfl);(· rfl))|(apply Bc;(· exact nxE))|(apply Bd;(· rfl);(· rfl);(· exact nxE)));(· first|exact Ok.pe))|((first|apply Ca|(apply Cb;(· exact nxE)));(· first|exact Ok.e0))|refine Sx ?_|(refine Sy (fun h=>?_) (fun h=>?_)<;>try (exfalso;omega;done))|refine Sz (fun h=>?_) (fun h=>?_))
    refine ⟨⟨i+1,by omega⟩,?_,by simp only;omega⟩
    (apply Le.headG [] [mi1 ⟨1,[]⟩ (TR (tabF j j (mixF (fwS s p) s (i+1) 0)))] (fun _=>False))
    (case' hlen=>rfl)
    (case' hms=>rfl)
    all_goals (try dsimp only[srcs])
    (case' hfr|hob=>(repeat' (first|refine La ?_ ?_|exact Lc|refine Lo ?_|refine ⟨⟨_,rfl,?_⟩,?_⟩|refine Lx ?_)))
    (case' hok=>first|exact ⟨MI.ok_same rfl (Cg),trivial⟩|exact trivial)
    (case' hN=>rfl)
    (case' hS=>rfl)
    all_goals (first|exact Ld|(rfl))
  ·
   obtain rfl:i=n:=by omega
   rw[mixF_all]
   repeat' (first|((first|apply Ba|(apply Bb;(· rfl);(· rfl))|(apply Bc;(· exact nxE))|(apply Bd;(· rfl);(· rfl);(· exact nxE)));(· first|exact Ok.pe))|((first|apply Ca|(apply Cb;(· exact nxE)));(· first|exact Ok.e0))|refine Sx ?_|(refine Sy (fun h=>?_) (fun h=>?_)<;>try (exfalso;omega;done))|refine Sz (fun h=>?_) (fun h=>?_))
   refine ⟨⟨p+1,by omega,hnext⟩,?_,by simp only;omega⟩
   simp only
   rw[hst]
   (apply Le.headG [] [mi1 ⟨1,[]⟩ (TR (tabF i i (fwS s p)))] (fun _=>False))
   (case' hlen=>rfl)
   (case' hms=>rfl)
   all_goals (try dsimp only[srcs])
   (case' hfr|hob=>(repeat' (first|refine La ?_ ?_|exact Lc|refine Lo ?_|refine ⟨⟨_,rfl,?_⟩,?_⟩|refine Lx ?_)))
   (case' hok=>first|exact ⟨MI.ok_same rfl (Cg),trivial⟩|exact trivial)
   (case' hN=>rfl)
   (case' hS=>rfl)
   all_goals (first|exact Ld|(rfl))
 ·
  obtain rfl:n=p:=by omega
  have hno:¬ ∀ u,u<n→fwN (entN t) n u u≤0:=fun h0=>hp (hf.np h0)
  generalize fwN (entN t) n=s at *
  clear hf hA hA0 hU
  repeat' (first|((first|apply Ba|(apply Bb;(· rfl);(· rfl))|(apply Bc;(· exact nxE))|(apply Bd;(· rfl);(· rfl);(· exact nxE)));(· first|exact Ok.pe))|((first|apply Ca|(apply Cb;(· exact nxE)));(· first|exact Ok.e0))|refine Sx ?_|(refine Sy (fun h=>?_) (fun h=>?_)<;>try (exfalso;omega;done))|refine Sz (fun h=>?_) (fun h=>?_))
  refine AW.loop (X:={k:Nat // k≤n∧∀ j,j<k→s j j≤0}) (fun k=>⟨[Oo,Oo,Oo,Oo,.own 1 ⟨1,[]⟩ 0 n,Oo,Oo,Oo,Oo,Oo,Oo,Oo,Oo,Oo,Oo,Oo,Oo,Oo,Oo,Oo,Oo,Oo,Oo,Oo,Oo,Oo,Oo,Oo,Oo,Oo,Oo,Oo,Oo,Oo,Oo,Oo,Oo,Oo,Oo,Oo,Oo,Oo,Oo,Oo,Oo,Oo,Oo,Oo,Oo,Oo,Oo,Oo,Oo,Oo,Oo,Oo,Oo,Oo,Oo,Oo,Oo,Oo,Oo,Oo,Oo,Oo,Oo,Oo,Oo,Oo,I n,I (k.1:Nat),Oo,Oo,Oo,Oo,Oo,Oo,Oo,Oo,Oo,Oo,Oo,Oo],heapX [] [mi1 ⟨1,[]⟩ (TR (tabF n n s))],900⟩) (fun k=>n - k.1) ⟨0,Nat.zero_le _,by intro j hj;omega⟩ ?_ (fun k=>?_)
  ·
   (apply Le.headG [] [mi1 ⟨1,[]⟩ (TR (tabF n n s))] (fun _=>False))
   (case' hlen=>rfl)
   (case' hms=>rfl)
   all_goals (try dsimp only[srcs])
   (case' hfr|hob=>(repeat' (first|refine La ?_ ?_|exact Lc|refine Lo ?_|refine ⟨⟨_,rfl,?_⟩,?_⟩|refine Lx ?_)))
   (case' hok=>first|exact ⟨MI.ok_same rfl (Cg),trivial⟩|exact trivial)
   (case' hN=>rfl)
   (case' hS=>rfl)
   all_goals (first|exact Ld|(rfl))
  obtain ⟨i,hi,hdi⟩:=k
  simp only
  by_cases hlt2:i<n
  ·
   have hrk:=TRF_get (n:=n) (f:=s) hlt2
   have hrkl:(IR (rowF n (s i))).length=n:=by rw[IR_len,rowF_len]
   have hck:=IRF_get (g:=s i) hlt2
   by_cases hpos:0<s i i
   ·
    repeat' (first|((first|apply Ba|(apply Bb;(· rfl);(· rfl))|(apply Bc;(· exact nxE))|(apply Bd;(· rfl);(· rfl);(· exact nxE)));(· first|exact Ok.ldTn rfl rfl rfl hrk hrkl|exact Ok.ld1 rfl rfl (congrArg (Option.map (dobj 1)) hrk) hck|exact Ok.pe))|((first|apply Ca|(apply Cb;(· exact nxE)));(· first|exact Ok.e0))|refine Sx ?_|(refine Sy (fun h=>?_) (fun h=>?_)<;>try (exfalso;omega;done))|refine Sz (fun h=>?_) (fun h=>?_))
    refine Yb ?_
    (apply Le.headZ (hs:=[]) [] rfl)
    all_goals (try dsimp only[srcs])
    (case' hfr=>(repeat' (first|refine La ?_ ?_|exact Lc|refine Lo ?_|refine ⟨⟨_,rfl,?_⟩,?_⟩|refine Lx ?_)))
    all_goals (first|exact Ld|exact trivial|(rfl))
   have hdn:∀ j,j<i+1→s j j≤0:=fun j hj=>by
    by_cases e:j=i
    ·subst e;omega
    ·exact hdi j (by omega)
   repeat' (first|((first|apply Ba|(apply Bb;(· rfl);(· rfl))|(apply Bc;(· exact nxE))|(apply Bd;(· rfl);(· rfl);(· exact nxE)));(· first|exact Ok.ldTn rfl rfl rfl hrk hrkl|exact Ok.ld1 rfl rfl (congrArg (Option.map (dobj 1)) hrk) hck|exact Ok.pe))|((first|apply Ca|(apply Cb;(· exact nxE)));(· first|exact Ok.e0))|refine Sx ?_|(refine Sy (fun h=>?_) (fun h=>?_)<;>try (exfalso;omega;done))|refine Sz (fun h=>?_) (fun h=>?_))
   refine ⟨⟨i+1,by omega,hdn⟩,?_,by simp only;omega⟩
   (apply Le.headG [] [mi1 ⟨1,[]⟩ (TR (tabF n n s))] (fun _=>False))
   (case' hlen=>rfl)
   (case' hms=>rfl)
   all_goals (try dsimp only[srcs])
   (case' hfr|hob=>(repeat' (first|refine La ?_ ?_|exact Lc|refine Lo ?_|refine ⟨⟨_,rfl,?_⟩,?_⟩|refine Lx ?_)))
   (case' hok=>first|exact ⟨MI.ok_same rfl (Cg),trivial⟩|exact trivial)
   (case' hN=>rfl)
   (case' hS=>rfl)
   all_goals (first|exact Ld|(rfl))
  ·
   obtain rfl:n=i:=by omega
   exact absurd hdi hno
end
section
theorem wk_walk {n:Nat}{xs:List Pl}{r:Int × Int}{t:List (List Int)} (h:WmOk n xs r t) (hv:∀ p∈xs,okPl n p):∀ {c:List Nat}{u v:Nat},c≠[]→Wk xs (u:Int) c (v:Int)→∃ d,(∀ x∈d,x<n)∧WM (entN t) u d v∧wgt xs r.1 r.2 c≤wM (entN t) u d v
 | [],u,v,hc,_=>absurd rfl hc
 | [i],u,v,_,hw=>by
  obtain ⟨hi,hf,ht⟩:=hw
  simp only[Wk] at ht
  have e:plA xs i=xs[i]:=by simp[plA,hi]
  have hp:=h.all (plA xs i) (by rw[e];exact List.getElem_mem hi)
  have e1:(plA xs i).t.toNat=v:=by omega
  have e2:(plA xs i).f.toNat=u:=by omega
  rw[e1,e2] at hp
  exact ⟨[],(fun x hx=>by cases hx),hp.1,by simp only[wgt,wM];omega⟩
 | i :: j :: c,u,v,_,hw=>by
  obtain ⟨hi,hf,hw⟩:=hw
  have e:plA xs i=xs[i]:=by simp[plA,hi]
  have hm0:plA xs i∈xs:=by rw[e];exact List.getElem_mem hi
  have hp:=h.all (plA xs i) hm0
  obtain ⟨_,⟨g3,g4⟩,_⟩:=hv _ hm0
  obtain ⟨m,hm⟩:∃ m:Nat,(plA xs i).t=m:=⟨(plA xs i).t.toNat,by omega⟩
  rw[hm] at hw
  obtain ⟨d,g5,g6,g7⟩:=wk_walk h hv (u:=m) (v:=v) (by simp) hw
  have e1:(plA xs i).t.toNat=m:=by omega
  have e2:(plA xs i).f.toNat=u:=by omega
  rw[e1,e2] at hp
  refine ⟨m :: d,fun x hx=>?_,⟨hp.1,g6⟩,?_⟩
  ·rcases List.mem_cons.1 hx with rfl|hx
   ·omega
   ·exact g5 x hx
  ·simp only[wgt,wM] at g7 ⊢
   omega
theorem wm_pos_iff {n:Nat}{xs:List Pl}{r:Int × Int}{t:List (List Int)} (h:WmOk n xs r t) (hv:∀ p∈xs,okPl n p):NoPos (entN t) n↔∀ c,Circ xs c→wgt xs r.1 r.2 c≤0:=by
 constructor
 ·intro hn c hc
  cases c with
  | nil=>simp[wgt]
  | cons i c=>
   have hw:=hc.wk
   obtain ⟨hi,hf,_⟩:=id hw
   have e:plA xs i=xs[i]:=by simp[plA,hi]
   have hm0:plA xs i∈xs:=by rw[e];exact List.getElem_mem hi
   obtain ⟨⟨g3,g4⟩,_⟩:=hv _ hm0
   rw[hf] at g3 g4
   obtain ⟨u,hu⟩:∃ u:Nat,firstF xs (i :: c)=u:=⟨(firstF xs (i :: c)).toNat,by omega⟩
   rw[hu] at hw g4
   obtain ⟨d,g5,g6,g7⟩:=wk_walk h hv (by simp) hw
   have:=hn u d (by omega) g5 g6
   omega
 ·intro hle u c hu hc hw
  obtain ⟨d,h1,h2,h3⟩:=wm_walk h hu hu hc hw
  rw[← h3]
  apply Classical.byContradiction
  intro hn
  obtain ⟨c',h4,h5⟩:=circ_of_walk1 (rn:=r.1) (rd:=r.2) d.length d u (Nat.le_refl _) h2 h1 (by omega)
  have:=hle c' h4
  omega
theorem MaxR.below {xs:List Pl}{s r:Int × Int} (ht:∀ c,Circ xs c→0<sumT xs c) (h1:MaxR xs s) (hr:0<r.2):(∀ c,Circ xs c→wgt xs r.1 r.2 c≤0)↔s.1*r.2≤r.1*s.2:=by
 constructor
 ·intro hle2
  obtain ⟨c,hc,e⟩:=h1.eq
  have hk:=ht c hc
  have hle:=hle2 c hc
  rw[wgt_sums] at e hle
  have e1:s.2*sumD xs c=s.1*sumT xs c:=by omega
  have h3:r.2*sumD xs c≤r.1*sumT xs c:=by omega
  have h4:=Int.mul_le_mul_of_nonneg_left h3 (Int.le_of_lt h1.pos)
  have h5:s.2*(r.2*sumD xs c)=r.2*(s.1*sumT xs c):=by rw[← e1];rw[← Int.mul_assoc,← Int.mul_assoc,Int.mul_comm s.2 r.2]
  rw[h5] at h4
  have h6:(s.1*r.2)*sumT xs c≤(r.1*s.2)*sumT xs c:=by
   rw[show s.1*r.2*sumT xs c=r.2*(s.1*sumT xs c) by rw[Int.mul_comm s.1 r.2,Int.mul_assoc],show r.1*s.2*sumT xs c=s.2*(r.1*sumT xs c) by rw[Int.mul_comm r.1 s.2,Int.mul_assoc]]
   exact h4
  exact Int.le_of_mul_le_mul_right h6 hk
 ·intro hle c hc
  have hk:=ht c hc
  have h2:=h1.le c hc
  rw[wgt_sums] at h2 ⊢
  have h3:s.2*sumD xs c≤s.1*sumT xs c:=by omega
  have h4:=Int.mul_le_mul_of_nonneg_left h3 (Int.le_of_lt hr)
  have h5:=Int.mul_le_mul_of_nonneg_right hle (Int.le_of_lt hk)
  have h6:s.2*(r.2*sumD xs c)≤s.2*(r.1*sumT xs c):=by
   rw[show s.2*(r.2*sumD xs c)=r.2*(s.2*sumD xs c) by rw[← Int.mul_assoc,← Int.mul_assoc,Int.mul_comm s.2 r.2],show s.2*(r.1*sumT xs c)=r.1*s.2*sumT xs c by rw[← Int.mul_assoc,Int.mul_comm s.2 r.1]]
   have h7:r.2*(s.1*sumT xs c)=s.1*r.2*sumT xs c:=by rw[← Int.mul_assoc,Int.mul_comm r.2 s.1]
   omega
  have:=Int.le_of_mul_le_mul_left h6 h1.pos
  omega
end
end Go.Proofs.YtkpoclbnnpglfaaGreat
