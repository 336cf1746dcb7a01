/-
  Walks in the abstract reading, part 8.
-/
import Derived.Test.YtkpoclbnnpglfaaGreatKqU7
import Derived.Test.YtkpoclbnnpglfaaGreatKqU6
set_option linter.unusedSimpArgs false
set_option linter.unusedVariables false
namespace Go.Proofs.YtkpoclbnnpglfaaGreat
section
open Go Go.RowKit
structure MatOk (t:List (List Int)) (n:Nat):Prop where
 sq:Sq t n
 pos:1≤n
 le:n≤10
 b:∀ u v,entN t v u≠BOT→-1000000≤entN t v u∧entN t v u≤1000000
def hasK (W:Nat→Nat→Int) (n:Nat):Prop:=∃ u l,u<n∧(∀ x∈l,x<n)∧l≠[]∧kP W u l∧kE u l=u
theorem mulB {q w Q M:Int} (h1:0≤q) (h2:q≤Q) (h3 : -M≤w) (h4:w≤M) (hM:0≤M) : -(Q*M)≤q*w∧q*w≤Q*M:=by
 have a1:=Int.mul_le_mul_of_nonneg_left h4 h1
 have a2:=Int.mul_le_mul_of_nonneg_left h3 h1
 have a3:=Int.mul_le_mul_of_nonneg_right h2 hM
 rw[Int.mul_neg] at a2
 omega
theorem redR_bnd {d m B:Int} (hm:0<m) (hB : -B≤d∧d≤B):(-B≤(redR d m).1∧(redR d m).1≤B)∧(0<(redR d m).2∧(redR d m).2≤m):=by
 obtain ⟨h1,h2,h3,h4,h5⟩:=redR_ok (d:=d) hm
 generalize (Int.gcd d m:Int)=g at *
 generalize redR d m=s at *
 have k1:s.2≤g*s.2:=by
  have:=Int.mul_le_mul_of_nonneg_right (show (1:Int)≤g by omega) (show 0≤s.2 by omega)
  omega
 refine ⟨?_,h1,by omega⟩
 by_cases hp:0≤s.1
 ·have:=Int.mul_le_mul_of_nonneg_right (show (1:Int)≤g by omega) hp
  omega
 ·have:=Int.mul_le_mul_of_nonneg_right (show (1:Int)≤g by omega) (show 0≤-s.1 by omega)
  rw[Int.mul_neg,Int.mul_neg] at this
  omega
theorem kMean_le {W:Nat→Nat→Int}{n:Nat}{p q p' q':Int} (h:KMean W n p q) (h':KMean W n p' q'):q'*p≤q*p':=by
 obtain ⟨u,l,u1,u2,u3,u4,u5,u6⟩:=h.eq
 have h2:=h'.le u l u1 u2 u4 u5
 unfold kV at u6 h2
 have hl:(0:Int)<l.length:=by have:=List.length_pos_iff.2 u3;omega
 generalize kW W u l=w at *
 generalize (l.length:Int)=m at *
 have a1:q*(q'*w)≤q*(p'*m):=Int.mul_le_mul_of_nonneg_left (by omega) (by have:=h.pos;omega)
 have a2:q*(q'*w)=(q'*p)*m:=by
  rw[Int.mul_left_comm,show q*w=p*m by omega,Int.mul_assoc]
 rw[a2,← Int.mul_assoc] at a1
 exact Int.le_of_mul_le_mul_right a1 hl
theorem kMean_uniq {W:Nat→Nat→Int}{n:Nat}{p q p' q':Int} (h:KMean W n p q) (h':KMean W n p' q') (hg:Int.gcd p q=1) (hg':Int.gcd p' q'=1):(p,q)=(p',q'):=by
 have h1:=kMean_le h h'
 have h2:=kMean_le h' h
 obtain ⟨e1,e2⟩:=frac_eq h.pos h'.pos hg hg' (show p*q'=p'*q by rw[Int.mul_comm p q',Int.mul_comm p' q];omega)
 rw[e1,e2]
noncomputable def kmR (W:Nat→Nat→Int) (n:Nat):Int × Int:=open Classical in if h:∃ r:Int × Int,KMean W n r.1 r.2∧Int.gcd r.1 r.2=1 then h.choose else (0,1)
theorem kmR_eq {W:Nat→Nat→Int}{n:Nat}{p q:Int} (h:KMean W n p q) (hg:Int.gcd p q=1):kmR W n=(p,q):=by
 have he:∃ r:Int × Int,KMean W n r.1 r.2∧Int.gcd r.1 r.2=1:=⟨(p,q),h,hg⟩
 unfold kmR
 rw[dif_pos he]
 obtain ⟨h1,h2⟩:=Classical.choose_spec he
 exact kMean_uniq h1 h h2 hg
def cyS (W:Nat→Nat→Int) (f:Nat) (r:List Nat):Int:=kW W f r+W f (kE f r)
def mR (W:Nat→Nat→Int) (f:Nat) (r:List Nat):Int × Int:=redR (cyS W f r) ((r.length:Int)+1)
section
variable {W : Nat → Nat → Int} {n : Nat} (hW : ∀ u v, W v u ≠ BOT → -1000000 ≤ W v u ∧ W v u ≤ 1000000) (hn : n ≤ 10)
include hW hn
theorem cyS_bnd {over:Int}{f:Nat}{r:List Nat} (h:CyW W n over f r) : -10000000≤cyS W f r∧cyS W f r≤10000000:=by
 have h1:=h.len
 have h2:=kW_bnd (M:=1000000) hW h.path
 have h3:=hW _ _ h.close
 unfold cyS
 omega
theorem mR_ok {over:Int}{f:Nat}{r:List Nat} (h:CyW W n over f r):(-10000000≤(mR W f r).1∧(mR W f r).1≤10000000)∧(0<(mR W f r).2∧(mR W f r).2≤10)∧Int.gcd (mR W f r).1 (mR W f r).2=1∧(mR W f r).2*cyS W f r - (mR W f r).1*((r.length:Int)+1)=0:=by
 have h1:=h.len
 obtain ⟨a1,a2,a3⟩:=redR_bnd (m:=(r.length:Int)+1) (by omega) (cyS_bnd hW hn h)
 obtain ⟨_,b2,_⟩:=redR_ok (d:=cyS W f r) (m:=(r.length:Int)+1) (by omega)
 have b3:=redR_eq1 (d:=cyS W f r) (m:=(r.length:Int)+1) (by omega)
 unfold mR
 refine ⟨a1,⟨a2,by omega⟩,b2,?_⟩
 rw[b3,Int.mul_comm];omega
omit hn in
theorem sh_ne {p q:Int} (hp : -10000000≤p∧p≤10000000) (hq:0<q∧q≤10):∀ u v,W v u≠BOT→q*W v u - p≠BOT:=fun u v h=>by
 have h1:=hW u v h
 have:=mulB (q:=q) (w:=W v u) (Q:=10) (M:=1000000) (by omega) hq.2 h1.1 h1.2 (by decide)
 unfold BOT;omega
omit hn in
theorem sh_bnd {p q:Int} (hp : -10000000≤p∧p≤10000000) (hq:0<q∧q≤10) (u v:Nat) (h:shF W p q v u≠BOT) : -20000000≤shF W p q v u∧shF W p q v u≤20000000:=by
 have h0:=(shF_ne (sh_ne hW hp hq)).1 h
 have h1:=hW u v h0
 have:=mulB (q:=q) (w:=W v u) (Q:=10) (M:=1000000) (by omega) hq.2 h1.1 h1.2 (by decide)
 unfold shF
 rw[if_neg h0]
 omega
theorem first_has:overF W n BOT≠[]↔hasK W n:=by
 constructor
 ·intro h
  obtain ⟨f,r,_,hc⟩:=overF_w h
  exact ⟨f,r++[f],hc.lt,fun x hx=>by
   rcases List.mem_append.1 hx with hx|hx
   ·exact (hc.gt x hx).2
   ·simp at hx;subst hx;exact hc.lt,by simp,(kP_app r [f] f).2 ⟨hc.path,hc.close,trivial⟩,by rw[kE_app];rfl⟩
 ·rintro ⟨u,l,h1,h2,h3,h4,h5⟩
  have hs:∀ u v,W v u≠BOT→(1:Int)*W v u - (-1000001)≠BOT:=fun u v h=>by
   have:=hW u v h;unfold BOT;omega
  have hw:=shF_w (p:=-1000001) (q:=1) h4
  have hb:=kW_bnd (M:=1000000) hW h4
  have hl:=List.length_pos_iff.2 h3
  obtain ⟨f,r,hc⟩:=cyw_of (a:=shF W (-1000001) 1) (n:=n) (over:=0) (.inl rfl) l.length u l (Nat.le_refl _) h1 h2 h3 ((shF_p hs).2 h4) h5 (by rw[hw];unfold kV;omega)
  have hp:=(shF_p hs).1 hc.path
  have hcl:=(shF_ne hs).1 hc.close
  have h6:=kW_bnd (M:=1000000) hW hp
  have h7:=hW _ _ hcl
  have h8:=hc.len
  exact overF_f (over:=BOT) ⟨hc.lt,hc.gt,hc.nd,hp,hcl,by unfold BOT;omega⟩
theorem step_done {f:Nat}{r:List Nat} (h:CyW W n BOT f r) (h0:overF (shF W (mR W f r).1 (mR W f r).2) n 0=[]):KMean W n (mR W f r).1 (mR W f r).2:=by
 obtain ⟨a1,a2,_,a4⟩:=mR_ok hW hn h
 exact mean_of (sh_ne hW a1 a2) a2.1 h0 h.lt (fun x hx=>(h.gt x hx).2) h.path h.close a4
theorem step_next {f:Nat}{r:List Nat} (h:CyW W n BOT f r) (h0:overF (shF W (mR W f r).1 (mR W f r).2) n 0≠[]):∃ f' r',overF (shF W (mR W f r).1 (mR W f r).2) n 0=f' :: r'∧CyW W n BOT f' r'∧rank 1000 (mR W f r)<rank 1000 (mR W f' r'):=by
 obtain ⟨a1,a2,_,_⟩:=mR_ok hW hn h
 obtain ⟨f',r',e,hc⟩:=overF_w h0
 have hs:=sh_ne hW a1 a2
 have hp:=(shF_p hs).1 hc.path
 have hcl:=(shF_ne hs).1 hc.close
 have h6:=kW_bnd (M:=1000000) hW hp
 have h7:=hW _ _ hcl
 have h8:=hc.len
 have hc':CyW W n BOT f' r':=⟨hc.lt,hc.gt,hc.nd,hp,hcl,by unfold BOT;omega⟩
 refine ⟨f',r',e,hc',?_⟩
 obtain ⟨b1,b2,_,b4⟩:=mR_ok hW hn hc'
 have hm:=hc.more
 rw[shF_w hp] at hm
 generalize mR W f r=x at *
 have hm2:0<x.2*cyS W f' r' - x.1*((r'.length:Int)+1):=by
  unfold kV shF at hm
  rw[if_neg hcl] at hm
  unfold cyS
  rw[Int.mul_add,Int.mul_add]
  omega
 generalize hy:mR W f' r'=y at *
 generalize cyS W f' r'=w at *
 have hm':(0:Int)<(r'.length:Int)+1:=by omega
 generalize (r'.length:Int)+1=m at *
 refine rank_lt a2.1 b2.1 (by omega) (by omega) ?_
 apply Classical.byContradiction
 intro hno
 have e1:(x.2*y.1 - x.1*y.2)*m=(x.2*w - x.1*m)*y.2:=by
  rw[Int.sub_mul,Int.sub_mul,Int.mul_assoc,show y.1*m=y.2*w by omega,Int.mul_comm y.2 w,Int.mul_assoc,Int.mul_assoc,Int.mul_assoc,Int.mul_comm y.2 m]
 have e2:=Int.mul_pos hm2 b2.1
 have e3:=Int.mul_nonpos_of_nonpos_of_nonneg (show x.2*y.1 - x.1*y.2≤0 by omega) (show 0≤m by omega)
 omega
theorem rank_top {f:Nat}{r:List Nat} (h:CyW W n BOT f r):rank 1000 (mR W f r)≤10000000*1000000:=by
 obtain ⟨a1,a2,_,_⟩:=mR_ok hW hn h
 unfold rank
 by_cases hp:0≤(mR W f r).1
 ·refine Int.le_trans (Int.ediv_le_self _ (Int.mul_nonneg hp (by omega))) ?_
  omega
 ·have:=Int.ediv_neg_of_neg_of_pos (a:=(mR W f r).1*(1000*1000)) (by omega) a2.1
  omega
theorem kmean_ex:∀ (m:Nat) (f:Nat) (r:List Nat),CyW W n BOT f r→(100000000000000 - rank 1000 (mR W f r)).toNat≤m→∃ f r,CyW W n BOT f r∧KMean W n (mR W f r).1 (mR W f r).2:=by
 intro m
 induction m with
 | zero=>
  intro f r h hm
  have:=rank_top hW hn h
  omega
 | succ m ih=>
  intro f r h hm
  by_cases h0:overF (shF W (mR W f r).1 (mR W f r).2) n 0=[]
  ·exact ⟨f,r,h,step_done hW hn h h0⟩
  ·obtain ⟨f',r',_,h2,h3⟩:=step_next hW hn h h0
   have:=rank_top hW hn h2
   exact ih f' r' h2 (by omega)
theorem kmR_ok (hc:hasK W n):KMean W n (kmR W n).1 (kmR W n).2∧Int.gcd (kmR W n).1 (kmR W n).2=1∧(-10000000≤(kmR W n).1∧(kmR W n).1≤10000000)∧(0<(kmR W n).2∧(kmR W n).2≤10):=by
 obtain ⟨f,r,_,h1⟩:=overF_w ((first_has hW hn).2 hc)
 obtain ⟨f,r,h2,h3⟩:=kmean_ex hW hn _ f r h1 (Nat.le_refl _)
 obtain ⟨a1,a2,a3,_⟩:=mR_ok hW hn h2
 rw[kmR_eq h3 a3]
 exact ⟨h3,a3,a1,a2⟩
theorem step_eq {f:Nat}{r:List Nat} (h:CyW W n BOT f r) (h0:overF (shF W (mR W f r).1 (mR W f r).2) n 0=[]):kmR W n=mR W f r:=kmR_eq (step_done hW hn h h0) (mR_ok hW hn h).2.2.1
theorem best_ne (hc:hasK W n):∃ f r,overF (shF W (kmR W n).1 (kmR W n).2) n (-1)=f :: r∧CyW W n BOT f r∧mR W f r=kmR W n:=by
 obtain ⟨h1,h2,h3,h4⟩:=kmR_ok hW hn hc
 have hs:=sh_ne hW h3 h4
 obtain ⟨u,l,u1,u2,u3,u4,u5,u6⟩:=h1.eq
 obtain ⟨f,r,hcy⟩:=cyw_of (a:=shF W (kmR W n).1 (kmR W n).2) (n:=n) (over:=-1) (.inr rfl) l.length u l (Nat.le_refl _) u1 u2 u3 ((shF_p hs).2 u4) u5 (by rw[shF_w u4,u6];decide)
 obtain ⟨f,r,e,hc⟩:=overF_w (overF_f hcy)
 have hp:=(shF_p hs).1 hc.path
 have hcl:=(shF_ne hs).1 hc.close
 have h6:=kW_bnd (M:=1000000) hW hp
 have h7:=hW _ _ hcl
 have h8:=hc.len
 have hc':CyW W n BOT f r:=⟨hc.lt,hc.gt,hc.nd,hp,hcl,by unfold BOT;omega⟩
 refine ⟨f,r,e,hc',?_⟩
 have hm:=hc.more
 rw[shF_w hp] at hm
 obtain ⟨b1,b2,b3,b4⟩:=mR_ok hW hn hc'
 have hle:=h1.le f (r++[f]) hc.lt (fun x hx=>by
  rcases List.mem_append.1 hx with hx|hx
  ·exact (hc.gt x hx).2
  ·simp at hx;subst hx;exact hc.lt) ((kP_app r [f] f).2 ⟨hp,hcl,trivial⟩) (by rw[kE_app];rfl)
 generalize kmR W n=x at *
 have hm0:x.2*cyS W f r - x.1*((r.length:Int)+1)=0:=by
  unfold kV at hle
  rw[kW_app] at hle
  simp only[kW,Int.add_zero,List.length_append,List.length_cons,List.length_nil] at hle
  unfold kV shF at hm
  rw[if_neg hcl] at hm
  unfold cyS
  rw[Int.mul_add] at hle ⊢
  rw[Int.mul_add]
  rw[show ((r.length+(0+1):Nat):Int)=(r.length:Int)+1 by omega,Int.mul_add] at hle
  omega
 generalize hy:mR W f r=y at *
 generalize cyS W f r=w at *
 have hm':(0:Int)<(r.length:Int)+1:=by omega
 generalize (r.length:Int)+1=m at *
 obtain ⟨e1,e2⟩:=frac_eq (a:=y.1) (b:=y.2) (c:=x.1) (d:=x.2) b2.1 h4.1 b3 h2 (by
  have e1:(y.1*x.2)*m=(x.1*y.2)*m:=by
   rw[Int.mul_right_comm,show y.1*m=y.2*w by omega,Int.mul_right_comm x.1,show x.1*m=x.2*w by omega,Int.mul_comm y.2,Int.mul_comm x.2 w,Int.mul_assoc,Int.mul_assoc,Int.mul_comm y.2]
  exact Int.eq_of_mul_eq_mul_right (by omega) e1)
 exact Prod.ext e1 e2
theorem noPosK (hc:hasK W n):NoPos (shF W (kmR W n).1 (kmR W n).2) n:=fun u c hu hcl hw=>by
 obtain ⟨h1,h2,h3,h4⟩:=kmR_ok hW hn hc
 have hs:=sh_ne hW h3 h4
 have key:∀ (c:List Nat) (u v:Nat) (W:Nat→Nat→Int),WM W u c v↔kP W u (c++[v]):=by
  intro c
  induction c with
  | nil=>intro u v W;simp[WM,kP]
  | cons m c ih=>intro u v W;simp only[WM,List.cons_append,kP];rw[ih]
 have keyw:∀ (c:List Nat) (u v:Nat) (W:Nat→Nat→Int),wM W u c v=kW W u (c++[v]):=by
  intro c
  induction c with
  | nil=>intro u v W;simp[wM,kW]
  | cons m c ih=>intro u v W;simp only[wM,List.cons_append,kW];rw[ih]
 rw[keyw]
 have hp:=(shF_p hs).1 ((key c u u _).1 hw)
 rw[shF_w hp]
 exact h1.le u _ hu (fun x hx=>by
  rcases List.mem_append.1 hx with hx|hx
  ·exact hcl x hx
  ·simp at hx;omega) hp (by rw[kE_app];rfl)
theorem karp_yes (h0:0<n) (hc:hasK W n):bsV (kD W n) n n=some (kmR W n):=by
 obtain ⟨h1,h2,h3,h4⟩:=kmR_ok hW hn hc
 have hM:(0:Int)≤1000000:=by decide
 have:=bsV_ok (D:=kD W n) (n:=n) h0 (fun v=>by simp[kD,BOT]) (p:=(kmR W n).1) (q:=(kmR W n).2) h4.1 h2
  (fun v hv hd=>karp_le hM hW (by omega) h1 hv hd) (karp_ge hM hW (by omega) h1)
 exact this
theorem karp_no (hc:¬ hasK W n):bsV (kD W n) n n=none:=by
 have hM:(0:Int)≤1000000:=by decide
 exact bsV_none (fun v hv=>kD_none hM hW (by omega) (fun u l h1 h2 h3 h4 h5=>hc ⟨u,l,h1,h2,h3,h4,h5⟩) v hv) n (Nat.le_refl n)
end
theorem growF_congr {a b:Nat→Nat→Int}{n:Nat}{over:Int} (h:∀ u v,u<n→v<n→a u v=b u v):∀ (m:Nat) (l:List Nat) (w:Int),l≠[]→(∀ v∈l,v<n)→growF a n over m l w=growF b n over m l w
 | 0,_,_,_,_=>rfl
 | m+1,l,w,h0,hl=>by
  have hls:lsN l<n:=hl _ (lsN_mem h0)
  have hhd:hdN l<n:=hl _ (hdN_mem h0)
  simp only[growF]
  rw[h _ _ hhd hls]
  have e:tryAll (fun v=>if a v (lsN l)=BOT∨v∈l then [] else growF a n over m (l++[v]) (w+a v (lsN l))) (List.range' (hdN l+1) (n - (hdN l+1)))=tryAll (fun v=>if b v (lsN l)=BOT∨v∈l then [] else growF b n over m (l++[v]) (w+b v (lsN l))) (List.range' (hdN l+1) (n - (hdN l+1))):=by
   refine tryAll_congr fun v hv=>?_
   have hvn:v<n:=by rw[List.mem_range'_1] at hv;omega
   rw[h v _ hvn hls]
   by_cases hc:b v (lsN l)=BOT∨v∈l
   ·rw[if_pos hc,if_pos hc]
   ·rw[if_neg hc,if_neg hc]
    exact growF_congr h m _ _ (by simp) (fun x hx=>by
     rcases List.mem_append.1 hx with hx|hx
     ·exact hl x hx
     ·simp at hx;omega)
  rw[e]
theorem overF_congr {a b:Nat→Nat→Int}{n:Nat}{over:Int} (h:∀ u v,u<n→v<n→a u v=b u v):overF a n over=overF b n over:=
 tryAll_congr fun v hv=>growF_congr h n [v] 0 (by simp) (fun x hx=>by simp at hx;rw[List.mem_range'_1] at hv;omega)
end
section
open Go Go.RowKit
attribute [local irreducible] AL AD AW OpOk Le AC thenQ blockQ EndQ
def badM (n:Int) (r:List Int):Bool:=!(decide ((r.length:Int)=n)) || !(r.all isVal)
def colN (t:List (List Int)):Nat:=(t.headD []).length
def isMat (t:List (List Int)):Bool:=decide (1≤t.length∧t.length≤10∧1≤colN t∧colN t≤10)&&!(t.any (badM (colN t)))
def isSq (t:List (List Int)):Bool:=isMat t&&decide ((t.length:Int)=colN t)
theorem isVal_iff [Mode] {a:Int}:isVal a=true↔a=BOT∨(-1000000≤a∧a≤1000000):=by
 unfold isVal
 rw[Bool.or_eq_true,decide_eq_true_eq,wi_iff]
theorem isSq_ok [Mode] {t:List (List Int)} (h:isSq t=true):MatOk t t.length:=by
 unfold isSq isMat at h
 rw[Bool.and_eq_true,Bool.and_eq_true,decide_eq_true_eq,decide_eq_true_eq,Bool.not_eq_true',List.any_eq_false] at h
 obtain ⟨⟨⟨h1,h2,h3,h4⟩,h5⟩,h6⟩:=h
 have hrow:∀ r∈t,r.length=t.length∧∀ x∈r,isVal x=true:=fun r hr=>by
  have:=h5 r hr
  unfold badM at this
  simp only[Bool.not_eq_true,Bool.or_eq_false_iff,Bool.not_eq_false',decide_eq_true_eq,List.all_eq_true] at this
  exact ⟨by omega,this.2⟩
 refine ⟨⟨rfl,fun r hr=>(hrow r hr).1⟩,h1,h2,fun u v hne=>?_⟩
 unfold entN at hne ⊢
 by_cases hv:v<t.length
 ·rw[List.getElem?_eq_getElem hv,Option.getD_some] at hne ⊢
  by_cases hu:u<t[v].length
  ·rw[List.getElem?_eq_getElem hu,Option.getD_some] at hne ⊢
   have:=isVal_iff.1 ((hrow _ (List.getElem_mem hv)).2 _ (List.getElem_mem hu))
   exact this.resolve_left hne
  ·rw[show t[v][u]? = none from List.getElem?_eq_none (by omega)];simp
 ·rw[show t[v]? = none from List.getElem?_eq_none (by omega)];simp
abbrev hs1 (x:D):HL:=[(⟨0,[]⟩,⟨0,[]⟩,⟨1,[[.d x]]⟩)]
theorem hs1_ok [Mode] {x:D}:HOk (hs1 x):=by
 intro p hp r hr c hc
 simp at hp;subst hp;simp at hr;subst hr;simp at hc;subst hc;exact .d _
theorem isMatFn_ac [Mode] (t:List (List Int)) (r0 r:List Int) (h0:t[0]? = some r0) (hr:r.length≤100000000):AC Tryz.prog 164 [IL r,Bx 1 0] (heapL (hs1 (TD t))) (Bo (badM r0.length r)) (heapL (hs1 (TD t))):=by
 have hRr:(mRows 1 (TR t))[(0:Int).toNat]? = some [.sl 1 (IR r0)]:=TR_get h0
 have hA:=areValues_ac r hr
 refine AC.of_body 1 Tryz.func164 rfl (fun l h=>by simp[heapL,upd] at h;simp[h]) (fun C hC=>?_)
 simp only[startFr,Tryz.ntmps164,List.length_cons,List.length_nil,Nat.reduceAdd,Nat.reduceSub,List.replicate_succ,List.replicate_zero,List.cons_append,List.nil_append]
 have hD:∀ l,C.D0 l→l=⟨0,[]⟩:=fun l h=>by have:=(hC l).1 h;simp[heapL,upd] at this;exact this
 repeat' (first|((first|apply Ba|(apply Bb;(· rfl);(· rfl))|(apply Bc;(· exact nxE))|(apply Bd;(· rfl);(· rfl);(· exact nxE)));(· first|exact Kz rfl rfl (hA) (Ad An)|exact Ok.pe))|((first|apply Ca|(apply Cb;(· exact nxE)));(· first|exact Ok.e0))|refine Sx ?_|(refine Sy (fun h=>?_) (fun h=>?_)<;>try (exfalso;omega;done))|refine Sz (fun h=>?_) (fun h=>?_))
 all_goals
  (refine end1p (by first|exact .inl rfl|exact .inr rfl) rfl (by first|exact rT rfl|exact rCA rfl rfl rfl rfl (by simp)|exact rCC rfl rfl rfl rfl rfl) ?_ (Le.head ([(⟨0,[]⟩,⟨0,[]⟩,⟨1,[[TL t]]⟩)]) (by first|exact fun l h=>absurd h (hD l)|(intro l h;rcases hD l h with rfl;simp[tauL])|(intro l h;rcases hD l h with rfl|rfl<;>simp[tauL];done)|(intro l h;rcases hD l h with rfl|rfl|rfl<;>simp[tauL])) ?_ ?_ (by simp) (by simp) (by simp[AllP]) (n':=1000));(· (unfold badM;simp_all;done)))<;>(repeat' (first|exact trivial|exact ARs.nil|refine ARs.cons ?_ ?_|exact AR.dead _|exact AR.dd _|exact AR.i (by (try dsimp only);omega)|exact AR.ptr _ _ _ _ (by simp[heapL,upd])|exact AR.own _ _ _ _ (by simp[heapL,upd])|refine AR.ownE _ _ _ ?_ (by simp[heapL,upd])|refine ⟨⟨_,rfl,?_⟩,?_⟩|exact ObA.data|refine ObA.box ?_|refine ObA.frE ?_|refine ObA.dataE ?_|refine ARs.agg ?_|refine ARs.tup ?_|exact AR.clo' ARs.nil ARs.nil|exact AR.clo' ARs.nil (hca _ _)))
set_option maxHeartbeats 1000000 in
theorem iIsMatrix_ac [Mode] (t:List (List Int)) (ht:t.length≤100000000) (hr:∀ r∈t,r.length≤100000000):AC Tryz.prog 127 [TL t] H0 (Bo (isMat t)) H0:=by
 by_cases g1:1≤t.length∧t.length≤10
 case neg=>
  have hW:=within_ac t.length 1 10
  rw[show wi (t.length:Int) 1 10=false by rw[Bool.eq_false_iff];intro h;rw[wi_iff] at h;omega] at hW
  have hI:isMat t=false:=by unfold isMat;rw[decide_eq_false (by omega)];rfl
  rw[hI]
  refine AC.of_body 0 Tryz.func127 rfl (fun l h=>absurd rfl h) (fun C hC=>?_)
  have hD:∀ l,¬ C.D0 l:=fun l h=>(hC l).1 h rfl
  simp only[startFr,Tryz.ntmps127,List.length_cons,List.length_nil,Nat.reduceAdd,Nat.reduceSub,List.replicate_succ,List.replicate_zero,List.cons_append,List.nil_append]
  repeat' (first|((first|apply Ba|(apply Bb;(· rfl);(· rfl))|(apply Bc;(· exact nxE))|(apply Bd;(· rfl);(· rfl);(· exact nxE)));(· first|exact Kz rfl rfl (hW) (Ad (Ad (Ad An)))|exact Ok.pe))|((first|apply Ca|(apply Cb;(· exact nxE)));(· first|exact Ok.e0))|refine Sx ?_|(refine Sy (fun h=>?_) (fun h=>?_)<;>try (exfalso;omega;done))|refine Sz (fun h=>?_) (fun h=>?_))
  refine Ya ?_
  (apply Le.headZ (hs:=[]) [] rfl)
  all_goals (try dsimp only[srcs])
  (case' hfr=>(repeat' (first|refine La ?_ ?_|exact Lc|refine Lo ?_|refine ⟨⟨_,rfl,?_⟩,?_⟩|refine Lx ?_)))
  all_goals (first|exact Ld|exact trivial|(rfl))
 obtain ⟨r0,h0⟩:∃ r0,t[0]? = some r0:=⟨t[0]'(by omega),List.getElem?_eq_getElem (by omega)⟩
 have hcol:colN t=r0.length:=by
  unfold colN
  cases t with
  | nil=>simp at h0
  | cons a q=>simp at h0;subst h0;rfl
 have hRr:(mRows 1 (TR t))[(0:Int).toNat]? = some [.sl 1 (IR r0)]:=TR_get h0
 have hW:=within_ac t.length 1 10
 rw[show wi (t.length:Int) 1 10=true from wi_iff.2 (by omega)] at hW
 have hV:=within_ac r0.length 1 10
 by_cases g2:1≤r0.length∧r0.length≤10
 case neg=>
  rw[show wi (r0.length:Int) 1 10=false by rw[Bool.eq_false_iff];intro h;rw[wi_iff] at h;omega] at hV
  have hI:isMat t=false:=by unfold isMat;rw[hcol,decide_eq_false (by omega)];rfl
  rw[hI]
  refine AC.of_body 0 Tryz.func127 rfl (fun l h=>absurd rfl h) (fun C hC=>?_)
  have hD:∀ l,¬ C.D0 l:=fun l h=>(hC l).1 h rfl
  simp only[startFr,Tryz.ntmps127,List.length_cons,List.length_nil,Nat.reduceAdd,Nat.reduceSub,List.replicate_succ,List.replicate_zero,List.cons_append,List.nil_append]
  repeat' (first|((first|apply Ba|(apply Bb;(· rfl);(· rfl))|(apply Bc;(· exact nxE))|(apply Bd;(· rfl);(· rfl);(· exact nxE)));(· first|exact Kz rfl rfl (hV) (Ad (Ad (Ad An)))|exact Kz rfl rfl (hW) (Ad (Ad (Ad An)))|exact Ok.pe))|((first|apply Ca|(apply Cb;(· exact nxE)));(· first|exact Ok.e0))|refine Sx ?_|(refine Sy (fun h=>?_) (fun h=>?_)<;>try (exfalso;omega;done))|refine Sz (fun h=>?_) (fun h=>?_))
  refine Ya ?_
  (apply Le.headZ (hs:=[]) [] rfl)
  all_goals (try dsimp only[srcs])
  (case' hfr=>(repeat' (first|refine La ?_ ?_|exact Lc|refine Lo ?_|refine ⟨⟨_,rfl,?_⟩,?_⟩|refine Lx ?_)))
  all_goals (first|exact Ld|exact trivial|(rfl))
 rw[show wi (r0.length:Int) 1 10=true from wi_iff.2 (by omega)] at hV
 have hc:=containsFuncT_ac t ht 164 [Bx 1 0] (hs1 (TD t)) (by simp) (by simp) hs1_ok
  (by intro c hc;simp at hc;subst hc;exact .ptr _ _ _ _ (by simp)) 1 (by simp) (badM r0.length) (fun r h=>isMatFn_ac t r0 r h0 (hr r h))
 have hI:isMat t = !(t.any (badM r0.length)):=by unfold isMat;rw[hcol,decide_eq_true (by omega),Bool.true_and]
 rw[hI]
 refine AC.of_body 0 Tryz.func127 rfl (fun l h=>absurd rfl h) (fun C hC=>?_)
 have hD:∀ l,¬ C.D0 l:=fun l h=>(hC l).1 h rfl
 simp only[startFr,Tryz.ntmps127,List.length_cons,List.length_nil,Nat.reduceAdd,Nat.reduceSub,List.replicate_succ,List.replicate_zero,List.cons_append,List.nil_append]
 repeat' (first|((first|apply Ba|(apply Bb;(· rfl);(· rfl))|(apply Bc;(· exact nxE))|(apply Bd;(· rfl);(· rfl);(· exact nxE)));(· first|exact Kz rfl rfl (hV) (Ad (Ad (Ad An)))|exact Kz rfl rfl (hW) (Ad (Ad (Ad An)))|exact OpOk.callS _ rfl rfl hc (by simp[heapL,upd,upds,W.app]) hs1_ok (.d _) (.cons (.dd _) (.cons (AR.clo' .nil (.cons (AR.ptr _ _ _ _ (by simp)) .nil)) .nil))|exact Ok.pe))|((first|apply Ca|(apply Cb;(· exact nxE)));(· first|exact Ok.e0))|refine Sx ?_|(refine Sy (fun h=>?_) (fun h=>?_)<;>try (exfalso;omega;done))|refine Sz (fun h=>?_) (fun h=>?_))
 refine Ya ?_
 (apply Le.headZ (hs:=[]) [] rfl)
 all_goals (try dsimp only[srcs])
 (case' hfr=>(repeat' (first|refine La ?_ ?_|exact Lc|refine Lo ?_|refine ⟨⟨_,rfl,?_⟩,?_⟩|refine Lx ?_)))
 all_goals (first|exact Ld|exact trivial|(rfl))
theorem isMat_row [Mode] {t:List (List Int)} (h:isMat t=true):∃ r0,t[0]? = some r0∧colN t=r0.length:=by
 cases t with
 | nil=>simp[isMat] at h
 | cons a q=>exact ⟨a,rfl,rfl⟩
theorem iIsSquare_ac [Mode] (t:List (List Int)) (ht:t.length≤100000000) (hr:∀ r∈t,r.length≤100000000):AC Tryz.prog 74 [TL t] H0 (Bo (isSq t)) H0:=by
 have hM:=iIsMatrix_ac t ht hr
 unfold isSq
 cases hm:isMat t
 ·rw[hm] at hM
  refine AC.of_body 0 Tryz.func74 rfl (fun l h=>absurd rfl h) (fun C hC=>?_)
  have hD:∀ l,¬ C.D0 l:=fun l h=>(hC l).1 h rfl
  simp only[startFr,Tryz.ntmps74,List.length_cons,List.length_nil,Nat.reduceAdd,Nat.reduceSub,List.replicate_succ,List.replicate_zero,List.cons_append,List.nil_append]
  repeat' (first|((first|apply Ba|(apply Bb;(· rfl);(· rfl))|(apply Bc;(· exact nxE))|(apply Bd;(· rfl);(· rfl);(· exact nxE)));(· first|exact Kz rfl rfl (hM) (Ad An)|exact Ok.pe))|((first|apply Ca|(apply Cb;(· exact nxE)));(· first|exact Ok.e0))|refine Sx ?_|(refine Sy (fun h=>?_) (fun h=>?_)<;>try (exfalso;omega;done))|refine Sz (fun h=>?_) (fun h=>?_))
  refine Ya ?_
  (apply Le.headZ (hs:=[]) [] rfl)
  all_goals (try dsimp only[srcs])
  (case' hfr=>(repeat' (first|refine La ?_ ?_|exact Lc|refine Lo ?_|refine ⟨⟨_,rfl,?_⟩,?_⟩|refine Lx ?_)))
  all_goals (first|exact Ld|exact trivial|(rfl))
 ·rw[hm] at hM
  obtain ⟨r0,h0,hcol⟩:=isMat_row hm
  have hRr:(mRows 1 (TR t))[(0:Int).toNat]? = some [.sl 1 (IR r0)]:=TR_get h0
  rw[hcol]
  refine AC.of_body 0 Tryz.func74 rfl (fun l h=>absurd rfl h) (fun C hC=>?_)
  have hD:∀ l,¬ C.D0 l:=fun l h=>(hC l).1 h rfl
  simp only[startFr,Tryz.ntmps74,List.length_cons,List.length_nil,Nat.reduceAdd,Nat.reduceSub,List.replicate_succ,List.replicate_zero,List.cons_append,List.nil_append]
  repeat' (first|((first|apply Ba|(apply Bb;(· rfl);(· rfl))|(apply Bc;(· exact nxE))|(apply Bd;(· rfl);(· rfl);(· exact nxE)));(· first|exact Kz rfl rfl (hM) (Ad An)|exact Ok.pe))|((first|apply Ca|(apply Cb;(· exact nxE)));(· first|exact Ok.e0))|refine Sx ?_|(refine Sy (fun h=>?_) (fun h=>?_)<;>try (exfalso;omega;done))|refine Sz (fun h=>?_) (fun h=>?_))
  all_goals
   refine Ya ?_
   (apply Le.headZ (hs:=[]) [] rfl)
   all_goals (try dsimp only[srcs])
   (case' hfr=>(repeat' (first|refine La ?_ ?_|exact Lc|refine Lo ?_|refine ⟨⟨_,rfl,?_⟩,?_⟩|refine Lx ?_)))
   all_goals (first|exact Ld|exact trivial|(rfl))
theorem l01AllF_ac [Mode] (xs:List Int) (hn:xs.length≤100000000):AC Tryz.prog 97 [IL xs,Bo false] H0 (Bo (xs.all isVal)) H0:=by
 refine AC.of_body 0 Tryz.func97 rfl (fun l h=>absurd rfl h) (fun C hC=>?_)
 have hD:∀ l,¬ C.D0 l:=fun l h=>(hC l).1 h rfl
 simp only[startFr,Tryz.ntmps97,List.length_cons,List.length_nil,Nat.reduceAdd,Nat.reduceSub,List.replicate_succ,List.replicate_zero,List.cons_append,List.nil_append]
 repeat' (first|((first|apply Ba|(apply Bb;(· rfl);(· rfl))|(apply Bc;(· exact nxE))|(apply Bd;(· rfl);(· rfl);(· exact nxE)));(· first|exact Ok.pe))|((first|apply Ca|(apply Cb;(· exact nxE)));(· first|exact Ok.e0))|refine Sx ?_|(refine Sy (fun h=>?_) (fun h=>?_)<;>try (exfalso;omega;done))|refine Sz (fun h=>?_) (fun h=>?_))
 refine AW.loop (X:={k:Nat // k≤xs.length∧xs.all isVal=(xs.drop k).all isVal}) (fun k=>⟨[IL xs,Bo false,Oo,Oo,Oo,I (k.1:Nat),Oo,Oo,Oo,Oo,Oo,Oo,Oo,Oo,Oo,Oo,Oo,Oo,Oo,Oo,Oo,Oo,Oo,Oo,Oo,Oo,Oo,Oo],heapL [],900⟩) (fun k=>xs.length - k.1) ⟨0,Nat.zero_le _,by simp⟩ ?_ (fun k=>?_)
 ·
  (apply Le.headZ [] rfl)
  all_goals (try dsimp only[srcs])
  (case' hfr|hob=>(repeat' (first|refine La ?_ ?_|exact Lc|refine Lo ?_|refine ⟨⟨_,rfl,?_⟩,?_⟩|refine Lx ?_)))
  all_goals (first|(rfl)|exact Ld)
 obtain ⟨k,hk,hall⟩:=k
 simp only
 by_cases hlt:k<xs.length
 ·obtain ⟨x,hx⟩:∃ x,xs[k]? = some x:=⟨xs[k],by simp⟩
  have hrow:=IR_get hx
  have hV:=sIsValue_ac x
  have hno:=fun h=>all_no (f:=isVal) hx h
  have hyes:=fun h=>all_step (f:=isVal) hx hall h
  cases hvx:isVal x
  ·rw[hvx] at hV
   rw[hno hvx]
   repeat' (first|((first|apply Ba|(apply Bb;(· rfl);(· rfl))|(apply Bc;(· exact nxE))|(apply Bd;(· rfl);(· rfl);(· exact nxE)));(· first|exact Kz rfl rfl (hV) (Ad An)|exact Ok.pe))|((first|apply Ca|(apply Cb;(· exact nxE)));(· first|exact Ok.e0))|refine Sx ?_|(refine Sy (fun h=>?_) (fun h=>?_)<;>try (exfalso;omega;done))|refine Sz (fun h=>?_) (fun h=>?_))
   refine Ya ?_
   (apply Le.headZ (hs:=[]) [] rfl)
   all_goals (try dsimp only[srcs])
   (case' hfr=>(repeat' (first|refine La ?_ ?_|exact Lc|refine Lo ?_|refine ⟨⟨_,rfl,?_⟩,?_⟩|refine Lx ?_)))
   all_goals (first|exact Ld|exact trivial|(rfl))
  ·rw[hvx] at hV
   have hy:=hyes hvx
   repeat' (first|((first|apply Ba|(apply Bb;(· rfl);(· rfl))|(apply Bc;(· exact nxE))|(apply Bd;(· rfl);(· rfl);(· exact nxE)));(· first|exact Kz rfl rfl (hV) (Ad An)|exact Ok.pe))|((first|apply Ca|(apply Cb;(· exact nxE)));(· first|exact Ok.e0))|refine Sx ?_|(refine Sy (fun h=>?_) (fun h=>?_)<;>try (exfalso;omega;done))|refine Sz (fun h=>?_) (fun h=>?_))
   refine ⟨⟨k+1,by omega,hy⟩,?_,by simp only;omega⟩
   (apply Le.headZ [] rfl)
   all_goals (try dsimp only[srcs])
   (case' hfr|hob=>(repeat' (first|refine La ?_ ?_|exact Lc|refine Lo ?_|refine ⟨⟨_,rfl,?_⟩,?_⟩|refine Lx ?_)))
   all_goals (first|(rfl)|exact Ld)
 ·have hk':k=xs.length:=by omega
  rw[hk',List.drop_length] at hall
  rw[hall,List.all_nil]
  repeat' (first|((first|apply Ba|(apply Bb;(· rfl);(· rfl))|(apply Bc;(· exact nxE))|(apply Bd;(· rfl);(· rfl);(· exact nxE)));(· first|exact Ok.pe))|((first|apply Ca|(apply Cb;(· exact nxE)));(· first|exact Ok.e0))|refine Sx ?_|(refine Sy (fun h=>?_) (fun h=>?_)<;>try (exfalso;omega;done))|refine Sz (fun h=>?_) (fun h=>?_))
  refine Ya ?_
  (apply Le.headZ (hs:=[]) [] rfl)
  all_goals (try dsimp only[srcs])
  (case' hfr=>(repeat' (first|refine La ?_ ?_|exact Lc|refine Lo ?_|refine ⟨⟨_,rfl,?_⟩,?_⟩|refine Lx ?_)))
  all_goals (first|exact Ld|exact trivial|(rfl))
def isVec (r:List Int):Bool:=wi (r.length:Int) 1 10&&r.all isVal
theorem l02Vector_ac [Mode] (r:List Int) (hr:r.length≤100000000):AC Tryz.prog 176 [IL r] H0 (Bo (isVec r)) H0:=by
 have hI:=l01In_ac r.length 1 10
 have hA:=l01AllF_ac r hr
 unfold isVec
 cases hw:wi (r.length:Int) 1 10
 ·rw[hw] at hI
  refine AC.of_body 0 Tryz.func176 rfl (fun l h=>absurd rfl h) (fun C hC=>?_)
  have hD:∀ l,¬ C.D0 l:=fun l h=>(hC l).1 h rfl
  simp only[startFr,Tryz.ntmps176,List.length_cons,List.length_nil,Nat.reduceAdd,Nat.reduceSub,List.replicate_succ,List.replicate_zero,List.cons_append,List.nil_append]
  repeat' (first|((first|apply Ba|(apply Bb;(· rfl);(· rfl))|(apply Bc;(· exact nxE))|(apply Bd;(· rfl);(· rfl);(· exact nxE)));(· first|exact Kz rfl rfl (hI) (Ad (Ad (Ad An)))|exact Kz rfl rfl (hA) (Ad (Ad An))|exact Ok.pe))|((first|apply Ca|(apply Cb;(· exact nxE)));(· first|exact Ok.e0))|refine Sx ?_|(refine Sy (fun h=>?_) (fun h=>?_)<;>try (exfalso;omega;done))|refine Sz (fun h=>?_) (fun h=>?_))
  refine Ya ?_
  (apply Le.headZ (hs:=[]) [] rfl)
  all_goals (try dsimp only[srcs])
  (case' hfr=>(repeat' (first|refine La ?_ ?_|exact Lc|refine Lo ?_|refine ⟨⟨_,rfl,?_⟩,?_⟩|refine Lx ?_)))
  all_goals (first|exact Ld|exact trivial|(rfl))
 ·rw[hw] at hI
  refine AC.of_body 0 Tryz.func176 rfl (fun l h=>absurd rfl h) (fun C hC=>?_)
  have hD:∀ l,¬ C.D0 l:=fun l h=>(hC l).1 h rfl
  simp only[startFr,Tryz.ntmps176,List.length_cons,List.length_nil,Nat.reduceAdd,Nat.reduceSub,List.replicate_succ,List.replicate_zero,List.cons_append,List.nil_append]
  repeat' (first|((first|apply Ba|(apply Bb;(· rfl);(· rfl))|(apply Bc;(· exact nxE))|(apply Bd;(· rfl);(· rfl);(· exact nxE)));(· first|exact Kz rfl rfl (hI) (Ad (Ad (Ad An)))|exact Kz rfl rfl (hA) (Ad (Ad An))|exact Ok.pe))|((first|apply Ca|(apply Cb;(· exact nxE)));(· first|exact Ok.e0))|refine Sx ?_|(refine Sy (fun h=>?_) (fun h=>?_)<;>try (exfalso;omega;done))|refine Sz (fun h=>?_) (fun h=>?_))
  refine Ya ?_
  (apply Le.headZ (hs:=[]) [] rfl)
  all_goals (try dsimp only[srcs])
  (case' hfr=>(repeat' (first|refine La ?_ ?_|exact Lc|refine Lo ?_|refine ⟨⟨_,rfl,?_⟩,?_⟩|refine Lx ?_)))
  all_goals (first|exact Ld|exact trivial|(rfl))
def okM (n:Nat) (r:List Int):Bool:=isVec r&&decide ((r.length:Int)=n)
theorem isMat_all [Mode] {t:List (List Int)}:isMat t=(decide (1≤t.length∧t.length≤10)&&t.all (okM (colN t))):=by
 cases t with
 | nil=>rfl
 | cons a q=>
  have hcol:colN (a :: q)=a.length:=rfl
  rw[Bool.eq_iff_iff]
  unfold isMat
  rw[hcol]
  simp only[Bool.and_eq_true,decide_eq_true_eq,Bool.not_eq_true',List.any_eq_false,List.all_eq_true]
  constructor
  ·rintro ⟨⟨h1,h2,h3,h4⟩,h5⟩
   refine ⟨⟨h1,h2⟩,fun r hr=>?_⟩
   have:=h5 r hr
   unfold badM at this
   simp only[Bool.not_eq_true,Bool.or_eq_false_iff,Bool.not_eq_false',decide_eq_true_eq] at this
   unfold okM isVec
   rw[this.2,decide_eq_true this.1,Bool.and_true,Bool.and_true]
   exact wi_iff.2 (by omega)
  ·rintro ⟨⟨h1,h2⟩,h5⟩
   have ha:=h5 a (by simp)
   unfold okM isVec at ha
   simp only[Bool.and_eq_true,wi_iff] at ha
   refine ⟨⟨h1,h2,by omega,by omega⟩,fun r hr=>?_⟩
   have:=h5 r hr
   unfold okM isVec at this
   simp only[Bool.and_eq_true,decide_eq_true_eq] at this
   unfold badM
   rw[this.1.2,decide_eq_true this.2]
   simp
set_option maxHeartbeats 1000000 in
theorem sIsMatrix_ac [Mode] (t:List (List Int)) (ht:t.length≤100000000) (hr:∀ r∈t,r.length≤100000000):AC Tryz.prog 151 [TL t] H0 (Bo (isMat t)) H0:=by
 by_cases g1:1≤t.length∧t.length≤10
 case neg=>
  have hI:isMat t=false:=by unfold isMat;rw[decide_eq_false (by omega)];rfl
  rw[hI]
  refine AC.of_body 0 Tryz.func151 rfl (fun l h=>absurd rfl h) (fun C hC=>?_)
  have hD:∀ l,¬ C.D0 l:=fun l h=>(hC l).1 h rfl
  simp only[startFr,Tryz.ntmps151,List.length_cons,List.length_nil,Nat.reduceAdd,Nat.reduceSub,List.replicate_succ,List.replicate_zero,List.cons_append,List.nil_append]
  repeat' (first|((first|apply Ba|(apply Bb;(· rfl);(· rfl))|(apply Bc;(· exact nxE))|(apply Bd;(· rfl);(· rfl);(· exact nxE)));(· first|exact Ok.pe))|((first|apply Ca|(apply Cb;(· exact nxE)));(· first|exact Ok.e0))|refine Sx ?_|(refine Sy (fun h=>?_) (fun h=>?_)<;>try (exfalso;omega;done))|refine Sz (fun h=>?_) (fun h=>?_))
  all_goals
   refine Ya ?_
   (apply Le.headZ (hs:=[]) [] rfl)
   all_goals (try dsimp only[srcs])
   (case' hfr=>(repeat' (first|refine La ?_ ?_|exact Lc|refine Lo ?_|refine ⟨⟨_,rfl,?_⟩,?_⟩|refine Lx ?_)))
   all_goals (first|exact Ld|exact trivial|(rfl))
 obtain ⟨r0,h0⟩:∃ r0,t[0]? = some r0:=⟨t[0]'(by omega),List.getElem?_eq_getElem (by omega)⟩
 have hcol:colN t=r0.length:=by
  unfold colN
  cases t with
  | nil=>simp at h0
  | cons a q=>simp at h0;subst h0;rfl
 have hRr:(mRows 1 (TR t))[(0:Int).toNat]? = some [.sl 1 (IR r0)]:=TR_get h0
 have hI:isMat t=t.all (okM r0.length):=by rw[isMat_all,hcol,decide_eq_true g1,Bool.true_and]
 rw[hI]
 refine AC.of_body 0 Tryz.func151 rfl (fun l h=>absurd rfl h) (fun C hC=>?_)
 have hD:∀ l,¬ C.D0 l:=fun l h=>(hC l).1 h rfl
 simp only[startFr,Tryz.ntmps151,List.length_cons,List.length_nil,Nat.reduceAdd,Nat.reduceSub,List.replicate_succ,List.replicate_zero,List.cons_append,List.nil_append]
 repeat' (first|((first|apply Ba|(apply Bb;(· rfl);(· rfl))|(apply Bc;(· exact nxE))|(apply Bd;(· rfl);(· rfl);(· exact nxE)));(· first|exact Ok.pe))|((first|apply Ca|(apply Cb;(· exact nxE)));(· first|exact Ok.e0))|refine Sx ?_|(refine Sy (fun h=>?_) (fun h=>?_)<;>try (exfalso;omega;done))|refine Sz (fun h=>?_) (fun h=>?_))
 refine AW.loop (X:={k:Nat // k≤t.length∧t.all (okM r0.length)=(t.drop k).all (okM r0.length)}) (fun k=>⟨[TL t,Oo,Oo,I (k.1:Nat),Oo,Oo,Oo,Oo,Oo,Oo,Oo,Oo,Oo,Oo,Oo,Oo,Oo,Oo,Oo,Oo,Oo,Oo,Oo,Oo,Oo,Oo,Oo,Oo,Oo,Oo,Oo,Oo,Oo,Oo,Oo,Oo],heapL [],900⟩) (fun k=>t.length - k.1) ⟨0,Nat.zero_le _,by simp⟩ ?_ (fun k=>?_)
 ·
  (apply Le.headZ [] rfl)
  all_goals (try dsimp only[srcs])
  (case' hfr|hob=>(repeat' (first|refine La ?_ ?_|exact Lc|refine Lo ?_|refine ⟨⟨_,rfl,?_⟩,?_⟩|refine Lx ?_)))
  all_goals (first|(rfl)|exact Ld)
 obtain ⟨k,hk,hall⟩:=k
 simp only
 by_cases hlt:k<t.length
 ·obtain ⟨r,hx⟩:∃ r,t[k]? = some r:=⟨t[k],by simp⟩
  have hrow:=TR_get hx
  have hV:=l02Vector_ac r (hr r (List.mem_of_getElem? hx))
  have hno:=fun h=>all_no (f:=okM r0.length) hx h
  have hyes:=fun h=>all_step (f:=okM r0.length) hx hall h
  cases hvx:isVec r
  ·rw[hvx] at hV
   rw[hno (by unfold okM;rw[hvx];rfl)]
   repeat' (first|((first|apply Ba|(apply Bb;(· rfl);(· rfl))|(apply Bc;(· exact nxE))|(apply Bd;(· rfl);(· rfl);(· exact nxE)));(· first|exact Kz rfl rfl (hV) (Ad An)|exact Ok.pe))|((first|apply Ca|(apply Cb;(· exact nxE)));(· first|exact Ok.e0))|refine Sx ?_|(refine Sy (fun h=>?_) (fun h=>?_)<;>try (exfalso;omega;done))|refine Sz (fun h=>?_) (fun h=>?_))
   refine Ya ?_
   (apply Le.headZ (hs:=[]) [] rfl)
   all_goals (try dsimp only[srcs])
   (case' hfr=>(repeat' (first|refine La ?_ ?_|exact Lc|refine Lo ?_|refine ⟨⟨_,rfl,?_⟩,?_⟩|refine Lx ?_)))
   all_goals (first|exact Ld|exact trivial|(rfl))
  ·rw[hvx] at hV
   by_cases hb:r.length=r0.length
   ·have hy:=hyes (by unfold okM;rw[hvx,decide_eq_true (by omega)];rfl)
    repeat' (first|((first|apply Ba|(apply Bb;(· rfl);(· rfl))|(apply Bc;(· exact nxE))|(apply Bd;(· rfl);(· rfl);(· exact nxE)));(· first|exact Kz rfl rfl (hV) (Ad An)|exact Ok.pe))|((first|apply Ca|(apply Cb;(· exact nxE)));(· first|exact Ok.e0))|refine Sx ?_|(refine Sy (fun h=>?_) (fun h=>?_)<;>try (exfalso;omega;done))|refine Sz (fun h=>?_) (fun h=>?_))
    refine ⟨⟨k+1,by omega,hy⟩,?_,by simp only;omega⟩
    (apply Le.headZ [] rfl)
    all_goals (try dsimp only[srcs])
    (case' hfr|hob=>(repeat' (first|refine La ?_ ?_|exact Lc|refine Lo ?_|refine ⟨⟨_,rfl,?_⟩,?_⟩|refine Lx ?_)))
    all_goals (first|(rfl)|exact Ld)
   ·rw[hno (by unfold okM;rw[hvx,decide_eq_false (by omega)];rfl)]
    repeat' (first|((first|apply Ba|(apply Bb;(· rfl);(· rfl))|(apply Bc;(· exact nxE))|(apply Bd;(· rfl);(· rfl);(· exact nxE)));(· first|exact Kz rfl rfl (hV) (Ad An)|exact Ok.pe))|((first|apply Ca|(apply Cb;(· exact nxE)));(· first|exact Ok.e0))|refine Sx ?_|(refine Sy (fun h=>?_) (fun h=>?_)<;>try (exfalso;omega;done))|refine Sz (fun h=>?_) (fun h=>?_))
    refine Ya ?_
    (apply Le.headZ (hs:=[]) [] rfl)
    all_goals (try dsimp only[srcs])
    (case' hfr=>(repeat' (first|refine La ?_ ?_|exact Lc|refine Lo ?_|refine ⟨⟨_,rfl,?_⟩,?_⟩|refine Lx ?_)))
    all_goals (first|exact Ld|exact trivial|(rfl))
 ·have hk':k=t.length:=by omega
  rw[hk',List.drop_length] at hall
  rw[hall,List.all_nil]
  repeat' (first|((first|apply Ba|(apply Bb;(· rfl);(· rfl))|(apply Bc;(· exact nxE))|(apply Bd;(· rfl);(· rfl);(· exact nxE)));(· first|exact Ok.pe))|((first|apply Ca|(apply Cb;(· exact nxE)));(· first|exact Ok.e0))|refine Sx ?_|(refine Sy (fun h=>?_) (fun h=>?_)<;>try (exfalso;omega;done))|refine Sz (fun h=>?_) (fun h=>?_))
  refine Ya ?_
  (apply Le.headZ (hs:=[]) [] rfl)
  all_goals (try dsimp only[srcs])
  (case' hfr=>(repeat' (first|refine La ?_ ?_|exact Lc|refine Lo ?_|refine ⟨⟨_,rfl,?_⟩,?_⟩|refine Lx ?_)))
  all_goals (first|exact Ld|exact trivial|(rfl))
theorem l02Square_ac [Mode] (t:List (List Int)) (ht:t.length≤100000000) (hr:∀ r∈t,r.length≤100000000):AC Tryz.prog 114 [TL t] H0 (Bo (isSq t)) H0:=by
 have hM:=sIsMatrix_ac t ht hr
 unfold isSq
 cases hm:isMat t
 ·rw[hm] at hM
  refine AC.of_body 0 Tryz.func114 rfl (fun l h=>absurd rfl h) (fun C hC=>?_)
  have hD:∀ l,¬ C.D0 l:=fun l h=>(hC l).1 h rfl
  simp only[startFr,Tryz.ntmps114,List.length_cons,List.length_nil,Nat.reduceAdd,Nat.reduceSub,List.replicate_succ,List.replicate_zero,List.cons_append,List.nil_append]
  repeat' (first|((first|apply Ba|(apply Bb;(· rfl);(· rfl))|(apply Bc;(· exact nxE))|(apply Bd;(· rfl);(· rfl);(· exact nxE)));(· first|exact Kz rfl rfl (hM) (Ad An)|exact Ok.pe))|((first|apply Ca|(apply Cb;(· exact nxE)));(· first|exact Ok.e0))|refine Sx ?_|(refine Sy (fun h=>?_) (fun h=>?_)<;>try (exfalso;omega;done))|refine Sz (fun h=>?_) (fun h=>?_))
  refine Ya ?_
  (apply Le.headZ (hs:=[]) [] rfl)
  all_goals (try dsimp only[srcs])
  (case' hfr=>(repeat' (first|refine La ?_ ?_|exact Lc|refine Lo ?_|refine ⟨⟨_,rfl,?_⟩,?_⟩|refine Lx ?_)))
  all_goals (first|exact Ld|exact trivial|(rfl))
 ·rw[hm] at hM
  obtain ⟨r0,h0,hcol⟩:=isMat_row hm
  have hRr:(mRows 1 (TR t))[(0:Int).toNat]? = some [.sl 1 (IR r0)]:=TR_get h0
  rw[hcol]
  refine AC.of_body 0 Tryz.func114 rfl (fun l h=>absurd rfl h) (fun C hC=>?_)
  have hD:∀ l,¬ C.D0 l:=fun l h=>(hC l).1 h rfl
  simp only[startFr,Tryz.ntmps114,List.length_cons,List.length_nil,Nat.reduceAdd,Nat.reduceSub,List.replicate_succ,List.replicate_zero,List.cons_append,List.nil_append]
  repeat' (first|((first|apply Ba|(apply Bb;(· rfl);(· rfl))|(apply Bc;(· exact nxE))|(apply Bd;(· rfl);(· rfl);(· exact nxE)));(· first|exact Kz rfl rfl (hM) (Ad An)|exact Ok.pe))|((first|apply Ca|(apply Cb;(· exact nxE)));(· first|exact Ok.e0))|refine Sx ?_|(refine Sy (fun h=>?_) (fun h=>?_)<;>try (exfalso;omega;done))|refine Sz (fun h=>?_) (fun h=>?_))
  all_goals
   refine Ya ?_
   (apply Le.headZ (hs:=[]) [] rfl)
   all_goals (try dsimp only[srcs])
   (case' hfr=>(repeat' (first|refine La ?_ ?_|exact Lc|refine Lo ?_|refine ⟨⟨_,rfl,?_⟩,?_⟩|refine Lx ?_)))
   all_goals (first|exact Ld|exact trivial|(rfl))
end
end Go.Proofs.YtkpoclbnnpglfaaGreat
