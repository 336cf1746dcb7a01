/-
  Walks in the abstract reading, part 7.
-/
import Derived.Test.YtkpoclbnnpglfaaGreatKqU3
import Derived.Test.YtkpoclbnnpglfaaGreatKqU6
import Derived.Test.YtkpoclbnnpglfaaGreatKqU4
set_option linter.unusedSimpArgs false
set_option linter.unusedVariables false
namespace Go.Proofs.YtkpoclbnnpglfaaGreat
section
def kP (W:Nat→Nat→Int):Nat→List Nat→Prop
 | _,[]=>True
 | u,v :: l=>W v u≠BOT∧kP W v l
def kW (W:Nat→Nat→Int):Nat→List Nat→Int
 | _,[]=>0
 | u,v :: l=>W v u+kW W v l
def kE:Nat→List Nat→Nat
 | u,[]=>u
 | _,v :: l=>kE v l
theorem kE_app:∀ (a b:List Nat) (u:Nat),kE u (a++b)=kE (kE u a) b
 | [],_,_=>rfl
 | v :: a,b,u=>kE_app a b v
theorem kP_app {W:Nat→Nat→Int}:∀ (a b:List Nat) (u:Nat),kP W u (a++b)↔kP W u a∧kP W (kE u a) b
 | [],b,u=>by simp[kP,kE]
 | v :: a,b,u=>by
  simp only[List.cons_append,kP,kE,kP_app a b v,and_assoc]
theorem kW_app {W:Nat→Nat→Int}:∀ (a b:List Nat) (u:Nat),kW W u (a++b)=kW W u a+kW W (kE u a) b
 | [],b,u=>by simp[kW,kE]
 | v :: a,b,u=>by
  simp only[List.cons_append,kW,kE,kW_app a b v];omega
theorem kE_lt {n:Nat}:∀ {l:List Nat}{u:Nat},u<n→(∀ x∈l,x<n)→kE u l<n
 | [],_,hu,_=>hu
 | v :: l,_,_,hl=>kE_lt (l:=l) (u:=v) (hl v (by simp)) fun x hx=>hl x (by simp[hx])
theorem kW_bnd {W:Nat→Nat→Int}{M:Int} (hW:∀ u v,W v u≠BOT→-M≤W v u∧W v u≤M):∀ {l:List Nat}{u:Nat},kP W u l→-(M*l.length)≤kW W u l∧kW W u l≤M*l.length
 | [],_,_=>by simp[kW]
 | v :: l,u,h=>by
  have h1:=hW u v h.1
  have h2:=kW_bnd hW (l:=l) h.2
  simp only[kW,List.length_cons]
  rw[show ((l.length+1:Nat):Int)=(l.length:Int)+1 by omega,Int.mul_add]
  omega
def kV (W:Nat→Nat→Int) (p q:Int) (u:Nat) (l:List Nat):Int:=q*kW W u l - p*l.length
theorem kV_app {W:Nat→Nat→Int}{p q:Int} (a b:List Nat) (u:Nat):kV W p q u (a++b)=kV W p q u a+kV W p q (kE u a) b:=by
 unfold kV
 rw[kW_app,List.length_append,Int.mul_add,show ((a.length+b.length:Nat):Int)=(a.length:Int)+b.length by omega,Int.mul_add]
 omega
theorem dup_at:∀ {l:List Nat},¬ l.Nodup→∃ a x b c,l=a++x :: (b++x :: c)
 | [],h=>absurd List.nodup_nil h
 | y :: l,h=>by
  rw[List.nodup_cons] at h
  by_cases hy:y∈l
  ·obtain ⟨b,c,rfl⟩:=List.append_of_mem hy
   exact ⟨[],y,b,c,rfl⟩
  ·obtain ⟨a,x,b,c,rfl⟩:=dup_at (l:=l) (fun hl=>h ⟨hy,hl⟩)
   exact ⟨y :: a,x,b,c,rfl⟩
theorem kround {n u:Nat}{l:List Nat} (hu:u<n) (hl:∀ x∈l,x<n) (hn:n≤l.length):∃ a b c,l=a++(b++c)∧b≠[]∧kE (kE u a) b=kE u a:=by
 have hd:¬ (u :: l).Nodup:=fun h=>by
  have:=nodup_le n (u :: l) h (fun x hx=>by
   rcases List.mem_cons.1 hx with rfl|hx
   ·exact hu
   ·exact hl x hx)
  simp at this;omega
 obtain ⟨a,x,b,c,e⟩:=dup_at hd
 cases a with
 | nil=>
  simp only[List.nil_append,List.cons.injEq] at e
  obtain ⟨rfl,rfl⟩:=e
  refine ⟨[],b++[u],c,by simp,by simp,?_⟩
  simp only[kE]
  rw[kE_app];rfl
 | cons y a=>
  simp only[List.cons_append,List.cons.injEq] at e
  obtain ⟨rfl,rfl⟩:=e
  refine ⟨a++[x],b++[x],c,by simp,by simp,?_⟩
  simp only[kE_app,kE]
structure KMean (W:Nat→Nat→Int) (n:Nat) (p q:Int):Prop where
 pos:0<q
 le:∀ u l,u<n→(∀ x∈l,x<n)→kP W u l→kE u l=u→kV W p q u l≤0
 eq:∃ u l,u<n∧(∀ x∈l,x<n)∧l≠[]∧kP W u l∧kE u l=u∧kV W p q u l=0
theorem kshort {W:Nat→Nat→Int}{n:Nat}{p q:Int} (hle:∀ u l,u<n→(∀ x∈l,x<n)→kP W u l→kE u l=u→kV W p q u l≤0):∀ (m:Nat) (u:Nat) (l:List Nat),l.length≤m→u<n→(∀ x∈l,x<n)→kP W u l→∃ l',l'.length<n∧(∀ x∈l',x<n)∧kP W u l'∧kE u l'=kE u l∧kV W p q u l≤kV W p q u l':=by
 intro m
 induction m with
 | zero=>
  intro u l hm hu hl hp
  exact ⟨l,by omega,hl,hp,rfl,Int.le_refl _⟩
 | succ m ih=>
  intro u l hm hu hl hp
  by_cases hn:l.length<n
  ·exact ⟨l,hn,hl,hp,rfl,Int.le_refl _⟩
  ·obtain ⟨a,b,c,rfl,hb,hr⟩:=kround hu hl (by omega)
   have hb0:=List.length_pos_iff.2 hb
   rw[kP_app,kP_app] at hp
   obtain ⟨p1,p2,p3⟩:=hp
   rw[hr] at p3
   have ha:∀ x∈a,x<n:=fun x hx=>hl x (by simp[hx])
   have hbl:∀ x∈b,x<n:=fun x hx=>hl x (by simp[hx])
   have hc:∀ x∈c,x<n:=fun x hx=>hl x (by simp[hx])
   have hcy:=hle _ b (kE_lt hu ha) hbl p2 hr
   simp only[List.length_append] at hm
   obtain ⟨l',h1,h2,h3,h4,h5⟩:=ih u (a++c) (by simp;omega) hu (fun x hx=>by
    rcases List.mem_append.1 hx with hx|hx
    ·exact ha x hx
    ·exact hc x hx) ((kP_app a c u).2 ⟨p1,p3⟩)
   refine ⟨l',h1,h2,h3,?_,?_⟩
   ·rw[h4,kE_app,kE_app,kE_app,hr]
   ·rw[kV_app] at h5
    rw[kV_app,kV_app,hr]
    omega
def kD (W:Nat→Nat→Int) (n:Nat):Nat→Nat→Int
 | 0=>fun _=>0
 | k+1=>fun i=>maxN (fun j=>timesB (W i j) (kD W n k j)) n
theorem snoc_of {l:List Nat} (h:l≠[]):∃ a v,l=a++[v]:=⟨l.dropLast,l.getLast h,(List.dropLast_concat_getLast h).symm⟩
section
variable {W : Nat → Nat → Int} {n : Nat} {M : Int} (hM : 0 ≤ M) (hW : ∀ u v, W v u ≠ BOT → -M ≤ W v u ∧ W v u ≤ M)
include hM hW
theorem kD_at:∀ (k:Nat),M*k<1000000000000000→∀ v,v<n→kD W n k v=BOT∨∃ u l,u<n∧(∀ x∈l,x<n)∧l.length=k∧kP W u l∧kE u l=v∧kW W u l=kD W n k v
 | 0,_,v,hv=>.inr ⟨v,[],hv,by simp,rfl,trivial,rfl,rfl⟩
 | k+1,hb,v,hv=>by
  rw[show ((k+1:Nat):Int)=(k:Int)+1 by omega,Int.mul_add] at hb
  simp only[kD]
  rcases maxN_at (f:=fun j=>timesB (W v j) (kD W n k j)) (n:=n) with e|⟨j,hj,e⟩
  ·exact .inl e
  ·rw[e]
   by_cases h1:W v j=BOT
   ·left;unfold timesB;rw[if_pos (.inl h1)]
   ·rcases kD_at k (by omega) j hj with h2|⟨u,l,u1,u2,u3,u4,u5,u6⟩
    ·left;unfold timesB;rw[if_pos (.inr h2)]
    ·have hd:kD W n k j≠BOT:=by
      rw[← u6]
      have:=kW_bnd hW u4
      rw[u3] at this
      unfold BOT;omega
     right
     refine ⟨u,l++[v],u1,fun x hx=>?_,by simp[u3],(kP_app l [v] u).2 ⟨u4,by rw[u5];exact ⟨h1,trivial⟩⟩,by rw[kE_app];rfl,?_⟩
     ·rcases List.mem_append.1 hx with hx|hx
      ·exact u2 x hx
      ·simp at hx;omega
     ·rw[timesB_ne h1 hd,kW_app,u5,u6]
      simp only[kW];omega
theorem kD_ge:∀ (k:Nat) (u:Nat) (l:List Nat),M*k<1000000000000000→u<n→(∀ x∈l,x<n)→l.length=k→kP W u l→kD W n k (kE u l)≠BOT∧kW W u l≤kD W n k (kE u l)
 | 0,u,l,_,_,_,hl,_=>by
  obtain rfl:l=[]:=List.length_eq_zero_iff.1 hl
  exact ⟨by simp[kD,BOT],Int.le_refl _⟩
 | k+1,u,l,hb,hu,hx,hl,hp=>by
  rw[show ((k+1:Nat):Int)=(k:Int)+1 by omega,Int.mul_add] at hb
  obtain ⟨a,v,rfl⟩:=snoc_of (l:=l) (by intro e;rw[e] at hl;cases hl)
  simp only[List.length_append,List.length_cons,List.length_nil] at hl
  have ha:∀ x∈a,x<n:=fun x h=>hx x (by simp[h])
  rw[kP_app] at hp
  obtain ⟨h1,h2,_⟩:=hp
  obtain ⟨h3,h4⟩:=kD_ge k u a (by omega) hu ha (by omega) h1
  have hj:=kE_lt hu ha
  rw[kE_app]
  simp only[kE,kD]
  have hg:=maxN_ge (f:=fun j=>timesB (W v j) (kD W n k j)) hj
  rw[timesB_ne h2 h3] at hg
  have hwb:=kW_bnd hW h1
  rw[show a.length=k by omega] at hwb
  have hw:=hW _ _ h2
  have e:kW W u (a++[v])=kW W u a+W v (kE u a):=by rw[kW_app];simp[kW]
  rw[e]
  exact ⟨by unfold BOT;omega,by omega⟩
theorem kD_bnd (k:Nat) (hb:M*k<1000000000000000) (v:Nat) (hv:v<n):kD W n k v=BOT∨(-(M*k)≤kD W n k v∧kD W n k v≤M*k):=by
 rcases kD_at hM hW k hb v hv with e|⟨u,l,u1,u2,u3,u4,u5,u6⟩
 ·exact .inl e
 ·right
  have:=kW_bnd hW u4
  rw[u3,u6] at this
  exact this
theorem kD_none (hb:M*n<1000000000000000) (hno:∀ u l,u<n→(∀ x∈l,x<n)→l≠[]→kP W u l→kE u l≠u) (v:Nat) (hv:v<n):kD W n n v=BOT:=by
 rcases kD_at hM hW n hb v hv with e|⟨u,l,u1,u2,u3,u4,u5,u6⟩
 ·exact e
 ·obtain ⟨a,b,c,rfl,h1,h2⟩:=kround u1 u2 (by omega)
  rw[kP_app,kP_app] at u4
  exact absurd h2 (hno _ b (kE_lt u1 fun x hx=>u2 x (by simp[hx])) (fun x hx=>u2 x (by simp[hx])) h1 u4.2.1)
theorem karp_le (hb:M*n<1000000000000000) {p q:Int} (h:KMean W n p q) {v:Nat} (hv:v<n) (hd:kD W n n v≠BOT):∃ k,k<n∧kD W n k v≠BOT∧q*(kD W n n v - kD W n k v)≤p*((n:Int) - k):=by
 rcases kD_at hM hW n hb v hv with e|⟨u,l,u1,u2,u3,u4,u5,u6⟩
 ·exact absurd e hd
 ·obtain ⟨a,b,c,rfl,h1,h2⟩:=kround u1 u2 (by omega)
  have ha:∀ x∈a,x<n:=fun x hx=>u2 x (by simp[hx])
  have hbl:∀ x∈b,x<n:=fun x hx=>u2 x (by simp[hx])
  have hc:∀ x∈c,x<n:=fun x hx=>u2 x (by simp[hx])
  have hb0:=List.length_pos_iff.2 h1
  simp only[List.length_append] at u3
  rw[kP_app,kP_app,h2] at u4
  rw[kE_app,kE_app,h2] at u5
  have hcy:=h.le _ b (kE_lt u1 ha) hbl u4.2.1 h2
  have hkb:M*(a++c).length<1000000000000000:=by
   have:=Int.mul_le_mul_of_nonneg_left (show ((a++c).length:Int)≤n by simp;omega) hM
   omega
  have hge:=kD_ge hM hW (a++c).length u (a++c) hkb u1 (fun x hx=>by
   rcases List.mem_append.1 hx with hx|hx
   ·exact ha x hx
   ·exact hc x hx) rfl ((kP_app a c u).2 ⟨u4.1,u4.2.2⟩)
  rw[kE_app,u5] at hge
  refine ⟨(a++c).length,by simp;omega,hge.1,?_⟩
  rw[← u6]
  have e1:kW W u (a++(b++c))=kW W u (a++c)+kW W (kE u a) b:=by rw[kW_app,kW_app,kW_app,h2];omega
  rw[e1]
  unfold kV at hcy
  have e2:(n:Int) - ((a++c).length:Nat)=b.length:=by simp;omega
  rw[e2]
  have:=Int.mul_le_mul_of_nonneg_left (show kW W u (a++c)+kW W (kE u a) b - kD W n (a++c).length v≤kW W (kE u a) b by omega) (Int.le_of_lt h.pos)
  omega
omit hM hW in
theorem ex_max {P:Int→Prop}{B:Int} (hB:∀ x,P x→x≤B):∀ (m:Nat) (x:Int),P x→(B - x).toNat≤m→∃ y,P y∧∀ z,P z→z≤y:=by
 intro m
 induction m with
 | zero=>
  intro x hx hm
  exact ⟨x,hx,fun z hz=>by have:=hB z hz;have:=hB x hx;omega⟩
 | succ m ih=>
  intro x hx hm
  by_cases h:∃ z,P z∧x<z
  ·obtain ⟨z,hz,hlt⟩:=h
   have:=hB z hz
   exact ih z hz (by omega)
  ·exact ⟨x,hx,fun z hz=>by
    apply Classical.byContradiction
    intro hn
    exact h ⟨z,hz,by omega⟩⟩
omit hM hW in
def krep (l:List Nat):Nat→List Nat
 | 0=>[]
 | m+1=>l++krep l m
omit hM hW in
theorem krep_ok {z:Nat}{l:List Nat}{p q:Int} (h1:kP W z l) (h2:kE z l=z) (h3:kV W p q z l=0):∀ m,kP W z (krep l m)∧kE z (krep l m)=z∧kV W p q z (krep l m)=0
 | 0=>⟨trivial,rfl,by simp[kV,kW,krep]⟩
 | m+1=>by
  obtain ⟨a1,a2,a3⟩:=krep_ok h1 h2 h3 m
  refine ⟨(kP_app l (krep l m) z).2 ⟨h1,by rw[h2];exact a1⟩,?_,?_⟩
  ·simp only[krep];rw[kE_app,h2];exact a2
  ·simp only[krep];rw[kV_app,h2,h3,a3];rfl
omit hM hW in
theorem krep_len {l:List Nat} (h:l≠[]):∀ m,m≤(krep l m).length
 | 0=>Nat.zero_le _
 | m+1=>by
  have:=krep_len h m
  have:=List.length_pos_iff.2 h
  simp only[krep,List.length_append];omega
omit hM hW in
theorem krep_mem {l:List Nat}{x:Nat}:∀ {m:Nat},x∈krep l m→x∈l
 | m+1,h=>by
  simp only[krep] at h
  rcases List.mem_append.1 h with h|h
  ·exact h
  ·exact krep_mem h
theorem karp_ge (hb:M*n<1000000000000000) {p q:Int} (h:KMean W n p q):∃ v,v<n∧kD W n n v≠BOT∧∀ k,k<n→kD W n k v≠BOT→p*((n:Int) - k)≤q*(kD W n n v - kD W n k v):=by
 obtain ⟨z,L,z1,z2,z3,z4,z5,z6⟩:=h.eq
 let P:Int→Prop:=fun x=>∃ u l,u<n∧(∀ y∈l,y<n)∧kP W u l∧kE u l=z∧kV W p q u l=x
 have hB:∀ x,P x→x≤q*(M*n)+p.natAbs*n:=fun x ⟨u,l,u1,u2,u3,u4,u5⟩=>by
  obtain ⟨l',s1,s2,s3,s4,s5⟩:=kshort h.le l.length u l (Nat.le_refl _) u1 u2 u3
  rw[← u5]
  refine Int.le_trans s5 ?_
  unfold kV
  have hw:=(kW_bnd hW s3).2
  have g1:=Int.mul_le_mul_of_nonneg_left (show (l'.length:Int)≤n by omega) hM
  have g2:=Int.mul_le_mul_of_nonneg_left (show kW W u l'≤M*n by omega) (Int.le_of_lt h.pos)
  have g3 : -(p*l'.length)≤p.natAbs*n:=by
   have h1 : -p≤p.natAbs:=by omega
   have h2:=Int.mul_le_mul_of_nonneg_right h1 (show (0:Int)≤l'.length by omega)
   have h3:=Int.mul_le_mul_of_nonneg_left (show (l'.length:Int)≤n by omega) (show (0:Int)≤p.natAbs by omega)
   rw[Int.neg_mul] at h2
   omega
  omega
 obtain ⟨x,⟨u,l,u1,u2,u3,u4,u5⟩,hmax⟩:=ex_max hB _ 0 ⟨z,[],z1,by simp,trivial,rfl,by simp[kV,kW]⟩ (Nat.le_refl _)
 obtain ⟨l',s1,s2,s3,s4,s5⟩:=kshort h.le l.length u l (Nat.le_refl _) u1 u2 u3
 have hx':kV W p q u l'=x:=by
  have:=hmax _ ⟨u,l',u1,s2,s3,s4.trans u4,rfl⟩
  omega
 obtain ⟨r1,r2,r3⟩:=krep_ok z4 z5 z6 n
 have rl:=krep_len z3 n
 have rm:∀ y∈krep L n,y<n:=fun y hy=>z2 y (krep_mem hy)
 generalize krep L n=R at *
 obtain ⟨t,ht⟩:∃ t,t=n - l'.length:=⟨_,rfl⟩
 have htd:R=R.take t++R.drop t:=(List.take_append_drop t R).symm
 have htl:(R.take t).length=t:=by rw[List.length_take];omega
 rw[htd,kP_app] at r1
 rw[htd,kE_app] at r2
 rw[htd,kV_app] at r3
 have hAm:∀ y∈R.take t,y<n:=fun y hy=>rm y (List.mem_of_mem_take hy)
 have hBm:∀ y∈R.drop t,y<n:=fun y hy=>rm y (List.mem_of_mem_drop hy)
 generalize R.take t=A at *
 generalize R.drop t=B at *
 obtain ⟨v,hv⟩:∃ v,v=kE z A:=⟨_,rfl⟩
 rw[← hv] at r1 r2 r3
 have hvn:v<n:=by rw[hv];exact kE_lt z1 hAm
 have hend:kE u (l'++A)=v:=by rw[kE_app,s4,u4,hv]
 have hlen:(l'++A).length=n:=by simp;omega
 have hwalk:kP W u (l'++A):=(kP_app l' A u).2 ⟨s3,by rw[s4,u4];exact r1.1⟩
 have hval:kV W p q u (l'++A)=x+kV W p q z A:=by rw[kV_app,s4,u4,hx']
 have hge:=kD_ge hM hW n u (l'++A) hb u1 (fun y hy=>by
  rcases List.mem_append.1 hy with hy|hy
  ·exact s2 y hy
  ·exact hAm y hy) hlen hwalk
 rw[hend] at hge
 refine ⟨v,hvn,hge.1,fun k hk hkd=>?_⟩
 have hkb:M*k<1000000000000000:=by
  have:=Int.mul_le_mul_of_nonneg_left (show (k:Int)≤n by omega) hM
  omega
 rcases kD_at hM hW k hkb v hvn with e|⟨w,m,w1,w2,w3,w4,w5,w6⟩
 ·exact absurd e hkd
 ·
  have hw:=hmax _ ⟨w,m++B,w1,fun y hy=>by
   rcases List.mem_append.1 hy with hy|hy
   ·exact w2 y hy
   ·exact hBm y hy,(kP_app m B w).2 ⟨w4,by rw[w5];exact r1.2⟩,by rw[kE_app,w5];exact r2,rfl⟩
  rw[kV_app,w5] at hw
  have e1:kV W p q w m=q*kD W n k v - p*k:=by unfold kV;rw[w6,w3]
  have e2:kV W p q u (l'++A)=q*kW W u (l'++A) - p*n:=by unfold kV;rw[hlen]
  have e3:=Int.mul_le_mul_of_nonneg_left hge.2 (Int.le_of_lt h.pos)
  rw[Int.mul_sub,Int.mul_sub]
  omega
end
end
section
structure CyW (a:Nat→Nat→Int) (n:Nat) (over:Int) (f:Nat) (r:List Nat):Prop where
 lt:f<n
 gt:∀ x∈r,f<x∧x<n
 nd:(f :: r).Nodup
 path:kP a f r
 close:a f (kE f r)≠BOT
 more:over<kW a f r+a f (kE f r)
theorem lsN_kE:∀ {r:List Nat}{f:Nat},lsN (f :: r)=kE f r
 | [],_=>rfl
 | v :: r,f=>by
  have:=lsN_kE (r:=r) (f:=v)
  simp only[kE]
  rw[← this]
  simp[lsN]
theorem CyW.len {a:Nat→Nat→Int}{n:Nat}{over:Int}{f:Nat}{r:List Nat} (h:CyW a n over f r):r.length+1≤n:=by
 have:=nodup_le n (f :: r) h.nd (fun x hx=>by
  rcases List.mem_cons.1 hx with rfl|hx
  ·exact h.lt
  ·exact (h.gt x hx).2)
 simpa using this
theorem growF_w {a:Nat→Nat→Int}{n:Nat}{over:Int}:∀ (k:Nat) (f:Nat) (r:List Nat) (w:Int),f<n→(∀ x∈r,f<x∧x<n)→(f :: r).Nodup→kP a f r→w=kW a f r→growF a n over k (f :: r) w≠[]→∃ r',growF a n over k (f :: r) w=f :: r'∧CyW a n over f r'
 | 0,_,_,_,_,_,_,_,_,h=>absurd rfl h
 | k+1,f,r,w,hf,hr,hn,hp,hw,h=>by
  unfold growF at h ⊢
  have hhd:hdN (f :: r)=f:=rfl
  rw[hhd,lsN_kE] at h ⊢
  by_cases hc:a f (kE f r)≠BOT∧over<w+a f (kE f r)
  ·rw[if_pos hc]
   exact ⟨r,rfl,hf,hr,hn,hp,hc.1,by rw[← hw];exact hc.2⟩
  ·rw[if_neg hc] at h ⊢
   obtain ⟨v,hv,h3,h4⟩:=tryAll_mem h
   rw[h4]
   split at h3
   ·exact absurd rfl h3
   ·rename_i hno
    rw[if_neg hno]
    rw[List.mem_range'_1] at hv
    have hvm:v∉f :: r:=fun e=>hno (.inr e)
    have hva:a v (kE f r)≠BOT:=fun e=>hno (.inl e)
    refine growF_w k f (r++[v]) _ hf (fun x hx=>?_) ?_ ((kP_app r [v] f).2 ⟨hp,hva,trivial⟩) ?_ h3
    ·rcases List.mem_append.1 hx with hx|hx
     ·exact hr x hx
     ·simp at hx;omega
    ·rw[← List.cons_append,List.nodup_append]
     exact ⟨hn,by simp,fun x hx y hy e=>by simp at hy;subst hy;subst e;exact hvm hx⟩
    ·rw[kW_app,hw];simp[kW]
theorem growF_f {a:Nat→Nat→Int}{n:Nat}{over:Int}:∀ (k:Nat) (f:Nat) (e r:List Nat),CyW a n over f (r++e)→e.length+1≤k→growF a n over k (f :: r) (kW a f r)≠[]
 | 0,_,_,_,_,hk=>by omega
 | k+1,f,e,r,h,hk=>by
  unfold growF
  have hhd:hdN (f :: r)=f:=rfl
  rw[hhd,lsN_kE]
  by_cases hc:a f (kE f r)≠BOT∧over<kW a f r+a f (kE f r)
  ·rw[if_pos hc];simp
  ·rw[if_neg hc]
   cases e with
   | nil=>
    rw[List.append_nil] at h
    exact absurd ⟨h.close,h.more⟩ hc
   | cons v e=>
    have hp:=h.path
    rw[kP_app] at hp
    have hv:=h.gt v (by simp)
    have hva:a v (kE f r)≠BOT:=hp.2.1
    have hvm:v∉f :: r:=fun hm=>by
     have hnd:=h.nd
     rw[← List.cons_append,List.nodup_append] at hnd
     exact hnd.2.2 v hm v (by simp) rfl
    rw[tryAll_ne]
    refine ⟨v,by rw[List.mem_range'_1];omega,?_⟩
    rw[if_neg (by rintro (h1|h1);exact hva h1;exact hvm h1)]
    have:=growF_f k f e (r++[v]) (by rw[List.append_assoc];exact h) (by simp at hk;omega)
    rw[kW_app] at this
    simp only[kW,Int.add_zero] at this
    exact this
theorem overF_w {a:Nat→Nat→Int}{n:Nat}{over:Int} (h:overF a n over≠[]):∃ f r,overF a n over=f :: r∧CyW a n over f r:=by
 obtain ⟨v,hv,h3,h4⟩:=tryAll_mem h
 rw[List.mem_range'_1] at hv
 unfold overF
 rw[h4]
 obtain ⟨r',e,hc⟩:=growF_w n v [] 0 (by omega) (by simp) (by simp) trivial rfl h3
 exact ⟨v,r',e,hc⟩
theorem overF_f {a:Nat→Nat→Int}{n:Nat}{over:Int}{f:Nat}{r:List Nat} (h:CyW a n over f r):overF a n over≠[]:=by
 unfold overF
 rw[tryAll_ne]
 refine ⟨f,by rw[List.mem_range'_1];have:=h.lt;omega,?_⟩
 exact growF_f n f r [] h h.len
theorem cyw_of {a:Nat→Nat→Int}{n:Nat}{over:Int} (hov:over=0∨over=-1):∀ (m:Nat) (z:Nat) (L:List Nat),L.length≤m→z<n→(∀ x∈L,x<n)→L≠[]→kP a z L→kE z L=z→over<kW a z L→∃ f r,CyW a n over f r:=by
 intro m
 induction m with
 | zero=>
  intro z L hm _ _ h0 _ _ _
  exact absurd (List.length_eq_zero_iff.1 (by omega)) h0
 | succ m ih=>
  intro z L hm hz hL h0 hp he hw
  obtain ⟨L',y,rfl⟩:=snoc_of h0
  have hy:y=z:=by rw[kE_app] at he;exact he
  subst hy
  by_cases hn:(y :: L').Nodup
  ·
   have hmin:∀ (l:List Nat),l≠[]→∃ f,f∈l∧∀ x∈l,f≤x:=by
    intro l
    induction l with
    | nil=>intro h;exact absurd rfl h
    | cons b l ihl=>
     intro _
     by_cases hl:l=[]
     ·subst hl;exact ⟨b,by simp,fun x hx=>by simp at hx;omega⟩
     ·obtain ⟨f,f1,f2⟩:=ihl hl
      by_cases hbf:b≤f
      ·exact ⟨b,by simp,fun x hx=>by
        rcases List.mem_cons.1 hx with rfl|hx
        ·exact Nat.le_refl _
        ·exact Nat.le_trans hbf (f2 x hx)⟩
      ·exact ⟨f,by simp[f1],fun x hx=>by
        rcases List.mem_cons.1 hx with rfl|hx
        ·omega
        ·exact f2 x hx⟩
   obtain ⟨f,f1,f2⟩:=hmin (y :: L') (by simp)
   rcases List.mem_cons.1 f1 with rfl|f1
   ·rw[kP_app] at hp
    rw[kW_app] at hw
    refine ⟨f,L',hz,fun x hx=>?_,hn,hp.1,hp.2.1,by simpa [kW] using hw⟩
    have:=f2 x (by simp[hx])
    have hne:f≠x:=fun e=>(List.nodup_cons.1 hn).1 (by rw[e];exact hx)
    have:=hL x (by simp[hx])
    omega
   ·obtain ⟨A,B,rfl⟩:=List.append_of_mem f1
    have hp1:kP a f (B++[y]++(A++[f]))∧kW a f (B++[y]++(A++[f]))=kW a y (A++f :: B++[y])∧kE f (B++[y])=y:=by
     have e1:A++f :: B++[y]=(A++[f])++(B++[y]):=by simp
     rw[e1,kP_app] at hp
     rw[e1,kE_app] at he
     have e2:kE y (A++[f])=f:=by rw[kE_app];rfl
     rw[e2] at hp he
     refine ⟨(kP_app _ _ _).2 ⟨hp.2,by rw[he];exact hp.1⟩,?_,he⟩
     rw[e1,kW_app (B++[y]) (A++[f]) f,kW_app (A++[f]) (B++[y]) y,e2,he];omega
    obtain ⟨hp1,hw1,he1⟩:=hp1
    have e3:B++[y]++(A++[f])=(B++[y]++A)++[f]:=by simp
    rw[e3,kP_app] at hp1
    rw[← hw1,e3,kW_app] at hw
    have hmem:∀ x∈B++[y]++A,x∈y :: (A++f :: B)∧x≠f:=fun x hx=>by
     have hnd:=hn
     rw[List.nodup_cons,List.nodup_append,List.nodup_cons] at hnd
     obtain ⟨n1,n2,n3,n4⟩:=hnd
     rcases List.mem_append.1 hx with hx|hx
     ·rcases List.mem_append.1 hx with hx|hx
      ·exact ⟨by simp[hx],fun e=>n3.1 (by rw[← e];exact hx)⟩
      ·simp at hx;subst hx;exact ⟨by simp,fun e=>n1 (by rw[e];simp)⟩
     ·exact ⟨by simp[hx],fun e=>n4 x hx f (by simp) e⟩
    refine ⟨f,B++[y]++A,hL f (by simp),fun x hx=>?_,?_,hp1.1,hp1.2.1,by simpa [kW] using hw⟩
    ·obtain ⟨g1,g2⟩:=hmem x hx
     have:=f2 x g1
     have:x<n:=by
      rcases List.mem_cons.1 g1 with rfl|g1
      ·exact hz
      ·exact hL x (by simp at g1 ⊢;rcases g1 with g1|g1|g1<;>simp[g1])
     omega
    ·have hperm:(f :: (B++[y]++A)).Perm (y :: (A++f :: B)):=by
      have h1:(f :: (B++[y]++A))=(f :: B)++(y :: A):=by simp
      have h2:(y :: (A++f :: B))=(y :: A)++(f :: B):=by simp
      rw[h1,h2]
      exact List.perm_append_comm
     exact hperm.nodup_iff.2 hn
  ·
   obtain ⟨A,x,B,C,e⟩:=dup_at hn
   have key:∃ a1 b1 c1,L'++[y]=a1++(b1++c1)∧b1≠[]∧c1≠[]∧kE (kE y a1) b1=kE y a1:=by
    cases A with
    | nil=>
     simp only[List.nil_append,List.cons.injEq] at e
     obtain ⟨rfl,rfl⟩:=e
     exact ⟨[],B++[y],C++[y],by simp,by simp,by simp,by simp only[kE];rw[kE_app];rfl⟩
    | cons t A=>
     simp only[List.cons_append,List.cons.injEq] at e
     obtain ⟨rfl,rfl⟩:=e
     exact ⟨A++[x],B++[x],C++[y],by simp,by simp,by simp,by simp only[kE_app,kE]⟩
   obtain ⟨a1,b1,c1,e1,hb,hc,hr⟩:=key
   rw[e1] at hm hL hp he hw
   rw[kP_app,kP_app,hr] at hp
   rw[kE_app,kE_app,hr] at he
   rw[kW_app,kW_app,hr] at hw
   have ha:∀ t∈a1,t<n:=fun t ht=>hL t (by simp[ht])
   have hbm:∀ t∈b1,t<n:=fun t ht=>hL t (by simp[ht])
   have hcm:∀ t∈c1,t<n:=fun t ht=>hL t (by simp[ht])
   have hb0:=List.length_pos_iff.2 hb
   have hc0:=List.length_pos_iff.2 hc
   simp only[List.length_append] at hm
   have hsum:kW a y (a1++c1)=kW a y a1+kW a (kE y a1) c1:=kW_app _ _ _
   by_cases h1:over<kW a (kE y a1) b1
   ·exact ih (kE y a1) b1 (by omega) (kE_lt hz ha) hbm hb hp.2.1 hr h1
   ·refine ih y (a1++c1) (by simp;omega) hz (fun t ht=>by
     rcases List.mem_append.1 ht with ht|ht
     ·exact ha t ht
     ·exact hcm t ht) (by simp[hc]) ((kP_app a1 c1 y).2 ⟨hp.1,hp.2.2⟩) (by rw[kE_app];exact he) (by rw[hsum];omega)
def shF (W:Nat→Nat→Int) (p q:Int):Nat→Nat→Int:=fun v u=>if W v u=BOT then BOT else q*W v u - p
section
variable {W : Nat → Nat → Int} {n : Nat} {p q : Int} (hs : ∀ u v, W v u ≠ BOT → q * W v u - p ≠ BOT)
include hs
theorem shF_ne {u v:Nat}:shF W p q v u≠BOT↔W v u≠BOT:=by
 unfold shF
 by_cases h:W v u=BOT
 ·rw[if_pos h];exact ⟨fun h2=>absurd rfl h2,fun h2=>absurd h h2⟩
 ·rw[if_neg h];exact ⟨fun _=>h,fun _=>hs u v h⟩
theorem shF_p:∀ {l:List Nat}{u:Nat},kP (shF W p q) u l↔kP W u l
 | [],_=>Iff.rfl
 | v :: l,u=>by
  simp only[kP]
  rw[shF_ne hs,shF_p]
omit hs in
theorem shF_w:∀ {l:List Nat}{u:Nat},kP W u l→kW (shF W p q) u l=kV W p q u l
 | [],_,_=>by simp[kW,kV]
 | v :: l,u,h=>by
  have ih:=shF_w (l:=l) (u:=v) h.2
  have e:shF W p q v u=q*W v u - p:=by unfold shF;rw[if_neg h.1]
  simp only[kW]
  rw[ih,e]
  unfold kV
  simp only[kW,List.length_cons]
  rw[Int.mul_add,show ((l.length+1:Nat):Int)=(l.length:Int)+1 by omega,Int.mul_add]
  omega
theorem mean_of (hq:0<q) (hno:overF (shF W p q) n 0=[]) {f:Nat}{r:List Nat} (hf:f<n) (hr:∀ x∈r,x<n) (hp:kP W f r) (hc:W f (kE f r)≠BOT) (h0:q*(kW W f r+W f (kE f r)) - p*((r.length:Int)+1)=0):KMean W n p q:=by
 refine ⟨hq,fun u l hu hl h1 h2=>?_,f,r++[f],hf,fun x hx=>?_,by simp,(kP_app r [f] f).2 ⟨hp,hc,trivial⟩,by rw[kE_app];rfl,?_⟩
 ·apply Classical.byContradiction
  intro hn
  have hw:=shF_w (p:=p) (q:=q) h1
  by_cases he:l=[]
  ·subst he;simp[kV,kW] at hn
  ·obtain ⟨f,r,hcy⟩:=cyw_of (a:=shF W p q) (n:=n) (over:=0) (.inl rfl) l.length u l (Nat.le_refl _) hu hl he ((shF_p hs).2 h1) h2 (by rw[hw];omega)
   exact overF_f hcy hno
 ·rcases List.mem_append.1 hx with hx|hx
  ·exact hr x hx
  ·simp at hx;omega
 ·unfold kV
  rw[kW_app,List.length_append]
  simp only[kW,List.length_cons,List.length_nil]
  rw[show ((r.length+(0+1):Nat):Int)=(r.length:Int)+1 by omega,Int.add_zero]
  exact h0
end
end
section
structure KStar (W:Nat→Nat→Int) (n:Nat) (s:Nat→Nat→Int):Prop where
 at':∀ u v,u<n→v<n→s v u=BOT∨∃ l,(∀ x∈l,x<n)∧kP W u l∧kE u l=v∧kW W u l=s v u
 ge:∀ u l,u<n→(∀ x∈l,x<n)→kP W u l→s (kE u l) u≠BOT∧kW W u l≤s (kE u l) u
 np:∀ u l,u<n→(∀ x∈l,x<n)→kP W u l→kE u l=u→kW W u l≤0
def crit (W s:Nat→Nat→Int) (v u:Nat):Prop:=W v u≠BOT∧s u v≠BOT∧W v u+s u v=0
def kC (W s:Nat→Nat→Int):Nat→List Nat→Prop
 | _,[]=>True
 | u,v :: l=>crit W s v u∧kC W s v l
theorem kC_app {W s:Nat→Nat→Int}:∀ (a b:List Nat) (u:Nat),kC W s u (a++b)↔kC W s u a∧kC W s (kE u a) b
 | [],b,u=>by simp[kC,kE]
 | v :: a,b,u=>by simp only[List.cons_append,kC,kE,kC_app a b v,and_assoc]
theorem kC_path {W s:Nat→Nat→Int}:∀ {l:List Nat}{u:Nat},kC W s u l→kP W u l
 | [],_,_=>trivial
 | _ :: _,_,h=>⟨h.1.1,kC_path h.2⟩
section
variable {W s : Nat → Nat → Int} {n : Nat} (h : KStar W n s)
include h
theorem KStar.super {u m v:Nat} (hu:u<n) (hm:m<n) (hv:v<n) (h1:s m u≠BOT) (h2:s v m≠BOT):s v u≠BOT∧s m u+s v m≤s v u:=by
 rcases h.at' u m hu hm with e|⟨a,a1,a2,a3,a4⟩
 ·exact absurd e h1
 ·rcases h.at' m v hm hv with e|⟨b,b1,b2,b3,b4⟩
  ·exact absurd e h2
  ·have:=h.ge u (a++b) hu (fun x hx=>by
    rcases List.mem_append.1 hx with hx|hx
    ·exact a1 x hx
    ·exact b1 x hx) ((kP_app a b u).2 ⟨a2,by rw[a3];exact b2⟩)
   rw[kE_app,a3,b3,kW_app,a3,a4,b4] at this
   exact this
theorem KStar.dia {u:Nat} (hu:u<n):s u u≠BOT∧s u u=0:=by
 have h1:=h.ge u [] hu (by simp) trivial
 simp only[kE,kW] at h1
 refine ⟨h1.1,?_⟩
 rcases h.at' u u hu hu with e|⟨l,l1,l2,l3,l4⟩
 ·exact absurd e h1.1
 ·have:=h.np u l hu l1 l2 l3
  omega
theorem KStar.back:∀ {l:List Nat}{u:Nat},u<n→(∀ x∈l,x<n)→kC W s u l→s u (kE u l)≠BOT∧- kW W u l≤s u (kE u l)
 | [],u,hu,_,_=>by
  have:=h.dia hu
  simp only[kE,kW]
  exact ⟨this.1,by omega⟩
 | v :: l,u,hu,hl,hc=>by
  have hv:=hl v (by simp)
  have hl':∀ x∈l,x<n:=fun x hx=>hl x (by simp[hx])
  obtain ⟨g1,g2⟩:=KStar.back (l:=l) hv hl' hc.2
  have h3:=h.super (kE_lt hv hl') hv hu g1 hc.1.2.1
  have:=hc.1.2.2
  simp only[kE,kW]
  exact ⟨h3.1,by omega⟩
theorem KStar.zero {u:Nat}{l:List Nat} (hu:u<n) (hl:∀ x∈l,x<n) (hc:kC W s u l) (he:kE u l=u):kW W u l=0:=by
 have h1:=(h.back hu hl hc).2
 rw[he,(h.dia hu).2] at h1
 have:=h.np u l hu hl (kC_path hc) he
 omega
theorem KStar.arc {v u:Nat} (hu:u<n) (hv:v<n) (ha:W v u≠BOT) (hs:s u v≠BOT):W v u+s u v≤0:=by
 rcases h.at' v u hv hu with e|⟨l,l1,l2,l3,l4⟩
 ·exact absurd e hs
 ·have:=h.np u (v :: l) hu (fun x hx=>by
   rcases List.mem_cons.1 hx with rfl|hx
   ·exact hv
   ·exact l1 x hx) ⟨ha,l2⟩ l3
  simp only[kW] at this
  omega
theorem KStar.crit:∀ {b a:List Nat}{u:Nat},u<n→(∀ x∈a++b,x<n)→kP W u (a++b)→kE u (a++b)=u→kW W u (a++b)=0→kC W s (kE u a) b
 | [],_,_,_,_,_,_,_=>trivial
 | v :: b,a,u,hu,hl,hp,he,hw=>by
  have hv:=hl v (by simp)
  have ha:∀ x∈a,x<n:=fun x hx=>hl x (by simp[hx])
  have hb:∀ x∈b,x<n:=fun x hx=>hl x (by simp[hx])
  have hp2:=(kP_app a (v :: b) u).1 hp
  have he2:=he
  have hw2:=hw
  rw[kE_app] at he2
  rw[kW_app] at hw2
  simp only[kE] at he2
  simp only[kW] at hw2
  have hm:=kE_lt hu ha
  have hge:=h.ge v (b++a) hv (fun x hx=>by
   rcases List.mem_append.1 hx with hx|hx
   ·exact hb x hx
   ·exact ha x hx) ((kP_app b a v).2 ⟨hp2.2.2,by rw[he2];exact hp2.1⟩)
  rw[kE_app,he2,kW_app,he2] at hge
  have harc:=h.arc hm hv hp2.2.1 hge.1
  refine ⟨⟨hp2.2.1,hge.1,by omega⟩,?_⟩
  have e:a++v :: b=(a++[v])++b:=by simp
  have:=KStar.crit (b:=b) (a:=a++[v]) hu (by rw[← e];exact hl) (by rw[← e];exact hp) (by rw[← e];exact he) (by rw[← e];exact hw)
  rw[kE_app] at this
  exact this
end
theorem growF_pre {a:Nat→Nat→Int}{n:Nat}{over:Int}:∀ (k:Nat) (l:List Nat) (w:Int),growF a n over k l w≠[]→∃ e,growF a n over k l w=l++e
 | 0,_,_,h=>absurd rfl h
 | k+1,l,w,h=>by
  unfold growF at h ⊢
  split
  ·exact ⟨[],by simp⟩
  ·rename_i hc
   rw[if_neg hc] at h
   obtain ⟨v,hv,h3,h4⟩:=tryAll_mem h
   rw[h4]
   split at h3
   ·exact absurd rfl h3
   ·rename_i hno
    rw[if_neg hno]
    obtain ⟨e,he⟩:=growF_pre k _ _ h3
    exact ⟨v :: e,by rw[he];simp⟩
section
variable {W s C : Nat → Nat → Int} {n : Nat} (h : KStar W n s) (hC : ∀ u v, u < n → v < n → (C v u ≠ BOT ↔ crit W s v u))
include h
theorem found_crit {k f:Nat}{r:List Nat} (hf:f<n) (hr:∀ x∈r,f<x∧x<n) (hn:(f :: r).Nodup) (hp:kP W f r) (hg:growF W n (-1) k (f :: r) (kW W f r)≠[]):kC W s f r:=by
 obtain ⟨r',e,hc⟩:=growF_w k f r _ hf hr hn hp rfl hg
 obtain ⟨t,ht⟩:=growF_pre k (f :: r) _ hg
 rw[e] at ht
 simp only[List.cons_append,List.cons.injEq,true_and] at ht
 subst ht
 have hl:∀ x∈[]++((r++t)++[f]),x<n:=fun x hx=>by
  simp only[List.nil_append,List.mem_append,List.mem_singleton] at hx
  rcases hx with (hx|hx)|hx
  ·exact (hr x hx).2
  ·exact (hc.gt x (by simp[hx])).2
  ·omega
 have hcl:kP W f ((r++t)++[f]):=(kP_app (r++t) [f] f).2 ⟨hc.path,hc.close,trivial⟩
 have hce:kE f ((r++t)++[f])=f:=by rw[kE_app];rfl
 have hw:kW W f ((r++t)++[f])=0:=by
  have h1:=h.np f _ hf (by simpa using hl) hcl hce
  have h2:=hc.more
  have e3:kW W f ((r++t)++[f])=kW W f (r++t)+W f (kE f (r++t)):=by rw[kW_app];simp[kW]
  omega
 have:=h.crit (b:=(r++t)++[f]) (a:=[]) hf hl hcl hce hw
 rw[List.append_assoc,kC_app] at this
 exact this.1
include hC
theorem grow_go:∀ (k f:Nat) (r:List Nat),f<n→(∀ x∈r,f<x∧x<n)→(f :: r).Nodup→kC W s f r→growF W n (-1) k (f :: r) (kW W f r)=goF C n k (f :: r)
 | 0,_,_,_,_,_,_=>rfl
 | k+1,f,r,hf,hr,hn,hc=>by
  have hrl:∀ x∈r,x<n:=fun x hx=>(hr x hx).2
  have hel:=kE_lt hf hrl
  have hp:=kC_path hc
  simp only[growF,goF]
  have hhd:hdN (f :: r)=f:=rfl
  rw[hhd,lsN_kE]
  have hl:∀ x∈r++[f],x<n:=fun x hx=>by
   rcases List.mem_append.1 hx with hx|hx
   ·exact hrl x hx
   ·simp at hx;omega
  have hce:kE f (r++[f])=f:=by rw[kE_app];rfl
  have e3:kW W f (r++[f])=kW W f r+W f (kE f r):=by rw[kW_app];simp[kW]
  by_cases hcr:crit W s f (kE f r)
  ·have hz:=h.zero hf hl ((kC_app r [f] f).2 ⟨hc,hcr,trivial⟩) hce
   rw[if_pos ⟨hcr.1,by omega⟩,if_pos ((hC (kE f r) f hel hf).2 hcr)]
  ·rw[if_neg (fun h2=>by
    have hcl:kP W f (r++[f]):=(kP_app r [f] f).2 ⟨hp,h2.1,trivial⟩
    have h1:=h.np f _ hf hl hcl hce
    have:=h.crit (b:=r++[f]) (a:=[]) hf (by simpa using hl) hcl hce (by show kW W f (r++[f])=0;omega)
    have:=((kC_app r [f] f).1 this).2.1
    exact hcr this),if_neg (fun h2=>hcr ((hC (kE f r) f hel hf).1 h2))]
   refine tryAll_congr fun v hv=>?_
   rw[List.mem_range'_1] at hv
   by_cases hvm:v∈f :: r
   ·rw[if_pos (.inr hvm),if_pos (.inr hvm)]
   ·have hn2:(f :: (r++[v])).Nodup:=by
     rw[← List.cons_append,List.nodup_append]
     exact ⟨hn,by simp,fun x hx y hy e=>by simp at hy;subst hy;subst e;exact hvm hx⟩
    have hr2:∀ x∈r++[v],f<x∧x<n:=fun x hx=>by
     rcases List.mem_append.1 hx with hx|hx
     ·exact hr x hx
     ·simp at hx;omega
    have e4:kW W f (r++[v])=kW W f r+W v (kE f r):=by rw[kW_app];simp[kW]
    by_cases hcv:crit W s v (kE f r)
    ·rw[if_neg (by rintro (h1|h1);exact hcv.1 h1;exact hvm h1),if_neg (by rintro (h1|h1);exact (hC (kE f r) v hel (by omega)).2 hcv h1;exact hvm h1)]
     rw[List.cons_append,← e4]
     exact grow_go k f (r++[v]) hf hr2 hn2 ((kC_app r [v] f).2 ⟨hc,hcv,trivial⟩)
    ·have hcb:C v (kE f r)=BOT:=Classical.byContradiction fun h2=>hcv ((hC (kE f r) v hel (by omega)).1 h2)
     by_cases hwb:W v (kE f r)=BOT
     ·rw[if_pos (.inl hwb),if_pos (.inl hcb)]
     ·rw[if_neg (by rintro (h1|h1);exact hwb h1;exact hvm h1),if_pos (.inl hcb)]
      apply Classical.byContradiction
      intro hg
      rw[List.cons_append,← e4] at hg
      have:=found_crit h hf hr2 hn2 ((kP_app r [v] f).2 ⟨hp,hwb,trivial⟩) hg
      exact hcv ((kC_app r [v] f).1 this).2.1
theorem best_fst:overF W n (-1)=fstF C n:=
 tryAll_congr fun v hv=>by
  rw[List.mem_range'_1] at hv
  exact grow_go h hC n v [] (by omega) (by simp) (by simp) trivial
end
theorem star_k {W:Nat→Nat→Int}{n:Nat}{s:Nat→Nat→Int} (hs:StarOk W n s) (hnp:∀ u l,u<n→(∀ x∈l,x<n)→kP W u l→kE u l=u→kW W u l≤0):KStar W n s:=by
 have key:∀ (c:List Nat) (u v:Nat),WM W u c v↔kP W u (c++[v]):=by
  intro c
  induction c with
  | nil=>intro u v;simp[WM,kP]
  | cons m c ih=>intro u v;simp only[WM,List.cons_append,kP];rw[ih]
 have keyw:∀ (c:List Nat) (u v:Nat),wM W u c v=kW W u (c++[v]):=by
  intro c
  induction c with
  | nil=>intro u v;simp[wM,kW]
  | cons m c ih=>intro u v;simp only[wM,List.cons_append,kW];rw[ih]
 refine ⟨fun u v hu hv=>?_,fun u l hu hl hp=>?_,hnp⟩
 ·rcases hs.some u v hu hv with e|⟨e1,e2⟩|⟨c,c1,c2,c3⟩
  ·exact .inl e
  ·exact .inr ⟨[],by simp,trivial,e1,by rw[e2];rfl⟩
  ·refine .inr ⟨c++[v],fun x hx=>?_,(key c u v).1 c1,by rw[kE_app];rfl,by rw[c3,keyw]⟩
   rcases List.mem_append.1 hx with hx|hx
   ·exact c2 x hx
   ·simp at hx;omega
 ·by_cases h0:l=[]
  ·subst h0;exact hs.dia u hu
  ·obtain ⟨c,v,rfl⟩:=snoc_of h0
   have hc:∀ x∈c,x<n:=fun x hx=>hl x (by simp[hx])
   have:=hs.all u v c hu (hl v (by simp)) hc ((key c u v).2 hp)
   rw[kE_app]
   simp only[kE]
   rw[keyw] at this
   exact this
end
section
open Go Go.RowKit
attribute [local irreducible] AL AD AW OpOk Le AC thenQ blockQ EndQ
def cmpI (x y:Int):Int:=if x<y then -1 else if y<x then 1 else 0
def crI (a b:Int × Int):Int:=cmpI (a.1*b.2) (b.1*a.2)
def smallR (a:Int × Int):Prop:=(0≤a.1∧a.1≤1000000)∧(0≤a.2∧a.2≤1000000)
theorem smallR.mul [Mode] {a b:Int × Int} (h:smallR a) (k:smallR b):(0≤a.1*b.2∧a.1*b.2≤1000000000000)∧(0≤b.1*a.2∧b.1*a.2≤1000000000000):=
 ⟨mul_in h.1 k.2,mul_in k.1 h.2⟩
theorem isNaN_ac [Mode] (x:Int):AC Tryz.prog 180 [I x] H0 (Bo false) H0:=by
 refine AC.of_body 0 Tryz.func180 rfl (fun l h=>absurd rfl h) (fun C hC=>?_)
 have hD:∀ l,¬ C.D0 l:=fun l h=>(hC l).1 h rfl
 simp only[startFr,Tryz.ntmps180,List.length_cons,List.length_nil,Nat.reduceAdd,Nat.reduceSub,List.replicate_succ,List.replicate_zero,List.cons_append,List.nil_append]
 repeat' (first|((first|apply Ba|(apply Bb;(· rfl);(· rfl))|(apply Bc;(· exact nxE))|(apply Bd;(· rfl);(· rfl);(· exact nxE)));(· first|exact Ok.pe))|((first|apply Ca|(apply Cb;(· exact nxE)));(· first|exact Ok.e0))|refine Sx ?_|(refine Sy (fun h=>?_) (fun h=>?_)<;>try (exfalso;omega;done))|refine Sz (fun h=>?_) (fun h=>?_))
 refine Ya ?_
 (apply Le.headZ (hs:=[]) [] rfl)
 all_goals (try dsimp only[srcs])
 (case' hfr=>(repeat' (first|refine La ?_ ?_|exact Lc|refine Lo ?_|refine ⟨⟨_,rfl,?_⟩,?_⟩|refine Lx ?_)))
 all_goals (first|exact Ld|exact trivial|((simp;done)))
theorem compareI_ac [Mode] (x y : Int) : AC Tryz.prog 165 [I x, I y] H0 (I (cmpI x y)) H0 := by
  unfold cmpI
  refine AC.of_body 0 Tryz.func165 rfl (fun l h => absurd rfl h) (fun C hC => ?_)
  have hD : ∀ l, ¬ C.D0 l := fun l h => (hC l).1 h rfl
  simp only [startFr, Tryz.ntmps165, List.length_cons, List.length_nil, Nat.reduceAdd, Nat.reduceSub, List.replicate_succ, List.replicate_zero, List.cons_append, List.nil_append]
  repeat' (first | ((first | apply Ba | (apply Bb; (· rfl); (· rfl)) | (apply Bc; (· exact nxE)) | (apply Bd; (· rfl); (· rfl); (· exact nxE))); (· first | exact Kz rfl rfl (isNaN_ac _) (Ad An) | exact Ok.pe)) | ((first | apply Ca | (apply Cb; (· exact nxE))); (· first | exact Ok.e0)) | refine Sx ?_ | (refine Sy (fun h => ?_) (fun h => ?_) <;> try (exfalso; omega; done)) | refine Sz (fun h => ?_) (fun h => ?_))
  all_goals first
    | (rw [if_pos (by omega)]
       refine Ya ?_
       (apply Le.headZ (hs := []) [] rfl)
       all_goals (try dsimp only [srcs])
       (case' hfr => (repeat' (first | refine La ?_ ?_ | exact Lc | refine Lo ?_ | refine ⟨⟨_, rfl, ?_⟩, ?_⟩ | refine Lx ?_)))
       all_goals (first | exact Ld | exact trivial | (rfl))
       done)
    | (rw [if_neg (by omega), if_pos (by omega)]
       refine Ya ?_
       (apply Le.headZ (hs := []) [] rfl)
       all_goals (try dsimp only [srcs])
       (case' hfr => (repeat' (first | refine La ?_ ?_ | exact Lc | refine Lo ?_ | refine ⟨⟨_, rfl, ?_⟩, ?_⟩ | refine Lx ?_)))
       all_goals (first | exact Ld | exact trivial | (rfl))
       done)
    | (rw [if_neg (by omega), if_neg (by omega)]
       refine Ya ?_
       (apply Le.headZ (hs := []) [] rfl)
       all_goals (try dsimp only [srcs])
       (case' hfr => (repeat' (first | refine La ?_ ?_ | exact Lc | refine Lo ?_ | refine ⟨⟨_, rfl, ?_⟩, ?_⟩ | refine Lx ?_)))
       all_goals (first | exact Ld | exact trivial | (rfl))
       done)
end
section
open Go Go.RowKit
attribute [local irreducible] AL AD AW OpOk Le AC thenQ blockQ EndQ
theorem l01DivisorZ_ac [Mode] (a:Int) (b:Nat) (ha : -1000000000000000000≤a∧a≤1000000000000000000) (hb:b≤1000000000000000000):AC Tryz.prog 98 [I a,I b] H0 (I (Nat.gcd a.natAbs b:Nat)) H0:=by
 refine AC.of_body 0 Tryz.func98 rfl (fun l h=>absurd rfl h) (fun C hC=>?_)
 have hD:∀ l,¬ C.D0 l:=fun l h=>(hC l).1 h rfl
 simp only[startFr,Tryz.ntmps98,List.length_cons,List.length_nil,Nat.reduceAdd,Nat.reduceSub,List.replicate_succ,List.replicate_zero,List.cons_append,List.nil_append]
 repeat' (first|((first|apply Ba|(apply Bb;(· rfl);(· rfl))|(apply Bc;(· exact nxE))|(apply Bd;(· rfl);(· rfl);(· exact nxE)));(· first|exact Ok.pe))|((first|apply Ca|(apply Cb;(· exact nxE)));(· first|exact Ok.e0))|refine Sx ?_|(refine Sy (fun h=>?_) (fun h=>?_)<;>try (exfalso;omega;done))|refine Sz (fun h=>?_) (fun h=>?_))
 refine AW.loop (X:={p:Nat × Nat // Nat.gcd p.1 p.2=Nat.gcd a.natAbs b∧p.1≤1000000000000000000∧p.2≤1000000000000000000}) (fun p=>⟨[I (p.1.1:Nat),I (p.1.2:Nat),Oo,Oo,Oo,Oo,Oo,Oo,Oo,Oo,Oo,Oo,Oo,Oo,Oo,Oo,Oo,Oo,Oo,Oo],heapL [],900⟩) (fun p=>p.1.2) ⟨(a.natAbs,b),rfl,by simp only;omega,hb⟩ ?_ (fun p=>?_)
 ·
  (apply Le.headZ [] rfl)
  all_goals (try dsimp only[srcs])
  (case' hfr|hob=>(repeat' (first|refine La ?_ ?_|exact Lc|refine Lo ?_|refine ⟨⟨_,rfl,?_⟩,?_⟩|refine Lx ?_)))
  all_goals (first|(rfl)|exact Ld)
 obtain ⟨⟨x,y⟩,hg,hx,hy⟩:=p
 simp only at hg hx hy ⊢
 by_cases h0:0<y
 ·
  repeat' (first|((first|apply Ba|(apply Bb;(· rfl);(· rfl))|(apply Bc;(· exact nxE))|(apply Bd;(· rfl);(· rfl);(· exact nxE)));(· first|exact Ok.rem rfl rfl rfl (by omega)|exact Ok.pe))|((first|apply Ca|(apply Cb;(· exact nxE)));(· first|exact Ok.e0))|refine Sx ?_|(refine Sy (fun h=>?_) (fun h=>?_)<;>try (exfalso;omega;done))|refine Sz (fun h=>?_) (fun h=>?_))
  refine ⟨⟨(y,x % y),by rw[← hg,Nat.gcd_comm y (x % y),← Nat.gcd_rec,Nat.gcd_comm],hy,by have:=Nat.mod_lt x h0;simp only;omega⟩,?_,by simp only;exact Nat.mod_lt x h0⟩
  (apply Le.headZ [] rfl)
  all_goals (try dsimp only[srcs])
  (case' hfr|hob=>(repeat' (first|refine La ?_ ?_|exact Lc|refine Lo ?_|refine ⟨⟨_,rfl,?_⟩,?_⟩|refine Lx ?_)))
  all_goals (first|(rfl)|exact Ld)
 ·
  obtain rfl:y=0:=by omega
  rw[Nat.gcd_zero_right] at hg
  subst hg
  repeat' (first|((first|apply Ba|(apply Bb;(· rfl);(· rfl))|(apply Bc;(· exact nxE))|(apply Bd;(· rfl);(· rfl);(· exact nxE)));(· first|exact Ok.pe))|((first|apply Ca|(apply Cb;(· exact nxE)));(· first|exact Ok.e0))|refine Sx ?_|(refine Sy (fun h=>?_) (fun h=>?_)<;>try (exfalso;omega;done))|refine Sz (fun h=>?_) (fun h=>?_))
  refine Ya ?_
  (apply Le.headZ (hs:=[]) [] rfl)
  all_goals (try dsimp only[srcs])
  (case' hfr=>(repeat' (first|refine La ?_ ?_|exact Lc|refine Lo ?_|refine ⟨⟨_,rfl,?_⟩,?_⟩|refine Lx ?_)))
  all_goals (first|exact Ld|exact trivial|(rfl))
theorem absOfZ_ac [Mode] (a:Int) (ha : -1000000000000000000≤a∧a≤1000000000000000000):AC Tryz.prog 106 [I a] H0 (I (a.natAbs:Nat)) H0:=by
 by_cases h:a<0
 ·rw[show ((a.natAbs:Nat):Int)=-a by omega]
  refine AC.of_body 0 Tryz.func106 rfl (fun l h=>absurd rfl h) (fun C hC=>?_)
  have hD:∀ l,¬ C.D0 l:=fun l h=>(hC l).1 h rfl
  simp only[startFr,Tryz.ntmps106,List.length_cons,List.length_nil,Nat.reduceAdd,Nat.reduceSub,List.replicate_succ,List.replicate_zero,List.cons_append,List.nil_append]
  repeat' (first|((first|apply Ba|(apply Bb;(· rfl);(· rfl))|(apply Bc;(· exact nxE))|(apply Bd;(· rfl);(· rfl);(· exact nxE)));(· first|exact Ok.pe))|((first|apply Ca|(apply Cb;(· exact nxE)));(· first|exact Ok.e0))|refine Sx ?_|(refine Sy (fun h=>?_) (fun h=>?_)<;>try (exfalso;omega;done))|refine Sz (fun h=>?_) (fun h=>?_))
  refine Ya ?_
  (apply Le.headZ (hs:=[]) [] rfl)
  all_goals (try dsimp only[srcs])
  (case' hfr=>(repeat' (first|refine La ?_ ?_|exact Lc|refine Lo ?_|refine ⟨⟨_,rfl,?_⟩,?_⟩|refine Lx ?_)))
  all_goals (first|exact Ld|exact trivial|(rfl))
 ·rw[show ((a.natAbs:Nat):Int)=a by omega]
  refine AC.of_body 0 Tryz.func106 rfl (fun l h=>absurd rfl h) (fun C hC=>?_)
  have hD:∀ l,¬ C.D0 l:=fun l h=>(hC l).1 h rfl
  simp only[startFr,Tryz.ntmps106,List.length_cons,List.length_nil,Nat.reduceAdd,Nat.reduceSub,List.replicate_succ,List.replicate_zero,List.cons_append,List.nil_append]
  repeat' (first|((first|apply Ba|(apply Bb;(· rfl);(· rfl))|(apply Bc;(· exact nxE))|(apply Bd;(· rfl);(· rfl);(· exact nxE)));(· first|exact Ok.pe))|((first|apply Ca|(apply Cb;(· exact nxE)));(· first|exact Ok.e0))|refine Sx ?_|(refine Sy (fun h=>?_) (fun h=>?_)<;>try (exfalso;omega;done))|refine Sz (fun h=>?_) (fun h=>?_))
  refine Ya ?_
  (apply Le.headZ (hs:=[]) [] rfl)
  all_goals (try dsimp only[srcs])
  (case' hfr=>(repeat' (first|refine La ?_ ?_|exact Lc|refine Lo ?_|refine ⟨⟨_,rfl,?_⟩,?_⟩|refine Lx ?_)))
  all_goals (first|exact Ld|exact trivial|(rfl))
theorem redR_divZ [Mode] {d m:Int} (hm:0<m):d.tdiv ((Nat.gcd d.natAbs m.toNat:Nat):Int)=(redR d m).1∧m.tdiv ((Nat.gcd d.natAbs m.toNat:Nat):Int)=(redR d m).2∧0<((Nat.gcd d.natAbs m.toNat:Nat):Int):=by
 have e:Nat.gcd d.natAbs m.toNat=Int.gcd d m:=by
  unfold Int.gcd
  congr 1;omega
 rw[e]
 exact ⟨Int.tdiv_eq_ediv_of_dvd (Int.gcd_dvd_left ..),Int.tdiv_eq_ediv_of_dvd (Int.gcd_dvd_right ..),(redR_ok (d:=d) hm).2.2.2.2⟩
theorem l01RatioZ_ac [Mode] (d m:Int) (hd : -1000000000000000≤d∧d≤1000000000000000) (hm:0<m∧m≤1000000000000000):AC Tryz.prog 40 [I d,I m] H0 (.agg [I (redR d m).1,I (redR d m).2]) H0:=by
 obtain ⟨e1,e2,e3⟩:=redR_divZ (d:=d) hm.1
 have hG:=l01DivisorZ_ac d m.toNat (by omega) (by omega)
 rw[Int.toNat_of_nonneg (Int.le_of_lt hm.1)] at hG
 rw[← e1,← e2]
 generalize ((Nat.gcd d.natAbs m.toNat:Nat):Int)=g at *
 refine AC.of_body 0 Tryz.func40 rfl (fun l h=>absurd rfl h) (fun C hC=>?_)
 have hD:∀ l,¬ C.D0 l:=fun l h=>(hC l).1 h rfl
 simp only[startFr,Tryz.ntmps40,List.length_cons,List.length_nil,Nat.reduceAdd,Nat.reduceSub,List.replicate_succ,List.replicate_zero,List.cons_append,List.nil_append]
 repeat' (first|((first|apply Ba|(apply Bb;(· rfl);(· rfl))|(apply Bc;(· exact nxE))|(apply Bd;(· rfl);(· rfl);(· exact nxE)));(· first|exact Kz rfl rfl (hG) (Ad (Ad An))|exact Ok.quo rfl rfl rfl (by omega) (by omega) (by omega)|exact Ok.pe))|((first|apply Ca|(apply Cb;(· exact nxE)));(· first|exact Ok.e0))|refine Sx ?_|(refine Sy (fun h=>?_) (fun h=>?_)<;>try (exfalso;omega;done))|refine Sz (fun h=>?_) (fun h=>?_))
 (refine end1p (by first|exact .inl rfl|exact .inr rfl) rfl (by first|exact rT rfl|exact rCA rfl rfl rfl rfl (by simp)|exact rCC rfl rfl rfl rfl rfl) ?_ (Le.head ([]) (by first|exact fun l h=>absurd h (hD l)|(intro l h;rcases hD l h with rfl;simp[tauL])|(intro l h;rcases hD l h with rfl|rfl<;>simp[tauL];done)|(intro l h;rcases hD l h with rfl|rfl|rfl<;>simp[tauL])) ?_ ?_ (by simp) (by simp) (by simp[AllP]) (n':=1000));(· rfl))<;>(repeat' (first|exact trivial|exact ARs.nil|refine ARs.cons ?_ ?_|exact AR.dead _|exact AR.dd _|exact AR.i (by (try dsimp only);omega)|exact AR.ptr _ _ _ _ (by simp[heapL,upd])|exact AR.own _ _ _ _ (by simp[heapL,upd])|refine AR.ownE _ _ _ ?_ (by simp[heapL,upd])|refine ⟨⟨_,rfl,?_⟩,?_⟩|exact ObA.data|refine ObA.box ?_|refine ObA.frE ?_|refine ObA.dataE ?_|refine ARs.agg ?_|refine ARs.tup ?_|exact AR.clo' ARs.nil ARs.nil|exact AR.clo' ARs.nil (hca _ _)))
theorem ratioOfZ_ac [Mode] (d m:Int) (hd : -1000000000000000≤d∧d≤1000000000000000) (hm:0<m∧m≤1000000000000000):AC Tryz.prog 49 [I d,I m] H0 (.agg [I (redR d m).1,I (redR d m).2]) H0:=by
 obtain ⟨e1,e2,e3⟩:=redR_divZ (d:=d) hm.1
 have hG:=divisorOf_ac d.natAbs m.toNat (by omega) (by omega)
 rw[Int.toNat_of_nonneg (Int.le_of_lt hm.1)] at hG
 have hA:=absOfZ_ac d (by omega)
 rw[← e1,← e2]
 generalize ((Nat.gcd d.natAbs m.toNat:Nat):Int)=g at *
 generalize ((d.natAbs:Nat):Int)=z at *
 refine AC.of_body 0 Tryz.func49 rfl (fun l h=>absurd rfl h) (fun C hC=>?_)
 have hD:∀ l,¬ C.D0 l:=fun l h=>(hC l).1 h rfl
 simp only[startFr,Tryz.ntmps49,List.length_cons,List.length_nil,Nat.reduceAdd,Nat.reduceSub,List.replicate_succ,List.replicate_zero,List.cons_append,List.nil_append]
 repeat' (first|((first|apply Ba|(apply Bb;(· rfl);(· rfl))|(apply Bc;(· exact nxE))|(apply Bd;(· rfl);(· rfl);(· exact nxE)));(· first|exact Kz rfl rfl (hA) (Ad An)|exact Kz rfl rfl (hG) (Ad (Ad An))|exact Ok.quo rfl rfl rfl (by omega) (by omega) (by omega)|exact Ok.pe))|((first|apply Ca|(apply Cb;(· exact nxE)));(· first|exact Ok.e0))|refine Sx ?_|(refine Sy (fun h=>?_) (fun h=>?_)<;>try (exfalso;omega;done))|refine Sz (fun h=>?_) (fun h=>?_))
 (refine end1p (by first|exact .inl rfl|exact .inr rfl) rfl (by first|exact rT rfl|exact rCA rfl rfl rfl rfl (by simp)|exact rCC rfl rfl rfl rfl rfl) ?_ (Le.head ([]) (by first|exact fun l h=>absurd h (hD l)|(intro l h;rcases hD l h with rfl;simp[tauL])|(intro l h;rcases hD l h with rfl|rfl<;>simp[tauL];done)|(intro l h;rcases hD l h with rfl|rfl|rfl<;>simp[tauL])) ?_ ?_ (by simp) (by simp) (by simp[AllP]) (n':=1000));(· rfl))<;>(repeat' (first|exact trivial|exact ARs.nil|refine ARs.cons ?_ ?_|exact AR.dead _|exact AR.dd _|exact AR.i (by (try dsimp only);omega)|exact AR.ptr _ _ _ _ (by simp[heapL,upd])|exact AR.own _ _ _ _ (by simp[heapL,upd])|refine AR.ownE _ _ _ ?_ (by simp[heapL,upd])|refine ⟨⟨_,rfl,?_⟩,?_⟩|exact ObA.data|refine ObA.box ?_|refine ObA.frE ?_|refine ObA.dataE ?_|refine ARs.agg ?_|refine ARs.tup ?_|exact AR.clo' ARs.nil ARs.nil|exact AR.clo' ARs.nil (hca _ _)))
def fitR (a b:Int × Int):Prop:=(-1000000000000000000≤a.1*b.2∧a.1*b.2≤1000000000000000000)∧(-1000000000000000000≤b.1*a.2∧b.1*a.2≤1000000000000000000)
theorem compareRatiosZ_ac [Mode] (a b:Int × Int) (h:fitR a b):AC Tryz.prog 128 [.agg [I a.1,I a.2],.agg [I b.1,I b.2]] H0 (I (crI a b)) H0:=by
 obtain ⟨h1,h2⟩:=h
 unfold crI
 obtain ⟨a1,a2⟩:=a
 obtain ⟨b1,b2⟩:=b
 simp only at h1 h2 ⊢
 refine AC.of_body 0 Tryz.func128 rfl (fun l h=>absurd rfl h) (fun C hC=>?_)
 have hD:∀ l,¬ C.D0 l:=fun l h=>(hC l).1 h rfl
 simp only[startFr,Tryz.ntmps128,List.length_cons,List.length_nil,Nat.reduceAdd,Nat.reduceSub,List.replicate_succ,List.replicate_zero,List.cons_append,List.nil_append]
 repeat' (first|((first|apply Ba|(apply Bb;(· rfl);(· rfl))|(apply Bc;(· exact nxE))|(apply Bd;(· rfl);(· rfl);(· exact nxE)));(· first|exact Kz rfl rfl (compareI_ac _ _) (Ad (Ad An))|exact Ok.pe))|((first|apply Ca|(apply Cb;(· exact nxE)));(· first|exact Ok.e0))|refine Sx ?_|(refine Sy (fun h=>?_) (fun h=>?_)<;>try (exfalso;omega;done))|refine Sz (fun h=>?_) (fun h=>?_))
 refine Ya ?_
 (apply Le.headZ (hs:=[]) [] rfl)
 all_goals (try dsimp only[srcs])
 (case' hfr=>(repeat' (first|refine La ?_ ?_|exact Lc|refine Lo ?_|refine ⟨⟨_,rfl,?_⟩,?_⟩|refine Lx ?_)))
 all_goals (first|exact Ld|exact trivial|(rfl))
end
section
open Go Go.RowKit
def lsK (D:Nat→Nat→Int) (n v:Nat):Nat→Option (Int × Int)
 | 0=>none
 | k+1=>if D k v=BOT then lsK D n v k else
   match lsK D n v k with
   | none=>some (redR (D n v - D k v) ((n:Int) - k))
   | some l=>if crI (redR (D n v - D k v) ((n:Int) - k)) l<0 then some (redR (D n v - D k v) ((n:Int) - k)) else some l
def bsV (D:Nat→Nat→Int) (n:Nat):Nat→Option (Int × Int)
 | 0=>none
 | v+1=>if D n v=BOT then bsV D n v else
   match lsK D n v n with
   | none=>bsV D n v
   | some l=>match bsV D n v with
    | none=>some l
    | some b=>if 0<crI l b then some l else some b
theorem crI_lt {a b:Int × Int}:crI a b<0↔a.1*b.2<b.1*a.2:=by
 unfold crI cmpI
 split
 ·rename_i h;exact ⟨fun _=>h,fun _=>by decide⟩
 ·rename_i h;split
  ·exact ⟨fun h2=>absurd h2 (by decide),fun h2=>absurd h2 h⟩
  ·exact ⟨fun h2=>absurd h2 (by decide),fun h2=>absurd h2 h⟩
theorem crI_gt {a b:Int × Int}:0<crI a b↔b.1*a.2<a.1*b.2:=by
 unfold crI cmpI
 split
 ·rename_i h;exact ⟨fun h2=>absurd h2 (by decide),fun h2=>by omega⟩
 ·split
  ·rename_i h;exact ⟨fun _=>h,fun _=>by decide⟩
  ·rename_i h;exact ⟨fun h2=>absurd h2 (by decide),fun h2=>absurd h2 h⟩
theorem fr_trans {a b c:Int × Int} (ha:0<a.2) (hb:0<b.2) (hc:0<c.2) (h1:a.1*b.2≤b.1*a.2) (h2:b.1*c.2≤c.1*b.2):a.1*c.2≤c.1*a.2:=by
 have e1:=Int.mul_le_mul_of_nonneg_right h1 (Int.le_of_lt hc)
 have e2:=Int.mul_le_mul_of_nonneg_right h2 (Int.le_of_lt ha)
 have e3:a.1*c.2*b.2=a.1*b.2*c.2:=by rw[Int.mul_assoc,Int.mul_comm c.2,← Int.mul_assoc]
 have e4:b.1*a.2*c.2=b.1*c.2*a.2:=by rw[Int.mul_assoc,Int.mul_comm a.2,← Int.mul_assoc]
 have e5:c.1*b.2*a.2=c.1*a.2*b.2:=by rw[Int.mul_assoc,Int.mul_comm b.2,← Int.mul_assoc]
 exact Int.le_of_mul_le_mul_right (by omega:a.1*c.2*b.2≤c.1*a.2*b.2) hb
theorem redR_le1 {d m:Int} (hm:0<m) {l:Int × Int} (h:l.1*(redR d m).2≤(redR d m).1*l.2):l.1*m≤d*l.2:=by
 obtain ⟨g1,g2,g3,g4,g5⟩:=redR_ok (d:=d) hm
 generalize (Int.gcd d m:Int)=g at *
 generalize redR d m=r at *
 rw[← g3,← g4]
 have:=Int.mul_le_mul_of_nonneg_left h (Int.le_of_lt g5)
 have e1:l.1*(g*r.2)=g*(l.1*r.2):=Int.mul_left_comm ..
 have e2:g*r.1*l.2=g*(r.1*l.2):=Int.mul_assoc ..
 omega
theorem redR_eq1 {d m:Int} (hm:0<m):(redR d m).1*m=d*(redR d m).2:=by
 obtain ⟨g1,g2,g3,g4,g5⟩:=redR_ok (d:=d) hm
 generalize (Int.gcd d m:Int)=g at *
 generalize redR d m=r at *
 rw[← g3,← g4]
 rw[Int.mul_left_comm,Int.mul_assoc]
structure LsOk (D:Nat→Nat→Int) (n v K:Nat) (l:Int × Int):Prop where
 pos:0<l.2
 red:Int.gcd l.1 l.2=1
 at':∃ k,k<K∧D k v≠BOT∧l=redR (D n v - D k v) ((n:Int) - k)
 le:∀ k,k<K→D k v≠BOT→l.1*((n:Int) - k)≤(D n v - D k v)*l.2
theorem lsK_ok {D:Nat→Nat→Int}{n v:Nat}:∀ K,K≤n→(lsK D n v K=none∧∀ k,k<K→D k v=BOT)∨∃ l,lsK D n v K=some l∧LsOk D n v K l
 | 0,_=>.inl ⟨rfl,fun k hk=>absurd hk (Nat.not_lt_zero k)⟩
 | K+1,hK=>by
  have hm:(0:Int)<(n:Int) - K:=by omega
  obtain ⟨r1,r2,r3,r4,r5⟩:=redR_ok (d:=D n v - D K v) hm
  have req:=redR_eq1 (d:=D n v - D K v) hm
  by_cases hb:D K v=BOT
  ·simp only[lsK,if_pos hb]
   rcases lsK_ok (D:=D) (n:=n) (v:=v) K (by omega) with ⟨h1,h2⟩|⟨l,h1,h2⟩
   ·refine .inl ⟨h1,fun k hk=>?_⟩
    by_cases e:k=K
    ·subst e;exact hb
    ·exact h2 k (by omega)
   ·obtain ⟨k,k1,k2,k3⟩:=h2.at'
    refine .inr ⟨l,h1,h2.pos,h2.red,⟨k,by omega,k2,k3⟩,fun k hk hd=>?_⟩
    by_cases e:k=K
    ·subst e;exact absurd hb hd
    ·exact h2.le k (by omega) hd
  ·simp only[lsK,if_neg hb]
   rcases lsK_ok (D:=D) (n:=n) (v:=v) K (by omega) with ⟨h1,h2⟩|⟨l,h1,h2⟩
   ·rw[h1]
    refine .inr ⟨_,rfl,r1,r2,⟨K,by omega,hb,rfl⟩,fun k hk hd=>?_⟩
    by_cases e:k=K
    ·subst e;exact Int.le_of_eq req
    ·exact absurd (h2 k (by omega)) hd
   ·rw[h1]
    simp only
    generalize hR:redR (D n v - D K v) ((n:Int) - K)=R at *
    by_cases hlt:crI R l<0
    ·rw[if_pos hlt]
     rw[crI_lt] at hlt
     refine .inr ⟨R,rfl,r1,r2,⟨K,by omega,hb,hR.symm⟩,fun k hk hd=>?_⟩
     by_cases e:k=K
     ·subst e;exact Int.le_of_eq req
     ·have hk2:(0:Int)<(n:Int) - k:=by omega
      have:=h2.le k (by omega) hd
      exact fr_trans (a:=R) (b:=l) (c:=(D n v - D k v,(n:Int) - k)) r1 h2.pos hk2 (by omega) this
    ·rw[if_neg hlt]
     rw[crI_lt] at hlt
     obtain ⟨k,k1,k2,k3⟩:=h2.at'
     refine .inr ⟨l,rfl,h2.pos,h2.red,⟨k,by omega,k2,k3⟩,fun k hk hd=>?_⟩
     by_cases e:k=K
     ·subst e
      exact redR_le1 hm (by rw[hR];omega)
     ·exact h2.le k (by omega) hd
theorem bsV_ok {D:Nat→Nat→Int}{n:Nat} (hn:0<n) (h0:∀ v,D 0 v≠BOT) {p q:Int} (hq:0<q) (hg:Int.gcd p q=1)
  (hle:∀ v,v<n→D n v≠BOT→∃ k,k<n∧D k v≠BOT∧q*(D n v - D k v)≤p*((n:Int) - k))
  (hge:∃ v,v<n∧D n v≠BOT∧∀ k,k<n→D k v≠BOT→p*((n:Int) - k)≤q*(D n v - D k v)):bsV D n n=some (p,q):=by
 have hone:∀ v,v<n→D n v≠BOT→∃ l,lsK D n v n=some l∧LsOk D n v n l∧l.1*q≤p*l.2:=fun v hv hd=>by
  rcases lsK_ok (D:=D) (v:=v) n (Nat.le_refl n) with ⟨_,h2⟩|⟨l,h1,h2⟩
  ·exact absurd (h2 0 hn) (h0 v)
  ·refine ⟨l,h1,h2,?_⟩
   obtain ⟨k,k1,k2,k3⟩:=hle v hv hd
   have:=h2.le k k1 k2
   exact fr_trans (a:=l) (b:=(D n v - D k v,(n:Int) - k)) (c:=(p,q)) h2.pos (show (0:Int)<(n:Int) - k by omega) hq this (by simp only;rw[Int.mul_comm];exact k3)
 have hacc:∀ V,V≤n→(bsV D n V=none∧∀ v,v<V→D n v=BOT)∨∃ b,bsV D n V=some b∧0<b.2∧Int.gcd b.1 b.2=1∧b.1*q≤p*b.2∧∀ v,v<V→D n v≠BOT→∀ l,lsK D n v n=some l→l.1*b.2≤b.1*l.2:=by
  intro V
  induction V with
  | zero=>intro _;exact .inl ⟨rfl,fun v hv=>absurd hv (Nat.not_lt_zero v)⟩
  | succ V ih=>
   intro hV
   by_cases hd:D n V=BOT
   ·simp only[bsV,if_pos hd]
    rcases ih (by omega) with ⟨h1,h2⟩|⟨b,h1,h2,h3,h4,h5⟩
    ·refine .inl ⟨h1,fun v hv=>?_⟩
     by_cases e:v=V
     ·subst e;exact hd
     ·exact h2 v (by omega)
    ·refine .inr ⟨b,h1,h2,h3,h4,fun v hv hdv=>?_⟩
     by_cases e:v=V
     ·subst e;exact absurd hd hdv
     ·exact h5 v (by omega) hdv
   ·simp only[bsV,if_neg hd]
    obtain ⟨l,l1,l2,l3⟩:=hone V (by omega) hd
    rw[l1]
    simp only
    rcases ih (by omega) with ⟨h1,h2⟩|⟨b,h1,h2,h3,h4,h5⟩
    ·rw[h1]
     refine .inr ⟨l,rfl,l2.pos,l2.red,l3,fun v hv hdv m hm=>?_⟩
     by_cases e:v=V
     ·subst e;rw[l1] at hm;cases hm;exact Int.le_refl _
     ·exact absurd (h2 v (by omega)) hdv
    ·rw[h1]
     simp only
     by_cases hgt:0<crI l b
     ·rw[if_pos hgt]
      rw[crI_gt] at hgt
      refine .inr ⟨l,rfl,l2.pos,l2.red,l3,fun v hv hdv m hm=>?_⟩
      by_cases e:v=V
      ·subst e;rw[l1] at hm;cases hm;exact Int.le_refl _
      ·have:=h5 v (by omega) hdv m hm
       obtain ⟨m',m1,m2,_⟩:=hone v (by omega) hdv
       rw[m1] at hm;cases hm
       exact fr_trans m2.pos h2 l2.pos this (by omega)
     ·rw[if_neg hgt]
      rw[crI_gt] at hgt
      refine .inr ⟨b,rfl,h2,h3,h4,fun v hv hdv m hm=>?_⟩
      by_cases e:v=V
      ·subst e;rw[l1] at hm;cases hm;omega
      ·exact h5 v (by omega) hdv m hm
 obtain ⟨v,v1,v2,v3⟩:=hge
 rcases hacc n (Nat.le_refl n) with ⟨_,h2⟩|⟨b,h1,h2,h3,h4,h5⟩
 ·exact absurd (h2 v v1) v2
 ·obtain ⟨l,l1,l2,l3⟩:=hone v v1 v2
  have hlb:=h5 v v1 v2 l l1
  obtain ⟨k,k1,k2,k3⟩:=l2.at'
  have hkm:(0:Int)<(n:Int) - k:=by omega
  have e1:=redR_eq1 (d:=D n v - D k v) hkm
  rw[← k3] at e1
  have hpl:p*l.2≤l.1*q:=by
   have:=v3 k k1 k2
   exact fr_trans (a:=(p,q)) (b:=(D n v - D k v,(n:Int) - k)) (c:=l) hq hkm l2.pos (by simp only;rw[Int.mul_comm _ q];exact this) (by simp only;omega)
  have hpb:p*b.2≤b.1*q:=fr_trans (a:=(p,q)) (b:=l) (c:=b) hq l2.pos h2 hpl hlb
  obtain ⟨e2,e3⟩:=frac_eq h2 hq h3 hg (show b.1*q=p*b.2 by omega)
  rw[h1,show b=(p,q) from Prod.ext e2 e3]
theorem bsV_none {D:Nat→Nat→Int}{n:Nat} (h:∀ v,v<n→D n v=BOT):∀ V,V≤n→bsV D n V=none
 | 0,_=>rfl
 | V+1,hV=>by simp only[bsV,if_pos (h V (by omega))];exact bsV_none h V (by omega)
end
end Go.Proofs.YtkpoclbnnpglfaaGreat
