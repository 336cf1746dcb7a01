/-
  Walks in the abstract reading, part 12.
-/
import Derived.Test.YtkpoclbnnpglfaaGreatKqU10
import Derived.Test.YtkpoclbnnpglfaaGreatKqU7
import Derived.Test.YtkpoclbnnpglfaaGreatKqU3
import Derived.Test.YtkpoclbnnpglfaaGreatKqU6
import Derived.Test.YtkpoclbnnpglfaaGreatKqU11
import Derived.Test.YtkpoclbnnpglfaaGreatKqU4
set_option linter.unusedSimpArgs false
set_option linter.unusedVariables false
namespace Go.Proofs.YtkpoclbnnpglfaaGreat
section
structure WCy (W:Nat→Nat→Int) (n:Nat) (f:Nat) (r:List Nat):Prop where
 lt:f<n
 gt:∀ x∈r,f<x∧x<n
 nd:(f :: r).Nodup
 path:kP W f r
 close:W f (kE f r)≠BOT
theorem WCy.len {W:Nat→Nat→Int}{n f:Nat}{r:List Nat} (h:WCy W n f r):r.length+1≤n:=by
 have:=nodup_le n (f :: r) h.nd (fun x hx=>by
  rcases List.mem_cons.1 hx with rfl|hx
  ·exact h.lt
  ·exact (h.gt x hx).2)
 simpa using this
theorem WCy.walk {W:Nat→Nat→Int}{n f:Nat}{r:List Nat} (h:WCy W n f r):(∀ x∈r++[f],x<n)∧kP W f (r++[f])∧kE f (r++[f])=f:=
 ⟨fun x hx=>by
  rcases List.mem_append.1 hx with hx|hx
  ·exact (h.gt x hx).2
  ·simp at hx;subst hx;exact h.lt,(kP_app _ _ _).2 ⟨h.path,h.close,trivial⟩,by rw[kE_app];rfl⟩
theorem list_min:∀ (l:List Nat),l≠[]→∃ f,f∈l∧∀ x∈l,f≤x
 | [],h=>absurd rfl h
 | b :: l,_=>by
  by_cases hl:l=[]
  ·subst hl;exact ⟨b,by simp,fun x hx=>by simp at hx;omega⟩
  ·obtain ⟨f,f1,f2⟩:=list_min l hl
   by_cases hbf:b≤f
   ·exact ⟨b,by simp,fun x hx=>by
     rcases List.mem_cons.1 hx with rfl|hx
     ·exact Nat.le_refl _
     ·exact Nat.le_trans hbf (f2 x hx)⟩
   ·exact ⟨f,by simp[f1],fun x hx=>by
     rcases List.mem_cons.1 hx with rfl|hx
     ·omega
     ·exact f2 x hx⟩
theorem div_walk {W:Nat→Nat→Int}{n:Nat}{S:Nat→Prop}{d:Nat} (hS:∀ z L,S z→z<n→(∀ x∈L,x<n)→kP W z L→kE z L=z→∀ y∈L,S y) (hd:∀ f r,S f→WCy W n f r→d ∣ r.length+1):∀ (m:Nat) (z:Nat) (L:List Nat),L.length≤m→S z→z<n→(∀ x∈L,x<n)→kP W z L→kE z L=z→d ∣ L.length:=by
 intro m
 induction m with
 | zero=>
  intro z L hm _ _ _ _ _
  rw[List.length_eq_zero_iff.1 (show L.length=0 by omega)];exact Nat.dvd_zero d
 | succ m ih=>
  intro z L hm hz0 hz hL hp he
  by_cases h0:L=[]
  ·subst h0;exact Nat.dvd_zero d
  have hmemS:=hS z L hz0 hz hL hp he
  obtain ⟨L',y,rfl⟩:=snoc_of h0
  have hy:y=z:=by rw[kE_app] at he;exact he
  subst hy
  by_cases hn:(y :: L').Nodup
  ·obtain ⟨f,f1,f2⟩:=list_min (y :: L') (by simp)
   rcases List.mem_cons.1 f1 with rfl|f1
   ·rw[kP_app] at hp
    have:=hd f L' hz0 ⟨hz,fun x hx=>by
     have:=f2 x (by simp[hx])
     have hne:f≠x:=fun e=>(List.nodup_cons.1 hn).1 (by rw[e];exact hx)
     have:=hL x (by simp[hx])
     omega,hn,hp.1,hp.2.1⟩
    simpa using this
   ·obtain ⟨A,B,rfl⟩:=List.append_of_mem f1
    have hp1:kP W f (B++[y]++(A++[f]))∧kE f (B++[y])=y:=by
     have e1:A++f :: B++[y]=(A++[f])++(B++[y]):=by simp
     rw[e1,kP_app] at hp
     rw[e1,kE_app] at he
     have e2:kE y (A++[f])=f:=by rw[kE_app];rfl
     rw[e2] at hp he
     exact ⟨(kP_app _ _ _).2 ⟨hp.2,by rw[he];exact hp.1⟩,he⟩
    obtain ⟨hp1,he1⟩:=hp1
    have e3:B++[y]++(A++[f])=(B++[y]++A)++[f]:=by simp
    rw[e3,kP_app] at hp1
    have hmem:∀ x∈B++[y]++A,x∈y :: (A++f :: B)∧x≠f:=fun x hx=>by
     have hnd:=hn
     rw[List.nodup_cons,List.nodup_append,List.nodup_cons] at hnd
     obtain ⟨n1,n2,n3,n4⟩:=hnd
     rcases List.mem_append.1 hx with hx|hx
     ·rcases List.mem_append.1 hx with hx|hx
      ·exact ⟨by simp[hx],fun e=>n3.1 (by rw[← e];exact hx)⟩
      ·simp at hx;subst hx;exact ⟨by simp,fun e=>n1 (by rw[e];simp)⟩
     ·exact ⟨by simp[hx],fun e=>n4 x hx f (by simp) e⟩
    have:=hd f (B++[y]++A) (hmemS f (by simp)) ⟨hL f (by simp),fun x hx=>by
     obtain ⟨g1,g2⟩:=hmem x hx
     have:=f2 x g1
     have:x<n:=by
      rcases List.mem_cons.1 g1 with rfl|g1
      ·exact hz
      ·exact hL x (by simp at g1 ⊢;rcases g1 with g1|g1|g1<;>simp[g1])
     omega,by
     have hperm:(f :: (B++[y]++A)).Perm (y :: (A++f :: B)):=by
      have h1:(f :: (B++[y]++A))=(f :: B)++(y :: A):=by simp
      have h2:(y :: (A++f :: B))=(y :: A)++(f :: B):=by simp
      rw[h1,h2]
      exact List.perm_append_comm
     exact hperm.nodup_iff.2 hn,hp1.1,hp1.2.1⟩
    have e4:(B++[y]++A).length+1=(A++f :: B++[y]).length:=by simp;omega
    rwa [e4] at this
  ·
   obtain ⟨A,x,B,C,e⟩:=dup_at hn
   have key:∃ a1 b1 c1,L'++[y]=a1++(b1++c1)∧b1≠[]∧c1≠[]∧kE (kE y a1) b1=kE y a1:=by
    cases A with
    | nil=>
     simp only[List.nil_append,List.cons.injEq] at e
     obtain ⟨rfl,rfl⟩:=e
     exact ⟨[],B++[y],C++[y],by simp,by simp,by simp,by simp only[kE];rw[kE_app];rfl⟩
    | cons t A=>
     simp only[List.cons_append,List.cons.injEq] at e
     obtain ⟨rfl,rfl⟩:=e
     exact ⟨A++[x],B++[x],C++[y],by simp,by simp,by simp,by simp only[kE_app,kE]⟩
   obtain ⟨a1,b1,c1,e1,hb,hc,hr⟩:=key
   rw[e1] at hm hL hp he hmemS ⊢
   rw[kP_app,kP_app,hr] at hp
   rw[kE_app,kE_app,hr] at he
   have ha:∀ t∈a1,t<n:=fun t ht=>hL t (by simp[ht])
   have hbm:∀ t∈b1,t<n:=fun t ht=>hL t (by simp[ht])
   have hcm:∀ t∈c1,t<n:=fun t ht=>hL t (by simp[ht])
   have hb0:=List.length_pos_iff.2 hb
   have hc0:=List.length_pos_iff.2 hc
   simp only[List.length_append] at hm ⊢
   have hSa:S (kE y a1):=by
    by_cases ha0:a1=[]
    ·subst ha0;exact hz0
    ·obtain ⟨a2,w,rfl⟩:=snoc_of ha0
     rw[kE_app];exact hmemS w (by simp)
   have d1:=ih (kE y a1) b1 (by omega) hSa (kE_lt hz ha) hbm hp.2.1 hr
   have d2:=ih y (a1++c1) (by simp;omega) hz0 hz (fun t ht=>by
    rcases List.mem_append.1 ht with ht|ht
    ·exact ha t ht
    ·exact hcm t ht) ((kP_app a1 c1 y).2 ⟨hp.1,hp.2.2⟩) (by rw[kE_app];exact he)
   rw[List.length_append] at d2
   have:=Nat.dvd_add d1 d2
   rwa [show b1.length+(a1.length+c1.length)=a1.length+(b1.length+c1.length) by omega] at this
def lnF (W:Nat→Nat→Int) (n:Nat):Nat→List Nat→Nat→Nat
 | 0,_,g=>g
 | k+1,l,g=>(List.range' (hdN l+1) (n - (hdN l+1))).foldl (fun g v=>if W v (lsN l)=BOT∨v∈l then g else lnF W n k (l++[v]) g) (if W (hdN l) (lsN l)=BOT then g else Nat.gcd g l.length)
theorem fold_dvd {d:Nat}{f:Nat→Nat→Nat}{D:Nat→Prop}:∀ {vs:List Nat}{g:Nat},(∀ v∈vs,∀ g,d ∣ f g v↔d ∣ g∧D v)→(d ∣ vs.foldl f g↔d ∣ g∧∀ v∈vs,D v)
 | [],g,_=>by simp
 | v :: vs,g,h=>by
  rw[List.foldl_cons,fold_dvd (vs:=vs) (fun w hw=>h w (by simp[hw])),h v (by simp)]
  constructor
  ·rintro ⟨⟨h1,h2⟩,h3⟩
   exact ⟨h1,fun w hw=>by
    rcases List.mem_cons.1 hw with rfl|hw
    ·exact h2
    ·exact h3 w hw⟩
  ·rintro ⟨h1,h2⟩
   exact ⟨⟨h1,h2 v (by simp)⟩,fun w hw=>h2 w (by simp[hw])⟩
theorem lnF_dvd {W:Nat→Nat→Int}{n d:Nat}:∀ (k:Nat) (f:Nat) (r:List Nat) (g:Nat),f<n→(∀ x∈r,f<x∧x<n)→(f :: r).Nodup→kP W f r→n≤k+r.length→(d ∣ lnF W n k (f :: r) g↔d ∣ g∧∀ e,WCy W n f (r++e)→d ∣ (r++e).length+1)
 | 0,f,r,g,hf,hr,hn,hp,hk=>by
  have:=nodup_le n (f :: r) hn (fun x hx=>by
   rcases List.mem_cons.1 hx with rfl|hx
   ·exact hf
   ·exact (hr x hx).2)
  simp at this
  omega
 | k+1,f,r,g,hf,hr,hn,hp,hk=>by
  have hhd:hdN (f :: r)=f:=rfl
  unfold lnF
  rw[hhd,lsN_kE]
  rw[fold_dvd (D:=fun v=>W v (kE f r)≠BOT→v∉f :: r→∀ e,WCy W n f (r++[v]++e)→d ∣ (r++[v]++e).length+1)]
  ·constructor
   ·rintro ⟨h1,h2⟩
    refine ⟨?_,fun e he=>?_⟩
    ·split at h1
     ·exact h1
     ·exact Nat.dvd_trans h1 (Nat.gcd_dvd_left _ _)
    ·cases e with
     | nil=>
      rw[List.append_nil] at he ⊢
      rw[if_neg he.close] at h1
      have:=Nat.dvd_trans h1 (Nat.gcd_dvd_right _ _)
      simpa using this
     | cons v e=>
      have e1:r++v :: e=r++[v]++e:=by simp
      rw[e1] at he ⊢
      have hv:=he.gt v (by simp)
      have hp2:=he.path
      rw[List.append_assoc,kP_app] at hp2
      refine h2 v (by rw[List.mem_range'_1];omega) hp2.2.1 (fun hm=>?_) e he
      have hnd:=he.nd
      rw[List.append_assoc,← List.cons_append,List.nodup_append] at hnd
      exact hnd.2.2 v hm v (by simp) rfl
   ·rintro ⟨h1,h2⟩
    refine ⟨?_,fun v _ _ _ e he=>h2 ([v]++e) (by rw[← List.append_assoc];exact he) |> fun h=>by rwa [← List.append_assoc] at h⟩
    split
    ·exact h1
    ·rename_i hc
     refine Nat.dvd_gcd h1 ?_
     have:=h2 [] ⟨hf,by simpa using hr,by simpa using hn,by simpa using hp,by simpa using hc⟩
     simpa using this
  ·intro v hv g
   rw[List.mem_range'_1] at hv
   by_cases hc:W v (kE f r)=BOT∨v∈f :: r
   ·rw[if_pos hc]
    refine ⟨fun h=>⟨h,fun h1 h2=>?_⟩,fun h=>h.1⟩
    rcases hc with hc|hc
    ·exact absurd hc h1
    ·exact absurd hc h2
   ·rw[if_neg hc]
    have hva:W v (kE f r)≠BOT:=fun e=>hc (.inl e)
    have hvm:v∉f :: r:=fun e=>hc (.inr e)
    have ih:=lnF_dvd (W:=W) (n:=n) (d:=d) k f (r++[v]) g hf (fun x hx=>by
     rcases List.mem_append.1 hx with hx|hx
     ·exact hr x hx
     ·simp at hx;omega) (by
     rw[← List.cons_append,List.nodup_append]
     exact ⟨hn,by simp,fun x hx y hy e=>by simp at hy;subst hy;subst e;exact hvm hx⟩) ((kP_app r [v] f).2 ⟨hp,hva,trivial⟩) (by simp;omega)
    rw[← List.cons_append] at ih
    rw[ih]
    exact ⟨fun h=>⟨h.1,fun _ _=>h.2⟩,fun h=>⟨h.1,h.2 hva hvm⟩⟩
def pdF (W:Nat→Nat→Int) (n:Nat) (c:List Nat):Nat:=c.foldl (fun g f=>lnF W n n [f] g) 0
theorem pdF_dvd {W:Nat→Nat→Int}{n d:Nat}{c:List Nat} (hc:∀ x∈c,x<n):d ∣ pdF W n c↔∀ f∈c,∀ r,WCy W n f r→d ∣ r.length+1:=by
 unfold pdF
 rw[fold_dvd (D:=fun f=>∀ r,WCy W n f r→d ∣ r.length+1)]
 ·exact ⟨fun h=>h.2,fun h=>⟨Nat.dvd_zero d,h⟩⟩
 ·intro f hf g
  have:=lnF_dvd (W:=W) (n:=n) (d:=d) n f [] g (hc f hf) (by simp) (by simp) trivial (by simp)
  simpa using this
structure Bst where
 lv:Nat→Int
 q:List Nat
 g:Nat
def bfA (W:Nat→Nat→Int) (u:Nat) (s:Bst) (v:Nat):Bst:=
 if W v u=BOT then s else if s.lv v<0 then ⟨fun x=>if x=v then s.lv u+1 else s.lv x,s.q++[v],s.g⟩ else ⟨s.lv,s.q,Nat.gcd (s.lv u+1 - s.lv v).natAbs s.g⟩
def bfN (W:Nat→Nat→Int) (c:List Nat) (u:Nat) (s:Bst):Bst:=c.foldl (bfA W u) s
def bfZ (c0:Nat):Bst:=⟨fun x=>if x=c0 then 0 else -1,[c0],0⟩
def bfI (W:Nat→Nat→Int) (c:List Nat) (c0:Nat):Nat→Bst
 | 0=>bfZ c0
 | k+1=>bfN W c ((bfI W c c0 k).q.getD k 0) (bfI W c c0 k)
structure BfOk (W:Nat→Nat→Int) (c:List Nat) (c0:Nat) (s:Bst):Prop where
 nd:s.q.Nodup
 mem:∀ x∈s.q,x∈c
 hd:c0∈s.q
 lv:∀ x,(x∈s.q∧0≤s.lv x∧s.lv x<s.q.length)∨(x∉s.q∧s.lv x=-1)
 wk:∀ x∈s.q,∃ l,(∀ y∈l,y∈c)∧kP W c0 l∧kE c0 l=x∧(l.length:Int)=s.lv x
 up:∀ d:Nat,(∀ u∈s.q,∀ v∈s.q,W v u≠BOT→d ∣ (s.lv u+1 - s.lv v).natAbs)→d ∣ s.g
 gb:s.g≤s.q.length
structure BfLe (s t:Bst):Prop where
 q:∃ e,t.q=s.q++e
 lv:∀ x∈s.q,t.lv x=s.lv x
 g:t.g ∣ s.g
theorem BfLe.refl {s:Bst}:BfLe s s:=⟨⟨[],by simp⟩,fun _ _=>rfl,Nat.dvd_refl _⟩
theorem BfLe.mem {s t:Bst} (h:BfLe s t) {x:Nat} (hx:x∈s.q):x∈t.q:=by
 obtain ⟨e,he⟩:=h.q
 rw[he];simp[hx]
theorem BfLe.trans {s t r:Bst} (h:BfLe s t) (h':BfLe t r):BfLe s r:=by
 obtain ⟨e,he⟩:=h.q
 obtain ⟨e',he'⟩:=h'.q
 exact ⟨⟨e++e',by rw[he',he,List.append_assoc]⟩,fun x hx=>by rw[h'.lv x (h.mem hx),h.lv x hx],Nat.dvd_trans h'.g h.g⟩
theorem BfOk.zero {W:Nat→Nat→Int}{c:List Nat}{c0:Nat} (h:c0∈c):BfOk W c c0 (bfZ c0):=
 ⟨by simp[bfZ],fun x hx=>by simp[bfZ] at hx;subst hx;exact h,by simp[bfZ],fun x=>by
  by_cases hx:x=c0
  ·subst hx;left;simp[bfZ]
  ·right;simp[bfZ,hx],fun x hx=>by
  simp[bfZ] at hx;subst hx;exact ⟨[],by simp,trivial,rfl,by simp[bfZ]⟩,fun d _=>Nat.dvd_zero d,by simp[bfZ]⟩
theorem BfOk.arc {W:Nat→Nat→Int}{c:List Nat}{c0:Nat}{s:Bst} (h:BfOk W c c0 s) {u v:Nat} (hu:u∈s.q) (hv:v∈c):BfOk W c c0 (bfA W u s v)∧BfLe s (bfA W u s v)∧(W v u≠BOT→v∈(bfA W u s v).q∧(bfA W u s v).g ∣ ((bfA W u s v).lv u+1 - (bfA W u s v).lv v).natAbs):=by
 unfold bfA
 by_cases hW:W v u=BOT
 ·rw[if_pos hW];exact ⟨h,BfLe.refl,fun hn=>absurd hW hn⟩
 rw[if_neg hW]
 have hlu:=(h.lv u).resolve_right (fun hn=>hn.1 hu)
 by_cases hneg:s.lv v<0
 ·rw[if_pos hneg]
  have hvq:v∉s.q:=by
   rcases h.lv v with h1|h1
   ·omega
   ·exact h1.1
  have hne:∀ x∈s.q,x≠v:=fun x hx e=>hvq (by rw[← e];exact hx)
  have hne2:u≠v:=hne u hu
  refine ⟨⟨?_,fun x hx=>?_,by simp[h.hd],fun x=>?_,fun x hx=>?_,fun d hd=>h.up d fun a ha b hb hab=>?_,by simp;have:=h.gb;omega⟩,⟨⟨[v],rfl⟩,fun x hx=>by simp[hne x hx],Nat.dvd_refl _⟩,fun _=>⟨by simp,?_⟩⟩
  ·rw[List.nodup_append]
   exact ⟨h.nd,by simp,fun x hx y hy e=>by simp at hy;subst hy;subst e;exact hvq hx⟩
  ·rcases List.mem_append.1 hx with hx|hx
   ·exact h.mem x hx
   ·simp at hx;subst hx;exact hv
  ·by_cases hxv:x=v
   ·subst hxv;left;simp;omega
   ·rcases h.lv x with h1|h1
    ·left;simp[hxv,h1.1];omega
    ·right;simp[hxv,h1.1,h1.2]
  ·rcases List.mem_append.1 hx with hx|hx
   ·obtain ⟨l,l1,l2,l3,l4⟩:=h.wk x hx
    exact ⟨l,l1,l2,l3,by simp[hne x hx,l4]⟩
   ·simp at hx;subst hx
    obtain ⟨l,l1,l2,l3,l4⟩:=h.wk u hu
    refine ⟨l++[x],fun y hy=>?_,(kP_app l [x] c0).2 ⟨l2,by rw[l3];exact ⟨hW,trivial⟩⟩,by rw[kE_app];rfl,by simp;omega⟩
    rcases List.mem_append.1 hy with hy|hy
    ·exact l1 y hy
    ·simp at hy;subst hy;exact hv
  ·have:=hd a (by simp[ha]) b (by simp[hb]) hab
   simpa [hne a ha,hne b hb] using this
  ·simp[hne2]
 ·rw[if_neg hneg]
  have hlv:=(h.lv v).resolve_right (fun hn=>by omega)
  refine ⟨⟨h.nd,h.mem,h.hd,h.lv,h.wk,fun d hd=>Nat.dvd_gcd (hd u hu v hlv.1 hW) (h.up d hd),?_⟩,⟨⟨[],by simp⟩,fun _ _=>rfl,Nat.gcd_dvd_right _ _⟩,fun _=>⟨hlv.1,Nat.gcd_dvd_left _ _⟩⟩
  by_cases hz:(s.lv u+1 - s.lv v).natAbs=0
  ·simp only[hz,Nat.gcd_zero_left];exact h.gb
  ·have:=Nat.gcd_le_left s.g (Nat.pos_of_ne_zero hz)
   simp only
   omega
theorem BfOk.node {W:Nat→Nat→Int}{c:List Nat}{c0:Nat}{u:Nat}:∀ (vs:List Nat) (s:Bst),BfOk W c c0 s→u∈s.q→(∀ v∈vs,v∈c)→BfOk W c c0 (vs.foldl (bfA W u) s)∧BfLe s (vs.foldl (bfA W u) s)∧∀ v∈vs,W v u≠BOT→v∈(vs.foldl (bfA W u) s).q∧(vs.foldl (bfA W u) s).g ∣ ((vs.foldl (bfA W u) s).lv u+1 - (vs.foldl (bfA W u) s).lv v).natAbs
 | [],s,h,_,_=>⟨h,BfLe.refl,fun v hv=>by cases hv⟩
 | w :: vs,s,h,hu,hvs=>by
  obtain ⟨h1,h2,h3⟩:=h.arc hu (hvs w (by simp))
  obtain ⟨h4,h5,h6⟩:=BfOk.node vs _ h1 (h2.mem hu) (fun v hv=>hvs v (by simp[hv]))
  refine ⟨h4,h2.trans h5,fun v hv hW=>?_⟩
  rcases List.mem_cons.1 hv with rfl|hv
  ·obtain ⟨g1,g2⟩:=h3 hW
   refine ⟨h5.mem g1,?_⟩
   simp only[List.foldl_cons]
   rw[h5.lv u (h2.mem hu),h5.lv v g1]
   exact Nat.dvd_trans h5.g g2
  ·exact h6 v hv hW
theorem bfI_ok {W:Nat→Nat→Int}{c:List Nat}{c0:Nat} (h0:c0∈c):∀ k,(∀ i,i<k→i<(bfI W c c0 i).q.length)→BfOk W c c0 (bfI W c c0 k)∧(∀ i,i≤k→BfLe (bfI W c c0 i) (bfI W c c0 k))∧∀ i,i<k→∀ v∈c,W v ((bfI W c c0 k).q.getD i 0)≠BOT→v∈(bfI W c c0 k).q∧(bfI W c c0 k).g ∣ ((bfI W c c0 k).lv ((bfI W c c0 k).q.getD i 0)+1 - (bfI W c c0 k).lv v).natAbs
 | 0,_=>⟨BfOk.zero h0,fun i hi=>by
   obtain rfl:i=0:=by omega
   exact BfLe.refl,fun i hi=>absurd hi (Nat.not_lt_zero i)⟩
 | k+1,hk=>by
  obtain ⟨h1,h2,h3⟩:=bfI_ok h0 k (fun i hi=>hk i (by omega))
  have hkq:=hk k (by omega)
  have hum:(bfI W c c0 k).q.getD k 0∈(bfI W c c0 k).q:=by
   rw[List.getD_eq_getElem?_getD,List.getElem?_eq_getElem hkq];exact List.getElem_mem _
  obtain ⟨g1,g2,g3⟩:=BfOk.node (W:=W) (c:=c) (c0:=c0) (u:=(bfI W c c0 k).q.getD k 0) c (bfI W c c0 k) h1 hum (fun v hv=>hv)
  have e1:bfI W c c0 (k+1)=c.foldl (bfA W ((bfI W c c0 k).q.getD k 0)) (bfI W c c0 k):=rfl
  rw[← e1] at g1 g2 g3
  have hget:∀ i,i<(bfI W c c0 k).q.length→(bfI W c c0 (k+1)).q.getD i 0=(bfI W c c0 k).q.getD i 0:=fun i hi=>by
   obtain ⟨e,he⟩:=g2.q
   rw[he,List.getD_eq_getElem?_getD,List.getD_eq_getElem?_getD,List.getElem?_append_left hi]
  have hlen:k<(bfI W c c0 k).q.length:=hkq
  refine ⟨g1,fun i hi=>?_,fun i hi v hv hW=>?_⟩
  ·by_cases hik:i=k+1
   ·subst hik;exact BfLe.refl
   ·exact (h2 i (by omega)).trans g2
  ·rw[hget i (by omega)] at hW ⊢
   by_cases hik:i=k
   ·subst hik;exact g3 v hv hW
   ·obtain ⟨a1,a2⟩:=h3 i (by omega) v hv hW
    have hum2:(bfI W c c0 k).q.getD i 0∈(bfI W c c0 k).q:=by
     rw[List.getD_eq_getElem?_getD,List.getElem?_eq_getElem (by omega)];exact List.getElem_mem _
    refine ⟨g2.mem a1,?_⟩
    rw[g2.lv _ hum2,g2.lv v a1]
    exact Nat.dvd_trans g2.g a2
theorem bf_end {W:Nat→Nat→Int}{c:List Nat}{c0 n:Nat} (h0:c0∈c) (hc:∀ x∈c,x<n):∃ N,(∀ i,i<N→i<(bfI W c c0 i).q.length)∧(bfI W c c0 N).q.length=N∧N≤n:=by
 have hex:∃ k,(∀ i,i<k→i<(bfI W c c0 i).q.length)∧¬ k<(bfI W c c0 k).q.length:=by
  refine Classical.byContradiction fun hn=>?_
  have hall:∀ k,∀ i,i<k→i<(bfI W c c0 i).q.length:=by
   intro k
   induction k with
   | zero=>intro i hi;exact absurd hi (Nat.not_lt_zero i)
   | succ k ih=>
    intro i hi
    by_cases hik:i=k
    ·subst hik;exact Classical.byContradiction fun h=>hn ⟨i,ih,h⟩
    ·exact ih i (by omega)
  have h1:=bfI_ok (W:=W) h0 (n+1) (hall _)
  have h2:=nodup_le n _ h1.1.nd (fun x hx=>hc x (h1.1.mem x hx))
  have h3:=hall (n+2) (n+1) (by omega)
  omega
 obtain ⟨k,k1,k2⟩:=hex
 have h1:=bfI_ok (W:=W) h0 k k1
 have h2:=nodup_le n _ h1.1.nd (fun x hx=>hc x (h1.1.mem x hx))
 have h3:k≤(bfI W c c0 k).q.length:=by
  cases k with
  | zero=>exact Nat.zero_le _
  | succ k=>
   have a1:=k1 k (by omega)
   obtain ⟨e,he⟩:=(h1.2.1 k (by omega)).q
   rw[he,List.length_append];omega
 exact ⟨k,k1,by omega,by omega⟩
theorem bf_period {W:Nat→Nat→Int}{n:Nat}{c:List Nat}{c0 N:Nat} (h0:c0∈c) (hc:∀ x∈c,x<n) (hin:∀ z L,z∈c→(∀ x∈L,x<n)→kP W z L→kE z L∈c→∀ y∈L,y∈c) (hst:∀ u∈c,∀ v∈c,RchP W n u v) (hk:∀ i,i<N→i<(bfI W c c0 i).q.length) (hN:(bfI W c c0 N).q.length=N):(bfI W c c0 N).g=pdF W n c:=by
 obtain ⟨h1,_,h3⟩:=bfI_ok h0 N hk
 generalize bfI W c c0 N=s at h1 h3 hN
 have harc:∀ u∈s.q,∀ v∈c,W v u≠BOT→v∈s.q∧s.g ∣ (s.lv u+1 - s.lv v).natAbs:=fun u hu v hv hW=>by
  obtain ⟨i,hi,e⟩:=List.getElem_of_mem hu
  have:=h3 i (by omega) v hv
  rw[List.getD_eq_getElem?_getD,List.getElem?_eq_getElem hi,Option.getD_some,e] at this
  exact this hW
 have hwalk:∀ (L:List Nat) (u:Nat),u∈s.q→(∀ y∈L,y∈c)→kP W u L→kE u L∈s.q∧(s.g:Int) ∣ (L.length:Int)+s.lv u - s.lv (kE u L):=by
  intro L
  induction L with
  | nil=>intro u hu _ _;exact ⟨hu,by simp[kE]⟩
  | cons v L ih=>
   intro u hu hL hp
   obtain ⟨a1,a2⟩:=harc u hu v (hL v (by simp)) hp.1
   obtain ⟨a3,a4⟩:=ih v a1 (fun y hy=>hL y (by simp[hy])) hp.2
   refine ⟨a3,?_⟩
   have a5:(s.g:Int) ∣ s.lv u+1 - s.lv v:=Int.ofNat_dvd_left.2 a2
   have:=Int.dvd_add a4 a5
   simp only[kE,List.length_cons]
   rw[show ((L.length+1:Nat):Int)+s.lv u - s.lv (kE v L)=(L.length:Int)+s.lv v - s.lv (kE v L)+(s.lv u+1 - s.lv v) by omega]
   exact this
 have hall:∀ v∈c,v∈s.q:=fun v hv=>by
  obtain ⟨L,l1,l2,l3⟩:=hst c0 h0 v hv
  have:=(hwalk L c0 h1.hd (hin c0 L h0 l1 l2 (by rw[l3];exact hv)) l2).1
  rwa [l3] at this
 refine Nat.dvd_antisymm ?_ ?_
 ·
  rw[pdF_dvd hc]
  intro f hf r hr
  obtain ⟨w1,w2,w3⟩:=hr.walk
  obtain ⟨_,hd⟩:=hwalk (r++[f]) f (hall f hf) (hin f (r++[f]) hf w1 w2 (by rw[w3];exact hf)) w2
  rw[w3] at hd
  rw[show (((r++[f]).length:Nat):Int)+s.lv f - s.lv f=((r.length+1:Nat):Int) by simp<;>omega] at hd
  exact Int.natCast_dvd_natCast.1 hd
 ·refine h1.up _ fun u hu v hv hW=>?_
  have hcl:∀ z∈c,∀ L,(∀ x∈L,x<n)→kP W z L→kE z L=z→pdF W n c ∣ L.length:=fun z hz L l1 l2 l3=>by
   refine div_walk (W:=W) (n:=n) (S:=fun x=>x∈c) (fun z L hz _ l1 l2 l3=>hin z L hz l1 l2 (by rw[l3];exact hz)) (fun f r hf hr=>?_) L.length z L (Nat.le_refl _) hz (hc z hz) l1 l2 l3
   exact (pdF_dvd hc).1 (Nat.dvd_refl _) f hf r hr
  obtain ⟨a,a1,a2,a3,a4⟩:=h1.wk u hu
  obtain ⟨b,b1,b2,b3,b4⟩:=h1.wk v hv
  obtain ⟨e,e1,e2,e3⟩:=hst v (h1.mem v hv) c0 h0
  have k1:=hcl c0 h0 (a++([v]++e)) (fun x hx=>by
   simp only[List.mem_append,List.mem_singleton] at hx
   rcases hx with hx|hx|hx
   ·exact hc x (a1 x hx)
   ·rw[hx];exact hc v (h1.mem v hv)
   ·exact e1 x hx) ((kP_app _ _ _).2 ⟨a2,by rw[a3];exact (kP_app _ _ _).2 ⟨⟨hW,trivial⟩,e2⟩⟩) (by rw[kE_app,a3,kE_app];exact e3)
  have k2:=hcl c0 h0 (b++e) (fun x hx=>by
   rcases List.mem_append.1 hx with hx|hx
   ·exact hc x (b1 x hx)
   ·exact e1 x hx) ((kP_app _ _ _).2 ⟨b2,by rw[b3];exact e2⟩) (by rw[kE_app,b3];exact e3)
  have k3:(pdF W n c:Int) ∣ ((a++([v]++e)).length:Int) - ((b++e).length:Int):=Int.dvd_sub (Int.natCast_dvd_natCast.2 k1) (Int.natCast_dvd_natCast.2 k2)
  rw[show ((a++([v]++e)).length:Int) - ((b++e).length:Int)=s.lv u+1 - s.lv v by simp<;>omega] at k3
  exact Int.ofNat_dvd_left.1 k3
end
section
open Go Go.RowKit
attribute [local irreducible] AL AD AW OpOk Le AC thenQ blockQ EndQ
structure LvOk (g:Nat→Int) (e:Nat) (S:Nat→Prop) (M:Int):Prop where
 ge:g e≤M
 up:∀ u,S u→g u+1≤M
 at':M=g e∨∃ u,S u∧M=g u+1
theorem LvOk.uniq [Mode] {g:Nat→Int}{e:Nat}{S S':Nat→Prop}{M M':Int} (h:LvOk g e S M) (h':LvOk g e S' M') (hs:∀ u,S u↔S' u):M=M':=by
 have h1:=h.ge
 have h2:=h'.ge
 rcases h.at' with e1|⟨u,u1,u2⟩<;>rcases h'.at' with e2|⟨v,v1,v2⟩
 ·omega
 ·have:=h.up v ((hs v).2 v1);omega
 ·have:=h'.up u ((hs u).1 u1);omega
 ·have:=h.up v ((hs v).2 v1);have:=h'.up u ((hs u).1 u1);omega
theorem z_row [Mode] {n:Nat}:dobj 1 (List.replicate n [DI 0])=IO (rowF n fun _=>0):=by
 show dobj 1 _=dobj 1 (IR (rowF n fun _=>0))
 congr 1
 unfold rowF;simp[List.map_const']
end
section
open Go Go.RowKit
attribute [local irreducible] AL AD AW OpOk Le AC thenQ blockQ EndQ
theorem absN_ac [Mode] (a:Int) (ha : -1000000000000≤a∧a≤1000000000000):AC Tryz.prog 106 [I a] H0 (I (a.natAbs:Nat)) H0:=by
 by_cases h:0≤a
 ·rw[show ((a.natAbs:Nat):Int)=a by omega]
  exact absOf_ac a h
 ·have e:((a.natAbs:Nat):Int)=-a:=by omega
  rw[e]
  refine AC.of_body 0 Tryz.func106 rfl (fun l h=>absurd rfl h) (fun C hC=>?_)
  have hD:∀ l,¬ C.D0 l:=fun l h=>(hC l).1 h rfl
  simp only[startFr,Tryz.ntmps106,List.length_cons,List.length_nil,Nat.reduceAdd,Nat.reduceSub,List.replicate_succ,List.replicate_zero,List.cons_append,List.nil_append]
  repeat' (first|((first|apply Ba|(apply Bb;(· rfl);(· rfl))|(apply Bc;(· exact nxE))|(apply Bd;(· rfl);(· rfl);(· exact nxE)));(· first|exact Ok.pe))|((first|apply Ca|(apply Cb;(· exact nxE)));(· first|exact Ok.e0))|refine Sx ?_|(refine Sy (fun h=>?_) (fun h=>?_)<;>try (exfalso;omega;done))|refine Sz (fun h=>?_) (fun h=>?_))
  refine Ya ?_
  (apply Le.headZ (hs:=[]) [] rfl)
  all_goals (try dsimp only[srcs])
  (case' hfr=>(repeat' (first|refine La ?_ ?_|exact Lc|refine Lo ?_|refine ⟨⟨_,rfl,?_⟩,?_⟩|refine Lx ?_)))
  all_goals (first|exact Ld|exact trivial|(rfl))
theorem rowF_st [Mode] {n v:Nat}{g g':Nat→Int}{a:Int} (hv:v<n) (h:∀ i,i<n→g' i=if i=v then a else g i):(IR (rowF n g)).set v [DI a]=IR (rowF n g'):=by
 rw[IR_set]
 congr 1
 apply List.ext_getElem?
 intro i
 rw[List.getElem?_set]
 have hl:(rowF n g).length=n:=rowF_len
 by_cases hi:i<n
 ·by_cases e:v=i
  ·subst e;rw[if_pos rfl,if_pos (by omega),rowF_get hi,h _ hi,if_pos rfl]
  ·rw[if_neg e,rowF_get hi,rowF_get hi,h i hi,if_neg (fun h=>e h.symm)]
 ·rw[List.getElem?_eq_none (show (rowF n g').length≤i by rw[rowF_len];omega)]
  rw[if_neg (by omega),List.getElem?_eq_none (by omega)]
def lvI (k:Nat) (i:Nat):Int:=if i<k then -1 else 0
theorem lvI_0 [Mode] {n:Nat}:dobj 1 (List.replicate n [DI 0])=IO (rowF n (lvI 0)):=by
 rw[z_row]
 congr 1
def bfJ (W:Nat→Nat→Int) (c:List Nat) (u:Nat) (s:Bst) (j:Nat):Bst:=(c.take j).foldl (bfA W u) s
theorem bfJ_s [Mode] {W:Nat→Nat→Int}{c:List Nat}{u:Nat}{s:Bst}{j v:Nat} (h:c[j]? = some v):bfJ W c u s (j+1)=bfA W u (bfJ W c u s j) v:=by
 unfold bfJ
 rw[List.take_add_one,h,List.foldl_append];rfl
theorem bfJ_all [Mode] {W:Nat→Nat→Int}{c:List Nat}{c0 i:Nat}:bfJ W c ((bfI W c c0 i).q.getD i 0) (bfI W c c0 i) c.length=bfI W c c0 (i+1):=by
 unfold bfJ
 rw[List.take_length];rfl
set_option maxHeartbeats 8000000 in
theorem periodOf_ac [Mode] (T:List (List Int)) (n:Nat) (hT:Sq T n) (hn:n≤1000) (c:List Nat) (c0:Nat) (hc0:c[0]? = some c0) (hlt:∀ x∈c,x<n) (hcl:c.length≤1000) (N:Nat) (hk:∀ i,i<N→i<(bfI (entN T) c c0 i).q.length) (hN:(bfI (entN T) c c0 N).q.length=N):AC Tryz.prog 66 [TL T,IL (cN c)] H0 (I ((bfI (entN T) c c0 N).g:Nat)) H0:=by
 have htl:(mRows 1 (TR T)).length=n:=by rw[mTR_len,hT.l]
 have hlen:(IR (cN c)).length=c.length:=by simp
 have hc0m:c0∈c:=List.mem_of_getElem? hc0
 have hf0:(IR (cN c))[((0:Int)).toNat]? = some [DI (c0:Nat)]:=by simp[hc0]
 have hc0n:=hlt c0 hc0m
 have hNn:N≤n:=by
  have h1:=(bfI_ok (W:=entN T) hc0m N hk).1
  have:=nodup_le n _ h1.nd (fun x hx=>hlt x (h1.mem x hx))
  omega
 have hsg:=fun i j (hi:i<n) (hj:j<n)=>hT.get hi hj
 generalize hW:entN T=W at *
 refine AC.of_body 0 Tryz.func66 rfl (fun l h=>absurd rfl h) (fun C hC=>?_)
 have hD:∀ l,¬ C.D0 l:=fun l h=>(hC l).1 h rfl
 simp only[startFr,Tryz.ntmps66,List.length_cons,List.length_nil,Nat.reduceAdd,Nat.reduceSub,List.replicate_succ,List.replicate_zero,List.cons_append,List.nil_append]
 repeat' (first|((first|apply Ba|(apply Bb;(· rfl);(· rfl))|(apply Bc;(· exact nxE))|(apply Bd;(· rfl);(· rfl);(· exact nxE)));(· first|exact Ok.lenD rfl rfl htl|exact Ok.makeN (n:=n) rfl rfl rfl (by omega) (by omega)|exact Ok.pe))|((first|apply Ca|(apply Cb;(· exact nxE)));(· first|exact Ok.makeN (n:=n) rfl rfl rfl (by omega) (by omega)|exact Ok.e0))|refine Sx ?_|(refine Sy (fun h=>?_) (fun h=>?_)<;>try (exfalso;omega;done))|refine Sz (fun h=>?_) (fun h=>?_))
 refine AW.loop (X:={k:Nat // k≤n}) (fun k=>⟨[TL T,IL (cN c),Oo,Oo,Oo,.own 1 ⟨1,[]⟩ 0 n,Oo,Oo,Oo,Oo,Oo,Oo,Oo,Oo,Oo,Oo,Oo,I n,I (k.1:Nat),Oo,Oo,Oo,Oo,Oo,Oo,Oo,Oo,Oo,Oo,Oo,Oo,Oo,Oo,Oo,Oo,Oo,Oo,Oo,Oo,Oo,Oo,Oo,Oo,Oo,Oo,Oo,Oo,Oo,Oo,Oo,Oo,Oo,Oo,Oo,Oo,Oo,Oo,Oo,Oo,Oo,Oo,Oo,Oo,Oo,Oo,Oo,Oo,Oo,Oo,Oo,Oo,Oo,Oo,Oo,Oo,Oo,Oo,Oo,Oo,Oo,Oo,Oo,Oo,Oo,Oo,Oo,Oo,Oo,Oo,Oo,Oo,Oo],heapL [(⟨1,[]⟩,⟨1,[]⟩,IO (rowF n (lvI k.1)))],900⟩) (fun k=>n - k.1) ⟨0,Nat.zero_le _⟩ ?_ (fun k=>?_)
 ·
  (apply Le.headZ [_] rfl)
  all_goals (try dsimp only[srcs])
  (case' hfr|hob=>(repeat' (first|refine La ?_ ?_|exact Lc|refine Lo ?_|refine ⟨⟨_,rfl,?_⟩,?_⟩|refine Lx ?_)))
  all_goals (first|((exact lvI_0))|exact Ld)
 obtain ⟨i,hi⟩:=k
 simp only
 by_cases hil:i<n
 ·have hset:(IR (rowF n (lvI i))).set i [DI (-1)]=IR (rowF n (lvI (i+1))):=rowF_st hil fun x hx=>by
   unfold lvI
   by_cases h1:x=i
   ·rw[if_pos h1,if_pos (by omega)]
   ·rw[if_neg h1]
    by_cases h2:x<i
    ·rw[if_pos h2,if_pos (by omega)]
    ·rw[if_neg h2,if_neg (by omega)]
  have hkk:(IR (rowF n (lvI i)))[i]?.map List.length=some 1:=by rw[IRF_get hil];rfl
  repeat' (first|((first|apply Ba|(apply Bb;(· rfl);(· rfl))|(apply Bc;(· exact nxE))|(apply Bd;(· rfl);(· rfl);(· exact nxE)));(· first|exact Ok.st1 rfl rfl rfl (by rw[IR_len,rowF_len];omega) hkk rfl rfl hset|exact Ok.pe))|((first|apply Ca|(apply Cb;(· exact nxE)));(· first|exact Ok.st1 rfl rfl rfl (by rw[IR_len,rowF_len];omega) hkk rfl rfl hset|exact Ok.e0))|refine Sx ?_|(refine Sy (fun h=>?_) (fun h=>?_)<;>try (exfalso;omega;done))|refine Sz (fun h=>?_) (fun h=>?_))
  refine ⟨⟨i+1,by omega⟩,?_,by simp only;omega⟩
  (apply Le.headZ [_] rfl)
  all_goals (try dsimp only[srcs])
  (case' hfr|hob=>(repeat' (first|refine La ?_ ?_|exact Lc|refine Lo ?_|refine ⟨⟨_,rfl,?_⟩,?_⟩|refine Lx ?_)))
  all_goals (first|(rfl)|exact Ld)
 obtain rfl:i=n:=by omega
 have hset:(IR (rowF i (lvI i))).set c0 [DI 0]=IR (rowF i (bfZ c0).lv):=rowF_st hc0n fun x hx=>by
  unfold lvI bfZ
  by_cases h1:x=c0
  ·simp[h1]
  ·simp[h1,hx]
 have hkk:(IR (rowF i (lvI i)))[c0]?.map List.length=some 1:=by rw[IRF_get hc0n];rfl
 repeat' (first|((first|apply Ba|(apply Bb;(· rfl);(· rfl))|(apply Bc;(· exact nxE))|(apply Bd;(· rfl);(· rfl);(· exact nxE)));(· first|exact Ok.st1 rfl rfl rfl (by rw[IR_len,rowF_len];omega) hkk rfl rfl hset|exact Ok.bs1 rfl rfl rfl rfl rfl (by decide)|exact Ok.pe))|((first|apply Ca|(apply Cb;(· exact nxE)));(· first|exact Ok.st1 rfl rfl rfl (by rw[IR_len,rowF_len];omega) hkk rfl rfl hset|exact Ok.bs1 rfl rfl rfl rfl rfl (by decide)|exact Ok.e0))|refine Sx ?_|(refine Sy (fun h=>?_) (fun h=>?_)<;>try (exfalso;omega;done))|refine Sz (fun h=>?_) (fun h=>?_))
 clear hset hkk
 refine AW.loop (X:={k:Nat // k≤N}) (fun k=>⟨[TL T,IL (cN c),Oo,Oo,Oo,.own 1 ⟨1,[]⟩ 0 i,Oo,.own 1 ⟨2,[]⟩ 0 (bfI W c c0 (k.1:Nat)).q.length,I ((bfI W c c0 (k.1:Nat)).g:Nat),I (k.1:Nat),Oo,Oo,Oo,Oo,Oo,Oo,Oo,Oo,Oo,Oo,Oo,Oo,Oo,Oo,Oo,Oo,Oo,Oo,Oo,Oo,Oo,Oo,Oo,Oo,Oo,Oo,Oo,Oo,Oo,Oo,Oo,Oo,Oo,Oo,Oo,Oo,Oo,Oo,Oo,Oo,Oo,Oo,Oo,Oo,Oo,Oo,Oo,Oo,Oo,Oo,Oo,Oo,Oo,Oo,Oo,Oo,Oo,Oo,Oo,Oo,Oo,Oo,Oo,Oo,Oo,Oo,Oo,Oo,Oo,Oo,Oo,Oo,Oo,Oo,Oo,Oo,Oo,Oo,Oo,Oo,Oo,Oo],heapL [(⟨1,[]⟩,⟨1,[]⟩,IO (rowF i (bfI W c c0 k.1).lv)),(⟨2,[]⟩,⟨2,[]⟩,IO (cN (bfI W c c0 k.1).q))],900⟩) (fun k=>N - k.1) ⟨0,Nat.zero_le _⟩ ?_ (fun k=>?_)
 ·
  (apply Le.headZ [_,_] rfl)
  all_goals (try dsimp only[srcs])
  (case' hfr|hob=>(repeat' (first|refine La ?_ ?_|exact Lc|refine Lo ?_|refine ⟨⟨_,rfl,?_⟩,?_⟩|refine Lx ?_)))
  all_goals (first|(rfl)|exact Ld)
 obtain ⟨m,hm⟩:=k
 simp only
 have hQ:=bfI_ok (W:=W) hc0m m (fun j hj=>hk j (by omega))
 by_cases hml:m<N
 case neg=>
  obtain rfl:m=N:=by omega
  rw[hN]
  repeat' (first|((first|apply Ba|(apply Bb;(· rfl);(· rfl))|(apply Bc;(· exact nxE))|(apply Bd;(· rfl);(· rfl);(· exact nxE)));(· first|exact Ok.pe))|((first|apply Ca|(apply Cb;(· exact nxE)));(· first|exact Ok.e0))|refine Sx ?_|(refine Sy (fun h=>?_) (fun h=>?_)<;>try (exfalso;omega;done))|refine Sz (fun h=>?_) (fun h=>?_))
  refine Ya ?_
  (apply Le.headZ (hs:=[]) [] rfl)
  all_goals (try dsimp only[srcs])
  (case' hfr=>(repeat' (first|refine La ?_ ?_|exact Lc|refine Lo ?_|refine ⟨⟨_,rfl,?_⟩,?_⟩|refine Lx ?_)))
  all_goals (first|exact Ld|exact trivial|(rfl))
 have hmq:=hk m hml
 obtain ⟨u,hu⟩:∃ u,(bfI W c c0 m).q[m]? = some u:=⟨_,List.getElem?_eq_getElem hmq⟩
 have hud:(bfI W c c0 m).q.getD m 0=u:=by rw[List.getD_eq_getElem?_getD,hu];rfl
 have hum:u∈(bfI W c c0 m).q:=List.mem_of_getElem? hu
 have hall:=bfJ_all (W:=W) (c:=c) (c0:=c0) (i:=m)
 rw[hud] at hall
 have hok:=hQ.1
 have hJ:=fun j=>BfOk.node (W:=W) (c:=c) (c0:=c0) (u:=u) (c.take j) (bfI W c c0 m) hok hum (fun v hv=>List.mem_of_mem_take hv)
 have huq:(IR (cN (bfI W c c0 m).q))[m]? = some [DI (u:Nat)]:=by simp[hu]
 have hun:=hlt u (hok.mem u hum)
 have hql:=nodup_le i _ hok.nd (fun x hx=>hlt x (hok.mem x hx))
 generalize bfI W c c0 m=s at *
 repeat' (first|((first|apply Ba|(apply Bb;(· rfl);(· rfl))|(apply Bc;(· exact nxE))|(apply Bd;(· rfl);(· rfl);(· exact nxE)));(· first|exact Ok.ld1 rfl rfl rfl huq|exact Ok.lenD rfl rfl hlen|exact Ok.pe))|((first|apply Ca|(apply Cb;(· exact nxE)));(· first|exact Ok.e0))|refine Sx ?_|(refine Sy (fun h=>?_) (fun h=>?_)<;>try (exfalso;omega;done))|refine Sz (fun h=>?_) (fun h=>?_))
 refine AW.loop (X:={k:Nat // k≤c.length}) (fun k=>⟨[TL T,IL (cN c),Oo,Oo,Oo,.own 1 ⟨1,[]⟩ 0 i,Oo,.own 1 ⟨2,[]⟩ 0 (bfJ W c u s (k.1:Nat)).q.length,I ((bfJ W c u s (k.1:Nat)).g:Nat),I m,I u,Oo,Oo,Oo,Oo,Oo,Oo,Oo,Oo,Oo,Oo,Oo,Oo,Oo,Oo,Oo,Oo,Oo,Oo,Oo,Oo,Oo,Oo,Oo,Oo,Oo,Oo,Oo,Oo,Oo,Oo,Oo,Oo,Oo,IL (cN c),I c.length,I (k.1:Nat),Oo,Oo,Oo,Oo,Oo,Oo,Oo,Oo,Oo,Oo,Oo,Oo,Oo,Oo,Oo,Oo,Oo,Oo,Oo,Oo,Oo,Oo,Oo,Oo,Oo,Oo,Oo,Oo,Oo,Oo,Oo,Oo,Oo,Oo,Oo,Oo,Oo,Oo,Oo,Oo,Oo,Oo,Oo,Oo,Oo],heapL [(⟨1,[]⟩,⟨1,[]⟩,IO (rowF i (bfJ W c u s k.1).lv)),(⟨2,[]⟩,⟨2,[]⟩,IO (cN (bfJ W c u s k.1).q))],900⟩) (fun k=>c.length - k.1) ⟨0,Nat.zero_le _⟩ ?_ (fun k=>?_)
 ·
  (apply Le.headZ [_,_] rfl)
  all_goals (try dsimp only[srcs])
  (case' hfr|hob=>(repeat' (first|refine La ?_ ?_|exact Lc|refine Lo ?_|refine ⟨⟨_,rfl,?_⟩,?_⟩|refine Lx ?_)))
  all_goals (first|(rfl)|exact Ld)
 obtain ⟨j,hj⟩:=k
 simp only
 by_cases hjl:j<c.length
 case neg=>
  obtain rfl:j=c.length:=by omega
  rw[hall]
  repeat' (first|((first|apply Ba|(apply Bb;(· rfl);(· rfl))|(apply Bc;(· exact nxE))|(apply Bd;(· rfl);(· rfl);(· exact nxE)));(· first|exact Ok.pe))|((first|apply Ca|(apply Cb;(· exact nxE)));(· first|exact Ok.e0))|refine Sx ?_|(refine Sy (fun h=>?_) (fun h=>?_)<;>try (exfalso;omega;done))|refine Sz (fun h=>?_) (fun h=>?_))
  refine ⟨⟨m+1,by omega⟩,?_,by simp only;omega⟩
  (apply Le.headZ [_,_] rfl)
  all_goals (try dsimp only[srcs])
  (case' hfr|hob=>(repeat' (first|refine La ?_ ?_|exact Lc|refine Lo ?_|refine ⟨⟨_,rfl,?_⟩,?_⟩|refine Lx ?_)))
  all_goals (first|(rfl)|exact Ld)
 obtain ⟨v,hv⟩:∃ v,c[j]? = some v:=⟨c[j],List.getElem?_eq_getElem hjl⟩
 have hvm:v∈c:=List.mem_of_getElem? hv
 have hvn:=hlt v hvm
 have hst:=bfJ_s (W:=W) (u:=u) (s:=s) hv
 have hrv:(IR (cN c))[((j:Nat):Int).toNat]? = some [DI (v:Nat)]:=by simp[hv]
 obtain ⟨h1,h2,_⟩:=hJ j
 rw[show (c.take j).foldl (bfA W u) s=bfJ W c u s j from rfl] at h1 h2
 have hu2:=h2.mem hum
 have hlu:=(h1.lv u).resolve_right (fun hn=>hn.1 hu2)
 have hlv : -1≤(bfJ W c u s j).lv v∧(bfJ W c u s j).lv v≤1000:=by
  have:=nodup_le i _ h1.nd (fun x hx=>hlt x (h1.mem x hx))
  rcases h1.lv v with h|h<;>omega
 have hqj:=nodup_le i _ h1.nd (fun x hx=>hlt x (h1.mem x hx))
 have hgb:=h1.gb
 obtain ⟨r,r1,r2,r3⟩:=hsg v u hvn hun
 have hRr:=TR_get r1
 have hRf:=IR_get r2
 have hRl:(IR r).length=i:=by rw[IR_len,r3]
 generalize bfJ W c u s j=z at *
 have hu1:(IR (rowF i z.lv))[u]? = some [DI (z.lv u)]:=IRF_get hun
 have hv1:(IR (rowF i z.lv))[v]? = some [DI (z.lv v)]:=IRF_get hvn
 have hqlen:(IR (cN z.q)).length=z.q.length:=by simp
 unfold bfA at hst
 by_cases hB:W v u=BOT
 ·rw[if_pos hB] at hst
  rw[hB] at hRf
  unfold BOT at hRf
  repeat' (first|((first|apply Ba|(apply Bb;(· rfl);(· rfl))|(apply Bc;(· exact nxE))|(apply Bd;(· rfl);(· rfl);(· exact nxE)));(· first|exact Ok.pe))|((first|apply Ca|(apply Cb;(· exact nxE)));(· first|exact Ok.e0))|refine Sx ?_|(refine Sy (fun h=>?_) (fun h=>?_)<;>try (exfalso;omega;done))|refine Sz (fun h=>?_) (fun h=>?_))
  refine ⟨⟨j+1,by omega⟩,?_,by simp only;omega⟩
  simp only[hst]
  (apply Le.headZ [_,_] rfl)
  all_goals (try dsimp only[srcs])
  (case' hfr|hob=>(repeat' (first|refine La ?_ ?_|exact Lc|refine Lo ?_|refine ⟨⟨_,rfl,?_⟩,?_⟩|refine Lx ?_)))
  all_goals (first|(rfl)|exact Ld)
 rw[if_neg hB] at hst
 unfold BOT at hB
 by_cases hneg:z.lv v<0
 ·rw[if_pos hneg] at hst
  have hset:(IR (rowF i z.lv)).set v [DI (z.lv u+1)]=IR (rowF i (bfJ W c u s (j+1)).lv):=rowF_st hvn fun x hx=>by rw[hst]
  have hkk:(IR (rowF i z.lv))[v]?.map List.length=some 1:=by rw[hv1];rfl
  have hq2:IO (cN (bfJ W c u s (j+1)).q)=dobj 1 (IR (cN z.q)++[[DI (v:Nat)]]):=by
   rw[hst]
   show dobj 1 (IR (cN (z.q++[v])))=_
   rw[cN_snoc]
  have hq3:(bfJ W c u s (j+1)).q.length=z.q.length+1:=by rw[hst];simp
  have hg3:(bfJ W c u s (j+1)).g=z.g:=by rw[hst]
  repeat' (first|((first|apply Ba|(apply Bb;(· rfl);(· rfl))|(apply Bc;(· exact nxE))|(apply Bd;(· rfl);(· rfl);(· exact nxE)));(· first|exact Ok.ld1 rfl rfl rfl hv1|exact Ok.ld1 rfl rfl rfl hu1|exact Ok.st1 rfl rfl rfl (by rw[IR_len,rowF_len];omega) hkk rfl rfl hset|exact Ok.append1 (row:=[DI (v:Nat)]) rfl rfl (by decide) rfl rfl hqlen rfl rfl rfl (by rfl) (by omega) (by omega)|exact Ok.pe))|((first|apply Ca|(apply Cb;(· exact nxE)));(· first|exact Ok.st1 rfl rfl rfl (by rw[IR_len,rowF_len];omega) hkk rfl rfl hset|exact Ok.append1 (row:=[DI (v:Nat)]) rfl rfl (by decide) rfl rfl hqlen rfl rfl rfl (by rfl) (by omega) (by omega)|exact Ok.e0))|refine Sx ?_|(refine Sy (fun h=>?_) (fun h=>?_)<;>try (exfalso;omega;done))|refine Sz (fun h=>?_) (fun h=>?_))
  refine ⟨⟨j+1,by omega⟩,?_,by simp only;omega⟩
  simp only[hg3,hq3]
  (apply Le.headZ [_,_] rfl)
  all_goals (try dsimp only[srcs])
  (case' hfr|hob=>(repeat' (first|refine La ?_ ?_|exact Lc|refine Lo ?_|refine ⟨⟨_,rfl,?_⟩,?_⟩|refine Lx ?_)))
  all_goals (first|((first|exact hq2.symm|rfl))|exact Ld)
 ·rw[if_neg hneg] at hst
  have hA:=absN_ac (z.lv u+1 - z.lv v) (by omega)
  have hDv:=divisorOf_ac (z.lv u+1 - z.lv v).natAbs z.g (by omega) (by omega)
  generalize hab:(z.lv u+1 - z.lv v).natAbs=ab at *
  repeat' (first|((first|apply Ba|(apply Bb;(· rfl);(· rfl))|(apply Bc;(· exact nxE))|(apply Bd;(· rfl);(· rfl);(· exact nxE)));(· first|exact Ok.ld1 rfl rfl rfl hv1|exact Ok.ld1 rfl rfl rfl hu1|exact Kz rfl rfl (hA) (Ad An)|exact Kz rfl rfl (hDv) (Ad (Ad An))|exact Ok.pe))|((first|apply Ca|(apply Cb;(· exact nxE)));(· first|exact Ok.e0))|refine Sx ?_|(refine Sy (fun h=>?_) (fun h=>?_)<;>try (exfalso;omega;done))|refine Sz (fun h=>?_) (fun h=>?_))
  refine ⟨⟨j+1,by omega⟩,?_,by simp only;omega⟩
  simp only[hst]
  (apply Le.headZ [_,_] rfl)
  all_goals (try dsimp only[srcs])
  (case' hfr|hob=>(repeat' (first|refine La ?_ ?_|exact Lc|refine Lo ?_|refine ⟨⟨_,rfl,?_⟩,?_⟩|refine Lx ?_)))
  all_goals (first|(rfl)|exact Ld)
end
section
open Go Go.RowKit
noncomputable abbrev kmT (t:List (List Int)) (n:Nat):List (List Int):=shT t n (kmR (entN t) n).1 (kmR (entN t) n).2
noncomputable abbrev ccT (t:List (List Int)) (n:Nat):List (List Int):=cmT t n (kmR (entN t) n)
theorem cm_star {t:List (List Int)}{n:Nat} (h:MatOk t n) (hc:hasK (entN t) n):KStar (entN (kmT t n)) n (starF (entN (kmT t n)) n)∧∀ u v,u<n→v<n→(entN (ccT t n) v u≠BOT↔crit (entN (kmT t n)) (starF (entN (kmT t n)) n) v u):=by
 obtain ⟨h1,h2,h3,h4⟩:=kmR_ok h.b h.le hc
 have hst:=starM_k h hc
 have hs:=hst.ok
 have hs':StarOk (entN (kmT t n)) n (starF (entN (kmT t n)) n):=hs
 have hnp:∀ u l,u<n→(∀ x∈l,x<n)→kP (entN (kmT t n)) u l→kE u l=u→kW (entN (kmT t n)) u l≤0:=fun u l hu hl hp he=>by
  by_cases h0:l=[]
  ·subst h0;simp[kW]
  ·obtain ⟨c,v,rfl⟩:=snoc_of h0
   rw[kE_app] at he
   simp only[kE] at he
   subst he
   have key:∀ (c:List Nat) (u v:Nat) (W:Nat→Nat→Int),(WM W u c v↔kP W u (c++[v]))∧wM W u c v=kW W u (c++[v]):=by
    intro c
    induction c with
    | nil=>intro u v W;simp[WM,kP,wM,kW]
    | cons m c ih=>intro u v W;simp only[WM,wM,List.cons_append,kP,kW];rw[(ih m v W).1,(ih m v W).2];exact ⟨Iff.rfl,rfl⟩
   rw[← (key c v v _).2]
   exact hst.np v c hu (fun x hx=>hl x (by simp[hx])) ((key c v v _).1.2 hp)
 refine ⟨star_k hs' hnp,fun u v hu hv=>?_⟩
 unfold ccT cmT
 rw[tabF_ent hv hu]
 unfold crF crit
 rw[tabF_ent hu hv]
 by_cases hcr:entN (kmT t n) v u=BOT∨starF (entN (kmT t n)) n u v=BOT∨entN (kmT t n) v u+starF (entN (kmT t n)) n u v≠0
 ·rw[if_pos hcr]
  constructor
  ·intro h;exact absurd rfl h
  ·rintro ⟨a1,a2,a3⟩
   rcases hcr with e|e|e
   ·exact absurd e a1
   ·exact absurd e a2
   ·exact absurd a3 e
 ·rw[if_neg hcr]
  simp only[not_or,Decidable.not_not] at hcr
  have hne:entN t v u≠BOT:=by
   have:=hcr.1
   rw[shT_ent hv hu] at this
   exact (shF_ne (sh_ne h.b h3 h4)).1 this
  exact ⟨fun _=>hcr,fun _=>hne⟩
theorem kC_cm {t:List (List Int)}{n:Nat} (h:MatOk t n) (hc:hasK (entN t) n):∀ {l:List Nat}{u:Nat},u<n→(∀ x∈l,x<n)→kC (entN (kmT t n)) (starF (entN (kmT t n)) n) u l→kP (entN (ccT t n)) u l
 | [],_,_,_,_=>trivial
 | v :: l,u,hu,hl,hk=>by
  have hv:=hl v (by simp)
  exact ⟨((cm_star h hc).2 u v hu hv).2 hk.1,kC_cm h hc hv (fun x hx=>hl x (by simp[hx])) hk.2⟩
theorem cm_back {t:List (List Int)}{n:Nat} (h:MatOk t n) (hc:hasK (entN t) n) {u v:Nat} (hu:u<n) (hv:v<n) (hW:entN (ccT t n) v u≠BOT):RchP (entN (ccT t n)) n v u:=by
 obtain ⟨hK,hiff⟩:=cm_star h hc
 obtain ⟨a1,a2,a3⟩:=(hiff u v hu hv).1 hW
 rcases hK.at' v u hv hu with e|⟨l,l1,l2,l3,l4⟩
 ·exact absurd e a2
 ·have hkc:=hK.crit (b:=l) (a:=[v]) (u:=u) hu (fun x hx=>by
   rcases List.mem_append.1 hx with hx|hx
   ·simp at hx;subst hx;exact hv
   ·exact l1 x hx) ((kP_app _ _ _).2 ⟨⟨a1,trivial⟩,l2⟩) (by rw[kE_app];exact l3) (by
   rw[kW_app];simp only[kW,kE];rw[l4];omega)
  exact ⟨l,l1,kC_cm h hc hv l1 hkc,l3⟩
theorem best_wcy {t:List (List Int)}{n:Nat} (h:MatOk t n) (hc:hasK (entN t) n):∃ f r,bkF t n (kmR (entN t) n) (-1)=f :: r∧WCy (entN (ccT t n)) n f r:=by
 obtain ⟨hK,hiff⟩:=cm_star h hc
 obtain ⟨h1,h2,h3,h4⟩:=kmR_ok h.b h.le hc
 obtain ⟨f,r,e,hcy,hm⟩:=best_ne h.b h.le hc
 refine ⟨f,r,e,?_⟩
 have hrl:∀ x∈r++[f],x<n:=fun x hx=>by
  rcases List.mem_append.1 hx with hx|hx
  ·exact (hcy.gt x hx).2
  ·simp at hx;subst hx;exact hcy.lt
 have hpW:kP (entN t) f (r++[f]):=(kP_app _ _ _).2 ⟨hcy.path,hcy.close,trivial⟩
 have hsub:∀ (l:List Nat) (u:Nat),u<n→(∀ x∈l,x<n)→kP (entN t) u l→kP (entN (kmT t n)) u l∧kW (entN (kmT t n)) u l=kV (entN t) (kmR (entN t) n).1 (kmR (entN t) n).2 u l:=fun l u hu hl hp=>by
  have hcong:∀ (l:List Nat) (u:Nat),u<n→(∀ x∈l,x<n)→(kP (entN (kmT t n)) u l↔kP (shF (entN t) (kmR (entN t) n).1 (kmR (entN t) n).2) u l)∧kW (entN (kmT t n)) u l=kW (shF (entN t) (kmR (entN t) n).1 (kmR (entN t) n).2) u l:=by
   intro l
   induction l with
   | nil=>intro u _ _;exact ⟨Iff.rfl,rfl⟩
   | cons v l ih=>
    intro u hu hl
    have hv:=hl v (by simp)
    obtain ⟨i1,i2⟩:=ih v hv (fun x hx=>hl x (by simp[hx]))
    simp only[kP,kW]
    rw[shT_ent hv hu,i1,i2]
    exact ⟨Iff.rfl,rfl⟩
  obtain ⟨c1,c2⟩:=hcong l u hu hl
  rw[c2]
  exact ⟨c1.2 ((shF_p (sh_ne h.b h3 h4)).2 hp),shF_w hp⟩
 obtain ⟨p1,p2⟩:=hsub (r++[f]) f hcy.lt hrl hpW
 have hz:kV (entN t) (kmR (entN t) n).1 (kmR (entN t) n).2 f (r++[f])=0:=by
  have:=(mR_ok h.b h.le hcy).2.2.2
  rw[hm] at this
  unfold kV
  rw[kW_app]
  simp only[kW,List.length_append,List.length_cons,List.length_nil]
  unfold cyS at this
  rw[show ((r.length+(0+1):Nat):Int)=(r.length:Int)+1 by omega,Int.add_zero]
  exact this
 have hkc:=hK.crit (b:=r++[f]) (a:=[]) (u:=f) hcy.lt (fun x hx=>hrl x (by simpa using hx)) (by simpa using p1) (by rw[List.nil_append,kE_app];rfl) (by rw[List.nil_append,p2,hz])
 have hp:=kC_cm h hc hcy.lt hrl hkc
 rw[kP_app] at hp
 exact ⟨hcy.lt,hcy.gt,hcy.nd,hp.1,hp.2.1⟩
section
variable {W : Nat → Nat → Int} {n : Nat}
abbrev rcB (W:Nat→Nat→Int) (n:Nat):Nat→Nat→Bool:=rchF W n
theorem rc_refl {v:Nat} (hv:v<n):rcB W n v v=true:=(rch_iff hv hv).2 .refl
theorem rc_trans {u v w:Nat} (hu:u<n) (hv:v<n) (hw:w<n) (h:rcB W n u v=true) (h':rcB W n v w=true):rcB W n u w=true:=(rch_iff hu hw).2 (((rch_iff hu hv).1 h).trans ((rch_iff hv hw).1 h'))
abbrev cmp (W:Nat→Nat→Int) (n v:Nat):List Nat:=clsN (rcB W n) v n
theorem cmp_mem {v x:Nat} (hv:v<n):x∈cmp W n v↔x<n∧RchP W n v x∧RchP W n x v:=by
 rw[clsN_mem]
 constructor
 ·rintro ⟨h1,h2,h3⟩;exact ⟨h1,(rch_iff hv h1).1 h2,(rch_iff h1 hv).1 h3⟩
 ·rintro ⟨h1,h2,h3⟩;exact ⟨h1,(rch_iff hv h1).2 h2,(rch_iff h1 hv).2 h3⟩
theorem cmp_lt {v:Nat}:∀ x∈cmp W n v,x<n:=fun _ hx=>(clsN_mem.1 hx).1
theorem cmp_st {v:Nat} (hv:v<n):∀ a∈cmp W n v,∀ b∈cmp W n v,RchP W n a b:=fun a ha b hb=>by
 obtain ⟨_,_,h1⟩:=(cmp_mem hv).1 ha
 obtain ⟨_,h2,_⟩:=(cmp_mem hv).1 hb
 exact h1.trans h2
theorem cmp_in {v:Nat} (hv:v<n):∀ z L,z∈cmp W n v→(∀ x∈L,x<n)→kP W z L→kE z L∈cmp W n v→∀ y∈L,y∈cmp W n v:=fun z L hz hL hp he y hy=>by
 obtain ⟨z1,z2,z3⟩:=(cmp_mem hv).1 hz
 obtain ⟨e1,e2,e3⟩:=(cmp_mem hv).1 he
 obtain ⟨A,B,rfl⟩:=List.append_of_mem hy
 have e:A++y :: B=(A++[y])++B:=by simp
 rw[e] at hp hL he e3
 rw[kP_app] at hp
 have hk:kE z (A++[y])=y:=by rw[kE_app];rfl
 rw[hk] at hp
 rw[kE_app,hk] at e3
 have hA:∀ x∈A++[y],x<n:=fun x hx=>hL x (by simp only[List.mem_append] at hx ⊢;exact .inl hx)
 have hB:∀ x∈B,x<n:=fun x hx=>hL x (by simp only[List.mem_append] at hx ⊢;exact .inr hx)
 exact (cmp_mem hv).2 ⟨hA y (by simp),z2.trans ⟨A++[y],hA,hp.1,hk⟩,(show RchP W n y (kE y B) from ⟨B,hB,hp.2,rfl⟩).trans e3⟩
abbrev lds (W:Nat→Nat→Int) (n:Nat):List Nat:=ldrN (rcB W n) n n
theorem lds_mem {v:Nat} (h:v∈lds W n):v<n∧hdN (cmp W n v)=v∧v∈cmp W n v∧(cmp W n v)[0]? = some v:=by
 unfold lds ldrN at h
 rw[List.mem_filter,List.mem_range,decide_eq_true_eq] at h
 have hm:v∈cmp W n v:=clsN_mem.2 ⟨h.1,rc_refl h.1,rc_refl h.1⟩
 refine ⟨h.1,h.2,hm,?_⟩
 have h2:hdN (cmp W n v)=v:=h.2
 cases hc:cmp W n v with
 | nil=>rw[hc] at hm;cases hm
 | cons a b=>
  rw[hc] at h2
  have:a=v:=h2
  subst this;rfl
theorem lds_of {x:Nat} (hx:x<n):∃ v∈lds W n,x∈cmp W n v:=by
 have hxc:x∈cmp W n x:=clsN_mem.2 ⟨hx,rc_refl hx,rc_refl hx⟩
 obtain ⟨_,hm⟩:=hd_min hxc
 obtain ⟨m1,m2,m3⟩:=clsN_mem.1 hm
 generalize hmm:hdN (clsN (rcB W n) x n)=m at *
 have hcls:clsN (rcB W n) m n=clsN (rcB W n) x n:=by
  unfold clsN
  refine List.filter_congr fun w hw=>?_
  have hw:=List.mem_range.1 hw
  rw[Bool.eq_iff_iff,Bool.and_eq_true,Bool.and_eq_true]
  exact ⟨fun h=>⟨rc_trans hx m1 hw m2 h.1,rc_trans hw m1 hx h.2 m3⟩,fun h=>⟨rc_trans m1 hx hw m3 h.1,rc_trans hw hx m1 h.2 m2⟩⟩
 refine ⟨m,?_,by show x∈clsN (rcB W n) m n;rw[hcls];exact hxc⟩
 unfold lds ldrN
 rw[List.mem_filter,List.mem_range,decide_eq_true_eq]
 exact ⟨m1,by rw[hcls];exact hmm⟩
def otB (W:Nat→Nat→Int) (n v:Nat):Bool:=(List.range n).any fun i=>!decide (W i v=BOT)
theorem otB_iff {v:Nat}:otB W n v=true↔∃ i,i<n∧W i v≠BOT:=by
 unfold otB
 rw[List.any_eq_true]
 constructor
 ·rintro ⟨i,hi,h⟩;exact ⟨i,List.mem_range.1 hi,by simpa using h⟩
 ·rintro ⟨i,hi,h⟩;exact ⟨i,List.mem_range.2 hi,by simpa using h⟩
theorem kept_eq (hback:∀ u v,u<n→v<n→W v u≠BOT→RchP W n v u) {v:Nat} (hv:v∈lds W n):(!decide ((cmp W n v).length=1∧W (hdN (cmp W n v)) (hdN (cmp W n v))=BOT))=otB W n v:=by
 obtain ⟨v1,v2,v3,_⟩:=lds_mem hv
 rw[v2,Bool.eq_iff_iff,otB_iff]
 simp only[Bool.not_eq_true',decide_eq_false_iff_not]
 constructor
 ·intro h
  by_cases hvv:W v v=BOT
  ·have hl:(cmp W n v).length≠1:=fun e=>h ⟨e,hvv⟩
   obtain ⟨w,hw,hne⟩:∃ w∈cmp W n v,w≠v:=by
    refine Classical.byContradiction fun hn=>hl ?_
    have hall:∀ w∈cmp W n v,w=v:=fun w hw=>Classical.byContradiction fun h=>hn ⟨w,hw,h⟩
    have hnd:(cmp W n v).Nodup:=List.Nodup.sublist (List.filter_sublist) List.nodup_range
    match hc:cmp W n v with
    | []=>rw[hc] at v3;cases v3
    | [a]=>rfl
    | a :: b :: r=>
     rw[hc] at hnd
     have ha:=hall a (by rw[hc];simp)
     have hb:=hall b (by rw[hc];simp)
     subst ha;subst hb
     simp at hnd
   obtain ⟨_,⟨l,l1,l2,l3⟩,_⟩:=(cmp_mem v1).1 hw
   cases l with
   | nil=>exact absurd l3.symm hne
   | cons i l=>exact ⟨i,l1 i (by simp),l2.1⟩
  ·exact ⟨v,v1,hvv⟩
 ·rintro ⟨i,hi,hW⟩ ⟨e1,e2⟩
  by_cases hiv:i=v
  ·subst hiv;exact hW e2
  ·have hic:i∈cmp W n v:=(cmp_mem v1).2 ⟨hi,.one hi hW,hback v i v1 hi hW⟩
   match hc:cmp W n v,e1 with
   | [a],_=>
    rw[hc] at hic v3
    simp at hic v3
    omega
abbrev kpL (W:Nat→Nat→Int) (n:Nat):List Nat:=(lds W n).filter (otB W n)
theorem kp_of (hback:∀ u v,u<n→v<n→W v u≠BOT→RchP W n v u) {x:Nat} (hx:x<n) (ho:otB W n x=true):∃ v∈kpL W n,x∈cmp W n v:=by
 obtain ⟨v,hv,hxv⟩:=lds_of (W:=W) hx
 obtain ⟨v1,v2,v3,_⟩:=lds_mem hv
 refine ⟨v,List.mem_filter.2 ⟨hv,?_⟩,hxv⟩
 by_cases he:x=v
 ·subst he;exact ho
 ·obtain ⟨_,⟨l,l1,l2,l3⟩,_⟩:=(cmp_mem v1).1 hxv
  cases l with
  | nil=>exact absurd l3.symm he
  | cons i l=>exact otB_iff.2 ⟨i,l1 i (by simp),l2.1⟩
abbrev pdV (W:Nat→Nat→Int) (n v:Nat):Nat:=pdF W n (cmp W n v)
theorem pd_pos (hback:∀ u v,u<n→v<n→W v u≠BOT→RchP W n v u) {v:Nat} (hv:v∈kpL W n):1≤pdV W n v∧pdV W n v≤n:=by
 obtain ⟨hl,ho⟩:=List.mem_filter.1 hv
 obtain ⟨v1,v2,v3,_⟩:=lds_mem hl
 obtain ⟨i,hi,hW⟩:=otB_iff.1 ho
 obtain ⟨l,l1,l2,l3⟩:=hback v i v1 hi hW
 obtain ⟨l,l0,l1,l2,l3⟩:=RchP.short hi l.length l (Nat.le_refl _) l1 l2 l3
 have hd:pdV W n v ∣ (i :: l).length:=by
  refine div_walk (W:=W) (n:=n) (S:=fun x=>x∈cmp W n v) (fun z L hz _ a1 a2 a3=>cmp_in v1 z L hz a1 a2 (by rw[a3];exact hz)) (fun f r hf hr=>?_) (i :: l).length v (i :: l) (Nat.le_refl _) v3 v1 (fun x hx=>?_) ⟨hW,l2⟩ l3
  ·exact (pdF_dvd cmp_lt).1 (Nat.dvd_refl _) f hf r hr
  ·rcases List.mem_cons.1 hx with rfl|hx
   ·exact hi
   ·exact l1 x hx
 have hpos:0<(i :: l).length:=by simp
 have hle:=Nat.le_of_dvd hpos hd
 have hlen:(i :: l).length≤n:=by simp;omega
 refine ⟨?_,by omega⟩
 rcases Nat.eq_zero_or_pos (pdV W n v) with h0|h0
 ·rw[h0] at hd
  have:=Nat.eq_zero_of_zero_dvd hd
  omega
 ·exact h0
theorem pd_bf {v:Nat} (hv:v∈lds W n):∃ N,(∀ i,i<N→i<(bfI W (cmp W n v) v i).q.length)∧(bfI W (cmp W n v) v N).q.length=N∧(bfI W (cmp W n v) v N).g=pdV W n v:=by
 obtain ⟨v1,v2,v3,_⟩:=lds_mem hv
 obtain ⟨N,h1,h2,_⟩:=bf_end (W:=W) v3 cmp_lt
 exact ⟨N,h1,h2,bf_period v3 cmp_lt (cmp_in v1) (cmp_st v1) h1 h2⟩
theorem pd_cy {v f:Nat}{r:List Nat} (hf:f∈cmp W n v) (hr:WCy W n f r):pdV W n v ∣ r.length+1:=(pdF_dvd cmp_lt).1 (Nat.dvd_refl _) f hf r hr
def cyS1 (W:Nat→Nat→Int) (n:Nat) (c v:Nat):Nat:=c / Nat.gcd c (pdV W n v)*pdV W n v
def cyF (W:Nat→Nat→Int) (n:Nat) (vs:List Nat):Nat:=vs.foldl (cyS1 W n) 1
theorem cyS1_lcm {c v:Nat}:cyS1 W n c v=Nat.lcm c (pdV W n v):=by
 unfold cyS1 Nat.lcm
 exact Nat.div_mul_right_comm (Nat.gcd_dvd_left _ _) _
theorem cyF_dvd:∀ (vs:List Nat) (c:Nat),c ∣ vs.foldl (cyS1 W n) c∧∀ v∈vs,pdV W n v ∣ vs.foldl (cyS1 W n) c
 | [],c=>⟨Nat.dvd_refl _,fun v hv=>by cases hv⟩
 | w :: vs,c=>by
  obtain ⟨h1,h2⟩:=cyF_dvd vs (cyS1 W n c w)
  rw[cyS1_lcm] at h1 h2
  simp only[List.foldl_cons]
  rw[cyS1_lcm]
  refine ⟨Nat.dvd_trans (Nat.dvd_lcm_left _ _) h1,fun v hv=>?_⟩
  rcases List.mem_cons.1 hv with rfl|hv
  ·exact Nat.dvd_trans (Nat.dvd_lcm_right _ _) h1
  ·exact h2 v hv
theorem cyF_bd {B:Nat} (hB:1≤B) {vs:List Nat} (h:∀ v∈vs,1≤pdV W n v∧pdV W n v≤B):∀ k,k≤vs.length→1≤(vs.take k).foldl (cyS1 W n) 1∧(vs.take k).foldl (cyS1 W n) 1≤B ^ k
 | 0,_=>by simp
 | k+1,hk=>by
  obtain ⟨h1,h2⟩:=cyF_bd hB h k (by omega)
  have hv:=List.getElem?_eq_getElem (l:=vs) (i:=k) (by omega)
  rw[take_fold hv,cyS1_lcm]
  obtain ⟨p1,p2⟩:=h _ (List.mem_of_getElem? hv)
  generalize (vs.take k).foldl (cyS1 W n) 1=c at *
  generalize pdV W n vs[k]=p at *
  have hl:=Nat.lcm_pos (show 0<c by omega) (show 0<p by omega)
  refine ⟨hl,?_⟩
  have h3:Nat.lcm c p≤c*p:=Nat.div_le_self _ _
  have h4:c*p≤B ^ k*B:=Nat.mul_le_mul h2 p2
  rw[Nat.pow_succ]
  omega
end
end
section
open Go Go.RowKit
attribute [local irreducible] AL AD AW OpOk Le AC thenQ blockQ EndQ
def nodB (t:List (List Int)) (e:Int):Bool:=wi e 0 ((t.length:Int) - 1)
theorem isNode_ac [Mode] (t:List (List Int)) (e:Int) (ht:t.length≤100000000):AC Tryz.prog 63 [TL t,I e] H0 (Bo (nodB t e)) H0:=by
 have hW:=within_ac e 0 ((t.length:Int) - 1)
 have hlen:(mRows 1 (TR t)).length=t.length:=mTR_len
 refine AC.of_body 0 Tryz.func63 rfl (fun l h=>absurd rfl h) (fun C hC=>?_)
 have hD:∀ l,¬ C.D0 l:=fun l h=>(hC l).1 h rfl
 simp only[startFr,Tryz.ntmps63,List.length_cons,List.length_nil,Nat.reduceAdd,Nat.reduceSub,List.replicate_succ,List.replicate_zero,List.cons_append,List.nil_append]
 repeat' (first|((first|apply Ba|(apply Bb;(· rfl);(· rfl))|(apply Bc;(· exact nxE))|(apply Bd;(· rfl);(· rfl);(· exact nxE)));(· first|exact Ok.lenD rfl rfl hlen|exact Kz rfl rfl (hW) (Ad (Ad (Ad An)))|exact Ok.pe))|((first|apply Ca|(apply Cb;(· exact nxE)));(· first|exact Ok.e0))|refine Sx ?_|(refine Sy (fun h=>?_) (fun h=>?_)<;>try (exfalso;omega;done))|refine Sz (fun h=>?_) (fun h=>?_))
 refine Ya ?_
 (apply Le.headZ (hs:=[]) [] rfl)
 all_goals (try dsimp only[srcs])
 (case' hfr=>(repeat' (first|refine La ?_ ?_|exact Lc|refine Lo ?_|refine ⟨⟨_,rfl,?_⟩,?_⟩|refine Lx ?_)))
 all_goals (first|exact Ld|exact trivial|(rfl))
theorem l03Node_ac [Mode] (t:List (List Int)) (e:Int) (ht:t.length≤100000000):AC Tryz.prog 68 [TL t,I e] H0 (Bo (nodB t e)) H0:=by
 have hW:=l01In_ac e 0 ((t.length:Int) - 1)
 have hlen:(mRows 1 (TR t)).length=t.length:=mTR_len
 refine AC.of_body 0 Tryz.func68 rfl (fun l h=>absurd rfl h) (fun C hC=>?_)
 have hD:∀ l,¬ C.D0 l:=fun l h=>(hC l).1 h rfl
 simp only[startFr,Tryz.ntmps68,List.length_cons,List.length_nil,Nat.reduceAdd,Nat.reduceSub,List.replicate_succ,List.replicate_zero,List.cons_append,List.nil_append]
 repeat' (first|((first|apply Ba|(apply Bb;(· rfl);(· rfl))|(apply Bc;(· exact nxE))|(apply Bd;(· rfl);(· rfl);(· exact nxE)));(· first|exact Ok.lenD rfl rfl hlen|exact Kz rfl rfl (hW) (Ad (Ad (Ad An)))|exact Ok.pe))|((first|apply Ca|(apply Cb;(· exact nxE)));(· first|exact Ok.e0))|refine Sx ?_|(refine Sy (fun h=>?_) (fun h=>?_)<;>try (exfalso;omega;done))|refine Sz (fun h=>?_) (fun h=>?_))
 refine Ya ?_
 (apply Le.headZ (hs:=[]) [] rfl)
 all_goals (try dsimp only[srcs])
 (case' hfr=>(repeat' (first|refine La ?_ ?_|exact Lc|refine Lo ?_|refine ⟨⟨_,rfl,?_⟩,?_⟩|refine Lx ?_)))
 all_goals (first|exact Ld|exact trivial|(rfl))
end
end Go.Proofs.YtkpoclbnnpglfaaGreat
