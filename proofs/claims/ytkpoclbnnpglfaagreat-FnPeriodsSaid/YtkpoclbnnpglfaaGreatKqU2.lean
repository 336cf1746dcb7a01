/-
  Walks in the abstract reading, part 2.
-/
import Derived.Test.YtkpoclbnnpglfaaGreatKqU1
import Derived.Test.YtkpoclbnnpglfaaGreatKqA2
set_option linter.unusedSimpArgs false
set_option linter.unusedVariables false
namespace Go.Proofs.YtkpoclbnnpglfaaGreat
section
def plA (xs:List Pl) (i:Nat):Pl:=(xs[i]?).getD ⟨0,0,0,0⟩
def pw (rn rd:Int) (p:Pl):Int:=rd*p.d - rn*p.k
def sumD (xs:List Pl):List Nat→Int
 | []=>0
 | i :: c=>(plA xs i).d+sumD xs c
def sumT (xs:List Pl):List Nat→Int
 | []=>0
 | i :: c=>(plA xs i).k+sumT xs c
def wgt (xs:List Pl) (rn rd:Int):List Nat→Int
 | []=>0
 | i :: c=>pw rn rd (plA xs i)+wgt xs rn rd c
theorem wgt_sums {xs:List Pl}{rn rd:Int}:∀ c,wgt xs rn rd c=rd*sumD xs c - rn*sumT xs c
 | []=>by simp[wgt,sumD,sumT]
 | i :: c=>by simp only[wgt,sumD,sumT,pw,wgt_sums c,Int.mul_add];omega
theorem wgt_app {xs:List Pl}{rn rd:Int}:∀ a b,wgt xs rn rd (a++b)=wgt xs rn rd a+wgt xs rn rd b
 | [],b=>by simp[wgt]
 | i :: a,b=>by simp only[List.cons_append,wgt,wgt_app a b];omega
theorem sumT_app {xs:List Pl}:∀ a b,sumT xs (a++b)=sumT xs a+sumT xs b
 | [],b=>by simp[sumT]
 | i :: a,b=>by simp only[List.cons_append,sumT,sumT_app a b];omega
def Wk (xs:List Pl):Int→List Nat→Int→Prop
 | u,[],v=>u=v
 | u,i :: c,v=>i<xs.length∧(plA xs i).f=u∧Wk xs (plA xs i).t c v
theorem Wk.app {xs:List Pl}:∀ {a b:List Nat}{u v:Int},Wk xs u (a++b) v↔∃ m,Wk xs u a m∧Wk xs m b v
 | [],b,u,v=>by simp[Wk]
 | i :: a,b,u,v=>by
  simp only[List.cons_append,Wk,Wk.app (a:=a)]
  constructor
  ·rintro ⟨h1,h2,m,h3,h4⟩;exact ⟨m,⟨h1,h2,h3⟩,h4⟩
  ·rintro ⟨m,⟨h1,h2,h3⟩,h4⟩;exact ⟨h1,h2,m,h3,h4⟩
theorem lsN_cons {i:Nat}{c:List Nat} (h:c≠[]):lsN (i :: c)=lsN c:=by cases c with|nil=>exact absurd rfl h|cons=>rfl
theorem lsN_snoc {l:List Nat}{i:Nat}:lsN (l++[i])=i:=by simp[lsN]
abbrev firstF (xs:List Pl) (l:List Nat):Int:=(plA xs (hdN l)).f
abbrev lastT (xs:List Pl) (l:List Nat):Int:=(plA xs (lsN l)).t
theorem Wk.last {xs:List Pl}:∀ {c:List Nat}{u v:Int},Wk xs u c v→c≠[]→v=lastT xs c
 | [i],u,v,h,_=>by simp only[Wk] at h;exact h.2.2.symm
 | i :: j :: c,u,v,h,_=>by
  have:=Wk.last h.2.2 (by simp)
  rw[this];simp only[lastT];rw[lsN_cons (i:=i) (by simp)]
theorem Wk.first {xs:List Pl}{c:List Nat}{u v:Int} (h:Wk xs u c v) (hc:c≠[]):u=firstF xs c:=by
 cases c with
 | nil=>exact absurd rfl hc
 | cons i c=>exact h.2.1.symm
theorem Wk.lt {xs:List Pl}:∀ {c:List Nat}{u v:Int},Wk xs u c v→∀ i∈c,i<xs.length
 | [],_,_,_,i,hi=>by cases hi
 | j :: c,_,_,h,i,hi=>by
  rcases List.mem_cons.1 hi with rfl|hi
  ·exact h.1
  ·exact Wk.lt h.2.2 i hi
theorem Wk.next {xs:List Pl}:∀ {c:List Nat}{u v:Int},Wk xs u c v→∀ i∈c,(plA xs i).t=v∨(plA xs i).t∈c.map fun i=>(plA xs i).f
 | [],_,_,_,i,hi=>by cases hi
 | [j],_,_,h,i,hi=>by
  simp at hi;subst hi
  exact .inl h.2.2
 | j :: k :: c,_,_,h,i,hi=>by
  rcases List.mem_cons.1 hi with rfl|hi
  ·right;rw[← h.2.2.2.1];simp
  ·rcases Wk.next h.2.2 i hi with h1|h1
   ·exact .inl h1
   ·right;rw[List.map_cons];exact List.mem_cons_of_mem _ h1
structure Circ (xs:List Pl) (c:List Nat):Prop where
 ne:c≠[]
 wk:Wk xs (firstF xs c) c (firstF xs c)
 nd:(c.map fun i=>(plA xs i).f).Nodup
 mn:∀ i∈c,firstF xs c≤(plA xs i).f
def visB (xs:List Pl) (l:List Nat) (e:Int):Bool:=l.any fun i=>decide ((plA xs i).f=e) || decide ((plA xs i).t=e)
def skipC (xs:List Pl) (l:List Nat) (i:Nat):Prop:=(plA xs i).f≠lastT xs l∨(plA xs i).t<firstF xs l∨((plA xs i).t≠firstF xs l∧visB xs l (plA xs i).t=true)
instance (xs:List Pl) (l:List Nat) (i:Nat):Decidable (skipC xs l i):=by unfold skipC;infer_instance
def growC (xs:List Pl) (rn rd over:Int):Nat→List Nat→List Nat
 | 0,_=>[]
 | k+1,l=>if lastT xs l=firstF xs l then (if over<wgt xs rn rd l then l else []) else
   tryAll (fun i=>if skipC xs l i then [] else growC xs rn rd over k (l++[i])) (List.range' 0 xs.length)
def overC (xs:List Pl) (rn rd over:Int) (fuel:Nat):List Nat:=tryAll (fun i=>if (plA xs i).t<(plA xs i).f then [] else growC xs rn rd over fuel [i]) (List.range' 0 xs.length)
structure PathC (xs:List Pl) (l:List Nat):Prop where
 ne:l≠[]
 wk:Wk xs (firstF xs l) l (lastT xs l)
 nd:(l.map fun i=>(plA xs i).f).Nodup
 mn:∀ i∈l,firstF xs l≤(plA xs i).f
 ge:firstF xs l≤lastT xs l
 fresh:lastT xs l=firstF xs l∨lastT xs l∉l.map fun i=>(plA xs i).f
theorem PathC.one {xs:List Pl}{i:Nat} (hi:i<xs.length) (h:¬ (plA xs i).t<(plA xs i).f):PathC xs [i]:=
 ⟨by simp,⟨hi,rfl,rfl⟩,by simp,by simp[firstF,hdN],by simp[firstF,lastT,hdN,lsN];omega,by
  simp only[firstF,lastT,hdN,lsN,List.headD_cons,List.getLastD_cons,List.getLastD_nil,List.map_cons,List.map_nil,List.mem_singleton]
  exact Classical.em _⟩
theorem PathC.snoc {xs:List Pl}{l:List Nat}{i:Nat} (h:PathC xs l) (hi:i<xs.length) (hl:lastT xs l≠firstF xs l) (hs:¬ skipC xs l i):PathC xs (l++[i]):=by
 unfold skipC at hs
 simp only[not_or,Classical.not_not,not_and,Bool.not_eq_true] at hs
 obtain ⟨h1,h2,h3⟩:=hs
 have hf:firstF xs (l++[i])=firstF xs l:=by simp only[firstF];rw[hdN_app h.ne]
 have ht:lastT xs (l++[i])=(plA xs i).t:=by simp only[lastT];rw[lsN_snoc]
 have hfr:lastT xs l∉l.map fun i=>(plA xs i).f:=h.fresh.resolve_left hl
 refine ⟨by simp,?_,?_,?_,?_,?_⟩
 ·rw[hf,ht,Wk.app]
  exact ⟨_,h.wk,hi,h1,rfl⟩
 ·rw[List.map_append,List.nodup_append]
  refine ⟨h.nd,by simp,fun a ha b hb e=>?_⟩
  simp at hb
  subst hb
  rw[e,h1] at ha
  exact hfr ha
 ·intro j hj
  rw[hf]
  rcases List.mem_append.1 hj with hj|hj
  ·exact h.mn j hj
  ·simp at hj;subst hj;rw[h1];exact h.ge
 ·rw[hf,ht];omega
 ·rw[hf,ht]
  by_cases h4:(plA xs i).t=firstF xs l
  ·exact .inl h4
  ·right
   have hv:=h3 h4
   unfold visB at hv
   rw[List.any_eq_false] at hv
   intro hm
   rw[List.map_append,List.mem_append] at hm
   rcases hm with hm|hm
   ·obtain ⟨x,hx,e⟩:=List.mem_map.1 hm
    have:=hv x hx
    simp[e] at this
   ·simp at hm
    have hls:lsN l∈l:=by
     unfold lsN
     rw[List.getLastD_eq_getLast?,List.getLast?_eq_some_getLast h.ne]
     exact List.getLast_mem _
    have:=hv _ hls
    simp at this
    exact this.2 (h1.symm.trans hm.symm)
theorem growC_sound {xs:List Pl}{rn rd over:Int}:∀ {k:Nat}{l:List Nat},PathC xs l→growC xs rn rd over k l≠[]→Circ xs (growC xs rn rd over k l)∧over<wgt xs rn rd (growC xs rn rd over k l)
 | 0,_,_,h=>by simp[growC] at h
 | k+1,l,hp,h=>by
  unfold growC at h ⊢
  split
  ·rename_i h1
   rw[if_pos h1] at h
   split
   ·rename_i h2
    exact ⟨⟨hp.ne,by have:=hp.wk;rwa [h1] at this,hp.nd,hp.mn⟩,h2⟩
   ·rename_i h2;rw[if_neg h2] at h;exact absurd rfl h
  ·rename_i h1
   rw[if_neg h1] at h
   obtain ⟨i,hi,h2,h3⟩:=tryAll_mem h
   rw[h3]
   split at h2
   ·exact absurd rfl h2
   ·rename_i hs
    rw[if_neg hs]
    simp only[List.mem_range'_1] at hi
    exact growC_sound (hp.snoc (by omega) h1 hs) h2
theorem growC_finds {xs:List Pl}{rn rd over:Int}:∀ (e l:List Nat) (k:Nat),Circ xs (l++e)→l≠[]→e.length<k→over<wgt xs rn rd (l++e)→growC xs rn rd over k l≠[]
 | _,_,0,_,_,h,_=>by omega
 | [],l,k+1,hc,hl,_,hw=>by
  rw[List.append_nil] at hc hw
  unfold growC
  rw[if_pos (hc.wk.last hl).symm,if_pos hw]
  exact hl
 | i :: e,l,k+1,hc,hl,hk,hw=>by
  have hwk:=hc.wk
  have hu:firstF xs (l++i :: e)=firstF xs l:=by simp only[firstF];rw[hdN_app hl]
  rw[hu,Wk.app] at hwk
  obtain ⟨m,hw1,hi,hfi,hw2⟩:=hwk
  have hm:m=lastT xs l:=hw1.last hl
  have hnd:=hc.nd
  rw[List.map_append,List.map_cons,List.nodup_append] at hnd
  obtain ⟨hn1,hn2,hn3⟩:=hnd
  have hhd:hdN l∈l:=by cases l with|nil=>exact absurd rfl hl|cons=>simp[hdN]
  have hne:lastT xs l≠firstF xs l:=by
   intro e2
   exact hn3 (firstF xs l) (List.mem_map.2 ⟨_,hhd,rfl⟩) (plA xs i).f (by simp) (by rw[hfi,hm,e2])
  unfold growC
  rw[if_neg hne,tryAll_ne]
  refine ⟨i,by simp[List.mem_range'_1,hi],?_⟩
  rw[if_neg]
  ·refine growC_finds e (l++[i]) k (by simpa using hc) (by simp) (by simp at hk;omega) (by simpa using hw)
  ·unfold skipC
   rw[hfi,hm]
   simp only[ne_eq,not_true_eq_false,false_or]
   cases e with
   | nil=>
    have:(plA xs i).t=firstF xs l:=hw2
    rw[this]
    simp
   | cons j e=>
    have hfj:(plA xs j).f=(plA xs i).t:=hw2.2.1
    have hge:=hc.mn j (by simp)
    rw[hu] at hge
    rintro (h|⟨_,h⟩)
    ·omega
    ·unfold visB at h
     rw[List.any_eq_true] at h
     obtain ⟨x,hx,h⟩:=h
     rw[Bool.or_eq_true,decide_eq_true_eq,decide_eq_true_eq] at h
     rcases h with h|h
     ·exact hn3 _ (List.mem_map.2 ⟨x,hx,rfl⟩) (plA xs j).f (by simp) (by rw[h,hfj])
     ·rcases hw1.next x hx with h1|h1
      ·rw[h,← hfj,← hfi] at h1
       have:=(List.nodup_cons.1 hn2).1
       apply this
       simp[h1]
      ·rw[h,← hfj] at h1
       exact hn3 _ h1 (plA xs j).f (by simp) rfl
theorem overC_finds {xs:List Pl}{rn rd over:Int}{c:List Nat}{k:Nat} (hc:Circ xs c) (hk:c.length≤k) (hw:over<wgt xs rn rd c):overC xs rn rd over k≠[]:=by
 cases c with
 | nil=>exact absurd rfl hc.ne
 | cons i c=>
  have hi:i<xs.length:=hc.wk.lt i (by simp)
  refine tryAll_ne.2 ⟨i,by simp[List.mem_range'_1,hi],?_⟩
  rw[if_neg]
  ·exact growC_finds c [i] k (by simpa using hc) (by simp) (by simp at hk;omega) (by simpa using hw)
  ·have hw2:=hc.wk.2.2
   cases c with
   | nil=>
    have:(plA xs i).t=(plA xs i).f:=hw2
    omega
   | cons j c=>
    have hge:=hc.mn j (by simp)
    rw[hw2.2.1] at hge
    simp only[firstF,hdN,List.headD_cons] at hge
    omega
theorem not_nodup_split {α:Type}{g:Nat→α}:∀ {c:List Nat},¬ (c.map g).Nodup→∃ a i b j e,c=a++i :: b++j :: e∧g i=g j
 | [],h=>absurd List.nodup_nil h
 | x :: c,h=>by
  classical
  by_cases hx:g x∈c.map g
  ·obtain ⟨j,hj,e⟩:=List.mem_map.1 hx
   obtain ⟨b,r,rfl⟩:=List.append_of_mem hj
   exact ⟨[],x,b,j,r,by simp,e.symm⟩
  ·have:¬ (c.map g).Nodup:=fun h2=>h (by rw[List.map_cons,List.nodup_cons];exact ⟨hx,h2⟩)
   obtain ⟨a,i,b,j,e,rfl,h3⟩:=not_nodup_split this
   exact ⟨x :: a,i,b,j,e,by simp,h3⟩
theorem exists_least {g:Nat→Int}:∀ {c:List Nat},c≠[]→∃ i∈c,∀ j∈c,g i≤g j
 | [],h=>absurd rfl h
 | [x],_=>⟨x,by simp,by simp⟩
 | x :: y :: c,_=>by
  obtain ⟨i,hi,h⟩:=exists_least (g:=g) (c:=y :: c) (by simp)
  by_cases hx:g x≤g i
  ·refine ⟨x,by simp,fun j hj=>?_⟩
   rcases List.mem_cons.1 hj with rfl|hj
   ·exact Int.le_refl _
   ·exact Int.le_trans hx (h j hj)
  ·refine ⟨i,by simp[List.mem_cons.1 hi],fun j hj=>?_⟩
   rcases List.mem_cons.1 hj with rfl|hj
   ·omega
   ·exact h j hj
theorem circ_of_walk {xs:List Pl}{rn rd:Int}:∀ (n:Nat) (c:List Nat) (u:Int),c.length≤n→c≠[]→Wk xs u c u→0≤wgt xs rn rd c→∃ c',Circ xs c'∧0≤wgt xs rn rd c'∧∀ i∈c',i∈c
 | 0,c,u,hn,hc,_,_=>absurd (List.length_eq_zero_iff.1 (by omega)) hc
 | n+1,c,u,hn,hc,hw,h0=>by
  by_cases hnd:(c.map fun i=>(plA xs i).f).Nodup
  ·obtain ⟨i,hi,hmin⟩:=exists_least (g:=fun i=>(plA xs i).f) hc
   obtain ⟨a,b,rfl⟩:=List.append_of_mem hi
   have hw':=hw
   rw[Wk.app] at hw
   obtain ⟨m,hw1,h1,h2,h3⟩:=hw
   refine ⟨i :: b++a,⟨by simp,?_,?_,?_⟩,?_,?_⟩
   ·have:firstF xs (i :: b++a)=m:=h2
    rw[this,Wk.app]
    exact ⟨u,⟨h1,h2,h3⟩,hw1⟩
   ·rw[List.map_append] at hnd ⊢
    rw[List.nodup_append] at hnd ⊢
    exact ⟨hnd.2.1,hnd.1,fun x hx y hy e=>hnd.2.2 y hy x hx e.symm⟩
   ·intro j hj
    exact hmin j (by simp only[List.mem_append] at hj ⊢;exact hj.symm)
   ·rw[wgt_app] at h0 ⊢;omega
   ·intro j hj
    simp only[List.mem_append] at hj ⊢;exact hj.symm
  ·obtain ⟨a,i,b,j,e,rfl,hij⟩:=not_nodup_split hnd
   rw[Wk.app] at hw
   obtain ⟨m,hw1,hw2⟩:=hw
   rw[Wk.app] at hw1
   obtain ⟨m2,hwa,hwb⟩:=hw1
   have hm:m2=(plA xs i).f:=hwb.2.1.symm
   have hm2:m=(plA xs j).f:=hw2.2.1.symm
   have hA:Wk xs m2 (i :: b) m2:=by rw[hm2,← hij,← hm] at hwb;exact hwb
   have hB:Wk xs u (a++j :: e) u:=by rw[Wk.app];exact ⟨m2,hwa,by rw[hm,hij,← hm2];exact hw2⟩
   rw[wgt_app,wgt_app] at h0
   simp only[List.length_append,List.length_cons] at hn
   by_cases h1:0≤wgt xs rn rd (i :: b)
   ·obtain ⟨c',h2,h3,h4⟩:=circ_of_walk n (i :: b) m2 (by simp;omega) (by simp) hA h1
    exact ⟨c',h2,h3,fun x hx=>by have:=h4 x hx;simp only[List.mem_append];exact .inl (.inr this)⟩
   ·obtain ⟨c',h2,h3,h4⟩:=circ_of_walk n (a++j :: e) u (by simp;omega) (by simp) hB (by rw[wgt_app (rn:=rn) (rd:=rd)];omega)
    exact ⟨c',h2,h3,fun x hx=>by
     have:=h4 x hx
     simp only[List.mem_append] at this ⊢
     rcases this with h|h
     ·exact .inl (.inl h)
     ·exact .inr h⟩
structure MaxR (xs:List Pl) (r:Int × Int):Prop where
 pos:0<r.2
 red:Int.gcd r.1 r.2=1
 le:∀ c,Circ xs c→wgt xs r.1 r.2 c≤0
 eq:∃ c,Circ xs c∧wgt xs r.1 r.2 c=0
theorem dvd_cop {a b c:Int} (h:a ∣ b*c) (hg:Int.gcd b a=1):a ∣ c:=by
 rw[← Int.natAbs_dvd_natAbs] at h ⊢
 rw[Int.natAbs_mul] at h
 exact Nat.Coprime.dvd_of_dvd_mul_left (by rw[Nat.Coprime,Nat.gcd_comm];exact hg) h
theorem frac_eq {a b c d:Int} (hb:0<b) (hd:0<d) (h1:Int.gcd a b=1) (h2:Int.gcd c d=1) (h:a*d=c*b):a=c∧b=d:=by
 have hbd:b ∣ d:=dvd_cop (by rw[h];exact Int.dvd_mul_left _ _) h1
 have hdb:d ∣ b:=dvd_cop (by rw[← h];exact Int.dvd_mul_left _ _) h2
 have e:b=d:=Int.le_antisymm (Int.le_of_dvd hd hbd) (Int.le_of_dvd hb hdb)
 subst e
 exact ⟨Int.eq_of_mul_eq_mul_right (by omega) h,rfl⟩
theorem MaxR.cross {xs:List Pl}{r s:Int × Int} (ht:∀ c,Circ xs c→0<sumT xs c) (h1:MaxR xs r) (h2:MaxR xs s):r.1*s.2≤s.1*r.2:=by
 obtain ⟨c,hc,e⟩:=h1.eq
 have hk:=ht c hc
 have hle:=h2.le c hc
 rw[wgt_sums] at e hle
 have e1:r.2*sumD xs c=r.1*sumT xs c:=by omega
 have h3:s.2*sumD xs c≤s.1*sumT xs c:=by omega
 have h4:=Int.mul_le_mul_of_nonneg_left h3 (Int.le_of_lt h1.pos)
 have h5:r.2*(s.2*sumD xs c)=s.2*(r.1*sumT xs c):=by rw[← e1];rw[← Int.mul_assoc,← Int.mul_assoc,Int.mul_comm r.2 s.2]
 rw[h5] at h4
 have h6:(r.1*s.2)*sumT xs c≤(s.1*r.2)*sumT xs c:=by
  rw[show r.1*s.2*sumT xs c=s.2*(r.1*sumT xs c) by rw[Int.mul_comm r.1 s.2,Int.mul_assoc],show s.1*r.2*sumT xs c=r.2*(s.1*sumT xs c) by rw[Int.mul_comm s.1 r.2,Int.mul_assoc]]
  exact h4
 exact Int.le_of_mul_le_mul_right h6 hk
theorem MaxR.uniq {xs:List Pl}{r s:Int × Int} (ht:∀ c,Circ xs c→0<sumT xs c) (h1:MaxR xs r) (h2:MaxR xs s):r=s:=by
 have h:=Int.le_antisymm (h1.cross ht h2) (h2.cross ht h1)
 obtain ⟨e1,e2⟩:=frac_eq h1.pos h2.pos h1.red h2.red h
 exact Prod.ext e1 e2
def redR (d m:Int):Int × Int:=(d / (Int.gcd d m:Int),m / (Int.gcd d m:Int))
theorem redR_ok {d m:Int} (hm:0<m):0<(redR d m).2∧Int.gcd (redR d m).1 (redR d m).2=1∧(Int.gcd d m:Int)*(redR d m).1=d∧(Int.gcd d m:Int)*(redR d m).2=m∧0<(Int.gcd d m:Int):=by
 have hg:0<(Int.gcd d m:Int):=by
  have:=Int.gcd_pos_of_ne_zero_right d (b:=m) (by omega)
  omega
 have h1:(Int.gcd d m:Int)*(redR d m).1=d:=Int.mul_ediv_cancel' (Int.gcd_dvd_left ..)
 have h2:(Int.gcd d m:Int)*(redR d m).2=m:=Int.mul_ediv_cancel' (Int.gcd_dvd_right ..)
 refine ⟨?_,?_,h1,h2,hg⟩
 ·apply Classical.byContradiction
  intro h
  have:(Int.gcd d m:Int)*(redR d m).2≤0:=Int.mul_nonpos_of_nonneg_of_nonpos (by omega) (by omega)
  omega
 ·have:=Int.gcd_ediv_gcd_ediv_gcd (i:=d) (j:=m) (by omega)
  exact this
def rank (M:Int) (r:Int × Int):Int:=r.1*(M*M) / r.2
theorem rank_lt {M:Int}{r s:Int × Int} (hr:0<r.2) (hs:0<s.2) (hrM:r.2≤M) (hsM:s.2≤M) (h:0<r.2*s.1 - r.1*s.2):rank M r<rank M s:=by
 unfold rank
 have hq:r.1*(M*M) / r.2*r.2≤r.1*(M*M):=Int.ediv_mul_le _ (by omega)
 generalize r.1*(M*M) / r.2=q at hq
 show q+1≤_
 rw[Int.le_ediv_iff_mul_le hs]
 have h1:(q+1)*s.2*r.2≤s.1*(M*M)*r.2:=by
  have a1:(q+1)*s.2*r.2=(q*r.2)*s.2+r.2*s.2:=by rw[Int.add_mul,Int.add_mul,Int.one_mul,Int.mul_right_comm,Int.mul_comm s.2 r.2]
  have a2:(q*r.2)*s.2≤(r.1*(M*M))*s.2:=Int.mul_le_mul_of_nonneg_right hq (by omega)
  have a3:r.2*s.2≤M*M:=Int.mul_le_mul hrM hsM (by omega) (by omega)
  have a4:(r.1*(M*M))*s.2=(r.1*s.2)*(M*M):=by rw[Int.mul_right_comm]
  have a5:s.1*(M*M)*r.2=(r.2*s.1)*(M*M):=by rw[Int.mul_right_comm,Int.mul_comm s.1 r.2]
  have a6:(r.1*s.2+1)*(M*M)≤(r.2*s.1)*(M*M):=Int.mul_le_mul_of_nonneg_right (by omega) (Int.mul_nonneg (by omega) (by omega))
  rw[Int.add_mul,Int.one_mul] at a6
  omega
 exact Int.le_of_mul_le_mul_right h1 hr
theorem rank_redR {xs:List Pl}{M:Int}{r:Int × Int}{c:List Nat} (hr:0<r.2) (hrM:r.2≤M) (hk:0<sumT xs c) (hkM:sumT xs c≤M) (h:0<wgt xs r.1 r.2 c):rank M r<rank M (redR (sumD xs c) (sumT xs c)):=by
 obtain ⟨h1,h2,h3,h4,h5⟩:=redR_ok (d:=sumD xs c) hk
 generalize (Int.gcd (sumD xs c) (sumT xs c):Int)=g at h3 h4 h5
 generalize redR (sumD xs c) (sumT xs c)=s at *
 refine rank_lt hr h1 hrM ?_ ?_
 ·have:s.2≤g*s.2:=by
   have:=Int.mul_le_mul_of_nonneg_right (show (1:Int)≤g by omega) (show 0≤s.2 by omega)
   omega
  omega
 ·rw[wgt_sums,← h3,← h4] at h
  have e:r.2*(g*s.1) - r.1*(g*s.2)=g*(r.2*s.1 - r.1*s.2):=by
   rw[Int.mul_sub,← Int.mul_assoc,← Int.mul_assoc,← Int.mul_assoc,← Int.mul_assoc,Int.mul_comm r.2 g,Int.mul_comm r.1 g]
  rw[e] at h
  apply Classical.byContradiction
  intro hn
  have:=Int.mul_nonpos_of_nonneg_of_nonpos (show 0≤g by omega) (show r.2*s.1 - r.1*s.2≤0 by omega)
  omega
theorem wgt_redR {xs:List Pl}{c:List Nat} (hk:0<sumT xs c):wgt xs (redR (sumD xs c) (sumT xs c)).1 (redR (sumD xs c) (sumT xs c)).2 c=0:=by
 obtain ⟨h1,h2,h3,h4,h5⟩:=redR_ok (d:=sumD xs c) hk
 generalize hg:(Int.gcd (sumD xs c) (sumT xs c):Int)=g at h3 h4 h5
 rw[wgt_sums]
 generalize redR (sumD xs c) (sumT xs c)=s at *
 rw[← h3,← h4,← Int.mul_assoc,← Int.mul_assoc,Int.mul_comm s.2 g,Int.mul_comm s.1 g,Int.mul_right_comm]
 omega
structure BF where
 b:Nat→Int
 y:Nat→Nat
 last:Int
abbrev plF (xs:List Pl) (i:Nat):Nat:=(plA xs i).f.toNat
abbrev plTo (xs:List Pl) (i:Nat):Nat:=(plA xs i).t.toNat
abbrev plW (xs:List Pl) (r:Int × Int) (i:Nat):Int:=pw r.1 r.2 (plA xs i)
def bfStep (xs:List Pl) (r:Int × Int) (s:BF) (i:Nat):BF:=
 if s.b (plTo xs i)<s.b (plF xs i)+plW xs r i then
  ⟨fun v=>if v=plTo xs i then s.b (plF xs i)+plW xs r i else s.b v,fun v=>if v=plTo xs i then i else s.y v,(plTo xs i:Int)⟩
 else s
def bfAt (xs:List Pl) (r:Int × Int) (s:BF):Nat→BF
 | 0=>⟨s.b,s.y,-1⟩
 | k+1=>bfStep xs r (bfAt xs r s k) k
def bfRun (xs:List Pl) (r:Int × Int):Nat→BF→Option BF
 | 0,s=>some s
 | q+1,s=>if (bfAt xs r s xs.length).last<0 then none else bfRun xs r q (bfAt xs r s xs.length)
def bf0:BF:=⟨fun _=>0,fun _=>0,-1⟩
structure BFInv (xs:List Pl) (n:Nat) (r:Int × Int) (q k:Nat) (s:BF) (lev ts:Nat→Nat):Prop where
 levq:∀ v,lev v≤q
 tsq:∀ v,ts v≤q*xs.length+k
 lt:∀ v,1≤lev v→v<n
 by1:∀ v,1≤lev v→s.y v<xs.length∧plTo xs (s.y v)=v
 by2:∀ v,1≤lev v→s.b v≤s.b (plF xs (s.y v))+plW xs r (s.y v)
 by3:∀ v,1≤lev v→lev v≤lev (plF xs (s.y v))+1
 by4:∀ v,1≤lev v→(plF xs (s.y v)=v∨ts v<ts (plF xs (s.y v)))→s.b v<s.b (plF xs (s.y v))+plW xs r (s.y v)
 done:∀ i,i<xs.length→∀ q',(q'=if i<k then q else q - 1)→1≤q'→q'≤lev (plF xs i)∨s.b (plF xs i)+plW xs r i≤s.b (plTo xs i)
 dist:∀ v w,1≤lev v→1≤lev w→ts v=ts w→v=w
 la:s.last=-1∨∃ v:Nat,s.last=v∧lev v=q
 quiet:s.last=-1→∀ i,i<k→s.b (plF xs i)+plW xs r i≤s.b (plTo xs i)
def okN (xs:List Pl) (n:Nat):Prop:=∀ i,i<xs.length→plTo xs i<n
theorem BFInv.start {xs:List Pl}{n:Nat}{r:Int × Int}:BFInv xs n r 1 0 (bfAt xs r bf0 0) (fun _=>0) (fun _=>0):=
 ⟨fun _=>by omega,fun _=>by omega,fun _ h=>by omega,fun _ h=>by omega,fun _ h=>by omega,fun _ h=>by omega,fun _ h=>by omega,
  fun i hi q' e h=>by simp at e;omega,fun _ _ h=>by omega,.inl rfl,fun _ i h=>by omega⟩
theorem BFInv.round {xs:List Pl}{n:Nat}{r:Int × Int}{q:Nat}{s:BF}{lev ts:Nat→Nat} (h:BFInv xs n r q xs.length s lev ts):BFInv xs n r (q+1) 0 (bfAt xs r s 0) lev ts:=
 ⟨fun v=>by have:=h.levq v;omega,fun v=>by have:=h.tsq v;rw[Nat.succ_mul];omega,h.lt,h.by1,h.by2,h.by3,h.by4,
  fun i hi q' e h1=>h.done i hi q' (by rw[if_pos hi];simpa using e) h1,h.dist,.inl rfl,fun _ i h=>by omega⟩
theorem BFInv.step {xs:List Pl}{n:Nat}{r:Int × Int}{q k:Nat}{s:BF}{lev ts:Nat→Nat} (hn:okN xs n) (hk:k<xs.length) (hq:1≤q) (h:BFInv xs n r q k s lev ts):∃ lev' ts',BFInv xs n r q (k+1) (bfStep xs r s k) lev' ts':=by
 by_cases hu:s.b (plTo xs k)<s.b (plF xs k)+plW xs r k
 ·have hs:bfStep xs r s k=⟨fun v=>if v=plTo xs k then s.b (plF xs k)+plW xs r k else s.b v,fun v=>if v=plTo xs k then k else s.y v,(plTo xs k:Int)⟩:=by unfold bfStep;rw[if_pos hu]
  rw[hs]
  have hdone:=h.done k hk (q - 1) (by simp)
  generalize hv:plTo xs k=v at *
  have hvn:v<n:=by rw[← hv];exact hn k hk
  have hL:∀ u,ts u<q*xs.length+k+1:=fun u=>by have:=h.tsq u;omega
  refine ⟨fun u=>if u=v then q else lev u,fun u=>if u=v then q*xs.length+k+1 else ts u,?_,?_,?_,?_,?_,?_,?_,?_,?_,?_,?_⟩
  ·intro u;(try dsimp only);split
   ·exact Nat.le_refl _
   ·exact h.levq u
  ·intro u;(try dsimp only);split
   ·omega
   ·have:=hL u;omega
  ·intro u hu1;(try dsimp only at hu1);split at hu1
   ·rename_i e;rw[e];exact hvn
   ·exact h.lt u hu1
  ·intro u hu1;(try dsimp only at hu1 ⊢);split at hu1
   ·rename_i e;rw[if_pos e,e];exact ⟨hk,hv⟩
   ·rename_i e;rw[if_neg e];exact h.by1 u hu1
  ·intro u hu1;(try dsimp only at hu1 ⊢);split at hu1
   ·rename_i e
    rw[if_pos e,if_pos e]
    split
    ·rename_i e2;rw[e2] at hu ⊢;omega
    ·exact Int.le_refl _
   ·rename_i e
    have:=h.by2 u hu1
    rw[if_neg e,if_neg e]
    split
    ·rename_i e2;rw[e2] at this;omega
    ·exact this
  ·intro u hu1;(try dsimp only at hu1 ⊢);split at hu1
   ·rename_i e
    rw[if_pos e,if_pos e]
    split
    ·omega
    ·by_cases hq1:1≤q - 1
     ·rcases hdone hq1 with h1|h1<;>omega
     ·omega
   ·rename_i e
    have h1:=h.by3 u hu1
    rw[if_neg e,if_neg e]
    split
    ·rename_i e2;rw[e2] at h1;have:=h.levq v;omega
    ·exact h1
  ·intro u hu1;(try dsimp only at hu1 ⊢);split at hu1
   ·rename_i e
    rw[if_pos e,if_pos e,if_pos e]
    intro hc
    split
    ·rename_i e2;rw[e2] at hu ⊢;omega
    ·rename_i e2
     rw[if_neg e2] at hc
     rcases hc with hc|hc
     ·rw[e] at hc;exact absurd hc e2
     ·have:=hL (plF xs k);omega
   ·rename_i e
    rw[if_neg e,if_neg e,if_neg e]
    intro hc
    split
    ·rename_i e2
     have:=h.by2 u hu1
     rw[e2] at this;omega
    ·rename_i e2
     rw[if_neg e2] at hc
     exact h.by4 u hu1 hc
  ·intro i hi q' e h1;(try dsimp only)
   by_cases hf:plF xs i=v
   ·left;rw[if_pos hf,e];split<;>omega
   ·rw[if_neg hf,if_neg hf]
    by_cases hik:i=k
    ·subst hik
     right;rw[if_pos hv];exact Int.le_refl _
    ·have h2:=h.done i hi q' (by rw[e];by_cases h2:i<k<;>simp[h2,show i<k+1↔i<k by omega]) h1
     rcases h2 with h2|h2
     ·exact .inl h2
     ·right
      split
      ·rename_i e2;rw[e2] at h2;omega
      ·exact h2
  ·intro u w hu1 hw1 e;(try dsimp only at hu1 hw1 e)
   by_cases e1:u=v
   ·by_cases e2:w=v
    ·rw[e1,e2]
    ·rw[if_pos e1,if_neg e2] at e;have:=hL w;omega
   ·by_cases e2:w=v
    ·rw[if_neg e1,if_pos e2] at e;have:=hL u;omega
    ·rw[if_neg e1,if_neg e2] at e
     rw[if_neg e1] at hu1
     rw[if_neg e2] at hw1
     exact h.dist u w hu1 hw1 e
  ·exact .inr ⟨v,rfl,by simp⟩
  ·intro hl;(try dsimp only at hl);omega
 ·have hs:bfStep xs r s k=s:=by unfold bfStep;rw[if_neg hu]
  rw[hs]
  refine ⟨lev,ts,h.levq,fun v=>by have:=h.tsq v;omega,h.lt,h.by1,h.by2,h.by3,h.by4,fun i hi q' e h1=>?_,h.dist,h.la,fun hl i hi=>?_⟩
  ·by_cases hik:i=k
   ·subst hik;right;omega
   ·exact h.done i hi q' (by rw[e];by_cases h2:i<k<;>simp[h2,show i<k+1↔i<k by omega]) h1
  ·by_cases hik:i=k
   ·subst hik;omega
   ·exact h.quiet hl i (by omega)
structure BFEnd (xs:List Pl) (n:Nat) (r:Int × Int) (s:BF) (z:Nat):Prop where
 lt:z<n
 by1:∀ j,s.y (iter (fun v=>plF xs (s.y v)) j z)<xs.length∧plTo xs (s.y (iter (fun v=>plF xs (s.y v)) j z))=iter (fun v=>plF xs (s.y v)) j z∧iter (fun v=>plF xs (s.y v)) j z<n
theorem BFInv.chain {xs:List Pl}{n:Nat}{r:Int × Int}{q k:Nat}{s:BF}{lev ts:Nat→Nat} (h:BFInv xs n r q k s lev ts) {v:Nat} (hv:lev v=q):∀ j,j<q→q≤lev (iter (fun v=>plF xs (s.y v)) j v)+j
 | 0,_=>by simp[iter];omega
 | j+1,hj=>by
  have ih:=h.chain hv j (by omega)
  have:=h.by3 (iter (fun v=>plF xs (s.y v)) j v) (by omega)
  simp only[iter]
  omega
theorem iter_mul {f:Nat→Nat}{L z:Nat} (h:iter f L z=z):∀ m,iter f (m*L) z=z
 | 0=>by simp[iter]
 | m+1=>by rw[Nat.succ_mul,Nat.add_comm,iter_add,iter_mul h m,h]
theorem iter_mod {f:Nat→Nat}{L z:Nat} (h:iter f L z=z) (j:Nat):iter f j z=iter f (j % L) z:=by
 have e:=Nat.mod_add_div j L
 have h2:iter f j z=iter f (j % L+L*(j / L)) z:=by rw[e]
 rw[h2,iter_add,Nat.mul_comm,iter_mul h]
structure Per (f:Nat→Nat) (z L:Nat):Prop where
 pos:0<L
 back:iter f L z=z
 least:∀ j,0<j→j<L→iter f j z≠z
theorem Per.dist {f:Nat→Nat}{z L:Nat} (h:Per f z L) {s t:Nat} (hst:s<t) (ht:t<L):iter f s z≠iter f t z:=by
 intro e
 have h3:iter f (L - t+s) z=z:=by rw[iter_add,e,← iter_add,show L - t+t=L by omega,h.back]
 exact h.least (L - t+s) (by omega) (by omega) h3
theorem Per.uniq {f:Nat→Nat}{z L M:Nat} (h:Per f z L) (k:Per f z M):L=M:=by
 apply Classical.byContradiction
 intro hn
 rcases Nat.lt_or_gt_of_ne hn with h1|h1
 ·exact k.least L h.pos h1 h.back
 ·exact h.least M k.pos h1 k.back
theorem BFInv.per {xs:List Pl}{n:Nat}{r:Int × Int}{s:BF}{lev ts:Nat→Nat} (h:BFInv xs n r (n+1) xs.length s lev ts) {v:Nat} (hv:lev v=n+1) :
  ∃ L,Per (fun v=>plF xs (s.y v)) (iter (fun v=>plF xs (s.y v)) n v) L∧L≤n∧∀ j,1≤lev (iter (fun v=>plF xs (s.y v)) j (iter (fun v=>plF xs (s.y v)) n v)):=by
 have hc:=h.chain hv
 generalize hf:(fun v=>plF xs (s.y v))=f at *
 have hrep:∃ i j,i<j∧j≤n∧iter f i v=iter f j v:=by
  apply Classical.byContradiction
  intro hno
  have hnd:((List.range (n+1)).map fun i=>iter f i v).Nodup:=by
   rw[List.nodup_iff_pairwise_ne]<;>skip
   rw[List.pairwise_iff_getElem]
   intro i j hi hj hij e
   simp at e hi hj
   exact hno ⟨i,j,hij,by omega,e⟩
  have:=nodup_le n _ hnd (fun x hx=>by
   obtain ⟨i,hi,rfl⟩:=List.mem_map.1 hx
   simp at hi
   exact h.lt _ (by have:=hc i (by omega);omega))
  simp at this
  omega
 obtain ⟨i,j,hij,hj,e⟩:=hrep
 have hp0:iter f (j - i) (iter f i v)=iter f i v:=by rw[← iter_add,show j - i+i=j by omega,e]
 have hp:iter f (j - i) (iter f n v)=iter f n v:=by
  rw[show n=(n - i)+i by omega,iter_add f (n - i) i v,← iter_add,Nat.add_comm,iter_add,hp0]
 obtain ⟨L,⟨hL0,hL⟩,hLm⟩:=exists_min (fun L=>0<L∧iter f L (iter f n v)=iter f n v) (j - i) ⟨by omega,hp⟩
 refine ⟨L,⟨hL0,hL,fun m hm hml e=>by have:=hLm m ⟨hm,e⟩;omega⟩,by have:=hLm (j - i) ⟨by omega,hp⟩;omega,fun m=>?_⟩
 have e2:iter f m (iter f n v)=iter f (i+(m+(n - i)) % (j - i)) v:=by
  rw[← iter_add,show m+n=(m+(n - i))+i by omega,iter_add,iter_mod hp0,← iter_add,Nat.add_comm]
 have hmod:(m+(n - i)) % (j - i)<j - i:=Nat.mod_lt _ (by omega)
 rw[e2]
 have:=hc (i+(m+(n - i)) % (j - i)) (by omega)
 omega
def backC (y f:Nat→Nat) (z m:Nat):List Nat:=(List.range m).map fun j=>y (iter f j z)
theorem backC_succ {y f:Nat→Nat}{z m:Nat}:backC y f z (m+1)=backC y f z m++[y (iter f m z)]:=by simp[backC,List.range_succ]
theorem back_walk {xs:List Pl}{y:Nat→Nat}{z:Nat} (hp:∀ p∈xs,0≤p.f∧0≤p.t) (h:∀ j,y (iter (fun v=>plF xs (y v)) j z)<xs.length∧plTo xs (y (iter (fun v=>plF xs (y v)) j z))=iter (fun v=>plF xs (y v)) j z) :
  ∀ m,Wk xs (iter (fun v=>plF xs (y v)) m z:Nat) (backC y (fun v=>plF xs (y v)) z m).reverse (z:Nat)
 | 0=>by simp[backC,iter,Wk]
 | m+1=>by
  rw[backC_succ,List.reverse_append,List.reverse_cons,List.reverse_nil,List.nil_append,List.cons_append,List.nil_append]
  obtain ⟨h1,h2⟩:=h m
  have hq:=hp (plA xs (y (iter (fun v=>plF xs (y v)) m z))) (by unfold plA;rw[List.getElem?_eq_getElem h1];exact List.getElem_mem h1)
  refine ⟨h1,?_,?_⟩
  ·show (plA xs (y (iter (fun v=>plF xs (y v)) m z))).f=((plA xs (y (iter (fun v=>plF xs (y v)) m z))).f.toNat:Int)
   exact (Int.toNat_of_nonneg hq.1).symm
  ·have:(plA xs (y (iter (fun v=>plF xs (y v)) m z))).t=(iter (fun v=>plF xs (y v)) m z:Nat):=by simp only[plTo] at h2;omega
   rw[this]
   exact back_walk hp h m
theorem wgt_rev {xs:List Pl}{rn rd:Int}:∀ c,wgt xs rn rd c.reverse=wgt xs rn rd c
 | []=>rfl
 | i :: c=>by rw[List.reverse_cons,wgt_app,wgt_rev c];simp only[wgt];omega
theorem BFInv.weight {xs:List Pl}{n:Nat}{r:Int × Int}{q k:Nat}{s:BF}{lev ts:Nat→Nat} (h:BFInv xs n r q k s lev ts) {z:Nat} (hz:∀ j,1≤lev (iter (fun v=>plF xs (s.y v)) j z)):∀ m,
  s.b z≤s.b (iter (fun v=>plF xs (s.y v)) m z)+wgt xs r.1 r.2 (backC s.y (fun v=>plF xs (s.y v)) z m)∧
  (s.b z<s.b (iter (fun v=>plF xs (s.y v)) m z)+wgt xs r.1 r.2 (backC s.y (fun v=>plF xs (s.y v)) z m)∨
   ∀ j,j<m→ts (iter (fun v=>plF xs (s.y v)) (j+1) z)<ts (iter (fun v=>plF xs (s.y v)) j z))
 | 0=>⟨by simp[backC,iter,wgt],.inr fun j hj=>by omega⟩
 | m+1=>by
  obtain ⟨h1,h2⟩:=h.weight hz m
  have h3:=h.by2 _ (hz m)
  have h4:=h.by4 _ (hz m)
  rw[backC_succ,wgt_app]
  have e:wgt xs r.1 r.2 [s.y (iter (fun v=>plF xs (s.y v)) m z)]=plW xs r (s.y (iter (fun v=>plF xs (s.y v)) m z)):=by simp[wgt,plW]
  rw[e]
  have e2:iter (fun v=>plF xs (s.y v)) (m+1) z=plF xs (s.y (iter (fun v=>plF xs (s.y v)) m z)):=rfl
  rw[e2]
  refine ⟨by omega,?_⟩
  by_cases hs:plF xs (s.y (iter (fun v=>plF xs (s.y v)) m z))=iter (fun v=>plF xs (s.y v)) m z∨ts (iter (fun v=>plF xs (s.y v)) m z)<ts (plF xs (s.y (iter (fun v=>plF xs (s.y v)) m z)))
  ·have:=h4 hs;left;omega
  ·rcases h2 with h2|h2
   ·left;omega
   ·right
    intro j hj
    by_cases hjm:j<m
    ·exact h2 j hjm
    ·obtain rfl:j=m:=by omega
     rw[e2]
     have h5:ts (plF xs (s.y (iter (fun v=>plF xs (s.y v)) j z)))≠ts (iter (fun v=>plF xs (s.y v)) j z):=fun e3=>hs (.inl (h.dist _ _ (hz (j+1)) (hz j) e3))
     omega
theorem BFInv.positive {xs:List Pl}{n:Nat}{r:Int × Int}{q k:Nat}{s:BF}{lev ts:Nat→Nat} (h:BFInv xs n r q k s lev ts) {z L:Nat} (hz:∀ j,1≤lev (iter (fun v=>plF xs (s.y v)) j z)) (hp:Per (fun v=>plF xs (s.y v)) z L) :
  0<wgt xs r.1 r.2 (backC s.y (fun v=>plF xs (s.y v)) z L):=by
 obtain ⟨h1,h2⟩:=h.weight hz L
 rw[hp.back] at h1 h2
 rcases h2 with h2|h2
 ·omega
 ·exfalso
  have key:∀ m,m≤L→ts (iter (fun v=>plF xs (s.y v)) m z)+m≤ts z:=fun m=>by
   induction m with
   | zero=>intro _;simp[iter]
   | succ m ih=>intro hm;have:=ih (by omega);have:=h2 m (by omega);omega
  have:=key L (Nat.le_refl _)
  rw[hp.back] at this
  have:=hp.pos
  omega
theorem BFInv.places {xs:List Pl}{n:Nat}{r:Int × Int} (hn:okN xs n) {q:Nat}{s:BF} (hq:1≤q) {lev ts:Nat→Nat} (h:BFInv xs n r q 0 (bfAt xs r s 0) lev ts):∀ k,k≤xs.length→∃ lev' ts',BFInv xs n r q k (bfAt xs r s k) lev' ts'
 | 0,_=>⟨_,_,h⟩
 | k+1,hk=>by
  obtain ⟨lev',ts',h'⟩:=h.places hn hq k (by omega)
  exact h'.step hn (by omega) hq
theorem pot_walk {xs:List Pl}{r:Int × Int}{b:Nat→Int} (hb:∀ i,i<xs.length→b (plF xs i)+plW xs r i≤b (plTo xs i)):∀ {c:List Nat}{u v:Int},Wk xs u c v→b u.toNat+wgt xs r.1 r.2 c≤b v.toNat
 | [],u,v,h=>by simp only[Wk] at h;subst h;simp[wgt]
 | i :: c,u,v,h=>by
  obtain ⟨h1,h2,h3⟩:=h
  have h4:=pot_walk hb h3
  have h5:=hb i h1
  subst h2
  simp only[wgt]
  simp only[plF,plTo,plW] at h5
  omega
theorem bfRun_spec {xs:List Pl}{n:Nat}{r:Int × Int} (hn:okN xs n):∀ (m q:Nat) (s:BF) (lev ts:Nat→Nat),1≤q→q+m=n+1→BFInv xs n r q xs.length s lev ts→¬ s.last<0→
  (bfRun xs r m s=none→∀ (c:List Nat) (u:Int),Wk xs u c u→wgt xs r.1 r.2 c≤0)∧
  (∀ s',bfRun xs r m s=some s'→∃ lev' ts',BFInv xs n r (n+1) xs.length s' lev' ts'∧¬ s'.last<0)
 | 0,q,s,lev,ts,hq,hm,h,hl=>⟨fun e=>by simp[bfRun] at e,fun s' e=>by
   simp[bfRun] at e;subst e
   obtain rfl:q=n+1:=by omega
   exact ⟨lev,ts,h,hl⟩⟩
 | m+1,q,s,lev,ts,hq,hm,h,hl=>by
  obtain ⟨lev',ts',h'⟩:=BFInv.places hn (q:=q+1) (by omega) h.round xs.length (Nat.le_refl _)
  unfold bfRun
  split
  ·rename_i hneg
   refine ⟨fun _ c u hw=>?_,fun s' e=>by cases e⟩
   have hla:(bfAt xs r s xs.length).last=-1:=by
    rcases h'.la with h2|⟨v,h2,_⟩
    ·exact h2
    ·omega
   have:=pot_walk (h'.quiet hla) hw
   omega
  ·rename_i hneg
   exact bfRun_spec hn m (q+1) _ lev' ts' (by omega) (by omega) h' hneg
theorem bf_spec {xs:List Pl}{n:Nat}{r:Int × Int} (hn:okN xs n) :
  (bfRun xs r (n+1) bf0=none→∀ (c:List Nat) (u:Int),Wk xs u c u→wgt xs r.1 r.2 c≤0)∧
  (∀ s',bfRun xs r (n+1) bf0=some s'→∃ lev' ts',BFInv xs n r (n+1) xs.length s' lev' ts'∧¬ s'.last<0):=by
 obtain ⟨lev',ts',h'⟩:=BFInv.places hn (q:=1) (by omega) (BFInv.start (xs:=xs) (n:=n) (r:=r)) xs.length (Nat.le_refl _)
 unfold bfRun
 split
 ·rename_i hneg
  refine ⟨fun _ c u hw=>?_,fun s' e=>by cases e⟩
  have hla:(bfAt xs r bf0 xs.length).last=-1:=by
   rcases h'.la with h2|⟨v,h2,_⟩
   ·exact h2
   ·omega
  have:=pot_walk (h'.quiet hla) hw
  omega
 ·rename_i hneg
  exact bfRun_spec hn n 1 _ lev' ts' (by omega) (by omega) h' hneg
structure Found (xs:List Pl) (n:Nat) (r:Int × Int) (s:BF) (v z L:Nat):Prop where
 last:s.last=v
 vn:v<n
 zv:iter (fun v=>plF xs (s.y v)) n v=z
 per:Per (fun v=>plF xs (s.y v)) z L
 Ln:L≤n
 ok:∀ j,s.y (iter (fun v=>plF xs (s.y v)) j z)<xs.length∧plTo xs (s.y (iter (fun v=>plF xs (s.y v)) j z))=iter (fun v=>plF xs (s.y v)) j z
 okv:∀ j,j≤n→s.y (iter (fun v=>plF xs (s.y v)) j v)<xs.length
 zn:∀ j,iter (fun v=>plF xs (s.y v)) j z<n
 pos:0<wgt xs r.1 r.2 (backC s.y (fun v=>plF xs (s.y v)) z L)
theorem bf_found {xs:List Pl}{n:Nat}{r:Int × Int}{s:BF} (hn:okN xs n) (h:bfRun xs r (n+1) bf0=some s):∃ v z L,Found xs n r s v z L:=by
 obtain ⟨lev,ts,h1,h2⟩:=(bf_spec hn).2 s h
 rcases h1.la with h3|⟨v,h3,h4⟩
 ·omega
 ·obtain ⟨L,hp,hL,hlev⟩:=h1.per h4
  refine ⟨v,_,L,h3,h1.lt v (by omega),rfl,hp,hL,fun j=>h1.by1 _ (hlev j),fun j hj=>(h1.by1 _ ?_).1,fun j=>h1.lt _ (hlev j),h1.positive hlev hp⟩
  have:=h1.chain h4 j (by omega)
  omega
theorem sum_bnd {xs:List Pl}{D K:Int} (h:∀ i,i<xs.length→(0≤(plA xs i).d∧(plA xs i).d≤D)∧(0≤(plA xs i).k∧(plA xs i).k≤K)):∀ {c:List Nat},(∀ i∈c,i<xs.length)→(0≤sumD xs c∧sumD xs c≤D*c.length)∧(0≤sumT xs c∧sumT xs c≤K*c.length)
 | [],_=>by simp[sumD,sumT]
 | i :: c,hc=>by
  have h1:=sum_bnd h (c:=c) fun j hj=>hc j (by simp[hj])
  have h2:=h i (hc i (by simp))
  simp only[sumD,sumT,List.length_cons,Int.natCast_add,Int.mul_add]
  omega
theorem Circ.len {xs:List Pl}{n:Nat}{c:List Nat} (hn:∀ i,i<xs.length→0≤(plA xs i).f∧(plA xs i).f<n) (h:Circ xs c):c.length≤n:=by
 have hlt:=h.wk.lt
 have hnd:(c.map fun i=>(plA xs i).f.toNat).Nodup:=by
  have:=h.nd
  rw[List.nodup_iff_pairwise_ne,List.pairwise_map] at this ⊢
  refine List.Pairwise.imp_of_mem (R:=fun a b=>(plA xs a).f≠(plA xs b).f) ?_ this
  intro a b ha hb hne e
  have h1:=hn a (hlt a ha)
  have h2:=hn b (hlt b hb)
  omega
 have:=nodup_le n _ hnd (fun x hx=>by
  obtain ⟨i,hi,rfl⟩:=List.mem_map.1 hx
  have:=hn i (hlt i hi)
  omega)
 simpa using this
structure Live (xs:List Pl) (n:Nat):Prop where
 pl:∀ i,i<xs.length→(0≤(plA xs i).f∧(plA xs i).f<n)∧(0≤(plA xs i).t∧(plA xs i).t<n)∧(0≤(plA xs i).d∧(plA xs i).d≤10000)∧(0≤(plA xs i).k∧(plA xs i).k≤5)
 tok:∀ (c:List Nat) (u:Int),c≠[]→Wk xs u c u→0<sumT xs c
theorem Live.circ {xs:List Pl}{n:Nat} (h:Live xs n) {c:List Nat} (hc:Circ xs c):c.length≤n∧(0≤sumD xs c∧sumD xs c≤10000*c.length)∧(0<sumT xs c∧sumT xs c≤5*c.length):=by
 have h1:=hc.len fun i hi=>(h.pl i hi).1
 have h2:=sum_bnd (fun i hi=>(h.pl i hi).2.2) hc.wk.lt
 have h3:=h.tok c _ hc.ne hc.wk
 omega
theorem Live.red {xs:List Pl}{n:Nat} (h:Live xs n) (hn:n≤10) {c:List Nat} (hl:c.length≤n) (hlt:∀ i∈c,i<xs.length) (h3:0<sumT xs c):(0≤(redR (sumD xs c) (sumT xs c)).1∧(redR (sumD xs c) (sumT xs c)).1≤100000)∧(0<(redR (sumD xs c) (sumT xs c)).2∧(redR (sumD xs c) (sumT xs c)).2≤50)∧Int.gcd (redR (sumD xs c) (sumT xs c)).1 (redR (sumD xs c) (sumT xs c)).2=1:=by
 have h2:=sum_bnd (fun i hi=>(h.pl i hi).2.2) hlt
 obtain ⟨g1,g2,g3,g4,g5⟩:=redR_ok (d:=sumD xs c) h3
 generalize (Int.gcd (sumD xs c) (sumT xs c):Int)=g at g3 g4 g5
 generalize redR (sumD xs c) (sumT xs c)=s at *
 have a1:0≤s.1:=by
  apply Classical.byContradiction
  intro hneg
  have:=Int.mul_le_mul_of_nonneg_left (show s.1≤-1 by omega) (show 0≤g by omega)
  omega
 have a2:s.1≤g*s.1:=by
  have:=Int.mul_le_mul_of_nonneg_right (show (1:Int)≤g by omega) a1
  omega
 have a3:s.2≤g*s.2:=by
  have:=Int.mul_le_mul_of_nonneg_right (show (1:Int)≤g by omega) (show 0≤s.2 by omega)
  omega
 refine ⟨⟨a1,?_⟩,⟨g1,?_⟩,g2⟩<;>omega
noncomputable def maxR (xs:List Pl):Int × Int:=open Classical in if h:∃ r,MaxR xs r then Classical.choose h else (0,1)
theorem maxR_eq {xs:List Pl}{n:Nat} (hl:Live xs n) {r:Int × Int} (h:MaxR xs r):maxR xs=r:=by
 have he:∃ r,MaxR xs r:=⟨r,h⟩
 unfold maxR
 rw[dif_pos he]
 exact MaxR.uniq (fun c hc=>(hl.circ hc).2.2.1) (Classical.choose_spec he) h
theorem MaxR.of_walk {xs:List Pl}{r:Int × Int}{c:List Nat}{u:Int} (h1:0<r.2) (h2:Int.gcd r.1 r.2=1) (hle:∀ c,Circ xs c→wgt xs r.1 r.2 c≤0) (hc:c≠[]) (hw:Wk xs u c u) (h0:0≤wgt xs r.1 r.2 c):MaxR xs r:=by
 obtain ⟨c',h3,h4,_⟩:=circ_of_walk c.length c u (Nat.le_refl _) hc hw h0
 exact ⟨h1,h2,hle,c',h3,by have:=hle c' h3;omega⟩
structure TdOk (xs:List Pl) (u:Int) (d:Nat→Int):Prop where
 some:∀ v:Nat,d v=-1∨∃ c,Wk xs u c v∧d v=sumT xs c
 all:∀ (v:Nat) c,Wk xs u c v→0≤d v∧d v≤sumT xs c
theorem TdOk.uniq {xs:List Pl}{u:Int}{d d':Nat→Int} (h:TdOk xs u d) (h':TdOk xs u d'):d=d':=by
 funext v
 rcases h.some v with e|⟨c,h1,e⟩<;>rcases h'.some v with e'|⟨c',h1',e'⟩
 ·omega
 ·have:=h.all v c' h1';omega
 ·have:=h'.all v c h1;omega
 ·have:=h.all v c' h1';have:=h'.all v c h1;omega
noncomputable def tdF (xs:List Pl) (u:Int):Nat→Int:=open Classical in if h:∃ d,TdOk xs u d then Classical.choose h else fun _=>0
theorem tdF_eq {xs:List Pl}{u:Int}{d:Nat→Int} (h:TdOk xs u d):tdF xs u=d:=by
 have he:∃ d,TdOk xs u d:=⟨d,h⟩
 unfold tdF
 rw[dif_pos he]
 exact TdOk.uniq (Classical.choose_spec he) h
structure DSt where
 d:Nat→Int
 ch:Bool
def tdStep (xs:List Pl) (s:DSt) (i:Nat):DSt:=
 if 0≤s.d (plF xs i)∧(s.d (plTo xs i)<0∨s.d (plF xs i)+(plA xs i).k<s.d (plTo xs i)) then ⟨fun v=>if v=plTo xs i then s.d (plF xs i)+(plA xs i).k else s.d v,true⟩ else s
def tdAt (xs:List Pl) (d:Nat→Int):Nat→DSt
 | 0=>⟨d,false⟩
 | k+1=>tdStep xs (tdAt xs d k) k
def cntN (d:Nat→Int):Nat→Nat
 | 0=>0
 | n+1=>cntN d n+if d n<0 then 0 else 1
def mesN (d:Nat→Int):Nat→Nat
 | 0=>0
 | n+1=>mesN d n+if d n<0 then 100 else (d n).toNat
theorem cntN_le {d:Nat→Int}:∀ n,cntN d n≤n
 | 0=>Nat.le_refl _
 | n+1=>by have:=cntN_le (d:=d) n;simp only[cntN];split<;>omega
theorem cntN_upd {d:Nat→Int}{v:Nat}{x:Int} (hx:0≤x):∀ n,cntN (fun u=>if u=v then x else d u) n=cntN d n+(if v<n∧d v<0 then 1 else 0)
 | 0=>by simp[cntN]
 | n+1=>by
  simp only[cntN,cntN_upd hx n]
  by_cases e:n=v
  ·subst e
   simp only[if_true,if_neg (show ¬ x<0 by omega),Nat.lt_irrefl,false_and,if_false,Nat.lt_succ_self,true_and]
   split<;>simp
  ·simp only[e,if_false]
   by_cases h:v<n
   ·simp only[h,show v<n+1 by omega,true_and];split<;>split<;>omega
   ·simp only[h,show ¬ v<n+1 by omega,false_and,if_false];omega
theorem mesN_upd {d:Nat→Int}{v:Nat}{x:Int} (hx:0≤x):∀ n,v<n→(mesN (fun u=>if u=v then x else d u) n:Int)+(if d v<0 then 100 else d v)=mesN d n+x
 | 0,h=>by omega
 | n+1,h=>by
  simp only[mesN]
  by_cases e:n=v
  ·subst e
   have key:∀ m,m≤n→mesN (fun u=>if u=n then x else d u) m=mesN d m:=fun m=>by
    induction m with
    | zero=>intro _;rfl
    | succ m ih=>intro hm;simp only[mesN];rw[ih (by omega)];simp only[show ¬ m=n by omega,if_false]
   rw[key n (Nat.le_refl _)]
   simp only[if_true,if_neg (show ¬ x<0 by omega)]
   split<;>omega
  ·have:=mesN_upd (d:=d) (v:=v) (x:=x) hx n (by omega)
   simp only[e,if_false]
   split<;>split at this<;>omega
structure TdInv (xs:List Pl) (n:Nat) (u:Nat) (d:Nat→Int):Prop where
 some:∀ v:Nat,d v=-1∨∃ c,Wk xs u c v∧d v=sumT xs c
 nn:∀ v,-1≤d v
 le:∀ v,d v≤5*cntN d n
 u0:d u=0
theorem TdInv.start {xs:List Pl}{n u:Nat} (hu:u<n):TdInv xs n u (fun v=>if v=u then 0 else -1):=by
 refine ⟨fun v=>?_,fun v=>?_,fun v=>?_,by simp⟩
 ·split
  ·rename_i e;subst e;right;exact ⟨[],rfl,rfl⟩
  ·exact .inl rfl
 ·split<;>omega
 ·split<;>omega
theorem TdInv.step {xs:List Pl}{n u i:Nat}{s:DSt} (hn10:n≤10) (hpl:(0≤(plA xs i).f∧(plA xs i).f<n)∧(0≤(plA xs i).t∧(plA xs i).t<n)∧(0≤(plA xs i).k∧(plA xs i).k≤5)) (hi:i<xs.length) (h:TdInv xs n u s.d):TdInv xs n u (tdStep xs s i).d∧(((tdStep xs s i).d=s.d∧(tdStep xs s i).ch=s.ch)∨((tdStep xs s i).ch=true∧mesN (tdStep xs s i).d n<mesN s.d n)):=by
 unfold tdStep
 split
 ·rename_i hc
  obtain ⟨hc1,hc2⟩:=hc
  have hx:0≤s.d (plF xs i)+(plA xs i).k:=by omega
  have hT:plTo xs i<n:=by simp only[plTo];omega
  have hcnt:=cntN_upd (d:=s.d) (v:=plTo xs i) hx n
  have hmes:=mesN_upd (d:=s.d) (v:=plTo xs i) hx n hT
  have hle:=h.le
  refine ⟨⟨fun v=>?_,fun v=>?_,fun v=>?_,?_⟩,.inr ⟨rfl,?_⟩⟩
  ·simp only
   split
   ·rename_i e
    right
    rcases h.some (plF xs i) with e2|⟨c,h1,h2⟩
    ·omega
    ·refine ⟨c++[i],?_,?_⟩
     ·rw[Wk.app]
      refine ⟨_,h1,hi,by simp only[plF];omega,?_⟩
      simp only[Wk,plTo] at e ⊢;omega
     ·rw[sumT_app,h2];simp[sumT]
   ·exact h.some v
  ·simp only;split
   ·omega
   ·exact h.nn v
  ·simp only
   rw[hcnt]
   split
   ·rename_i e
    have h1:=hle (plF xs i)
    have h2:=hle (plTo xs i)
    by_cases h3:s.d (plTo xs i)<0
    ·rw[if_pos ⟨hT,h3⟩];omega
    ·rw[if_neg (fun e=>h3 e.2)];omega
   ·have:=hle v;split<;>omega
  ·simp only
   split
   ·rename_i e
    have h1:=h.u0
    rw[e] at h1
    omega
   ·exact h.u0
  ·simp only
   have hn:=cntN_le (d:=s.d) n
   have h1:=hle (plF xs i)
   have h2:=hle (plTo xs i)
   split at hmes<;>omega
 ·exact ⟨h,.inl ⟨rfl,rfl⟩⟩
theorem TdInv.places {xs:List Pl}{n u:Nat} (hn10:n≤10) (hpl:∀ i,i<xs.length→(0≤(plA xs i).f∧(plA xs i).f<n)∧(0≤(plA xs i).t∧(plA xs i).t<n)∧(0≤(plA xs i).k∧(plA xs i).k≤5)) {d:Nat→Int} (h:TdInv xs n u d):∀ k,k≤xs.length→
  TdInv xs n u (tdAt xs d k).d∧(((tdAt xs d k).ch=false∧(tdAt xs d k).d=d∧∀ i,i<k→¬ (0≤d (plF xs i)∧(d (plTo xs i)<0∨d (plF xs i)+(plA xs i).k<d (plTo xs i))))∨((tdAt xs d k).ch=true∧mesN (tdAt xs d k).d n<mesN d n))
 | 0,_=>⟨h,.inl ⟨rfl,rfl,fun i hi=>by omega⟩⟩
 | k+1,hk=>by
  obtain ⟨h1,h2⟩:=h.places hn10 hpl k (by omega)
  obtain ⟨h3,h4⟩:=h1.step hn10 (hpl k (by omega)) (by omega)
  rw[tdAt]
  refine ⟨h3,?_⟩
  rcases h2 with ⟨e1,e2,e3⟩|⟨e1,e2⟩
  ·rcases h4 with ⟨e4,e5⟩|⟨e4,e5⟩
   ·left
    refine ⟨by rw[e5,e1],by rw[e4,e2],fun i hi hc=>?_⟩
    by_cases hik:i=k
    ·subst hik
     have:(tdStep xs (tdAt xs d i) i).ch=true:=by unfold tdStep;rw[e2,if_pos hc]
     rw[e5,e1] at this;cases this
    ·exact e3 i (by omega) hc
   ·right;exact ⟨e4,by rw[e2] at e5;exact e5⟩
  ·right
   rcases h4 with ⟨e4,e5⟩|⟨e4,e5⟩
   ·exact ⟨by rw[e5,e1],by rw[e4];exact e2⟩
   ·exact ⟨e4,by omega⟩
theorem TdInv.fin {xs:List Pl}{n u:Nat}{d:Nat→Int} (hpl:∀ i,i<xs.length→(0≤(plA xs i).f∧(plA xs i).f<n)∧(0≤(plA xs i).t∧(plA xs i).t<n)∧(0≤(plA xs i).k∧(plA xs i).k≤5)) (h:TdInv xs n u d) (hq:∀ i,i<xs.length→¬ (0≤d (plF xs i)∧(d (plTo xs i)<0∨d (plF xs i)+(plA xs i).k<d (plTo xs i)))):tdF xs u=d:=by
 refine tdF_eq ⟨h.some,fun v c hw=>?_⟩
 have key:∀ (c:List Nat) (a b:Int),Wk xs a c b→0≤a→0≤d a.toNat→0≤d b.toNat∧d b.toNat≤d a.toNat+sumT xs c:=fun c=>by
  induction c with
  | nil=>intro a b h1 h2 h3;simp only[Wk] at h1;subst h1;simp[sumT,h3]
  | cons i c ih=>
   intro a b h1 h2 h3
   obtain ⟨g1,g2,g3⟩:=h1
   have hp:=hpl i g1
   have hqi:=hq i g1
   have hF:plF xs i=a.toNat:=by simp only[plF];omega
   rw[hF] at hqi
   have h4:0≤d (plTo xs i)∧d (plTo xs i)≤d a.toNat+(plA xs i).k:=by omega
   have:=ih (plA xs i).t b g3 (by omega) h4.1
   simp only[sumT]
   simp only[plTo] at h4
   omega
 have:=key c u v hw (by omega) (by simp[h.u0])
 simp only[Int.toNat_natCast] at this
 rw[h.u0] at this
 omega
end
section
open Go Go.RowKit
attribute [local irreducible] AL AD AW OpOk Le AC thenQ blockQ EndQ
theorem okPl_at [Mode] {n:Nat}{xs:List Pl} (hv:∀ p∈xs,okPl n p) (i:Nat) (hi:i<xs.length):okPl n (plA xs i):=by
 unfold plA
 rw[List.getElem?_eq_getElem hi]
 exact hv _ (List.getElem_mem hi)
end
section
open Go Go.RowKit
attribute [local irreducible] AL AD AW OpOk Le AC thenQ blockQ EndQ
structure Rc (t:List (List Int)) (m n:Nat):Prop where
 l:t.length=m
 r:∀ r∈t,r.length=n
theorem Rc.get [Mode] {t:List (List Int)}{m n i j:Nat} (h:Rc t m n) (hi:i<m) (hj:j<n):∃ r,t[i]? = some r∧r[j]? = some (entN t i j)∧r.length=n:=by
 have h1:i<t.length:=by rw[h.l];exact hi
 have h2:=h.r t[i] (List.getElem_mem h1)
 refine ⟨t[i],List.getElem?_eq_getElem h1,?_,h2⟩
 unfold entN
 rw[List.getElem?_eq_getElem h1,Option.getD_some,List.getElem?_eq_getElem (by rw[h2];exact hj),Option.getD_some]
def alS (t:List (List Int)) (r e:Nat) (a:Int × Int) (p:Pl) (i:Nat):Int × Int:=
 if p.t=e∧p.k+1≤r then (if a.1<entN t (r - 1 - p.k.toNat) p.f.toNat+p.d∨(entN t (r - 1 - p.k.toNat) p.f.toNat+p.d=a.1∧a.2<0) then (entN t (r - 1 - p.k.toNat) p.f.toNat+p.d,(i:Int)) else a) else a
def alA (t:List (List Int)) (r e:Nat) (xs:List Pl):Nat→Int × Int
 | 0=>(0,-1)
 | k+1=>match xs[k]? with
  | some p=>alS t r e (alA t r e xs k) p k
  | none=>alA t r e xs k
end
section
open Go Go.RowKit
attribute [local irreducible] AL AD AW OpOk Le AC thenQ blockQ EndQ
end
section
open Go Go.RowKit
attribute [local irreducible] AL AD AW OpOk Le AC thenQ blockQ EndQ
theorem indexInt_ac [Mode] (xs:List Int) (y:Int) (hn:xs.length≤100000000):AC Tryz.prog 121 [IL xs,I y] H0 (I (idxOf (fun x=>decide (x=y)) xs 0)) H0:=by
 refine AC.of_body 0 Tryz.func121 rfl (fun l h=>absurd rfl h) (fun C hC=>?_)
 have hD:∀ l,¬ C.D0 l:=fun l h=>(hC l).1 h rfl
 simp only[startFr,Tryz.ntmps121,List.length_cons,List.length_nil,Nat.reduceAdd,Nat.reduceSub,List.replicate_succ,List.replicate_zero,List.cons_append,List.nil_append]
 repeat' (first|((first|apply Ba|(apply Bb;(· rfl);(· rfl))|(apply Bc;(· exact nxE))|(apply Bd;(· rfl);(· rfl);(· exact nxE)));(· first|exact Ok.pe))|((first|apply Ca|(apply Cb;(· exact nxE)));(· first|exact Ok.e0))|refine Sx ?_|(refine Sy (fun h=>?_) (fun h=>?_)<;>try (exfalso;omega;done))|refine Sz (fun h=>?_) (fun h=>?_))
 refine AW.loop (X:={k:Nat // k≤xs.length∧idxOf (fun x=>decide (x=y)) xs 0=idxOf (fun x=>decide (x=y)) (xs.drop k) k}) (fun k=>⟨[IL xs,I y,Oo,Oo,Oo,Oo,Oo,I xs.length,I (k.1:Nat),Oo,Oo,Oo,Oo,Oo,Oo,Oo,Oo,Oo,Oo],heapL [],900⟩) (fun k=>xs.length - k.1) ⟨0,Nat.zero_le _,by simp⟩ ?_ (fun k=>?_)
 ·
  (apply Le.headZ [] rfl)
  all_goals (try dsimp only[srcs])
  (case' hfr|hob=>(repeat' (first|refine La ?_ ?_|exact Lc|refine Lo ?_|refine ⟨⟨_,rfl,?_⟩,?_⟩|refine Lx ?_)))
  all_goals (first|(rfl)|exact Ld)
 obtain ⟨k,hk,hall⟩:=k
 simp only
 by_cases hlt:k<xs.length
 ·obtain ⟨x,hx⟩:∃ x,xs[k]? = some x:=⟨xs[k],by simp⟩
  have hrow:=IR_get hx
  have hst:=idxOf_at (f:=fun x=>decide (x=y)) hx k
  rw[← hall] at hst
  repeat' (first|((first|apply Ba|(apply Bb;(· rfl);(· rfl))|(apply Bc;(· exact nxE))|(apply Bd;(· rfl);(· rfl);(· exact nxE)));(· first|exact Ok.pe))|((first|apply Ca|(apply Cb;(· exact nxE)));(· first|exact Ok.e0))|refine Sx ?_|(refine Sy (fun h=>?_) (fun h=>?_)<;>try (exfalso;omega;done))|refine Sz (fun h=>?_) (fun h=>?_))
  ·
   refine Ya ?_
   (apply Le.headZ (hs:=[]) [] rfl)
   all_goals (try dsimp only[srcs])
   (case' hfr=>(repeat' (first|refine La ?_ ?_|exact Lc|refine Lo ?_|refine ⟨⟨_,rfl,?_⟩,?_⟩|refine Lx ?_)))
   all_goals (first|exact Ld|exact trivial|((rw[hst,if_pos (by simpa using h.symm)];done)))
  ·refine ⟨⟨k+1,by omega,by rw[hst,if_neg (by simpa using fun e=>h e.symm)]⟩,?_,by simp only;omega⟩
   (apply Le.headZ [] rfl)
   all_goals (try dsimp only[srcs])
   (case' hfr|hob=>(repeat' (first|refine La ?_ ?_|exact Lc|refine Lo ?_|refine ⟨⟨_,rfl,?_⟩,?_⟩|refine Lx ?_)))
   all_goals (first|(rfl)|exact Ld)
 ·
  repeat' (first|((first|apply Ba|(apply Bb;(· rfl);(· rfl))|(apply Bc;(· exact nxE))|(apply Bd;(· rfl);(· rfl);(· exact nxE)));(· first|exact Ok.pe))|((first|apply Ca|(apply Cb;(· exact nxE)));(· first|exact Ok.e0))|refine Sx ?_|(refine Sy (fun h=>?_) (fun h=>?_)<;>try (exfalso;omega;done))|refine Sz (fun h=>?_) (fun h=>?_))
  refine Ya ?_
  (apply Le.headZ (hs:=[]) [] rfl)
  all_goals (try dsimp only[srcs])
  (case' hfr=>(repeat' (first|refine La ?_ ?_|exact Lc|refine Lo ?_|refine ⟨⟨_,rfl,?_⟩,?_⟩|refine Lx ?_)))
  all_goals (first|exact Ld|exact trivial|((rw[hall,List.drop_of_length_le (by omega)];rfl)))
theorem containsInt_ac [Mode] (xs:List Int) (y:Int) (hn:xs.length≤100000000):AC Tryz.prog 65 [IL xs,I y] H0 (Bo (xs.any fun x=>decide (x=y))) H0:=by
 refine AC.of_body 0 Tryz.func65 rfl (fun l h=>absurd rfl h) (fun C hC=>?_)
 have hD:∀ l,¬ C.D0 l:=fun l h=>(hC l).1 h rfl
 simp only[startFr,Tryz.ntmps65,List.length_cons,List.length_nil,Nat.reduceAdd,Nat.reduceSub,List.replicate_succ,List.replicate_zero,List.cons_append,List.nil_append]
 repeat' (first|((first|apply Ba|(apply Bb;(· rfl);(· rfl))|(apply Bc;(· exact nxE))|(apply Bd;(· rfl);(· rfl);(· exact nxE)));(· first|exact Kz rfl rfl (indexInt_ac xs y hn) (Ad (Ad An))|exact Ok.pe))|((first|apply Ca|(apply Cb;(· exact nxE)));(· first|exact Ok.e0))|refine Sx ?_|(refine Sy (fun h=>?_) (fun h=>?_)<;>try (exfalso;omega;done))|refine Sz (fun h=>?_) (fun h=>?_))
 all_goals
  refine Ya ?_
  (apply Le.headZ (hs:=[]) [] rfl)
  all_goals (try dsimp only[srcs])
  (case' hfr=>(repeat' (first|refine La ?_ ?_|exact Lc|refine Lo ?_|refine ⟨⟨_,rfl,?_⟩,?_⟩|refine Lx ?_)))
  all_goals (first|exact Ld|exact trivial|((rw[idxOf_any];done)))
theorem cN_snoc [Mode] {ord:List Nat}{e:Nat}:IR (cN (ord++[e]))=IR (cN ord)++[[DI e]]:=by simp
end
section
open Go Go.RowKit
attribute [local irreducible] AL AD AW OpOk Le AC thenQ blockQ EndQ
set_option maxHeartbeats 1000000 in
theorem indexFuncT_ac [Mode] (t:List (List Int)) (hn:t.length≤100000000) (g:FuncId) [FnBody Tryz.prog g] (caps:List AV) (hs:HL) (hself:∀ p∈hs,p.2.1=p.1) (hnd:(hs.map (·.1)).Nodup) (hok:HOk hs) (hcaps:∀ c∈caps,Locs (·∈hs.map (·.1)) c) (M:Nat) (hM:∀ p∈hs,p.1.id<M) (pred:List Int→Bool)
  (hg:∀ r∈t,AC Tryz.prog g (IL r :: caps) (heapL hs) (Bo (pred r)) (heapL hs)):AC Tryz.prog 155 [TL t,.clo (.func g) [] caps] (heapL hs) (I (idxOf pred t 0)) (heapL hs):=by
 refine AC.of_body M Tryz.func155 rfl (fun l h=>by obtain ⟨p,hp,e⟩:=List.mem_map.1 (heapL_iff.1 h);rw[← e];exact hM p hp) (fun C hC=>?_)
 simp only[startFr,Tryz.ntmps155,List.length_cons,List.length_nil,Nat.reduceAdd,Nat.reduceSub,List.replicate_succ,List.replicate_zero,List.cons_append,List.nil_append]
 repeat' (first|((first|apply Ba|(apply Bb;(· rfl);(· rfl))|(apply Bc;(· exact nxE))|(apply Bd;(· rfl);(· rfl);(· exact nxE)));(· first|exact Ok.pe))|((first|apply Ca|(apply Cb;(· exact nxE)));(· first|exact Ok.e0))|refine Sx ?_|(refine Sy (fun h=>?_) (fun h=>?_)<;>try (exfalso;omega;done))|refine Sz (fun h=>?_) (fun h=>?_))
 have hca:∀ H lent,ARs H lent id (·∈hs.map (·.1)) caps caps:=fun H lent=>⟨rfl,fun i c c' h1 h2=>by rw[h1] at h2;cases h2;exact (hcaps c (List.mem_of_getElem? h1)).ar⟩
 have hD:∀ l,C.D0 l→l.id<M:=fun l h=>by obtain ⟨p,hp,e⟩:=List.mem_map.1 (heapL_iff.1 ((hC l).1 h));rw[← e];exact hM p hp
 refine AW.loop (X:={k:Nat // k≤t.length∧idxOf pred t 0=idxOf pred (t.drop k) k}) (fun k=>⟨[TL t,.clo (.func g) [] caps,Oo,Oo,Oo,Oo,Oo,I t.length,I (k.1:Nat),Oo,Oo,Oo,Oo,Oo,Oo,Oo,Oo,Oo,Oo],heapL hs,M⟩) (fun k=>t.length - k.1) ⟨0,Nat.zero_le _,by simp⟩ ?_ (fun k=>?_)
 ·
  refine Le.keep hself hnd hok ?_ hM hD
  repeat' (first|exact trivial|exact ARs.nil|refine ARs.cons ?_ ?_|exact AR.dead _|exact AR.dd _|exact AR.i (by (try dsimp only);omega)|exact AR.ptr _ _ _ _ (by simp[heapL,upd])|exact AR.own _ _ _ _ (by simp[heapL,upd])|refine AR.ownE _ _ _ ?_ (by simp[heapL,upd])|refine ⟨⟨_,rfl,?_⟩,?_⟩|exact ObA.data|refine ObA.box ?_|refine ObA.frE ?_|refine ObA.dataE ?_|refine ARs.agg ?_|refine ARs.tup ?_|exact AR.clo' ARs.nil ARs.nil|exact AR.clo' ARs.nil (hca _ _))
  all_goals (simp;done)
 obtain ⟨k,hk,hall⟩:=k
 simp only
 by_cases hlt:k<t.length
 ·obtain ⟨r,hr⟩:∃ r,t[k]? = some r:=⟨t[k],by simp⟩
  have hrow:=TR_get hr
  have hgp:=hg r (List.mem_of_getElem? hr)
  have hst:=idxOf_at (f:=pred) hr k
  rw[← hall] at hst
  repeat' (first|((first|apply Ba|(apply Bb;(· rfl);(· rfl))|(apply Bc;(· exact nxE))|(apply Bd;(· rfl);(· rfl);(· exact nxE)));(· first|exact OpOk.callS hs rfl rfl hgp (fun p hp=>rfl) hok (.d _) (.cons (.dd _) (hca _ _))|exact Ok.pe))|((first|apply Ca|(apply Cb;(· exact nxE)));(· first|exact Ok.e0))|refine Sx ?_|(refine Sy (fun h=>?_) (fun h=>?_)<;>try (exfalso;omega;done))|refine Sz (fun h=>?_) (fun h=>?_))
  ·
   (refine end1p (by first|exact .inl rfl|exact .inr rfl) rfl (by first|exact rT rfl|exact rCA rfl rfl rfl rfl (by simp)|exact rCC rfl rfl rfl rfl rfl) ?_ (Le.keep hself hnd hok ?_ hM hD);(· rw[hst,if_pos h]))<;>(repeat' (first|exact trivial|exact ARs.nil|refine ARs.cons ?_ ?_|exact AR.dead _|exact AR.dd _|exact AR.i (by (try dsimp only);omega)|exact AR.ptr _ _ _ _ (by simp[heapL,upd])|exact AR.own _ _ _ _ (by simp[heapL,upd])|refine AR.ownE _ _ _ ?_ (by simp[heapL,upd])|refine ⟨⟨_,rfl,?_⟩,?_⟩|exact ObA.data|refine ObA.box ?_|refine ObA.frE ?_|refine ObA.dataE ?_|refine ARs.agg ?_|refine ARs.tup ?_|exact AR.clo' ARs.nil ARs.nil|exact AR.clo' ARs.nil (hca _ _)))
  ·refine ⟨⟨k+1,by omega,by rw[hst,if_neg (by simp[h])]⟩,?_,by simp only;omega⟩
   refine Le.keep hself hnd hok ?_ hM hD
   repeat' (first|exact trivial|exact ARs.nil|refine ARs.cons ?_ ?_|exact AR.dead _|exact AR.dd _|exact AR.i (by (try dsimp only);omega)|exact AR.ptr _ _ _ _ (by simp[heapL,upd])|exact AR.own _ _ _ _ (by simp[heapL,upd])|refine AR.ownE _ _ _ ?_ (by simp[heapL,upd])|refine ⟨⟨_,rfl,?_⟩,?_⟩|exact ObA.data|refine ObA.box ?_|refine ObA.frE ?_|refine ObA.dataE ?_|refine ARs.agg ?_|refine ARs.tup ?_|exact AR.clo' ARs.nil ARs.nil|exact AR.clo' ARs.nil (hca _ _))
 ·
  repeat' (first|((first|apply Ba|(apply Bb;(· rfl);(· rfl))|(apply Bc;(· exact nxE))|(apply Bd;(· rfl);(· rfl);(· exact nxE)));(· first|exact Ok.pe))|((first|apply Ca|(apply Cb;(· exact nxE)));(· first|exact Ok.e0))|refine Sx ?_|(refine Sy (fun h=>?_) (fun h=>?_)<;>try (exfalso;omega;done))|refine Sz (fun h=>?_) (fun h=>?_))
  all_goals
   (refine end1p (by first|exact .inl rfl|exact .inr rfl) rfl (by first|exact rT rfl|exact rCA rfl rfl rfl rfl (by simp)|exact rCC rfl rfl rfl rfl rfl) ?_ (Le.keep hself hnd hok ?_ hM hD);(· rw[hall,List.drop_of_length_le (by omega)];rfl))<;>(repeat' (first|exact trivial|exact ARs.nil|refine ARs.cons ?_ ?_|exact AR.dead _|exact AR.dd _|exact AR.i (by (try dsimp only);omega)|exact AR.ptr _ _ _ _ (by simp[heapL,upd])|exact AR.own _ _ _ _ (by simp[heapL,upd])|refine AR.ownE _ _ _ ?_ (by simp[heapL,upd])|refine ⟨⟨_,rfl,?_⟩,?_⟩|exact ObA.data|refine ObA.box ?_|refine ObA.frE ?_|refine ObA.dataE ?_|refine ARs.agg ?_|refine ARs.tup ?_|exact AR.clo' ARs.nil ARs.nil|exact AR.clo' ARs.nil (hca _ _)))
set_option maxHeartbeats 1000000 in
theorem containsFuncT_ac [Mode] (t:List (List Int)) (hn:t.length≤100000000) (g:FuncId) [FnBody Tryz.prog g] (caps:List AV) (hs:HL) (hself:∀ p∈hs,p.2.1=p.1) (hnd:(hs.map (·.1)).Nodup) (hok:HOk hs) (hcaps:∀ c∈caps,Locs (·∈hs.map (·.1)) c) (M:Nat) (hM:∀ p∈hs,p.1.id<M) (pred:List Int→Bool)
  (hg:∀ r∈t,AC Tryz.prog g (IL r :: caps) (heapL hs) (Bo (pred r)) (heapL hs)):AC Tryz.prog 163 [TL t,.clo (.func g) [] caps] (heapL hs) (Bo (t.any pred)) (heapL hs):=by
 refine AC.of_body M Tryz.func163 rfl (fun l h=>by obtain ⟨p,hp,e⟩:=List.mem_map.1 (heapL_iff.1 h);rw[← e];exact hM p hp) (fun C hC=>?_)
 simp only[startFr,Tryz.ntmps163,List.length_cons,List.length_nil,Nat.reduceAdd,Nat.reduceSub,List.replicate_succ,List.replicate_zero,List.cons_append,List.nil_append]
 have hca:∀ H lent,ARs H lent id (·∈hs.map (·.1)) caps caps:=fun H lent=>⟨rfl,fun i c c' h1 h2=>by rw[h1] at h2;cases h2;exact (hcaps c (List.mem_of_getElem? h1)).ar⟩
 have hD:∀ l,C.D0 l→l.id<M:=fun l h=>by obtain ⟨p,hp,e⟩:=List.mem_map.1 (heapL_iff.1 ((hC l).1 h));rw[← e];exact hM p hp
 have hc:=indexFuncT_ac t hn g caps hs hself hnd hok hcaps M hM pred hg
 repeat' (first|((first|apply Ba|(apply Bb;(· rfl);(· rfl))|(apply Bc;(· exact nxE))|(apply Bd;(· rfl);(· rfl);(· exact nxE)));(· first|exact OpOk.callS hs rfl rfl hc (fun p hp=>rfl) hok (.d _) (.cons (.dd _) (.cons (AR.clo' .nil (hca _ _)) .nil))|exact Ok.pe))|((first|apply Ca|(apply Cb;(· exact nxE)));(· first|exact Ok.e0))|refine Sx ?_|(refine Sy (fun h=>?_) (fun h=>?_)<;>try (exfalso;omega;done))|refine Sz (fun h=>?_) (fun h=>?_))
 (refine end1p (by first|exact .inl rfl|exact .inr rfl) rfl (by first|exact rT rfl|exact rCA rfl rfl rfl rfl (by simp)|exact rCC rfl rfl rfl rfl rfl) ?_ (Le.keep hself hnd hok ?_ hM hD);(· rw[idxOf_any]))<;>(repeat' (first|exact trivial|exact ARs.nil|refine ARs.cons ?_ ?_|exact AR.dead _|exact AR.dd _|exact AR.i (by (try dsimp only);omega)|exact AR.ptr _ _ _ _ (by simp[heapL,upd])|exact AR.own _ _ _ _ (by simp[heapL,upd])|refine AR.ownE _ _ _ ?_ (by simp[heapL,upd])|refine ⟨⟨_,rfl,?_⟩,?_⟩|exact ObA.data|refine ObA.box ?_|refine ObA.frE ?_|refine ObA.dataE ?_|refine ARs.agg ?_|refine ARs.tup ?_|exact AR.clo' ARs.nil ARs.nil|exact AR.clo' ARs.nil (hca _ _)))
end
end Go.Proofs.YtkpoclbnnpglfaaGreat
