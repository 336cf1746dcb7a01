/-
  Walks in the abstract reading, part 3.
-/
import Derived.Test.YtkpoclbnnpglfaaGreatKqU2
import Derived.Test.YtkpoclbnnpglfaaGreatKqA2
import Derived.Test.YtkpoclbnnpglfaaGreatKqA3
set_option linter.unusedSimpArgs false
set_option linter.unusedVariables false
namespace Go.Proofs.YtkpoclbnnpglfaaGreat
section
open Go Go.RowKit
attribute [local irreducible] AL AD AW OpOk Le AC thenQ blockQ EndQ
def rowF (n:Nat) (g:Nat→Int):List Int:=(List.range n).map g
def tabF (m n:Nat) (f:Nat→Nat→Int):List (List Int):=(List.range m).map fun i=>rowF n (f i)
theorem rowF_len [Mode] {n:Nat}{g:Nat→Int}:(rowF n g).length=n:=by simp[rowF]
theorem tabF_len [Mode] {m n:Nat}{f:Nat→Nat→Int}:(tabF m n f).length=m:=by simp[tabF]
theorem rowF_get [Mode] {n j:Nat}{g:Nat→Int} (h:j<n):(rowF n g)[j]? = some (g j):=by simp[rowF,h]
theorem tabF_get [Mode] {m n i:Nat}{f:Nat→Nat→Int} (h:i<m):(tabF m n f)[i]? = some (rowF n (f i)):=by simp[tabF,h]
theorem TRF_get [Mode] {m n i:Nat}{f:Nat→Nat→Int} (h:i<m):(TR (tabF m n f))[i]? = some (IR (rowF n (f i))):=by simp[tabF_get h]
theorem IRF_get [Mode] {n j:Nat}{g:Nat→Int} (h:j<n):(IR (rowF n g))[j]? = some [DI (g j)]:=by simp[rowF_get h]
theorem tabF_rc [Mode] {m n:Nat}{f:Nat→Nat→Int}:Rc (tabF m n f) m n:=⟨tabF_len,fun r hr=>by obtain ⟨i,_,rfl⟩:=List.mem_map.1 hr;exact rowF_len⟩
theorem tabF_ent [Mode] {m n i j:Nat}{f:Nat→Nat→Int} (hi:i<m) (hj:j<n):entN (tabF m n f) i j=f i j:=by
 unfold entN;rw[tabF_get hi,Option.getD_some,rowF_get hj,Option.getD_some]
theorem rowF_congr [Mode] {n:Nat}{f g:Nat→Int} (h:∀ j,j<n→f j=g j):rowF n f=rowF n g:=List.map_congr_left fun j hj=>h j (List.mem_range.1 hj)
theorem tabF_congr [Mode] {m n:Nat}{f g:Nat→Nat→Int} (h:∀ i j,i<m→j<n→f i j=g i j):tabF m n f=tabF m n g:=List.map_congr_left fun i hi=>rowF_congr fun j hj=>h i j (List.mem_range.1 hi) hj
theorem rowF_self [Mode] {r:List Int}{n:Nat} (h:r.length=n):rowF n (fun j=>(r[j]?).getD 0)=r:=by
 subst h
 apply List.ext_getElem?
 intro j
 by_cases hj:j<r.length
 ·rw[rowF_get hj];simp[hj]
 ·rw[List.getElem?_eq_none (by rw[rowF_len];omega),List.getElem?_eq_none (by omega)]
theorem tabF_self [Mode] {t:List (List Int)}{m n:Nat} (h:Rc t m n):tabF m n (entN t)=t:=by
 apply List.ext_getElem?
 intro i
 by_cases hi:i<m
 ·have h1:i<t.length:=by rw[h.l];exact hi
  rw[tabF_get hi,List.getElem?_eq_getElem h1]
  congr 1
  have:=rowF_self (h.r _ (List.getElem_mem h1))
  rw[← this]
  refine rowF_congr fun j hj=>?_
  unfold entN
  rw[List.getElem?_eq_getElem h1,Option.getD_some]
 ·rw[List.getElem?_eq_none (by rw[tabF_len];omega),List.getElem?_eq_none (by rw[h.l];omega)]
theorem rowF_set [Mode] {n j:Nat}{g:Nat→Int}{v:Int}:(rowF n g).set j v=rowF n (fun b=>if b=j then v else g b):=by
 apply List.ext_getElem?
 intro b
 rw[List.getElem?_set]
 by_cases hb:b<n
 ·rw[rowF_get hb,rowF_get hb,rowF_len]
  by_cases e:j=b
  ·subst e;rw[if_pos rfl,if_pos hb,if_pos rfl]
  ·rw[if_neg e,if_neg (fun h=>e h.symm)]
 ·rw[List.getElem?_eq_none (l:=rowF n g) (by rw[rowF_len];omega),List.getElem?_eq_none (l:=rowF n _) (by rw[rowF_len];omega),rowF_len]
  split
  ·rename_i e;subst e;rw[if_neg hb]
  ·rfl
theorem tabF_set [Mode] {m n i j:Nat}{f f':Nat→Nat→Int}{v:Int} (h:∀ a b,a<m→b<n→f' a b=if a=i∧b=j then v else f a b):TR (tabF m n f')=(TR (tabF m n f)).set i (IR ((rowF n (f i)).set j v)):=by
 have e:tabF m n f'=(tabF m n f).set i ((rowF n (f i)).set j v):=by
  apply List.ext_getElem?
  intro a
  rw[List.getElem?_set]
  by_cases ha:a<m
  ·rw[tabF_get ha]
   by_cases e:i=a
   ·subst e
    rw[if_pos rfl,if_pos (by rw[tabF_len];exact ha),rowF_set]
    congr 1
    exact rowF_congr fun b hb=>by rw[h i b ha hb];simp
   ·rw[if_neg e,tabF_get ha]
    congr 1
    exact rowF_congr fun b hb=>by rw[h a b ha hb,if_neg (fun h=>e h.1.symm)]
  ·rw[List.getElem?_eq_none (by rw[tabF_len];omega)]
   split
   ·rw[if_neg (by rw[tabF_len];omega)]
   ·rw[List.getElem?_eq_none (by rw[tabF_len];omega)]
 rw[e];simp[List.map_set]
theorem TR_take [Mode] {t:List (List Int)}{k:Nat}{r:List Int} (h:t[k]? = some r):TR (t.take (k+1))=TR (t.take k)++[IR r]:=by
 obtain ⟨hk,rfl⟩:=List.getElem?_eq_some_iff.1 h
 rw[List.take_succ_eq_append_getElem hk];exact List.map_append
end
section
open Go Go.RowKit
attribute [local irreducible] AL AD AW OpOk Le AC thenQ blockQ EndQ
def mixF (f g:Nat→Nat→Int) (K J:Nat):Nat→Nat→Int:=fun a b=>if a<K∨(a=K∧b<J) then f a b else g a b
theorem mixF_0 [Mode] {f g:Nat→Nat→Int}{m n:Nat}:tabF m n (mixF f g 0 0)=tabF m n g:=tabF_congr fun i j _ _=>by simp[mixF]
theorem mixF_row [Mode] {f g:Nat→Nat→Int}{m n K:Nat}:tabF m n (mixF f g K n)=tabF m n (mixF f g (K+1) 0):=tabF_congr fun i j _ hj=>by
 unfold mixF
 by_cases h:i<K∨(i=K∧j<n)
 ·rw[if_pos h,if_pos (by omega)]
 ·rw[if_neg h,if_neg (by omega)]
theorem mixF_all [Mode] {f g:Nat→Nat→Int}{m n:Nat}:tabF m n (mixF f g m 0)=tabF m n f:=tabF_congr fun i j hi _=>by simp[mixF,hi]
theorem mixF_set [Mode] {f g:Nat→Nat→Int}{K J a b:Nat}:mixF f g K (J+1) a b=if a=K∧b=J then f K J else mixF f g K J a b:=by
 unfold mixF
 by_cases h:a=K∧b=J
 ·obtain ⟨rfl,rfl⟩:=h;simp
 ·rw[if_neg h]
  by_cases h2:a<K∨(a=K∧b<J)
  ·rw[if_pos h2,if_pos (by omega)]
  ·rw[if_neg h2,if_neg (by omega)]
end
section
open Go Go.RowKit
attribute [local irreducible] AL AD AW OpOk Le AC thenQ blockQ EndQ
end
section
def WM (W:Nat→Nat→Int):Nat→List Nat→Nat→Prop
 | u,[],v=>W v u≠BOT
 | u,m :: c,v=>W m u≠BOT∧WM W m c v
def wM (W:Nat→Nat→Int):Nat→List Nat→Nat→Int
 | u,[],v=>W v u
 | u,m :: c,v=>W m u+wM W m c v
theorem WM.app {W:Nat→Nat→Int}:∀ {a b:List Nat}{u k v:Nat},WM W u (a++k :: b) v↔WM W u a k∧WM W k b v
 | [],b,u,k,v=>by simp[WM]
 | x :: a,b,u,k,v=>by simp only[List.cons_append,WM,WM.app (a:=a)];exact and_assoc.symm
theorem wM_app {W:Nat→Nat→Int}:∀ (a b:List Nat) (u k v:Nat),wM W u (a++k :: b) v=wM W u a k+wM W k b v
 | [],b,u,k,v=>by simp[wM]
 | x :: a,b,u,k,v=>by simp only[List.cons_append,wM,wM_app a b];omega
def NoPos (W:Nat→Nat→Int) (n:Nat):Prop:=∀ (u:Nat) (c:List Nat),u<n→(∀ x∈c,x<n)→WM W u c u→wM W u c u≤0
theorem walk_short {W:Nat→Nat→Int}{n:Nat} (hn:NoPos W n):∀ (m:Nat) (c:List Nat) (u v:Nat),c.length≤m→u<n→(∀ x∈c,x<n)→WM W u c v→∃ c',WM W u c' v∧c'.length+1≤n∧(∀ x∈c',x<n)∧wM W u c v≤wM W u c' v
 | m,c,u,v,hm,hu,hc,h=>by
  by_cases hnd:((u :: c).map id).Nodup
  ·exact ⟨c,h,by simpa using nodup_le n (u :: c) (by simpa using hnd) (fun x hx=>by
    rcases List.mem_cons.1 hx with rfl|hx
    ·exact hu
    ·exact hc x hx),hc,Int.le_refl _⟩
  ·by_cases huc:u∈c
   ·obtain ⟨a,e,rfl⟩:=List.append_of_mem huc
    rw[WM.app] at h
    cases m with
    | zero=>simp at hm
    | succ m=>
     have hp:=hn u a hu (fun x hx=>hc x (by simp[hx])) h.1
     obtain ⟨c',g1,g2,g3,g4⟩:=walk_short hn m e u v (by simp at hm ⊢;omega) hu (fun x hx=>hc x (by simp[hx])) h.2
     exact ⟨c',g1,g2,g3,by rw[wM_app];omega⟩
   ·have hnd2:¬ (c.map id).Nodup:=fun h2=>hnd (by simp at h2 ⊢;exact ⟨huc,h2⟩)
    obtain ⟨a,i,b,j,e,rfl,hij⟩:=not_nodup_split hnd2
    simp only[id] at hij
    subst hij
    rw[WM.app] at h
    obtain ⟨h1,h2⟩:=h
    rw[WM.app] at h1
    obtain ⟨h3,h4⟩:=h1
    cases m with
    | zero=>simp at hm
    | succ m=>
     have hp:=hn i b (hc i (by simp)) (fun x hx=>hc x (by simp[hx])) h4
     obtain ⟨c',g1,g2,g3,g4⟩:=walk_short hn m (a++i :: e) u v (by simp at hm ⊢;omega) hu (fun x hx=>hc x (by
      simp only[List.mem_append,List.mem_cons] at hx ⊢
      rcases hx with hx|hx|hx
      ·exact .inl (.inl hx)
      ·exact .inr (.inl hx)
      ·exact .inr (.inr hx))) (by rw[WM.app];exact ⟨h3,h2⟩)
     refine ⟨c',g1,g2,g3,?_⟩
     rw[wM_app] at g4
     rw[wM_app,wM_app]
     omega
theorem wM_le {W:Nat→Nat→Int}{M:Int} (hW:∀ u v,W v u≠BOT→-M≤W v u∧W v u≤M):∀ {c:List Nat}{u v:Nat},WM W u c v→-M*(c.length+1)≤wM W u c v∧wM W u c v≤M*(c.length+1)
 | [],u,v,h=>by
  have:=hW u v h
  simp only[wM,List.length_nil]
  constructor<;>simp<;>omega
 | m :: c,u,v,h=>by
  have h1:=hW u m h.1
  have h2:=wM_le hW h.2
  simp only[wM,List.length_cons,Int.natCast_add,Int.mul_add] at h2 ⊢
  have e : -M*((c.length:Int))=-(M*c.length):=Int.neg_mul _ _
  rw[e] at h2 ⊢
  simp at h2 ⊢
  omega
structure StarOk (W:Nat→Nat→Int) (n:Nat) (s:Nat→Nat→Int):Prop where
 some:∀ u v,u<n→v<n→s v u=BOT∨(u=v∧s v u=0)∨∃ c,WM W u c v∧(∀ x∈c,x<n)∧s v u=wM W u c v
 dia:∀ u,u<n→s u u≠BOT∧0≤s u u
 all:∀ u v c,u<n→v<n→(∀ x∈c,x<n)→WM W u c v→s v u≠BOT∧wM W u c v≤s v u
theorem StarOk.uniq {W:Nat→Nat→Int}{n:Nat}{s s':Nat→Nat→Int} (h:StarOk W n s) (h':StarOk W n s') {u v:Nat} (hu:u<n) (hv:v<n):s v u=s' v u:=by
 rcases h.some u v hu hv with e|⟨e1,e2⟩|⟨c,c1,c2,c3⟩
 ·rcases h'.some u v hu hv with e'|⟨e1',e2'⟩|⟨c',c1',c2',c3'⟩
  ·rw[e,e']
  ·subst e1';exact absurd e (h.dia u hu).1
  ·exact absurd e (h.all u v c' hu hv c2' c1').1
 ·subst e1
  have:=h'.dia u hu
  rcases h'.some u u hu hu with e'|⟨_,e2'⟩|⟨c',c1',c2',c3'⟩
  ·exact absurd e' this.1
  ·omega
  ·have:=h.all u u c' hu hu c2' c1';omega
 ·have h1:=h'.all u v c hu hv c2 c1
  rcases h'.some u v hu hv with e'|⟨e1',e2'⟩|⟨c',c1',c2',c3'⟩
  ·exact absurd e' h1.1
  ·subst e1';have:=(h.dia u hu).2;omega
  ·have:=h.all u v c' hu hv c2' c1';omega
def timesB (a b:Int):Int:=if a=BOT∨b=BOT then BOT else a+b
structure FW (W:Nat→Nat→Int) (n:Nat) (M:Int) (k:Nat) (s:Nat→Nat→Int):Prop where
 some:∀ u v,u<n→v<n→s v u=BOT∨(u=v∧s v u=0)∨∃ c,WM W u c v∧(∀ x∈c,x<n)∧s v u=wM W u c v
 dia:∀ u,u<n→s u u≠BOT∧0≤s u u
 all:∀ u v c,u<n→v<n→(∀ x∈c,x<k)→WM W u c v→s v u≠BOT∧wM W u c v≤s v u
 low:∀ u v,u<n→v<n→s v u≠BOT→-(M*2 ^ k)≤s v u
theorem star_hi {W:Nat→Nat→Int}{n:Nat}{M:Int} (hn:NoPos W n) (hM:0≤M) (hW:∀ u v,W v u≠BOT→-M≤W v u∧W v u≤M) {s:Nat→Nat→Int} (h:∀ u v,u<n→v<n→s v u=BOT∨(u=v∧s v u=0)∨∃ c,WM W u c v∧(∀ x∈c,x<n)∧s v u=wM W u c v) {u v:Nat} (hu:u<n) (hv:v<n):s v u≤M*n:=by
 have h0:0≤M*n:=Int.mul_nonneg hM (by omega)
 rcases h u v hu hv with e|⟨_,e⟩|⟨c,h1,h2,e⟩
 ·rw[e];simp only[BOT];omega
 ·omega
 ·obtain ⟨c',g1,g2,g3,g4⟩:=walk_short hn c.length c u v (Nat.le_refl _) hu h2 h1
  have h5:=(wM_le hW g1).2
  have h6:M*((c'.length:Int)+1)≤M*n:=Int.mul_le_mul_of_nonneg_left (by omega) hM
  omega
theorem star_dia0 {W:Nat→Nat→Int}{n:Nat} (hn:NoPos W n) {s:Nat→Nat→Int} (h:∀ u v,u<n→v<n→s v u=BOT∨(u=v∧s v u=0)∨∃ c,WM W u c v∧(∀ x∈c,x<n)∧s v u=wM W u c v) (hd:∀ u,u<n→s u u≠BOT∧0≤s u u) {k:Nat} (hk:k<n):s k k=0:=by
 have h1:=hd k hk
 rcases h k k hk hk with e|⟨_,e⟩|⟨c,h2,h3,e⟩
 ·exact absurd e h1.1
 ·exact e
 ·have:=hn k c hk h3 h2;omega
def fwS (s:Nat→Nat→Int) (k:Nat):Nat→Nat→Int:=fun i j=>max (s i j) (timesB (s i k) (s k j))
theorem timesB_ne {a b:Int} (ha:a≠BOT) (hb:b≠BOT):timesB a b=a+b:=by simp[timesB,ha,hb]
theorem zero_ne_bot:(0:Int)≠BOT:=by decide
theorem timesB_0 {a:Int}:timesB a 0=a:=by
 by_cases h:a=BOT
 ·rw[timesB,if_pos (.inl h),h]
 ·rw[timesB_ne h zero_ne_bot];omega
theorem timesB_0' {a:Int}:timesB 0 a=a:=by
 by_cases h:a=BOT
 ·rw[timesB,if_pos (.inr h),h]
 ·rw[timesB_ne zero_ne_bot h];omega
theorem FW.step {W:Nat→Nat→Int}{n k:Nat}{M:Int}{s:Nat→Nat→Int} (hn:NoPos W n) (hM:0≤M) (hMb:M*2 ^ (k+1)<1000000000000000) (hk:k<n) (h:FW W n M k s):FW W n M (k+1) (fwS s k)∧(∀ i,i<n→fwS s k i k=s i k)∧∀ j,j<n→fwS s k k j=s k j:=by
 have hkk:=star_dia0 hn h.some h.dia hk
 have hpow:M*2 ^ (k+1)=M*2 ^ k*2:=by rw[Int.pow_succ,Int.mul_assoc]
 have hp0:0≤M*2 ^ k:=Int.mul_nonneg hM (Int.pow_nonneg (by omega))
 have hge:∀ v u,s v u≤fwS s k v u:=fun v u=>by simp only[fwS];omega
 have hbot:∀ v u,u<n→v<n→BOT≤s v u:=fun v u hu hv=>by
  by_cases e:s v u=BOT
  ·omega
  ·have:=h.low u v hu hv e;simp only[BOT];omega
 have hmono:∀ v u,u<n→v<n→s v u≠BOT→fwS s k v u≠BOT:=fun v u hu hv hne=>by
  have h1:=hge v u
  have h2:=hbot v u hu hv
  omega
 refine ⟨⟨fun u v hu hv=>?_,fun u hu=>⟨hmono u u hu hu (h.dia u hu).1,by have:=hge u u;have:=(h.dia u hu).2;omega⟩,fun u v c hu hv hc hw=>?_,fun u v hu hv hne=>?_⟩,fun i hi=>?_,fun j hj=>?_⟩
 ·by_cases hb:timesB (s v k) (s k u)≤s v u
  ·have e:fwS s k v u=s v u:=by simp only[fwS];omega
   rw[e];exact h.some u v hu hv
  ·have e:fwS s k v u=timesB (s v k) (s k u):=by simp only[fwS];omega
   rw[e]
   have h1:s v k≠BOT:=fun e1=>hb (by rw[timesB,if_pos (.inl e1)];exact hbot v u hu hv)
   have h2:s k u≠BOT:=fun e1=>hb (by rw[timesB,if_pos (.inr e1)];exact hbot v u hu hv)
   rw[timesB_ne h1 h2]
   right
   rcases h.some k v hk hv with e1|⟨e1,e2⟩|⟨c2,g1,g2,g3⟩
   ·exact absurd e1 h1
   ·rw[e2,Int.zero_add,← e1]
    rcases h.some u k hu hk with e3|e3|e3
    ·exact absurd e3 h2
    ·exact .inl e3
    ·exact .inr e3
   ·rcases h.some u k hu hk with e3|⟨e3,e4⟩|⟨c1,g4,g5,g6⟩
    ·exact absurd e3 h2
    ·rw[e4,Int.add_zero,e3]
     exact .inr ⟨c2,g1,g2,g3⟩
    ·refine .inr ⟨c1++k :: c2,by rw[WM.app];exact ⟨g4,g1⟩,fun x hx=>?_,by rw[wM_app,g3,g6];omega⟩
     simp only[List.mem_append,List.mem_cons] at hx
     rcases hx with hx|hx|hx
     ·exact g5 x hx
     ·omega
     ·exact g2 x hx
 ·have key:∀ (m:Nat) (c:List Nat),c.length≤m→(∀ x∈c,x<k+1)→WM W u c v→fwS s k v u≠BOT∧wM W u c v≤fwS s k v u:=by
   intro m
   induction m with
   | zero=>
    intro c hm hc hw
    obtain rfl:c=[]:=List.length_eq_zero_iff.1 (by omega)
    have:=h.all u v [] hu hv (by simp) hw
    exact ⟨hmono v u hu hv this.1,Int.le_trans this.2 (hge v u)⟩
   | succ m ih=>
    intro c hm hc hw
    by_cases hkc:k∈c
    ·obtain ⟨a,e,he,hka⟩:=List.eq_append_cons_of_mem hkc
     subst he
     by_cases hke:k∈e
     ·obtain ⟨b,e',rfl⟩:=List.append_of_mem hke
      rw[WM.app,WM.app] at hw
      have hp:=hn k b hk (fun x hx=>by have:=hc x (by simp[hx]);omega) hw.2.1
      have:=ih (a++k :: e') (by simp at hm ⊢;omega) (fun x hx=>hc x (by
       simp only[List.mem_append,List.mem_cons] at hx ⊢
       rcases hx with hx|hx|hx
       ·exact .inl hx
       ·exact .inr (.inl hx)
       ·exact .inr (.inr (.inr (.inr hx))))) (by rw[WM.app];exact ⟨hw.1,hw.2.2⟩)
      refine ⟨this.1,?_⟩
      rw[wM_app,wM_app]
      have h2:=this.2
      rw[wM_app] at h2
      omega
     ·rw[WM.app] at hw
      have hlt:∀ x,x<k+1→x≠k→x<k:=fun x h1 h2=>by omega
      have h1:=h.all u k a hu hk (fun x hx=>hlt x (hc x (by simp[hx])) (fun e2=>hka (e2▸hx))) hw.1
      have h2:=h.all k v e hk hv (fun x hx=>hlt x (hc x (by simp[hx])) (fun e2=>hke (e2▸hx))) hw.2
      have h3:timesB (s v k) (s k u)≤fwS s k v u:=by simp only[fwS];omega
      rw[timesB_ne h2.1 h1.1] at h3
      have h4:=h.low u k hu hk h1.1
      have h5:=h.low k v hk hv h2.1
      rw[wM_app]
      refine ⟨fun e2=>?_,by omega⟩
      simp only[BOT] at e2
      omega
    ·have:=h.all u v c hu hv (fun x hx=>by have:=hc x hx;have:x≠k:=fun e2=>hkc (e2▸hx);omega) hw
     exact ⟨hmono v u hu hv this.1,Int.le_trans this.2 (hge v u)⟩
  exact key c.length c (Nat.le_refl _) hc hw
 ·rw[hpow]
  by_cases hb:timesB (s v k) (s k u)≤s v u
  ·have e:fwS s k v u=s v u:=by simp only[fwS];omega
   rw[e] at hne ⊢
   have:=h.low u v hu hv hne
   omega
  ·have e:fwS s k v u=timesB (s v k) (s k u):=by simp only[fwS];omega
   rw[e] at hne ⊢
   have h1:s v k≠BOT:=fun e1=>hne (by rw[timesB,if_pos (.inl e1)])
   have h2:s k u≠BOT:=fun e1=>hne (by rw[timesB,if_pos (.inr e1)])
   rw[timesB_ne h1 h2]
   have h3:=h.low k v hk hv h1
   have h4:=h.low u k hu hk h2
   omega
 ·simp only[fwS,hkk,timesB_0];omega
 ·simp only[fwS,hkk,timesB_0'];omega
theorem FW.start {W:Nat→Nat→Int}{n:Nat}{M:Int} (hM:0≤M) (hMb:M<1000000000000000) (hW:∀ u v,W v u≠BOT→-M≤W v u∧W v u≤M):FW W n M 0 (fun i j=>max (W i j) (if i=j then 0 else BOT)):=by
 have hWb:∀ u v,BOT≤W v u:=fun u v=>by
  by_cases e:W v u=BOT
  ·omega
  ·have:=(hW u v e).1;simp only[BOT];omega
 refine ⟨fun u v hu hv=>?_,fun u hu=>?_,fun u v c hu hv hc hw=>?_,fun u v hu hv hne=>?_⟩
 ·have h1:=hWb u v
  by_cases e:v=u
  ·subst e
   simp only[if_true]
   by_cases h2:W v v≤0
   ·right;left;exact ⟨by trivial,by omega⟩
   ·right;right;exact ⟨[],by simp only[WM,BOT];omega,by simp,by simp only[wM];omega⟩
  ·simp only[if_neg e]
   by_cases h2:W v u=BOT
   ·left;omega
   ·right;right;exact ⟨[],h2,by simp,by simp only[wM];omega⟩
 ·simp only[if_true,BOT];constructor<;>omega
 ·obtain rfl:c=[]:=by cases c with
   | nil=>rfl
   | cons x c=>exact absurd (hc x (by simp)) (by omega)
  have h1:W v u≠BOT:=hw
  have h2:=hWb u v
  simp only[wM]
  constructor
  ·intro e;apply h1;split at e<;>omega
  ·omega
 ·by_cases h2:W v u=BOT
  ·rw[h2] at hne ⊢
   by_cases e:v=u
   ·rw[if_pos e];simp only[BOT,Int.pow_zero,Int.mul_one];omega
   ·rw[if_neg e] at hne;exact absurd (by omega) hne
  ·have:=(hW u v h2).1
   simp only[Int.pow_zero,Int.mul_one]
   omega
theorem FW.star {W:Nat→Nat→Int}{n:Nat}{M:Int}{s:Nat→Nat→Int} (h:FW W n M n s):StarOk W n s:=⟨h.some,h.dia,h.all⟩
def unitF (i j:Nat):Int:=if i=j then 0 else BOT
def maxN (f:Nat→Int):Nat→Int
 | 0=>BOT
 | k+1=>max (maxN f k) (f k)
theorem maxN_ge {f:Nat→Int}:∀ {n k:Nat},k<n→f k≤maxN f n
 | 0,k,h=>by omega
 | n+1,k,h=>by
  simp only[maxN]
  by_cases e:k=n
  ·subst e;omega
  ·have:=maxN_ge (f:=f) (show k<n by omega);omega
theorem maxN_at {f:Nat→Int}:∀ {n:Nat},maxN f n=BOT∨∃ k,k<n∧maxN f n=f k
 | 0=>.inl rfl
 | n+1=>by
  simp only[maxN]
  rcases maxN_at (f:=f) (n:=n) with e|⟨k,hk,e⟩
  ·by_cases h:f n≤maxN f n
   ·left;omega
   ·right;exact ⟨n,by omega,by omega⟩
  ·by_cases h:f n≤maxN f n
   ·right;exact ⟨k,by omega,by omega⟩
   ·right;exact ⟨n,by omega,by omega⟩
def powS (W:Nat→Nat→Int) (n:Nat) (s:Nat→Nat→Int):Nat→Nat→Int:=fun i j=>max (unitF i j) (maxN (fun k=>timesB (W i k) (s k j)) n)
def powN (W:Nat→Nat→Int) (n:Nat):Nat→Nat→Nat→Int
 | 0=>unitF
 | m+1=>powS W n (powN W n m)
structure PX (W:Nat→Nat→Int) (n:Nat) (M:Int) (m:Nat) (s:Nat→Nat→Int):Prop where
 some:∀ u v,u<n→v<n→s v u=BOT∨(u=v∧s v u=0)∨∃ c,WM W u c v∧(∀ x∈c,x<n)∧s v u=wM W u c v
 dia:∀ u,u<n→s u u≠BOT∧0≤s u u
 all:∀ u v c,u<n→v<n→c.length+1≤m→(∀ x∈c,x<n)→WM W u c v→s v u≠BOT∧wM W u c v≤s v u
 bnd:∀ u v,u<n→v<n→s v u≠BOT→-(M*m)≤s v u∧s v u≤M*m
theorem PX.start {W:Nat→Nat→Int}{n:Nat}{M:Int}:PX W n M 0 unitF:=by
 refine ⟨fun u v hu hv=>?_,fun u hu=>⟨by simp only[unitF,if_true];exact zero_ne_bot,by simp[unitF]⟩,fun u v c hu hv hc=>by omega,fun u v hu hv hne=>?_⟩
 ·unfold unitF
  by_cases e:v=u
  ·subst e;exact .inr (.inl ⟨rfl,by simp⟩)
  ·exact .inl (by simp[e])
 ·unfold unitF at hne ⊢
  split at hne<;>simp_all
theorem WM.lastArc {W:Nat→Nat→Int}:∀ {c:List Nat}{u v:Nat},WM W u c v→(c=[]∧W v u≠BOT)∨∃ c' k,c=c'++[k]∧WM W u c' k∧W v k≠BOT∧wM W u c v=wM W u c' k+W v k
 | [],u,v,h=>.inl ⟨rfl,h⟩
 | m :: c,u,v,h=>by
  right
  rcases h.2.lastArc with ⟨e,h1⟩|⟨c',k,e,h1,h2,h3⟩
  ·subst e;exact ⟨[],m,rfl,h.1,h1,by simp[wM]⟩
  ·subst e
   refine ⟨m :: c',k,rfl,⟨h.1,h1⟩,h2,?_⟩
   simp only[List.cons_append,wM] at h3 ⊢
   omega
theorem PX.step {W:Nat→Nat→Int}{n m:Nat}{M:Int}{s:Nat→Nat→Int} (hM:0≤M) (hMb:M*(m+1)<1000000000000000) (hW:∀ u v,W v u≠BOT→-M≤W v u∧W v u≤M) (h:PX W n M m s):PX W n M (m+1) (powS W n s):=by
 have e1:M*((m:Int)+1)=M*m+M:=by rw[Int.mul_add,Int.mul_one]
 have hm0:0≤M*(m:Int):=Int.mul_nonneg hM (by omega)
 have hub:∀ i j,BOT≤unitF i j:=fun i j=>by unfold unitF;split<;>simp only[BOT]<;>omega
 refine ⟨fun u v hu hv=>?_,fun u hu=>?_,fun u v c hu hv hl hc hw=>?_,fun u v hu hv hne=>?_⟩
 ·unfold powS
  by_cases hb:maxN (fun k=>timesB (W v k) (s k u)) n≤unitF v u
  ·have e:max (unitF v u) (maxN (fun k=>timesB (W v k) (s k u)) n)=unitF v u:=by omega
   rw[e]
   unfold unitF
   by_cases e2:v=u
   ·subst e2;exact .inr (.inl ⟨rfl,by simp⟩)
   ·exact .inl (by simp[e2])
  ·have e:max (unitF v u) (maxN (fun k=>timesB (W v k) (s k u)) n)=maxN (fun k=>timesB (W v k) (s k u)) n:=by omega
   rw[e]
   rcases maxN_at (f:=fun k=>timesB (W v k) (s k u)) (n:=n) with e2|⟨k,hk,e2⟩
   ·exact .inl e2
   ·rw[e2]
    by_cases h1:W v k=BOT
    ·left;simp[timesB,h1]
    ·by_cases h2:s k u=BOT
     ·left;simp[timesB,h2]
     ·simp only[timesB_ne h1 h2]
      right;right
      rcases h.some u k hu hk with e3|⟨e3,e4⟩|⟨c,g1,g2,g3⟩
      ·exact absurd e3 h2
      ·subst e3;exact ⟨[],h1,by simp,by simp[wM,e4]⟩
      ·refine ⟨c++[k],by rw[WM.app];exact ⟨g1,h1⟩,fun x hx=>?_,by rw[wM_app,g3];simp[wM];omega⟩
       simp only[List.mem_append,List.mem_singleton] at hx
       rcases hx with hx|hx
       ·exact g2 x hx
       ·omega
 ·unfold powS unitF;simp only[if_true,BOT];constructor<;>omega
 ·rcases hw.lastArc with ⟨e,h1⟩|⟨c',k,e,h1,h2,h3⟩
  ·subst e
   have h4:=maxN_ge (f:=fun k=>timesB (W v k) (s k u)) hu
   have h5:=h.dia u hu
   simp only[timesB_ne h1 h5.1] at h4
   have h6:=hW u v h1
   unfold powS
   simp only[wM]
   refine ⟨fun e=>?_,by omega⟩
   simp only[BOT] at e;omega
  ·subst e
   have hk:k<n:=hc k (by simp)
   have h5:=h.all u k c' hu hk (by simp at hl;omega) (fun x hx=>hc x (by simp[hx])) h1
   have h4:=maxN_ge (f:=fun k=>timesB (W v k) (s k u)) hk
   simp only[timesB_ne h2 h5.1] at h4
   have h6:=hW k v h2
   have h7:=h.bnd u k hu hk h5.1
   unfold powS
   rw[h3]
   refine ⟨fun e=>?_,by omega⟩
   simp only[BOT] at e;omega
 ·unfold powS at hne ⊢
  simp only[Int.natCast_add,Int.natCast_one,e1]
  by_cases hb:maxN (fun k=>timesB (W v k) (s k u)) n≤unitF v u
  ·have e:max (unitF v u) (maxN (fun k=>timesB (W v k) (s k u)) n)=unitF v u:=by omega
   rw[e] at hne ⊢
   unfold unitF at hne ⊢
   split at hne
   ·rename_i e2;rw[if_pos e2];omega
   ·exact absurd rfl hne
  ·have e:max (unitF v u) (maxN (fun k=>timesB (W v k) (s k u)) n)=maxN (fun k=>timesB (W v k) (s k u)) n:=by omega
   rw[e] at hne ⊢
   rcases maxN_at (f:=fun k=>timesB (W v k) (s k u)) (n:=n) with e2|⟨k,hk,e2⟩
   ·exact absurd e2 hne
   ·rw[e2] at hne ⊢
    by_cases h1:W v k=BOT
    ·exact absurd (by simp[timesB,h1]) hne
    ·by_cases h2:s k u=BOT
     ·exact absurd (by simp[timesB,h2]) hne
     ·simp only[timesB_ne h1 h2]
      have h6:=hW k v h1
      have h7:=h.bnd u k hu hk h2
      omega
theorem PX.star {W:Nat→Nat→Int}{n m:Nat}{M:Int}{s:Nat→Nat→Int} (hn:NoPos W n) (hm:n≤m) (h:PX W n M m s):StarOk W n s:=by
 refine ⟨h.some,h.dia,fun u v c hu hv hc hw=>?_⟩
 obtain ⟨c',g1,g2,g3,g4⟩:=walk_short hn c.length c u v (Nat.le_refl _) hu hc hw
 have:=h.all u v c' hu hv (by omega) g3 g1
 exact ⟨this.1,by omega⟩
theorem powN_px {W:Nat→Nat→Int}{n:Nat}{M:Int} (hM:0≤M) (hW:∀ u v,W v u≠BOT→-M≤W v u∧W v u≤M):∀ m:Nat,M*(m+1)<1000000000000000→PX W n M m (powN W n m)
 | 0,_=>PX.start
 | m+1,h=>by
  have e1:M*(((m+1:Nat):Int)+1)=M*((m:Int)+1)+M:=by rw[Int.natCast_add,Int.mul_add];simp
  exact PX.step hM (by omega) hW (powN_px hM hW m (by omega))
noncomputable def starF (W:Nat→Nat→Int) (n:Nat):Nat→Nat→Int:=open Classical in if h:∃ s,StarOk W n s then Classical.choose h else fun _ _=>0
theorem starF_eq {W:Nat→Nat→Int}{n:Nat}{s:Nat→Nat→Int} (h:StarOk W n s) {u v:Nat} (hu:u<n) (hv:v<n):starF W n v u=s v u:=by
 have he:∃ s,StarOk W n s:=⟨s,h⟩
 unfold starF
 rw[dif_pos he]
 exact (Classical.choose_spec he).uniq h hu hv
end
section
open Go Go.RowKit
attribute [local irreducible] AL AD AW OpOk Le AC thenQ blockQ EndQ
theorem set_at [Mode] {rows:List (List AV)}{i:Nat}{x:List AV} (h:i<rows.length):(rows.set i x)[0+((i:Nat):Int).toNat]? = some x:=by simp[h]
def zz:Nat→Nat→Int:=fun _ _=>0
theorem zz_snoc [Mode] {f:Nat→Nat→Int}{i n:Nat}:TR (tabF (i+1) n (mixF f zz i 0))=TR (tabF i n (mixF f zz i 0))++[List.replicate n [DI 0]]:=by
 have h:IR (rowF n (mixF f zz i 0 i))=List.replicate n [DI 0]:=by
  have e:rowF n (mixF f zz i 0 i)=List.replicate n 0:=by
   apply List.ext_getElem?
   intro j
   by_cases hj:j<n
   ·rw[rowF_get hj,List.getElem?_replicate,if_pos hj];simp[mixF,zz]
   ·rw[List.getElem?_eq_none (by rw[rowF_len];omega),List.getElem?_eq_none (by simp;omega)]
  rw[e];simp
 rw[← h]
 simp[tabF,List.range_succ]
theorem unitFn_ac [Mode] (i j:Nat):AC Tryz.prog 168 [I i,I j] H0 (I (unitF i j)) H0:=by
 unfold unitF
 by_cases h:i=j
 ·rw[if_pos h]
  subst h
  refine AC.of_body 0 Tryz.func168 rfl (fun l h=>absurd rfl h) (fun C hC=>?_)
  have hD:∀ l,¬ C.D0 l:=fun l h=>(hC l).1 h rfl
  simp only[startFr,Tryz.ntmps168,List.length_cons,List.length_nil,Nat.reduceAdd,Nat.reduceSub,List.replicate_succ,List.replicate_zero,List.cons_append,List.nil_append]
  repeat' (first|((first|apply Ba|(apply Bb;(· rfl);(· rfl))|(apply Bc;(· exact nxE))|(apply Bd;(· rfl);(· rfl);(· exact nxE)));(· first|exact Ok.pe))|((first|apply Ca|(apply Cb;(· exact nxE)));(· first|exact Ok.e0))|refine Sx ?_|(refine Sy (fun h=>?_) (fun h=>?_)<;>try (exfalso;omega;done))|refine Sz (fun h=>?_) (fun h=>?_))
  refine Ya ?_
  (apply Le.headZ (hs:=[]) [] rfl)
  all_goals (try dsimp only[srcs])
  (case' hfr=>(repeat' (first|refine La ?_ ?_|exact Lc|refine Lo ?_|refine ⟨⟨_,rfl,?_⟩,?_⟩|refine Lx ?_)))
  all_goals (first|exact Ld|exact trivial|(rfl))
 ·rw[if_neg h]
  refine AC.of_body 0 Tryz.func168 rfl (fun l h=>absurd rfl h) (fun C hC=>?_)
  have hD:∀ l,¬ C.D0 l:=fun l h=>(hC l).1 h rfl
  simp only[startFr,Tryz.ntmps168,List.length_cons,List.length_nil,Nat.reduceAdd,Nat.reduceSub,List.replicate_succ,List.replicate_zero,List.cons_append,List.nil_append]
  repeat' (first|((first|apply Ba|(apply Bb;(· rfl);(· rfl))|(apply Bc;(· exact nxE))|(apply Bd;(· rfl);(· rfl);(· exact nxE)));(· first|exact Ok.pe))|((first|apply Ca|(apply Cb;(· exact nxE)));(· first|exact Ok.e0))|refine Sx ?_|(refine Sy (fun h=>?_) (fun h=>?_)<;>try (exfalso;omega;done))|refine Sz (fun h=>?_) (fun h=>?_))
  refine Ya ?_
  (apply Le.headZ (hs:=[]) [] rfl)
  all_goals (try dsimp only[srcs])
  (case' hfr=>(repeat' (first|refine La ?_ ?_|exact Lc|refine Lo ?_|refine ⟨⟨_,rfl,?_⟩,?_⟩|refine Lx ?_)))
  all_goals (first|exact Ld|exact trivial|(rfl))
set_option maxHeartbeats 2000000 in
theorem mbyUnit_ac [Mode] (m n:Nat)  (hm:m≤1000) (hn:n≤1000):AC Tryz.prog 153 [I m,I n,.clo (.func 168) [] []] H0 (.own 1 ⟨0,[]⟩ 0 m) (heapX [] [mi1 ⟨0,[]⟩ (TR (tabF m n unitF))]):=by
 refine AC.of_body 0 Tryz.func153 rfl (fun l h=>absurd rfl h) (fun C hC=>?_)
 have hD:∀ l,¬ C.D0 l:=fun l h=>(hC l).1 h rfl
 simp only[startFr,Tryz.ntmps153,List.length_cons,List.length_nil,Nat.reduceAdd,Nat.reduceSub,List.replicate_succ,List.replicate_zero,List.cons_append,List.nil_append]
 repeat' (first|((first|apply Ba|(apply Bb;(· rfl);(· rfl))|(apply Bc;(· exact nxE))|(apply Bd;(· rfl);(· rfl);(· exact nxE)));(· first|exact Ok.pe))|((first|apply Ca|(apply Cb;(· exact nxE)));(· first|exact Ok.e0))|refine Sx ?_|(refine Sy (fun h=>?_) (fun h=>?_)<;>try (exfalso;omega;done))|refine Sz (fun h=>?_) (fun h=>?_))
 refine AW.loop (X:={k:Nat // k≤m}) (fun k=>⟨[Oo,I n,.clo (.func 168) [] [],Oo,Oo,Oo,Oo,.own 1 ⟨0,[]⟩ 0 m,Oo,Oo,Oo,Oo,Oo,I m,I (k.1:Nat),Oo,Oo,Oo,Oo,Oo,Oo,Oo,Oo,Oo,Oo,Oo,Oo,Oo,Oo,Oo,Oo,Oo,Oo,Oo,Oo,Oo,Oo,Oo,Oo,Oo,Oo,Oo,Oo],heapX [] [{ l:=⟨0,[]⟩,k:=1,R:=TR (tabF k.1 n (mixF unitF zz k.1 0)),nils:=m - k.1,src:=⟨0,[]⟩,base:=⟨0,[]⟩ }],900⟩) (fun k=>m - k.1) ⟨0,Nat.zero_le _⟩ ?_ (fun k=>?_)
 ·
  (apply Le.headG [] [{ l:=⟨0,[]⟩,k:=1,R:=[],nils:=m,src:=⟨2,[]⟩,base:=⟨2,[]⟩ }] (fun _=>False))
  (case' hlen=>rfl)
  (case' hms=>rfl)
  all_goals (try dsimp only[srcs])
  (case' hfr|hob=>(repeat' (first|refine La ?_ ?_|exact Lc|refine Lo ?_|refine ⟨⟨_,rfl,?_⟩,?_⟩|refine Lx ?_)))
  (case' hok=>first|exact ⟨MI.ok_make rfl,trivial⟩|exact trivial)
  (case' hN=>rfl)
  (case' hS=>rfl)
  all_goals (first|exact Ld|(rfl))
 obtain ⟨i,hi⟩:=k
 simp only
 by_cases hlt:i<m
 ·
  have hti:(TR (tabF i n (mixF unitF zz i 0))).length=i:=by rw[TR_len,tabF_len]
  rw[show m - i=(m - (i+1))+1 by omega]
  repeat' (first|((first|apply Ba|(apply Bb;(· rfl);(· rfl))|(apply Bc;(· exact nxE))|(apply Bd;(· rfl);(· rfl);(· exact nxE)));(· first|exact OpOk.loadCell rfl rfl rfl rfl (set_at (by simp only[outer_len];rw[hti];omega)) rfl|exact Ok.stT rfl rfl rfl (by dsimp only;rw[hti];omega) rfl|exact Ok.pe))|((first|apply Ca|(apply Cb;(· exact nxE)));(· first|exact Ok.stT rfl rfl rfl (by dsimp only;rw[hti];omega) rfl|exact Ok.e0))|refine Sx ?_|(refine Sy (fun h=>?_) (fun h=>?_)<;>try (exfalso;omega;done))|refine Sz (fun h=>?_) (fun h=>?_))
  refine AW.loop (X:={k:Nat // k≤n}) (fun k=>⟨[Oo,I n,.clo (.func 168) [] [],Oo,Oo,Oo,Oo,.own 1 ⟨0,[]⟩ 0 m,I i,Oo,Oo,Oo,Oo,I m,I i,Oo,Oo,Oo,Oo,Oo,Oo,Oo,Oo,Oo,Oo,Oo,I n,I (k.1:Nat),Oo,Oo,Oo,Oo,Oo,Oo,Oo,Oo,Oo,Oo,Oo,Oo,Oo,Oo,Oo],heapX [] [{ l:=⟨0,[]⟩,k:=1,R:=TR (tabF (i+1) n (mixF unitF zz i k.1)),nils:=m - (i+1),src:=⟨0,[]⟩,base:=⟨0,[]⟩ }],900⟩) (fun k=>n - k.1) ⟨0,Nat.zero_le _⟩ ?_ (fun k=>?_)
  ·
   (apply Le.headG [] [{ l:=⟨0,[]⟩,k:=1,R:=TR (tabF (i+1) n (mixF unitF zz i 0)),nils:=m - (i+1),src:=⟨0,[]⟩,base:=⟨0,[]⟩,cut:=i,ext:=some ⟨906,[]⟩ }] (fun _=>False))
   (case' hlen=>rfl)
   (case' hms=>rfl)
   all_goals (try dsimp only[srcs])
   (case' hfr|hob=>(repeat' (first|refine La ?_ ?_|exact Lc|refine Lo ?_|refine ⟨⟨_,rfl,?_⟩,?_⟩|refine Lx ?_)))
   (case' hok=>first|exact ⟨MI.ok_fill (r:=List.replicate n [DI 0]) zz_snoc hti (by simp) rfl (Cg) rfl,trivial⟩|exact trivial)
   (case' hN=>rfl)
   (case' hS=>rfl)
   all_goals (first|exact Ld|((first|(simp[AllP,TR_len,tabF_len];done)|(simp[AllP,TR_len,tabF_len];omega))))
  obtain ⟨j,hj⟩:=k
  simp only
  by_cases hlt2:j<n
  ·
   have hrw:=TRF_get (n:=n) (f:=(mixF unitF zz i j)) (show i<i+1 by omega)
   have hlr:(IR (rowF n ((mixF unitF zz i j) i))).length=n:=by rw[IR_len,rowF_len]
   repeat' (first|((first|apply Ba|(apply Bb;(· rfl);(· rfl))|(apply Bc;(· exact nxE))|(apply Bd;(· rfl);(· rfl);(· exact nxE)));(· first|exact Ok.ldTn rfl rfl rfl hrw hlr|exact Kz rfl rfl (unitFn_ac i j) (Ad (Ad An))|exact Ok.st1 rfl rfl (congrArg (Option.map (dobj 1)) hrw) (by simp[rowF_len];omega) (by rw[IRF_get hlt2];rfl) rfl rfl IR_set|exact Ok.pe))|((first|apply Ca|(apply Cb;(· exact nxE)));(· first|exact Ok.st1 rfl rfl (congrArg (Option.map (dobj 1)) hrw) (by simp[rowF_len];omega) (by rw[IRF_get hlt2];rfl) rfl rfl IR_set|exact Ok.e0))|refine Sx ?_|(refine Sy (fun h=>?_) (fun h=>?_)<;>try (exfalso;omega;done))|refine Sz (fun h=>?_) (fun h=>?_))
   refine ⟨⟨j+1,by omega⟩,?_,by simp only;omega⟩
   (apply Le.headG [] [{ l:=⟨0,[]⟩,k:=1,R:=TR (tabF (i+1) n (mixF unitF zz i (j+1))),nils:=m - (i+1),src:=⟨0,[]⟩,base:=⟨0,[]⟩ }] (fun _=>False))
   (case' hlen=>rfl)
   (case' hms=>rfl)
   all_goals (try dsimp only[srcs])
   (case' hfr|hob=>(repeat' (first|refine La ?_ ?_|exact Lc|refine Lo ?_|refine ⟨⟨_,rfl,?_⟩,?_⟩|refine Lx ?_)))
   (case' hok=>first|exact ⟨MI.ok_row (tabF_set (fun a b _ _=>mixF_set)) hrw (by simp) rfl (Cg),trivial⟩|exact trivial)
   (case' hN=>rfl)
   (case' hS=>rfl)
   all_goals (first|exact Ld|(rfl))
  ·
   have hjn:j=n:=by omega
   subst hjn
   rw[mixF_row]
   repeat' (first|((first|apply Ba|(apply Bb;(· rfl);(· rfl))|(apply Bc;(· exact nxE))|(apply Bd;(· rfl);(· rfl);(· exact nxE)));(· first|exact Ok.pe))|((first|apply Ca|(apply Cb;(· exact nxE)));(· first|exact Ok.e0))|refine Sx ?_|(refine Sy (fun h=>?_) (fun h=>?_)<;>try (exfalso;omega;done))|refine Sz (fun h=>?_) (fun h=>?_))
   refine ⟨⟨i+1,by omega⟩,?_,by simp only;omega⟩
   (apply Le.headG [] [{ l:=⟨0,[]⟩,k:=1,R:=TR (tabF (i+1) j (mixF unitF zz (i+1) 0)),nils:=m - (i+1),src:=⟨0,[]⟩,base:=⟨0,[]⟩ }] (fun _=>False))
   (case' hlen=>rfl)
   (case' hms=>rfl)
   all_goals (try dsimp only[srcs])
   (case' hfr|hob=>(repeat' (first|refine La ?_ ?_|exact Lc|refine Lo ?_|refine ⟨⟨_,rfl,?_⟩,?_⟩|refine Lx ?_)))
   (case' hok=>first|exact ⟨MI.ok_same rfl (Cg),trivial⟩|exact trivial)
   (case' hN=>rfl)
   (case' hS=>rfl)
   all_goals (first|exact Ld|(rfl))
 ·
  have him:i=m:=by omega
  subst him
  rw[Nat.sub_self,mixF_all]
  repeat' (first|((first|apply Ba|(apply Bb;(· rfl);(· rfl))|(apply Bc;(· exact nxE))|(apply Bd;(· rfl);(· rfl);(· exact nxE)));(· first|exact Ok.pe))|((first|apply Ca|(apply Cb;(· exact nxE)));(· first|exact Ok.e0))|refine Sx ?_|(refine Sy (fun h=>?_) (fun h=>?_)<;>try (exfalso;omega;done))|refine Sz (fun h=>?_) (fun h=>?_))
  refine Ya ?_
  (apply Le.headG [] [mi1 ⟨0,[]⟩ (TR (tabF i n unitF))] (fun _=>False))
  (case' hlen=>rfl)
  (case' hms=>rfl)
  all_goals (try dsimp only[srcs])
  (case' hfr|hob=>(repeat' (first|refine La ?_ ?_|exact Lc|refine Lo ?_|refine ⟨⟨_,rfl,?_⟩,?_⟩|refine Lx ?_)))
  (case' hok=>first|exact ⟨MI.ok_same rfl (Cg),trivial⟩|exact trivial)
  (case' hN=>rfl)
  (case' hS=>rfl)
  all_goals (first|exact Ld|(rfl))
theorem Cc [Mode] {H:Heap}{lent:List Loc}{cs vs:List AV}{fn:Fn} (h:CA H lent cs vs):CA H lent (.clo fn [] [] :: cs) (.clo fn [] [] :: vs):=ARs.cons (AR.clo' ARs.nil ARs.nil) h
theorem unitMatrix_ac [Mode] (n:Nat) (hn:n≤1000):AC Tryz.prog 134 [I n] H0 (own1 1 n) (hpM 1 (TR (tabF n n unitF))):=by
 refine AC.of_body 0 Tryz.func134 rfl (fun l h=>absurd rfl h) (fun C hC=>?_)
 have hD:∀ l,¬ C.D0 l:=fun l h=>(hC l).1 h rfl
 simp only[startFr,Tryz.ntmps134,List.length_cons,List.length_nil,Nat.reduceAdd,Nat.reduceSub,List.replicate_succ,List.replicate_zero,List.cons_append,List.nil_append]
 repeat' (first|((first|apply Ba|(apply Bb;(· rfl);(· rfl))|(apply Bc;(· exact nxE))|(apply Bd;(· rfl);(· rfl);(· exact nxE)));(· first|exact Tb rfl rfl (mbyUnit_ac n n hn hn) (Sd (Sd (Cc Sn)))|exact Ok.pe))|((first|apply Ca|(apply Cb;(· exact nxE)));(· first|exact Tb rfl rfl (mbyUnit_ac n n hn hn) (Sd (Sd (Cc Sn)))|exact Ok.e0))|refine Sx ?_|(refine Sy (fun h=>?_) (fun h=>?_)<;>try (exfalso;omega;done))|refine Sz (fun h=>?_) (fun h=>?_))
 refine Ya ?_
 (apply Le.headG [] [{ l:=⟨0,[]⟩,k:=1,R:=TR (tabF n n unitF),src:=⟨3,[0]⟩,base:=⟨3,[0]⟩ }] (fun _=>False))
 (case' hlen=>rfl)
 (case' hms=>rfl)
 all_goals (try dsimp only[srcs])
 (case' hfr|hob=>(repeat' (first|refine La ?_ ?_|exact Lc|refine Lo ?_|refine ⟨⟨_,rfl,?_⟩,?_⟩|refine Lx ?_)))
 (case' hok=>first|exact ⟨MI.ok_same rfl (Cg),trivial⟩|exact trivial)
 (case' hN=>rfl)
 (case' hS=>rfl)
 all_goals (first|exact Ld|(rfl))
abbrev hs2 (x y:D):HL:=[(⟨0,[]⟩,⟨0,[]⟩,⟨1,[[.d x]]⟩),(⟨1,[]⟩,⟨1,[]⟩,⟨1,[[.d y]]⟩)]
theorem hs2_ok [Mode] {x y:D}:HOk (hs2 x y):=by
 intro p hp r hr c hc
 simp only[List.mem_cons,List.not_mem_nil,or_false] at hp
 rcases hp with rfl|rfl<;>(simp at hr;subst hr;simp at hc;subst hc;exact .d _)
abbrev addF (a b:List (List Int)):Nat→Nat→Int:=fun i j=>max (entN a i j) (entN b i j)
theorem addFn_ac [Mode] (a b:List (List Int)) (m n:Nat) (ha:Rc a m n) (hb:Rc b m n) (i j:Nat) (hi:i<m) (hj:j<n):AC Tryz.prog 167 [I i,I j,Bx 1 0,Bx 1 1] (heapL (hs2 (TD a) (TD b))) (I (addF a b i j)) (heapL (hs2 (TD a) (TD b))):=by
 have hal:=ha.l
 have hbl:=hb.l
 obtain ⟨R,hR1,hR2,hR3⟩:=ha.get hi hj
 obtain ⟨S,hS1,hS2,hS3⟩:=hb.get hi hj
 have hRr:=TR_get hR1
 have hRf:=IR_get hR2
 have hRl:(IR R).length=n:=by rw[IR_len,hR3]
 have hSr:=TR_get hS1
 have hSf:=IR_get hS2
 have hSl:(IR S).length=n:=by rw[IR_len,hS3]
 refine AC.of_body 2 Tryz.func167 rfl (fun l h=>by simp[heapL,upd] at h;(repeat' split at h)<;>simp_all) (fun C hC=>?_)
 simp only[startFr,Tryz.ntmps167,List.length_cons,List.length_nil,Nat.reduceAdd,Nat.reduceSub,List.replicate_succ,List.replicate_zero,List.cons_append,List.nil_append]
 have hD:∀ l,C.D0 l→l=⟨0,[]⟩∨l=⟨1,[]⟩:=fun l h=>by have:=(hC l).1 h;simp[heapL,upd] at this;(repeat' split at this)<;>simp_all
 repeat' (first|((first|apply Ba|(apply Bb;(· rfl);(· rfl))|(apply Bc;(· exact nxE))|(apply Bd;(· rfl);(· rfl);(· exact nxE)));(· first|exact Ok.pe))|((first|apply Ca|(apply Cb;(· exact nxE)));(· first|exact Ok.e0))|refine Sx ?_|(refine Sy (fun h=>?_) (fun h=>?_)<;>try (exfalso;omega;done))|refine Sz (fun h=>?_) (fun h=>?_))
 (refine end1p (by first|exact .inl rfl|exact .inr rfl) rfl (by first|exact rT rfl|exact rCA rfl rfl rfl rfl (by simp)|exact rCC rfl rfl rfl rfl rfl) ?_ (Le.head ([(⟨0,[]⟩,⟨0,[]⟩,⟨1,[[TL a]]⟩),(⟨1,[]⟩,⟨1,[]⟩,⟨1,[[TL b]]⟩)]) (by first|exact fun l h=>absurd h (hD l)|(intro l h;rcases hD l h with rfl;simp[tauL])|(intro l h;rcases hD l h with rfl|rfl<;>simp[tauL];done)|(intro l h;rcases hD l h with rfl|rfl|rfl<;>simp[tauL])) ?_ ?_ (by simp) (by simp) (by simp[AllP]) (n':=1000));(· rfl))<;>(repeat' (first|exact trivial|exact ARs.nil|refine ARs.cons ?_ ?_|exact AR.dead _|exact AR.dd _|exact AR.i (by (try dsimp only);omega)|exact AR.ptr _ _ _ _ (by simp[heapL,upd])|exact AR.own _ _ _ _ (by simp[heapL,upd])|refine AR.ownE _ _ _ ?_ (by simp[heapL,upd])|refine ⟨⟨_,rfl,?_⟩,?_⟩|exact ObA.data|refine ObA.box ?_|refine ObA.frE ?_|refine ObA.dataE ?_|refine ARs.agg ?_|refine ARs.tup ?_|exact AR.clo' ARs.nil ARs.nil|exact AR.clo' ARs.nil (hca _ _)))
set_option maxHeartbeats 2000000 in
theorem mbyAdd_ac [Mode] (m n:Nat) (a b:List (List Int)) (ha:Rc a m n) (hb:Rc b m n) (hm:m≤1000) (hn:n≤1000):AC Tryz.prog 153 [I m,I n,.clo (.func 167) [] [Bx 1 0,Bx 1 1]] (heapL [(⟨0,[]⟩,⟨0,[]⟩,⟨1,[[TL a]]⟩),(⟨1,[]⟩,⟨1,[]⟩,⟨1,[[TL b]]⟩)]) (.own 1 ⟨2,[]⟩ 0 m) (heapX [(⟨0,[]⟩,⟨0,[]⟩,⟨1,[[TL a]]⟩),(⟨1,[]⟩,⟨1,[]⟩,⟨1,[[TL b]]⟩)] [mi1 ⟨2,[]⟩ (TR (tabF m n (addF a b)))]):=by
 refine AC.of_body 2 Tryz.func153 rfl (fun l h=>by simp[heapL,upd] at h;(repeat' split at h)<;>simp_all) (fun C hC=>?_)
 simp only[startFr,Tryz.ntmps153,List.length_cons,List.length_nil,Nat.reduceAdd,Nat.reduceSub,List.replicate_succ,List.replicate_zero,List.cons_append,List.nil_append]
 have hD:∀ l,C.D0 l→l=⟨0,[]⟩∨l=⟨1,[]⟩:=fun l h=>by have:=(hC l).1 h;simp[heapL,upd] at this;(repeat' split at this)<;>simp_all
 repeat' (first|((first|apply Ba|(apply Bb;(· rfl);(· rfl))|(apply Bc;(· exact nxE))|(apply Bd;(· rfl);(· rfl);(· exact nxE)));(· first|exact Ok.pe))|((first|apply Ca|(apply Cb;(· exact nxE)));(· first|exact Ok.e0))|refine Sx ?_|(refine Sy (fun h=>?_) (fun h=>?_)<;>try (exfalso;omega;done))|refine Sz (fun h=>?_) (fun h=>?_))
 refine AW.loop (X:={k:Nat // k≤m}) (fun k=>⟨[Oo,I n,.clo (.func 167) [] [Bx 1 0,Bx 1 1],Oo,Oo,Oo,Oo,.own 1 ⟨2,[]⟩ 0 m,Oo,Oo,Oo,Oo,Oo,I m,I (k.1:Nat),Oo,Oo,Oo,Oo,Oo,Oo,Oo,Oo,Oo,Oo,Oo,Oo,Oo,Oo,Oo,Oo,Oo,Oo,Oo,Oo,Oo,Oo,Oo,Oo,Oo,Oo,Oo,Oo],heapX [(⟨0,[]⟩,⟨0,[]⟩,⟨1,[[TL a]]⟩),(⟨1,[]⟩,⟨1,[]⟩,⟨1,[[TL b]]⟩)] [{ l:=⟨2,[]⟩,k:=1,R:=TR (tabF k.1 n (mixF (addF a b) zz k.1 0)),nils:=m - k.1,src:=⟨2,[]⟩,base:=⟨2,[]⟩ }],900⟩) (fun k=>m - k.1) ⟨0,Nat.zero_le _⟩ ?_ (fun k=>?_)
 ·
  (apply Le.headG [_,_] [{ l:=⟨2,[]⟩,k:=1,R:=[],nils:=m,src:=⟨4,[]⟩,base:=⟨4,[]⟩ }] (fun _=>False))
  (case' hlen=>rfl)
  (case' hms=>rfl)
  all_goals (try dsimp only[srcs])
  (case' hfr|hob=>(repeat' (first|refine La ?_ ?_|exact Lc|refine Lo ?_|refine ⟨⟨_,rfl,?_⟩,?_⟩|refine Lx ?_)))
  (case' hok=>first|exact ⟨MI.ok_make rfl,trivial⟩|exact trivial)
  (case' hN=>rfl)
  (case' hS=>rfl)
  all_goals (first|exact Ld|(rfl))
 obtain ⟨i,hi⟩:=k
 simp only
 by_cases hlt:i<m
 ·
  have hti:(TR (tabF i n (mixF (addF a b) zz i 0))).length=i:=by rw[TR_len,tabF_len]
  rw[show m - i=(m - (i+1))+1 by omega]
  repeat' (first|((first|apply Ba|(apply Bb;(· rfl);(· rfl))|(apply Bc;(· exact nxE))|(apply Bd;(· rfl);(· rfl);(· exact nxE)));(· first|exact OpOk.loadCell rfl rfl rfl rfl (set_at (by simp only[outer_len];rw[hti];omega)) rfl|exact Ok.stT rfl rfl rfl (by dsimp only;rw[hti];omega) rfl|exact Ok.pe))|((first|apply Ca|(apply Cb;(· exact nxE)));(· first|exact Ok.stT rfl rfl rfl (by dsimp only;rw[hti];omega) rfl|exact Ok.e0))|refine Sx ?_|(refine Sy (fun h=>?_) (fun h=>?_)<;>try (exfalso;omega;done))|refine Sz (fun h=>?_) (fun h=>?_))
  refine AW.loop (X:={k:Nat // k≤n}) (fun k=>⟨[Oo,I n,.clo (.func 167) [] [Bx 1 0,Bx 1 1],Oo,Oo,Oo,Oo,.own 1 ⟨2,[]⟩ 0 m,I i,Oo,Oo,Oo,Oo,I m,I i,Oo,Oo,Oo,Oo,Oo,Oo,Oo,Oo,Oo,Oo,Oo,I n,I (k.1:Nat),Oo,Oo,Oo,Oo,Oo,Oo,Oo,Oo,Oo,Oo,Oo,Oo,Oo,Oo,Oo],heapX [(⟨0,[]⟩,⟨0,[]⟩,⟨1,[[TL a]]⟩),(⟨1,[]⟩,⟨1,[]⟩,⟨1,[[TL b]]⟩)] [{ l:=⟨2,[]⟩,k:=1,R:=TR (tabF (i+1) n (mixF (addF a b) zz i k.1)),nils:=m - (i+1),src:=⟨2,[]⟩,base:=⟨2,[]⟩ }],900⟩) (fun k=>n - k.1) ⟨0,Nat.zero_le _⟩ ?_ (fun k=>?_)
  ·
   (apply Le.headG [_,_] [{ l:=⟨2,[]⟩,k:=1,R:=TR (tabF (i+1) n (mixF (addF a b) zz i 0)),nils:=m - (i+1),src:=⟨2,[]⟩,base:=⟨2,[]⟩,cut:=i,ext:=some ⟨906,[]⟩ }] (fun _=>False))
   (case' hlen=>rfl)
   (case' hms=>rfl)
   all_goals (try dsimp only[srcs])
   (case' hfr|hob=>(repeat' (first|refine La ?_ ?_|exact Lc|refine Lo ?_|refine ⟨⟨_,rfl,?_⟩,?_⟩|refine Lx ?_)))
   (case' hok=>first|exact ⟨MI.ok_fill (r:=List.replicate n [DI 0]) zz_snoc hti (by simp) rfl (Cg) rfl,trivial⟩|exact trivial)
   (case' hN=>rfl)
   (case' hS=>rfl)
   all_goals (first|exact Ld|((first|(simp[AllP,TR_len,tabF_len];done)|(simp[AllP,TR_len,tabF_len];omega))))
  obtain ⟨j,hj⟩:=k
  simp only
  by_cases hlt2:j<n
  ·
   have hrw:=TRF_get (n:=n) (f:=(mixF (addF a b) zz i j)) (show i<i+1 by omega)
   have hlr:(IR (rowF n ((mixF (addF a b) zz i j) i))).length=n:=by rw[IR_len,rowF_len]
   repeat' (first|((first|apply Ba|(apply Bb;(· rfl);(· rfl))|(apply Bc;(· exact nxE))|(apply Bd;(· rfl);(· rfl);(· exact nxE)));(· first|exact Ok.ldTn rfl rfl rfl hrw hlr|exact OpOk.callS ([(⟨0,[]⟩,⟨0,[]⟩,⟨1,[[TL a]]⟩),(⟨1,[]⟩,⟨1,[]⟩,⟨1,[[TL b]]⟩)]) rfl rfl (addFn_ac a b m n ha hb i j hlt hlt2) (by intro p hp;simp only[List.mem_cons,List.not_mem_nil,or_false] at hp;rcases hp with rfl|rfl<;>rfl) (by intro p hp r hr c hc;simp at hp;rcases hp with rfl|rfl<;>(simp at hr;subst hr;simp at hc;(try subst hc);(try rcases hc with rfl|rfl);exact .d _)) (.d _) (.cons (.dd _) (.cons (.dd _) (.cons (AR.ptr _ _ _ _ (by simp)) (.cons (AR.ptr _ _ _ _ (by simp)) .nil))))|exact Ok.st1 rfl rfl (congrArg (Option.map (dobj 1)) hrw) (by simp[rowF_len];omega) (by rw[IRF_get hlt2];rfl) rfl rfl IR_set|exact Ok.pe))|((first|apply Ca|(apply Cb;(· exact nxE)));(· first|exact Ok.st1 rfl rfl (congrArg (Option.map (dobj 1)) hrw) (by simp[rowF_len];omega) (by rw[IRF_get hlt2];rfl) rfl rfl IR_set|exact Ok.e0))|refine Sx ?_|(refine Sy (fun h=>?_) (fun h=>?_)<;>try (exfalso;omega;done))|refine Sz (fun h=>?_) (fun h=>?_))
   refine ⟨⟨j+1,by omega⟩,?_,by simp only;omega⟩
   (apply Le.headG [_,_] [{ l:=⟨2,[]⟩,k:=1,R:=TR (tabF (i+1) n (mixF (addF a b) zz i (j+1))),nils:=m - (i+1),src:=⟨2,[]⟩,base:=⟨2,[]⟩ }] (fun _=>False))
   (case' hlen=>rfl)
   (case' hms=>rfl)
   all_goals (try dsimp only[srcs])
   (case' hfr|hob=>(repeat' (first|refine La ?_ ?_|exact Lc|refine Lo ?_|refine ⟨⟨_,rfl,?_⟩,?_⟩|refine Lx ?_)))
   (case' hok=>first|exact ⟨MI.ok_row (tabF_set (fun a b _ _=>mixF_set)) hrw (by simp) rfl (Cg),trivial⟩|exact trivial)
   (case' hN=>rfl)
   (case' hS=>rfl)
   all_goals (first|exact Ld|(rfl))
  ·
   have hjn:j=n:=by omega
   subst hjn
   rw[mixF_row]
   repeat' (first|((first|apply Ba|(apply Bb;(· rfl);(· rfl))|(apply Bc;(· exact nxE))|(apply Bd;(· rfl);(· rfl);(· exact nxE)));(· first|exact Ok.pe))|((first|apply Ca|(apply Cb;(· exact nxE)));(· first|exact Ok.e0))|refine Sx ?_|(refine Sy (fun h=>?_) (fun h=>?_)<;>try (exfalso;omega;done))|refine Sz (fun h=>?_) (fun h=>?_))
   refine ⟨⟨i+1,by omega⟩,?_,by simp only;omega⟩
   (apply Le.headG [_,_] [{ l:=⟨2,[]⟩,k:=1,R:=TR (tabF (i+1) j (mixF (addF a b) zz (i+1) 0)),nils:=m - (i+1),src:=⟨2,[]⟩,base:=⟨2,[]⟩ }] (fun _=>False))
   (case' hlen=>rfl)
   (case' hms=>rfl)
   all_goals (try dsimp only[srcs])
   (case' hfr|hob=>(repeat' (first|refine La ?_ ?_|exact Lc|refine Lo ?_|refine ⟨⟨_,rfl,?_⟩,?_⟩|refine Lx ?_)))
   (case' hok=>first|exact ⟨MI.ok_same rfl (Cg),trivial⟩|exact trivial)
   (case' hN=>rfl)
   (case' hS=>rfl)
   all_goals (first|exact Ld|(rfl))
 ·
  have him:i=m:=by omega
  subst him
  rw[Nat.sub_self,mixF_all]
  repeat' (first|((first|apply Ba|(apply Bb;(· rfl);(· rfl))|(apply Bc;(· exact nxE))|(apply Bd;(· rfl);(· rfl);(· exact nxE)));(· first|exact Ok.pe))|((first|apply Ca|(apply Cb;(· exact nxE)));(· first|exact Ok.e0))|refine Sx ?_|(refine Sy (fun h=>?_) (fun h=>?_)<;>try (exfalso;omega;done))|refine Sz (fun h=>?_) (fun h=>?_))
  refine Ya ?_
  (apply Le.headG [⟨0,[]⟩,⟨1,[]⟩] [mi1 ⟨2,[]⟩ (TR (tabF i n (addF a b)))] (fun _=>False))
  (case' hlen=>rfl)
  (case' hms=>rfl)
  all_goals (try dsimp only[srcs])
  (case' hfr|hob=>(repeat' (first|refine La ?_ ?_|exact Lc|refine Lo ?_|refine ⟨⟨_,rfl,?_⟩,?_⟩|refine Lx ?_)))
  (case' hok=>first|exact ⟨MI.ok_same rfl (Cg),trivial⟩|exact trivial)
  (case' hN=>rfl)
  (case' hS=>rfl)
  all_goals (first|exact Ld|(rfl))
set_option maxHeartbeats 1000000 in
theorem addMatrices_ac [Mode] (m n:Nat) (a b:List (List Int)) (ha:Rc a m n) (hb:Rc b m n) (h0:0<m) (hm:m≤1000) (hn:n≤1000):AC Tryz.prog 133 [TL a,TL b] H0 (own1 1 m) (hpM 1 (TR (tabF m n (addF a b)))):=by
 obtain rfl:=ha.l
 obtain ⟨r0,hr0⟩:∃ r0,a[0]? = some r0:=⟨a[0]'(by omega),List.getElem?_eq_getElem (by omega)⟩
 obtain rfl:=ha.r r0 (List.mem_of_getElem? hr0)
 have hRr:(mRows 1 (TR a))[(0:Int).toNat]? = some [.sl 1 (IR r0)]:=TR_get hr0
 have hRl:(IR r0).length=r0.length:=IR_len
 have hF:=mbyAdd_ac a.length r0.length a b ha hb hm hn
 refine AC.of_body 0 Tryz.func133 rfl (fun l h=>absurd rfl h) (fun C hC=>?_)
 have hD:∀ l,¬ C.D0 l:=fun l h=>(hC l).1 h rfl
 simp only[startFr,Tryz.ntmps133,List.length_cons,List.length_nil,Nat.reduceAdd,Nat.reduceSub,List.replicate_succ,List.replicate_zero,List.cons_append,List.nil_append]
 repeat' (first|((first|apply Ba|(apply Bb;(· rfl);(· rfl))|(apply Bc;(· exact nxE))|(apply Bd;(· rfl);(· rfl);(· exact nxE)));(· first|exact OpOk.callSX (hs2 (TD a) (TD b)) [mi1 ⟨2,[]⟩ (TR (tabF a.length r0.length (addF a b)))] rfl rfl hF (by intro p hp;simp only[List.mem_cons,List.not_mem_nil,or_false] at hp;rcases hp with rfl|rfl<;>rfl) hs2_ok (by simp[Loc.cov]) (.cons (.dd _) (.cons (.dd _) (.cons (AR.clo' .nil (.cons (AR.ptr _ _ _ _ (by simp)) (.cons (AR.ptr _ _ _ _ (by simp)) .nil))) .nil))) (by simp[rn,emb];rfl)|exact Ok.pe))|((first|apply Ca|(apply Cb;(· exact nxE)));(· first|exact OpOk.callSX (hs2 (TD a) (TD b)) [mi1 ⟨2,[]⟩ (TR (tabF a.length r0.length (addF a b)))] rfl rfl hF (by intro p hp;simp only[List.mem_cons,List.not_mem_nil,or_false] at hp;rcases hp with rfl|rfl<;>rfl) hs2_ok (by simp[Loc.cov]) (.cons (.dd _) (.cons (.dd _) (.cons (AR.clo' .nil (.cons (AR.ptr _ _ _ _ (by simp)) (.cons (AR.ptr _ _ _ _ (by simp)) .nil))) .nil))) (by simp[rn,emb];rfl)|exact Ok.e0))|refine Sx ?_|(refine Sy (fun h=>?_) (fun h=>?_)<;>try (exfalso;omega;done))|refine Sz (fun h=>?_) (fun h=>?_))
 refine Ya ?_
 (apply Le.headG [] [{ l:=⟨0,[]⟩,k:=1,R:=TR (tabF a.length r0.length (addF a b)),src:=⟨10,[2]⟩,base:=⟨10,[2]⟩ }] (fun _=>False))
 (case' hlen=>rfl)
 (case' hms=>rfl)
 all_goals (try dsimp only[srcs])
 (case' hfr|hob=>(repeat' (first|refine La ?_ ?_|exact Lc|refine Lo ?_|refine ⟨⟨_,rfl,?_⟩,?_⟩|refine Lx ?_)))
 (case' hok=>first|exact ⟨MI.ok_same rfl (Cg),trivial⟩|exact trivial)
 (case' hN=>rfl)
 (case' hS=>rfl)
 all_goals (first|exact Ld|(rfl))
theorem times_ac [Mode] (a b:Int) (h:a≠BOT→b≠BOT→-9223372036854775808≤a+b∧a+b≤9223372036854775807):AC Tryz.prog 135 [I a,I b] H0 (I (timesB a b)) H0:=by
 unfold timesB BOT
 unfold BOT at h
 by_cases h1:a=-1000000000000000
 ·rw[if_pos (.inl h1)]
  subst h1
  refine AC.of_body 0 Tryz.func135 rfl (fun l h=>absurd rfl h) (fun C hC=>?_)
  have hD:∀ l,¬ C.D0 l:=fun l h=>(hC l).1 h rfl
  simp only[startFr,Tryz.ntmps135,List.length_cons,List.length_nil,Nat.reduceAdd,Nat.reduceSub,List.replicate_succ,List.replicate_zero,List.cons_append,List.nil_append]
  repeat' (first|((first|apply Ba|(apply Bb;(· rfl);(· rfl))|(apply Bc;(· exact nxE))|(apply Bd;(· rfl);(· rfl);(· exact nxE)));(· first|exact Ok.pe))|((first|apply Ca|(apply Cb;(· exact nxE)));(· first|exact Ok.e0))|refine Sx ?_|(refine Sy (fun h=>?_) (fun h=>?_)<;>try (exfalso;omega;done))|refine Sz (fun h=>?_) (fun h=>?_))
  refine Ya ?_
  (apply Le.headZ (hs:=[]) [] rfl)
  all_goals (try dsimp only[srcs])
  (case' hfr=>(repeat' (first|refine La ?_ ?_|exact Lc|refine Lo ?_|refine ⟨⟨_,rfl,?_⟩,?_⟩|refine Lx ?_)))
  all_goals (first|exact Ld|exact trivial|(rfl))
 ·by_cases h2:b=-1000000000000000
  ·rw[if_pos (.inr h2)]
   subst h2
   refine AC.of_body 0 Tryz.func135 rfl (fun l h=>absurd rfl h) (fun C hC=>?_)
   have hD:∀ l,¬ C.D0 l:=fun l h=>(hC l).1 h rfl
   simp only[startFr,Tryz.ntmps135,List.length_cons,List.length_nil,Nat.reduceAdd,Nat.reduceSub,List.replicate_succ,List.replicate_zero,List.cons_append,List.nil_append]
   repeat' (first|((first|apply Ba|(apply Bb;(· rfl);(· rfl))|(apply Bc;(· exact nxE))|(apply Bd;(· rfl);(· rfl);(· exact nxE)));(· first|exact Ok.pe))|((first|apply Ca|(apply Cb;(· exact nxE)));(· first|exact Ok.e0))|refine Sx ?_|(refine Sy (fun h=>?_) (fun h=>?_)<;>try (exfalso;omega;done))|refine Sz (fun h=>?_) (fun h=>?_))
   all_goals
    refine Ya ?_
    (apply Le.headZ (hs:=[]) [] rfl)
    all_goals (try dsimp only[srcs])
    (case' hfr=>(repeat' (first|refine La ?_ ?_|exact Lc|refine Lo ?_|refine ⟨⟨_,rfl,?_⟩,?_⟩|refine Lx ?_)))
    all_goals (first|exact Ld|exact trivial|(rfl))
  ·rw[if_neg (by rintro (h3|h3);exact h1 h3;exact h2 h3)]
   obtain ⟨h3,h4⟩:=h h1 h2
   refine AC.of_body 0 Tryz.func135 rfl (fun l h=>absurd rfl h) (fun C hC=>?_)
   have hD:∀ l,¬ C.D0 l:=fun l h=>(hC l).1 h rfl
   simp only[startFr,Tryz.ntmps135,List.length_cons,List.length_nil,Nat.reduceAdd,Nat.reduceSub,List.replicate_succ,List.replicate_zero,List.cons_append,List.nil_append]
   repeat' (first|((first|apply Ba|(apply Bb;(· rfl);(· rfl))|(apply Bc;(· exact nxE))|(apply Bd;(· rfl);(· rfl);(· exact nxE)));(· first|exact Ok.pe))|((first|apply Ca|(apply Cb;(· exact nxE)));(· first|exact Ok.e0))|refine Sx ?_|(refine Sy (fun h=>?_) (fun h=>?_)<;>try (exfalso;omega;done))|refine Sz (fun h=>?_) (fun h=>?_))
   all_goals
    refine Ya ?_
    (apply Le.headZ (hs:=[]) [] rfl)
    all_goals (try dsimp only[srcs])
    (case' hfr=>(repeat' (first|refine La ?_ ?_|exact Lc|refine Lo ?_|refine ⟨⟨_,rfl,?_⟩,?_⟩|refine Lx ?_)))
    all_goals (first|exact Ld|exact trivial|(rfl))
end
end Go.Proofs.YtkpoclbnnpglfaaGreat
