/-
  Walks in the abstract reading, part 1.
-/
import Derived.Test.YtkpoclbnnpglfaaGreatProg
import Derived.Test.YtkpoclbnnpglfaaGreatKqA1
import Derived.ProofKit
import Derived.Deep.Slices
import Derived.Test.YtkpoclbnnpglfaaGreatKqA2
import Derived.Test.YtkpoclbnnpglfaaGreatKqA3
set_option linter.unusedSimpArgs false
set_option linter.unusedVariables false
namespace Go.Proofs.YtkpoclbnnpglfaaGreat
section
open Go.RowKit Go.ChangeShapes Go.WideShapes Go.Deep
section
variable {H : Type} {enc : TypeId × Value → H} {w : World} {base : Nat} {spare : Nat → Bool} {held : Bool} {fuel : Nat} {cs : List Value} {x : DataW H × List MemPlace}
end
end
section
open Go Go.RowKit
theorem AC.below [Mode] {P:Program}{f:FuncId}{args:List AV}{vs:List Value}{w:World} (h:AC P f args H0 (Bo true) H0) (hv:VRs (fun _=>none) (fun b=>b<w.heap.size) w args vs) (hg:Mode.good w:=by exact True.intro):Calls P f vs.toArray w fun r w'=>r = .returned (.bool true)∧Below w.heap.size w w':=by
 refine (h (fun _=>none) (fun b=>b<w.heap.size) w vs ⟨fun l o h=>(by cases h),fun l l' b s s' h=>absurd rfl h,fun l b s h=>absurd rfl h,fun b h=>h,Glb.begin hg⟩ (fun _ _=>rfl) hv).mono ?_
 rintro e w' ⟨v,ι',F',rfl,hr,_,hst,_⟩
 have:=hr.v_inv
 subst this
 exact ⟨rfl,hst.os,hst.tape,hst.output,hst.size,fun b hb=>hst.block b hb fun ⟨l,hl,_⟩=>absurd rfl hl⟩
theorem cell_lt [Mode] {w:World}{a:Addr}{v:Value} (h:w.cell? a=some v):a.block<w.heap.size:=by
 refine Nat.lt_of_not_le fun hn=>?_
 have hb:w.heap[a.block]? = none:=by simp[hn]
 simp[World.cell?,hb] at h
theorem SlR.vr [Mode] {ι:Iota}{α:Type}{k:Nat}{enc:α→List Value}{row:α→List D} (hrow:∀ x,row x=(enc x).map .v) {w:World}{a:Option Addr}{xs:List α}{cap:Nat} (h:SlR w k enc a xs) (hc:xs.length≤cap):VR ι (fun b=>b<w.heap.size) w (.d (.sl k (xs.map row))) (.slice a xs.length cap):=by
 have hl:(xs.map row).length=xs.length:=by simp
 rw[← hl]
 have key:∀ (i:Nat) r (j:Nat) c,(xs.map row)[i]? = some r→r[j]? = some c→∃ x v,xs[i]? = some x∧(enc x)[j]? = some v∧c=D.v v:=fun (i:Nat) r (j:Nat) c hr hc=>by
  simp only[List.getElem?_map,Option.map_eq_some_iff] at hr
  obtain ⟨x,hx,rfl⟩:=hr
  rw[hrow] at hc
  simp only[List.getElem?_map,Option.map_eq_some_iff] at hc
  obtain ⟨v,hv,rfl⟩:=hc
  exact ⟨x,v,hx,hv,rfl⟩
 refine .d (.sl k _ a cap (fun i j=>((xs[i]?).bind fun x=>(enc x)[j]?).getD undef) (by rw[hl];exact hc) (fun i r j c hr hc=>?_) (fun i r j c hr hc=>?_))
 ·obtain ⟨x,v,hx,hv,rfl⟩:=key i r j c hr hc
  obtain ⟨b,off,e,hcell⟩:=h i x hx
  have h1:=hcell j v hv
  exact ⟨b,off,e,cell_lt h1,by simp only[hx,Option.bind_some,hv,Option.getD_some];exact h1⟩
 ·obtain ⟨x,v,hx,hv,rfl⟩:=key i r j c hr hc
  simp only[hx,Option.bind_some,hv,Option.getD_some]
  exact .v v
end
section
open Go.RowKit Go.ChangeShapes Go.WideShapes Go.Deep
def RdRow (w:World) (r:List D) (cs:List Value):Prop:=r.length=cs.length∧∀ (j:Nat) c v,r[j]? = some c→cs[j]? = some v→DR (fun b=>b<w.heap.size) w c v
theorem cell_lt2 {w:World}{a:Addr}{v:Value} (h:w.cell? a=some v):a.block<w.heap.size:=by
 unfold World.cell? at h
 split at h
 ·rename_i e;exact (Array.getElem?_eq_some_iff.1 e).1
 ·cases h
theorem RdRow.v {w:World} (v:Value):RdRow w [.v v] [v]:=⟨rfl,fun j c u hc hu=>by
 cases j with
 | zero=>simp at hc hu;subst hc;subst hu;exact .v _
 | succ j=>simp at hc⟩
theorem RdRow.one {w:World}{x:D}{v:Value} (h:DR (fun b=>b<w.heap.size) w x v):RdRow w [x] [v]:=⟨rfl,fun j c u hc hu=>by
 cases j with
 | zero=>simp at hc hu;subst hc;subst hu;exact h
 | succ j=>simp at hc⟩
theorem RdRow.nil {w:World}:RdRow w [] []:=⟨rfl,fun j c u hc hu=>by simp at hc⟩
theorem RdRow.app {w:World}{r r':List D}{cs cs':List Value} (h:RdRow w r cs) (h':RdRow w r' cs'):RdRow w (r++r') (cs++cs'):=by
 refine ⟨by simp[h.1,h'.1],fun j c u hc hu=>?_⟩
 by_cases hj:j<r.length
 ·rw[List.getElem?_append_left hj] at hc
  rw[List.getElem?_append_left (by rw[← h.1];exact hj)] at hu
  exact h.2 j c u hc hu
 ·rw[List.getElem?_append_right (by omega)] at hc
  rw[List.getElem?_append_right (by rw[← h.1];omega),← h.1] at hu
  exact h'.2 _ c u hc hu
theorem RdRow.cut {w:World}{r r':List D}{cs:List Value}{n:Nat} (h:RdRow w r ((cs.drop 0).take n)) (h':RdRow w r' (cs.drop n)):RdRow w (r++r') cs:=by
 have:=h.app h'
 rwa [List.drop_zero,List.take_append_drop] at this
theorem RdRow.agg {ι:Iota}{w:World}{r:List D}{cs:List Value} (h:RdRow w r cs):VR ι (fun b=>b<w.heap.size) w (.agg (r.map .d)) (.agg cs.toArray):=by
 refine .agg _ cs (by simp[h.1]) fun i c v hc hv=>?_
 simp only[List.getElem?_map,Option.map_eq_some_iff] at hc
 obtain ⟨x,hx,rfl⟩:=hc
 exact .d (h.2 i x v hx hv)
theorem RdRow.cell {ι:Iota}{w:World}{x:D}{v:Value} (h:RdRow w [x] [v]):VR ι (fun b=>b<w.heap.size) w (.d x) v:=.d (h.2 0 x v rfl rfl)
section
variable {H : Type} {enc : TypeId × Value → H} {w : World} {base : Nat} {spare : Nat → Bool} {held : Bool}
abbrev Rd (enc:TypeId × Value→H) (w:World) (base:Nat) (spare:Nat→Bool) (held:Bool) (t:TypeId) (S:List D→Prop):Prop:=
 ∀ {fuel:Nat}{cs:List Value}{x:DataW H × List MemPlace},DataW.trod enc Tryz.prog w base spare held fuel t cs=some x→∃ r,S r∧RdRow w r cs
def i64 (n:Int):Prop:=-9223372036854775808≤n∧n≤9223372036854775807
theorem rdc_slice {k:Nat}{t e:TypeId}{S:List D→Prop} (ht:Tryz.prog.underlying t=some (.slice e)) (hk:Tryz.prog.cellsOf e=k) (hk0:0<k) (hrd:Rd enc w base spare held e (fun r=>S r∧r.length=k)) :
  Rd enc w base spare held t (fun r=>∃ rows,rows.length≤maxLen∧(∀ r∈rows,S r)∧r=[.sl k rows]):=fun {fuel cs x} h=>by
 rcases open_slice ht h with ⟨hc,_⟩|⟨a,len,cap,m,n,DD,Q,hc,_,hl,hm,hmm,_,hi⟩
 ·subst hc
  exact ⟨_,⟨[],Nat.zero_le _,fun _ h=>by simp at h,rfl⟩,.one (.sl k [] none 0 (fun _ _=>undef) (Nat.le_refl _) (fun i r j c h=>by simp at h) (fun i r j c h=>by simp at h))⟩
 ·have hlm:len≤m:=by rw[hmm];split<;>omega
  rw[hk] at hi
  obtain ⟨f,hf⟩:=choose_lt (α:=List Value × List D) (p:=fun i p=>w.cells? base (a.add (i*k)) k=some p.1∧S p.2∧p.2.length=k∧RdRow w p.2 p.1) (n:=len) (fun i hi'=>by
   obtain ⟨cs',h1,h2⟩:=hi i (by omega)
   obtain ⟨r,⟨hs,hl⟩,hr⟩:=hrd h2
   exact ⟨(cs',r),h1,hs,hl,hr⟩)
  subst hc
  refine ⟨_,⟨(List.range len).map fun i=>(f i).2,by simp;omega,fun r hr=>?_,rfl⟩,?_⟩
  ·obtain ⟨i,hi',rfl⟩:=List.mem_map.1 hr
   exact (hf i (List.mem_range.1 hi')).2.1
  ·refine .one ?_
   have hget:∀ (i:Nat) r,((List.range len).map fun i=>(f i).2)[i]? = some r→i<len∧r=(f i).2:=fun i r hr=>by
    simp only[List.getElem?_map,Option.map_eq_some_iff] at hr
    obtain ⟨i',hi',rfl⟩:=hr
    obtain ⟨hlt,e1⟩:=List.getElem?_eq_some_iff.1 hi'
    simp at hlt e1
    subst e1
    exact ⟨hlt,rfl⟩
   have key:∀ (i:Nat) r j c,((List.range len).map fun i=>(f i).2)[i]? = some r→r[j]? = some c→i<len∧j<k∧(f i).2[j]? = some c∧∃ v,(f i).1[j]? = some v:=fun i r j c hr hc=>by
    obtain ⟨hlt,rfl⟩:=hget i r hr
    obtain ⟨h1,h2,h3,h4⟩:=hf i hlt
    have hj:j<k:=by rw[← h3];exact (List.getElem?_eq_some_iff.1 hc).1
    exact ⟨hlt,hj,hc,(f i).1[j]'(by rw[← h4.1,h3];exact hj),List.getElem?_eq_getElem _⟩
   have hlen:((List.range len).map fun i=>(f i).2).length=len:=by simp
   rw[show (Value.slice (some a) len cap) = .slice (some a) ((List.range len).map fun i=>(f i).2).length cap by rw[hlen]]
   refine .sl k _ (some a) cap (fun i j=>((f i).1[j]?).getD undef) (by rw[hlen];exact hl) (fun i r j c hr hc=>?_) (fun i r j c hr hc=>?_)
   ·obtain ⟨hlt,hj,hc',v,hv⟩:=key i r j c hr hc
    obtain ⟨_,_,hcell⟩:=World.cells?_some (hf i hlt).1
    have hsp:a.spot=none:=by
     obtain ⟨_,hl0,hc0⟩:=World.cells?_some (hf 0 (by omega)).1
     have h0:=hc0 0 hk0
     rw[List.getElem?_eq_getElem (by rw[hl0];exact hk0)] at h0
     cases hs:a.spot with
     | none=>rfl
     | some s=>
      exfalso
      simp[Addr.add,World.cell?,hs] at h0
      split at h0<;>simp at h0
    obtain ⟨b,off,sp⟩:=a
    simp only at hsp
    subst hsp
    have h1:=hcell j hj
    rw[hv] at h1
    have e:(Addr.add (Addr.add ⟨b,off,none⟩ (i*k)) j)=⟨b,off+i*k+j,none⟩:=by
     simp only[Addr.add]
     by_cases h1:i*k=0<;>by_cases h2:j=0<;>simp[h1,h2]
    rw[e] at h1
    exact ⟨b,off,rfl,cell_lt2 h1,by rw[hv];exact h1⟩
   ·obtain ⟨hlt,hj,hc',v,hv⟩:=key i r j c hr hc
    simp only[hv,Option.getD_some]
    exact (hf i hlt).2.2.2.2 j c v hc' hv
theorem Rd.mono {t:TypeId}{S S':List D→Prop} (h:Rd enc w base spare held t S) (hs:∀ r,S r→S' r):Rd enc w base spare held t S':=fun h'=>by
 obtain ⟨r,h1,h2⟩:=h h'
 exact ⟨r,hs _ h1,h2⟩
theorem rows_of {α:Type}{row:α→List D}{Q:α→Prop}:∀ {rows:List (List D)},(∀ r∈rows,∃ x,Q x∧r=row x)→∃ xs:List α,(∀ x∈xs,Q x)∧rows=xs.map row
 | [],_=>⟨[],fun _ h=>by simp at h,rfl⟩
 | r :: rows,h=>by
  obtain ⟨x,hx,rfl⟩:=h r (by simp)
  obtain ⟨xs,hxs,rfl⟩:=rows_of (rows:=rows) (fun r hr=>h r (by simp[hr]))
  exact ⟨x :: xs,fun y hy=>by
   rcases List.mem_cons.1 hy with rfl|hy
   ·exact hx
   ·exact hxs y hy,rfl⟩
theorem rdc_recs {α:Type}{k:Nat}{t e:TypeId}{row:α→List D}{Q:α→Prop} (ht:Tryz.prog.underlying t=some (.slice e)) (hk:Tryz.prog.cellsOf e=k) (hk0:0<k) (hl:∀ x,(row x).length=k) (hrd:Rd enc w base spare held e (fun r=>∃ x,Q x∧r=row x)) :
  Rd enc w base spare held t (fun r=>∃ xs:List α,xs.length≤maxLen∧(∀ x∈xs,Q x)∧r=[.sl k (xs.map row)]):=
 Rd.mono (rdc_slice (S:=fun r=>∃ x,Q x∧r=row x) ht hk hk0 (Rd.mono hrd (by rintro r ⟨x,hx,e⟩;exact ⟨⟨x,hx,e⟩,by rw[e,hl]⟩))) (by
  rintro r ⟨rows,h1,h2,h3⟩
  obtain ⟨xs,h4,rfl⟩:=rows_of h2
  exact ⟨xs,by simpa using h1,h4,h3⟩)
set_option maxRecDepth 100000 in
theorem rdt_slice {t e:TypeId}{S:List D→Prop}{r:Reach}{b0:Nat}{v:Value}{d:DataW H}{p:List MemPlace} (ht:Tryz.prog.underlying t=some (.slice e)) (hv:Value.okWide Tryz.prog w r b0 t v) (h:DataW.Trod enc Tryz.prog w base spare held t v d p) (hrd:Rd enc w base spare held t S):∃ r,S r∧RdRow w r [v]:=by
 obtain ⟨a,len,cap,rfl⟩:=okWide_slice ht hv
 obtain ⟨fuel,hf⟩:=h
 exact hrd hf
end
end
section
open Go.RowKit Go.ChangeShapes Go.WideShapes Go.Deep
section
variable {H : Type} {enc : TypeId × Value → H} {w : World} {base : Nat} {spare : Nat → Bool} {held : Bool}
theorem rdc_u8:Rd enc w base spare held 5 (fun r=>∃ n,(0≤n∧n≤255)∧r=[D.v (.int .u8 n)]):=fun h=>by
 obtain ⟨n,e,_,hw⟩:=DataW.trod_int Tryz.underlying5 h
 subst e
 refine ⟨_,⟨n,?_,rfl⟩,.v _⟩
 simp only[Lit.wf,Bool.and_eq_true,decide_eq_true_eq] at hw
 exact hw
theorem rdc_bytes:Rd enc w base spare held 22 (fun r=>∃ xs:List Int,xs.length≤maxLen∧(∀ x∈xs,0≤x∧x≤255)∧r=[.sl 1 (xs.map (fun n:Int=>[D.v (.int .u8 n)]))]):=
 rdc_recs (row:=(fun n:Int=>[D.v (.int .u8 n)])) (k:=1) (by kernel_rfl) (by kernel_rfl) (by decide) (fun _=>rfl) (Rd.mono rdc_u8 (by rintro r ⟨n,hn,rfl⟩;exact ⟨n,hn,rfl⟩))
end
end
section
open Go Go.RowKit
attribute [local irreducible] AL AD AW OpOk Le AC thenQ blockQ EndQ
set_option maxHeartbeats 400000 in
theorem l01In_ac [Mode] (n lo hi:Int):AC Tryz.prog 116 [I n,I lo,I hi] H0 (Bo (wi n lo hi)) H0:=by
 refine AC.of_body 0 Tryz.func116 rfl (fun l h=>absurd rfl h) (fun C hC=>?_)
 have hD:∀ l,¬ C.D0 l:=fun l h=>(hC l).1 h rfl
 simp only[startFr,Tryz.ntmps116,List.length_cons,List.length_nil,Nat.reduceAdd,Nat.reduceSub,List.replicate_succ,List.replicate_zero,List.cons_append,List.nil_append]
 repeat' (first|refine AL.nil ?_|((first|apply AL.st|(apply AL.on;(· rfl);(· rfl))|(apply AD.st;(· exact nxE))|(apply AD.on;(· rfl);(· rfl);(· exact nxE)));(· first|exact Ok.pe);(· exact setE);(· first|exact updsE|exact rfl);(· exact nxE))|((first|apply AL.st0|(apply AD.st0;(· exact nxE)));(· first|exact Ok.e0);(· exact rfl);(· exact nxE))|((first|apply AL.off|apply AD.off);(· rfl);(· rfl);(· rfl);(· exact setE);(· exact nxE))|((first|refine AL.gsplit rfl rfl (fun h=>?_) (fun h=>?_)|refine AD.gsplit rfl rfl (fun h=>?_) (fun h=>?_))<;>try (exfalso;omega;done))|(first|refine AL.gsplitB rfl rfl (fun h=>?_) (fun h=>?_)|refine AD.gsplitB rfl rfl (fun h=>?_) (fun h=>?_))|refine AD.fin (by simp only[List.length_cons,List.length_nil,Nat.reduceAdd];rfl) rfl (by kernel_rfl) ?_|refine thenN ?_|refine AW.seq ?_|refine AW.reg ?_|refine AW.dr mixedA (by kernel_rfl) ?_|refine AW.block ?_|refine AW.condT rfl ?_|refine AW.condF rfl ?_|(refine AW.ite rfl (fun h=>?_) (fun h=>?_)<;>try (exfalso;omega;done))|refine AW.cond _ rfl (fun h=>?_) (fun h=>?_)|refine AW.ret ?_|refine AW.exit ?_|refine AW.skip ?_|refine thenR ?_|refine thenX ?_|refine blockN ?_|refine blockR ?_|refine blockX ?_|refine blockY (by decide) ?_)
 all_goals
  (refine end1p (by first|exact .inl rfl|exact .inr rfl) rfl (by first|exact rT rfl|exact rCA rfl rfl rfl rfl (by simp)|exact rCC rfl rfl rfl rfl rfl) ?_ (Le.head ([]) (by first|exact fun l h=>absurd h (hD l)|(intro l h;rcases hD l h with rfl;simp[tauL])|(intro l h;rcases hD l h with rfl|rfl<;>simp[tauL];done)|(intro l h;rcases hD l h with rfl|rfl|rfl<;>simp[tauL])) ?_ ?_ (by simp) (by simp) (by simp[AllP]) (n':=1000));(· simp[wi, *];done))<;>(repeat' (first|exact trivial|exact ARs.nil|refine ARs.cons ?_ ?_|exact AR.dead _|exact AR.dd _|exact AR.i (by (try dsimp only);omega)|exact AR.ptr _ _ _ _ (by simp[heapL,upd])|exact AR.own _ _ _ _ (by simp[heapL,upd])|refine AR.ownE _ _ _ ?_ (by simp[heapL,upd])|refine ⟨⟨_,rfl,?_⟩,?_⟩|exact ObA.data|refine ObA.box ?_|refine ObA.frE ?_|refine ObA.dataE ?_|refine ARs.agg ?_|refine ARs.tup ?_|exact AR.clo' ARs.nil ARs.nil|exact AR.clo' ARs.nil (hca _ _)))
set_option maxHeartbeats 400000 in
theorem within_ac [Mode] (n lo hi:Int):AC Tryz.prog 78 [I n,I lo,I hi] H0 (Bo (wi n lo hi)) H0:=by
 refine AC.of_body 0 Tryz.func78 rfl (fun l h=>absurd rfl h) (fun C hC=>?_)
 have hD:∀ l,¬ C.D0 l:=fun l h=>(hC l).1 h rfl
 simp only[startFr,Tryz.ntmps78,List.length_cons,List.length_nil,Nat.reduceAdd,Nat.reduceSub,List.replicate_succ,List.replicate_zero,List.cons_append,List.nil_append]
 repeat' (first|refine AL.nil ?_|((first|apply AL.st|(apply AL.on;(· rfl);(· rfl))|(apply AD.st;(· exact nxE))|(apply AD.on;(· rfl);(· rfl);(· exact nxE)));(· first|exact Ok.pe);(· exact setE);(· first|exact updsE|exact rfl);(· exact nxE))|((first|apply AL.st0|(apply AD.st0;(· exact nxE)));(· first|exact Ok.e0);(· exact rfl);(· exact nxE))|((first|apply AL.off|apply AD.off);(· rfl);(· rfl);(· rfl);(· exact setE);(· exact nxE))|((first|refine AL.gsplit rfl rfl (fun h=>?_) (fun h=>?_)|refine AD.gsplit rfl rfl (fun h=>?_) (fun h=>?_))<;>try (exfalso;omega;done))|(first|refine AL.gsplitB rfl rfl (fun h=>?_) (fun h=>?_)|refine AD.gsplitB rfl rfl (fun h=>?_) (fun h=>?_))|refine AD.fin (by simp only[List.length_cons,List.length_nil,Nat.reduceAdd];rfl) rfl (by kernel_rfl) ?_|refine thenN ?_|refine AW.seq ?_|refine AW.reg ?_|refine AW.dr mixedA (by kernel_rfl) ?_|refine AW.block ?_|refine AW.condT rfl ?_|refine AW.condF rfl ?_|(refine AW.ite rfl (fun h=>?_) (fun h=>?_)<;>try (exfalso;omega;done))|refine AW.cond _ rfl (fun h=>?_) (fun h=>?_)|refine AW.ret ?_|refine AW.exit ?_|refine AW.skip ?_|refine thenR ?_|refine thenX ?_|refine blockN ?_|refine blockR ?_|refine blockX ?_|refine blockY (by decide) ?_)
 all_goals
  (refine end1p (by first|exact .inl rfl|exact .inr rfl) rfl (by first|exact rT rfl|exact rCA rfl rfl rfl rfl (by simp)|exact rCC rfl rfl rfl rfl rfl) ?_ (Le.head ([]) (by first|exact fun l h=>absurd h (hD l)|(intro l h;rcases hD l h with rfl;simp[tauL])|(intro l h;rcases hD l h with rfl|rfl<;>simp[tauL];done)|(intro l h;rcases hD l h with rfl|rfl|rfl<;>simp[tauL])) ?_ ?_ (by simp) (by simp) (by simp[AllP]) (n':=1000));(· simp[wi, *];done))<;>(repeat' (first|exact trivial|exact ARs.nil|refine ARs.cons ?_ ?_|exact AR.dead _|exact AR.dd _|exact AR.i (by (try dsimp only);omega)|exact AR.ptr _ _ _ _ (by simp[heapL,upd])|exact AR.own _ _ _ _ (by simp[heapL,upd])|refine AR.ownE _ _ _ ?_ (by simp[heapL,upd])|refine ⟨⟨_,rfl,?_⟩,?_⟩|exact ObA.data|refine ObA.box ?_|refine ObA.frE ?_|refine ObA.dataE ?_|refine ARs.agg ?_|refine ARs.tup ?_|exact AR.clo' ARs.nil ARs.nil|exact AR.clo' ARs.nil (hca _ _)))
end
section
open Go Go.RowKit
attribute [local irreducible] AL AD AW OpOk Le AC thenQ blockQ EndQ
abbrev own1 (k n:Nat):AV:=.own k ⟨0,[]⟩ 0 n
abbrev hp1 (o:AObj):Heap:=upd H0 ⟨0,[]⟩ (some o)
end
section
abbrev BOT:Int:=-1000000000000000
def tryAll {α:Type} (f:Nat→List α):List Nat→List α
 | []=>[]
 | v :: r=>if f v≠[] then f v else tryAll f r
theorem tryAll_ne {α:Type}{f:Nat→List α}:∀ {l:List Nat},tryAll f l≠[]↔∃ v∈l,f v≠[]
 | []=>by simp[tryAll]
 | v :: r=>by
  unfold tryAll
  split
  ·rename_i h;exact ⟨fun _=>⟨v,by simp,h⟩,fun _=>h⟩
  ·rename_i h
   rw[tryAll_ne]
   constructor
   ·rintro ⟨u,hu,h2⟩;exact ⟨u,by simp[hu],h2⟩
   ·rintro ⟨u,hu,h2⟩
    rcases List.mem_cons.1 hu with rfl|hu
    ·exact absurd h2 h
    ·exact ⟨u,hu,h2⟩
theorem tryAll_mem {α:Type}{f:Nat→List α}:∀ {l:List Nat},tryAll f l≠[]→∃ v∈l,f v≠[]∧tryAll f l=f v
 | [],h=>by simp[tryAll] at h
 | v :: r,h=>by
  unfold tryAll at h ⊢
  split
  ·rename_i h2;exact ⟨v,by simp,h2,rfl⟩
  ·rename_i h2
   rw[if_neg h2] at h
   obtain ⟨u,hu,h3,h4⟩:=tryAll_mem h
   exact ⟨u,by simp[hu],h3,h4⟩
def hdN (p:List Nat):Nat:=p.headD 0
def lsN (p:List Nat):Nat:=p.getLastD 0
def growF (a:Nat→Nat→Int) (n:Nat) (over:Int):Nat→List Nat→Int→List Nat
 | 0,_,_=>[]
 | k+1,path,w=>if a (hdN path) (lsN path)≠BOT∧over<w+a (hdN path) (lsN path) then path else
   tryAll (fun v=>if a v (lsN path)=BOT∨v∈path then [] else growF a n over k (path++[v]) (w+a v (lsN path))) (List.range' (hdN path+1) (n - (hdN path+1)))
def overF (a:Nat→Nat→Int) (n:Nat) (over:Int):List Nat:=tryAll (fun v=>growF a n over n [v] 0) (List.range' 0 n)
def pathP (a:Nat→Nat→Int) (c:List Nat):Prop:=∀ i,i+1<c.length→a (c.getD (i+1) 0) (c.getD i 0)≠BOT
structure Cyc (a:Nat→Nat→Int) (n:Nat) (c:List Nat):Prop where
 ne:c≠[]
 lt:∀ v∈c,v<n
 path:pathP a c
 close:a (hdN c) (lsN c)≠BOT
theorem lsN_getD {c:List Nat}:lsN c=c.getD (c.length - 1) 0:=by
 cases c with
 | nil=>rfl
 | cons x r=>
  unfold lsN
  rw[List.getLastD_eq_getLast?,List.getLast?_eq_getElem?,List.getD_eq_getElem?_getD]
theorem hdN_getD {c:List Nat}:hdN c=c.getD 0 0:=by cases c<;>rfl
theorem hdN_app {p q:List Nat} (h:p≠[]):hdN (p++q)=hdN p:=by cases p with|nil=>exact absurd rfl h|cons=>rfl
end
section
theorem nodup_le:∀ (n:Nat) (l:List Nat),l.Nodup→(∀ x∈l,x<n)→l.length≤n
 | 0,l,_,h=>by
  cases l with
  | nil=>simp
  | cons x r=>have:=h x (by simp);omega
 | n+1,l,hn,h=>by
  by_cases hm:n∈l
  ·have h1:=nodup_le n (l.erase n) (hn.erase n) (fun x hx=>by
    have h2:=(hn.mem_erase_iff).1 hx
    have:=h x h2.2
    omega)
   have:=List.length_erase_of_mem hm
   omega
  ·have:=nodup_le n l hn (fun x hx=>by
    have h1:=h x hx
    have:x≠n:=fun e=>hm (e▸hx)
    omega)
   omega
def iter (f:Nat→Nat):Nat→Nat→Nat
 | 0,x=>x
 | k+1,x=>f (iter f k x)
theorem iter_add (f:Nat→Nat):∀ (i j x:Nat),iter f (i+j) x=iter f i (iter f j x)
 | 0,j,x=>by simp[iter]
 | i+1,j,x=>by rw[show i+1+j=(i+j)+1 by omega];simp only[iter];rw[iter_add f i j x]
theorem exists_min (p:Nat→Prop):∀ (m:Nat),p m→∃ k,p k∧∀ j,p j→k≤j:=by
 intro m
 induction m using Nat.strongRecOn with
 | _ m ih=>
  intro hm
  by_cases h:∃ j,j<m∧p j
  ·obtain ⟨j,hj,hp⟩:=h;exact ih j hj hp
  ·exact ⟨m,hm,fun j hp=>by
    apply Classical.byContradiction
    intro hlt
    exact h ⟨j,by omega,hp⟩⟩
def nextE (w:Nat→Nat→Bool) (n:Nat) (ord:List Nat):Option Nat:=(List.range n).find? fun e=>!ord.contains e&&(List.range n).all fun u=>!w e u || ord.contains u
structure OrdOk (w:Nat→Nat→Bool) (n:Nat) (ord:List Nat):Prop where
 nd:ord.Nodup
 lt:∀ x∈ord,x<n
 wait:∀ i,i<ord.length→∀ u,u<n→w (ord.getD i 0) u=true→u∈ord.take i
theorem OrdOk.nil {w:Nat→Nat→Bool}{n:Nat}:OrdOk w n []:=⟨List.nodup_nil,fun x h=>(by cases h),fun i h=>(by simp at h)⟩
theorem nextE_some {w:Nat→Nat→Bool}{n:Nat}{ord:List Nat}{e:Nat} (h:nextE w n ord=some e):e<n∧e∉ord∧∀ u,u<n→w e u=true→u∈ord:=by
 have h1:=List.mem_of_find?_eq_some h
 have h2:=List.find?_some h
 simp at h1 h2
 refine ⟨h1,h2.1,fun u hu hw=>?_⟩
 rcases h2.2 u hu with h3|h3
 ·rw[h3] at hw;cases hw
 ·exact h3
theorem OrdOk.snoc {w:Nat→Nat→Bool}{n:Nat}{ord:List Nat}{e:Nat} (h:OrdOk w n ord) (hx:nextE w n ord=some e):OrdOk w n (ord++[e]):=by
 obtain ⟨h1,h2,h3⟩:=nextE_some hx
 refine ⟨?_,fun x hx=>?_,fun i hi u hu hw=>?_⟩
 ·rw[List.nodup_append]
  exact ⟨h.nd,by simp,fun a ha b hb=>by simp at hb;subst hb;intro e2;subst e2;exact h2 ha⟩
 ·rcases List.mem_append.1 hx with hx|hx
  ·exact h.lt x hx
  ·simp at hx;omega
 ·by_cases hil:i<ord.length
  ·have:=h.wait i hil u hu (by simpa [List.getD_eq_getElem?_getD,List.getElem?_append_left hil] using hw)
   rwa [List.take_append_of_le_length (by omega)]
  ·simp at hi
   have hie:i=ord.length:=by omega
   subst hie
   have hw':w e u=true:=by simpa [List.getD_eq_getElem?_getD] using hw
   rw[List.take_append_of_le_length (Nat.le_refl _),List.take_length]
   exact h3 u hu hw'
end
section
open Go Go.RowKit
attribute [local irreducible] AL AD AW OpOk Le AC thenQ blockQ EndQ
abbrev IR (xs:List Int):List (List D):=xs.map fun n=>[DI n]
theorem IR_len [Mode] {xs:List Int}:(IR xs).length=xs.length:=by simp[IR]
theorem IR_get [Mode] {xs:List Int}{k:Nat}{x:Int} (h:xs[k]? = some x):(IR xs)[((k:Nat):Int).toNat]? = some [DI x]:=by simp[IR,h]
theorem IR_app [Mode] {xs ys:List Int}:IR (xs++ys)=IR xs++IR ys:=by simp[IR]
theorem IR_all [Mode] {xs:List Int}:∀ r∈IR xs,(r.map AV.d).all AV.one=true:=fun r hr=>by obtain ⟨p,_,rfl⟩:=List.mem_map.1 hr;rfl
theorem IR_row [Mode] {xs:List Int}:∀ r∈IR xs,r.length=1:=fun r hr=>by obtain ⟨p,_,rfl⟩:=List.mem_map.1 hr;rfl
theorem IR_plain [Mode] {xs:List Int}:∀ r∈IR xs,∀ c∈r,∃ v,c=D.v v:=fun r hr c hc=>by
 obtain ⟨p,_,rfl⟩:=List.mem_map.1 hr
 simp at hc;exact ⟨_,hc⟩
abbrev IL (xs:List Int):AV:=.d (.sl 1 (IR xs))
abbrev IO (xs:List Int):AObj:=dobj 1 (IR xs)
abbrev TR (t:List (List Int)):List (List (List D)):=t.map IR
abbrev TD (t:List (List Int)):D:=.sl 1 (mRows 1 (TR t))
abbrev TL (t:List (List Int)):AV:=.d (TD t)
theorem TR_len [Mode] {t:List (List Int)}:(TR t).length=t.length:=by simp[TR]
theorem mTR_len [Mode] {t:List (List Int)}:(mRows 1 (TR t)).length=t.length:=by simp[TR,mRows]
theorem TR_get [Mode] {t:List (List Int)}{k:Nat}{r:List Int} (h:t[k]? = some r):(mRows 1 (TR t))[((k:Nat):Int).toNat]? = some [.sl 1 (IR r)]:=by simp[TR,mRows,h]
theorem TR_plain [Mode] {t:List (List Int)}:plainR (TR t):=fun x hx r hr c hc=>by
 obtain ⟨y,_,rfl⟩:=List.mem_map.1 hx
 exact IR_plain r hr c hc
def wiB (xs:List Int) (most lo hi:Int):Bool:=xs.all (fun x=>wi x lo hi)&&decide ((xs.length:Int)≤most)
theorem l01Within_ac [Mode] (xs:List Int) (most lo hi:Int) (hn:xs.length≤100000000):AC Tryz.prog 185 [IL xs,I most,I lo,I hi] H0 (Bo (wiB xs most lo hi)) H0:=by
 refine AC.of_body 0 Tryz.func185 rfl (fun l h=>absurd rfl h) (fun C hC=>?_)
 have hD:∀ l,¬ C.D0 l:=fun l h=>(hC l).1 h rfl
 simp only[startFr,Tryz.ntmps185,List.length_cons,List.length_nil,Nat.reduceAdd,Nat.reduceSub,List.replicate_succ,List.replicate_zero,List.cons_append,List.nil_append]
 repeat' (first|((first|apply Ba|(apply Bb;(· rfl);(· rfl))|(apply Bc;(· exact nxE))|(apply Bd;(· rfl);(· rfl);(· exact nxE)));(· first|exact Ok.pe))|((first|apply Ca|(apply Cb;(· exact nxE)));(· first|exact Ok.e0))|refine Sx ?_|(refine Sy (fun h=>?_) (fun h=>?_)<;>try (exfalso;omega;done))|refine Sz (fun h=>?_) (fun h=>?_))
 refine AW.loop (X:={k:Nat // k≤xs.length∧xs.all (fun x=>wi x lo hi)=(xs.drop k).all (fun x=>wi x lo hi)}) (fun k=>⟨[IL xs,I most,I lo,I hi,Oo,Oo,Oo,Oo,Oo,I (k.1:Nat),Oo,Oo,Oo,Oo,Oo,Oo,Oo,Oo,Oo,Oo,Oo,Oo,Oo,Oo,Oo,Oo,Oo,Oo],heapL [],900⟩) (fun k=>xs.length - k.1) ⟨0,Nat.zero_le _,by simp⟩ ?_ (fun k=>?_)
 ·
  (apply Le.headZ [] rfl)
  all_goals (try dsimp only[srcs])
  (case' hfr|hob=>(repeat' (first|refine La ?_ ?_|exact Lc|refine Lo ?_|refine ⟨⟨_,rfl,?_⟩,?_⟩|refine Lx ?_)))
  all_goals (first|(rfl)|exact Ld)
 obtain ⟨k,hk,hall⟩:=k
 simp only
 by_cases hlt:k<xs.length
 ·obtain ⟨x,hx⟩:∃ x,xs[k]? = some x:=⟨xs[k],by simp⟩
  have hrow:=IR_get hx
  repeat' (first|((first|apply Ba|(apply Bb;(· rfl);(· rfl))|(apply Bc;(· exact nxE))|(apply Bd;(· rfl);(· rfl);(· exact nxE)));(· first|exact Kz rfl rfl (l01In_ac _ _ _) (Ad (Ad (Ad An)))|exact Ok.pe))|((first|apply Ca|(apply Cb;(· exact nxE)));(· first|exact Ok.e0))|refine Sx ?_|(refine Sy (fun h=>?_) (fun h=>?_)<;>try (exfalso;omega;done))|refine Sz (fun h=>?_) (fun h=>?_))
  ·
   refine Ya ?_
   (apply Le.headZ (hs:=[]) [] rfl)
   all_goals (try dsimp only[srcs])
   (case' hfr=>(repeat' (first|refine La ?_ ?_|exact Lc|refine Lo ?_|refine ⟨⟨_,rfl,?_⟩,?_⟩|refine Lx ?_)))
   all_goals (first|exact Ld|exact trivial|((unfold wiB;rw[all_no hx (by simpa using h)];simp;done)))
  ·refine ⟨⟨k+1,by omega,all_step hx hall (by simpa using h)⟩,?_,by simp only;omega⟩
   (apply Le.headZ [] rfl)
   all_goals (try dsimp only[srcs])
   (case' hfr|hob=>(repeat' (first|refine La ?_ ?_|exact Lc|refine Lo ?_|refine ⟨⟨_,rfl,?_⟩,?_⟩|refine Lx ?_)))
   all_goals (first|(rfl)|exact Ld)
 ·
  have hA:xs.all (fun x=>wi x lo hi)=true:=by rw[hall,List.drop_of_length_le (by omega)];rfl
  repeat' (first|((first|apply Ba|(apply Bb;(· rfl);(· rfl))|(apply Bc;(· exact nxE))|(apply Bd;(· rfl);(· rfl);(· exact nxE)));(· first|exact Ok.pe))|((first|apply Ca|(apply Cb;(· exact nxE)));(· first|exact Ok.e0))|refine Sx ?_|(refine Sy (fun h=>?_) (fun h=>?_)<;>try (exfalso;omega;done))|refine Sz (fun h=>?_) (fun h=>?_))
  refine Ya ?_
  (apply Le.headZ (hs:=[]) [] rfl)
  all_goals (try dsimp only[srcs])
  (case' hfr=>(repeat' (first|refine La ?_ ?_|exact Lc|refine Lo ?_|refine ⟨⟨_,rfl,?_⟩,?_⟩|refine Lx ?_)))
  all_goals (first|exact Ld|exact trivial|((unfold wiB;rw[hA];rfl)))
theorem l01Has_ac [Mode] (xs:List Int) (y:Int) (hn:xs.length≤100000000):AC Tryz.prog 70 [IL xs,I y] H0 (Bo (xs.any (fun x=>decide (x=y)))) H0:=by
 refine AC.of_body 0 Tryz.func70 rfl (fun l h=>absurd rfl h) (fun C hC=>?_)
 have hD:∀ l,¬ C.D0 l:=fun l h=>(hC l).1 h rfl
 simp only[startFr,Tryz.ntmps70,List.length_cons,List.length_nil,Nat.reduceAdd,Nat.reduceSub,List.replicate_succ,List.replicate_zero,List.cons_append,List.nil_append]
 repeat' (first|((first|apply Ba|(apply Bb;(· rfl);(· rfl))|(apply Bc;(· exact nxE))|(apply Bd;(· rfl);(· rfl);(· exact nxE)));(· first|exact Ok.pe))|((first|apply Ca|(apply Cb;(· exact nxE)));(· first|exact Ok.e0))|refine Sx ?_|(refine Sy (fun h=>?_) (fun h=>?_)<;>try (exfalso;omega;done))|refine Sz (fun h=>?_) (fun h=>?_))
 refine AW.loop (X:={k:Nat // k≤xs.length∧xs.any (fun x=>decide (x=y))=(xs.drop k).any (fun x=>decide (x=y))}) (fun k=>⟨[IL xs,I y,Oo,Oo,Oo,I (k.1:Nat),Oo,Oo,Oo,Oo,Oo,Oo,Oo,Oo,Oo,Oo,Oo,Oo],heapL [],900⟩) (fun k=>xs.length - k.1) ⟨0,Nat.zero_le _,by simp⟩ ?_ (fun k=>?_)
 ·
  (apply Le.headZ [] rfl)
  all_goals (try dsimp only[srcs])
  (case' hfr|hob=>(repeat' (first|refine La ?_ ?_|exact Lc|refine Lo ?_|refine ⟨⟨_,rfl,?_⟩,?_⟩|refine Lx ?_)))
  all_goals (first|(rfl)|exact Ld)
 obtain ⟨k,hk,hall⟩:=k
 simp only
 by_cases hlt:k<xs.length
 ·obtain ⟨x,hx⟩:∃ x,xs[k]? = some x:=⟨xs[k],by simp⟩
  have hrow:=IR_get hx
  have hdr:xs.drop k=x :: xs.drop (k+1):=by
   obtain ⟨hk',rfl⟩:=List.getElem?_eq_some_iff.1 hx
   exact List.drop_eq_getElem_cons hk'
  repeat' (first|((first|apply Ba|(apply Bb;(· rfl);(· rfl))|(apply Bc;(· exact nxE))|(apply Bd;(· rfl);(· rfl);(· exact nxE)));(· first|exact Ok.pe))|((first|apply Ca|(apply Cb;(· exact nxE)));(· first|exact Ok.e0))|refine Sx ?_|(refine Sy (fun h=>?_) (fun h=>?_)<;>try (exfalso;omega;done))|refine Sz (fun h=>?_) (fun h=>?_))
  ·
   refine Ya ?_
   (apply Le.headZ (hs:=[]) [] rfl)
   all_goals (try dsimp only[srcs])
   (case' hfr=>(repeat' (first|refine La ?_ ?_|exact Lc|refine Lo ?_|refine ⟨⟨_,rfl,?_⟩,?_⟩|refine Lx ?_)))
   all_goals (first|exact Ld|exact trivial|((rw[hall,hdr];simp[h])))
  ·refine ⟨⟨k+1,by omega,by rw[hall,hdr];simp[h]⟩,?_,by simp only;omega⟩
   (apply Le.headZ [] rfl)
   all_goals (try dsimp only[srcs])
   (case' hfr|hob=>(repeat' (first|refine La ?_ ?_|exact Lc|refine Lo ?_|refine ⟨⟨_,rfl,?_⟩,?_⟩|refine Lx ?_)))
   all_goals (first|(rfl)|exact Ld)
 ·
  repeat' (first|((first|apply Ba|(apply Bb;(· rfl);(· rfl))|(apply Bc;(· exact nxE))|(apply Bd;(· rfl);(· rfl);(· exact nxE)));(· first|exact Ok.pe))|((first|apply Ca|(apply Cb;(· exact nxE)));(· first|exact Ok.e0))|refine Sx ?_|(refine Sy (fun h=>?_) (fun h=>?_)<;>try (exfalso;omega;done))|refine Sz (fun h=>?_) (fun h=>?_))
  refine Ya ?_
  (apply Le.headZ (hs:=[]) [] rfl)
  all_goals (try dsimp only[srcs])
  (case' hfr=>(repeat' (first|refine La ?_ ?_|exact Lc|refine Lo ?_|refine ⟨⟨_,rfl,?_⟩,?_⟩|refine Lx ?_)))
  all_goals (first|exact Ld|exact trivial|((rw[hall,List.drop_of_length_le (by omega)];rfl)))
theorem l01Own_ac [Mode] (xs:List Int) (hn:xs.length≤100000000):AC Tryz.prog 162 [IL xs] H0 (own1 1 xs.length) (hp1 (IO xs)):=by
 refine AC.of_body 0 Tryz.func162 rfl (fun l h=>absurd rfl h) (fun C hC=>?_)
 have hD:∀ l,¬ C.D0 l:=fun l h=>(hC l).1 h rfl
 simp only[startFr,Tryz.ntmps162,List.length_cons,List.length_nil,Nat.reduceAdd,Nat.reduceSub,List.replicate_succ,List.replicate_zero,List.cons_append,List.nil_append]
 repeat' (first|((first|apply Ba|(apply Bb;(· rfl);(· rfl))|(apply Bc;(· exact nxE))|(apply Bd;(· rfl);(· rfl);(· exact nxE)));(· first|exact Ok.appendD (rows:=[]) rfl rfl (by decide) rfl rfl rfl rfl IR_len IR_row IR_all (by omega) (by omega)|exact Ok.pe))|((first|apply Ca|(apply Cb;(· exact nxE)));(· first|exact Ok.appendD (rows:=[]) rfl rfl (by decide) rfl rfl rfl rfl IR_len IR_row IR_all (by omega) (by omega)|exact Ok.e0))|refine Sx ?_|(refine Sy (fun h=>?_) (fun h=>?_)<;>try (exfalso;omega;done))|refine Sz (fun h=>?_) (fun h=>?_))
 refine Ya ?_
 (apply Le.head [(⟨0,[]⟩,_,_)])
 (case' hfr|hob=>(repeat' (first|refine La ?_ ?_|exact Lc|refine Lo ?_|refine ⟨⟨_,rfl,?_⟩,?_⟩|refine Lx ?_)))
 all_goals (first|exact Ld|(rfl))
end
section
open Go Go.RowKit
attribute [local irreducible] AL AD AW OpOk Le AC thenQ blockQ EndQ
def entN (t:List (List Int)) (i j:Nat):Int:=(((t[i]?).getD [])[j]?).getD 0
structure Sq (t:List (List Int)) (n:Nat):Prop where
 l:t.length=n
 r:∀ r∈t,r.length=n
theorem Sq.get [Mode] {t:List (List Int)}{n i j:Nat} (h:Sq t n) (hi:i<n) (hj:j<n):∃ r,t[i]? = some r∧r[j]? = some (entN t i j)∧r.length=n:=by
 have h1:i<t.length:=by rw[h.l];exact hi
 have h2:=h.r t[i] (List.getElem_mem h1)
 refine ⟨t[i],List.getElem?_eq_getElem h1,?_,h2⟩
 unfold entN
 rw[List.getElem?_eq_getElem h1,Option.getD_some,List.getElem?_eq_getElem (by rw[h2];exact hj),Option.getD_some]
abbrev cN (p:List Nat):List Int:=p.map fun v:Nat=>(v:Int)
theorem any_cN [Mode] {p:List Nat}{v:Nat}:(cN p).any (fun x=>decide (x=(v:Int)))=decide (v∈p):=by
 rw[Bool.eq_iff_iff]
 simp only[List.any_map,List.any_eq_true,Function.comp_def,decide_eq_true_eq]
 constructor
 ·rintro ⟨x,hx,e⟩;have:x=v:=by omega
  subst this;exact hx
 ·intro h;exact ⟨v,h,rfl⟩
theorem range'_cons [Mode] {v n:Nat} (h:v<n):List.range' v (n - v)=v :: List.range' (v+1) (n - (v+1)):=by
 rw[show n - v=(n - (v+1))+1 by omega,List.range'_succ]
def bigB (t:List (List Int)):Prop:=∀ i j,entN t i j=-1000000000000000∨(-1000000000000≤entN t i j∧entN t i j≤1000000000000)
set_option maxHeartbeats 2000000 in
theorem l03Grow_ac [Mode] (t:List (List Int)) (n:Nat) (ht:Sq t n) (hn:n≤1000) (hb:bigB t) (over:Int):∀ (k:Nat) (path:List Nat) (w:Int),path≠[]→(∀ v∈path,v<n)→path.Nodup→path.length+k=n+1→(-1000000000000*(path.length:Int)≤w∧w≤1000000000000*(path.length:Int))→
  AC Tryz.prog 178 [TL t,IL (cN path),I w,I over] H0 (IL (cN (growF (entN t) n over k path w))) H0
 | 0,path,w,h0,h1,h2,h3,_=>by
  have:=nodup_le n path h2 h1
  omega
 | k+1,path,w,h0,h1,h2,h3,hw=>by
  have ih:=l03Grow_ac t n ht hn hb over k
  have hpl:0<path.length:=List.length_pos_iff.2 h0
  have hpn:=nodup_le n path h2 h1
  have hfn:hdN path<n:=h1 _ (by rw[hdN_getD,List.getD_eq_getElem?_getD,List.getElem?_eq_getElem hpl];exact List.getElem_mem hpl)
  have hln:lsN path<n:=h1 _ (by rw[lsN_getD,List.getD_eq_getElem?_getD,List.getElem?_eq_getElem (by omega)];exact List.getElem_mem _)
  have h00:(IR (cN path))[(0:Int).toNat]? = some [DI (hdN path)]:=by
   rw[hdN_getD,List.getD_eq_getElem?_getD];simp[List.getElem?_eq_getElem hpl]
  have hls:(IR (cN path))[((path.length:Int) - 1).toNat]? = some [DI (lsN path)]:=by
   rw[lsN_getD,List.getD_eq_getElem?_getD,show ((path.length:Int) - 1).toNat=path.length - 1 by omega];simp[List.getElem?_eq_getElem (show path.length - 1<path.length by omega)]
  obtain ⟨rf,hf1,hf2,hf3⟩:=ht.get hfn hln
  have hf:=TR_get hf1
  have hfl:=IR_get hf2
  have hbf:=hb (hdN path) (lsN path)
  rw[growF,show BOT=-1000000000000000 from rfl]
  refine AC.of_body 0 Tryz.func178 rfl (fun l h=>absurd rfl h) (fun C hC=>?_)
  have hD:∀ l,¬ C.D0 l:=fun l h=>(hC l).1 h rfl
  simp only[startFr,Tryz.ntmps178,List.length_cons,List.length_nil,Nat.reduceAdd,Nat.reduceSub,List.replicate_succ,List.replicate_zero,List.cons_append,List.nil_append]
  repeat' (first|((first|apply Ba|(apply Bb;(· rfl);(· rfl))|(apply Bc;(· exact nxE))|(apply Bd;(· rfl);(· rfl);(· exact nxE)));(· first|exact Ok.pe))|((first|apply Ca|(apply Cb;(· exact nxE)));(· first|exact Ok.e0))|refine Sx ?_|(refine Sy (fun h=>?_) (fun h=>?_)<;>try (exfalso;omega;done))|refine Sz (fun h=>?_) (fun h=>?_))
  ·
   refine Ya ?_
   (apply Le.headZ (hs:=[]) [] rfl)
   all_goals (try dsimp only[srcs])
   (case' hfr=>(repeat' (first|refine La ?_ ?_|exact Lc|refine Lo ?_|refine ⟨⟨_,rfl,?_⟩,?_⟩|refine Lx ?_)))
   all_goals (first|exact Ld|exact trivial|((rw[if_pos ⟨by assumption,by assumption⟩];done)))
  all_goals
   have hno:¬ (entN t (hdN path) (lsN path)≠-1000000000000000∧over<w+entN t (hdN path) (lsN path)):=by omega
   simp only[if_neg hno]
   generalize hf0:(fun v=>if entN t v (lsN path)=-1000000000000000∨v∈path then [] else growF (entN t) n over k (path++[v]) (w+entN t v (lsN path)))=f
   refine AW.loop (X:={v:Nat // hdN path+1≤v∧v≤n∧tryAll f (List.range' (hdN path+1) (n - (hdN path+1)))=tryAll f (List.range' v (n - v))}) (fun v=>⟨[TL t,IL (cN path),I w,I over,Oo,Oo,Oo,Oo,Oo,Oo,I (lsN path:Nat),I (v.1:Nat),Oo,Oo,Oo,Oo,Oo,Oo,Oo,Oo,Oo,Oo,Oo,Oo,Oo,Oo,Oo,Oo,Oo,Oo,Oo,Oo,Oo,Oo,Oo,Oo,Oo,Oo,Oo,Oo,Oo,Oo,Oo,Oo,Oo,Oo,Oo,Oo,Oo,Oo,Oo,Oo,Oo,Oo,Oo,Oo,Oo,Oo,Oo,Oo,Oo,Oo,Oo,Oo,Oo,Oo,Oo,Oo,Oo,Oo,Oo,Oo,Oo,Oo,Oo,Oo,Oo,Oo,Oo,Oo,Oo,Oo,Oo,Oo,Oo,Oo],heapL [],900⟩) (fun v=>n - v.1) ⟨hdN path+1,Nat.le_refl _,by omega,rfl⟩ ?_ (fun v=>?_)
   ·
    (apply Le.headZ [] rfl)
    all_goals (try dsimp only[srcs])
    (case' hfr|hob=>(repeat' (first|refine La ?_ ?_|exact Lc|refine Lo ?_|refine ⟨⟨_,rfl,?_⟩,?_⟩|refine Lx ?_)))
    all_goals (first|(rfl)|exact Ld)
   obtain ⟨v,hv1,hv2,hv3⟩:=v
   simp only
   have htl:=ht.l
   by_cases hlt:v<n
   ·obtain ⟨rv,hv4,hv5,hv6⟩:=ht.get hlt hln
    have hvr:=TR_get hv4
    have hvl:=IR_get hv5
    have hbv:=hb v (lsN path)
    have hst:=range'_cons hlt
    rw[hst,tryAll] at hv3
    have hfv:f v=if entN t v (lsN path)=-1000000000000000∨v∈path then [] else growF (entN t) n over k (path++[v]) (w+entN t v (lsN path)):=by rw[← hf0]
    have hH:=l01Has_ac (cN path) (v:Int) (by simp;omega)
    rw[any_cN] at hH
    by_cases hskip:entN t v (lsN path)=-1000000000000000∨v∈path
    ·rw[if_pos hskip] at hfv
     have hnx:tryAll f (List.range' (hdN path+1) (n - (hdN path+1)))=tryAll f (List.range' (v+1) (n - (v+1))):=by rw[hv3,hfv];simp
     repeat' (first|((first|apply Ba|(apply Bb;(· rfl);(· rfl))|(apply Bc;(· exact nxE))|(apply Bd;(· rfl);(· rfl);(· exact nxE)));(· first|exact Kz rfl rfl (hH) (Ad (Ad An))|exact Ok.pe))|((first|apply Ca|(apply Cb;(· exact nxE)));(· first|exact Ok.e0))|refine Sx ?_|(refine Sy (fun h=>?_) (fun h=>?_)<;>try (exfalso;omega;done))|refine Sz (fun h=>?_) (fun h=>?_))
     all_goals try (exfalso;rcases hskip with h5|h5<;>contradiction)
     all_goals
      refine ⟨⟨v+1,by omega,by omega,hnx⟩,?_,by simp only;omega⟩
      (apply Le.headZ [] rfl)
      all_goals (try dsimp only[srcs])
      (case' hfr|hob=>(repeat' (first|refine La ?_ ?_|exact Lc|refine Lo ?_|refine ⟨⟨_,rfl,?_⟩,?_⟩|refine Lx ?_)))
      all_goals (first|(rfl)|exact Ld)
    ·have hG:=ih (path++[v]) (w+entN t v (lsN path)) (by simp) (fun u hu=>by
      rcases List.mem_append.1 hu with hu|hu
      ·exact h1 u hu
      ·simp at hu;omega) (List.nodup_append.2 ⟨h2,by simp,fun a ha b hb e=>by simp at hb;subst hb;subst e;exact hskip (.inr ha)⟩) (by simp;omega) (by simp;omega)
     have happ:IR (cN (path++[v]))=IR (cN path)++[[DI v]]:=by simp
     unfold IL at hG
     rw[happ] at hG
     have hO:=l01Own_ac (cN path) (by simp;omega)
     rw[show (cN path).length=path.length by simp] at hO
     repeat' (first|((first|apply Ba|(apply Bb;(· rfl);(· rfl))|(apply Bc;(· exact nxE))|(apply Bd;(· rfl);(· rfl);(· exact nxE)));(· first|exact Kz rfl rfl (hH) (Ad (Ad An))|exact Zf rfl rfl (hG) (Sd (Sw (Sd (Sd Sn))))|exact Eo rfl rfl (hO) (Sd Sn)|exact Ok.append1 (row:=[DI v]) rfl rfl (by decide) rfl rfl (by simp;done) rfl rfl rfl (by rfl) (by omega) (by omega)|exact Ok.pe))|((first|apply Ca|(apply Cb;(· exact nxE)));(· first|exact Eo rfl rfl (hO) (Sd Sn)|exact Ok.append1 (row:=[DI v]) rfl rfl (by decide) rfl rfl (by simp;done) rfl rfl rfl (by rfl) (by omega) (by omega)|exact Ok.e0))|refine Sx ?_|(refine Sy (fun h=>?_) (fun h=>?_)<;>try (exfalso;omega;done))|refine Sz (fun h=>?_) (fun h=>?_))
     all_goals try (exfalso;first|exact hskip (.inl (by assumption))|exact hskip (.inr (by assumption)))
     ·
      refine Ya ?_
      (apply Le.headZ (hs:=[]) [] rfl)
      all_goals (try dsimp only[srcs])
      (case' hfr=>(repeat' (first|refine La ?_ ?_|exact Lc|refine Lo ?_|refine ⟨⟨_,rfl,?_⟩,?_⟩|refine Lx ?_)))
      all_goals (first|exact Ld|exact trivial|((rw[hv3,hfv,if_neg hskip,if_pos (by intro e;rw[e] at h;simp at h)];done)))
     ·have hnx:tryAll f (List.range' (hdN path+1) (n - (hdN path+1)))=tryAll f (List.range' (v+1) (n - (v+1))):=by
       rw[hv3,hfv,if_neg hskip,if_neg (by intro e;exact h (by have:=List.length_pos_iff.2 e;omega))]
      refine ⟨⟨v+1,by omega,by omega,hnx⟩,?_,by simp only;omega⟩
      (apply Le.headZ [] rfl)
      all_goals (try dsimp only[srcs])
      (case' hfr|hob=>(repeat' (first|refine La ?_ ?_|exact Lc|refine Lo ?_|refine ⟨⟨_,rfl,?_⟩,?_⟩|refine Lx ?_)))
      all_goals (first|(rfl)|exact Ld)
   ·
    rw[show n - v=0 by omega,List.range'_zero] at hv3
    rw[hv3]
    repeat' (first|((first|apply Ba|(apply Bb;(· rfl);(· rfl))|(apply Bc;(· exact nxE))|(apply Bd;(· rfl);(· rfl);(· exact nxE)));(· first|exact Ok.pe))|((first|apply Ca|(apply Cb;(· exact nxE)));(· first|exact Ok.e0))|refine Sx ?_|(refine Sy (fun h=>?_) (fun h=>?_)<;>try (exfalso;omega;done))|refine Sz (fun h=>?_) (fun h=>?_))
    refine Ya ?_
    (apply Le.headZ (hs:=[]) [] rfl)
    all_goals (try dsimp only[srcs])
    (case' hfr=>(repeat' (first|refine La ?_ ?_|exact Lc|refine Lo ?_|refine ⟨⟨_,rfl,?_⟩,?_⟩|refine Lx ?_)))
    all_goals (first|exact Ld|exact trivial|(rfl))
end
section
open Go Go.RowKit
attribute [local irreducible] AL AD AW OpOk Le AC thenQ blockQ EndQ
abbrev mi1 (l:Loc) (R:List (List (List D))):MI:={ l:=l,k:=1,R:=R,src:=l,base:=l }
def botT (m n:Nat):List (List Int):=List.replicate m (List.replicate n BOT)
theorem botT_succ [Mode] {i n:Nat}:TR (botT (i+1) n)=TR (botT i n)++[IR (List.replicate n BOT)]:=by
 simp[botT,List.replicate_succ']
theorem repl_succ [Mode] {i:Nat}{b:Int}:IR (List.replicate (i+1) b)=IR (List.replicate i b)++[[DI b]]:=by
 simp[List.replicate_succ']
theorem IR_len_repl [Mode] {i:Nat}{b:Int}:(IR (List.replicate i b)).length=i:=by simp
theorem l02Bottom_ac [Mode] (m n:Nat) (hm:m≤1000000) (hn:n≤1000000):AC Tryz.prog 145 [I m,I n] H0 (own1 1 m) (hpM 1 (TR (botT m n))):=by
 refine AC.of_body 0 Tryz.func145 rfl (fun l h=>absurd rfl h) (fun C hC=>?_)
 have hD:∀ l,¬ C.D0 l:=fun l h=>(hC l).1 h rfl
 simp only[startFr,Tryz.ntmps145,List.length_cons,List.length_nil,Nat.reduceAdd,Nat.reduceSub,List.replicate_succ,List.replicate_zero,List.cons_append,List.nil_append]
 repeat' (first|((first|apply Ba|(apply Bb;(· rfl);(· rfl))|(apply Bc;(· exact nxE))|(apply Bd;(· rfl);(· rfl);(· exact nxE)));(· first|exact Ok.pe))|((first|apply Ca|(apply Cb;(· exact nxE)));(· first|exact Ok.e0))|refine Sx ?_|(refine Sy (fun h=>?_) (fun h=>?_)<;>try (exfalso;omega;done))|refine Sz (fun h=>?_) (fun h=>?_))
 refine AW.loop (X:={k:Nat // k≤m}) (fun k=>⟨[I m,I n,Oo,Oo,Oo,.own 1 ⟨1,[]⟩ 0 (k.1:Nat),I (k.1:Nat),Oo,Oo,Oo,Oo,Oo,Oo,Oo,Oo,Oo,Oo,Oo,Oo,Oo,Oo,Oo,Oo,Oo,Oo,Oo,Oo,Oo,Oo],heapX [] [mi1 ⟨1,[]⟩ (TR (botT k.1 n))],900⟩) (fun k=>m - k.1) ⟨0,Nat.zero_le _⟩ ?_ (fun k=>?_)
 ·
  (apply Le.headG [] [{ l:=⟨1,[]⟩,k:=1,R:=TR (botT 0 n),src:=⟨1,[]⟩,base:=⟨1,[]⟩ }] (fun _=>False))
  (case' hlen=>rfl)
  (case' hms=>rfl)
  all_goals (try dsimp only[srcs])
  (case' hfr|hob=>(repeat' (first|refine La ?_ ?_|exact Lc|refine Lo ?_|refine ⟨⟨_,rfl,?_⟩,?_⟩|refine Lx ?_)))
  (case' hok=>first|exact ⟨MI.ok_same rfl (fun i x hx=>by simp[botT] at hx),trivial⟩|exact trivial)
  (case' hN=>rfl)
  (case' hS=>rfl)
  all_goals (first|exact Ld|(rfl))
 obtain ⟨i,hi⟩:=k
 simp only
 by_cases hlt:i<m
 ·
  repeat' (first|((first|apply Ba|(apply Bb;(· rfl);(· rfl))|(apply Bc;(· exact nxE))|(apply Bd;(· rfl);(· rfl);(· exact nxE)));(· first|exact Ok.pe))|((first|apply Ca|(apply Cb;(· exact nxE)));(· first|exact Ok.e0))|refine Sx ?_|(refine Sy (fun h=>?_) (fun h=>?_)<;>try (exfalso;omega;done))|refine Sz (fun h=>?_) (fun h=>?_))
  refine AW.loop (X:={k:Nat // k≤n}) (fun k=>⟨[I m,I n,Oo,Oo,Oo,.own 1 ⟨1,[]⟩ 0 i,I i,.own 1 ⟨2,[]⟩ 0 (k.1:Nat),I (k.1:Nat),Oo,Oo,Oo,Oo,Oo,Oo,Oo,Oo,Oo,Oo,Oo,Oo,Oo,Oo,Oo,Oo,Oo,Oo,Oo,Oo],heapX [(⟨2,[]⟩,⟨2,[]⟩,IO (List.replicate k.1 BOT))] [mi1 ⟨1,[]⟩ (TR (botT i n))],900⟩) (fun k=>n - k.1) ⟨0,Nat.zero_le _⟩ ?_ (fun k=>?_)
  ·
   (apply Le.headG [_] [mi1 ⟨1,[]⟩ (TR (botT i n))] (fun _=>False))
   (case' hlen=>rfl)
   (case' hms=>rfl)
   all_goals (try dsimp only[srcs])
   (case' hfr|hob=>(repeat' (first|refine La ?_ ?_|exact Lc|refine Lo ?_|refine ⟨⟨_,rfl,?_⟩,?_⟩|refine Lx ?_)))
   (case' hok=>first|exact ⟨MI.ok_same rfl (Cg),trivial⟩|exact trivial)
   (case' hN=>rfl)
   (case' hS=>rfl)
   all_goals (first|exact Ld|(rfl))
  obtain ⟨j,hj⟩:=k
  simp only
  by_cases hlt2:j<n
  ·
   repeat' (first|((first|apply Ba|(apply Bb;(· rfl);(· rfl))|(apply Bc;(· exact nxE))|(apply Bd;(· rfl);(· rfl);(· exact nxE)));(· first|exact Ok.append1 (row:=[DI BOT]) rfl rfl (by decide) rfl rfl IR_len_repl rfl rfl rfl (by rfl) (by omega) (by omega)|exact Ok.pe))|((first|apply Ca|(apply Cb;(· exact nxE)));(· first|exact Ok.append1 (row:=[DI BOT]) rfl rfl (by decide) rfl rfl IR_len_repl rfl rfl rfl (by rfl) (by omega) (by omega)|exact Ok.e0))|refine Sx ?_|(refine Sy (fun h=>?_) (fun h=>?_)<;>try (exfalso;omega;done))|refine Sz (fun h=>?_) (fun h=>?_))
   refine ⟨⟨j+1,by omega⟩,?_,by simp only;omega⟩
   (apply Le.headG [_] [mi1 ⟨1,[]⟩ (TR (botT i n))] (fun _=>False))
   (case' hlen=>rfl)
   (case' hms=>rfl)
   all_goals (try dsimp only[srcs])
   (case' hfr|hob=>(repeat' (first|refine La ?_ ?_|exact Lc|refine Lo ?_|refine ⟨⟨_,rfl,?_⟩,?_⟩|refine Lx ?_)))
   (case' hok=>first|exact ⟨MI.ok_same rfl (Cg),trivial⟩|exact trivial)
   (case' hN=>rfl)
   (case' hS=>rfl)
   all_goals (first|exact Ld|((rw[repl_succ])))
  ·
   have hjn:j=n:=by omega
   subst hjn
   repeat' (first|((first|apply Ba|(apply Bb;(· rfl);(· rfl))|(apply Bc;(· exact nxE))|(apply Bd;(· rfl);(· rfl);(· exact nxE)));(· first|exact Ok.appendT rfl rfl (by decide) rfl rfl rfl (by simp[outer_len,botT];done) rfl rfl (by rfl) (by omega) (by omega) rfl|exact Ok.pe))|((first|apply Ca|(apply Cb;(· exact nxE)));(· first|exact Ok.appendT rfl rfl (by decide) rfl rfl rfl (by simp[outer_len,botT];done) rfl rfl (by rfl) (by omega) (by omega) rfl|exact Ok.e0))|refine Sx ?_|(refine Sy (fun h=>?_) (fun h=>?_)<;>try (exfalso;omega;done))|refine Sz (fun h=>?_) (fun h=>?_))
   refine ⟨⟨i+1,by omega⟩,?_,by simp only;omega⟩
   (apply Le.headG [] [{ l:=⟨1,[]⟩,k:=1,R:=TR (botT (i+1) j),src:=⟨906,[]⟩,base:=⟨1,[]⟩,cut:=i,ext:=some ⟨2,[]⟩ }] (fun _=>False))
   (case' hlen=>rfl)
   (case' hms=>rfl)
   all_goals (try dsimp only[srcs])
   (case' hfr|hob=>(repeat' (first|refine La ?_ ?_|exact Lc|refine Lo ?_|refine ⟨⟨_,rfl,?_⟩,?_⟩|refine Lx ?_)))
   (case' hok=>first|exact ⟨MI.ok_app botT_succ (by simp[botT]) IR_len_repl rfl (Cg) rfl,trivial⟩|exact trivial)
   (case' hN=>rfl)
   (case' hS=>rfl)
   all_goals (first|exact Ld|((simp[AllP,botT];done)))
 ·
  repeat' (first|((first|apply Ba|(apply Bb;(· rfl);(· rfl))|(apply Bc;(· exact nxE))|(apply Bd;(· rfl);(· rfl);(· exact nxE)));(· first|exact Ok.pe))|((first|apply Ca|(apply Cb;(· exact nxE)));(· first|exact Ok.e0))|refine Sx ?_|(refine Sy (fun h=>?_) (fun h=>?_)<;>try (exfalso;omega;done))|refine Sz (fun h=>?_) (fun h=>?_))
  have him:i=m:=by omega
  subst him
  refine Ya ?_
  (apply Le.headG [] [{ l:=⟨0,[]⟩,k:=1,R:=TR (botT i n),src:=⟨1,[]⟩,base:=⟨1,[]⟩ }] (fun _=>False))
  (case' hlen=>rfl)
  (case' hms=>rfl)
  all_goals (try dsimp only[srcs])
  (case' hfr|hob=>(repeat' (first|refine La ?_ ?_|exact Lc|refine Lo ?_|refine ⟨⟨_,rfl,?_⟩,?_⟩|refine Lx ?_)))
  (case' hok=>first|exact ⟨MI.ok_same rfl (Cg),trivial⟩|exact trivial)
  (case' hN=>rfl)
  (case' hS=>rfl)
  all_goals (first|exact Ld|(rfl))
end
section
open Go Go.RowKit
attribute [local irreducible] AL AD AW OpOk Le AC thenQ blockQ EndQ
def setT (t:List (List Int)) (i j:Nat) (v:Int):List (List Int):=t.set i ((t.getD i []).set j v)
theorem IR_set [Mode] {r:List Int}{j:Nat}{v:Int}:(IR r).set j [DI v]=IR (r.set j v):=by simp[List.map_set]
theorem Sq.setT [Mode] {t:List (List Int)}{n i j:Nat}{v:Int} (h:Sq t n):Sq (setT t i j v) n:=by
 refine ⟨by simp[Go.Proofs.YtkpoclbnnpglfaaGreat.setT,h.l],fun r hr=>?_⟩
 rcases List.mem_or_eq_of_mem_set hr with hr|rfl
 ·exact h.r r hr
 ·rw[List.length_set]
  cases hg:t[i]? with
  | none=>
   exfalso
   have:t.length≤i:=by simpa using hg
   unfold Go.Proofs.YtkpoclbnnpglfaaGreat.setT at hr
   rw[List.set_eq_of_length_le this] at hr
   rw[List.getD_eq_getElem?_getD,hg] at hr
   have h1:=h.r _ hr
   simp at h1
   have h2:=List.length_pos_of_mem hr
   rw[h.l] at h2;omega
  | some x=>rw[List.getD_eq_getElem?_getD,hg];exact h.r x (List.mem_of_getElem? hg)
theorem take_fold [Mode] {α β:Type}{f:β→α→β}{b:β}{xs:List α}{k:Nat}{x:α} (h:xs[k]? = some x):(xs.take (k+1)).foldl f b=f ((xs.take k).foldl f b) x:=by
 obtain ⟨hk,rfl⟩:=List.getElem?_eq_some_iff.1 h
 rw[List.take_succ_eq_append_getElem hk,List.foldl_append];rfl
def okPl (n:Nat) (p:Pl):Prop:=(0≤p.f∧p.f<n)∧(0≤p.t∧p.t<n)∧(0≤p.d∧p.d≤10000)∧(0≤p.k∧p.k≤5)
end
section
open Go Go.RowKit
attribute [local irreducible] AL AD AW OpOk Le AC thenQ blockQ EndQ
set_option maxHeartbeats 1000000 in
theorem l03Over_ac [Mode] (t:List (List Int)) (n:Nat) (ht:Sq t n) (hn:n≤1000) (hb:bigB t) (over:Int):AC Tryz.prog 157 [TL t,I over] H0 (IL (cN (overF (entN t) n over))) H0:=by
 have htl:=ht.l
 refine AC.of_body 0 Tryz.func157 rfl (fun l h=>absurd rfl h) (fun C hC=>?_)
 have hD:∀ l,¬ C.D0 l:=fun l h=>(hC l).1 h rfl
 simp only[startFr,Tryz.ntmps157,List.length_cons,List.length_nil,Nat.reduceAdd,Nat.reduceSub,List.replicate_succ,List.replicate_zero,List.cons_append,List.nil_append]
 repeat' (first|((first|apply Ba|(apply Bb;(· rfl);(· rfl))|(apply Bc;(· exact nxE))|(apply Bd;(· rfl);(· rfl);(· exact nxE)));(· first|exact Ok.pe))|((first|apply Ca|(apply Cb;(· exact nxE)));(· first|exact Ok.e0))|refine Sx ?_|(refine Sy (fun h=>?_) (fun h=>?_)<;>try (exfalso;omega;done))|refine Sz (fun h=>?_) (fun h=>?_))
 refine AW.loop (X:={k:Nat // k≤n∧overF (entN t) n over=tryAll (fun v=>growF (entN t) n over n [v] 0) (List.range' k (n - k))}) (fun k=>⟨[TL t,I over,Oo,Oo,Oo,I (k.1:Nat),Oo,Oo,Oo,Oo,Oo,Oo,Oo,Oo,Oo,Oo,Oo,Oo,Oo,Oo,Oo,Oo],heapL [],900⟩) (fun k=>n - k.1) ⟨0,Nat.zero_le _,rfl⟩ ?_ (fun k=>?_)
 ·
  (apply Le.headZ [] rfl)
  all_goals (try dsimp only[srcs])
  (case' hfr|hob=>(repeat' (first|refine La ?_ ?_|exact Lc|refine Lo ?_|refine ⟨⟨_,rfl,?_⟩,?_⟩|refine Lx ?_)))
  all_goals (first|(rfl)|exact Ld)
 obtain ⟨v,hv1,hv2⟩:=k
 simp only
 by_cases hlt:v<n
 ·rw[range'_cons hlt,tryAll] at hv2
  have hG:=l03Grow_ac t n ht hn hb over n [v] 0 (by simp) (by simpa using hlt) (by simp) (by simp;omega) (by simp)
  repeat' (first|((first|apply Ba|(apply Bb;(· rfl);(· rfl))|(apply Bc;(· exact nxE))|(apply Bd;(· rfl);(· rfl);(· exact nxE)));(· first|exact Zf rfl rfl (hG) (Sd (Sw (Sd (Sd Sn))))|exact Ok.pe))|((first|apply Ca|(apply Cb;(· exact nxE)));(· first|exact Ok.e0))|refine Sx ?_|(refine Sy (fun h=>?_) (fun h=>?_)<;>try (exfalso;omega;done))|refine Sz (fun h=>?_) (fun h=>?_))
  ·
   refine Ya ?_
   (apply Le.headZ (hs:=[]) [] rfl)
   all_goals (try dsimp only[srcs])
   (case' hfr=>(repeat' (first|refine La ?_ ?_|exact Lc|refine Lo ?_|refine ⟨⟨_,rfl,?_⟩,?_⟩|refine Lx ?_)))
   all_goals (first|exact Ld|exact trivial|((rw[hv2,if_pos (by intro e;rw[e] at h;simp at h)];done)))
  ·refine ⟨⟨v+1,by omega,by rw[hv2,if_neg (by intro e;exact h (by have:=List.length_pos_iff.2 e;simp;omega))]⟩,?_,by simp only;omega⟩
   (apply Le.headZ [] rfl)
   all_goals (try dsimp only[srcs])
   (case' hfr|hob=>(repeat' (first|refine La ?_ ?_|exact Lc|refine Lo ?_|refine ⟨⟨_,rfl,?_⟩,?_⟩|refine Lx ?_)))
   all_goals (first|(rfl)|exact Ld)
 ·
  rw[show n - v=0 by omega,List.range'_zero] at hv2
  rw[hv2]
  repeat' (first|((first|apply Ba|(apply Bb;(· rfl);(· rfl))|(apply Bc;(· exact nxE))|(apply Bd;(· rfl);(· rfl);(· exact nxE)));(· first|exact Ok.pe))|((first|apply Ca|(apply Cb;(· exact nxE)));(· first|exact Ok.e0))|refine Sx ?_|(refine Sy (fun h=>?_) (fun h=>?_)<;>try (exfalso;omega;done))|refine Sz (fun h=>?_) (fun h=>?_))
  refine Ya ?_
  (apply Le.headZ (hs:=[]) [] rfl)
  all_goals (try dsimp only[srcs])
  (case' hfr=>(repeat' (first|refine La ?_ ?_|exact Lc|refine Lo ?_|refine ⟨⟨_,rfl,?_⟩,?_⟩|refine Lx ?_)))
  all_goals (first|exact Ld|exact trivial|(rfl))
end
end Go.Proofs.YtkpoclbnnpglfaaGreat
