/-
  Walks in the abstract reading, part 1.
-/
import Derived.Test.YtkpoclbnnpglfaaGreatProg
import Derived.Test.YtkpoclbnnpglfaaGreatKtA1
import Derived.ProofKit
import Derived.Deep.Slices
import Derived.Test.YtkpoclbnnpglfaaGreatKtA2
import Derived.Test.YtkpoclbnnpglfaaGreatKtA3
set_option linter.unusedSimpArgs false
set_option linter.unusedVariables false
namespace Go.Proofs.YtkpoclbnnpglfaaGreat
section
open Go.RowKit Go.ChangeShapes Go.WideShapes Go.Deep
section
variable {H : Type} {enc : TypeId × Value → H} {w : World} {base : Nat} {spare : Nat → Bool} {held : Bool} {fuel : Nat} {cs : List Value} {x : DataW H × List MemPlace}
end
end
section
open Go Go.RowKit
theorem AC.below [Mode] {P:Program}{f:FuncId}{args:List AV}{vs:List Value}{w:World} (h:AC P f args H0 (Bo true) H0) (hv:VRs (fun _=>none) (fun b=>b<w.heap.size) w args vs) (hg:Mode.good w:=by exact True.intro):Calls P f vs.toArray w fun r w'=>r = .returned (.bool true)∧Below w.heap.size w w':=by
 refine (h (fun _=>none) (fun b=>b<w.heap.size) w vs ⟨fun l o h=>(by cases h),fun l l' b s s' h=>absurd rfl h,fun l b s h=>absurd rfl h,fun b h=>h,Glb.begin hg⟩ (fun _ _=>rfl) hv).mono ?_
 rintro e w' ⟨v,ι',F',rfl,hr,_,hst,_⟩
 have:=hr.v_inv
 subst this
 exact ⟨rfl,hst.os,hst.tape,hst.output,hst.size,fun b hb=>hst.block b hb fun ⟨l,hl,_⟩=>absurd rfl hl⟩
theorem cell_lt [Mode] {w:World}{a:Addr}{v:Value} (h:w.cell? a=some v):a.block<w.heap.size:=by
 refine Nat.lt_of_not_le fun hn=>?_
 have hb:w.heap[a.block]? = none:=by simp[hn]
 simp[World.cell?,hb] at h
theorem SlR.vr [Mode] {ι:Iota}{α:Type}{k:Nat}{enc:α→List Value}{row:α→List D} (hrow:∀ x,row x=(enc x).map .v) {w:World}{a:Option Addr}{xs:List α}{cap:Nat} (h:SlR w k enc a xs) (hc:xs.length≤cap):VR ι (fun b=>b<w.heap.size) w (.d (.sl k (xs.map row))) (.slice a xs.length cap):=by
 have hl:(xs.map row).length=xs.length:=by simp
 rw[← hl]
 have key:∀ (i:Nat) r (j:Nat) c,(xs.map row)[i]? = some r→r[j]? = some c→∃ x v,xs[i]? = some x∧(enc x)[j]? = some v∧c=D.v v:=fun (i:Nat) r (j:Nat) c hr hc=>by
  simp only[List.getElem?_map,Option.map_eq_some_iff] at hr
  obtain ⟨x,hx,rfl⟩:=hr
  rw[hrow] at hc
  simp only[List.getElem?_map,Option.map_eq_some_iff] at hc
  obtain ⟨v,hv,rfl⟩:=hc
  exact ⟨x,v,hx,hv,rfl⟩
 refine .d (.sl k _ a cap (fun i j=>((xs[i]?).bind fun x=>(enc x)[j]?).getD undef) (by rw[hl];exact hc) (fun i r j c hr hc=>?_) (fun i r j c hr hc=>?_))
 ·obtain ⟨x,v,hx,hv,rfl⟩:=key i r j c hr hc
  obtain ⟨b,off,e,hcell⟩:=h i x hx
  have h1:=hcell j v hv
  exact ⟨b,off,e,cell_lt h1,by simp only[hx,Option.bind_some,hv,Option.getD_some];exact h1⟩
 ·obtain ⟨x,v,hx,hv,rfl⟩:=key i r j c hr hc
  simp only[hx,Option.bind_some,hv,Option.getD_some]
  exact .v v
end
section
open Go.RowKit Go.ChangeShapes Go.WideShapes Go.Deep
def RdRow (w:World) (r:List D) (cs:List Value):Prop:=r.length=cs.length∧∀ (j:Nat) c v,r[j]? = some c→cs[j]? = some v→DR (fun b=>b<w.heap.size) w c v
theorem cell_lt2 {w:World}{a:Addr}{v:Value} (h:w.cell? a=some v):a.block<w.heap.size:=by
 unfold World.cell? at h
 split at h
 ·rename_i e;exact (Array.getElem?_eq_some_iff.1 e).1
 ·cases h
theorem RdRow.v {w:World} (v:Value):RdRow w [.v v] [v]:=⟨rfl,fun j c u hc hu=>by
 cases j with
 | zero=>simp at hc hu;subst hc;subst hu;exact .v _
 | succ j=>simp at hc⟩
theorem RdRow.one {w:World}{x:D}{v:Value} (h:DR (fun b=>b<w.heap.size) w x v):RdRow w [x] [v]:=⟨rfl,fun j c u hc hu=>by
 cases j with
 | zero=>simp at hc hu;subst hc;subst hu;exact h
 | succ j=>simp at hc⟩
theorem RdRow.nil {w:World}:RdRow w [] []:=⟨rfl,fun j c u hc hu=>by simp at hc⟩
theorem RdRow.app {w:World}{r r':List D}{cs cs':List Value} (h:RdRow w r cs) (h':RdRow w r' cs'):RdRow w (r++r') (cs++cs'):=by
 refine ⟨by simp[h.1,h'.1],fun j c u hc hu=>?_⟩
 by_cases hj:j<r.length
 ·rw[List.getElem?_append_left hj] at hc
  rw[List.getElem?_append_left (by rw[← h.1];exact hj)] at hu
  exact h.2 j c u hc hu
 ·rw[List.getElem?_append_right (by omega)] at hc
  rw[List.getElem?_append_right (by rw[← h.1];omega),← h.1] at hu
  exact h'.2 _ c u hc hu
theorem RdRow.cut {w:World}{r r':List D}{cs:List Value}{n:Nat} (h:RdRow w r ((cs.drop 0).take n)) (h':RdRow w r' (cs.drop n)):RdRow w (r++r') cs:=by
 have:=h.app h'
 rwa [List.drop_zero,List.take_append_drop] at this
theorem RdRow.agg {ι:Iota}{w:World}{r:List D}{cs:List Value} (h:RdRow w r cs):VR ι (fun b=>b<w.heap.size) w (.agg (r.map .d)) (.agg cs.toArray):=by
 refine .agg _ cs (by simp[h.1]) fun i c v hc hv=>?_
 simp only[List.getElem?_map,Option.map_eq_some_iff] at hc
 obtain ⟨x,hx,rfl⟩:=hc
 exact .d (h.2 i x v hx hv)
theorem RdRow.cell {ι:Iota}{w:World}{x:D}{v:Value} (h:RdRow w [x] [v]):VR ι (fun b=>b<w.heap.size) w (.d x) v:=.d (h.2 0 x v rfl rfl)
section
variable {H : Type} {enc : TypeId × Value → H} {w : World} {base : Nat} {spare : Nat → Bool} {held : Bool}
abbrev Rd (enc:TypeId × Value→H) (w:World) (base:Nat) (spare:Nat→Bool) (held:Bool) (t:TypeId) (S:List D→Prop):Prop:=
 ∀ {fuel:Nat}{cs:List Value}{x:DataW H × List MemPlace},DataW.trod enc Tryz.prog w base spare held fuel t cs=some x→∃ r,S r∧RdRow w r cs
def i64 (n:Int):Prop:=-9223372036854775808≤n∧n≤9223372036854775807
theorem rdc_slice {k:Nat}{t e:TypeId}{S:List D→Prop} (ht:Tryz.prog.underlying t=some (.slice e)) (hk:Tryz.prog.cellsOf e=k) (hk0:0<k) (hrd:Rd enc w base spare held e (fun r=>S r∧r.length=k)) :
  Rd enc w base spare held t (fun r=>∃ rows,rows.length≤maxLen∧(∀ r∈rows,S r)∧r=[.sl k rows]):=fun {fuel cs x} h=>by
 rcases open_slice ht h with ⟨hc,_⟩|⟨a,len,cap,m,n,DD,Q,hc,_,hl,hm,hmm,_,hi⟩
 ·subst hc
  exact ⟨_,⟨[],Nat.zero_le _,fun _ h=>by simp at h,rfl⟩,.one (.sl k [] none 0 (fun _ _=>undef) (Nat.le_refl _) (fun i r j c h=>by simp at h) (fun i r j c h=>by simp at h))⟩
 ·have hlm:len≤m:=by rw[hmm];split<;>omega
  rw[hk] at hi
  obtain ⟨f,hf⟩:=choose_lt (α:=List Value × List D) (p:=fun i p=>w.cells? base (a.add (i*k)) k=some p.1∧S p.2∧p.2.length=k∧RdRow w p.2 p.1) (n:=len) (fun i hi'=>by
   obtain ⟨cs',h1,h2⟩:=hi i (by omega)
   obtain ⟨r,⟨hs,hl⟩,hr⟩:=hrd h2
   exact ⟨(cs',r),h1,hs,hl,hr⟩)
  subst hc
  refine ⟨_,⟨(List.range len).map fun i=>(f i).2,by simp;omega,fun r hr=>?_,rfl⟩,?_⟩
  ·obtain ⟨i,hi',rfl⟩:=List.mem_map.1 hr
   exact (hf i (List.mem_range.1 hi')).2.1
  ·refine .one ?_
   have hget:∀ (i:Nat) r,((List.range len).map fun i=>(f i).2)[i]? = some r→i<len∧r=(f i).2:=fun i r hr=>by
    simp only[List.getElem?_map,Option.map_eq_some_iff] at hr
    obtain ⟨i',hi',rfl⟩:=hr
    obtain ⟨hlt,e1⟩:=List.getElem?_eq_some_iff.1 hi'
    simp at hlt e1
    subst e1
    exact ⟨hlt,rfl⟩
   have key:∀ (i:Nat) r j c,((List.range len).map fun i=>(f i).2)[i]? = some r→r[j]? = some c→i<len∧j<k∧(f i).2[j]? = some c∧∃ v,(f i).1[j]? = some v:=fun i r j c hr hc=>by
    obtain ⟨hlt,rfl⟩:=hget i r hr
    obtain ⟨h1,h2,h3,h4⟩:=hf i hlt
    have hj:j<k:=by rw[← h3];exact (List.getElem?_eq_some_iff.1 hc).1
    exact ⟨hlt,hj,hc,(f i).1[j]'(by rw[← h4.1,h3];exact hj),List.getElem?_eq_getElem _⟩
   have hlen:((List.range len).map fun i=>(f i).2).length=len:=by simp
   rw[show (Value.slice (some a) len cap) = .slice (some a) ((List.range len).map fun i=>(f i).2).length cap by rw[hlen]]
   refine .sl k _ (some a) cap (fun i j=>((f i).1[j]?).getD undef) (by rw[hlen];exact hl) (fun i r j c hr hc=>?_) (fun i r j c hr hc=>?_)
   ·obtain ⟨hlt,hj,hc',v,hv⟩:=key i r j c hr hc
    obtain ⟨_,_,hcell⟩:=World.cells?_some (hf i hlt).1
    have hsp:a.spot=none:=by
     obtain ⟨_,hl0,hc0⟩:=World.cells?_some (hf 0 (by omega)).1
     have h0:=hc0 0 hk0
     rw[List.getElem?_eq_getElem (by rw[hl0];exact hk0)] at h0
     cases hs:a.spot with
     | none=>rfl
     | some s=>
      exfalso
      simp[Addr.add,World.cell?,hs] at h0
      split at h0<;>simp at h0
    obtain ⟨b,off,sp⟩:=a
    simp only at hsp
    subst hsp
    have h1:=hcell j hj
    rw[hv] at h1
    have e:(Addr.add (Addr.add ⟨b,off,none⟩ (i*k)) j)=⟨b,off+i*k+j,none⟩:=by
     simp only[Addr.add]
     by_cases h1:i*k=0<;>by_cases h2:j=0<;>simp[h1,h2]
    rw[e] at h1
    exact ⟨b,off,rfl,cell_lt2 h1,by rw[hv];exact h1⟩
   ·obtain ⟨hlt,hj,hc',v,hv⟩:=key i r j c hr hc
    simp only[hv,Option.getD_some]
    exact (hf i hlt).2.2.2.2 j c v hc' hv
theorem Rd.mono {t:TypeId}{S S':List D→Prop} (h:Rd enc w base spare held t S) (hs:∀ r,S r→S' r):Rd enc w base spare held t S':=fun h'=>by
 obtain ⟨r,h1,h2⟩:=h h'
 exact ⟨r,hs _ h1,h2⟩
theorem rows_of {α:Type}{row:α→List D}{Q:α→Prop}:∀ {rows:List (List D)},(∀ r∈rows,∃ x,Q x∧r=row x)→∃ xs:List α,(∀ x∈xs,Q x)∧rows=xs.map row
 | [],_=>⟨[],fun _ h=>by simp at h,rfl⟩
 | r :: rows,h=>by
  obtain ⟨x,hx,rfl⟩:=h r (by simp)
  obtain ⟨xs,hxs,rfl⟩:=rows_of (rows:=rows) (fun r hr=>h r (by simp[hr]))
  exact ⟨x :: xs,fun y hy=>by
   rcases List.mem_cons.1 hy with rfl|hy
   ·exact hx
   ·exact hxs y hy,rfl⟩
theorem rdc_recs {α:Type}{k:Nat}{t e:TypeId}{row:α→List D}{Q:α→Prop} (ht:Tryz.prog.underlying t=some (.slice e)) (hk:Tryz.prog.cellsOf e=k) (hk0:0<k) (hl:∀ x,(row x).length=k) (hrd:Rd enc w base spare held e (fun r=>∃ x,Q x∧r=row x)) :
  Rd enc w base spare held t (fun r=>∃ xs:List α,xs.length≤maxLen∧(∀ x∈xs,Q x)∧r=[.sl k (xs.map row)]):=
 Rd.mono (rdc_slice (S:=fun r=>∃ x,Q x∧r=row x) ht hk hk0 (Rd.mono hrd (by rintro r ⟨x,hx,e⟩;exact ⟨⟨x,hx,e⟩,by rw[e,hl]⟩))) (by
  rintro r ⟨rows,h1,h2,h3⟩
  obtain ⟨xs,h4,rfl⟩:=rows_of h2
  exact ⟨xs,by simpa using h1,h4,h3⟩)
set_option maxRecDepth 100000 in
theorem rdt_slice {t e:TypeId}{S:List D→Prop}{r:Reach}{b0:Nat}{v:Value}{d:DataW H}{p:List MemPlace} (ht:Tryz.prog.underlying t=some (.slice e)) (hv:Value.okWide Tryz.prog w r b0 t v) (h:DataW.Trod enc Tryz.prog w base spare held t v d p) (hrd:Rd enc w base spare held t S):∃ r,S r∧RdRow w r [v]:=by
 obtain ⟨a,len,cap,rfl⟩:=okWide_slice ht hv
 obtain ⟨fuel,hf⟩:=h
 exact hrd hf
end
end
section
open Go.RowKit Go.ChangeShapes Go.WideShapes Go.Deep
section
variable {H : Type} {enc : TypeId × Value → H} {w : World} {base : Nat} {spare : Nat → Bool} {held : Bool}
theorem rdc_u8:Rd enc w base spare held 5 (fun r=>∃ n,(0≤n∧n≤255)∧r=[D.v (.int .u8 n)]):=fun h=>by
 obtain ⟨n,e,_,hw⟩:=DataW.trod_int Tryz.underlying5 h
 subst e
 refine ⟨_,⟨n,?_,rfl⟩,.v _⟩
 simp only[Lit.wf,Bool.and_eq_true,decide_eq_true_eq] at hw
 exact hw
theorem rdc_bytes:Rd enc w base spare held 22 (fun r=>∃ xs:List Int,xs.length≤maxLen∧(∀ x∈xs,0≤x∧x≤255)∧r=[.sl 1 (xs.map (fun n:Int=>[D.v (.int .u8 n)]))]):=
 rdc_recs (row:=(fun n:Int=>[D.v (.int .u8 n)])) (k:=1) (by kernel_rfl) (by kernel_rfl) (by decide) (fun _=>rfl) (Rd.mono rdc_u8 (by rintro r ⟨n,hn,rfl⟩;exact ⟨n,hn,rfl⟩))
end
end
section
open Go Go.RowKit
attribute [local irreducible] AL AD AW OpOk Le AC thenQ blockQ EndQ
set_option maxHeartbeats 400000 in
theorem l01In_ac [Mode] (n lo hi:Int):AC Tryz.prog 116 [I n,I lo,I hi] H0 (Bo (wi n lo hi)) H0:=by
 refine AC.of_body 0 Tryz.func116 rfl (fun l h=>absurd rfl h) (fun C hC=>?_)
 have hD:∀ l,¬ C.D0 l:=fun l h=>(hC l).1 h rfl
 simp only[startFr,Tryz.ntmps116,List.length_cons,List.length_nil,Nat.reduceAdd,Nat.reduceSub,List.replicate_succ,List.replicate_zero,List.cons_append,List.nil_append]
 repeat' (first|refine AL.nil ?_|((first|apply AL.st|(apply AL.on;(· rfl);(· rfl))|(apply AD.st;(· exact nxE))|(apply AD.on;(· rfl);(· rfl);(· exact nxE)));(· first|exact Ok.pe);(· exact setE);(· first|exact updsE|exact rfl);(· exact nxE))|((first|apply AL.st0|(apply AD.st0;(· exact nxE)));(· first|exact Ok.e0);(· exact rfl);(· exact nxE))|((first|apply AL.off|apply AD.off);(· rfl);(· rfl);(· rfl);(· exact setE);(· exact nxE))|((first|refine AL.gsplit rfl rfl (fun h=>?_) (fun h=>?_)|refine AD.gsplit rfl rfl (fun h=>?_) (fun h=>?_))<;>try (exfalso;omega;done))|(first|refine AL.gsplitB rfl rfl (fun h=>?_) (fun h=>?_)|refine AD.gsplitB rfl rfl (fun h=>?_) (fun h=>?_))|refine AD.fin (by simp only[List.length_cons,List.length_nil,Nat.reduceAdd];rfl) rfl (by kernel_rfl) ?_|refine thenN ?_|refine AW.seq ?_|refine AW.reg ?_|refine AW.dr mixedA (by kernel_rfl) ?_|refine AW.block ?_|refine AW.condT rfl ?_|refine AW.condF rfl ?_|(refine AW.ite rfl (fun h=>?_) (fun h=>?_)<;>try (exfalso;omega;done))|refine AW.cond _ rfl (fun h=>?_) (fun h=>?_)|refine AW.ret ?_|refine AW.exit ?_|refine AW.skip ?_|refine thenR ?_|refine thenX ?_|refine blockN ?_|refine blockR ?_|refine blockX ?_|refine blockY (by decide) ?_)
 all_goals
  (refine end1p (by first|exact .inl rfl|exact .inr rfl) rfl (by first|exact rT rfl|exact rCA rfl rfl rfl rfl (by simp)|exact rCC rfl rfl rfl rfl rfl) ?_ (Le.head ([]) (by first|exact fun l h=>absurd h (hD l)|(intro l h;rcases hD l h with rfl;simp[tauL])|(intro l h;rcases hD l h with rfl|rfl<;>simp[tauL];done)|(intro l h;rcases hD l h with rfl|rfl|rfl<;>simp[tauL])) ?_ ?_ (by simp) (by simp) (by simp[AllP]) (n':=1000));(· simp[wi, *];done))<;>(repeat' (first|exact trivial|exact ARs.nil|refine ARs.cons ?_ ?_|exact AR.dead _|exact AR.dd _|exact AR.i (by (try dsimp only);omega)|exact AR.ptr _ _ _ _ (by simp[heapL,upd])|exact AR.own _ _ _ _ (by simp[heapL,upd])|refine AR.ownE _ _ _ ?_ (by simp[heapL,upd])|refine ⟨⟨_,rfl,?_⟩,?_⟩|exact ObA.data|refine ObA.box ?_|refine ObA.frE ?_|refine ObA.dataE ?_|refine ARs.agg ?_|refine ARs.tup ?_|exact AR.clo' ARs.nil ARs.nil|exact AR.clo' ARs.nil (hca _ _)))
set_option maxHeartbeats 400000 in
theorem within_ac [Mode] (n lo hi:Int):AC Tryz.prog 78 [I n,I lo,I hi] H0 (Bo (wi n lo hi)) H0:=by
 refine AC.of_body 0 Tryz.func78 rfl (fun l h=>absurd rfl h) (fun C hC=>?_)
 have hD:∀ l,¬ C.D0 l:=fun l h=>(hC l).1 h rfl
 simp only[startFr,Tryz.ntmps78,List.length_cons,List.length_nil,Nat.reduceAdd,Nat.reduceSub,List.replicate_succ,List.replicate_zero,List.cons_append,List.nil_append]
 repeat' (first|refine AL.nil ?_|((first|apply AL.st|(apply AL.on;(· rfl);(· rfl))|(apply AD.st;(· exact nxE))|(apply AD.on;(· rfl);(· rfl);(· exact nxE)));(· first|exact Ok.pe);(· exact setE);(· first|exact updsE|exact rfl);(· exact nxE))|((first|apply AL.st0|(apply AD.st0;(· exact nxE)));(· first|exact Ok.e0);(· exact rfl);(· exact nxE))|((first|apply AL.off|apply AD.off);(· rfl);(· rfl);(· rfl);(· exact setE);(· exact nxE))|((first|refine AL.gsplit rfl rfl (fun h=>?_) (fun h=>?_)|refine AD.gsplit rfl rfl (fun h=>?_) (fun h=>?_))<;>try (exfalso;omega;done))|(first|refine AL.gsplitB rfl rfl (fun h=>?_) (fun h=>?_)|refine AD.gsplitB rfl rfl (fun h=>?_) (fun h=>?_))|refine AD.fin (by simp only[List.length_cons,List.length_nil,Nat.reduceAdd];rfl) rfl (by kernel_rfl) ?_|refine thenN ?_|refine AW.seq ?_|refine AW.reg ?_|refine AW.dr mixedA (by kernel_rfl) ?_|refine AW.block ?_|refine AW.condT rfl ?_|refine AW.condF rfl ?_|(refine AW.ite rfl (fun h=>?_) (fun h=>?_)<;>try (exfalso;omega;done))|refine AW.cond _ rfl (fun h=>?_) (fun h=>?_)|refine AW.ret ?_|refine AW.exit ?_|refine AW.skip ?_|refine thenR ?_|refine thenX ?_|refine blockN ?_|refine blockR ?_|refine blockX ?_|refine blockY (by decide) ?_)
 all_goals
  (refine end1p (by first|exact .inl rfl|exact .inr rfl) rfl (by first|exact rT rfl|exact rCA rfl rfl rfl rfl (by simp)|exact rCC rfl rfl rfl rfl rfl) ?_ (Le.head ([]) (by first|exact fun l h=>absurd h (hD l)|(intro l h;rcases hD l h with rfl;simp[tauL])|(intro l h;rcases hD l h with rfl|rfl<;>simp[tauL];done)|(intro l h;rcases hD l h with rfl|rfl|rfl<;>simp[tauL])) ?_ ?_ (by simp) (by simp) (by simp[AllP]) (n':=1000));(· simp[wi, *];done))<;>(repeat' (first|exact trivial|exact ARs.nil|refine ARs.cons ?_ ?_|exact AR.dead _|exact AR.dd _|exact AR.i (by (try dsimp only);omega)|exact AR.ptr _ _ _ _ (by simp[heapL,upd])|exact AR.own _ _ _ _ (by simp[heapL,upd])|refine AR.ownE _ _ _ ?_ (by simp[heapL,upd])|refine ⟨⟨_,rfl,?_⟩,?_⟩|exact ObA.data|refine ObA.box ?_|refine ObA.frE ?_|refine ObA.dataE ?_|refine ARs.agg ?_|refine ARs.tup ?_|exact AR.clo' ARs.nil ARs.nil|exact AR.clo' ARs.nil (hca _ _)))
set_option maxHeartbeats 400000 in
theorem l11Place_ac [Mode] (p:Pl) (ev:Int):AC Tryz.prog 140 [p.av,I ev] H0 (Bo (plB (IntKind.i64.wrap (ev - 1)) p)) H0:=by
 refine AC.of_body 0 Tryz.func140 rfl (fun l h=>absurd rfl h) (fun C hC=>?_)
 have hD:∀ l,¬ C.D0 l:=fun l h=>(hC l).1 h rfl
 simp only[startFr,Tryz.ntmps140,List.length_cons,List.length_nil,Nat.reduceAdd,Nat.reduceSub,List.replicate_succ,List.replicate_zero,List.cons_append,List.nil_append]
 repeat' (first|refine AL.nil ?_|((first|apply AL.st|(apply AL.on;(· rfl);(· rfl))|(apply AD.st;(· exact nxE))|(apply AD.on;(· rfl);(· rfl);(· exact nxE)));(· first|exact OpOk.call0 [] rfl rfl (l01In_ac _ _ _) (.inl rfl) (fun _=>by simp[rn]) (ARs.cons (AR.dd _) (ARs.cons (AR.dd _) (ARs.cons (AR.dd _) ARs.nil)))|exact Ok.pe);(· exact setE);(· first|exact updsE|exact rfl);(· exact nxE))|((first|apply AL.st0|(apply AD.st0;(· exact nxE)));(· first|exact Ok.e0);(· exact rfl);(· exact nxE))|((first|apply AL.off|apply AD.off);(· rfl);(· rfl);(· rfl);(· exact setE);(· exact nxE))|((first|refine AL.gsplit rfl rfl (fun h=>?_) (fun h=>?_)|refine AD.gsplit rfl rfl (fun h=>?_) (fun h=>?_))<;>try (exfalso;omega;done))|(first|refine AL.gsplitB rfl rfl (fun h=>?_) (fun h=>?_)|refine AD.gsplitB rfl rfl (fun h=>?_) (fun h=>?_))|refine AD.fin (by simp only[List.length_cons,List.length_nil,Nat.reduceAdd];rfl) rfl (by kernel_rfl) ?_|refine thenN ?_|refine AW.seq ?_|refine AW.reg ?_|refine AW.dr mixedA (by kernel_rfl) ?_|refine AW.block ?_|refine AW.condT rfl ?_|refine AW.condF rfl ?_|(refine AW.ite rfl (fun h=>?_) (fun h=>?_)<;>try (exfalso;omega;done))|refine AW.cond _ rfl (fun h=>?_) (fun h=>?_)|refine AW.ret ?_|refine AW.exit ?_|refine AW.skip ?_|refine thenR ?_|refine thenX ?_|refine blockN ?_|refine blockR ?_|refine blockX ?_|refine blockY (by decide) ?_)
 all_goals
  (refine end1p (by first|exact .inl rfl|exact .inr rfl) rfl (by first|exact rT rfl|exact rCA rfl rfl rfl rfl (by simp)|exact rCC rfl rfl rfl rfl rfl) ?_ (Le.head ([]) (by first|exact fun l h=>absurd h (hD l)|(intro l h;rcases hD l h with rfl;simp[tauL])|(intro l h;rcases hD l h with rfl|rfl<;>simp[tauL];done)|(intro l h;rcases hD l h with rfl|rfl|rfl<;>simp[tauL])) ?_ ?_ (by simp) (by simp) (by simp[AllP]) (n':=1000));(· simp[plB, *];done))<;>(repeat' (first|exact trivial|exact ARs.nil|refine ARs.cons ?_ ?_|exact AR.dead _|exact AR.dd _|exact AR.i (by (try dsimp only);omega)|exact AR.ptr _ _ _ _ (by simp[heapL,upd])|exact AR.own _ _ _ _ (by simp[heapL,upd])|refine AR.ownE _ _ _ ?_ (by simp[heapL,upd])|refine ⟨⟨_,rfl,?_⟩,?_⟩|exact ObA.data|refine ObA.box ?_|refine ObA.frE ?_|refine ObA.dataE ?_|refine ARs.agg ?_|refine ARs.tup ?_|exact AR.clo' ARs.nil ARs.nil|exact AR.clo' ARs.nil (hca _ _)))
set_option maxHeartbeats 400000 in
theorem isEvent_ac [Mode] (ev:Int) (xs:List Pl) (n:Int):AC Tryz.prog 112 [grD ev xs,I n] H0 (Bo (wi n 0 (IntKind.i64.wrap (ev - 1)))) H0:=by
 refine AC.of_body 0 Tryz.func112 rfl (fun l h=>absurd rfl h) (fun C hC=>?_)
 have hD:∀ l,¬ C.D0 l:=fun l h=>(hC l).1 h rfl
 simp only[startFr,Tryz.ntmps112,List.length_cons,List.length_nil,Nat.reduceAdd,Nat.reduceSub,List.replicate_succ,List.replicate_zero,List.cons_append,List.nil_append]
 repeat' (first|refine AL.nil ?_|((first|apply AL.st|(apply AL.on;(· rfl);(· rfl))|(apply AD.st;(· exact nxE))|(apply AD.on;(· rfl);(· rfl);(· exact nxE)));(· first|exact OpOk.call0 [] rfl rfl (within_ac _ _ _) (.inl rfl) (fun _=>by simp[rn]) (ARs.cons (AR.dd _) (ARs.cons (AR.dd _) (ARs.cons (AR.dd _) ARs.nil)))|exact Ok.pe);(· exact setE);(· first|exact updsE|exact rfl);(· exact nxE))|((first|apply AL.st0|(apply AD.st0;(· exact nxE)));(· first|exact Ok.e0);(· exact rfl);(· exact nxE))|((first|apply AL.off|apply AD.off);(· rfl);(· rfl);(· rfl);(· exact setE);(· exact nxE))|((first|refine AL.gsplit rfl rfl (fun h=>?_) (fun h=>?_)|refine AD.gsplit rfl rfl (fun h=>?_) (fun h=>?_))<;>try (exfalso;omega;done))|(first|refine AL.gsplitB rfl rfl (fun h=>?_) (fun h=>?_)|refine AD.gsplitB rfl rfl (fun h=>?_) (fun h=>?_))|refine AD.fin (by simp only[List.length_cons,List.length_nil,Nat.reduceAdd];rfl) rfl (by kernel_rfl) ?_|refine thenN ?_|refine AW.seq ?_|refine AW.reg ?_|refine AW.dr mixedA (by kernel_rfl) ?_|refine AW.block ?_|refine AW.condT rfl ?_|refine AW.condF rfl ?_|(refine AW.ite rfl (fun h=>?_) (fun h=>?_)<;>try (exfalso;omega;done))|refine AW.cond _ rfl (fun h=>?_) (fun h=>?_)|refine AW.ret ?_|refine AW.exit ?_|refine AW.skip ?_|refine thenR ?_|refine thenX ?_|refine blockN ?_|refine blockR ?_|refine blockX ?_|refine blockY (by decide) ?_)
 (refine end1p (by first|exact .inl rfl|exact .inr rfl) rfl (by first|exact rT rfl|exact rCA rfl rfl rfl rfl (by simp)|exact rCC rfl rfl rfl rfl rfl) ?_ (Le.head ([]) (by first|exact fun l h=>absurd h (hD l)|(intro l h;rcases hD l h with rfl;simp[tauL])|(intro l h;rcases hD l h with rfl|rfl<;>simp[tauL];done)|(intro l h;rcases hD l h with rfl|rfl|rfl<;>simp[tauL])) ?_ ?_ (by simp) (by simp) (by simp[AllP]) (n':=1000));(· rfl))<;>(repeat' (first|exact trivial|exact ARs.nil|refine ARs.cons ?_ ?_|exact AR.dead _|exact AR.dd _|exact AR.i (by (try dsimp only);omega)|exact AR.ptr _ _ _ _ (by simp[heapL,upd])|exact AR.own _ _ _ _ (by simp[heapL,upd])|refine AR.ownE _ _ _ ?_ (by simp[heapL,upd])|refine ⟨⟨_,rfl,?_⟩,?_⟩|exact ObA.data|refine ObA.box ?_|refine ObA.frE ?_|refine ObA.dataE ?_|refine ARs.agg ?_|refine ARs.tup ?_|exact AR.clo' ARs.nil ARs.nil|exact AR.clo' ARs.nil (hca _ _)))
set_option maxHeartbeats 400000 in
theorem isPlace_ac [Mode] (ev:Int) (xs:List Pl) (p:Pl):AC Tryz.prog 80 [grD ev xs,p.av] H0 (Bo (plB (IntKind.i64.wrap (ev - 1)) p)) H0:=by
 refine AC.of_body 0 Tryz.func80 rfl (fun l h=>absurd rfl h) (fun C hC=>?_)
 have hD:∀ l,¬ C.D0 l:=fun l h=>(hC l).1 h rfl
 simp only[startFr,Tryz.ntmps80,List.length_cons,List.length_nil,Nat.reduceAdd,Nat.reduceSub,List.replicate_succ,List.replicate_zero,List.cons_append,List.nil_append]
 repeat' (first|refine AL.nil ?_|((first|apply AL.st|(apply AL.on;(· rfl);(· rfl))|(apply AD.st;(· exact nxE))|(apply AD.on;(· rfl);(· rfl);(· exact nxE)));(· first|exact OpOk.call0 [] rfl rfl (isEvent_ac _ _ _) (.inl rfl) (fun _=>by simp[rn]) (ARs.cons (ARs.agg (ARs.cons (AR.dd _) (ARs.cons (AR.dd _) ARs.nil))) (ARs.cons (AR.dd _) ARs.nil))|exact OpOk.call0 [] rfl rfl (within_ac _ _ _) (.inl rfl) (fun _=>by simp[rn]) (ARs.cons (AR.dd _) (ARs.cons (AR.dd _) (ARs.cons (AR.dd _) ARs.nil)))|exact Ok.pe);(· exact setE);(· first|exact updsE|exact rfl);(· exact nxE))|((first|apply AL.st0|(apply AD.st0;(· exact nxE)));(· first|exact Ok.e0);(· exact rfl);(· exact nxE))|((first|apply AL.off|apply AD.off);(· rfl);(· rfl);(· rfl);(· exact setE);(· exact nxE))|((first|refine AL.gsplit rfl rfl (fun h=>?_) (fun h=>?_)|refine AD.gsplit rfl rfl (fun h=>?_) (fun h=>?_))<;>try (exfalso;omega;done))|(first|refine AL.gsplitB rfl rfl (fun h=>?_) (fun h=>?_)|refine AD.gsplitB rfl rfl (fun h=>?_) (fun h=>?_))|refine AD.fin (by simp only[List.length_cons,List.length_nil,Nat.reduceAdd];rfl) rfl (by kernel_rfl) ?_|refine thenN ?_|refine AW.seq ?_|refine AW.reg ?_|refine AW.dr mixedA (by kernel_rfl) ?_|refine AW.block ?_|refine AW.condT rfl ?_|refine AW.condF rfl ?_|(refine AW.ite rfl (fun h=>?_) (fun h=>?_)<;>try (exfalso;omega;done))|refine AW.cond _ rfl (fun h=>?_) (fun h=>?_)|refine AW.ret ?_|refine AW.exit ?_|refine AW.skip ?_|refine thenR ?_|refine thenX ?_|refine blockN ?_|refine blockR ?_|refine blockX ?_|refine blockY (by decide) ?_)
 all_goals
  (refine end1p (by first|exact .inl rfl|exact .inr rfl) rfl (by first|exact rT rfl|exact rCA rfl rfl rfl rfl (by simp)|exact rCC rfl rfl rfl rfl rfl) ?_ (Le.head ([]) (by first|exact fun l h=>absurd h (hD l)|(intro l h;rcases hD l h with rfl;simp[tauL])|(intro l h;rcases hD l h with rfl|rfl<;>simp[tauL];done)|(intro l h;rcases hD l h with rfl|rfl|rfl<;>simp[tauL])) ?_ ?_ (by simp) (by simp) (by simp[AllP]) (n':=1000));(· simp[plB, *];done))<;>(repeat' (first|exact trivial|exact ARs.nil|refine ARs.cons ?_ ?_|exact AR.dead _|exact AR.dd _|exact AR.i (by (try dsimp only);omega)|exact AR.ptr _ _ _ _ (by simp[heapL,upd])|exact AR.own _ _ _ _ (by simp[heapL,upd])|refine AR.ownE _ _ _ ?_ (by simp[heapL,upd])|refine ⟨⟨_,rfl,?_⟩,?_⟩|exact ObA.data|refine ObA.box ?_|refine ObA.frE ?_|refine ObA.dataE ?_|refine ARs.agg ?_|refine ARs.tup ?_|exact AR.clo' ARs.nil ARs.nil|exact AR.clo' ARs.nil (hca _ _)))
theorem wrap_in [Mode] {n:Int} (h0 : -9223372036854775808≤n) (h1:n≤9223372036854775807):IntKind.i64.wrap n=n:=wrap64_id h0 h1
theorem isEG_wrap [Mode] (ev:Int) (ps:List Pl):(wi ev 1 10&&(decide (ps.length≤30)&&ps.all (plB (IntKind.i64.wrap (ev - 1)))))=isEG ev ps:=by
 by_cases h:wi ev 1 10=true
 ·have h':=wi_iff.1 h
  rw[wrap_in (by omega) (by omega),isEG,Bool.and_assoc]
 ·simp[isEG,h]
set_option maxHeartbeats 1000000 in
theorem sIsEventGraph_ac [Mode] (ev:Int) (xs:List Pl) (hn:xs.length≤100000000):AC Tryz.prog 92 [grD ev xs] H0 (Bo (isEG ev xs)) H0:=by
 refine AC.of_body 0 Tryz.func92 rfl (fun l h=>absurd rfl h) (fun C hC=>?_)
 have hD:∀ l,¬ C.D0 l:=fun l h=>(hC l).1 h rfl
 simp only[startFr,Tryz.ntmps92,List.length_cons,List.length_nil,Nat.reduceAdd,Nat.reduceSub,List.replicate_succ,List.replicate_zero,List.cons_append,List.nil_append]
 repeat' (first|refine AL.nil ?_|((first|apply AL.st|(apply AL.on;(· rfl);(· rfl))|(apply AD.st;(· exact nxE))|(apply AD.on;(· rfl);(· rfl);(· exact nxE)));(· first|exact Ok.pe);(· exact setE);(· first|exact updsE|exact rfl);(· exact nxE))|((first|apply AL.st0|(apply AD.st0;(· exact nxE)));(· first|exact Ok.e0);(· exact rfl);(· exact nxE))|((first|apply AL.off|apply AD.off);(· rfl);(· rfl);(· rfl);(· exact setE);(· exact nxE))|((first|refine AL.gsplit rfl rfl (fun h=>?_) (fun h=>?_)|refine AD.gsplit rfl rfl (fun h=>?_) (fun h=>?_))<;>try (exfalso;omega;done))|(first|refine AL.gsplitB rfl rfl (fun h=>?_) (fun h=>?_)|refine AD.gsplitB rfl rfl (fun h=>?_) (fun h=>?_))|refine AD.fin (by simp only[List.length_cons,List.length_nil,Nat.reduceAdd];rfl) rfl (by kernel_rfl) ?_|refine thenN ?_|refine AW.seq ?_|refine AW.reg ?_|refine AW.dr mixedA (by kernel_rfl) ?_|refine AW.block ?_|refine AW.condT rfl ?_|refine AW.condF rfl ?_|(refine AW.ite rfl (fun h=>?_) (fun h=>?_)<;>try (exfalso;omega;done))|refine AW.cond _ rfl (fun h=>?_) (fun h=>?_)|refine AW.ret ?_|refine AW.exit ?_|refine AW.skip ?_|refine thenR ?_|refine thenX ?_|refine blockN ?_|refine blockR ?_|refine blockX ?_|refine blockY (by decide) ?_)
 refine AW.loop (X:={k:Nat // k≤xs.length∧xs.all (plB (IntKind.i64.wrap (ev - 1)))=(xs.drop k).all (plB (IntKind.i64.wrap (ev - 1)))}) (fun k=>⟨[.dead,Bx 2 0,.dead,I (k.1:Nat),.dead,.dead,.dead,.dead,.dead,.dead,.dead,.dead,.dead,.dead,.dead,.dead,.dead,.dead,.dead,.dead,.dead,.dead,.dead,.dead,.dead,.dead,.dead,.dead,.dead],heapL [(⟨0,[]⟩,⟨0,[]⟩,⟨2,[[I ev,.d (.sl 4 (xs.map Pl.row))]]⟩)],20⟩) (fun k=>xs.length - k.1) ⟨0,Nat.zero_le _,by simp⟩ ?_ (fun k=>?_)
 ·
  refine Le.head ([(⟨0,[]⟩,⟨0,[]⟩,⟨2,[[I ev,.d (.sl 4 (xs.map Pl.row))]]⟩)]) (by first|exact fun l h=>absurd h (hD l)|(intro l h;rcases hD l h with rfl;simp[tauL])|(intro l h;rcases hD l h with rfl|rfl<;>simp[tauL];done)|(intro l h;rcases hD l h with rfl|rfl|rfl<;>simp[tauL])) ?_ ?_ (by simp) (by simp) (by simp[AllP])<;>(repeat' (first|exact trivial|exact ARs.nil|refine ARs.cons ?_ ?_|exact AR.dead _|exact AR.dd _|exact AR.i (by (try dsimp only);omega)|exact AR.ptr _ _ _ _ (by simp[heapL,upd])|exact AR.own _ _ _ _ (by simp[heapL,upd])|refine AR.ownE _ _ _ ?_ (by simp[heapL,upd])|refine ⟨⟨_,rfl,?_⟩,?_⟩|exact ObA.data|refine ObA.box ?_|refine ObA.frE ?_|refine ObA.dataE ?_|refine ARs.agg ?_|refine ARs.tup ?_|exact AR.clo' ARs.nil ARs.nil|exact AR.clo' ARs.nil (hca _ _)))
 obtain ⟨k,hk,hall⟩:=k
 simp only
 by_cases hlt:k<xs.length
 ·obtain ⟨p,hp⟩:∃ p,xs[k]? = some p:=⟨xs[k],by simp⟩
  have hrow:(xs.map Pl.row)[((k:Nat):Int).toNat]? = some [DI p.f,DI p.t,DI p.d,DI p.k]:=row_get hp
  repeat' (first|refine AL.nil ?_|((first|apply AL.st|(apply AL.on;(· rfl);(· rfl))|(apply AD.st;(· exact nxE))|(apply AD.on;(· rfl);(· rfl);(· exact nxE)));(· first|exact OpOk.call0 [] rfl rfl (l11Place_ac ⟨_,_,_,_⟩ _) (.inl rfl) (fun _=>by simp[rn]) (ARs.cons (ARs.agg (ARs.cons (AR.dd _) (ARs.cons (AR.dd _) (ARs.cons (AR.dd _) (ARs.cons (AR.dd _) ARs.nil))))) (ARs.cons (AR.dd _) ARs.nil))|exact Ok.pe);(· exact setE);(· first|exact updsE|exact rfl);(· exact nxE))|((first|apply AL.st0|(apply AD.st0;(· exact nxE)));(· first|exact Ok.e0);(· exact rfl);(· exact nxE))|((first|apply AL.off|apply AD.off);(· rfl);(· rfl);(· rfl);(· exact setE);(· exact nxE))|((first|refine AL.gsplit rfl rfl (fun h=>?_) (fun h=>?_)|refine AD.gsplit rfl rfl (fun h=>?_) (fun h=>?_))<;>try (exfalso;omega;done))|(first|refine AL.gsplitB rfl rfl (fun h=>?_) (fun h=>?_)|refine AD.gsplitB rfl rfl (fun h=>?_) (fun h=>?_))|refine AD.fin (by simp only[List.length_cons,List.length_nil,Nat.reduceAdd];rfl) rfl (by kernel_rfl) ?_|refine thenN ?_|refine AW.seq ?_|refine AW.reg ?_|refine AW.dr mixedA (by kernel_rfl) ?_|refine AW.block ?_|refine AW.condT rfl ?_|refine AW.condF rfl ?_|(refine AW.ite rfl (fun h=>?_) (fun h=>?_)<;>try (exfalso;omega;done))|refine AW.cond _ rfl (fun h=>?_) (fun h=>?_)|refine AW.ret ?_|refine AW.exit ?_|refine AW.skip ?_|refine thenR ?_|refine thenX ?_|refine blockN ?_|refine blockR ?_|refine blockX ?_|refine blockY (by decide) ?_)
  ·
   (refine end1p (by first|exact .inl rfl|exact .inr rfl) rfl (by first|exact rT rfl|exact rCA rfl rfl rfl rfl (by simp)|exact rCC rfl rfl rfl rfl rfl) ?_ (Le.head ([]) (by first|exact fun l h=>absurd h (hD l)|(intro l h;rcases hD l h with rfl;simp[tauL])|(intro l h;rcases hD l h with rfl|rfl<;>simp[tauL];done)|(intro l h;rcases hD l h with rfl|rfl|rfl<;>simp[tauL])) ?_ ?_ (by simp) (by simp) (by simp[AllP]) (n':=1000));(· rw[← isEG_wrap,all_no hp (by simpa using h)];simp))<;>(repeat' (first|exact trivial|exact ARs.nil|refine ARs.cons ?_ ?_|exact AR.dead _|exact AR.dd _|exact AR.i (by (try dsimp only);omega)|exact AR.ptr _ _ _ _ (by simp[heapL,upd])|exact AR.own _ _ _ _ (by simp[heapL,upd])|refine AR.ownE _ _ _ ?_ (by simp[heapL,upd])|refine ⟨⟨_,rfl,?_⟩,?_⟩|exact ObA.data|refine ObA.box ?_|refine ObA.frE ?_|refine ObA.dataE ?_|refine ARs.agg ?_|refine ARs.tup ?_|exact AR.clo' ARs.nil ARs.nil|exact AR.clo' ARs.nil (hca _ _)))
  ·refine ⟨⟨k+1,by omega,all_step hp hall (by simpa using h)⟩,?_,by simp only;omega⟩
   refine Le.head ([(⟨0,[]⟩,⟨0,[]⟩,⟨2,[[I ev,.d (.sl 4 (xs.map Pl.row))]]⟩)]) (by first|exact fun l h=>absurd h (hD l)|(intro l h;rcases hD l h with rfl;simp[tauL])|(intro l h;rcases hD l h with rfl|rfl<;>simp[tauL];done)|(intro l h;rcases hD l h with rfl|rfl|rfl<;>simp[tauL])) ?_ ?_ (by simp) (by simp) (by simp[AllP])<;>(repeat' (first|exact trivial|exact ARs.nil|refine ARs.cons ?_ ?_|exact AR.dead _|exact AR.dd _|exact AR.i (by (try dsimp only);omega)|exact AR.ptr _ _ _ _ (by simp[heapL,upd])|exact AR.own _ _ _ _ (by simp[heapL,upd])|refine AR.ownE _ _ _ ?_ (by simp[heapL,upd])|refine ⟨⟨_,rfl,?_⟩,?_⟩|exact ObA.data|refine ObA.box ?_|refine ObA.frE ?_|refine ObA.dataE ?_|refine ARs.agg ?_|refine ARs.tup ?_|exact AR.clo' ARs.nil ARs.nil|exact AR.clo' ARs.nil (hca _ _)))
 ·
  have hA:xs.all (plB (IntKind.i64.wrap (ev - 1)))=true:=by rw[hall,List.drop_of_length_le (by omega)];rfl
  have h30:((xs.length:Int)≤30)↔xs.length≤30:=by omega
  repeat' (first|refine AL.nil ?_|((first|apply AL.st|(apply AL.on;(· rfl);(· rfl))|(apply AD.st;(· exact nxE))|(apply AD.on;(· rfl);(· rfl);(· exact nxE)));(· first|exact OpOk.call0 [] rfl rfl (l01In_ac _ _ _) (.inl rfl) (fun _=>by simp[rn]) (ARs.cons (AR.dd _) (ARs.cons (AR.dd _) (ARs.cons (AR.dd _) ARs.nil)))|exact Ok.pe);(· exact setE);(· first|exact updsE|exact rfl);(· exact nxE))|((first|apply AL.st0|(apply AD.st0;(· exact nxE)));(· first|exact Ok.e0);(· exact rfl);(· exact nxE))|((first|apply AL.off|apply AD.off);(· rfl);(· rfl);(· rfl);(· exact setE);(· exact nxE))|((first|refine AL.gsplit rfl rfl (fun h=>?_) (fun h=>?_)|refine AD.gsplit rfl rfl (fun h=>?_) (fun h=>?_))<;>try (exfalso;omega;done))|(first|refine AL.gsplitB rfl rfl (fun h=>?_) (fun h=>?_)|refine AD.gsplitB rfl rfl (fun h=>?_) (fun h=>?_))|refine AD.fin (by simp only[List.length_cons,List.length_nil,Nat.reduceAdd];rfl) rfl (by kernel_rfl) ?_|refine thenN ?_|refine AW.seq ?_|refine AW.reg ?_|refine AW.dr mixedA (by kernel_rfl) ?_|refine AW.block ?_|refine AW.condT rfl ?_|refine AW.condF rfl ?_|(refine AW.ite rfl (fun h=>?_) (fun h=>?_)<;>try (exfalso;omega;done))|refine AW.cond _ rfl (fun h=>?_) (fun h=>?_)|refine AW.ret ?_|refine AW.exit ?_|refine AW.skip ?_|refine thenR ?_|refine thenX ?_|refine blockN ?_|refine blockR ?_|refine blockX ?_|refine blockY (by decide) ?_)
  all_goals
   (refine end1p (by first|exact .inl rfl|exact .inr rfl) rfl (by first|exact rT rfl|exact rCA rfl rfl rfl rfl (by simp)|exact rCC rfl rfl rfl rfl rfl) ?_ (Le.head ([]) (by first|exact fun l h=>absurd h (hD l)|(intro l h;rcases hD l h with rfl;simp[tauL])|(intro l h;rcases hD l h with rfl|rfl<;>simp[tauL];done)|(intro l h;rcases hD l h with rfl|rfl|rfl<;>simp[tauL])) ?_ ?_ (by simp) (by simp) (by simp[AllP]) (n':=1000));(· rw[← isEG_wrap,hA];simp[*];done))<;>(repeat' (first|exact trivial|exact ARs.nil|refine ARs.cons ?_ ?_|exact AR.dead _|exact AR.dd _|exact AR.i (by (try dsimp only);omega)|exact AR.ptr _ _ _ _ (by simp[heapL,upd])|exact AR.own _ _ _ _ (by simp[heapL,upd])|refine AR.ownE _ _ _ ?_ (by simp[heapL,upd])|refine ⟨⟨_,rfl,?_⟩,?_⟩|exact ObA.data|refine ObA.box ?_|refine ObA.frE ?_|refine ObA.dataE ?_|refine ARs.agg ?_|refine ARs.tup ?_|exact AR.clo' ARs.nil ARs.nil|exact AR.clo' ARs.nil (hca _ _)))
end
section
open Go Go.RowKit
attribute [local irreducible] AL AD AW OpOk Le AC thenQ blockQ EndQ
abbrev own1 (k n:Nat):AV:=.own k ⟨0,[]⟩ 0 n
abbrev hp1 (o:AObj):Heap:=upd H0 ⟨0,[]⟩ (some o)
end
section
abbrev BOT:Int:=-1000000000000000
def tryAll {α:Type} (f:Nat→List α):List Nat→List α
 | []=>[]
 | v :: r=>if f v≠[] then f v else tryAll f r
theorem tryAll_ne {α:Type}{f:Nat→List α}:∀ {l:List Nat},tryAll f l≠[]↔∃ v∈l,f v≠[]
 | []=>by simp[tryAll]
 | v :: r=>by
  unfold tryAll
  split
  ·rename_i h;exact ⟨fun _=>⟨v,by simp,h⟩,fun _=>h⟩
  ·rename_i h
   rw[tryAll_ne]
   constructor
   ·rintro ⟨u,hu,h2⟩;exact ⟨u,by simp[hu],h2⟩
   ·rintro ⟨u,hu,h2⟩
    rcases List.mem_cons.1 hu with rfl|hu
    ·exact absurd h2 h
    ·exact ⟨u,hu,h2⟩
theorem tryAll_mem {α:Type}{f:Nat→List α}:∀ {l:List Nat},tryAll f l≠[]→∃ v∈l,f v≠[]∧tryAll f l=f v
 | [],h=>by simp[tryAll] at h
 | v :: r,h=>by
  unfold tryAll at h ⊢
  split
  ·rename_i h2;exact ⟨v,by simp,h2,rfl⟩
  ·rename_i h2
   rw[if_neg h2] at h
   obtain ⟨u,hu,h3,h4⟩:=tryAll_mem h
   exact ⟨u,by simp[hu],h3,h4⟩
def hdN (p:List Nat):Nat:=p.headD 0
def lsN (p:List Nat):Nat:=p.getLastD 0
def growF (a:Nat→Nat→Int) (n:Nat) (over:Int):Nat→List Nat→Int→List Nat
 | 0,_,_=>[]
 | k+1,path,w=>if a (hdN path) (lsN path)≠BOT∧over<w+a (hdN path) (lsN path) then path else
   tryAll (fun v=>if a v (lsN path)=BOT∨v∈path then [] else growF a n over k (path++[v]) (w+a v (lsN path))) (List.range' (hdN path+1) (n - (hdN path+1)))
def overF (a:Nat→Nat→Int) (n:Nat) (over:Int):List Nat:=tryAll (fun v=>growF a n over n [v] 0) (List.range' 0 n)
def pathP (a:Nat→Nat→Int) (c:List Nat):Prop:=∀ i,i+1<c.length→a (c.getD (i+1) 0) (c.getD i 0)≠BOT
structure Cyc (a:Nat→Nat→Int) (n:Nat) (c:List Nat):Prop where
 ne:c≠[]
 lt:∀ v∈c,v<n
 path:pathP a c
 close:a (hdN c) (lsN c)≠BOT
theorem lsN_getD {c:List Nat}:lsN c=c.getD (c.length - 1) 0:=by
 cases c with
 | nil=>rfl
 | cons x r=>
  unfold lsN
  rw[List.getLastD_eq_getLast?,List.getLast?_eq_getElem?,List.getD_eq_getElem?_getD]
theorem hdN_getD {c:List Nat}:hdN c=c.getD 0 0:=by cases c<;>rfl
theorem hdN_app {p q:List Nat} (h:p≠[]):hdN (p++q)=hdN p:=by cases p with|nil=>exact absurd rfl h|cons=>rfl
theorem pathP_snoc {a:Nat→Nat→Int}{c:List Nat}{v:Nat} (h:pathP a c) (hv:a v (lsN c)≠BOT):pathP a (c++[v]):=by
 intro i hi
 simp only[List.length_append,List.length_cons,List.length_nil] at hi
 by_cases h1:i+1<c.length
 ·have:=h i h1
  simpa [List.getD_eq_getElem?_getD,List.getElem?_append_left h1,List.getElem?_append_left (show i<c.length by omega)] using this
 ·have h2:i+1=c.length:=by omega
  have h3:(c++[v]).getD (i+1) 0=v:=by simp[List.getD_eq_getElem?_getD,h2]
  have h4:(c++[v]).getD i 0=lsN c:=by
   rw[lsN_getD,← h2]
   simp[List.getD_eq_getElem?_getD,List.getElem?_append_left (show i<c.length by omega)]
  rw[h3,h4];exact hv
theorem growF_cyc {a:Nat→Nat→Int}{n:Nat}{over:Int}:∀ {k:Nat}{path:List Nat}{w:Int},path≠[]→(∀ v∈path,v<n)→pathP a path→growF a n over k path w≠[]→Cyc a n (growF a n over k path w)
 | 0,_,_,_,_,_,h=>by simp[growF] at h
 | k+1,path,w,h0,h1,h2,h=>by
  unfold growF at h ⊢
  split
  ·rename_i hc;exact ⟨h0,h1,h2,hc.1⟩
  ·rename_i hc
   rw[if_neg hc] at h
   obtain ⟨v,hv,h3,h4⟩:=tryAll_mem h
   rw[h4]
   split at h3
   ·exact absurd rfl h3
   ·rename_i hn
    rw[if_neg hn]
    simp only[List.mem_range'_1] at hv
    exact growF_cyc (by simp) (fun u hu=>by
     rcases List.mem_append.1 hu with hu|hu
     ·exact h1 u hu
     ·simp at hu;omega) (pathP_snoc h2 (fun e=>hn (.inl e))) h3
theorem overF_cyc {a:Nat→Nat→Int}{n:Nat}{over:Int} (h:overF a n over≠[]):Cyc a n (overF a n over):=by
 obtain ⟨v,hv,h3,h4⟩:=tryAll_mem h
 simp only[List.mem_range'_1] at hv
 unfold overF
 rw[h4]
 exact growF_cyc (by simp) (by simp;omega) (fun i hi=>by simp at hi) h3
theorem growF_finds {a:Nat→Nat→Int}{n:Nat}{c:List Nat} (ha:∀ u v,a u v=BOT∨0≤a u v) (hc:Cyc a n c) (hmin:∀ i,0<i→i<c.length→c.getD 0 0<c.getD i 0) (hd:c.Nodup) :
  ∀ (k i:Nat) (w:Int),0≤w→1≤i→i≤c.length→c.length<k+i→growF a n (-1) k (c.take i) w≠[]
 | 0,i,w,_,_,h2,h3=>by omega
 | k+1,i,w,hw,h1,h2,h3=>by
  unfold growF
  have hhd:hdN (c.take i)=c.getD 0 0:=by rw[hdN_getD];simp[List.getD_eq_getElem?_getD,List.getElem?_take,show 0<i by omega]
  have hls:lsN (c.take i)=c.getD (i - 1) 0:=by
   rw[lsN_getD,List.length_take,Nat.min_eq_left h2,List.getD_eq_getElem?_getD,List.getElem?_take,if_pos (by omega),List.getD_eq_getElem?_getD]
  split
  ·intro e
   have:=congrArg List.length e
   rw[List.length_take,Nat.min_eq_left h2] at this;simp at this;omega
  ·rename_i hno
   by_cases hi:i=c.length
   ·exfalso
    apply hno
    have hcl:=hc.close
    rw[hdN_getD,lsN_getD] at hcl
    rw[hhd,hls,hi]
    refine ⟨hcl,?_⟩
    rcases ha (c.getD 0 0) (c.getD (c.length - 1) 0) with h|h
    ·exact absurd h hcl
    ·omega
   ·have hi':i<c.length:=by omega
    rw[tryAll_ne]
    refine ⟨c.getD i 0,?_,?_⟩
    ·rw[List.mem_range'_1,hhd]
     have h4:=hmin i (by omega) hi'
     have h5:c.getD i 0<n:=hc.lt _ (by rw[List.getD_eq_getElem?_getD,List.getElem?_eq_getElem hi'];exact List.getElem_mem hi')
     omega
    ·have harc:=hc.path (i - 1) (by omega)
     rw[show i - 1+1=i by omega] at harc
     rw[hls]
     rw[if_neg]
     ·have:c.take i++[c.getD i 0]=c.take (i+1):=by
       rw[List.take_succ_eq_append_getElem hi',List.getD_eq_getElem?_getD,List.getElem?_eq_getElem hi'];rfl
      rw[this]
      refine growF_finds ha hc hmin hd k (i+1) _ ?_ (by omega) (by omega) (by omega)
      rcases ha (c.getD i 0) (c.getD (i - 1) 0) with h|h
      ·exact absurd h harc
      ·omega
     ·rintro (h|h)
      ·exact harc h
      ·obtain ⟨j,hj,hje⟩:=List.getElem_of_mem h
       simp at hj
       rw[List.getElem_take,List.getD_eq_getElem?_getD,List.getElem?_eq_getElem hi',Option.getD_some] at hje
       have hpw:=List.pairwise_iff_getElem.1 hd
       exact hpw j i (by omega) hi' (by omega) hje
end
section
theorem nodup_le:∀ (n:Nat) (l:List Nat),l.Nodup→(∀ x∈l,x<n)→l.length≤n
 | 0,l,_,h=>by
  cases l with
  | nil=>simp
  | cons x r=>have:=h x (by simp);omega
 | n+1,l,hn,h=>by
  by_cases hm:n∈l
  ·have h1:=nodup_le n (l.erase n) (hn.erase n) (fun x hx=>by
    have h2:=(hn.mem_erase_iff).1 hx
    have:=h x h2.2
    omega)
   have:=List.length_erase_of_mem hm
   omega
  ·have:=nodup_le n l hn (fun x hx=>by
    have h1:=h x hx
    have:x≠n:=fun e=>hm (e▸hx)
    omega)
   omega
theorem nodup_sub:∀ (l o:List Nat),l.Nodup→(∀ x∈l,x∈o)→l.length≤o.length
 | [],o,_,_=>by simp
 | x :: r,o,hn,h=>by
  have hx:=h x (by simp)
  obtain ⟨h1,h2⟩:=List.nodup_cons.1 hn
  have:=nodup_sub r (o.erase x) h2 (fun y hy=>(List.mem_erase_of_ne (fun e=>h1 (by rw[← e];exact hy))).2 (h y (by simp[hy])))
  have h3:=List.length_erase_of_mem hx
  have h4:=List.length_pos_of_mem hx
  simp;omega
theorem nodup_full {n:Nat}{l:List Nat} (hn:l.Nodup) (h:∀ x∈l,x<n) (hl:l.length=n) {x:Nat} (hx:x<n):x∈l:=by
 apply Classical.byContradiction
 intro hm
 have:=nodup_le n (x :: l) (List.nodup_cons.2 ⟨hm,hn⟩) (fun y hy=>by
  rcases List.mem_cons.1 hy with rfl|hy
  ·exact hx
  ·exact h y hy)
 simp at this;omega
def iter (f:Nat→Nat):Nat→Nat→Nat
 | 0,x=>x
 | k+1,x=>f (iter f k x)
theorem iter_add (f:Nat→Nat):∀ (i j x:Nat),iter f (i+j) x=iter f i (iter f j x)
 | 0,j,x=>by simp[iter]
 | i+1,j,x=>by rw[show i+1+j=(i+j)+1 by omega];simp only[iter];rw[iter_add f i j x]
theorem iter_lt {f:Nat→Nat}{n:Nat} (hf:∀ x,x<n→f x<n):∀ (k x:Nat),x<n→iter f k x<n
 | 0,_,h=>h
 | k+1,x,h=>hf _ (iter_lt hf k x h)
theorem exists_min (p:Nat→Prop):∀ (m:Nat),p m→∃ k,p k∧∀ j,p j→k≤j:=by
 intro m
 induction m using Nat.strongRecOn with
 | _ m ih=>
  intro hm
  by_cases h:∃ j,j<m∧p j
  ·obtain ⟨j,hj,hp⟩:=h;exact ih j hj hp
  ·exact ⟨m,hm,fun j hp=>by
    apply Classical.byContradiction
    intro hlt
    exact h ⟨j,by omega,hp⟩⟩
theorem orbit {f:Nat→Nat}{n x0:Nat} (hf:∀ x,x<n→f x<n) (h0:x0<n):∃ v L m,v=iter f m x0∧0<L∧iter f L v=v∧(∀ k,v≤iter f k v)∧∀ s t,0<s→s<t→t≤L→iter f s v≠iter f t v:=by
 have hrep:∃ i j,i<j∧iter f i x0=iter f j x0:=by
  apply Classical.byContradiction
  intro hno
  have hnd:((List.range (n+1)).map fun i=>iter f i x0).Nodup:=by
   rw[List.nodup_iff_pairwise_ne]<;>skip
   rw[List.pairwise_iff_getElem]
   intro i j hi hj hij e
   simp at e
   exact hno ⟨i,j,hij,e⟩
  have:=nodup_le n _ hnd (fun x hx=>by
   obtain ⟨i,_,rfl⟩:=List.mem_map.1 hx
   exact iter_lt hf i x0 h0)
  simp at this
  omega
 obtain ⟨i,j,hij,e⟩:=hrep
 have hp:iter f (j - i) (iter f i x0)=iter f i x0:=by
  rw[← iter_add,show j - i+i=j by omega,e]
 obtain ⟨v,⟨t0,hv⟩,hmin⟩:=exists_min (fun y=>∃ t,iter f t (iter f i x0)=y) (iter f i x0) ⟨0,rfl⟩
 have hvp:iter f (j - i) v=v:=by
  rw[← hv,← iter_add,Nat.add_comm,iter_add,hp]
 obtain ⟨L,⟨hL0,hL⟩,hLm⟩:=exists_min (fun L=>0<L∧iter f L v=v) (j - i) ⟨by omega,hvp⟩
 refine ⟨v,L,t0+i,by rw[iter_add,hv],hL0,hL,fun k=>hmin _ ⟨k+t0,by rw[iter_add,hv]⟩,fun s t hs hst ht e2=>?_⟩
 have h3:iter f (L - t+s) v=v:=by
  rw[iter_add,e2,← iter_add,show L - t+t=L by omega,hL]
 have:=hLm (L - t+s) ⟨by omega,h3⟩
 omega
theorem cyc_of_wait {a:Nat→Nat→Int}{n:Nat}{S:Nat→Prop}{x0:Nat} (h0:S x0) (hlt:∀ x,S x→x<n) (hw:∀ x,S x→∃ u,S u∧a x u≠BOT) :
  ∃ c,Cyc a n c∧(∀ i,0<i→i<c.length→c.getD 0 0<c.getD i 0)∧c.Nodup:=by
 classical
 let f:Nat→Nat:=fun x=>if h:S x then Classical.choose (hw x h) else x0
 have hfS:∀ x,S x→S (f x)∧a x (f x)≠BOT:=fun x hx=>by
  have:f x=Classical.choose (hw x hx):=by simp only[f];rw[dif_pos hx]
  rw[this]
  exact Classical.choose_spec (hw x hx)
 have hfn:∀ x,x<n→f x<n:=fun x _=>by
  by_cases hx:S x
  ·exact hlt _ (hfS x hx).1
  ·simp only[f];rw[dif_neg hx];exact hlt _ h0
 obtain ⟨v,L,m,hv,hL0,hL,hmin,hdist⟩:=orbit hfn (hlt _ h0)
 have hSi:∀ k,S (iter f k x0):=fun k=>by
  induction k with
  | zero=>exact h0
  | succ k ih=>exact (hfS _ ih).1
 have hSv:∀ k,S (iter f k v):=fun k=>by rw[hv,← iter_add];exact hSi _
 have hget:∀ i,i<L→((List.range L).map fun t=>iter f (L - t) v).getD i 0=iter f (L - i) v:=fun i hi=>by
  simp[List.getD_eq_getElem?_getD,hi]
 have hlen:((List.range L).map fun t=>iter f (L - t) v).length=L:=by simp
 have hstep:∀ k,0<k→iter f k v=f (iter f (k - 1) v):=fun k hk=>by
  obtain ⟨k',rfl⟩:∃ k',k=k'+1:=⟨k - 1,by omega⟩
  rfl
 refine ⟨(List.range L).map fun t=>iter f (L - t) v,⟨?_,?_,?_,?_⟩,?_,?_⟩
 ·intro e;have:=congrArg List.length e;rw[hlen] at this;simp at this;omega
 ·intro x hx
  obtain ⟨t,_,rfl⟩:=List.mem_map.1 hx
  exact hlt _ (hSv _)
 ·intro i hi
  rw[hlen] at hi
  rw[hget (i+1) hi,hget i (by omega),hstep (L - i) (by omega),show L - i - 1=L - (i+1) by omega]
  exact (hfS _ (hSv _)).2
 ·rw[hdN_getD,lsN_getD,hlen,hget 0 hL0,hget (L - 1) (by omega),show L - 0=L by omega,hL,show L - (L - 1)=1 by omega]
  exact (hfS _ (hSv 0)).2
 ·intro i hi hil
  rw[hlen] at hil
  rw[hget 0 hL0,hget i hil,show L - 0=L by omega,hL]
  have h1:=hmin (L - i)
  have h2:=hdist (L - i) L (by omega) (by omega) (Nat.le_refl _)
  rw[hL] at h2
  omega
 ·rw[List.nodup_iff_pairwise_ne]<;>skip
  rw[List.pairwise_iff_getElem]
  intro i j hi hj hij e
  simp at hi hj e
  exact hdist (L - j) (L - i) (by omega) (by omega) (by omega) e.symm
def nextE (w:Nat→Nat→Bool) (n:Nat) (ord:List Nat):Option Nat:=(List.range n).find? fun e=>!ord.contains e&&(List.range n).all fun u=>!w e u || ord.contains u
def ordF (w:Nat→Nat→Bool) (n:Nat):Nat→List Nat→Option (List Nat)
 | 0,ord=>some ord
 | k+1,ord=>match nextE w n ord with
  | none=>none
  | some e=>ordF w n k (ord++[e])
structure OrdOk (w:Nat→Nat→Bool) (n:Nat) (ord:List Nat):Prop where
 nd:ord.Nodup
 lt:∀ x∈ord,x<n
 wait:∀ i,i<ord.length→∀ u,u<n→w (ord.getD i 0) u=true→u∈ord.take i
theorem OrdOk.nil {w:Nat→Nat→Bool}{n:Nat}:OrdOk w n []:=⟨List.nodup_nil,fun x h=>(by cases h),fun i h=>(by simp at h)⟩
theorem nextE_some {w:Nat→Nat→Bool}{n:Nat}{ord:List Nat}{e:Nat} (h:nextE w n ord=some e):e<n∧e∉ord∧∀ u,u<n→w e u=true→u∈ord:=by
 have h1:=List.mem_of_find?_eq_some h
 have h2:=List.find?_some h
 simp at h1 h2
 refine ⟨h1,h2.1,fun u hu hw=>?_⟩
 rcases h2.2 u hu with h3|h3
 ·rw[h3] at hw;cases hw
 ·exact h3
theorem nextE_none {w:Nat→Nat→Bool}{n:Nat}{ord:List Nat} (h:nextE w n ord=none) {e:Nat} (he:e<n) (hn:e∉ord):∃ u,u<n∧w e u=true∧u∉ord:=by
 have h1:=List.find?_eq_none.1 h e (by simpa using he)
 simp[hn] at h1
 obtain ⟨u,hu,h2,h3⟩:=h1
 exact ⟨u,hu,h2,h3⟩
theorem OrdOk.snoc {w:Nat→Nat→Bool}{n:Nat}{ord:List Nat}{e:Nat} (h:OrdOk w n ord) (hx:nextE w n ord=some e):OrdOk w n (ord++[e]):=by
 obtain ⟨h1,h2,h3⟩:=nextE_some hx
 refine ⟨?_,fun x hx=>?_,fun i hi u hu hw=>?_⟩
 ·rw[List.nodup_append]
  exact ⟨h.nd,by simp,fun a ha b hb=>by simp at hb;subst hb;intro e2;subst e2;exact h2 ha⟩
 ·rcases List.mem_append.1 hx with hx|hx
  ·exact h.lt x hx
  ·simp at hx;omega
 ·by_cases hil:i<ord.length
  ·have:=h.wait i hil u hu (by simpa [List.getD_eq_getElem?_getD,List.getElem?_append_left hil] using hw)
   rwa [List.take_append_of_le_length (by omega)]
  ·simp at hi
   have hie:i=ord.length:=by omega
   subst hie
   have hw':w e u=true:=by simpa [List.getD_eq_getElem?_getD] using hw
   rw[List.take_append_of_le_length (Nat.le_refl _),List.take_length]
   exact h3 u hu hw'
theorem ordF_some {w:Nat→Nat→Bool}{n:Nat}:∀ {k:Nat}{ord r:List Nat},OrdOk w n ord→ordF w n k ord=some r→OrdOk w n r∧r.length=ord.length+k
 | 0,ord,r,h,e=>by simp[ordF] at e;subst e;exact ⟨h,rfl⟩
 | k+1,ord,r,h,e=>by
  unfold ordF at e
  split at e
  ·cases e
  ·rename_i x hx
   obtain ⟨h1,h2⟩:=ordF_some (h.snoc hx) e
   exact ⟨h1,by simp at h2;omega⟩
theorem ordF_none {w:Nat→Nat→Bool}{n:Nat}:∀ {k:Nat}{ord:List Nat},OrdOk w n ord→ord.length+k=n→ordF w n k ord=none→∃ o,OrdOk w n o∧o.length<n∧nextE w n o=none
 | 0,ord,h,_,e=>by simp[ordF] at e
 | k+1,ord,h,hl,e=>by
  unfold ordF at e
  split at e
  ·rename_i hx;exact ⟨ord,h,by omega,hx⟩
  ·rename_i x hx
   exact ordF_none (h.snoc hx) (by simp;omega) e
theorem cyc_of_none {w:Nat→Nat→Bool}{a:Nat→Nat→Int}{n:Nat} (ha:∀ e u,e<n→u<n→w e u=true→a e u≠BOT) (h:ordF w n n []=none) :
  ∃ c,Cyc a n c∧(∀ i,0<i→i<c.length→c.getD 0 0<c.getD i 0)∧c.Nodup:=by
 obtain ⟨o,ho,hl,hx⟩:=ordF_none OrdOk.nil (by simp) h
 have:∃ x0,x0<n∧x0∉o:=by
  apply Classical.byContradiction
  intro hno
  have:=nodup_sub (List.range n) o List.nodup_range (fun x hx=>Classical.byContradiction fun hm=>hno ⟨x,by simpa using hx,hm⟩)
  simp at this;omega
 obtain ⟨x0,h0,hm⟩:=this
 exact cyc_of_wait (S:=fun x=>x<n∧x∉o) (x0:=x0) ⟨h0,hm⟩ (fun x h=>h.1) (fun x h=>by
  obtain ⟨u,hu,h1,h2⟩:=nextE_none hx h.1 h.2
  exact ⟨u,⟨hu,h2⟩,ha x u h.1 hu h1⟩)
theorem none_of_cyc {w:Nat→Nat→Bool}{a:Nat→Nat→Int}{n:Nat}{c:List Nat} (ha:∀ e u,e<n→u<n→a e u≠BOT→w e u=true) (hc:Cyc a n c):ordF w n n []=none:=by
 cases h:ordF w n n [] with
 | none=>rfl
 | some ord=>
  exfalso
  obtain ⟨ho,hl⟩:=ordF_some OrdOk.nil h
  simp at hl
  have hmem:∀ x,x<n→x∈ord:=fun x hx=>nodup_full ho.nd ho.lt hl hx
  have hpos:0<c.length:=List.length_pos_iff.2 hc.ne
  have hclt:∀ j,j<c.length→c.getD j 0<n:=fun j hj=>hc.lt _ (by rw[List.getD_eq_getElem?_getD,List.getElem?_eq_getElem hj];exact List.getElem_mem hj)
  have key:∀ m,∀ j,j<c.length→ord.getD m 0=c.getD j 0→m<ord.length→False:=by
   intro m
   induction m using Nat.strongRecOn with
   | _ m ih=>
    intro j hj he hm
    have hpred:∃ j',j'<c.length∧a (c.getD j 0) (c.getD j' 0)≠BOT:=by
     by_cases h0:j=0
     ·subst h0
      have:=hc.close
      rw[hdN_getD,lsN_getD] at this
      exact ⟨c.length - 1,by omega,this⟩
     ·have:=hc.path (j - 1) (by omega)
      rw[show j - 1+1=j by omega] at this
      exact ⟨j - 1,by omega,this⟩
    obtain ⟨j',hj',harc⟩:=hpred
    have hw:=ha _ _ (hclt j hj) (hclt j' hj') harc
    have hin:=ho.wait m hm _ (hclt j' hj') (by rw[he];exact hw)
    obtain ⟨m',hm',hme⟩:=List.getElem_of_mem hin
    simp at hm'
    rw[List.getElem_take] at hme
    exact ih m' (by omega) j' hj' (by rw[List.getD_eq_getElem?_getD,List.getElem?_eq_getElem (by omega)];exact hme) (by omega)
  obtain ⟨m,hm,hme⟩:=List.getElem_of_mem (hmem _ (hclt 0 hpos))
  exact key m 0 hpos (by rw[List.getD_eq_getElem?_getD,List.getElem?_eq_getElem hm];exact hme) hm
theorem live_iff {w:Nat→Nat→Bool}{a:Nat→Nat→Int}{n:Nat} (h0:∀ u v,a u v=BOT∨0≤a u v) (ha:∀ e u,e<n→u<n→(a e u≠BOT↔w e u=true)):overF a n (-1)=[]↔ordF w n n []≠none:=by
 constructor
 ·intro h hn
  obtain ⟨c,hc,hmin,hnd⟩:=cyc_of_none (fun e u he hu hw=>(ha e u he hu).2 hw) hn
  have hpos:0<c.length:=List.length_pos_iff.2 hc.ne
  have hlen:=nodup_le n c hnd hc.lt
  have hf:=growF_finds h0 hc hmin hnd n 1 0 (by omega) (by omega) (by omega) (by omega)
  have h1:c.take 1=[c.getD 0 0]:=by cases c with|nil=>simp at hpos|cons x r=>simp
  rw[h1] at hf
  have:overF a n (-1)≠[]:=tryAll_ne.2 ⟨c.getD 0 0,by
   rw[List.mem_range'_1]
   have:=hc.lt (c.getD 0 0) (by rw[List.getD_eq_getElem?_getD,List.getElem?_eq_getElem hpos];exact List.getElem_mem hpos)
   omega,hf⟩
  exact this h
 ·intro h
  apply Classical.byContradiction
  intro hn
  exact h (none_of_cyc (fun e u he hu h=>(ha e u he hu).1 h) (overF_cyc hn))
end
section
open Go Go.RowKit
attribute [local irreducible] AL AD AW OpOk Le AC thenQ blockQ EndQ
abbrev IR (xs:List Int):List (List D):=xs.map fun n=>[DI n]
theorem IR_len [Mode] {xs:List Int}:(IR xs).length=xs.length:=by simp[IR]
theorem IR_get [Mode] {xs:List Int}{k:Nat}{x:Int} (h:xs[k]? = some x):(IR xs)[((k:Nat):Int).toNat]? = some [DI x]:=by simp[IR,h]
theorem IR_app [Mode] {xs ys:List Int}:IR (xs++ys)=IR xs++IR ys:=by simp[IR]
theorem IR_all [Mode] {xs:List Int}:∀ r∈IR xs,(r.map AV.d).all AV.one=true:=fun r hr=>by obtain ⟨p,_,rfl⟩:=List.mem_map.1 hr;rfl
theorem IR_row [Mode] {xs:List Int}:∀ r∈IR xs,r.length=1:=fun r hr=>by obtain ⟨p,_,rfl⟩:=List.mem_map.1 hr;rfl
theorem IR_plain [Mode] {xs:List Int}:∀ r∈IR xs,∀ c∈r,∃ v,c=D.v v:=fun r hr c hc=>by
 obtain ⟨p,_,rfl⟩:=List.mem_map.1 hr
 simp at hc;exact ⟨_,hc⟩
abbrev IL (xs:List Int):AV:=.d (.sl 1 (IR xs))
abbrev IO (xs:List Int):AObj:=dobj 1 (IR xs)
abbrev TR (t:List (List Int)):List (List (List D)):=t.map IR
abbrev TD (t:List (List Int)):D:=.sl 1 (mRows 1 (TR t))
abbrev TL (t:List (List Int)):AV:=.d (TD t)
theorem TR_len [Mode] {t:List (List Int)}:(TR t).length=t.length:=by simp[TR]
theorem mTR_len [Mode] {t:List (List Int)}:(mRows 1 (TR t)).length=t.length:=by simp[TR,mRows]
theorem TR_get [Mode] {t:List (List Int)}{k:Nat}{r:List Int} (h:t[k]? = some r):(mRows 1 (TR t))[((k:Nat):Int).toNat]? = some [.sl 1 (IR r)]:=by simp[TR,mRows,h]
theorem TR_plain [Mode] {t:List (List Int)}:plainR (TR t):=fun x hx r hr c hc=>by
 obtain ⟨y,_,rfl⟩:=List.mem_map.1 hx
 exact IR_plain r hr c hc
theorem l01Has_ac [Mode] (xs:List Int) (y:Int) (hn:xs.length≤100000000):AC Tryz.prog 70 [IL xs,I y] H0 (Bo (xs.any (fun x=>decide (x=y)))) H0:=by
 refine AC.of_body 0 Tryz.func70 rfl (fun l h=>absurd rfl h) (fun C hC=>?_)
 have hD:∀ l,¬ C.D0 l:=fun l h=>(hC l).1 h rfl
 simp only[startFr,Tryz.ntmps70,List.length_cons,List.length_nil,Nat.reduceAdd,Nat.reduceSub,List.replicate_succ,List.replicate_zero,List.cons_append,List.nil_append]
 repeat' (first|((first|apply Ba|(apply Bb;(· rfl);(· rfl))|(apply Bc;(· exact nxE))|(apply Bd;(· rfl);(· rfl);(· exact nxE)));(· first|exact Ok.pe))|((first|apply Ca|(apply Cb;(· exact nxE)));(· first|exact Ok.e0))|refine Sx ?_|(refine Sy (fun h=>?_) (fun h=>?_)<;>try (exfalso;omega;done))|refine Sz (fun h=>?_) (fun h=>?_))
 refine AW.loop (X:={k:Nat // k≤xs.length∧xs.any (fun x=>decide (x=y))=(xs.drop k).any (fun x=>decide (x=y))}) (fun k=>⟨[IL xs,I y,Oo,Oo,Oo,I (k.1:Nat),Oo,Oo,Oo,Oo,Oo,Oo,Oo,Oo,Oo,Oo,Oo,Oo],heapL [],900⟩) (fun k=>xs.length - k.1) ⟨0,Nat.zero_le _,by simp⟩ ?_ (fun k=>?_)
 ·
  (apply Le.headZ [] rfl)
  all_goals (try dsimp only[srcs])
  (case' hfr|hob=>(repeat' (first|refine La ?_ ?_|exact Lc|refine Lo ?_|refine ⟨⟨_,rfl,?_⟩,?_⟩|refine Lx ?_)))
  all_goals (first|(rfl)|exact Ld)
 obtain ⟨k,hk,hall⟩:=k
 simp only
 by_cases hlt:k<xs.length
 ·obtain ⟨x,hx⟩:∃ x,xs[k]? = some x:=⟨xs[k],by simp⟩
  have hrow:=IR_get hx
  have hdr:xs.drop k=x :: xs.drop (k+1):=by
   obtain ⟨hk',rfl⟩:=List.getElem?_eq_some_iff.1 hx
   exact List.drop_eq_getElem_cons hk'
  repeat' (first|((first|apply Ba|(apply Bb;(· rfl);(· rfl))|(apply Bc;(· exact nxE))|(apply Bd;(· rfl);(· rfl);(· exact nxE)));(· first|exact Ok.pe))|((first|apply Ca|(apply Cb;(· exact nxE)));(· first|exact Ok.e0))|refine Sx ?_|(refine Sy (fun h=>?_) (fun h=>?_)<;>try (exfalso;omega;done))|refine Sz (fun h=>?_) (fun h=>?_))
  ·
   refine Ya ?_
   (apply Le.headZ (hs:=[]) [] rfl)
   all_goals (try dsimp only[srcs])
   (case' hfr=>(repeat' (first|refine La ?_ ?_|exact Lc|refine Lo ?_|refine ⟨⟨_,rfl,?_⟩,?_⟩|refine Lx ?_)))
   all_goals (first|exact Ld|exact trivial|((rw[hall,hdr];simp[h])))
  ·refine ⟨⟨k+1,by omega,by rw[hall,hdr];simp[h]⟩,?_,by simp only;omega⟩
   (apply Le.headZ [] rfl)
   all_goals (try dsimp only[srcs])
   (case' hfr|hob=>(repeat' (first|refine La ?_ ?_|exact Lc|refine Lo ?_|refine ⟨⟨_,rfl,?_⟩,?_⟩|refine Lx ?_)))
   all_goals (first|(rfl)|exact Ld)
 ·
  repeat' (first|((first|apply Ba|(apply Bb;(· rfl);(· rfl))|(apply Bc;(· exact nxE))|(apply Bd;(· rfl);(· rfl);(· exact nxE)));(· first|exact Ok.pe))|((first|apply Ca|(apply Cb;(· exact nxE)));(· first|exact Ok.e0))|refine Sx ?_|(refine Sy (fun h=>?_) (fun h=>?_)<;>try (exfalso;omega;done))|refine Sz (fun h=>?_) (fun h=>?_))
  refine Ya ?_
  (apply Le.headZ (hs:=[]) [] rfl)
  all_goals (try dsimp only[srcs])
  (case' hfr=>(repeat' (first|refine La ?_ ?_|exact Lc|refine Lo ?_|refine ⟨⟨_,rfl,?_⟩,?_⟩|refine Lx ?_)))
  all_goals (first|exact Ld|exact trivial|((rw[hall,List.drop_of_length_le (by omega)];rfl)))
theorem l01Own_ac [Mode] (xs:List Int) (hn:xs.length≤100000000):AC Tryz.prog 162 [IL xs] H0 (own1 1 xs.length) (hp1 (IO xs)):=by
 refine AC.of_body 0 Tryz.func162 rfl (fun l h=>absurd rfl h) (fun C hC=>?_)
 have hD:∀ l,¬ C.D0 l:=fun l h=>(hC l).1 h rfl
 simp only[startFr,Tryz.ntmps162,List.length_cons,List.length_nil,Nat.reduceAdd,Nat.reduceSub,List.replicate_succ,List.replicate_zero,List.cons_append,List.nil_append]
 repeat' (first|((first|apply Ba|(apply Bb;(· rfl);(· rfl))|(apply Bc;(· exact nxE))|(apply Bd;(· rfl);(· rfl);(· exact nxE)));(· first|exact Ok.appendD (rows:=[]) rfl rfl (by decide) rfl rfl rfl rfl IR_len IR_row IR_all (by omega) (by omega)|exact Ok.pe))|((first|apply Ca|(apply Cb;(· exact nxE)));(· first|exact Ok.appendD (rows:=[]) rfl rfl (by decide) rfl rfl rfl rfl IR_len IR_row IR_all (by omega) (by omega)|exact Ok.e0))|refine Sx ?_|(refine Sy (fun h=>?_) (fun h=>?_)<;>try (exfalso;omega;done))|refine Sz (fun h=>?_) (fun h=>?_))
 refine Ya ?_
 (apply Le.head [(⟨0,[]⟩,_,_)])
 (case' hfr|hob=>(repeat' (first|refine La ?_ ?_|exact Lc|refine Lo ?_|refine ⟨⟨_,rfl,?_⟩,?_⟩|refine Lx ?_)))
 all_goals (first|exact Ld|(rfl))
end
end Go.Proofs.YtkpoclbnnpglfaaGreat
