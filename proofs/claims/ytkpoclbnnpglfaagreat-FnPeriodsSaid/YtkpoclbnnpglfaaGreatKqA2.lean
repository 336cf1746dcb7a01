/-
  The abstract reading of the machine, part 2: values, operations, contracts, walks.
-/
import Derived.Test.YtkpoclbnnpglfaaGreatKqA1
import Derived.Test.YtkpoclbnnpglfaaGreatProg
import Derived.WalkSpells
import Derived.Lib.Overlaps
set_option linter.unusedSimpArgs false
set_option linter.unusedVariables false
namespace Go.Proofs.YtkpoclbnnpglfaaGreat
section
open Go Go.RowKit
theorem Locs.congr [Mode] {L:Loc→Prop}{f g:Loc→Loc} (hf:∀ l,L l→f l=g l) {c:AV} (h:Locs L c):YtkpoclbnnpglfaaGreat.rn f c=YtkpoclbnnpglfaaGreat.rn g c:=by
 have key:∀ {cs:List AV},(∀ (i:Nat) c,cs[i]? = some c→YtkpoclbnnpglfaaGreat.rn f c=YtkpoclbnnpglfaaGreat.rn g c)→cs.map (YtkpoclbnnpglfaaGreat.rn f)=cs.map (YtkpoclbnnpglfaaGreat.rn g):=fun h=>
  List.map_congr_left fun c hc=>by obtain ⟨i,hi⟩:=List.getElem?_of_mem hc;exact h i c hi
 induction h with
 | d x=>rw[YtkpoclbnnpglfaaGreat.rn,YtkpoclbnnpglfaaGreat.rn]
 | agg cs h ih=>rw[YtkpoclbnnpglfaaGreat.rn,YtkpoclbnnpglfaaGreat.rn,key ih]
 | tup cs h ih=>rw[YtkpoclbnnpglfaaGreat.rn,YtkpoclbnnpglfaaGreat.rn,key ih]
 | own k l off n h=>rw[YtkpoclbnnpglfaaGreat.rn,YtkpoclbnnpglfaaGreat.rn,hf l h]
 | ptr k l i j h=>rw[YtkpoclbnnpglfaaGreat.rn,YtkpoclbnnpglfaaGreat.rn,hf l h]
 | dptr cs=>rw[YtkpoclbnnpglfaaGreat.rn,YtkpoclbnnpglfaaGreat.rn]
 | clo fn fs cs h h' ih ih'=>rw[YtkpoclbnnpglfaaGreat.rn,YtkpoclbnnpglfaaGreat.rn,key ih,key ih']
 | dead=>rw[YtkpoclbnnpglfaaGreat.rn,YtkpoclbnnpglfaaGreat.rn]
theorem Le.keep [Mode] {C:Ctx}{fr fr':List AV}{hs:HL}{n n':Nat} (hself:∀ p∈hs,p.2.1=p.1) (hnd:(hs.map (·.1)).Nodup) (hok:HOk hs) (hfr:ARs (heapL hs) (fun _=>False) id (·∈hs.map (·.1)) fr' fr) (hn:∀ p∈hs,p.1.id<n') (hD:∀ l,C.D0 l→l.id<n'):Le C ⟨fr,heapL hs,n⟩ ⟨fr',heapL hs,n'⟩:=by
 have hL:(fun l=>heapL hs l≠none)=(·∈hs.map (·.1)):=by funext l;exact propext heapL_iff
 refine Le.tell (fun _=>False) id (by rw[hL];exact hfr) (fun l ob h=>⟨ob,h,rfl,rfl,fun i r r' hr hr'=>?_⟩) (fun l l' _ _ e=>e) (fun l _ h=>h) (fun l h=>?_) (fun l h=>⟨hD l h,rfl⟩)
 ·rw[hr] at hr';cases hr'
  refine ⟨rfl,fun j c c' hc hc'=>?_⟩
  rw[hc] at hc';cases hc'
  obtain ⟨p,hp,rfl,rfl⟩:=heapL_mem h
  rw[hL]
  exact (hok p hp r (List.mem_of_getElem? hr) c (List.mem_of_getElem? hc)).ar
 ·obtain ⟨p,hp,e⟩:=List.mem_map.1 (heapL_iff.1 h)
  rw[← e];exact hn p hp
end
section
open Go Go.RowKit
section
variable {P : Program} {o : Oper} {A : Operand → AV} {H : Heap} {new : Nat}
theorem Ok.storeC [Mode] {t:TypeId}{a x:Operand}{k i j:Nat}{l:Loc}{ob:AObj}{r:List AV}{v:AV}{rows:List (List AV)} (ho:o.op = .store t a x) (ha:A a = .ptr k l i j) [ht:TyCell P t] (hl:H l=some ob) (hk:ob.k=k) (hr:ob.rows[i]? = some r) (hn:j<r.length) (hx:A x=v) (hc:v.cells=[v]) (h1:v.one=true) (hrows:ob.rows.set i (r.set j v)=rows) :
  OpOk P o A [l] H new (.d (.v undef)) [.one l (some ⟨k,rows⟩)]:=by
 have:=OpOk.store (P:=P) (H:=H) (new:=new) (A:=A) ho ha ht.s hl hk hr (by omega) (by rw[hx,hc];rfl) (by rw[hx,hc];simp[h1])
 rw[hx,hc] at this
 have e:r.take j++[v]++r.drop (j+1)=r.set j v:=by
  rw[List.set_eq_take_append_cons_drop,if_pos hn];simp
 rw[e,hrows] at this
 exact this
theorem Ok.storeA [Mode] {t:TypeId}{a x:Operand}{k i j n:Nat}{l:Loc}{ob:AObj}{r cs:List AV}{rows:List (List AV)} (ho:o.op = .store t a x) (ha:A a = .ptr k l i j) [ht:TyAgg P t n] (hl:H l=some ob) (hk:ob.k=k) (hr:ob.rows[i]? = some r) (hn:j+n≤r.length) (hx:A x = .agg cs) (hc:cs.length=n) (h1:cs.all AV.one=true) (hrows:ob.rows.set i (r.take j++cs++r.drop (j+n))=rows) :
  OpOk P o A [l] H new (.d (.v undef)) [.one l (some ⟨k,rows⟩)]:=by
 have:=OpOk.store (P:=P) (H:=H) (new:=new) (A:=A) ho ha ht.s hl hk hr hn (by rw[hx];exact hc) (by rw[hx];exact h1)
 rw[hx] at this
 rw[← hrows]
 exact this
class TyBuild (P:Program) (t:TypeId) (pl:outParam (List (Nat × Nat))) (zs:outParam (List Value)):Prop where
 z:(P.info? t).map (fun i=>i.zero.map fun z=>z.cells.toList)=some (some zs)
 u:(match P.underlying t with|some (.struct fs)=>some (fs.toList.map fun f=>(f.offset,(P.info? f.type).map (·.size)))|_=>none)=some (pl.map fun p=>(p.1,some p.2))
theorem run_mapM_list [Mode] {α β:Type}{P:Program}{w:World}{g:α→Sem β}:∀ (l:List α) (vs:List β),l.length=vs.length→(∀ (i:Nat) rv v,l[i]? = some rv→vs[i]? = some v→(g rv).run P w = .ok v w)→(l.mapM g).run P w = .ok vs w
 | [],vs,hl,_=>by
  have:vs=[]:=List.length_eq_zero_iff.1 hl.symm
  subst this;simp
 | rv :: l,vs,hl,h=>by
  cases vs with
  | nil=>simp at hl
  | cons v vs=>
   have h0:=h 0 rv v rfl rfl
   have ih:=run_mapM_list (P:=P) (w:=w) (g:=g) l vs (by simpa using hl) (fun i rv v h1 h2=>h (i+1) rv v (by simpa using h1) (by simpa using h2))
   simp[List.mapM_cons,h0,ih]
theorem run_build' [Mode] {t:TypeId}{pl:List (Nat × Nat)}{zs:List Value} [h:TyBuild P t pl zs] {parts:Array (Nat × Value)}{cells:Array Value}{w:World} (hf:Instr.fill (pl[·]?) zs.toArray parts.toList=some cells):(Instr.build t parts).run P w = .ok (.agg cells) w:=by
 have h1:=h.z
 have h2:=h.u
 cases hi:P.info? t with
 | none=>rw[hi] at h1;cases h1
 | some i=>
  rw[hi] at h1
  simp only[Option.map_some,Option.some.injEq] at h1
  cases hz:i.zero with
  | none=>rw[hz] at h1;cases h1
  | some z=>
   rw[hz] at h1
   simp only[Option.map_some,Option.some.injEq] at h1
   have hz':z.cells=zs.toArray:=by rw[← h1]
   cases hu:P.underlying t with
   | none=>rw[hu] at h2;cases h2
   | some d=>
    rw[hu] at h2
    cases d with
    | struct fs=>
     simp only[Option.some.injEq] at h2
     have hm:=run_mapM_list (P:=P) (w:=w) (g:=fun f:Field=>(do pure (f.offset,← sizeOf f.type):Sem (Nat × Nat))) fs.toList pl (by have:=congrArg List.length h2;simpa using this) (fun i f p hf hp=>by
      have h3:=congrArg (·[i]?) h2
      simp only[List.getElem?_map,hf,hp,Option.map_some,Option.some.injEq,Prod.mk.injEq] at h3
      rw[Sem.run_bind,run_sizeOf' h3.2]
      simp[h3.1])
     have hz2:(zeroValue t).run P w = .ok z w:=by simp[zeroValue,typeInfo,hi,hz]
     unfold Instr.build
     rw[Sem.run_bind,hz2]
     simp only[Result.andThen]
     rw[Sem.run_bind,run_underlying hu]
     simp only[Result.andThen]
     rw[Array.mapM_eq_mapM_toList,map_eq_pure_bind,Sem.run_bind,Sem.run_bind]
     erw [hm]
     simp[Result.andThen,hz',hf]
    | _=>cases h2
theorem OpOk.build [Mode] {t:TypeId}{pl:List (Nat × Nat)}{zs:List Value}{parts:Array (Nat × Operand)}{cells cells':List AV} (ho:o.op = .build t parts) [h:TyBuild P t pl zs] (hone:∀ p∈parts.toList,(A p.2).cells.all AV.one=true) (hf:fillA (pl[·]?) (zs.map fun x=>.d (.v x)) (parts.toList.map fun p=>(p.1,A p.2))=some cells) (hc:cells=cells'):OpOk P o A [] H new (.agg cells') []:=by
 subst hc
 refine .still [] fun ι F w H1 ρ _ hs hv=>?_
 have hops:∀ p∈parts.toList,VR ι F w (A p.2) (ρ p.2):=fun p hp=>hv p.2 (by
  simp only[ho,Op.operands]
  exact List.mem_toArray.2 (List.mem_map.2 ⟨p,hp,rfl⟩))
 have hz:VRs ι F w (zs.map fun x=>.d (.v x)) zs.toArray.toList:=by
  refine ⟨by simp,fun i c v hc hv=>?_⟩
  simp only[List.getElem?_map,Option.map_eq_some_iff] at hc
  obtain ⟨x,hx,rfl⟩:=hc
  simp only at hv
  rw[hx] at hv;cases hv
  exact .d (.v _)
 obtain ⟨cur',hf',hvs⟩:=fill_sound (place:=(pl[·]?)) hz hops hone hf
 have hr:=run_build' (P:=P) (t:=t) (pl:=pl) (zs:=zs) (w:=w) (parts:=parts.map fun p=>(p.1,ρ p.2)) (cells:=cur') (by rw[Array.toList_map];exact hf')
 refine ⟨.agg cur',by simp[execOp,ho,hr],?_⟩
 have:=hvs.agg
 simpa using this
theorem Ok.build1 [Mode] {t:TypeId}{pl:List (Nat × Nat)}{zs:List Value}{x0:Operand}{i0:Nat}{v0:AV}{cells cells':List AV} (ho:o.op = .build t #[(i0,x0)]) [h:TyBuild P t pl zs] (hx0:A x0=v0) (h0:v0.cells.all AV.one=true) (hf:fillA (pl[·]?) (zs.map fun x=>.d (.v x)) [(i0,v0)]=some cells) (hc:cells=cells'):OpOk P o A [] H new (.agg cells') []:=
 OpOk.build ho (by intro p hp;simp at hp;rcases hp with rfl<;>simp only[hx0]<;>assumption) (by simpa [hx0] using hf) hc
theorem Ok.build2 [Mode] {t:TypeId}{pl:List (Nat × Nat)}{zs:List Value}{x0 x1:Operand}{i0 i1:Nat}{v0 v1:AV}{cells cells':List AV} (ho:o.op = .build t #[(i0,x0),(i1,x1)]) [h:TyBuild P t pl zs] (hx0:A x0=v0) (hx1:A x1=v1) (h0:v0.cells.all AV.one=true) (h1:v1.cells.all AV.one=true) (hf:fillA (pl[·]?) (zs.map fun x=>.d (.v x)) [(i0,v0),(i1,v1)]=some cells) (hc:cells=cells'):OpOk P o A [] H new (.agg cells') []:=
 OpOk.build ho (by intro p hp;simp at hp;rcases hp with rfl|rfl<;>simp only[hx0,hx1]<;>assumption) (by simpa [hx0,hx1] using hf) hc
theorem Ok.build3 [Mode] {t:TypeId}{pl:List (Nat × Nat)}{zs:List Value}{x0 x1 x2:Operand}{i0 i1 i2:Nat}{v0 v1 v2:AV}{cells cells':List AV} (ho:o.op = .build t #[(i0,x0),(i1,x1),(i2,x2)]) [h:TyBuild P t pl zs] (hx0:A x0=v0) (hx1:A x1=v1) (hx2:A x2=v2) (h0:v0.cells.all AV.one=true) (h1:v1.cells.all AV.one=true) (h2:v2.cells.all AV.one=true) (hf:fillA (pl[·]?) (zs.map fun x=>.d (.v x)) [(i0,v0),(i1,v1),(i2,v2)]=some cells) (hc:cells=cells'):OpOk P o A [] H new (.agg cells') []:=
 OpOk.build ho (by intro p hp;simp at hp;rcases hp with rfl|rfl|rfl<;>simp only[hx0,hx1,hx2]<;>assumption) (by simpa [hx0,hx1,hx2] using hf) hc
theorem Ok.build4 [Mode] {t:TypeId}{pl:List (Nat × Nat)}{zs:List Value}{x0 x1 x2 x3:Operand}{i0 i1 i2 i3:Nat}{v0 v1 v2 v3:AV}{cells cells':List AV} (ho:o.op = .build t #[(i0,x0),(i1,x1),(i2,x2),(i3,x3)]) [h:TyBuild P t pl zs] (hx0:A x0=v0) (hx1:A x1=v1) (hx2:A x2=v2) (hx3:A x3=v3) (h0:v0.cells.all AV.one=true) (h1:v1.cells.all AV.one=true) (h2:v2.cells.all AV.one=true) (h3:v3.cells.all AV.one=true) (hf:fillA (pl[·]?) (zs.map fun x=>.d (.v x)) [(i0,v0),(i1,v1),(i2,v2),(i3,v3)]=some cells) (hc:cells=cells'):OpOk P o A [] H new (.agg cells') []:=
 OpOk.build ho (by intro p hp;simp at hp;rcases hp with rfl|rfl|rfl|rfl<;>simp only[hx0,hx1,hx2,hx3]<;>assumption) (by simpa [hx0,hx1,hx2,hx3] using hf) hc
theorem Ok.build5 [Mode] {t:TypeId}{pl:List (Nat × Nat)}{zs:List Value}{x0 x1 x2 x3 x4:Operand}{i0 i1 i2 i3 i4:Nat}{v0 v1 v2 v3 v4:AV}{cells cells':List AV} (ho:o.op = .build t #[(i0,x0),(i1,x1),(i2,x2),(i3,x3),(i4,x4)]) [h:TyBuild P t pl zs] (hx0:A x0=v0) (hx1:A x1=v1) (hx2:A x2=v2) (hx3:A x3=v3) (hx4:A x4=v4) (h0:v0.cells.all AV.one=true) (h1:v1.cells.all AV.one=true) (h2:v2.cells.all AV.one=true) (h3:v3.cells.all AV.one=true) (h4:v4.cells.all AV.one=true) (hf:fillA (pl[·]?) (zs.map fun x=>.d (.v x)) [(i0,v0),(i1,v1),(i2,v2),(i3,v3),(i4,v4)]=some cells) (hc:cells=cells'):OpOk P o A [] H new (.agg cells') []:=
 OpOk.build ho (by intro p hp;simp at hp;rcases hp with rfl|rfl|rfl|rfl|rfl<;>simp only[hx0,hx1,hx2,hx3,hx4]<;>assumption) (by simpa [hx0,hx1,hx2,hx3,hx4] using hf) hc
theorem Ok.bs0 [Mode] {t e:TypeId}{k b:Nat}{z:Value} (ho:o.op = .buildSlice t 0 #[]) [h:TySlice P t e k b z]:OpOk P o A [] H new (.own k ⟨new,[]⟩ 0 0) [.one ⟨new,[]⟩ (some ⟨k,[]⟩)]:=
 OpOk.buildSlice [] ho rfl rfl (by simp) (by simp) (by simp)
theorem Ok.bs1 [Mode] {t e:TypeId}{k b:Nat}{z:Value}{x:Operand}{v:AV}{cs:List AV} (ho:o.op = .buildSlice t 1 #[(0,x)]) [h:TySlice P t e k b z] (hx:A x=v) (hv:v.cells=cs) (hk:cs.length=k) (h1:cs.all AV.one=true) (hsm:k≤16777216):OpOk P o A [] H new (.own k ⟨new,[]⟩ 0 1) [.one ⟨new,[]⟩ (some ⟨k,[cs]⟩)]:=by
 have:=OpOk.buildSlice (P:=P) (H:=H) (new:=new) (A:=A) [x] ho rfl rfl (by omega) (by simp[hx,hv] at h1 ⊢;exact h1) (by simp[hx,hv,hk])
 simpa [hx,hv] using this
theorem Ok.append1 [Mode] {t t' e e':TypeId}{ts:Array TypeId}{s x:Operand}{k b b' n:Nat}{z z':Value}{rows:List (List D)}{l l':Loc}{row:List D}{rw':List AV} (ho:o.op = .call { callee:=.builtin .append,args:=#[s,x],argTypes:=ts }) (hts:ts = #[t,t']) [h:TySlice P t e k b z] [h':TySlice P t' e' k b' z'] (hk0:0<k)
  (hs:A s = .own k l 0 n) (hl:H l=some (dobj k rows)) (hn:rows.length=n) (hx:A x = .own k l' 0 1) (hl':H l'=some ⟨k,[rw']⟩) (hrow:rw'=row.map .d) (hone:rw'.all AV.one=true) (hsz:(n+1)*b≤140737488355328) (h63:n+1≤9223372036854775807) :
  OpOk P o A [l,l'] H new (.own k ⟨new,[]⟩ 0 (n+1)) [.one l none,.one ⟨new,[]⟩ (some (dobj k (rows++[row])))]:=by
 have hd:(dobj k rows).rows.length=n:=by simp[dobj,hn]
 have:=OpOk.append (P:=P) (H:=H) (new:=new) (A:=A) (S:=rows.map fun r=>r.map .d) (R:=[rw']) (rd:=[l']) (rs:=[l]) (wr:=[.one l none,.one ⟨new,[]⟩ (some ⟨k,(rows.map fun r=>r.map .d)++[rw']⟩)]) (n:=n) ho hts hk0
  (.inl ⟨l,_,hs,hl,rfl,by rw[hd];exact Nat.le_refl _,by simp only[dobj];rw[List.take_of_length_le (by simp[hn])],rfl,rfl⟩) (by rw[hx];exact .own l' 0 1 ⟨k,[rw']⟩ hl' rfl (by simp)) (by simpa using hone) (by simpa using hsz) (by simpa using h63)
 simpa [dobj,hrow] using this
theorem Ok.makeN [Mode] {t e:TypeId}{x y:Operand}{k b n:Nat}{z:Value} (ho:o.op = .makeSlice t x y) (hx:A x=I (n:Nat)) (hy:A y=I (n:Nat)) [h:TySlice P t e k b z] (hb:b*n≤281474976710656) (h63:n≤9223372036854775807) :
  OpOk P o A [] H new (.own k ⟨new,[]⟩ 0 n) [.one ⟨new,[]⟩ (some (dobj k (List.replicate n (z.cells.toList.map .v))))]:=by
 have:=OpOk.makeSlice (P:=P) (H:=H) (new:=new) (A:=A) ho hx hy (by omega) (by have:=Int.ofNat_le.2 hb;rw[Int.natCast_mul] at this;exact this) (by omega)
 simpa [dobj,Function.comp_def] using this
def fillRows {α:Type} (m:Nat) (row:α→List D) (z:List D) (xs:List α) (k:Nat):AObj:=dobj m ((xs.take k).map row++List.replicate (xs.length - k) z)
theorem ObA.frE [Mode] {α:Type}{H:Heap}{lent:Loc→Prop}{τ:Loc→Loc}{L:Loc→Prop}{m:Nat}{row:α→List D}{z:List D}{xs:List α}{k:Nat}{ob:AObj} (h:ob=fillRows m row z xs k):ObA H lent τ L (fillRows m row z xs k) ob:=by subst h;exact ObA.data
theorem AR.ownE [Mode] {H:Heap}{lent:Loc→Prop}{τ:Loc→Loc}{L:Loc→Prop} (k:Nat) (l:Loc) (off:Nat) {n n':Nat} (hn:n=n') (h:L l):AR H lent τ L (.own k l off n) (.own k (τ l) off n'):=hn▸AR.own k l off n h
inductive NilR (k:Nat) (l:Loc):AV→AV→Prop
 | refl (a:AV):NilR k l a a
 | nil:NilR k l (.d (.v (.slice none 0 0))) (.own k l 0 0)
 | agg (cs cs':List AV) (hl:cs.length=cs'.length) (h:∀ (i:Nat) c c',cs[i]? = some c→cs'[i]? = some c'→NilR k l c c'):NilR k l (.agg cs) (.agg cs')
 | tup (cs cs':List AV) (hl:cs.length=cs'.length) (h:∀ (i:Nat) c c',cs[i]? = some c→cs'[i]? = some c'→NilR k l c c'):NilR k l (.tup cs) (.tup cs')
theorem NilR.vr [Mode] {ι:Iota}{F:Nat→Prop}{w:World}{k:Nat}{l:Loc} (hl:ι l=some none) {a a':AV} (h:NilR k l a a'):∀ {v:Value},VR ι F w a v→VR ι F w a' v:=by
 induction h with
 | refl a=>exact id
 | nil=>intro v hv;have:=hv.v_inv;subst this;exact .ownNil k l hl
 | agg cs cs' hl h ih=>
  intro v hv
  obtain ⟨vs,rfl,h1,h2⟩:=hv.agg_inv
  refine .agg cs' vs (by rw[h1,hl]) fun i c v hc hv=>?_
  have hi:i<cs.length:=by rw[hl];exact (List.getElem?_eq_some_iff.1 hc).1
  exact ih i _ c (List.getElem?_eq_getElem hi) hc (h2 i _ v (List.getElem?_eq_getElem hi) hv)
 | tup cs cs' hl h ih=>
  intro v hv
  cases hv with
  | tup _ vs h1 h2=>
  refine .tup cs' vs (by rw[h1,hl]) fun i c v hc hv=>?_
  have hi:i<cs.length:=by rw[hl];exact (List.getElem?_eq_some_iff.1 hc).1
  exact ih i _ c (List.getElem?_eq_getElem hi) hc (h2 i _ v (List.getElem?_eq_getElem hi) hv)
theorem Le.nilR [Mode] {C:Ctx}{H:Heap}{n:Nat} (k:Nat) {a a':AV} (h:NilR k ⟨n,[]⟩ a a'):Le C ⟨[a],H,n⟩ ⟨[a'],upd H ⟨n,[]⟩ (some ⟨k,[]⟩),n+1⟩:=by
 rintro ac w ⟨ι,F,hs,hv,hdf,hi,hu⟩
 have hn:∀ k,ι ⟨n,k⟩=none:=fun k=>hu n (Nat.le_refl _) k
 have hp:=Post.allocNil hs hn k []
 refine ⟨updι ι ⟨n,[]⟩ none,F,hp.sim,?_,hdf,⟨hi.step,hi.sub,hi.sup,fun l b ⟨h1,sz,e1⟩=>?_,fun l x hl e=>hp.ext _ _ (hi.keep l x hl e)⟩,fun id hid k=>?_⟩
 ·have hv':=hv.mono hp.ext hp.sub (fun b hb=>rfl)
  refine ⟨by simpa using hv'.1,fun i c v hc hvv=>?_⟩
  cases i with
  | zero=>simp at hc;subst hc;exact h.vr (by simp[updι]) (hv'.2 0 a v rfl hvv)
  | succ i=>simp at hc
 ·by_cases hl:l=⟨n,[]⟩
  ·subst hl;simp[updι] at e1
  ·simp only[updι,hl,if_false] at e1
   have h1':upd H ⟨n,[]⟩ (some ⟨k,[]⟩) l≠none:=h1
   rw[upd_ne hl] at h1'
   exact hi.own l b ⟨h1',sz,e1⟩
 ·have hid':n+1≤id:=hid
  have:(⟨id,k⟩:Loc)≠⟨n,[]⟩:=fun e=>by cases e;omega
  simp only[updι,this,if_false]
  exact hu id (by show n≤id;omega) k
theorem end2nil [Mode] {C:Ctx}{fr:List AV}{n:Nat}{fn:Func}{e:Exit}{rv rv':ResultVar}{k:Nat}{y:D} (he:e = .ret∨e = .normal) (hr:fn.results.toList=[rv,rv']) (h:ResOf P fr H rv (.d (.v (.slice none 0 0)))) (h':ResOf P fr H rv' (.d y)) (hD:∀ l,¬ C.D0 l) :
  EndQ P C fn (.tup [.own k ⟨0,[]⟩ 0 0,.d y]) (upd H0 ⟨0,[]⟩ (some ⟨k,[]⟩)) e ⟨fr,H,n⟩:=by
 refine end2 he hr h h' rfl ((Le.nilR k (.tup [.d (.v (.slice none 0 0)),.d y] [.own k ⟨n,[]⟩ 0 0,.d y] rfl fun i c c' h1 h2=>?_)).trans (Le.head [(⟨0,[]⟩,⟨n,[]⟩,⟨k,[]⟩)] (n':=1) (fun l h=>absurd h (hD l)) ?_ ?_ (by simp) (by simp) (by simp[AllP])))
 ·match i with
  | 0=>simp at h1 h2;subst h1;subst h2;exact .nil
  | 1=>simp at h1 h2;subst h1;subst h2;exact .refl _
  | i+2=>simp at h1
 ·exact ⟨⟨_,upd_same ..,rfl,rfl,fun i r r' h=>by simp at h⟩,trivial⟩
 ·exact ARs.cons (ARs.tup (ARs.cons (AR.own k ⟨0,[]⟩ 0 0 (by simp[heapL,upd])) (ARs.cons (AR.dd _) ARs.nil))) ARs.nil
theorem OpOk.call1n [Mode] {fo:Operand}{xs:List Operand}{ts:Array TypeId}{f:FuncId}{caps args:List AV}{res res':AV}{ob:AObj} (lent:List Loc) (ho:o.op = .call { callee:=.value fo,args:=xs.toArray,argTypes:=ts }) [FnBody P f] (hfo:A fo = .clo (.func f) [] caps) (hc:AC P f args H0 res (upd H0 ⟨0,[]⟩ (some ob)))
  (hfree:lent=[]∨(FreeF res∧∀ r∈ob.rows,∀ c∈r,FreeF c)) (hrn:∀ g,rnO g ob=ob) (hargs:ARs H (Cov lent) id (fun _=>False) args (xs.map A++caps)) (hr:rn (fun l=>⟨new,l.id :: l.sub⟩) res=res'):OpOk P o A lent H new res' [.one ⟨new,[0]⟩ (some ob)]:=
 hr▸OpOk.call1 lent ho hfo hc hfree hrn hargs
theorem OpOk.callM [Mode] {fo:Operand}{xs:List Operand}{ts:Array TypeId}{f:FuncId}{caps args:List AV}{res:AV}{l:Loc}{k k':Nat}{rows rows':List (List D)}{y:Value} (ho:o.op = .call { callee:=.value fo,args:=xs.toArray,argTypes:=ts }) [FnBody P f] (hfo:A fo = .clo (.func f) [] caps)
  (hc:AC P f args (upd H0 ⟨0,[]⟩ (some (dobj k rows))) res (upd H0 ⟨0,[]⟩ (some (dobj k' rows')))) (hl:H l=some (dobj k rows)) (hres:res = .d (.v y)) (hargs:ARs H (fun _=>False) (fun _=>l) (· = ⟨0,[]⟩) args (xs.map A++caps)):OpOk P o A [l] H new res [.one l (some (dobj k' rows'))]:=by
 have hfn:∀ c,res=c→rn (emb (fun _=>l) [⟨0,[]⟩] new) c=res:=fun c h=>by subst h;rw[hres,rn]
 have h:=OpOk.callGen (P:=P) (o:=o) (A:=A) (H:=H) (new:=new) (wr:=[.one l (some (dobj k' rows'))]) (fun _=>False) [l] (fun _=>l) [⟨0,[]⟩] (fun _ h=>h.elim) (fun l hl=>.mem (by first|(simp;done)|simpa using hl)) ho hfo hc (fun l'=>by
   by_cases e:l'=⟨0,[]⟩
   ·subst e;rw[upd_same];simp
   ·simp[upd_ne e,e]) (fun l1 h1 l2 h2 _=>by simp at h1 h2;rw[h1,h2]) (fun _ _ h=>h) (fun l' ob hob=>by
   by_cases e:l'=⟨0,[]⟩
   ·subst e;rw[upd_same] at hob;cases hob
    exact ⟨_,hl,ObA.data (H:=H) (lent:=fun _=>False) (τ:=fun _=>l) (L:=fun _=>True) |>.1,rfl,fun i r r' hr hr'=>⟨(ObA.data (H:=H) (lent:=fun _=>False) (τ:=fun _=>l) (L:=(·∈[(⟨0,[]⟩:Loc)]) )).2.2 i r r' hr hr' |>.1,(ObA.data (H:=H) (lent:=fun _=>False) (τ:=fun _=>l) (L:=(·∈[(⟨0,[]⟩:Loc)]) )).2.2 i r r' hr hr' |>.2⟩⟩
   ·rw[upd_ne e] at hob;cases hob) (.inl fun _ h=>h) (by simpa using hargs) (fun H1 h1 h2=>by
   have h3:H1 l=some (dobj k rows):=(h2 ⟨0,[]⟩ (by simp)).trans hl
   funext l'
   simp only[upds,W.app,merge,upd]
   by_cases e:l'=l
   ·subst e;simp[rnO_dobj]
   ·have e2:(l == l')=false:=by simpa using fun h=>e h.symm
    simp only[List.find?_cons,e2,List.find?_nil,e,if_false]
    split
    ·rename_i e3
     obtain ⟨id,sub⟩:=l'
     simp only at e3;subst e3
     cases sub with
     | nil=>simp[h1]
     | cons i s=>
      by_cases e4:(⟨i,s⟩:Loc)=⟨0,[]⟩
      ·simp[h1,e4]
      ·simp[h1,e4]
    ·rfl)
 rw[hfn res rfl] at h
 simpa using h
end
end
section
open Go Go.RowKit
section
variable {P : Program} {o : Oper} {A : Operand → AV} {H : Heap} {new : Nat} {val : AV} {reads : List Loc} {wr : List W}
theorem Ok.pu [Mode] (h:OpOk P o A reads H new val []:=by first|exact Ok.move rfl (by conv=>lhs;whnf)|exact Ok.assign rfl (by conv=>lhs;whnf)|exact Ok.fieldAddr rfl rfl (by decide) (by simp only[Nat.reduceAdd];exact rfl)|exact OpOk.fieldDAddr rfl rfl (by decide)|exact OpOk.loadCell rfl rfl rfl rfl rfl rfl|exact OpOk.loadAgg rfl rfl rfl rfl rfl (by simp)|exact OpOk.loadDCell rfl rfl rfl|exact OpOk.loadDAgg rfl rfl (by simp)|exact Ok.lenO rfl rfl|exact Ok.lenD rfl rfl (by simp only[List.length_map];exact rfl)|exact Ok.lenD rfl rfl rfl|exact Ok.lenN rfl rfl|exact OpOk.extract rfl rfl rfl|exact OpOk.fieldCell rfl rfl rfl|exact OpOk.fieldAgg rfl rfl (by simp)|exact Ok.add rfl rfl rfl (by omega) (by omega)|exact Ok.sub rfl rfl rfl (by omega) (by omega)|exact Ok.mul rfl rfl rfl (by omega) (by omega)|exact OpOk.indexD rfl rfl rfl (by omega) (by assumption) (by simp)|exact OpOk.indexOwn rfl rfl rfl (by omega) (by omega)|exact Ok.eql rfl rfl rfl|exact Ok.lss rfl rfl rfl|exact Ok.leq rfl rfl rfl|exact Ok.geq rfl rfl rfl|exact Ok.gtr rfl rfl rfl|exact Ok.neq rfl rfl rfl|exact Ok.pickT rfl rfl (by conv=>lhs;whnf)|exact Ok.pickF rfl rfl (by conv=>lhs;whnf)|exact Ok.pick rfl rfl (by conv=>lhs;whnf) (by conv=>lhs;whnf)|exact Ok.notP rfl rfl|exact Ok.not rfl rfl|exact Ok.neg rfl rfl (by omega) (by omega)|exact Ok.lenS rfl rfl|exact Ok.minII rfl rfl rfl|exact Ok.maxII rfl rfl rfl|exact Ok.seql rfl rfl rfl|exact OpOk.makeFunc rfl rfl rfl|exact OpOk.eqPl rfl (by conv=>lhs;whnf) (by conv=>lhs;whnf)|exact OpOk.neqPl rfl (by conv=>lhs;whnf) (by conv=>lhs;whnf)|exact Ok.build1 rfl (by conv=>lhs;whnf) (by rfl) (by rfl) (by simp only[AV.cells,List.take_succ_cons,List.take_zero,List.take_nil,List.drop_succ_cons,List.drop_zero,List.drop_nil,List.cons_append,List.nil_append,List.append_nil,List.map_cons,List.map_nil,List.set_cons_succ,List.set_cons_zero,Nat.reduceAdd];exact rfl)|exact Ok.build2 rfl (by conv=>lhs;whnf) (by conv=>lhs;whnf) (by rfl) (by rfl) (by rfl) (by simp only[AV.cells,List.take_succ_cons,List.take_zero,List.take_nil,List.drop_succ_cons,List.drop_zero,List.drop_nil,List.cons_append,List.nil_append,List.append_nil,List.map_cons,List.map_nil,List.set_cons_succ,List.set_cons_zero,Nat.reduceAdd];exact rfl)|exact Ok.build3 rfl (by conv=>lhs;whnf) (by conv=>lhs;whnf) (by conv=>lhs;whnf) (by rfl) (by rfl) (by rfl) (by rfl) (by simp only[AV.cells,List.take_succ_cons,List.take_zero,List.take_nil,List.drop_succ_cons,List.drop_zero,List.drop_nil,List.cons_append,List.nil_append,List.append_nil,List.map_cons,List.map_nil,List.set_cons_succ,List.set_cons_zero,Nat.reduceAdd];exact rfl)|exact Ok.build4 rfl (by conv=>lhs;whnf) (by conv=>lhs;whnf) (by conv=>lhs;whnf) (by conv=>lhs;whnf) (by rfl) (by rfl) (by rfl) (by rfl) (by rfl) (by simp only[AV.cells,List.take_succ_cons,List.take_zero,List.take_nil,List.drop_succ_cons,List.drop_zero,List.drop_nil,List.cons_append,List.nil_append,List.append_nil,List.map_cons,List.map_nil,List.set_cons_succ,List.set_cons_zero,Nat.reduceAdd];exact rfl)|exact Ok.build5 rfl (by conv=>lhs;whnf) (by conv=>lhs;whnf) (by conv=>lhs;whnf) (by conv=>lhs;whnf) (by conv=>lhs;whnf) (by rfl) (by rfl) (by rfl) (by rfl) (by rfl) (by rfl) (by simp only[AV.cells,List.take_succ_cons,List.take_zero,List.take_nil,List.drop_succ_cons,List.drop_zero,List.drop_nil,List.cons_append,List.nil_append,List.append_nil,List.map_cons,List.map_nil,List.set_cons_succ,List.set_cons_zero,Nat.reduceAdd];exact rfl)|exact Ok.build0 rfl (by simp only[List.map_cons,List.map_nil];exact rfl)|exact Ok.sliceTo rfl rfl rfl (by omega) (by omega)|exact Ok.sliceFrom rfl rfl rfl (by omega) (by omega)|exact Ok.subW rfl rfl rfl|exact Ok.addW rfl rfl rfl|exact Ok.beqS rfl rfl rfl (by kernel_rfl)|exact Ok.bneS rfl rfl rfl (by kernel_rfl)|exact Ok.beq rfl rfl rfl (by kernel_rfl)|exact Ok.bne rfl rfl rfl (by kernel_rfl)):OpOk P o A reads H new val []:=h
theorem Ok.pe [Mode] (h:OpOk P o A reads H new val wr:=by first|exact Ok.pu|exact Ok.boxA rfl rfl (by simp only[List.length_cons,List.length_nil,Nat.reduceAdd];exact rfl) rfl|exact Ok.boxC rfl (by conv=>lhs;whnf) rfl|exact Ok.alloc rfl (by conv=>lhs;whnf) (by simp only[Value.cells,List.map_cons,List.map_nil];exact rfl)|exact Ok.makeN rfl rfl rfl (by omega) (by omega)|exact Ok.bs0 rfl|exact Ok.bs1 rfl (by conv=>lhs;whnf) (by rfl) (by rfl) (by rfl) (by decide)):OpOk P o A reads H new val wr:=h
theorem Ok.e0 [Mode] (h:OpOk P o A reads H new val wr:=by first|exact Ok.storeC rfl rfl rfl rfl rfl (by simp only[List.length_cons,List.length_nil,Nat.reduceAdd,Nat.reduceLT]) (by conv=>lhs;whnf) (by rfl) (by rfl) (by simp only[AV.cells,List.take_succ_cons,List.take_zero,List.take_nil,List.drop_succ_cons,List.drop_zero,List.drop_nil,List.cons_append,List.nil_append,List.append_nil,List.map_cons,List.map_nil,List.set_cons_succ,List.set_cons_zero,Nat.reduceAdd];exact rfl)|exact Ok.storeA rfl rfl rfl rfl rfl (by simp) (by conv=>lhs;whnf) (by rfl) (by rfl) (by simp only[AV.cells,List.take_succ_cons,List.take_zero,List.take_nil,List.drop_succ_cons,List.drop_zero,List.drop_nil,List.cons_append,List.nil_append,List.append_nil,List.map_cons,List.map_nil,List.set_cons_succ,List.set_cons_zero,Nat.reduceAdd];exact rfl)):OpOk P o A reads H new val wr:=h
theorem setE [Mode] {a b:List AV} (h:a=b:=by simp only[List.set_cons_succ,List.set_cons_zero,List.take_succ_cons,List.drop_succ_cons,List.take_zero,List.drop_zero,List.take_nil,List.drop_nil,List.map_cons,List.map_nil];exact rfl):a=b:=h
theorem nxE [Mode] {a b:Nat} (h:a=b:=by first|(simp only[Nat.reduceAdd];exact rfl)|exact rfl):a=b:=h
theorem updsE [Mode] {H:Heap}:upds H []=H:=rfl
end
end
section
open Go Go.RowKit
instance:TyCell Tryz.prog 0:=⟨by kernel_rfl,by kernel_rfl⟩
instance:TyCell Tryz.prog 1:=⟨by kernel_rfl,by kernel_rfl⟩
instance:TyZero Tryz.prog 1 (.nilFunc):=⟨by kernel_rfl⟩
instance:TyCell Tryz.prog 2:=⟨by kernel_rfl,by kernel_rfl⟩
instance:TyZero Tryz.prog 2 (.int .i64 0):=⟨by kernel_rfl⟩
instance:TyCell Tryz.prog 3:=⟨by kernel_rfl,by kernel_rfl⟩
instance:TyZero Tryz.prog 3 (.int .i64 0):=⟨by kernel_rfl⟩
instance:TyCell Tryz.prog 4:=⟨by kernel_rfl,by kernel_rfl⟩
instance:TyZero Tryz.prog 4 (.bool false):=⟨by kernel_rfl⟩
instance:TyCell Tryz.prog 5:=⟨by kernel_rfl,by kernel_rfl⟩
instance:TyZero Tryz.prog 5 (.int .u8 0):=⟨by kernel_rfl⟩
instance:TyCell Tryz.prog 6:=⟨by kernel_rfl,by kernel_rfl⟩
instance:TyZero Tryz.prog 6 (.int .u8 0):=⟨by kernel_rfl⟩
instance:TyAgg Tryz.prog 7 4:=⟨by kernel_rfl,by kernel_rfl⟩
instance:TyZero Tryz.prog 7 (.agg #[.int .i64 0,.int .i64 0,.bool false,.int .u8 0]):=⟨by kernel_rfl⟩
instance:TyField Tryz.prog 7 0 0 2 1:=⟨by kernel_rfl,by kernel_rfl⟩
instance:TyField Tryz.prog 7 1 1 3 1:=⟨by kernel_rfl,by kernel_rfl⟩
instance:TyField Tryz.prog 7 2 2 4 1:=⟨by kernel_rfl,by kernel_rfl⟩
instance:TyField Tryz.prog 7 3 3 6 1:=⟨by kernel_rfl,by kernel_rfl⟩
instance:TyAgg Tryz.prog 8 4:=⟨by kernel_rfl,by kernel_rfl⟩
instance:TyZero Tryz.prog 8 (.agg #[.int .i64 0,.int .i64 0,.bool false,.int .u8 0]):=⟨by kernel_rfl⟩
instance:TyField Tryz.prog 8 0 0 2 1:=⟨by kernel_rfl,by kernel_rfl⟩
instance:TyField Tryz.prog 8 1 1 3 1:=⟨by kernel_rfl,by kernel_rfl⟩
instance:TyField Tryz.prog 8 2 2 4 1:=⟨by kernel_rfl,by kernel_rfl⟩
instance:TyField Tryz.prog 8 3 3 6 1:=⟨by kernel_rfl,by kernel_rfl⟩
instance:TyCell Tryz.prog 9:=⟨by kernel_rfl,by kernel_rfl⟩
instance:TyZero Tryz.prog 9 (.string ⟨#[]⟩):=⟨by kernel_rfl⟩
instance:TyString Tryz.prog 9:=⟨by kernel_rfl⟩
instance:TyCell Tryz.prog 10:=⟨by kernel_rfl,by kernel_rfl⟩
instance:TyZero Tryz.prog 10 (.string ⟨#[]⟩):=⟨by kernel_rfl⟩
instance:TyString Tryz.prog 10:=⟨by kernel_rfl⟩
instance:TyCell Tryz.prog 11:=⟨by kernel_rfl,by kernel_rfl⟩
instance:TyZero Tryz.prog 11 (.string ⟨#[]⟩):=⟨by kernel_rfl⟩
instance:TyString Tryz.prog 11:=⟨by kernel_rfl⟩
instance:TyCell Tryz.prog 12:=⟨by kernel_rfl,by kernel_rfl⟩
instance:TyZero Tryz.prog 12 (.int .u64 0):=⟨by kernel_rfl⟩
instance:TyAgg Tryz.prog 13 2:=⟨by kernel_rfl,by kernel_rfl⟩
instance:TyZero Tryz.prog 13 (.agg #[.string ⟨#[]⟩,.int .u64 0]):=⟨by kernel_rfl⟩
instance:TyField Tryz.prog 13 0 0 9 1:=⟨by kernel_rfl,by kernel_rfl⟩
instance:TyField Tryz.prog 13 1 1 12 1:=⟨by kernel_rfl,by kernel_rfl⟩
instance:TyAgg Tryz.prog 14 2:=⟨by kernel_rfl,by kernel_rfl⟩
instance:TyZero Tryz.prog 14 (.agg #[.string ⟨#[]⟩,.int .u64 0]):=⟨by kernel_rfl⟩
instance:TyField Tryz.prog 14 0 0 9 1:=⟨by kernel_rfl,by kernel_rfl⟩
instance:TyField Tryz.prog 14 1 1 12 1:=⟨by kernel_rfl,by kernel_rfl⟩
instance:TyCell Tryz.prog 15:=⟨by kernel_rfl,by kernel_rfl⟩
instance:TyZero Tryz.prog 15 (.pointer none):=⟨by kernel_rfl⟩
instance:TyCell Tryz.prog 16:=⟨by kernel_rfl,by kernel_rfl⟩
instance:TyZero Tryz.prog 16 (.pointer none):=⟨by kernel_rfl⟩
instance:TyCell Tryz.prog 17:=⟨by kernel_rfl,by kernel_rfl⟩
instance:TyZero Tryz.prog 17 (.pointer none):=⟨by kernel_rfl⟩
instance:TyAgg Tryz.prog 18 1:=⟨by kernel_rfl,by kernel_rfl⟩
instance:TyZero Tryz.prog 18 (.agg #[.pointer none]):=⟨by kernel_rfl⟩
instance:TyField Tryz.prog 18 0 0 17 1:=⟨by kernel_rfl,by kernel_rfl⟩
instance:TyAgg Tryz.prog 19 1:=⟨by kernel_rfl,by kernel_rfl⟩
instance:TyZero Tryz.prog 19 (.agg #[.pointer none]):=⟨by kernel_rfl⟩
instance:TyField Tryz.prog 19 0 0 17 1:=⟨by kernel_rfl,by kernel_rfl⟩
instance:TyCell Tryz.prog 20:=⟨by kernel_rfl,by kernel_rfl⟩
instance:TyZero Tryz.prog 20 (.nilIface):=⟨by kernel_rfl⟩
instance:TyCell Tryz.prog 21:=⟨by kernel_rfl,by kernel_rfl⟩
instance:TyZero Tryz.prog 21 (.int .i32 0):=⟨by kernel_rfl⟩
instance:TyCell Tryz.prog 22:=⟨by kernel_rfl,by kernel_rfl⟩
instance:TyZero Tryz.prog 22 (.slice none 0 0):=⟨by kernel_rfl⟩
instance:TySlice Tryz.prog 22 5 1 1 (.int .u8 0):=⟨by kernel_rfl,by kernel_rfl,by kernel_rfl⟩
instance:TyCell Tryz.prog 23:=⟨by kernel_rfl,by kernel_rfl⟩
instance:TyZero Tryz.prog 23 (.nilFunc):=⟨by kernel_rfl⟩
instance:TyCell Tryz.prog 24:=⟨by kernel_rfl,by kernel_rfl⟩
instance:TyZero Tryz.prog 24 (.slice none 0 0):=⟨by kernel_rfl⟩
instance:TySlice Tryz.prog 24 85 4 32 (.agg #[.int .i64 0,.int .i64 0,.int .i64 0,.int .i64 0]):=⟨by kernel_rfl,by kernel_rfl,by kernel_rfl⟩
instance:TyAgg Tryz.prog 25 2:=⟨by kernel_rfl,by kernel_rfl⟩
instance:TyZero Tryz.prog 25 (.agg #[.int .i64 0,.slice none 0 0]):=⟨by kernel_rfl⟩
instance:TyField Tryz.prog 25 0 0 2 1:=⟨by kernel_rfl,by kernel_rfl⟩
instance:TyField Tryz.prog 25 1 1 24 1:=⟨by kernel_rfl,by kernel_rfl⟩
instance:TyAgg Tryz.prog 26 2:=⟨by kernel_rfl,by kernel_rfl⟩
instance:TyZero Tryz.prog 26 (.agg #[.int .i64 0,.slice none 0 0]):=⟨by kernel_rfl⟩
instance:TyField Tryz.prog 26 0 0 2 1:=⟨by kernel_rfl,by kernel_rfl⟩
instance:TyField Tryz.prog 26 1 1 24 1:=⟨by kernel_rfl,by kernel_rfl⟩
instance:TyCell Tryz.prog 27:=⟨by kernel_rfl,by kernel_rfl⟩
instance:TyZero Tryz.prog 27 (.nilFunc):=⟨by kernel_rfl⟩
instance:TyAgg Tryz.prog 28 2:=⟨by kernel_rfl,by kernel_rfl⟩
instance:TyZero Tryz.prog 28 (.agg #[.int .i64 0,.int .i64 0]):=⟨by kernel_rfl⟩
instance:TyField Tryz.prog 28 0 0 2 1:=⟨by kernel_rfl,by kernel_rfl⟩
instance:TyField Tryz.prog 28 1 1 2 1:=⟨by kernel_rfl,by kernel_rfl⟩
instance:TyAgg Tryz.prog 29 2:=⟨by kernel_rfl,by kernel_rfl⟩
instance:TyZero Tryz.prog 29 (.agg #[.int .i64 0,.int .i64 0]):=⟨by kernel_rfl⟩
instance:TyField Tryz.prog 29 0 0 2 1:=⟨by kernel_rfl,by kernel_rfl⟩
instance:TyField Tryz.prog 29 1 1 2 1:=⟨by kernel_rfl,by kernel_rfl⟩
instance:TyCell Tryz.prog 30:=⟨by kernel_rfl,by kernel_rfl⟩
instance:TyZero Tryz.prog 30 (.slice none 0 0):=⟨by kernel_rfl⟩
instance:TySlice Tryz.prog 30 2 1 8 (.int .i64 0):=⟨by kernel_rfl,by kernel_rfl,by kernel_rfl⟩
instance:TyCell Tryz.prog 31:=⟨by kernel_rfl,by kernel_rfl⟩
instance:TyCell Tryz.prog 32:=⟨by kernel_rfl,by kernel_rfl⟩
instance:TyZero Tryz.prog 32 (.nilFunc):=⟨by kernel_rfl⟩
instance:TyCell Tryz.prog 33:=⟨by kernel_rfl,by kernel_rfl⟩
instance:TyZero Tryz.prog 33 (.nilFunc):=⟨by kernel_rfl⟩
instance:TyCell Tryz.prog 34:=⟨by kernel_rfl,by kernel_rfl⟩
instance:TyCell Tryz.prog 35:=⟨by kernel_rfl,by kernel_rfl⟩
instance:TyZero Tryz.prog 35 (.nilFunc):=⟨by kernel_rfl⟩
instance:TyAgg Tryz.prog 36 2:=⟨by kernel_rfl,by kernel_rfl⟩
instance:TyZero Tryz.prog 36 (.agg #[.int .i64 0,.slice none 0 0]):=⟨by kernel_rfl⟩
instance:TyField Tryz.prog 36 0 0 2 1:=⟨by kernel_rfl,by kernel_rfl⟩
instance:TyField Tryz.prog 36 1 1 30 1:=⟨by kernel_rfl,by kernel_rfl⟩
instance:TyAgg Tryz.prog 37 2:=⟨by kernel_rfl,by kernel_rfl⟩
instance:TyZero Tryz.prog 37 (.agg #[.int .i64 0,.slice none 0 0]):=⟨by kernel_rfl⟩
instance:TyField Tryz.prog 37 0 0 2 1:=⟨by kernel_rfl,by kernel_rfl⟩
instance:TyField Tryz.prog 37 1 1 30 1:=⟨by kernel_rfl,by kernel_rfl⟩
instance:TyCell Tryz.prog 38:=⟨by kernel_rfl,by kernel_rfl⟩
instance:TyCell Tryz.prog 39:=⟨by kernel_rfl,by kernel_rfl⟩
instance:TyZero Tryz.prog 39 (.nilFunc):=⟨by kernel_rfl⟩
instance:TyCell Tryz.prog 40:=⟨by kernel_rfl,by kernel_rfl⟩
instance:TyCell Tryz.prog 41:=⟨by kernel_rfl,by kernel_rfl⟩
instance:TyZero Tryz.prog 41 (.nilFunc):=⟨by kernel_rfl⟩
instance:TyCell Tryz.prog 42:=⟨by kernel_rfl,by kernel_rfl⟩
instance:TyCell Tryz.prog 43:=⟨by kernel_rfl,by kernel_rfl⟩
instance:TyZero Tryz.prog 43 (.nilFunc):=⟨by kernel_rfl⟩
instance:TyCell Tryz.prog 44:=⟨by kernel_rfl,by kernel_rfl⟩
instance:TyZero Tryz.prog 44 (.nilFunc):=⟨by kernel_rfl⟩
instance:TyCell Tryz.prog 45:=⟨by kernel_rfl,by kernel_rfl⟩
instance:TyCell Tryz.prog 46:=⟨by kernel_rfl,by kernel_rfl⟩
instance:TyZero Tryz.prog 46 (.nilFunc):=⟨by kernel_rfl⟩
instance:TyCell Tryz.prog 47:=⟨by kernel_rfl,by kernel_rfl⟩
instance:TyZero Tryz.prog 47 (.nilFunc):=⟨by kernel_rfl⟩
instance:TyCell Tryz.prog 48:=⟨by kernel_rfl,by kernel_rfl⟩
instance:TyZero Tryz.prog 48 (.slice none 0 0):=⟨by kernel_rfl⟩
instance:TySlice Tryz.prog 48 30 1 24 (.slice none 0 0):=⟨by kernel_rfl,by kernel_rfl,by kernel_rfl⟩
instance:TyCell Tryz.prog 49:=⟨by kernel_rfl,by kernel_rfl⟩
instance:TyCell Tryz.prog 50:=⟨by kernel_rfl,by kernel_rfl⟩
instance:TyZero Tryz.prog 50 (.nilFunc):=⟨by kernel_rfl⟩
instance:TyCell Tryz.prog 51:=⟨by kernel_rfl,by kernel_rfl⟩
instance:TyZero Tryz.prog 51 (.slice none 0 0):=⟨by kernel_rfl⟩
instance:TySlice Tryz.prog 51 91 3 24 (.agg #[.int .i64 0,.int .i64 0,.int .i64 0]):=⟨by kernel_rfl,by kernel_rfl,by kernel_rfl⟩
instance:TyCell Tryz.prog 52:=⟨by kernel_rfl,by kernel_rfl⟩
instance:TyCell Tryz.prog 53:=⟨by kernel_rfl,by kernel_rfl⟩
instance:TyZero Tryz.prog 53 (.nilFunc):=⟨by kernel_rfl⟩
instance:TyCell Tryz.prog 54:=⟨by kernel_rfl,by kernel_rfl⟩
instance:TyZero Tryz.prog 54 (.nilFunc):=⟨by kernel_rfl⟩
instance:TyCell Tryz.prog 55:=⟨by kernel_rfl,by kernel_rfl⟩
instance:TyZero Tryz.prog 55 (.nilFunc):=⟨by kernel_rfl⟩
instance:TyCell Tryz.prog 56:=⟨by kernel_rfl,by kernel_rfl⟩
instance:TyZero Tryz.prog 56 (.nilFunc):=⟨by kernel_rfl⟩
instance:TyCell Tryz.prog 57:=⟨by kernel_rfl,by kernel_rfl⟩
instance:TyCell Tryz.prog 58:=⟨by kernel_rfl,by kernel_rfl⟩
instance:TyZero Tryz.prog 58 (.nilFunc):=⟨by kernel_rfl⟩
instance:TyCell Tryz.prog 59:=⟨by kernel_rfl,by kernel_rfl⟩
instance:TyZero Tryz.prog 59 (.nilFunc):=⟨by kernel_rfl⟩
instance:TyCell Tryz.prog 60:=⟨by kernel_rfl,by kernel_rfl⟩
instance:TyZero Tryz.prog 60 (.nilFunc):=⟨by kernel_rfl⟩
instance:TyCell Tryz.prog 61:=⟨by kernel_rfl,by kernel_rfl⟩
instance:TyZero Tryz.prog 61 (.nilFunc):=⟨by kernel_rfl⟩
instance:TyCell Tryz.prog 62:=⟨by kernel_rfl,by kernel_rfl⟩
instance:TyZero Tryz.prog 62 (.nilFunc):=⟨by kernel_rfl⟩
instance:TyCell Tryz.prog 63:=⟨by kernel_rfl,by kernel_rfl⟩
instance:TyZero Tryz.prog 63 (.nilFunc):=⟨by kernel_rfl⟩
instance:TyCell Tryz.prog 64:=⟨by kernel_rfl,by kernel_rfl⟩
instance:TyZero Tryz.prog 64 (.pointer none):=⟨by kernel_rfl⟩
instance:TyCell Tryz.prog 65:=⟨by kernel_rfl,by kernel_rfl⟩
instance:TyZero Tryz.prog 65 (.nilFunc):=⟨by kernel_rfl⟩
instance:TyCell Tryz.prog 66:=⟨by kernel_rfl,by kernel_rfl⟩
instance:TyZero Tryz.prog 66 (.nilFunc):=⟨by kernel_rfl⟩
instance:TyCell Tryz.prog 67:=⟨by kernel_rfl,by kernel_rfl⟩
instance:TyZero Tryz.prog 67 (.nilFunc):=⟨by kernel_rfl⟩
instance:TyCell Tryz.prog 68:=⟨by kernel_rfl,by kernel_rfl⟩
instance:TyCell Tryz.prog 69:=⟨by kernel_rfl,by kernel_rfl⟩
instance:TyZero Tryz.prog 69 (.nilFunc):=⟨by kernel_rfl⟩
instance:TyCell Tryz.prog 70:=⟨by kernel_rfl,by kernel_rfl⟩
instance:TyZero Tryz.prog 70 (.nilFunc):=⟨by kernel_rfl⟩
instance:TyCell Tryz.prog 71:=⟨by kernel_rfl,by kernel_rfl⟩
instance:TyZero Tryz.prog 71 (.nilFunc):=⟨by kernel_rfl⟩
instance:TyCell Tryz.prog 72:=⟨by kernel_rfl,by kernel_rfl⟩
instance:TyZero Tryz.prog 72 (.nilFunc):=⟨by kernel_rfl⟩
instance:TyCell Tryz.prog 73:=⟨by kernel_rfl,by kernel_rfl⟩
instance:TyZero Tryz.prog 73 (.nilFunc):=⟨by kernel_rfl⟩
instance:TyCell Tryz.prog 74:=⟨by kernel_rfl,by kernel_rfl⟩
instance:TyZero Tryz.prog 74 (.nilFunc):=⟨by kernel_rfl⟩
instance:TyCell Tryz.prog 75:=⟨by kernel_rfl,by kernel_rfl⟩
instance:TyZero Tryz.prog 75 (.nilFunc):=⟨by kernel_rfl⟩
instance:TyCell Tryz.prog 76:=⟨by kernel_rfl,by kernel_rfl⟩
instance:TyZero Tryz.prog 76 (.nilFunc):=⟨by kernel_rfl⟩
instance:TyCell Tryz.prog 77:=⟨by kernel_rfl,by kernel_rfl⟩
instance:TyZero Tryz.prog 77 (.nilFunc):=⟨by kernel_rfl⟩
instance:TyCell Tryz.prog 78:=⟨by kernel_rfl,by kernel_rfl⟩
instance:TyZero Tryz.prog 78 (.nilFunc):=⟨by kernel_rfl⟩
instance:TyCell Tryz.prog 79:=⟨by kernel_rfl,by kernel_rfl⟩
instance:TyZero Tryz.prog 79 (.nilFunc):=⟨by kernel_rfl⟩
instance:TyCell Tryz.prog 80:=⟨by kernel_rfl,by kernel_rfl⟩
instance:TyZero Tryz.prog 80 (.nilFunc):=⟨by kernel_rfl⟩
instance:TyCell Tryz.prog 81:=⟨by kernel_rfl,by kernel_rfl⟩
instance:TyZero Tryz.prog 81 (.nilFunc):=⟨by kernel_rfl⟩
instance:TyCell Tryz.prog 82:=⟨by kernel_rfl,by kernel_rfl⟩
instance:TyZero Tryz.prog 82 (.nilFunc):=⟨by kernel_rfl⟩
instance:TyCell Tryz.prog 83:=⟨by kernel_rfl,by kernel_rfl⟩
instance:TyZero Tryz.prog 83 (.nilFunc):=⟨by kernel_rfl⟩
instance:TyAgg Tryz.prog 84 4:=⟨by kernel_rfl,by kernel_rfl⟩
instance:TyZero Tryz.prog 84 (.agg #[.int .i64 0,.int .i64 0,.int .i64 0,.int .i64 0]):=⟨by kernel_rfl⟩
instance:TyField Tryz.prog 84 0 0 2 1:=⟨by kernel_rfl,by kernel_rfl⟩
instance:TyField Tryz.prog 84 1 1 2 1:=⟨by kernel_rfl,by kernel_rfl⟩
instance:TyField Tryz.prog 84 2 2 2 1:=⟨by kernel_rfl,by kernel_rfl⟩
instance:TyField Tryz.prog 84 3 3 2 1:=⟨by kernel_rfl,by kernel_rfl⟩
instance:TyAgg Tryz.prog 85 4:=⟨by kernel_rfl,by kernel_rfl⟩
instance:TyZero Tryz.prog 85 (.agg #[.int .i64 0,.int .i64 0,.int .i64 0,.int .i64 0]):=⟨by kernel_rfl⟩
instance:TyField Tryz.prog 85 0 0 2 1:=⟨by kernel_rfl,by kernel_rfl⟩
instance:TyField Tryz.prog 85 1 1 2 1:=⟨by kernel_rfl,by kernel_rfl⟩
instance:TyField Tryz.prog 85 2 2 2 1:=⟨by kernel_rfl,by kernel_rfl⟩
instance:TyField Tryz.prog 85 3 3 2 1:=⟨by kernel_rfl,by kernel_rfl⟩
instance:TyCell Tryz.prog 86:=⟨by kernel_rfl,by kernel_rfl⟩
instance:TyZero Tryz.prog 86 (.nilFunc):=⟨by kernel_rfl⟩
instance:TyCell Tryz.prog 87:=⟨by kernel_rfl,by kernel_rfl⟩
instance:TyZero Tryz.prog 87 (.nilFunc):=⟨by kernel_rfl⟩
instance:TyCell Tryz.prog 88:=⟨by kernel_rfl,by kernel_rfl⟩
instance:TyZero Tryz.prog 88 (.nilFunc):=⟨by kernel_rfl⟩
instance:TyCell Tryz.prog 89:=⟨by kernel_rfl,by kernel_rfl⟩
instance:TyZero Tryz.prog 89 (.nilFunc):=⟨by kernel_rfl⟩
instance:TyAgg Tryz.prog 90 3:=⟨by kernel_rfl,by kernel_rfl⟩
instance:TyZero Tryz.prog 90 (.agg #[.int .i64 0,.int .i64 0,.int .i64 0]):=⟨by kernel_rfl⟩
instance:TyField Tryz.prog 90 0 0 2 1:=⟨by kernel_rfl,by kernel_rfl⟩
instance:TyField Tryz.prog 90 1 1 2 1:=⟨by kernel_rfl,by kernel_rfl⟩
instance:TyField Tryz.prog 90 2 2 2 1:=⟨by kernel_rfl,by kernel_rfl⟩
instance:TyAgg Tryz.prog 91 3:=⟨by kernel_rfl,by kernel_rfl⟩
instance:TyZero Tryz.prog 91 (.agg #[.int .i64 0,.int .i64 0,.int .i64 0]):=⟨by kernel_rfl⟩
instance:TyField Tryz.prog 91 0 0 2 1:=⟨by kernel_rfl,by kernel_rfl⟩
instance:TyField Tryz.prog 91 1 1 2 1:=⟨by kernel_rfl,by kernel_rfl⟩
instance:TyField Tryz.prog 91 2 2 2 1:=⟨by kernel_rfl,by kernel_rfl⟩
instance:TyCell Tryz.prog 92:=⟨by kernel_rfl,by kernel_rfl⟩
instance:TyZero Tryz.prog 92 (.nilFunc):=⟨by kernel_rfl⟩
instance:TyCell Tryz.prog 93:=⟨by kernel_rfl,by kernel_rfl⟩
instance:TyZero Tryz.prog 93 (.nilFunc):=⟨by kernel_rfl⟩
instance:TyCell Tryz.prog 94:=⟨by kernel_rfl,by kernel_rfl⟩
instance:TyZero Tryz.prog 94 (.nilFunc):=⟨by kernel_rfl⟩
instance:TyCell Tryz.prog 95:=⟨by kernel_rfl,by kernel_rfl⟩
instance:TyZero Tryz.prog 95 (.nilFunc):=⟨by kernel_rfl⟩
instance:TyCell Tryz.prog 96:=⟨by kernel_rfl,by kernel_rfl⟩
instance:TyZero Tryz.prog 96 (.nilFunc):=⟨by kernel_rfl⟩
instance:TyCell Tryz.prog 97:=⟨by kernel_rfl,by kernel_rfl⟩
instance:TyZero Tryz.prog 97 (.nilFunc):=⟨by kernel_rfl⟩
instance:TyCell Tryz.prog 98:=⟨by kernel_rfl,by kernel_rfl⟩
instance:TyZero Tryz.prog 98 (.nilFunc):=⟨by kernel_rfl⟩
instance:TyCell Tryz.prog 99:=⟨by kernel_rfl,by kernel_rfl⟩
instance:TyZero Tryz.prog 99 (.nilFunc):=⟨by kernel_rfl⟩
instance:TyCell Tryz.prog 100:=⟨by kernel_rfl,by kernel_rfl⟩
instance:TyZero Tryz.prog 100 (.nilFunc):=⟨by kernel_rfl⟩
instance:TyCell Tryz.prog 101:=⟨by kernel_rfl,by kernel_rfl⟩
instance:TyZero Tryz.prog 101 (.nilFunc):=⟨by kernel_rfl⟩
instance:TyCell Tryz.prog 102:=⟨by kernel_rfl,by kernel_rfl⟩
instance:TyCell Tryz.prog 103:=⟨by kernel_rfl,by kernel_rfl⟩
instance:TyZero Tryz.prog 103 (.nilFunc):=⟨by kernel_rfl⟩
instance:TyCell Tryz.prog 104:=⟨by kernel_rfl,by kernel_rfl⟩
instance:TyZero Tryz.prog 104 (.nilFunc):=⟨by kernel_rfl⟩
instance:TyAgg Tryz.prog 105 3:=⟨by kernel_rfl,by kernel_rfl⟩
instance:TyZero Tryz.prog 105 (.agg #[.slice none 0 0,.int .i64 0,.int .i64 0]):=⟨by kernel_rfl⟩
instance:TyField Tryz.prog 105 0 0 22 1:=⟨by kernel_rfl,by kernel_rfl⟩
instance:TyField Tryz.prog 105 1 1 3 1:=⟨by kernel_rfl,by kernel_rfl⟩
instance:TyField Tryz.prog 105 2 2 2 1:=⟨by kernel_rfl,by kernel_rfl⟩
instance:TyAgg Tryz.prog 106 3:=⟨by kernel_rfl,by kernel_rfl⟩
instance:TyZero Tryz.prog 106 (.agg #[.slice none 0 0,.int .i64 0,.int .i64 0]):=⟨by kernel_rfl⟩
instance:TyField Tryz.prog 106 0 0 22 1:=⟨by kernel_rfl,by kernel_rfl⟩
instance:TyField Tryz.prog 106 1 1 3 1:=⟨by kernel_rfl,by kernel_rfl⟩
instance:TyField Tryz.prog 106 2 2 2 1:=⟨by kernel_rfl,by kernel_rfl⟩
instance:TyCell Tryz.prog 107:=⟨by kernel_rfl,by kernel_rfl⟩
instance:TyZero Tryz.prog 107 (.nilFunc):=⟨by kernel_rfl⟩
instance:TyCell Tryz.prog 108:=⟨by kernel_rfl,by kernel_rfl⟩
instance:TyZero Tryz.prog 108 (.nilFunc):=⟨by kernel_rfl⟩
instance:TyCell Tryz.prog 109:=⟨by kernel_rfl,by kernel_rfl⟩
instance:TyCell Tryz.prog 110:=⟨by kernel_rfl,by kernel_rfl⟩
instance:TyZero Tryz.prog 110 (.nilFunc):=⟨by kernel_rfl⟩
instance:TyCell Tryz.prog 111:=⟨by kernel_rfl,by kernel_rfl⟩
instance:TyZero Tryz.prog 111 (.nilFunc):=⟨by kernel_rfl⟩
instance:TyCell Tryz.prog 112:=⟨by kernel_rfl,by kernel_rfl⟩
instance:TyZero Tryz.prog 112 (.nilFunc):=⟨by kernel_rfl⟩
instance:TyCell Tryz.prog 113:=⟨by kernel_rfl,by kernel_rfl⟩
instance:TyZero Tryz.prog 113 (.nilFunc):=⟨by kernel_rfl⟩
instance:TyCell Tryz.prog 114:=⟨by kernel_rfl,by kernel_rfl⟩
instance:TyZero Tryz.prog 114 (.nilFunc):=⟨by kernel_rfl⟩
instance:TyCell Tryz.prog 115:=⟨by kernel_rfl,by kernel_rfl⟩
instance:TyZero Tryz.prog 115 (.slice none 0 0):=⟨by kernel_rfl⟩
instance:TySlice Tryz.prog 115 4 1 1 (.bool false):=⟨by kernel_rfl,by kernel_rfl,by kernel_rfl⟩
instance:TyAgg Tryz.prog 116 5:=⟨by kernel_rfl,by kernel_rfl⟩
instance:TyZero Tryz.prog 116 (.agg #[.int .i64 0,.slice none 0 0,.slice none 0 0,.slice none 0 0,.slice none 0 0]):=⟨by kernel_rfl⟩
instance:TyField Tryz.prog 116 0 0 26 2:=⟨by kernel_rfl,by kernel_rfl⟩
instance:TyField Tryz.prog 116 1 2 115 1:=⟨by kernel_rfl,by kernel_rfl⟩
instance:TyField Tryz.prog 116 2 3 30 1:=⟨by kernel_rfl,by kernel_rfl⟩
instance:TyField Tryz.prog 116 3 4 115 1:=⟨by kernel_rfl,by kernel_rfl⟩
instance:TyAgg Tryz.prog 117 5:=⟨by kernel_rfl,by kernel_rfl⟩
instance:TyZero Tryz.prog 117 (.agg #[.int .i64 0,.slice none 0 0,.slice none 0 0,.slice none 0 0,.slice none 0 0]):=⟨by kernel_rfl⟩
instance:TyField Tryz.prog 117 0 0 26 2:=⟨by kernel_rfl,by kernel_rfl⟩
instance:TyField Tryz.prog 117 1 2 115 1:=⟨by kernel_rfl,by kernel_rfl⟩
instance:TyField Tryz.prog 117 2 3 30 1:=⟨by kernel_rfl,by kernel_rfl⟩
instance:TyField Tryz.prog 117 3 4 115 1:=⟨by kernel_rfl,by kernel_rfl⟩
instance:TyCell Tryz.prog 118:=⟨by kernel_rfl,by kernel_rfl⟩
instance:TyZero Tryz.prog 118 (.nilFunc):=⟨by kernel_rfl⟩
instance:TyCell Tryz.prog 119:=⟨by kernel_rfl,by kernel_rfl⟩
instance:TyZero Tryz.prog 119 (.nilFunc):=⟨by kernel_rfl⟩
instance:TyCell Tryz.prog 120:=⟨by kernel_rfl,by kernel_rfl⟩
instance:TyZero Tryz.prog 120 (.nilFunc):=⟨by kernel_rfl⟩
instance:TyCell Tryz.prog 121:=⟨by kernel_rfl,by kernel_rfl⟩
instance:TyZero Tryz.prog 121 (.nilFunc):=⟨by kernel_rfl⟩
instance:TyCell Tryz.prog 122:=⟨by kernel_rfl,by kernel_rfl⟩
instance:TyZero Tryz.prog 122 (.nilFunc):=⟨by kernel_rfl⟩
instance:TyCell Tryz.prog 123:=⟨by kernel_rfl,by kernel_rfl⟩
instance:TyZero Tryz.prog 123 (.nilFunc):=⟨by kernel_rfl⟩
instance:TyAgg Tryz.prog 124 5:=⟨by kernel_rfl,by kernel_rfl⟩
instance:TyZero Tryz.prog 124 (.agg #[.int .i64 0,.slice none 0 0,.int .i64 0,.slice none 0 0,.slice none 0 0]):=⟨by kernel_rfl⟩
instance:TyField Tryz.prog 124 0 0 26 2:=⟨by kernel_rfl,by kernel_rfl⟩
instance:TyField Tryz.prog 124 1 2 2 1:=⟨by kernel_rfl,by kernel_rfl⟩
instance:TyField Tryz.prog 124 2 3 30 1:=⟨by kernel_rfl,by kernel_rfl⟩
instance:TyField Tryz.prog 124 3 4 115 1:=⟨by kernel_rfl,by kernel_rfl⟩
instance:TyAgg Tryz.prog 125 5:=⟨by kernel_rfl,by kernel_rfl⟩
instance:TyZero Tryz.prog 125 (.agg #[.int .i64 0,.slice none 0 0,.int .i64 0,.slice none 0 0,.slice none 0 0]):=⟨by kernel_rfl⟩
instance:TyField Tryz.prog 125 0 0 26 2:=⟨by kernel_rfl,by kernel_rfl⟩
instance:TyField Tryz.prog 125 1 2 2 1:=⟨by kernel_rfl,by kernel_rfl⟩
instance:TyField Tryz.prog 125 2 3 30 1:=⟨by kernel_rfl,by kernel_rfl⟩
instance:TyField Tryz.prog 125 3 4 115 1:=⟨by kernel_rfl,by kernel_rfl⟩
instance:TyCell Tryz.prog 126:=⟨by kernel_rfl,by kernel_rfl⟩
instance:TyZero Tryz.prog 126 (.nilFunc):=⟨by kernel_rfl⟩
instance:TyCell Tryz.prog 127:=⟨by kernel_rfl,by kernel_rfl⟩
instance:TyZero Tryz.prog 127 (.nilFunc):=⟨by kernel_rfl⟩
instance:TyCell Tryz.prog 128:=⟨by kernel_rfl,by kernel_rfl⟩
instance:TyZero Tryz.prog 128 (.nilFunc):=⟨by kernel_rfl⟩
instance:TyCell Tryz.prog 129:=⟨by kernel_rfl,by kernel_rfl⟩
instance:TyZero Tryz.prog 129 (.nilFunc):=⟨by kernel_rfl⟩
instance:TyCell Tryz.prog 130:=⟨by kernel_rfl,by kernel_rfl⟩
instance:TyCell Tryz.prog 131:=⟨by kernel_rfl,by kernel_rfl⟩
instance:TyZero Tryz.prog 131 (.nilFunc):=⟨by kernel_rfl⟩
instance:TyCell Tryz.prog 132:=⟨by kernel_rfl,by kernel_rfl⟩
instance:TyZero Tryz.prog 132 (.nilFunc):=⟨by kernel_rfl⟩
instance:TyCell Tryz.prog 133:=⟨by kernel_rfl,by kernel_rfl⟩
instance:TyZero Tryz.prog 133 (.nilFunc):=⟨by kernel_rfl⟩
instance:TyCell Tryz.prog 134:=⟨by kernel_rfl,by kernel_rfl⟩
instance:TyZero Tryz.prog 134 (.nilFunc):=⟨by kernel_rfl⟩
instance:TyCell Tryz.prog 135:=⟨by kernel_rfl,by kernel_rfl⟩
instance:TyZero Tryz.prog 135 (.nilFunc):=⟨by kernel_rfl⟩
instance:TyCell Tryz.prog 136:=⟨by kernel_rfl,by kernel_rfl⟩
instance:TyZero Tryz.prog 136 (.nilFunc):=⟨by kernel_rfl⟩
instance:TyCell Tryz.prog 137:=⟨by kernel_rfl,by kernel_rfl⟩
instance:TyZero Tryz.prog 137 (.nilFunc):=⟨by kernel_rfl⟩
instance:TyCell Tryz.prog 138:=⟨by kernel_rfl,by kernel_rfl⟩
instance:TyZero Tryz.prog 138 (.nilFunc):=⟨by kernel_rfl⟩
instance:TyCell Tryz.prog 139:=⟨by kernel_rfl,by kernel_rfl⟩
instance:TyZero Tryz.prog 139 (.nilFunc):=⟨by kernel_rfl⟩
instance:TyCell Tryz.prog 140:=⟨by kernel_rfl,by kernel_rfl⟩
instance:TyZero Tryz.prog 140 (.nilFunc):=⟨by kernel_rfl⟩
instance:TyCell Tryz.prog 141:=⟨by kernel_rfl,by kernel_rfl⟩
instance:TyZero Tryz.prog 141 (.nilFunc):=⟨by kernel_rfl⟩
instance:TyCell Tryz.prog 142:=⟨by kernel_rfl,by kernel_rfl⟩
instance:TyZero Tryz.prog 142 (.nilFunc):=⟨by kernel_rfl⟩
instance:TyCell Tryz.prog 143:=⟨by kernel_rfl,by kernel_rfl⟩
instance:TyZero Tryz.prog 143 (.nilFunc):=⟨by kernel_rfl⟩
instance:TyCell Tryz.prog 144:=⟨by kernel_rfl,by kernel_rfl⟩
instance:TyZero Tryz.prog 144 (.nilFunc):=⟨by kernel_rfl⟩
instance:TyCell Tryz.prog 145:=⟨by kernel_rfl,by kernel_rfl⟩
instance:TyZero Tryz.prog 145 (.pointer none):=⟨by kernel_rfl⟩
instance:TyCell Tryz.prog 146:=⟨by kernel_rfl,by kernel_rfl⟩
instance:TyZero Tryz.prog 146 (.nilFunc):=⟨by kernel_rfl⟩
instance:TyCell Tryz.prog 147:=⟨by kernel_rfl,by kernel_rfl⟩
instance:TyZero Tryz.prog 147 (.nilFunc):=⟨by kernel_rfl⟩
instance:TyCell Tryz.prog 148:=⟨by kernel_rfl,by kernel_rfl⟩
instance:TyZero Tryz.prog 148 (.nilFunc):=⟨by kernel_rfl⟩
instance:TyCell Tryz.prog 149:=⟨by kernel_rfl,by kernel_rfl⟩
instance:TyZero Tryz.prog 149 (.nilFunc):=⟨by kernel_rfl⟩
instance:TyCell Tryz.prog 150:=⟨by kernel_rfl,by kernel_rfl⟩
instance:TyZero Tryz.prog 150 (.nilFunc):=⟨by kernel_rfl⟩
instance:TyCell Tryz.prog 151:=⟨by kernel_rfl,by kernel_rfl⟩
instance:TyZero Tryz.prog 151 (.pointer none):=⟨by kernel_rfl⟩
instance:TyCell Tryz.prog 152:=⟨by kernel_rfl,by kernel_rfl⟩
instance:TyZero Tryz.prog 152 (.nilFunc):=⟨by kernel_rfl⟩
instance:TyCell Tryz.prog 153:=⟨by kernel_rfl,by kernel_rfl⟩
instance:TyZero Tryz.prog 153 (.nilFunc):=⟨by kernel_rfl⟩
instance:TyCell Tryz.prog 154:=⟨by kernel_rfl,by kernel_rfl⟩
instance:TyZero Tryz.prog 154 (.nilFunc):=⟨by kernel_rfl⟩
instance:TyCell Tryz.prog 155:=⟨by kernel_rfl,by kernel_rfl⟩
instance:TyZero Tryz.prog 155 (.slice none 0 0):=⟨by kernel_rfl⟩
instance:TySlice Tryz.prog 155 115 1 24 (.slice none 0 0):=⟨by kernel_rfl,by kernel_rfl,by kernel_rfl⟩
instance:TyCell Tryz.prog 156:=⟨by kernel_rfl,by kernel_rfl⟩
instance:TyZero Tryz.prog 156 (.nilFunc):=⟨by kernel_rfl⟩
instance:TyCell Tryz.prog 157:=⟨by kernel_rfl,by kernel_rfl⟩
instance:TyZero Tryz.prog 157 (.nilFunc):=⟨by kernel_rfl⟩
instance:TyCell Tryz.prog 158:=⟨by kernel_rfl,by kernel_rfl⟩
instance:TyZero Tryz.prog 158 (.nilFunc):=⟨by kernel_rfl⟩
instance:TyCell Tryz.prog 159:=⟨by kernel_rfl,by kernel_rfl⟩
instance:TyZero Tryz.prog 159 (.nilFunc):=⟨by kernel_rfl⟩
instance:TyCell Tryz.prog 160:=⟨by kernel_rfl,by kernel_rfl⟩
instance:TyZero Tryz.prog 160 (.nilFunc):=⟨by kernel_rfl⟩
instance:TyAgg Tryz.prog 161 4:=⟨by kernel_rfl,by kernel_rfl⟩
instance:TyZero Tryz.prog 161 (.agg #[.slice none 0 0,.nilFunc,.slice none 0 0,.slice none 0 0]):=⟨by kernel_rfl⟩
instance:TyField Tryz.prog 161 0 0 48 1:=⟨by kernel_rfl,by kernel_rfl⟩
instance:TyField Tryz.prog 161 1 1 97 1:=⟨by kernel_rfl,by kernel_rfl⟩
instance:TyField Tryz.prog 161 2 2 30 1:=⟨by kernel_rfl,by kernel_rfl⟩
instance:TyField Tryz.prog 161 3 3 115 1:=⟨by kernel_rfl,by kernel_rfl⟩
instance:TyAgg Tryz.prog 162 4:=⟨by kernel_rfl,by kernel_rfl⟩
instance:TyZero Tryz.prog 162 (.agg #[.slice none 0 0,.nilFunc,.slice none 0 0,.slice none 0 0]):=⟨by kernel_rfl⟩
instance:TyField Tryz.prog 162 0 0 48 1:=⟨by kernel_rfl,by kernel_rfl⟩
instance:TyField Tryz.prog 162 1 1 97 1:=⟨by kernel_rfl,by kernel_rfl⟩
instance:TyField Tryz.prog 162 2 2 30 1:=⟨by kernel_rfl,by kernel_rfl⟩
instance:TyField Tryz.prog 162 3 3 115 1:=⟨by kernel_rfl,by kernel_rfl⟩
instance:TyCell Tryz.prog 163:=⟨by kernel_rfl,by kernel_rfl⟩
instance:TyZero Tryz.prog 163 (.nilFunc):=⟨by kernel_rfl⟩
instance:TyCell Tryz.prog 164:=⟨by kernel_rfl,by kernel_rfl⟩
instance:TyZero Tryz.prog 164 (.nilFunc):=⟨by kernel_rfl⟩
instance:TyCell Tryz.prog 165:=⟨by kernel_rfl,by kernel_rfl⟩
instance:TyZero Tryz.prog 165 (.nilFunc):=⟨by kernel_rfl⟩
instance:TyCell Tryz.prog 166:=⟨by kernel_rfl,by kernel_rfl⟩
instance:TyZero Tryz.prog 166 (.nilFunc):=⟨by kernel_rfl⟩
instance:TyCell Tryz.prog 167:=⟨by kernel_rfl,by kernel_rfl⟩
instance:TyZero Tryz.prog 167 (.nilFunc):=⟨by kernel_rfl⟩
instance:TyCell Tryz.prog 168:=⟨by kernel_rfl,by kernel_rfl⟩
instance:TyZero Tryz.prog 168 (.pointer none):=⟨by kernel_rfl⟩
instance:TyCell Tryz.prog 169:=⟨by kernel_rfl,by kernel_rfl⟩
instance:TyZero Tryz.prog 169 (.nilFunc):=⟨by kernel_rfl⟩
instance:TyCell Tryz.prog 170:=⟨by kernel_rfl,by kernel_rfl⟩
instance:TyZero Tryz.prog 170 (.nilFunc):=⟨by kernel_rfl⟩
instance:TyCell Tryz.prog 171:=⟨by kernel_rfl,by kernel_rfl⟩
instance:TyZero Tryz.prog 171 (.nilFunc):=⟨by kernel_rfl⟩
instance:TyCell Tryz.prog 172:=⟨by kernel_rfl,by kernel_rfl⟩
instance:TyZero Tryz.prog 172 (.nilFunc):=⟨by kernel_rfl⟩
instance:TyCell Tryz.prog 173:=⟨by kernel_rfl,by kernel_rfl⟩
instance:TyZero Tryz.prog 173 (.nilFunc):=⟨by kernel_rfl⟩
instance:TyAgg Tryz.prog 174 4:=⟨by kernel_rfl,by kernel_rfl⟩
instance:TyZero Tryz.prog 174 (.agg #[.pointer none,.pointer none,.pointer none,.string ⟨#[]⟩]):=⟨by kernel_rfl⟩
instance:TyField Tryz.prog 174 0 0 17 1:=⟨by kernel_rfl,by kernel_rfl⟩
instance:TyField Tryz.prog 174 1 1 17 1:=⟨by kernel_rfl,by kernel_rfl⟩
instance:TyField Tryz.prog 174 2 2 17 1:=⟨by kernel_rfl,by kernel_rfl⟩
instance:TyField Tryz.prog 174 3 3 9 1:=⟨by kernel_rfl,by kernel_rfl⟩
instance:TyAgg Tryz.prog 175 4:=⟨by kernel_rfl,by kernel_rfl⟩
instance:TyZero Tryz.prog 175 (.agg #[.pointer none,.pointer none,.pointer none,.string ⟨#[]⟩]):=⟨by kernel_rfl⟩
instance:TyField Tryz.prog 175 0 0 17 1:=⟨by kernel_rfl,by kernel_rfl⟩
instance:TyField Tryz.prog 175 1 1 17 1:=⟨by kernel_rfl,by kernel_rfl⟩
instance:TyField Tryz.prog 175 2 2 17 1:=⟨by kernel_rfl,by kernel_rfl⟩
instance:TyField Tryz.prog 175 3 3 9 1:=⟨by kernel_rfl,by kernel_rfl⟩
instance:TyAgg Tryz.prog 176 0:=⟨by kernel_rfl,by kernel_rfl⟩
instance:TyZero Tryz.prog 176 (.agg #[]):=⟨by kernel_rfl⟩
instance:TyAgg Tryz.prog 177 0:=⟨by kernel_rfl,by kernel_rfl⟩
instance:TyZero Tryz.prog 177 (.agg #[]):=⟨by kernel_rfl⟩
instance:TyField Tryz.prog 177 0 0 176 0:=⟨by kernel_rfl,by kernel_rfl⟩
instance:TyAgg Tryz.prog 178 0:=⟨by kernel_rfl,by kernel_rfl⟩
instance:TyZero Tryz.prog 178 (.agg #[]):=⟨by kernel_rfl⟩
instance:TyField Tryz.prog 178 0 0 176 0:=⟨by kernel_rfl,by kernel_rfl⟩
instance:TyCell Tryz.prog 179:=⟨by kernel_rfl,by kernel_rfl⟩
instance:TyZero Tryz.prog 179 (.nilFunc):=⟨by kernel_rfl⟩
instance:TyCell Tryz.prog 180:=⟨by kernel_rfl,by kernel_rfl⟩
instance:TyZero Tryz.prog 180 (.int .u32 0):=⟨by kernel_rfl⟩
instance:TyCell Tryz.prog 181:=⟨by kernel_rfl,by kernel_rfl⟩
instance:TyZero Tryz.prog 181 (.int .u8 0):=⟨by kernel_rfl⟩
instance:TyCell Tryz.prog 182:=⟨by kernel_rfl,by kernel_rfl⟩
instance:TyZero Tryz.prog 182 (.int .u8 0):=⟨by kernel_rfl⟩
instance:TyCell Tryz.prog 183:=⟨by kernel_rfl,by kernel_rfl⟩
instance:TyZero Tryz.prog 183 (.nilFunc):=⟨by kernel_rfl⟩
instance:TyCell Tryz.prog 184:=⟨by kernel_rfl,by kernel_rfl⟩
instance:TyZero Tryz.prog 184 (.pointer none):=⟨by kernel_rfl⟩
instance:TyCell Tryz.prog 185:=⟨by kernel_rfl,by kernel_rfl⟩
instance:TyZero Tryz.prog 185 (.int .i32 0):=⟨by kernel_rfl⟩
instance:TyCell Tryz.prog 186:=⟨by kernel_rfl,by kernel_rfl⟩
instance:TyZero Tryz.prog 186 (.int .i32 0):=⟨by kernel_rfl⟩
instance:TyAgg Tryz.prog 187 11:=⟨by kernel_rfl,by kernel_rfl⟩
instance:TyZero Tryz.prog 187 (.agg #[.int .u64 0,.int .u64 0,.int .u32 0,.int .u8 0,.int .u8 0,.int .u8 0,.int .u8 0,.nilFunc,.pointer none,.int .i32 0,.int .i32 0]):=⟨by kernel_rfl⟩
instance:TyField Tryz.prog 187 0 0 12 1:=⟨by kernel_rfl,by kernel_rfl⟩
instance:TyField Tryz.prog 187 1 1 12 1:=⟨by kernel_rfl,by kernel_rfl⟩
instance:TyField Tryz.prog 187 2 2 180 1:=⟨by kernel_rfl,by kernel_rfl⟩
instance:TyField Tryz.prog 187 3 3 181 1:=⟨by kernel_rfl,by kernel_rfl⟩
instance:TyField Tryz.prog 187 4 4 5 1:=⟨by kernel_rfl,by kernel_rfl⟩
instance:TyField Tryz.prog 187 5 5 5 1:=⟨by kernel_rfl,by kernel_rfl⟩
instance:TyField Tryz.prog 187 6 6 182 1:=⟨by kernel_rfl,by kernel_rfl⟩
instance:TyField Tryz.prog 187 7 7 183 1:=⟨by kernel_rfl,by kernel_rfl⟩
instance:TyField Tryz.prog 187 8 8 184 1:=⟨by kernel_rfl,by kernel_rfl⟩
instance:TyField Tryz.prog 187 9 9 185 1:=⟨by kernel_rfl,by kernel_rfl⟩
instance:TyField Tryz.prog 187 10 10 186 1:=⟨by kernel_rfl,by kernel_rfl⟩
instance:TyAgg Tryz.prog 188 11:=⟨by kernel_rfl,by kernel_rfl⟩
instance:TyZero Tryz.prog 188 (.agg #[.int .u64 0,.int .u64 0,.int .u32 0,.int .u8 0,.int .u8 0,.int .u8 0,.int .u8 0,.nilFunc,.pointer none,.int .i32 0,.int .i32 0]):=⟨by kernel_rfl⟩
instance:TyField Tryz.prog 188 0 0 12 1:=⟨by kernel_rfl,by kernel_rfl⟩
instance:TyField Tryz.prog 188 1 1 12 1:=⟨by kernel_rfl,by kernel_rfl⟩
instance:TyField Tryz.prog 188 2 2 180 1:=⟨by kernel_rfl,by kernel_rfl⟩
instance:TyField Tryz.prog 188 3 3 181 1:=⟨by kernel_rfl,by kernel_rfl⟩
instance:TyField Tryz.prog 188 4 4 5 1:=⟨by kernel_rfl,by kernel_rfl⟩
instance:TyField Tryz.prog 188 5 5 5 1:=⟨by kernel_rfl,by kernel_rfl⟩
instance:TyField Tryz.prog 188 6 6 182 1:=⟨by kernel_rfl,by kernel_rfl⟩
instance:TyField Tryz.prog 188 7 7 183 1:=⟨by kernel_rfl,by kernel_rfl⟩
instance:TyField Tryz.prog 188 8 8 184 1:=⟨by kernel_rfl,by kernel_rfl⟩
instance:TyField Tryz.prog 188 9 9 185 1:=⟨by kernel_rfl,by kernel_rfl⟩
instance:TyField Tryz.prog 188 10 10 186 1:=⟨by kernel_rfl,by kernel_rfl⟩
instance:TyCell Tryz.prog 189:=⟨by kernel_rfl,by kernel_rfl⟩
instance:TyZero Tryz.prog 189 (.pointer none):=⟨by kernel_rfl⟩
instance:FnBody Tryz.prog 2:=⟨by kernel_rfl⟩
instance:FnBody Tryz.prog 3:=⟨by kernel_rfl⟩
instance:FnBody Tryz.prog 4:=⟨by kernel_rfl⟩
instance:FnBody Tryz.prog 5:=⟨by kernel_rfl⟩
instance:FnBody Tryz.prog 6:=⟨by kernel_rfl⟩
instance:FnBody Tryz.prog 7:=⟨by kernel_rfl⟩
instance:FnBody Tryz.prog 8:=⟨by kernel_rfl⟩
instance:FnBody Tryz.prog 9:=⟨by kernel_rfl⟩
instance:FnBody Tryz.prog 10:=⟨by kernel_rfl⟩
instance:FnBody Tryz.prog 11:=⟨by kernel_rfl⟩
instance:FnBody Tryz.prog 12:=⟨by kernel_rfl⟩
instance:FnBody Tryz.prog 13:=⟨by kernel_rfl⟩
instance:FnBody Tryz.prog 14:=⟨by kernel_rfl⟩
instance:FnBody Tryz.prog 15:=⟨by kernel_rfl⟩
instance:FnBody Tryz.prog 16:=⟨by kernel_rfl⟩
instance:FnBody Tryz.prog 17:=⟨by kernel_rfl⟩
instance:FnBody Tryz.prog 18:=⟨by kernel_rfl⟩
instance:FnBody Tryz.prog 19:=⟨by kernel_rfl⟩
instance:FnBody Tryz.prog 20:=⟨by kernel_rfl⟩
instance:FnBody Tryz.prog 21:=⟨by kernel_rfl⟩
instance:FnBody Tryz.prog 22:=⟨by kernel_rfl⟩
instance:FnBody Tryz.prog 23:=⟨by kernel_rfl⟩
instance:FnBody Tryz.prog 24:=⟨by kernel_rfl⟩
instance:FnBody Tryz.prog 25:=⟨by kernel_rfl⟩
instance:FnBody Tryz.prog 26:=⟨by kernel_rfl⟩
instance:FnBody Tryz.prog 27:=⟨by kernel_rfl⟩
instance:FnBody Tryz.prog 28:=⟨by kernel_rfl⟩
instance:FnBody Tryz.prog 29:=⟨by kernel_rfl⟩
instance:FnBody Tryz.prog 30:=⟨by kernel_rfl⟩
instance:FnBody Tryz.prog 31:=⟨by kernel_rfl⟩
instance:FnBody Tryz.prog 32:=⟨by kernel_rfl⟩
instance:FnBody Tryz.prog 33:=⟨by kernel_rfl⟩
instance:FnBody Tryz.prog 34:=⟨by kernel_rfl⟩
instance:FnBody Tryz.prog 35:=⟨by kernel_rfl⟩
instance:FnBody Tryz.prog 36:=⟨by kernel_rfl⟩
instance:FnBody Tryz.prog 37:=⟨by kernel_rfl⟩
instance:FnBody Tryz.prog 38:=⟨by kernel_rfl⟩
instance:FnBody Tryz.prog 39:=⟨by kernel_rfl⟩
instance:FnBody Tryz.prog 40:=⟨by kernel_rfl⟩
instance:FnBody Tryz.prog 41:=⟨by kernel_rfl⟩
instance:FnBody Tryz.prog 42:=⟨by kernel_rfl⟩
instance:FnBody Tryz.prog 43:=⟨by kernel_rfl⟩
instance:FnBody Tryz.prog 44:=⟨by kernel_rfl⟩
instance:FnBody Tryz.prog 45:=⟨by kernel_rfl⟩
instance:FnBody Tryz.prog 46:=⟨by kernel_rfl⟩
instance:FnBody Tryz.prog 47:=⟨by kernel_rfl⟩
instance:FnBody Tryz.prog 48:=⟨by kernel_rfl⟩
instance:FnBody Tryz.prog 49:=⟨by kernel_rfl⟩
instance:FnBody Tryz.prog 50:=⟨by kernel_rfl⟩
instance:FnBody Tryz.prog 51:=⟨by kernel_rfl⟩
instance:FnBody Tryz.prog 52:=⟨by kernel_rfl⟩
instance:FnBody Tryz.prog 53:=⟨by kernel_rfl⟩
instance:FnBody Tryz.prog 54:=⟨by kernel_rfl⟩
instance:FnBody Tryz.prog 55:=⟨by kernel_rfl⟩
instance:FnBody Tryz.prog 56:=⟨by kernel_rfl⟩
instance:FnBody Tryz.prog 57:=⟨by kernel_rfl⟩
instance:FnBody Tryz.prog 58:=⟨by kernel_rfl⟩
instance:FnBody Tryz.prog 59:=⟨by kernel_rfl⟩
instance:FnBody Tryz.prog 60:=⟨by kernel_rfl⟩
instance:FnBody Tryz.prog 61:=⟨by kernel_rfl⟩
instance:FnBody Tryz.prog 62:=⟨by kernel_rfl⟩
instance:FnBody Tryz.prog 63:=⟨by kernel_rfl⟩
instance:FnBody Tryz.prog 64:=⟨by kernel_rfl⟩
instance:FnBody Tryz.prog 65:=⟨by kernel_rfl⟩
instance:FnBody Tryz.prog 66:=⟨by kernel_rfl⟩
instance:FnBody Tryz.prog 67:=⟨by kernel_rfl⟩
instance:FnBody Tryz.prog 68:=⟨by kernel_rfl⟩
instance:FnBody Tryz.prog 69:=⟨by kernel_rfl⟩
instance:FnBody Tryz.prog 70:=⟨by kernel_rfl⟩
instance:FnBody Tryz.prog 71:=⟨by kernel_rfl⟩
instance:FnBody Tryz.prog 72:=⟨by kernel_rfl⟩
instance:FnBody Tryz.prog 73:=⟨by kernel_rfl⟩
instance:FnBody Tryz.prog 74:=⟨by kernel_rfl⟩
instance:FnBody Tryz.prog 75:=⟨by kernel_rfl⟩
instance:FnBody Tryz.prog 76:=⟨by kernel_rfl⟩
instance:FnBody Tryz.prog 77:=⟨by kernel_rfl⟩
instance:FnBody Tryz.prog 78:=⟨by kernel_rfl⟩
instance:FnBody Tryz.prog 79:=⟨by kernel_rfl⟩
instance:FnBody Tryz.prog 80:=⟨by kernel_rfl⟩
instance:FnBody Tryz.prog 81:=⟨by kernel_rfl⟩
instance:FnBody Tryz.prog 82:=⟨by kernel_rfl⟩
instance:FnBody Tryz.prog 83:=⟨by kernel_rfl⟩
instance:FnBody Tryz.prog 84:=⟨by kernel_rfl⟩
instance:FnBody Tryz.prog 85:=⟨by kernel_rfl⟩
instance:FnBody Tryz.prog 86:=⟨by kernel_rfl⟩
instance:FnBody Tryz.prog 87:=⟨by kernel_rfl⟩
instance:FnBody Tryz.prog 88:=⟨by kernel_rfl⟩
instance:FnBody Tryz.prog 89:=⟨by kernel_rfl⟩
instance:FnBody Tryz.prog 90:=⟨by kernel_rfl⟩
instance:FnBody Tryz.prog 91:=⟨by kernel_rfl⟩
instance:FnBody Tryz.prog 92:=⟨by kernel_rfl⟩
instance:FnBody Tryz.prog 93:=⟨by kernel_rfl⟩
instance:FnBody Tryz.prog 94:=⟨by kernel_rfl⟩
instance:FnBody Tryz.prog 95:=⟨by kernel_rfl⟩
instance:FnBody Tryz.prog 96:=⟨by kernel_rfl⟩
instance:FnBody Tryz.prog 97:=⟨by kernel_rfl⟩
instance:FnBody Tryz.prog 98:=⟨by kernel_rfl⟩
instance:FnBody Tryz.prog 99:=⟨by kernel_rfl⟩
instance:FnBody Tryz.prog 100:=⟨by kernel_rfl⟩
instance:FnBody Tryz.prog 101:=⟨by kernel_rfl⟩
instance:FnBody Tryz.prog 102:=⟨by kernel_rfl⟩
instance:FnBody Tryz.prog 103:=⟨by kernel_rfl⟩
instance:FnBody Tryz.prog 104:=⟨by kernel_rfl⟩
instance:FnBody Tryz.prog 105:=⟨by kernel_rfl⟩
instance:FnBody Tryz.prog 106:=⟨by kernel_rfl⟩
instance:FnBody Tryz.prog 107:=⟨by kernel_rfl⟩
instance:FnBody Tryz.prog 108:=⟨by kernel_rfl⟩
instance:FnBody Tryz.prog 109:=⟨by kernel_rfl⟩
instance:FnBody Tryz.prog 110:=⟨by kernel_rfl⟩
instance:FnBody Tryz.prog 111:=⟨by kernel_rfl⟩
instance:FnBody Tryz.prog 112:=⟨by kernel_rfl⟩
instance:FnBody Tryz.prog 113:=⟨by kernel_rfl⟩
instance:FnBody Tryz.prog 114:=⟨by kernel_rfl⟩
instance:FnBody Tryz.prog 115:=⟨by kernel_rfl⟩
instance:FnBody Tryz.prog 116:=⟨by kernel_rfl⟩
instance:FnBody Tryz.prog 117:=⟨by kernel_rfl⟩
instance:FnBody Tryz.prog 118:=⟨by kernel_rfl⟩
instance:FnBody Tryz.prog 119:=⟨by kernel_rfl⟩
instance:FnBody Tryz.prog 120:=⟨by kernel_rfl⟩
instance:FnBody Tryz.prog 121:=⟨by kernel_rfl⟩
instance:FnBody Tryz.prog 122:=⟨by kernel_rfl⟩
instance:FnBody Tryz.prog 123:=⟨by kernel_rfl⟩
instance:FnBody Tryz.prog 124:=⟨by kernel_rfl⟩
instance:FnBody Tryz.prog 125:=⟨by kernel_rfl⟩
instance:FnBody Tryz.prog 126:=⟨by kernel_rfl⟩
instance:FnBody Tryz.prog 127:=⟨by kernel_rfl⟩
instance:FnBody Tryz.prog 128:=⟨by kernel_rfl⟩
instance:FnBody Tryz.prog 129:=⟨by kernel_rfl⟩
instance:FnBody Tryz.prog 130:=⟨by kernel_rfl⟩
instance:FnBody Tryz.prog 131:=⟨by kernel_rfl⟩
instance:FnBody Tryz.prog 132:=⟨by kernel_rfl⟩
instance:FnBody Tryz.prog 133:=⟨by kernel_rfl⟩
instance:FnBody Tryz.prog 134:=⟨by kernel_rfl⟩
instance:FnBody Tryz.prog 135:=⟨by kernel_rfl⟩
instance:FnBody Tryz.prog 136:=⟨by kernel_rfl⟩
instance:FnBody Tryz.prog 137:=⟨by kernel_rfl⟩
instance:FnBody Tryz.prog 138:=⟨by kernel_rfl⟩
instance:FnBody Tryz.prog 139:=⟨by kernel_rfl⟩
instance:FnBody Tryz.prog 140:=⟨by kernel_rfl⟩
instance:FnBody Tryz.prog 141:=⟨by kernel_rfl⟩
instance:FnBody Tryz.prog 142:=⟨by kernel_rfl⟩
instance:FnBody Tryz.prog 143:=⟨by kernel_rfl⟩
instance:FnBody Tryz.prog 144:=⟨by kernel_rfl⟩
instance:FnBody Tryz.prog 145:=⟨by kernel_rfl⟩
instance:FnBody Tryz.prog 146:=⟨by kernel_rfl⟩
instance:FnBody Tryz.prog 147:=⟨by kernel_rfl⟩
instance:FnBody Tryz.prog 148:=⟨by kernel_rfl⟩
instance:FnBody Tryz.prog 149:=⟨by kernel_rfl⟩
instance:FnBody Tryz.prog 150:=⟨by kernel_rfl⟩
instance:FnBody Tryz.prog 151:=⟨by kernel_rfl⟩
instance:FnBody Tryz.prog 152:=⟨by kernel_rfl⟩
instance:FnBody Tryz.prog 153:=⟨by kernel_rfl⟩
instance:FnBody Tryz.prog 154:=⟨by kernel_rfl⟩
instance:FnBody Tryz.prog 155:=⟨by kernel_rfl⟩
instance:FnBody Tryz.prog 156:=⟨by kernel_rfl⟩
instance:FnBody Tryz.prog 157:=⟨by kernel_rfl⟩
instance:FnBody Tryz.prog 158:=⟨by kernel_rfl⟩
instance:FnBody Tryz.prog 159:=⟨by kernel_rfl⟩
instance:FnBody Tryz.prog 160:=⟨by kernel_rfl⟩
instance:FnBody Tryz.prog 161:=⟨by kernel_rfl⟩
instance:FnBody Tryz.prog 162:=⟨by kernel_rfl⟩
instance:FnBody Tryz.prog 163:=⟨by kernel_rfl⟩
instance:FnBody Tryz.prog 164:=⟨by kernel_rfl⟩
instance:FnBody Tryz.prog 165:=⟨by kernel_rfl⟩
instance:FnBody Tryz.prog 166:=⟨by kernel_rfl⟩
instance:FnBody Tryz.prog 167:=⟨by kernel_rfl⟩
instance:FnBody Tryz.prog 168:=⟨by kernel_rfl⟩
instance:FnBody Tryz.prog 169:=⟨by kernel_rfl⟩
instance:FnBody Tryz.prog 170:=⟨by kernel_rfl⟩
instance:FnBody Tryz.prog 171:=⟨by kernel_rfl⟩
instance:FnBody Tryz.prog 172:=⟨by kernel_rfl⟩
instance:FnBody Tryz.prog 173:=⟨by kernel_rfl⟩
instance:FnBody Tryz.prog 174:=⟨by kernel_rfl⟩
instance:FnBody Tryz.prog 175:=⟨by kernel_rfl⟩
instance:FnBody Tryz.prog 176:=⟨by kernel_rfl⟩
instance:FnBody Tryz.prog 177:=⟨by kernel_rfl⟩
instance:FnBody Tryz.prog 178:=⟨by kernel_rfl⟩
instance:FnBody Tryz.prog 179:=⟨by kernel_rfl⟩
instance:FnBody Tryz.prog 180:=⟨by kernel_rfl⟩
instance:FnBody Tryz.prog 181:=⟨by kernel_rfl⟩
instance:FnBody Tryz.prog 182:=⟨by kernel_rfl⟩
instance:FnBody Tryz.prog 183:=⟨by kernel_rfl⟩
instance:FnBody Tryz.prog 184:=⟨by kernel_rfl⟩
instance:FnBody Tryz.prog 185:=⟨by kernel_rfl⟩
instance:TyBuild Tryz.prog 7 [(0,1),(1,1),(2,1),(3,1)] [.int .i64 0,.int .i64 0,.bool false,.int .u8 0]:=⟨by kernel_rfl,by kernel_rfl⟩
instance:TyBuild Tryz.prog 8 [(0,1),(1,1),(2,1),(3,1)] [.int .i64 0,.int .i64 0,.bool false,.int .u8 0]:=⟨by kernel_rfl,by kernel_rfl⟩
instance:TyBuild Tryz.prog 13 [(0,1),(1,1)] [.string ⟨#[]⟩,.int .u64 0]:=⟨by kernel_rfl,by kernel_rfl⟩
instance:TyBuild Tryz.prog 14 [(0,1),(1,1)] [.string ⟨#[]⟩,.int .u64 0]:=⟨by kernel_rfl,by kernel_rfl⟩
instance:TyBuild Tryz.prog 18 [(0,1)] [.pointer none]:=⟨by kernel_rfl,by kernel_rfl⟩
instance:TyBuild Tryz.prog 19 [(0,1)] [.pointer none]:=⟨by kernel_rfl,by kernel_rfl⟩
instance:TyBuild Tryz.prog 25 [(0,1),(1,1)] [.int .i64 0,.slice none 0 0]:=⟨by kernel_rfl,by kernel_rfl⟩
instance:TyBuild Tryz.prog 26 [(0,1),(1,1)] [.int .i64 0,.slice none 0 0]:=⟨by kernel_rfl,by kernel_rfl⟩
instance:TyBuild Tryz.prog 28 [(0,1),(1,1)] [.int .i64 0,.int .i64 0]:=⟨by kernel_rfl,by kernel_rfl⟩
instance:TyBuild Tryz.prog 29 [(0,1),(1,1)] [.int .i64 0,.int .i64 0]:=⟨by kernel_rfl,by kernel_rfl⟩
instance:TyBuild Tryz.prog 36 [(0,1),(1,1)] [.int .i64 0,.slice none 0 0]:=⟨by kernel_rfl,by kernel_rfl⟩
instance:TyBuild Tryz.prog 37 [(0,1),(1,1)] [.int .i64 0,.slice none 0 0]:=⟨by kernel_rfl,by kernel_rfl⟩
instance:TyBuild Tryz.prog 84 [(0,1),(1,1),(2,1),(3,1)] [.int .i64 0,.int .i64 0,.int .i64 0,.int .i64 0]:=⟨by kernel_rfl,by kernel_rfl⟩
instance:TyBuild Tryz.prog 85 [(0,1),(1,1),(2,1),(3,1)] [.int .i64 0,.int .i64 0,.int .i64 0,.int .i64 0]:=⟨by kernel_rfl,by kernel_rfl⟩
instance:TyBuild Tryz.prog 90 [(0,1),(1,1),(2,1)] [.int .i64 0,.int .i64 0,.int .i64 0]:=⟨by kernel_rfl,by kernel_rfl⟩
instance:TyBuild Tryz.prog 91 [(0,1),(1,1),(2,1)] [.int .i64 0,.int .i64 0,.int .i64 0]:=⟨by kernel_rfl,by kernel_rfl⟩
instance:TyBuild Tryz.prog 105 [(0,1),(1,1),(2,1)] [.slice none 0 0,.int .i64 0,.int .i64 0]:=⟨by kernel_rfl,by kernel_rfl⟩
instance:TyBuild Tryz.prog 106 [(0,1),(1,1),(2,1)] [.slice none 0 0,.int .i64 0,.int .i64 0]:=⟨by kernel_rfl,by kernel_rfl⟩
instance:TyBuild Tryz.prog 116 [(0,2),(2,1),(3,1),(4,1)] [.int .i64 0,.slice none 0 0,.slice none 0 0,.slice none 0 0,.slice none 0 0]:=⟨by kernel_rfl,by kernel_rfl⟩
instance:TyBuild Tryz.prog 117 [(0,2),(2,1),(3,1),(4,1)] [.int .i64 0,.slice none 0 0,.slice none 0 0,.slice none 0 0,.slice none 0 0]:=⟨by kernel_rfl,by kernel_rfl⟩
instance:TyBuild Tryz.prog 124 [(0,2),(2,1),(3,1),(4,1)] [.int .i64 0,.slice none 0 0,.int .i64 0,.slice none 0 0,.slice none 0 0]:=⟨by kernel_rfl,by kernel_rfl⟩
instance:TyBuild Tryz.prog 125 [(0,2),(2,1),(3,1),(4,1)] [.int .i64 0,.slice none 0 0,.int .i64 0,.slice none 0 0,.slice none 0 0]:=⟨by kernel_rfl,by kernel_rfl⟩
instance:TyBuild Tryz.prog 161 [(0,1),(1,1),(2,1),(3,1)] [.slice none 0 0,.nilFunc,.slice none 0 0,.slice none 0 0]:=⟨by kernel_rfl,by kernel_rfl⟩
instance:TyBuild Tryz.prog 162 [(0,1),(1,1),(2,1),(3,1)] [.slice none 0 0,.nilFunc,.slice none 0 0,.slice none 0 0]:=⟨by kernel_rfl,by kernel_rfl⟩
instance:TyBuild Tryz.prog 174 [(0,1),(1,1),(2,1),(3,1)] [.pointer none,.pointer none,.pointer none,.string ⟨#[]⟩]:=⟨by kernel_rfl,by kernel_rfl⟩
instance:TyBuild Tryz.prog 175 [(0,1),(1,1),(2,1),(3,1)] [.pointer none,.pointer none,.pointer none,.string ⟨#[]⟩]:=⟨by kernel_rfl,by kernel_rfl⟩
instance:TyBuild Tryz.prog 177 [(0,0)] []:=⟨by kernel_rfl,by kernel_rfl⟩
instance:TyBuild Tryz.prog 178 [(0,0)] []:=⟨by kernel_rfl,by kernel_rfl⟩
instance:TyBuild Tryz.prog 187 [(0,1),(1,1),(2,1),(3,1),(4,1),(5,1),(6,1),(7,1),(8,1),(9,1),(10,1)] [.int .u64 0,.int .u64 0,.int .u32 0,.int .u8 0,.int .u8 0,.int .u8 0,.int .u8 0,.nilFunc,.pointer none,.int .i32 0,.int .i32 0]:=⟨by kernel_rfl,by kernel_rfl⟩
instance:TyBuild Tryz.prog 188 [(0,1),(1,1),(2,1),(3,1),(4,1),(5,1),(6,1),(7,1),(8,1),(9,1),(10,1)] [.int .u64 0,.int .u64 0,.int .u32 0,.int .u8 0,.int .u8 0,.int .u8 0,.int .u8 0,.nilFunc,.pointer none,.int .i32 0,.int .i32 0]:=⟨by kernel_rfl,by kernel_rfl⟩
theorem mixedA:Tryz.prog.follows .mixedOrders=true:=by kernel_rfl
end
section
open Go.RowKit
def Ed.eq (p q:Ed):Bool:=p.kind == q.kind&&p.idx == q.idx&&p.pl.eq q.pl
theorem Ed.eq_iff (p q:Ed):p.eq q=true↔p=q:=by
 cases p;cases q;simp[Ed.eq,Pl.eq_iff,and_assoc]
theorem stay_grown' {w w':World}{r:Option Nat} (h:w.grownBy w' r) {a:Addr}{v:Value} (hc:w.cell? a=some v) (hne:r≠some a.block):w'.cell? a=some v:=
 (World.cell?_of_block (w:=w) (h.block _ (World.block_lt_of_cell? _ _ hc) (fun e=>hne e.symm))).trans hc
theorem SlR.grown {α:Type}{w w':World}{k:Nat}{enc:α→List Value}{ad:Option Addr}{xs:List α}{r:Option Nat} (h:SlR w k enc ad xs) (hg:w.grownBy w' r) (hne:∀ a,ad=some a→r≠some a.block):SlR w' k enc ad xs:=
 fun i x hx=>let ⟨b,off,e,hc⟩:=h i x hx;⟨b,off,e,fun j c hj=>stay_grown' hg (hc j c hj) (by simpa using hne _ e)⟩
theorem FlR.grown {w w':World}{ad:Option Addr}{cs:List Value}{r:Option Nat} (h:FlR w ad cs) (hg:w.grownBy w' r) (hne:∀ a,ad=some a→r≠some a.block):FlR w' ad cs:=
 fun j c hj=>let ⟨b,off,e,hc⟩:=h j c hj;⟨b,off,e,stay_grown' hg hc (by simpa using hne _ e)⟩
theorem FlR.stay {w w':World}{ad:Option Addr}{cs:List Value} (h:FlR w ad cs) (hb:Below w.heap.size w w'):FlR w' ad cs:=
 fun j c hj=>let ⟨b,off,e,hc⟩:=h j c hj;⟨b,off,e,YtkpoclbnnpglfaaGreat.stay hb (Nat.le_refl _) hc⟩
theorem FlR.alloc {w:World}{ad:Option Addr}{cs:List Value} (h:FlR w ad cs) (o:Obj):FlR (w.alloc o) ad cs:=h.stay ((Below.refl _ _).alloc (Nat.le_refl _) o)
theorem FlR.drew {w:World}{ad:Option Addr}{cs:List Value} (h:FlR w ad cs):FlR w.drew ad cs:=h.stay (Below.refl _ _).drew
theorem SlR.set {α:Type}{w:World}{k:Nat}{enc:α→List Value}{ad:Option Addr}{xs:List α}{a:Addr}{u:Value} (h:SlR w k enc ad xs) (hne:∀ b,ad=some b→b.block≠a.block):SlR (w.setCell a u) k enc ad xs:=
 h.grown (r:=some a.block) ⟨rfl,rfl,rfl,by simp,fun k _ hk=>Below.heap_setCell _ _ _ _ (fun e=>hk (by rw[e]))⟩ (fun b hb e=>hne b hb (Option.some.inj e).symm)
end
section
open Go Go.RowKit
instance:DecidableEq Pl:=fun p q=>decidable_of_iff (p.eq q=true) (Pl.eq_iff p q)
instance:DecidableEq Ed:=fun p q=>decidable_of_iff (p.eq q=true) (Ed.eq_iff p q)
abbrev Bx (k id:Nat):AV:=.ptr k ⟨id,[]⟩ 0 0
def Pl.row (p:Pl):List D:=[DI p.f,DI p.t,DI p.d,DI p.k]
def Ed.row (e:Ed):List D:=[DI e.kind,DI e.idx,DI e.pl.f,DI e.pl.t,DI e.pl.d,DI e.pl.k]
def idxOf {α:Type} (f:α→Bool):List α→Nat→Int
 | [],_=>-1
 | x :: xs,i=>if f x then i else idxOf f xs (i+1)
theorem idxOf_at [Mode] {α:Type}{f:α→Bool}{xs:List α}{k:Nat}{x:α} (h:xs[k]? = some x) (i:Nat):idxOf f (xs.drop k) i=if f x then (i:Int) else idxOf f (xs.drop (k+1)) (i+1):=by
 obtain ⟨h1,rfl⟩:=List.getElem?_eq_some_iff.1 h
 rw[List.drop_eq_getElem_cons h1,idxOf]
theorem idxOf_any [Mode] {α:Type}{f:α→Bool}:∀ (xs:List α) (i:Nat),decide (0≤idxOf f xs i)=xs.any f
 | [],i=>by simp[idxOf]
 | x :: xs,i=>by
  unfold idxOf
  cases h:f x
  ·simp[h,idxOf_any xs (i+1)]
  ·simp[h]
theorem OpOk.makeFunc [Mode] {P:Program}{o:Oper}{A:Operand→AV}{H:Heap}{new:Nat}{fn:Fn}{fs cs:Array Operand}{fv cv:List AV} (ho:o.op = .makeFunc fn fs cs) (hf:fs.toList.map A=fv) (hc:cs.toList.map A=cv):OpOk P o A [] H new (.clo fn fv cv) []:=
 .still [] fun ι F w H1 ρ _ _ hv=>by
  refine ⟨.func fn (fs.map ρ) (cs.map ρ),by simp[execOp,ho,Instr.makeFunc],?_⟩
  have e1:fs.map ρ=(fs.toList.map ρ).toArray:=by apply Array.ext';simp
  have e2:cs.map ρ=(cs.toList.map ρ).toArray:=by apply Array.ext';simp
  rw[e1,e2]
  subst hf hc
  refine .clo fn _ _ _ _ (by simp) (by simp) (fun i c v hc hv'=>?_) (fun i c v hc hv'=>?_)
  all_goals
   simp only[List.getElem?_map,Option.map_eq_some_iff] at hc hv'
   obtain ⟨x,hx,rfl⟩:=hc
   obtain ⟨x',hx',rfl⟩:=hv'
   rw[hx] at hx';cases hx'
   refine hv x ?_
   simp only[ho,Op.operands]
   have:=List.mem_of_getElem? hx
   simp at this ⊢
   first|exact .inl this|exact .inr this
end
section
open Go Go.RowKit
theorem eqPl_run [Mode] (a b c d a' b' c' d':Int) (w:World):(binOp .eql 85 (.agg #[.int .i64 a,.int .i64 b,.int .i64 c,.int .i64 d]) (.agg #[.int .i64 a',.int .i64 b',.int .i64 c',.int .i64 d'])).run Tryz.prog w = .ok (.bool (decide ((⟨a,b,c,d⟩:Pl)=⟨a',b',c',d'⟩))) w:=by
 have u:=Tryz.underlying2
 have hS:Tryz.prog.underlying 85=some (.struct (Tryz.prog.fieldsOf 85)):=by kernel_rfl
 have hp:Tryz.prog.stoodInHeld 85=false:=by kernel_rfl
 rw[run_eql_struct,show (10000:Nat)=9999+1 from rfl,run_equalIn_agg w 9999 85 _ _ hS hp]
 simp only[Program.fieldsOf,Tryz.underlying85]
 go_simp
 try simp only[Pl.mk.injEq]
 by_cases h1:a=a'<;>by_cases h2:b=b'<;>by_cases h3:c=c'<;>by_cases h4:d=d'<;>simp[h1,h2,h3,h4]
theorem neqPl_run [Mode] (a b c d a' b' c' d':Int) (w:World):(binOp .neq 85 (.agg #[.int .i64 a,.int .i64 b,.int .i64 c,.int .i64 d]) (.agg #[.int .i64 a',.int .i64 b',.int .i64 c',.int .i64 d'])).run Tryz.prog w = .ok (.bool (decide ((⟨a,b,c,d⟩:Pl)≠⟨a',b',c',d'⟩))) w:=by
 have u:=Tryz.underlying2
 have hS:Tryz.prog.underlying 85=some (.struct (Tryz.prog.fieldsOf 85)):=by kernel_rfl
 have hp:Tryz.prog.stoodInHeld 85=false:=by kernel_rfl
 rw[run_neq_struct,show (10000:Nat)=9999+1 from rfl,run_equalIn_agg w 9999 85 _ _ hS hp]
 simp only[Program.fieldsOf,Tryz.underlying85]
 go_simp
 try simp only[ne_eq,Pl.mk.injEq]
 by_cases h1:a=a'<;>by_cases h2:b=b'<;>by_cases h3:c=c'<;>by_cases h4:d=d'<;>simp[h1,h2,h3,h4]
theorem plGuard [Mode] (op:BinOp) (x y:Operand) (a b c d a' b' c' d':Int) (w:World):(eqGuard op 85 x y (.agg #[.int .i64 a,.int .i64 b,.int .i64 c,.int .i64 d]) (.agg #[.int .i64 a',.int .i64 b',.int .i64 c',.int .i64 d'])).run Tryz.prog w = .ok () w:=
 run_eqGuard_agg w op _ x y _ _ (by kernel_rfl)
theorem VR.ints4 [Mode] {ι:Iota}{F:Nat→Prop}{w:World}{a b c d:Int}{v:Value} (h:VR ι F w (.agg [I a,I b,I c,I d]) v):v = .agg #[.int .i64 a,.int .i64 b,.int .i64 c,.int .i64 d]:=by
 obtain ⟨vs,rfl,h1,h2⟩:=h.agg_inv
 match vs,h1 with
 | [v0,v1,v2,v3],_=>
  have e0:=(h2 0 _ v0 rfl rfl).v_inv
  have e1:=(h2 1 _ v1 rfl rfl).v_inv
  have e2:=(h2 2 _ v2 rfl rfl).v_inv
  have e3:=(h2 3 _ v3 rfl rfl).v_inv
  rw[e0,e1,e2,e3]
section
variable {o : Oper} {A : Operand → AV} {H : Heap} {new : Nat} {t' : TypeId} {x y : Operand} {a b c d a' b' c' d' : Int}
theorem OpOk.eqPl [Mode] (ho:o.op = .binOp .eql 85 x y t') (hx:A x = .agg [I a,I b,I c,I d]) (hy:A y = .agg [I a',I b',I c',I d']):OpOk Tryz.prog o A [] H new (Bo (decide ((⟨a,b,c,d⟩:Pl)=⟨a',b',c',d'⟩))) []:=
 .still [] fun ι F w H1 ρ _ hs hv=>by
  have h1:=hv x (by simp[ho,Op.operands])
  have h2:=hv y (by simp[ho,Op.operands])
  rw[hx] at h1;rw[hy] at h2
  refine ⟨_,?_,.d (.v _)⟩
  simp[execOp,ho,h1.ints4,h2.ints4,plGuard .eql x y a b c d a' b' c' d' w,eqPl_run a b c d a' b' c' d' w]
theorem OpOk.neqPl [Mode] (ho:o.op = .binOp .neq 85 x y t') (hx:A x = .agg [I a,I b,I c,I d]) (hy:A y = .agg [I a',I b',I c',I d']):OpOk Tryz.prog o A [] H new (Bo (decide ((⟨a,b,c,d⟩:Pl)≠⟨a',b',c',d'⟩))) []:=
 .still [] fun ι F w H1 ρ _ hs hv=>by
  have h1:=hv x (by simp[ho,Op.operands])
  have h2:=hv y (by simp[ho,Op.operands])
  rw[hx] at h1;rw[hy] at h2
  refine ⟨_,?_,.d (.v _)⟩
  simp[execOp,ho,h1.ints4,h2.ints4,plGuard .neq x y a b c d a' b' c' d' w,neqPl_run a b c d a' b' c' d' w]
end
end
section
open Go Go.RowKit
theorem run_sliceBound [Mode] {P:Program}{w:World}{kd:IntKind}{i:Int}{y:Nat}{code:BoundsCode} (h0:0≤i) (h1:i≤y):(Instr.sliceBound (.int kd i) y code).run P w = .ok i.toNat w:=by
 simp[Instr.sliceBound,asIntOf,h0,h1]
theorem run_sliceAt [Mode] {P:Program}{w:World}{t e:TypeId}{k b:Nat}{z:Value} [h:TySlice P t e k b z] {a:Option Addr}{len cap l hb:Nat}{lo hi:Option Value} (hlo:(lo=none∧l=0)∨∃ kd i,lo=some (.int kd i)∧0≤i∧i.toNat=l) (hhi:(hi=none∧hb=len)∨∃ kd i,hi=some (.int kd i)∧0≤i∧i.toNat=hb) (hl:l≤hb) (hh:hb≤len) (hc:len≤cap) :
  (Instr.sliceAt t (.slice a len cap) lo hi none).run P w = .ok (.slice (if cap=l then a else a.map (·.add (l*k))) (hb - l) (cap - l)) w:=by
 have hs:(sizeOf e).run P w = .ok k w:=run_sizeOf' (by
  have:=h.s
  cases hi:P.info? e with
  | none=>rw[hi] at this;cases this
  | some i=>rw[hi] at this;simp only[Option.map_some,Option.some.injEq,Prod.mk.injEq] at this;simp[this.1])
 have hb1:(match hi with|some v=>Instr.sliceBound v cap .sliceAcap|none=>pure len).run P w = .ok hb w:=by
  rcases hhi with ⟨rfl,rfl⟩|⟨kd,i,rfl,h0,rfl⟩
  ·simp
  ·exact run_sliceBound h0 (by omega)
 have hb2:(match lo with|some v=>Instr.sliceBound v hb .sliceB|none=>pure 0).run P w = .ok l w:=by
  rcases hlo with ⟨rfl,rfl⟩|⟨kd,i,rfl,h0,rfl⟩
  ·simp
  ·exact run_sliceBound h0 (by omega)
 have hbd:(Instr.sliceBounds true len cap lo hi none).run P w = .ok (l,hb,cap) w:=by
  unfold Instr.sliceBounds
  rcases hhi with ⟨rfl,rfl⟩|⟨kd,i,rfl,h0,rfl⟩<;>rcases hlo with ⟨rfl,rfl⟩|⟨kd',i',rfl,h0',rfl⟩
  ·simp
  ·simp[run_sliceBound (P:=P) (w:=w) h0' (by omega:i'≤(hb:Int))]
  ·simp[run_sliceBound (P:=P) (w:=w) h0 (by omega:i≤(cap:Int))]
  ·simp[run_sliceBound (P:=P) (w:=w) h0 (by omega:i≤(cap:Int)),run_sliceBound (P:=P) (w:=w) h0' (by omega:i'≤(i.toNat:Int))]
 simp[Instr.sliceAt,Instr.slice,run_underlying h.u,hbd,hs]
def BndIs (A:Operand→AV) (x:Option Operand) (dflt v:Nat):Prop:=(x=none∧v=dflt)∨∃ y kd i,x=some y∧A y = .d (.v (.int kd i))∧0≤i∧i.toNat=v
theorem BndIs.none [Mode] {A:Operand→AV}{d:Nat}:BndIs A none d d:=.inl ⟨rfl,rfl⟩
theorem BndIs.some [Mode] {A:Operand→AV}{d:Nat}{y:Operand}{kd:IntKind}{i:Int}{v:Nat} (h:A y = .d (.v (.int kd i))) (h0:0≤i) (h1:i.toNat=v):BndIs A (some y) d v:=.inr ⟨y,kd,i,rfl,h,h0,h1⟩
section
variable {P : Program} {o : Oper} {A : Operand → AV} {H : Heap} {new : Nat}
theorem BndIs.val [Mode] {ι:Iota}{F:Nat→Prop}{w:World}{ρ:Operand→Value}{x:Option Operand}{d v:Nat} (h:BndIs A x d v) (hv:∀ y,x=Option.some y→VR ι F w (A y) (ρ y)):(x.map ρ=Option.none∧v=d)∨∃ kd i,x.map ρ=Option.some (.int kd i)∧0≤i∧i.toNat=v:=by
 rcases h with ⟨rfl,rfl⟩|⟨y,kd,i,rfl,h1,h0,h2⟩
 ·exact .inl ⟨rfl,rfl⟩
 ·have:=hv y rfl
  rw[h1] at this
  have:=this.v_inv
  exact .inr ⟨kd,i,by simp[this],h0,h2⟩
theorem OpOk.sliceD [Mode] {t e:TypeId}{x:Operand}{lo hi:Option Operand}{k b l hb:Nat}{z:Value}{rows:List (List D)} (ho:o.op = .slice t x lo hi none) [h:TySlice P t e k b z] (hx:A x = .d (.sl k rows)) (hlo:BndIs A lo 0 l) (hhi:BndIs A hi rows.length hb) (hl:l≤hb) (hh:hb≤rows.length) :
  OpOk P o A [] H new (.d (.sl k ((rows.drop l).take (hb - l)))) []:=
 .still [] fun ι F w H1 ρ _ hs hv=>by
  have h1:=hv x (by simp[ho,Op.operands])
  rw[hx] at h1
  generalize hq:ρ x=q at h1
  cases h1 with
  | d h1=>
   cases h1 with
   | sl _ _ a cap g hcap hcl hd=>
    have hr:=run_sliceAt (P:=P) (w:=w) (a:=a) (cap:=cap) (h:=h) (hlo.val (ρ:=ρ) fun y hy=>hv y (by subst hy;simp[ho,Op.operands])) (hhi.val (ρ:=ρ) fun y hy=>hv y (by subst hy;simp[ho,Op.operands])) hl hh hcap
    refine ⟨.slice (if cap=l then a else a.map (·.add (l*k))) (hb - l) (cap - l),by simp[execOp,ho,hq,hr],?_⟩
    have hlen:((rows.drop l).take (hb - l)).length=hb - l:=by simp;omega
    have hget:∀ (i:Nat) r,((rows.drop l).take (hb - l))[i]? = some r→rows[l+i]? = some r∧i<hb - l:=fun i r hi=>by
     have hlt:i<hb - l:=by rw[← hlen];exact (List.getElem?_eq_some_iff.1 hi).1
     rw[List.getElem?_take,if_pos hlt,List.getElem?_drop] at hi
     exact ⟨hi,hlt⟩
    generalize (rows.drop l).take (hb - l)=R at hlen hget ⊢
    rw[← hlen]
    refine .d (.sl k _ _ _ (fun i j=>g (l+i) j) (by omega) (fun i r j c hi hj=>?_) (fun i r j c hi hj=>hd _ r j c (hget i r hi).1 hj))
    obtain ⟨h2,h3⟩:=hget i r hi
    obtain ⟨b',off,e1,hF,hcell⟩:=hcl (l+i) r j c h2 hj
    refine ⟨b',off+l*k,?_,hF,?_⟩
    ·have hne:¬ cap=l:=by omega
     rw[if_neg hne,e1]
     simp[addr_add]
    ·rw[show off+l*k+i*k+j=off+(l+i)*k+j by rw[Nat.add_mul];omega]
     exact hcell
theorem OpOk.sliceO [Mode] {t e:TypeId}{x:Operand}{lo hi:Option Operand}{k b l hb off n:Nat}{z:Value}{l0:Loc} (ho:o.op = .slice t x lo hi none) [h:TySlice P t e k b z] (hx:A x = .own k l0 off n) (hlo:BndIs A lo 0 l) (hhi:BndIs A hi n hb) (hl:l<hb∨l=0) (hh:hb≤n) (hl':l≤hb) :
  OpOk P o A [] H new (.own k l0 (off+l) (hb - l)) []:=
 .still [] fun ι F w H1 ρ _ hs hv=>by
  have h1:=hv x (by simp[ho,Op.operands])
  rw[hx] at h1
  generalize hq:ρ x=q at h1
  cases h1 with
  | own _ _ _ _ bb sz cap hi2 hn hsz=>
   have hr:=run_sliceAt (P:=P) (w:=w) (a:=some ⟨bb,off*k,none⟩) (cap:=cap) (h:=h) (hlo.val (ρ:=ρ) fun y hy=>hv y (by subst hy;simp[ho,Op.operands])) (hhi.val (ρ:=ρ) fun y hy=>hv y (by subst hy;simp[ho,Op.operands])) hl' hh hn
   refine ⟨.slice (if cap=l then some ⟨bb,off*k,none⟩ else (some ⟨bb,off*k,none⟩:Option Addr).map (·.add (l*k))) (hb - l) (cap - l),by simp[execOp,ho,hq,hr],?_⟩
   have e:(if cap=l then some ⟨bb,off*k,none⟩ else (some ⟨bb,off*k,none⟩:Option Addr).map (·.add (l*k)))=some ⟨bb,(off+l)*k,none⟩:=by
    split
    ·have:l=0:=by omega
     subst this;simp
    ·simp[addr_add,Nat.add_mul]
   rw[e]
   refine .own k l0 (off+l) (hb - l) bb sz (cap - l) hi2 (by omega) ?_
   rw[show off+l+(cap - l)=off+cap by omega];exact hsz
  | ownNil _ _ hi2=>
   have hr:=run_sliceAt (P:=P) (w:=w) (a:=none) (cap:=0) (len:=0) (h:=h) (hlo.val (ρ:=ρ) fun y hy=>hv y (by subst hy;simp[ho,Op.operands])) (hhi.val (ρ:=ρ) fun y hy=>hv y (by subst hy;simp[ho,Op.operands])) hl' hh (Nat.le_refl _)
   have e1:hb=0:=by omega
   have e2:l=0:=by omega
   subst e1 e2
   refine ⟨.slice none 0 0,by simp[execOp,ho,hq,hr],?_⟩
   exact .ownNil k l0 hi2
end
end
section
open Go Go.RowKit
def OpAny [Mode] {α:Type} (P:Program) (o:Oper) (A:Operand→AV) (H:Heap) (val:α→AV) (cond:α→Prop):Prop:=
 ∀ (ι:Iota) (F:Nat→Prop) (w:World) (ρ:Operand→Value),Sim ι F H w→(∀ x∈o.op.operands,VR ι F w (A x) (ρ x))→∃ i v,cond i∧(execOp ρ o).run P w = .ok (.value v) w∧VR ι F w (val i) v
section
variable {P : Program} {C : Ctx} {ops : Array Oper} {Q : Exit → AS → Prop} {rest : List Oper} {o : Oper} {H : Heap}
theorem AL.any [Mode] {α:Type}{val:α→AV}{cond:α→Prop}{fr:List AV}{n:Nat} (hg:o.guard=none) (h1:OpAny P o (evalF fr) H val cond) (h2:∀ i,cond i→AL P C ops Q rest ⟨putF fr o.dst (val i),H,n+1⟩):AL P C ops Q (o :: rest) ⟨fr,H,n⟩:=by
 intro a w r
 have hw:Region.wanted o (yielded ops a.tmps)=true:=by obtain ⟨ι,F,_,hv,_⟩:=r;exact GuardIs.wanted (fr:=fr) (ops:=ops) (by unfold GuardIs;rw[hg]) hv
 unfold wpList
 rw[hw,if_pos rfl]
 left
 obtain ⟨ι,F,hs,hv,hd,hi,hu⟩:=r
 obtain ⟨i,v,hc,hr,hvr⟩:=h1 ι F w a.eval hs (fun x _=>hv.eval x)
 have hup:Upon P (fun v' w'=>v'=v∧w'=w) ((execOp a.eval o).run P w):=by rw[hr];exact ⟨rfl,rfl⟩
 refine hup.wp ?_
 rintro _ _ ⟨rfl,rfl⟩
 refine h2 i hc _ _ ⟨ι,F,hs,hv.put hvr,?_,hi,fun id hid k=>hu id (Nat.le_of_lt hid) k⟩
 cases o.dst<;>exact hd
theorem Ok.appendD [Mode] {A:Operand→AV}{new:Nat}{t t' e e':TypeId}{ts:Array TypeId}{s x:Operand}{k b b' n m:Nat}{z z':Value}{rows R:List (List D)}{l:Loc} (ho:o.op = .call { callee:=.builtin .append,args:=#[s,x],argTypes:=ts }) (hts:ts = #[t,t']) [h:TySlice P t e k b z] [h':TySlice P t' e' k b' z'] (hk0:0<k)
  (hs:A s = .own k l 0 n) (hl:H l=some (dobj k rows)) (hn:rows.length=n) (hx:A x = .d (.sl k R)) (hR:R.length=m) (hk:∀ r∈R,r.length=k) (hone:∀ r∈R,(r.map AV.d).all AV.one=true) (hsz:(n+m)*b≤140737488355328) (h63:n+m≤9223372036854775807) :
  OpOk P o A [l] H new (.own k ⟨new,[]⟩ 0 (n+m)) [.one l none,.one ⟨new,[]⟩ (some (dobj k (rows++R)))]:=by
 subst hR
 have hd:(dobj k rows).rows.length=n:=by simp[dobj,hn]
 have:=OpOk.append (P:=P) (H:=H) (new:=new) (A:=A) (S:=rows.map fun r=>r.map .d) (R:=R.map fun r=>r.map .d) (rd:=[]) (rs:=[l]) (wr:=[.one l none,.one ⟨new,[]⟩ (some ⟨k,(rows.map fun r=>r.map .d)++R.map fun r=>r.map .d⟩)]) (n:=n) ho hts hk0
  (.inl ⟨l,_,hs,hl,rfl,by rw[hd];exact Nat.le_refl _,by simp only[dobj];rw[List.take_of_length_le (by simp[hn])],rfl,rfl⟩) (by rw[hx];exact .data R hk) (by intro r hr;obtain ⟨r',hr',rfl⟩:=List.mem_map.1 hr;exact hone r' hr') (by simpa using hsz) (by simpa using h63)
 simpa [dobj] using this
theorem Ok.build0 [Mode] {A:Operand→AV}{new:Nat}{t:TypeId}{pl:List (Nat × Nat)}{zs:List Value}{cs:List AV} (ho:o.op = .build t #[]) [h:TyBuild P t pl zs] (hc:zs.map (fun x=>AV.d (.v x))=cs):OpOk P o A [] H new (.agg cs) []:=
 OpOk.build ho (by simp) rfl hc
theorem Ok.sliceTo [Mode] {A:Operand→AV}{new:Nat}{α:Type}{row:α→List D}{xs:List α}{t e:TypeId}{x y:Operand}{k b:Nat}{i:Int}{z:Value} (ho:o.op = .slice t x none (some y) none) [h:TySlice P t e k b z] (hx:A x = .d (.sl k (xs.map row))) (hy:A y=I i) (h0:0≤i) (h1:i≤xs.length):OpOk P o A [] H new (.d (.sl k ((xs.take i.toNat).map row))) []:=by
 have:=OpOk.sliceD (P:=P) (H:=H) (new:=new) (A:=A) (hb:=i.toNat) ho hx BndIs.none (BndIs.some hy h0 rfl) (Nat.zero_le _) (by simp;omega)
 simpa [List.map_take] using this
theorem Ok.sliceFrom [Mode] {A:Operand→AV}{new:Nat}{α:Type}{row:α→List D}{xs:List α}{t e:TypeId}{x y:Operand}{k b:Nat}{i:Int}{z:Value} (ho:o.op = .slice t x (some y) none none) [h:TySlice P t e k b z] (hx:A x = .d (.sl k (xs.map row))) (hy:A y=I i) (h0:0≤i) (h1:i≤xs.length):OpOk P o A [] H new (.d (.sl k ((xs.drop i.toNat).map row))) []:=by
 have:=OpOk.sliceD (P:=P) (H:=H) (new:=new) (A:=A) (l:=i.toNat) ho hx (BndIs.some hy h0 rfl) BndIs.none (by simp;omega) (Nat.le_refl _)
 rw[List.take_of_length_le (by simp)] at this
 simpa [List.map_drop] using this
end
end
section
open Go Go.RowKit
def fgt:AV→AV
 | .ownc k l off n _=>.own k l off n
 | a=>a
theorem VR.fgt [Mode] {ι:Iota}{F:Nat→Prop}{w:World}{a:AV}{v:Value} (h:VR ι F w a v):VR ι F w (fgt a) v:=by
 cases h with
 | ownc k l off n cap b sz h hn hs=>exact .own k l off n b sz cap h hn hs
 | owncNil k l h=>exact .ownNil k l h
 | d h=>exact .d h
 | agg cs vs hl h=>exact .agg cs vs hl h
 | tup cs vs hl h=>exact .tup cs vs hl h
 | own k l off n b sz cap h hn hs=>exact .own k l off n b sz cap h hn hs
 | ownNil k l h=>exact .ownNil k l h
 | ptr k l i j b sz h=>exact .ptr k l i j b sz h
 | dptr cs b off g hF h hd=>exact .dptr cs b off g hF h hd
 | clo fn fs cs fv cv hf hc h h'=>exact .clo fn fs cs fv cv hf hc h h'
 | dead v=>exact .dead v
section
variable {P : Program} {o : Oper} {A : Operand → AV} {H : Heap} {new : Nat}
theorem Post.rows [Mode] {ι:Iota}{F:Nat→Prop}{w:World}{H:Heap} (hs:Sim ι F H w) {l:Loc}{ob:AObj}{b off c:Nat}{cs news:List Value}{T:TypeId}{R:List (List AV)} (hl:H l=some ob) (he:ι l=some (some (b,cs.length))) (hb:w.heap[b]? = some (.cells cs.toArray T (0,0))) (hoff:off≤ob.rows.length)
  (hfit:(off+c)*ob.k≤cs.length) (hlen:ob.rows.length*ob.k≤cs.length) (hrows:∀ (i:Nat) r,ob.rows[i]? = some r→r.length=ob.k∧∀ (j:Nat) c,r[j]? = some c→∃ v,cs[i*ob.k+j]? = some v∧VR ι F w c v) (hnl:news.length=c*ob.k) (hRl:R.length=c)
  (hcell:∀ (i:Nat) r,R[i]? = some r→r.length=ob.k∧∀ (j:Nat) c,r[j]? = some c→∃ u,news[i*ob.k+j]? = some u∧VR ι F w c u) (reads:List Loc) (hr:Cov reads l) (new:Nat) :
  Post ι F H w reads new ι F (upd H l (some ⟨ob.k,ob.rows.take off++R++ob.rows.drop (off+c)⟩)) (w.setRow b (cs.take (off*ob.k)++news++cs.drop (off*ob.k+news.length)).toArray):=by
 have hfit2:off*ob.k+c*ob.k≤cs.length:=by rw[← Nat.add_mul];exact hfit
 have hlen':(cs.take (off*ob.k)++news++cs.drop (off*ob.k+news.length)).length=cs.length:=by
  simp only[List.length_append,List.length_take,List.length_drop,hnl];omega
 have htl:(cs.take (off*ob.k)).length=off*ob.k:=by simp;omega
 have hTl:(ob.rows.take off).length=off:=by simp;omega
 refine Post.write hs hl he hb hlen' (o':=⟨ob.k,ob.rows.take off++R++ob.rows.drop (off+c)⟩) ?_ (fun i r hr'=>?_) reads hr new
 ·rw[hlen']
  simp only[List.length_append,hTl,hRl,List.length_drop]
  rcases Nat.le_total ob.rows.length (off+c) with h|h
  ·rw[Nat.sub_eq_zero_of_le h,Nat.add_zero];exact hfit
  ·rw[Nat.add_sub_cancel' h];exact hlen
 ·rw[List.append_assoc,List.getElem?_append,hTl] at hr'
  show r.length=ob.k∧∀ (j:Nat) c_1,r[j]? = some c_1→∃ v,(cs.take (off*ob.k)++news++cs.drop (off*ob.k+news.length))[i*ob.k+j]? = some v∧VR ι F w c_1 v
  split at hr'
  ·rename_i hin
   rw[List.getElem?_take,if_pos hin] at hr'
   obtain ⟨h1,h2⟩:=hrows i r hr'
   refine ⟨h1,fun j c hc=>?_⟩
   obtain ⟨u,h3,h4⟩:=h2 j c hc
   refine ⟨u,?_,h4⟩
   have hj:j<ob.k:=by rw[← h1];exact (List.getElem?_eq_some_iff.1 hc).1
   have hlt:i*ob.k+j<off*ob.k:=by
    have:(i+1)*ob.k≤off*ob.k:=Nat.mul_le_mul_right _ hin
    rw[Nat.succ_mul] at this;omega
   rw[List.append_assoc,List.getElem?_append_left (by omega),List.getElem?_take,if_pos hlt];exact h3
  ·rename_i hin
   rw[List.getElem?_append,hRl] at hr'
   split at hr'
   ·rename_i hin2
    obtain ⟨h1,h2⟩:=hcell (i - off) r hr'
    refine ⟨h1,fun j c hc=>?_⟩
    obtain ⟨u,h3,h4⟩:=h2 j c hc
    refine ⟨u,?_,h4⟩
    have h3l:=(List.getElem?_eq_some_iff.1 h3).1
    have hik:i*ob.k=off*ob.k+(i - off)*ob.k:=by rw[← Nat.add_mul];congr 1;omega
    rw[List.getElem?_append_left (by rw[List.length_append,htl];omega),List.getElem?_append_right (by rw[htl];omega),htl,show i*ob.k+j - off*ob.k=(i - off)*ob.k+j by omega]
    exact h3
   ·rename_i hin2
    rw[List.getElem?_drop,show off+c+(i - off - c)=i by omega] at hr'
    obtain ⟨h1,h2⟩:=hrows i r hr'
    refine ⟨h1,fun j c' hc=>?_⟩
    obtain ⟨u,h3,h4⟩:=h2 j c' hc
    refine ⟨u,?_,h4⟩
    have hge:off*ob.k+c*ob.k≤i*ob.k:=by rw[← Nat.add_mul];exact Nat.mul_le_mul_right _ (by omega)
    rw[List.getElem?_append_right (by rw[List.length_append,htl,hnl];omega),List.length_append,htl,List.getElem?_drop,show off*ob.k+news.length+(i*ob.k+j - (off*ob.k+news.length))=i*ob.k+j by rw[hnl];omega]
    exact h3
theorem Ok.cellOf [Mode] {k:Nat}{R:List (List AV)} (hk0:0<k) {ι:Iota}{F:Nat→Prop}{w:World}{news:List Value} (hone:∀ r∈R,r.all AV.one=true) (hlen:news.length=R.length*k) (h:∀ (i:Nat) r,R[i]? = some r→r.length=k∧∀ (j:Nat) c,r[j]? = some c→∃ u,news[i*k+j]? = some u∧VR ι F w c u):∀ u∈news,u.oneCell'=true:=by
 intro u hu
 obtain ⟨q,hq⟩:=List.getElem?_of_mem hu
 have hql:q<R.length*k:=by rw[← hlen];exact (List.getElem?_eq_some_iff.1 hq).1
 have hqi:q / k<R.length:=(Nat.div_lt_iff_lt_mul hk0).2 hql
 obtain ⟨h1,h2⟩:=h (q / k) _ (List.getElem?_eq_getElem hqi)
 have hqj:q % k<R[q / k].length:=by rw[h1];exact Nat.mod_lt _ hk0
 obtain ⟨u',h3,h4⟩:=h2 (q % k) _ (List.getElem?_eq_getElem hqj)
 rw[Nat.div_add_mod',hq] at h3
 cases h3
 exact h4.one (List.all_eq_true.1 (hone _ (List.getElem_mem hqi)) _ (List.getElem_mem hqj))
theorem SrcIs.congr [Mode] {H H1:Heap}{k:Nat}{a:AV}{R:List (List AV)}{rd:List Loc} (h:SrcIs H k a R rd) (hH:∀ l∈rd,H1 l=H l):SrcIs H1 k a R rd:=by
 cases h with
 | data rows hk=>exact .data rows hk
 | own l off n ob hl hk hn=>exact .own l off n ob ((hH l (by simp)).trans hl) hk hn
 | nil=>exact .nil
theorem zeroCells_made [Mode] {z:Value}{n:Nat}:Builtin.zeroCells z.cells n=madeCells z.cells (n*z.cells.size):=rfl
end
end
section
open Go Go.RowKit
section
variable {P : Program} {o : Oper} {A : Operand → AV} {H : Heap} {new : Nat}
theorem OpOk.clearC [Mode] {t e:TypeId}{ts:Array TypeId}{x:Operand}{k b off n:Nat}{z:Value}{l:Loc}{ob:AObj} (ho:o.op = .call { callee:=.builtin .clear,args:=#[x],argTypes:=ts }) (hts:ts = #[t]) [h:TySlice P t e k b z] (hk0:0<k) (hz1:∀ u∈z.cells.toList,u.oneCell'=true)
  (hd:fgt (A x) = .own k l off n) (hl:H l=some ob) (hk:ob.k=k) (hn:off+n≤ob.rows.length) (hn0:0<n) :
  OpOk P o A [l] H new .dead [.one l (some ⟨k,ob.rows.take off++List.replicate n (z.cells.toList.map fun x=>.d (.v x))++ob.rows.drop (off+n)⟩)]:=by
 intro ι F w H1 ρ hH hnew hs hv
 subst hk
 have hvd:=(hv x (by simp[ho,Op.operands,Call.operands])).fgt
 have hl1:=(hH l (.mem (by simp))).trans hl
 rw[hd] at hvd
 rcases hvd.own_inv with ⟨g,sz,dCap,eι,hcap,hfit,hdv⟩|⟨eι,h0,h1,hdv⟩
 ·rcases hs.obj l ob hl1 with ⟨e',_⟩|⟨g',cs,T,e',hb,hlen,hrows⟩
  ·rw[eι] at e';cases e'
  ·rw[eι] at e';simp only[Option.some.injEq,Prod.mk.injEq] at e'
   obtain ⟨rfl,rfl⟩:=e'
   have hfit1:(off+n)*ob.k≤cs.length:=Nat.le_trans (Nat.mul_le_mul_right _ hn) hlen
   have hml:(madeCells z.cells (n*ob.k)).toList.length=n*ob.k:=by simp[size_madeCells]
   have hcell:∀ (i:Nat) r,(List.replicate n (z.cells.toList.map fun x=>AV.d (.v x)))[i]? = some r→r.length=ob.k∧∀ (j:Nat) c,r[j]? = some c→∃ u,(madeCells z.cells (n*ob.k)).toList[i*ob.k+j]? = some u∧VR ι F w c u:=by
    intro i r hr
    rw[List.getElem?_replicate] at hr
    split at hr
    ·rename_i hin
     cases hr
     refine ⟨by simpa using h.zs,fun j c hc=>?_⟩
     simp only[List.getElem?_map,Option.map_eq_some_iff] at hc
     obtain ⟨v,h5,rfl⟩:=hc
     have hjk:j<ob.k:=by have:=(List.getElem?_eq_some_iff.1 h5).1;rw[← h.zs];simpa using this
     exact ⟨v,by rw[madeCells_get h.zs hin hjk];simpa using h5,.d (.v _)⟩
    ·cases hr
   have hno:∀ u∈(madeCells z.cells (n*ob.k)).toList,u.oneCell'=true:=by
    refine Ok.cellOf (k:=ob.k) (R:=List.replicate n (z.cells.toList.map fun x=>AV.d (.v x))) hk0 (fun r hr=>?_) (by rw[hml];simp) hcell
    rw[List.eq_of_mem_replicate hr,List.all_map,List.all_eq_true]
    intro u hu
    exact hz1 u hu
   have hst:=run_storeCells_at P g (off*ob.k) T (madeCells z.cells (n*ob.k)).toList 0 cs.toArray w hb (by rw[hml,Nat.add_zero,← Nat.add_mul];simpa using hfit1) hno
   simp only[Nat.add_zero] at hst
   have hrun:(execOp ρ o).run P w = .ok (.value (.tuple #[])) (w.setRow g (cs.take (off*ob.k)++(madeCells z.cells (n*ob.k)).toList++cs.drop (off*ob.k+(madeCells z.cells (n*ob.k)).toList.length)).toArray):=by
    obtain ⟨i,hi,hi1,hi2,hz⟩:=rows_eq (P:=P) (t:=t) (e:=e) (k:=ob.k) (b:=b) (z:=z)
    have hzm:Builtin.zeroCells z.cells n=madeCells z.cells (n*ob.k):=by rw[zeroCells_made,h.zs]
    have hne:n≠0:=by omega
    have hcl:(Builtin.clear_ #[t] o.type #[.slice (some ⟨g,off*ob.k,none⟩) n dCap]).run P w = .ok (.tuple #[]) (w.setRow g (cs.take (off*ob.k)++(madeCells z.cells (n*ob.k)).toList++cs.drop (off*ob.k+(madeCells z.cells (n*ob.k)).toList.length)).toArray):=by
     obtain ⟨n',rfl⟩:∃ n',n=n'+1:=⟨n - 1,by omega⟩
     simp only[Builtin.clear_,List.getElem?_toArray,List.getElem?_cons_zero,Sem.run_bind,run_underlying h.u,Result.andThen_ok,zeroValue,typeInfo,run_program,hi,hz,Sem.run_pure,hzm,hst]
    simp[execOp,ho,hts,resolve,invoke,builtin,hdv,hcl]
   rw[hrun]
   exact ⟨ι,F,.dead _,Post.rows hs hl1 eι hb (by omega) hfit1 hlen hrows hml (by simp) hcell _ (.mem (by simp)) new⟩
 ·omega
end
end
section
open Go Go.RowKit
class FnOver (P:Program) (f:FuncId) (tS tR:outParam TypeId):Prop where
 a : (P.funcs[f]?).map (fun fn => (fn.name == "runtime.NumGoroutine", fn.body.isNone)) = some (false, true)
 b:(P.funcs[f]?).map (fun fn=>(Extern.findNext fn).isNone)=some true
 c:(P.funcs[f]?).map (fun fn=>Extern.find fn)=some (some (Extern.SlicesOverlaps.overlaps #[tS,tS] #[tR]))
theorem run_over [Mode] {P:Program}{f:FuncId}{tS tR:TypeId} [h:FnOver P f tS tR] {args:Array Value}{w:World}:(callFunc f args).run P w=((Extern.SlicesOverlaps.overlaps #[tS,tS] #[tR] args).run P w).andThen fun v w'=>.ok (.value v) w':=by
 have h1:=h.a;have h2:=h.b;have h3:=h.c
 cases hf:P.funcs[f]? with
 | none=>rw[hf] at h1;cases h1
 | some fn=>
  rw[hf] at h1 h2 h3
  simp only[Option.map_some,Option.some.injEq,Prod.mk.injEq,Option.isNone_iff_eq_none] at h1 h2 h3
  exact run_callFunc_extern hf h1.1 (by rw[Option.isNone_iff_eq_none];exact h1.2) h2 h3 args w
section
variable {P : Program} {o : Oper} {A : Operand → AV} {H : Heap} {new : Nat}
theorem OpOk.over [Mode] {fo x y:Operand}{ts:Array TypeId}{f:FuncId}{tS tR e:TypeId}{k b off n off' n':Nat}{z:Value}{l l':Loc}{ob ob':AObj} (ho:o.op = .call { callee:=.value fo,args:=#[x,y],argTypes:=ts }) [FnOver P f tS tR] [h:TySlice P tS e k b z] (hfo:A fo = .clo (.func f) [] [])
  (hk0:0<k) (hx:fgt (A x) = .own k l off n) (hy:fgt (A y) = .own k l' off' n') (hne:l≠l') (hl:H l=some ob) (hl':H l'=some ob') (hn':0<n') (hn:0<n):OpOk P o A [l,l'] H new (Bo false) []:=
 .still [l,l'] fun ι F w H1 ρ hH hs hv=>by
  have hf:=hv fo (by simp[ho,Op.operands,Call.operands])
  have h1:=(hv x (by simp[ho,Op.operands,Call.operands])).fgt
  have h2:=(hv y (by simp[ho,Op.operands,Call.operands])).fgt
  rw[hfo] at hf
  rw[hx] at h1
  rw[hy] at h2
  have hl1:=(hH l (.mem (by simp))).trans hl
  have hl2:=(hH l' (.mem (by simp))).trans hl'
  refine ⟨.bool false,?_,.d (.v _)⟩
  generalize hq:ρ fo=q at hf
  cases hf with
  | clo _ _ _ fv cv g1 g2 g3 g4=>
   have hfv:fv=[]:=List.length_eq_zero_iff.1 g1
   have hcv:cv=[]:=List.length_eq_zero_iff.1 g2
   subst hfv hcv
   rcases h1.own_inv with ⟨B,sz,cap,e1,c1,f1,v1⟩|⟨_,_,c0,_⟩
   ·rcases h2.own_inv with ⟨B',sz',cap',e2,c2,f2,v2⟩|⟨_,_,c0,_⟩
    ·rcases hs.obj l ob hl1 with ⟨e3,_⟩|⟨b1,cs1,T1,e3,hb1,_,_⟩
     ·rw[e1] at e3;cases e3
     ·rcases hs.obj l' ob' hl2 with ⟨e4,_⟩|⟨b2,cs2,T2,e4,hb2,_,_⟩
      ·rw[e2] at e4;cases e4
      ·rw[e1] at e3;rw[e2] at e4
       simp only[Option.some.injEq,Prod.mk.injEq] at e3 e4
       obtain ⟨rfl,rfl⟩:=e3
       obtain ⟨rfl,rfl⟩:=e4
       have hneB:B≠B':=fun e=>hne (hs.inj l l' B _ _ (by rw[hl1];simp) (by rw[hl2];simp) e1 (by rw[e];exact e2))
       have hk2:cs2.toArray.size≠0:=by
        have:1*k≤(off'+cap')*k:=Nat.mul_le_mul_right _ (by omega)
        simp;intro e0;rw[e0] at f2;simp at f2;omega
       have hsz:∀ w,(Go.sizeOf e).run P w = .ok k w:=fun w=>run_sizeOf' (by
        have:=h.s
        cases hi:P.info? e with
        | none=>rw[hi] at this;cases this
        | some i=>rw[hi] at this;simp only[Option.map_some,Option.some.injEq,Prod.mk.injEq] at this;simp[this.1])
       have hr:=Lib.run_overlaps_apart (P:=P) w tS tR e h.u k hsz ⟨B,off*k,none⟩ ⟨B',off'*k,none⟩ n cap n' cap' hneB T1 T2 cs1.toArray.size cs2.toArray.size
        (by simp[World.shape?,hb1]) (by simp[World.shape?,hb2]) hk2 (by simp[World.frozen?,hb1]) (by simp[World.frozen?,hb1])
       have hrun:=run_over (P:=P) (f:=f) (args:=#[ρ x,ρ y]) (w:=w)
       rw[v1,v2,hr] at hrun
       simp only[Result.andThen_ok] at hrun
       simp[execOp,ho,resolve,hq,Deferred.ofValue,invoke,v1,v2,hrun]
    ·omega
   ·omega
end
inductive Fgt:AV→AV→Prop
 | refl (a:AV):Fgt a a
 | own (k:Nat) (l:Loc) (off n c:Nat):Fgt (.ownc k l off n c) (.own k l off n)
theorem Fgt.vr [Mode] {ι:Iota}{F:Nat→Prop}{w:World}{a a':AV} (h:Fgt a a') {v:Value} (hv:VR ι F w a v):VR ι F w a' v:=by
 cases h with
 | refl=>exact hv
 | own k l off n c=>exact hv.fgt
theorem Le.cut [Mode] {C:Ctx}{H H':Heap}{n:Nat}{a a':AV} (h:Fgt a a') (hob:∀ l ob,H' l=some ob→∃ ob',H l=some ob'∧ob'.k=ob.k∧∃ more,ob'.rows=ob.rows++more):Le C ⟨[a],H,n⟩ ⟨[a'],H',n⟩:=by
 rintro ac w ⟨ι,F,hs,hv,hdf,hi,hu⟩
 have hne:∀ l,H' l≠none→H l≠none:=fun l hl=>by
  cases h1:H' l with
  | none=>exact absurd h1 hl
  | some ob=>obtain ⟨ob',h2,_⟩:=hob l ob h1;rw[h2];simp
 refine ⟨ι,F,⟨fun l ob h1=>?_,fun l l' b s s' h1 h2=>hs.inj l l' b s s' (hne l h1) (hne l' h2),fun l b s h1=>hs.notF l b s (hne l h1),hs.lt,hs.gl⟩,?_,hdf,⟨hi.step,hi.sub,hi.sup,fun l b ⟨h1,s,e⟩=>hi.own l b ⟨hne l h1,s,e⟩,hi.keep⟩,hu⟩
 ·obtain ⟨ob',h2,hk,more,hrows⟩:=hob l ob h1
  rcases hs.obj l ob' h2 with ⟨e,h3⟩|⟨b,cs,T,e,hb,hlen,h3⟩
  ·refine .inl ⟨e,?_⟩
   rw[hrows] at h3
   exact (List.append_eq_nil_iff.1 h3).1
  ·refine .inr ⟨b,cs,T,e,hb,?_,fun i r hr=>?_⟩
   ·rw[hrows,hk,List.length_append] at hlen
    exact Nat.le_trans (Nat.mul_le_mul_right _ (Nat.le_add_right _ _)) hlen
   ·have:=h3 i r (by rw[hrows,List.getElem?_append_left (List.getElem?_eq_some_iff.1 hr).1];exact hr)
    rw[hk] at this;exact this
 ·refine ⟨by simpa using hv.1,fun i c v hc hv'=>?_⟩
  cases i with
  | zero=>simp at hc;subst hc;exact h.vr (hv.2 0 a v rfl hv')
  | succ i=>simp at hc
theorem upds_app [Mode] (H:Heap):∀ (a b:List W),upds H (a++b)=upds (upds H a) b
 | [],b=>rfl
 | x :: a,b=>by rw[List.cons_append];exact upds_app (x.app H) a b
theorem upds_none [Mode] (H:Heap):∀ (ls:List Loc) (l:Loc),upds H (ls.map fun l=>.one l none) l=if l∈ls then none else H l
 | [],l=>by simp[upds]
 | x :: ls,l=>by
  rw[List.map_cons]
  show upds (upd H x none) _ l=_
  rw[upds_none (upd H x none) ls l]
  by_cases h:l∈ls
  ·simp[h]
  ·by_cases e:l=x
   ·subst e;simp[upd]
   ·simp[h,e,upd]
theorem OpOk.callV [Mode] {P:Program}{o:Oper}{A:Operand→AV}{H:Heap}{new:Nat}{fo:Operand}{xs:List Operand}{ts:Array TypeId}{f:FuncId}{caps args:List AV}{res res':AV}{ob:AObj} (hs:HL) (m:Nat) (ho:o.op = .call { callee:=.value fo,args:=xs.toArray,argTypes:=ts }) [FnBody P f] (hfo:A fo = .clo (.func f) [] caps)
  (hc:AC P f args (heapL hs) res (upd H0 ⟨m,[]⟩ (some ob))) (hm:(⟨m,[]⟩:Loc)∉hs.map (·.1)) (hinj:∀ l∈hs.map (·.1),∀ l'∈hs.map (·.1),tauL hs l=tauL hs l'→l=l')
  (hob:∀ l ob,heapL hs l=some ob→∃ k rows,ob=dobj k rows∧H (tauL hs l)=some ob) (hrn:∀ g,rnO g ob=ob) (hargs:ARs H (fun _=>False) (tauL hs) (·∈hs.map (·.1)) args (xs.map A++caps)) (hr:rn (emb (tauL hs) (hs.map (·.1)) new) res=res') :
  OpOk P o A ((hs.map (·.1)).map (tauL hs)) H new res' (((hs.map (·.1)).map (tauL hs)).map (fun l=>.one l none)++[.one ⟨new,[m]⟩ (some ob)]):=by
 have h:=OpOk.callGen (P:=P) (o:=o) (A:=A) (H:=H) (new:=new) (wr:=((hs.map (·.1)).map (tauL hs)).map (fun l=>.one l none)++[.one ⟨new,[m]⟩ (some ob)]) (fun _=>False) ((hs.map (·.1)).map (tauL hs)) (tauL hs) (hs.map (·.1)) (fun _ h=>h.elim) (fun l hl=>.mem (by simpa using List.mem_map_of_mem hl)) ho hfo hc (fun l=>heapL_iff) hinj (fun l _ h=>h) (fun l ob hl=>by
   obtain ⟨k,rows,rfl,h1⟩:=hob l ob hl
   refine ⟨_,h1,rfl,rfl,fun i r r' hr hr'=>?_⟩
   rw[hr] at hr';cases hr'
   refine ⟨rfl,fun j c c' hc hc'=>?_⟩
   rw[hc] at hc';cases hc'
   simp only[dobj,List.getElem?_map,Option.map_eq_some_iff] at hr
   obtain ⟨r2,_,rfl⟩:=hr
   simp only[List.getElem?_map,Option.map_eq_some_iff] at hc
   obtain ⟨c2,_,rfl⟩:=hc
   exact AR.dd _) (.inl fun _ h=>h) hargs (fun H1 h1 h2=>by
   have hne:∀ l∈(hs.map (·.1)).map (tauL hs),l.id≠new:=fun l hl e=>by
    obtain ⟨lc,hlc,rfl⟩:=List.mem_map.1 hl
    cases hb:heapL hs lc with
    | none=>exact absurd hb (heapL_iff.2 hlc)
    | some ob2=>
     obtain ⟨_,_,_,h3⟩:=hob lc ob2 hb
     have h4:=h2 lc hlc
     rw[h3] at h4
     have h5:=h1 (tauL hs lc).sub
     rw[← e] at h5
     exact absurd (h5.symm.trans h4) (by simp)
   funext l
   rw[upds_app]
   show upd _ _ _ l=_
   unfold upd merge
   cases hf:(hs.map (·.1)).find? (fun lc=>tauL hs lc == l) with
   | some lc=>
    have hlc:=List.mem_of_find?_eq_some hf
    have he:tauL hs lc=l:=by have:=List.find?_some hf;simpa using this
    have hlm:l∈(hs.map (·.1)).map (tauL hs):=List.mem_map.2 ⟨lc,hlc,he⟩
    rw[if_neg (fun e=>hne l hlm (by rw[e])),upds_none,if_pos hlm]
    simp only
    rw[if_neg (fun e=>hm (by rw[← e];exact hlc))];rfl
   | none=>
    have hno:l∉(hs.map (·.1)).map (tauL hs):=fun hl=>by
     obtain ⟨lc,hlc,e⟩:=List.mem_map.1 hl
     have:=List.find?_eq_none.1 hf lc hlc
     simp[e] at this
    rw[upds_none,if_neg hno]
    simp only
    obtain ⟨id,sub⟩:=l
    by_cases e:id=new
    ·subst e
     rw[if_pos rfl]
     cases sub with
     | nil=>simp[h1]
     | cons i s=>
      simp only
      by_cases e2:i=m∧s=[]
      ·obtain ⟨rfl,rfl⟩:=e2
       rw[if_pos rfl,if_neg hm,if_pos rfl]
       simp[hrn]
      ·have e3:¬ ((⟨id,i :: s⟩:Loc)=⟨id,[m]⟩):=by simpa using e2
       have e4:¬ ((⟨i,s⟩:Loc)=⟨m,[]⟩):=by simpa using e2
       rw[if_neg e3,h1,if_neg e4]
       split<;>rfl
    ·rw[if_neg e,if_neg (fun e'=>e (by cases e';rfl))])
 rw[← hr]
 simpa using h
theorem Ok.callV [Mode] {P:Program}{o:Oper}{A:Operand→AV}{H:Heap}{new:Nat}{fo:Operand}{xs:List Operand}{ts:Array TypeId}{f:FuncId}{caps args:List AV}{res res':AV}{ob:AObj} (hs:HL) (m:Nat) (ho:o.op = .call { callee:=.value fo,args:=xs.toArray,argTypes:=ts }) [FnBody P f] (hfo:A fo = .clo (.func f) [] caps)
  (hc:AC P f args (heapL hs) res (upd H0 ⟨m,[]⟩ (some ob))) (hm:(⟨m,[]⟩:Loc)∉hs.map (·.1)) (hnd:(hs.map (·.1)).Nodup) (hnd':(hs.map (·.2.1)).Nodup)
  (hob:AllP (fun p=>(∃ k rows,p.2.2=dobj k rows)∧H p.2.1=some p.2.2) hs) (hrn:∀ g,rnO g ob=ob) (hargs:ARs H (fun _=>False) (tauL hs) (·∈hs.map (·.1)) args (xs.map A++caps)) (hr:rn (emb (tauL hs) (hs.map (·.1)) new) res=res') :
  OpOk P o A ((hs.map (·.1)).map (tauL hs)) H new res' (((hs.map (·.1)).map (tauL hs)).map (fun l=>.one l none)++[.one ⟨new,[m]⟩ (some ob)]):=by
 refine OpOk.callV hs m ho hfo hc hm (fun l hl l' hl' e=>?_) (fun l ob hl=>?_) hrn hargs hr
 ·obtain ⟨p,hp,rfl⟩:=List.mem_map.1 hl
  obtain ⟨q,hq,rfl⟩:=List.mem_map.1 hl'
  rw[tauL_of hnd hp,tauL_of hnd hq] at e
  clear hob hc hm hargs hr hl hl'
  induction hs with
  | nil=>cases hp
  | cons x r ih=>
   simp only[List.map_cons,List.nodup_cons] at hnd hnd'
   rcases List.mem_cons.1 hp with rfl|hp'<;>rcases List.mem_cons.1 hq with rfl|hq'
   ·rfl
   ·exact absurd (List.mem_map.2 ⟨q,hq',e.symm⟩) hnd'.1
   ·exact absurd (List.mem_map.2 ⟨p,hp',e⟩) hnd'.1
   ·exact ih hnd.2 hnd'.2 hp' hq'
 ·obtain ⟨p,hp,rfl,rfl⟩:=heapL_mem hl
  obtain ⟨⟨k,rows,e⟩,h⟩:=hob.all p hp
  exact ⟨k,rows,e,by rw[tauL_of hnd hp];exact h⟩
section
variable {P : Program} {o : Oper} {A : Operand → AV} {H : Heap} {new : Nat}
theorem Ok.oFrom [Mode] {t e:TypeId}{x y:Operand}{k b off n h m:Nat}{z:Value}{l0:Loc}{i:Int} (ho:o.op = .slice t x (some y) none none) [TySlice P t e k b z] (hx:A x = .own k l0 off n) (hy:A y=I i) (h0:0≤i) (h1:i.toNat=h) (h2:h<n∨h=0) (hm:n - h=m):OpOk P o A [] H new (.own k l0 (off+h) m) []:=by
 have:=OpOk.sliceO (P:=P) (H:=H) (new:=new) (A:=A) ho hx (BndIs.some hy h0 h1) BndIs.none (by omega) (Nat.le_refl _) (by omega)
 rw[hm] at this
 exact this
theorem Ok.clearC [Mode] {t e:TypeId}{ts:Array TypeId}{x:Operand}{k b off n:Nat}{z:Value}{l:Loc}{ob:AObj}{zr:List AV} (ho:o.op = .call { callee:=.builtin .clear,args:=#[x],argTypes:=ts }) (hts:ts = #[t]) [h:TySlice P t e k b z] (hk0:0<k) (hz1:∀ u∈z.cells.toList,u.oneCell'=true)
  (hd:fgt (A x) = .own k l off n) (hl:H l=some ob) (hk:ob.k=k) (hn:off+n≤ob.rows.length) (hn0:0<n) (hz:z.cells.toList.map (fun x=>AV.d (.v x))=zr) :
  OpOk P o A [l] H new .dead [.one l (some ⟨k,ob.rows.take off++List.replicate n zr++ob.rows.drop (off+n)⟩)]:=by
 subst hz
 exact OpOk.clearC ho hts hk0 hz1 hd hl hk hn hn0
end
theorem end1cut [Mode] {C:Ctx}{P:Program}{fr:List AV}{H:Heap}{n m k nn:Nat}{l:Loc}{c:AV}{ob:AObj}{fn:Func}{e:Exit}{rv:ResultVar}{rows:List (List D)} (he:e = .ret∨e = .normal) (hr:fn.results.toList=[rv]) (h:ResOf P fr H rv c) (hc:fgt c = .own k l 0 nn) (hl:H l=some ob) (hk:ob.k=k) (hrows:∃ more,ob.rows=rows.map (fun r=>r.map .d)++more)
  (hD:∀ l,C.D0 l→l.id<m∧l≠⟨m,[]⟩):EndQ P C fn (.own k ⟨m,[]⟩ 0 nn) (upd H0 ⟨m,[]⟩ (some (dobj k rows))) e ⟨fr,H,n⟩:=by
 have hf:Fgt c (.own k l 0 nn):=by
  cases c with
  | ownc k' l' off n' c=>simp only[fgt,AV.own.injEq] at hc;obtain ⟨rfl,rfl,rfl,rfl⟩:=hc;exact .own _ _ _ _ _
  | _=>simp only[fgt] at hc;first|(rw[hc];exact .refl _)|cases hc
 refine end1 he hr h rfl ((Le.cut (H':=upd H0 l (some (dobj k rows))) hf (fun l' ob' ho=>?_)).trans (Le.head [(⟨m,[]⟩,l,dobj k rows)] (n':=m+1) (fun l' h=>⟨Nat.lt_succ_of_lt (hD l' h).1,by simp[tauL,(hD l' h).2]⟩) ?_ ?_ (by simp) (by simp) (by simp[AllP])))
 ·by_cases e:l'=l
  ·subst e;rw[upd_same] at ho;cases ho
   obtain ⟨more,hm⟩:=hrows
   exact ⟨ob,hl,hk,more,hm⟩
  ·rw[upd_ne e] at ho;cases ho
 ·exact ⟨⟨_,upd_same,ObA.data⟩,trivial⟩
 ·refine ARs.cons ?_ ARs.nil
  have:=AR.own (H:=upd H0 l (some (dobj k rows))) (lent:=fun _=>False) (τ:=tauL [(⟨m,[]⟩,l,dobj k rows)]) (L:=fun l'=>heapL [(⟨m,[]⟩,l,dobj k rows)] l'≠none) k ⟨m,[]⟩ 0 nn (by simp[heapL,upd])
  simpa [tauL] using this
end
section
open Go Go.RowKit
abbrev hp2 (a b:AObj):Heap:=upd (upd H0 ⟨1,[]⟩ (some b)) ⟨0,[]⟩ (some a)
theorem hp2_some [Mode] {a b:AObj}{l:Loc}{ob:AObj} (h:hp2 a b l=some ob):ob=a∨ob=b:=by
 simp only[hp2,upd] at h
 split at h
 ·cases h;exact .inl rfl
 ·split at h
  ·cases h;exact .inr rfl
  ·cases h
section
variable {P : Program} {o : Oper} {A : Operand → AV} {H : Heap} {new : Nat}
theorem OpOk.call2n [Mode] {fo:Operand}{xs:List Operand}{ts:Array TypeId}{f:FuncId}{caps args:List AV}{res res':AV}{ob ob':AObj} (lent:List Loc) (ho:o.op = .call { callee:=.value fo,args:=xs.toArray,argTypes:=ts }) [FnBody P f] (hfo:A fo = .clo (.func f) [] caps) (hc:AC P f args H0 res (hp2 ob ob'))
  (hfree:lent=[]∨(FreeF res∧(∀ r∈ob.rows,∀ c∈r,FreeF c)∧∀ r∈ob'.rows,∀ c∈r,FreeF c)) (hrn:∀ g,rnO g ob=ob) (hrn':∀ g,rnO g ob'=ob') (hargs:ARs H (Cov lent) id (fun _=>False) args (xs.map A++caps)) (hr:rn (fun l=>⟨new,l.id :: l.sub⟩) res=res'):OpOk P o A lent H new res' [.one ⟨new,[0]⟩ (some ob),.one ⟨new,[1]⟩ (some ob')]:=by
 subst hr
 have h:=OpOk.callGen (P:=P) (o:=o) (A:=A) (H:=H) (new:=new) (wr:=[.one ⟨new,[0]⟩ (some ob),.one ⟨new,[1]⟩ (some ob')]) (Cov lent) lent id [] (fun _ h=>h) (fun l hl=>by simp at hl) ho hfo hc (fun l=>by simp) (fun l hl=>by simp at hl) (fun l hl=>by simp at hl) (fun l ob hob=>by cases hob)
  (hfree.imp (fun e l=>by subst e;exact Cov.nil) fun h=>⟨h.1,fun l ob2 hob=>by
   rcases hp2_some hob with rfl|rfl
   ·exact h.2.1
   ·exact h.2.2⟩) (by simpa using hargs) (fun H1 h1 _=>by
   rw[merge_nil]
   funext l
   obtain ⟨id,sub⟩:=l
   simp only[upds,W.app,upd,hp2,heapL]
   by_cases e:id=new
   ·subst e
    cases sub with
    | nil=>simp[h1]
    | cons i s=>
     by_cases e2:i=0∧s=[]
     ·obtain ⟨rfl,rfl⟩:=e2;simp[hrn]
     ·have e3:¬ (i :: s=[0]):=by simpa using e2
      have e4:¬ ((⟨i,s⟩:Loc)=⟨0,[]⟩):=by simpa using e2
      by_cases e5:i=1∧s=[]
      ·obtain ⟨rfl,rfl⟩:=e5;simp[hrn']
      ·have e6:¬ (i :: s=[1]):=by simpa using e5
       have e7:¬ ((⟨i,s⟩:Loc)=⟨1,[]⟩):=by simpa using e5
       simp[e3,e4,e6,e7,h1]
   ·simp[e])
 have e:emb id [] new=fun l=>⟨new,l.id :: l.sub⟩:=by funext l;simp[emb]
 rw[e] at h
 simpa using h
theorem OpOk.callMg [Mode] {fo:Operand}{xs:List Operand}{ts:Array TypeId}{f:FuncId}{caps args:List AV}{res:AV}{l:Loc}{k k':Nat}{rows rows':List (List D)} (ho:o.op = .call { callee:=.value fo,args:=xs.toArray,argTypes:=ts }) [FnBody P f] (hfo:A fo = .clo (.func f) [] caps)
  (hc:AC P f args (upd H0 ⟨0,[]⟩ (some (dobj k rows))) res (upd H0 ⟨0,[]⟩ (some (dobj k' rows')))) (hl:H l=some (dobj k rows)) (hres:∀ g,rn g res=res) (hargs:ARs H (fun _=>False) (fun _=>l) (· = ⟨0,[]⟩) args (xs.map A++caps)):OpOk P o A [l] H new res [.one l (some (dobj k' rows'))]:=by
 have h:=OpOk.callGen (P:=P) (o:=o) (A:=A) (H:=H) (new:=new) (wr:=[.one l (some (dobj k' rows'))]) (fun _=>False) [l] (fun _=>l) [⟨0,[]⟩] (fun _ h=>h.elim) (fun l hl=>.mem (by first|(simp;done)|simpa using hl)) ho hfo hc (fun l'=>by
   by_cases e:l'=⟨0,[]⟩
   ·subst e;rw[upd_same];simp
   ·simp[upd_ne e,e]) (fun l1 h1 l2 h2 _=>by simp at h1 h2;rw[h1,h2]) (fun _ _ h=>h) (fun l' ob hob=>by
   by_cases e:l'=⟨0,[]⟩
   ·subst e;rw[upd_same] at hob;cases hob
    exact ⟨_,hl,ObA.data (H:=H) (lent:=fun _=>False) (τ:=fun _=>l) (L:=fun _=>True) |>.1,rfl,fun i r r' hr hr'=>⟨(ObA.data (H:=H) (lent:=fun _=>False) (τ:=fun _=>l) (L:=(·∈[(⟨0,[]⟩:Loc)]) )).2.2 i r r' hr hr' |>.1,(ObA.data (H:=H) (lent:=fun _=>False) (τ:=fun _=>l) (L:=(·∈[(⟨0,[]⟩:Loc)]) )).2.2 i r r' hr hr' |>.2⟩⟩
   ·rw[upd_ne e] at hob;cases hob) (.inl fun _ h=>h) (by simpa using hargs) (fun H1 h1 h2=>by
   have h3:H1 l=some (dobj k rows):=(h2 ⟨0,[]⟩ (by simp)).trans hl
   funext l'
   simp only[upds,W.app,merge,upd]
   by_cases e:l'=l
   ·subst e;simp[rnO_dobj]
   ·have e2:(l == l')=false:=by simpa using fun h=>e h.symm
    simp only[List.find?_cons,e2,List.find?_nil,e,if_false]
    split
    ·rename_i e3
     obtain ⟨id,sub⟩:=l'
     simp only at e3;subst e3
     cases sub with
     | nil=>simp[h1]
     | cons i s=>
      by_cases e4:(⟨i,s⟩:Loc)=⟨0,[]⟩
      ·simp[h1,e4]
      ·simp[h1,e4]
    ·rfl)
 rw[hres] at h
 simpa using h
end
end
section
open Go Go.RowKit
theorem DRel.more [Mode] {H:Heap}{lent lent':Loc→Prop} (hl:∀ l,lent l→lent' l) {x:D}{a:AV} (h:DRel H lent x a):DRel H lent' x a:=by
 induction h with
 | d x=>exact .d x
 | nil k=>exact .nil k
 | own k l off n ob rows h1 hm hk hn hr hll h ih=>exact .own k l off n ob rows h1 (hl _ hm) hk hn hr hll ih
theorem AR.more [Mode] {H:Heap}{lent lent':Loc→Prop}{τ:Loc→Loc}{L:Loc→Prop} (hl:∀ l,lent l→lent' l) {a a':AV} (h:AR H lent τ L a a'):AR H lent' τ L a a':=by
 induction h with
 | d h=>exact .d (h.more hl)
 | agg cs cs' hl h ih=>exact .agg cs cs' hl ih
 | tup cs cs' hl h ih=>exact .tup cs cs' hl ih
 | own k l off n h=>exact .own k l off n h
 | ptr k l i j h=>exact .ptr k l i j h
 | dptr cs=>exact .dptr cs
 | clo fn fs fs' cs cs' hl hl' h h' ih ih'=>exact .clo fn fs fs' cs cs' hl hl' ih ih'
 | dead a=>exact .dead a
theorem ARs.more [Mode] {H:Heap}{lent lent':Loc→Prop}{τ:Loc→Loc}{L:Loc→Prop} (hl:∀ l,lent l→lent' l) {a a':List AV} (h:ARs H lent τ L a a'):ARs H lent' τ L a a':=
 ⟨h.1,fun i c c' hc hc'=>(h.2 i c c' hc hc').more hl⟩
def CA (H:Heap) (lent:List Loc) (args vs:List AV):Prop:=ARs H (Cov lent) id (fun _=>False) args vs
section
variable {H : Heap} {lent lent' : List Loc} {cs cs' vs vs' : List AV}
theorem CA.nil [Mode]:CA H [] [] []:=ARs.nil
theorem CA.d [Mode] {x:D} (h:CA H lent cs vs):CA H lent (.d x :: cs) (.d x :: vs):=ARs.cons (AR.dd _) h
theorem CA.w [Mode] {k n:Nat}{l:Loc}{rows:List (List D)} (hl:H l=some (dobj k rows)) (hn:rows.length=n) (h:CA H lent cs vs):CA H (l :: lent) (.d (.sl k rows) :: cs) (.own k l 0 n :: vs):=
 ARs.cons (AR.whole hl (.mem (by simp)) hn) (ARs.more (fun _ h=>h.mono fun _ h=>List.mem_cons_of_mem _ h) h)
theorem CA.n [Mode] {k:Nat} (h:CA H lent cs vs):CA H lent (.d (.sl k []) :: cs) (.d (.v (.slice none 0 0)) :: vs):=ARs.cons (.d (.nil k)) h
theorem CA.a [Mode] (h':CA H lent' cs' vs') (h:CA H lent cs vs):CA H (lent'++lent) (.agg cs' :: cs) (.agg vs' :: vs):=
 ARs.cons (ARs.agg (ARs.more (fun _ h=>h.mono fun _ h=>List.mem_append_left _ h) h')) (ARs.more (fun _ h=>h.mono fun _ h=>List.mem_append_right _ h) h)
end
section
variable {P : Program} {o : Oper} {A : Operand → AV} {H : Heap} {new : Nat} {fo : Operand} {xs : List Operand} {ts : Array TypeId} {f : FuncId} {caps args : List AV} {res res' : AV} {lent : List Loc}
theorem Ok.c0 [Mode] (ho:o.op = .call { callee:=.value fo,args:=xs.toArray,argTypes:=ts }) [FnBody P f] (hfo:A fo = .clo (.func f) [] caps) (hc:AC P f args H0 res H0)
  (hargs:CA H lent args (xs.map A++caps)) (hfree:FreeF res) (hrn:∀ g,rn g res=res):OpOk P o A lent H new res []:=OpOk.call0 lent ho hfo hc (.inr hfree) hrn hargs
theorem Ok.c1 [Mode] {ob:AObj} (ho:o.op = .call { callee:=.value fo,args:=xs.toArray,argTypes:=ts }) [FnBody P f] (hfo:A fo = .clo (.func f) [] caps) (hc:AC P f args H0 res (upd H0 ⟨0,[]⟩ (some ob)))
  (hargs:CA H lent args (xs.map A++caps)) (hfree:FreeF res) (hf':∀ r∈ob.rows,∀ c∈r,FreeF c) (hrn:∀ g,rnO g ob=ob) (hr:rn (fun l=>⟨new,l.id :: l.sub⟩) res=res'):OpOk P o A lent H new res' [.one ⟨new,[0]⟩ (some ob)]:=
 OpOk.call1n lent ho hfo hc (.inr ⟨hfree,hf'⟩) hrn hargs hr
theorem Ok.c2 [Mode] {ob ob':AObj} (ho:o.op = .call { callee:=.value fo,args:=xs.toArray,argTypes:=ts }) [FnBody P f] (hfo:A fo = .clo (.func f) [] caps) (hc:AC P f args H0 res (hp2 ob ob'))
  (hargs:CA H lent args (xs.map A++caps)) (hfree:FreeF res) (hf:∀ r∈ob.rows,∀ c∈r,FreeF c) (hf':∀ r∈ob'.rows,∀ c∈r,FreeF c) (hrn:∀ g,rnO g ob=ob) (hrn':∀ g,rnO g ob'=ob') (hr:rn (fun l=>⟨new,l.id :: l.sub⟩) res=res'):OpOk P o A lent H new res' [.one ⟨new,[0]⟩ (some ob),.one ⟨new,[1]⟩ (some ob')]:=
 OpOk.call2n lent ho hfo hc (.inr ⟨hfree,hf,hf'⟩) hrn hrn' hargs hr
end
def D.isV:D→Bool
 | .v _=>true
 | .sl _ _=>false
theorem free_rowsG [Mode] {α:Type}{row:α→List D}{k:Nat}{xs:List α} (h:∀ x,(row x).all D.isV=true):∀ r∈(dobj k (xs.map row)).rows,∀ c∈r,FreeF c:=by
 intro r hr c hc
 simp only[dobj,List.map_map,List.mem_map,Function.comp_def] at hr
 obtain ⟨x,_,rfl⟩:=hr
 obtain ⟨y,hy,rfl⟩:=List.mem_map.1 hc
 have:=List.all_eq_true.1 (h x) y hy
 cases y with
 | v v=>exact FreeF.v v
 | sl k r=>cases this
def srcs:HL→List Loc→HL
 | p :: r,s :: q=>(p.1,s,p.2.2) :: srcs r q
 | _,_=>[]
theorem heapL_srcs [Mode]:∀ {hs:HL}{ss:List Loc},ss.length=hs.length→heapL (srcs hs ss)=heapL hs
 | [],[],_=>rfl
 | p :: r,s :: q,h=>by simp only[srcs,heapL];rw[heapL_srcs (by simpa using h)]
section
variable {P : Program} {o : Oper} {A : Operand → AV} {H : Heap} {new : Nat} {t t' : TypeId} {x y : Operand}
theorem run_beq [Mode] {w:World}{a b:Bool} (hu:P.underlying t=some .bool):(Op.equal t (.bool a) (.bool b)).run P w = .ok (a == b) w:=by
 show (Op.equalIn (9999+1) t (.bool a) (.bool b)).run P w=_
 rw[Op.equalIn]
 simp[run_underlying hu]
theorem Ok.beq [Mode] {a b:Bool} (ho:o.op = .binOp .eql t x y t') (hx:A x=Bo a) (hy:A y=Bo b) (hu:P.underlying t=some .bool):OpOk P o A [] H new (Bo (decide (a=b))) []:=OpOk.bin ho hx hy rfl fun w=>by
 simp[binOp,run_beq hu]
 cases a<;>cases b<;>rfl
theorem Ok.bne [Mode] {a b:Bool} (ho:o.op = .binOp .neq t x y t') (hx:A x=Bo a) (hy:A y=Bo b) (hu:P.underlying t=some .bool):OpOk P o A [] H new (Bo (decide (a≠b))) []:=OpOk.bin ho hx hy rfl fun w=>by
 simp[binOp,run_beq hu]
 cases a<;>cases b<;>rfl
theorem Ok.beqS [Mode] {a:Bool} (ho:o.op = .binOp .eql t x y t') (hx:A x=Bo a) (hy:A y=Bo a) (hu:P.underlying t=some .bool):OpOk P o A [] H new (Bo true) []:=by
 have:=Ok.beq (H:=H) (new:=new) ho hx hy hu
 simpa using this
theorem Ok.bneS [Mode] {a:Bool} (ho:o.op = .binOp .neq t x y t') (hx:A x=Bo a) (hy:A y=Bo a) (hu:P.underlying t=some .bool):OpOk P o A [] H new (Bo false) []:=by
 have:=Ok.bne (H:=H) (new:=new) ho hx hy hu
 simpa using this
end
end
section
open Go Go.RowKit
def Loc.at (l:Loc) (i:Nat):Loc:=⟨l.id,l.sub++[i]⟩
theorem Loc.at_inj [Mode] {l l':Loc}{i j:Nat} (h:l.at i=l'.at j):l=l'∧i=j:=by
 obtain ⟨a,s⟩:=l;obtain ⟨b,t⟩:=l'
 simp only[Loc.at,Loc.mk.injEq] at h
 obtain ⟨rfl,h⟩:=h
 have:=List.append_inj' h rfl
 obtain ⟨rfl,h2⟩:=this
 simp at h2
 exact ⟨rfl,h2⟩
theorem Loc.cov_at [Mode] (l:Loc) (i:Nat):l.cov (l.at i)=true:=by simp[Loc.cov,Loc.at]
theorem Loc.at_ne [Mode] (l:Loc) (i:Nat):l.at i≠l:=fun h=>by
 obtain ⟨a,s⟩:=l
 simp only[Loc.at,Loc.mk.injEq] at h
 have:=congrArg List.length h.2
 simp at this
abbrev nilS:AV:=.d (.v (.slice none 0 0))
structure MI where
 l:Loc
 k:Nat
 R:List (List (List D))
 nils:Nat:=0
 src:Loc
 base:Loc
 cut:Nat:=0
 ext:Option Loc:=none
def MI.row (m:MI) (i:Nat):Loc:=match m.ext with
 | none=>m.base.at i
 | some e=>if i=m.cut then e else m.base.at i
def outer (f:Nat→Loc) (k:Nat) (R:List (List (List D))) (nils:Nat):AObj:=⟨1,(R.mapIdx fun i r=>[AV.own k (f i) 0 r.length])++List.replicate nils [nilS]⟩
def matG (l:Loc) (k:Nat) (R:List (List (List D))) (nils:Nat) (l':Loc):Option AObj:=
 if l'=l then some (outer l.at k R nils) else match l'.sub.drop l.sub.length with
 | [i]=>(R[i]?).map (dobj k)
 | _=>none
theorem matG_l [Mode] {l:Loc}{k:Nat}{R:List (List (List D))}{nils:Nat}:matG l k R nils l=some (outer l.at k R nils):=by simp[matG]
theorem matG_at [Mode] {l:Loc}{k:Nat}{R:List (List (List D))}{nils i:Nat}:matG l k R nils (l.at i)=(R[i]?).map (dobj k):=by
 unfold matG
 rw[if_neg (l.at_ne i)]
 simp[Loc.at]
theorem matG_some [Mode] {l l':Loc}{k:Nat}{R:List (List (List D))}{nils:Nat}{ob:AObj} (hc:l.cov l'=true) (h:matG l k R nils l'=some ob):(l'=l∧ob=outer l.at k R nils)∨∃ i r,l'=l.at i∧R[i]? = some r∧ob=dobj k r:=by
 unfold matG at h
 split at h
 ·rename_i e;cases h;exact .inl ⟨e,rfl⟩
 ·obtain ⟨a,s⟩:=l;obtain ⟨b,t⟩:=l'
  simp only[Loc.cov,Bool.and_eq_true,beq_iff_eq,List.isPrefixOf_iff_prefix] at hc
  obtain ⟨rfl,u,rfl⟩:=hc
  simp only[List.drop_left] at h
  split at h
  ·rename_i i _
   simp only[Option.map_eq_some_iff] at h
   obtain ⟨r,hr,rfl⟩:=h
   exact .inr ⟨i,r,rfl,hr,rfl⟩
  ·cases h
def heapM:List MI→Heap
 | []=>H0
 | m :: r=>fun l'=>if m.l.cov l'=true then matG m.l m.k m.R m.nils l' else heapM r l'
def heapX:HL→List MI→Heap
 | [],ms=>heapM ms
 | p :: r,ms=>upd (heapX r ms) p.1 (some p.2.2)
def tauM:List MI→Loc→Loc
 | [],l=>l
 | m :: r,l=>if m.l.cov l=true then (match l.sub.drop m.l.sub.length with | [i]=>m.row i|_=>m.src) else tauM r l
def tauX:HL→List MI→Loc→Loc
 | [],ms,l=>tauM ms l
 | p :: r,ms,l=>if l=p.1 then p.2.1 else tauX r ms l
def MI.ok (m:MI) (H:Heap):Prop:=H m.src=some (outer m.row m.k m.R m.nils)∧∀ i r,m.R[i]? = some r→H (m.row i)=some (dobj m.k r)
def sepNm:List MI→Bool
 | []=>true
 | m :: r=>(r.all fun m'=>!m.l.cov m'.l&&!m'.l.cov m.l)&&sepNm r
def sepN:HL→List MI→Bool
 | [],ms=>sepNm ms
 | p :: r,ms=>(r.all fun q=>p.1 != q.1)&&(ms.all fun m=>!m.l.cov p.1&&p.1 != m.l)&&sepN r ms
def sep1 (m:MI):Bool:=match m.ext with
 | none=>m.src == m.base || !m.base.cov m.src
 | some e=>(m.src == m.base || !m.base.cov m.src)&&!m.base.cov e&&m.src != e
def sep2 (m m':MI):Bool:=m.src != m'.src&&m.base != m'.base&&!m.base.cov m'.src&&!m'.base.cov m.src &&
 (match m.ext with|none=>true|some e=>e != m'.src&&!m'.base.cov e&&(match m'.ext with|none=>true|some e'=>e != e'))&&(match m'.ext with|none=>true|some e'=>e' != m.src&&!m.base.cov e')
def sepSm:List MI→Bool
 | []=>true
 | m :: r=>sep1 m&&(r.all fun m'=>sep2 m m')&&sepSm r
def sepS:HL→List MI→Bool
 | [],ms=>sepSm ms
 | p :: r,ms=>(r.all fun q=>p.2.1 != q.2.1)&&(ms.all fun m=>p.2.1 != m.src&&!m.base.cov p.2.1&&(match m.ext with|none=>true|some e=>e != p.2.1))&&sepS r ms
inductive Dom (hs:HL) (ms:List MI):Loc→Prop
 | one (p:Loc × Loc × AObj) (h:p∈hs):Dom hs ms p.1
 | mat (m:MI) (h:m∈ms):Dom hs ms m.l
 | row (m:MI) (h:m∈ms) (i:Nat) (hi:i<m.R.length):Dom hs ms (m.l.at i)
theorem heapM_some [Mode]:∀ {ms:List MI}{l:Loc}{ob:AObj},heapM ms l=some ob→∃ m∈ms,m.l.cov l=true∧((l=m.l∧ob=outer m.l.at m.k m.R m.nils)∨∃ i r,l=m.l.at i∧m.R[i]? = some r∧ob=dobj m.k r)
 | [],l,ob,h=>by cases h
 | m :: r,l,ob,h=>by
  simp only[heapM] at h
  split at h
  ·rename_i hc;exact ⟨m,by simp,hc,matG_some hc h⟩
  ·obtain ⟨m',hm',h1,h2⟩:=heapM_some h
   exact ⟨m',by simp[hm'],h1,h2⟩
theorem heapX_some [Mode]:∀ {hs:HL}{ms:List MI}{l:Loc}{ob:AObj},heapX hs ms l=some ob→(∃ p∈hs,p.1=l∧p.2.2=ob)∨∃ m∈ms,m.l.cov l=true∧((l=m.l∧ob=outer m.l.at m.k m.R m.nils)∨∃ i r,l=m.l.at i∧m.R[i]? = some r∧ob=dobj m.k r)
 | [],ms,l,ob,h=>.inr (heapM_some h)
 | p :: r,ms,l,ob,h=>by
  simp only[heapX,upd] at h
  split at h
  ·rename_i e;cases h;exact .inl ⟨p,by simp,e.symm,rfl⟩
  ·rcases heapX_some h with ⟨q,hq,h1,h2⟩|h
   ·exact .inl ⟨q,by simp[hq],h1,h2⟩
   ·exact .inr h
theorem heapX_dom [Mode] {hs:HL}{ms:List MI}{l:Loc} (h:heapX hs ms l≠none):Dom hs ms l:=by
 cases h1:heapX hs ms l with
 | none=>exact absurd h1 h
 | some ob=>
  rcases heapX_some h1 with ⟨p,hp,rfl,_⟩|⟨m,hm,_,⟨rfl,_⟩|⟨i,r,rfl,hr,_⟩⟩
  ·exact .one p hp
  ·exact .mat m hm
  ·exact .row m hm i (List.getElem?_eq_some_iff.1 hr).1
theorem sepN_ms [Mode]:∀ {hs:HL}{ms:List MI},sepN hs ms=true→sepN [] ms=true∧(∀ p∈hs,∀ m∈ms,m.l.cov p.1=false∧p.1≠m.l)
 | [],ms,h=>⟨h,fun p hp=>by cases hp⟩
 | p :: r,ms,h=>by
  simp only[sepN,Bool.and_eq_true,List.all_eq_true] at h
  obtain ⟨⟨_,h2⟩,h3⟩:=h
  obtain ⟨h4,h5⟩:=sepN_ms h3
  refine ⟨h4,fun q hq m hm=>?_⟩
  rcases List.mem_cons.1 hq with rfl|hq
  ·have:=h2 m hm;simpa using this
  ·exact h5 q hq m hm
theorem cov_apart [Mode] {a b l:Loc} (h1:a.cov l=true) (h2:b.cov l=true):a.cov b=true∨b.cov a=true:=by
 obtain ⟨i,s⟩:=a;obtain ⟨j,t⟩:=b;obtain ⟨k,u⟩:=l
 simp only[Loc.cov,Bool.and_eq_true,beq_iff_eq,List.isPrefixOf_iff_prefix] at *
 obtain ⟨rfl,h1⟩:=h1
 obtain ⟨rfl,h2⟩:=h2
 rcases List.prefix_or_prefix_of_prefix h1 h2 with h|h
 ·exact .inl ⟨rfl,h⟩
 ·exact .inr ⟨rfl,h⟩
theorem tauM_of [Mode]:∀ {ms:List MI},sepN [] ms=true→∀ {m:MI},m∈ms→∀ {l:Loc},m.l.cov l=true→tauM ms l=(match l.sub.drop m.l.sub.length with | [i]=>m.row i|_=>m.src)
 | [],_,m,hm,_,_=>by cases hm
 | m0 :: r,h,m,hm,l,hc=>by
  simp only[sepN,sepNm,Bool.and_eq_true,List.all_eq_true] at h
  rcases List.mem_cons.1 hm with rfl|hm'
  ·simp only[tauM,hc,if_true]
  ·have hn:m0.l.cov l=false:=by
    cases e:m0.l.cov l with
    | false=>rfl
    | true=>
     exfalso
     have h1:=h.1 m hm'
     simp only[Bool.and_eq_true,Bool.not_eq_true'] at h1
     rcases cov_apart e hc with h2|h2
     ·rw[h2] at h1;cases h1.1
     ·rw[h2] at h1;cases h1.2
   simp only[tauM,hn]
   exact tauM_of h.2 hm' hc
theorem tauX_one [Mode]:∀ {hs:HL}{ms:List MI},sepN hs ms=true→∀ {p:Loc × Loc × AObj},p∈hs→tauX hs ms p.1=p.2.1
 | [],_,_,p,hp=>by cases hp
 | q :: r,ms,h,p,hp=>by
  simp only[sepN,Bool.and_eq_true,List.all_eq_true] at h
  rcases List.mem_cons.1 hp with rfl|hp'
  ·simp only[tauX,if_true]
  ·have:=h.1.1 p hp'
   simp only[bne_iff_ne] at this
   simp only[tauX,if_neg (Ne.symm this)]
   exact tauX_one h.2 hp'
theorem tauX_ms [Mode]:∀ {hs:HL}{ms:List MI}{l:Loc},(∀ p∈hs,l≠p.1)→tauX hs ms l=tauM ms l
 | [],_,_,_=>rfl
 | q :: r,ms,l,h=>by
  simp only[tauX,if_neg (h q (by simp))]
  exact tauX_ms fun p hp=>h p (by simp[hp])
theorem tauX_mat [Mode] {hs:HL}{ms:List MI} (h:sepN hs ms=true) {m:MI} (hm:m∈ms):tauX hs ms m.l=m.src:=by
 obtain ⟨h1,h2⟩:=sepN_ms h
 rw[tauX_ms (fun p hp e=>(h2 p hp m hm).2 e.symm),tauM_of h1 hm m.l.cov_self]
 simp
theorem tauX_row [Mode] {hs:HL}{ms:List MI} (h:sepN hs ms=true) {m:MI} (hm:m∈ms) {i:Nat}:tauX hs ms (m.l.at i)=m.row i:=by
 obtain ⟨h1,h2⟩:=sepN_ms h
 rw[tauX_ms (fun p hp e=>by have:=(h2 p hp m hm).1;rw[← e,m.l.cov_at] at this;cases this),tauM_of h1 hm (m.l.cov_at i)]
 simp[Loc.at]
theorem row_ne [Mode] {m:MI}{i:Nat}{l:Loc} (h:m.base.cov l=false) (h2:∀ e,m.ext=some e→e≠l):m.row i≠l:=by
 unfold MI.row
 cases he:m.ext with
 | none=>intro e;subst e;rw[m.base.cov_at] at h;cases h
 | some x=>
  simp only
  split
  ·exact h2 x he
  ·intro e;subst e;rw[m.base.cov_at] at h;cases h
theorem sepS_ms [Mode]:∀ {hs:HL}{ms:List MI},sepS hs ms=true→sepS [] ms=true∧(∀ p∈hs,∀ m∈ms,p.2.1≠m.src∧∀ i,m.row i≠p.2.1)
 | [],ms,h=>⟨h,fun p hp=>by cases hp⟩
 | p :: r,ms,h=>by
  simp only[sepS,Bool.and_eq_true,List.all_eq_true] at h
  obtain ⟨⟨_,h2⟩,h3⟩:=h
  obtain ⟨h4,h5⟩:=sepS_ms h3
  refine ⟨h4,fun q hq m hm=>?_⟩
  rcases List.mem_cons.1 hq with rfl|hq
  ·have:=h2 m hm
   simp only[Bool.and_eq_true,bne_iff_ne,Bool.not_eq_true'] at this
   refine ⟨this.1.1,fun i=>row_ne this.1.2 fun e he=>?_⟩
   have h6:=this.2
   rw[he] at h6
   simpa using h6
  ·exact h5 q hq m hm
theorem sepS_one [Mode]:∀ {hs:HL}{ms:List MI},sepS hs ms=true→∀ p∈hs,∀ q∈hs,p.2.1=q.2.1→p.1=q.1
 | [],_,_,p,hp,_,_,_=>by cases hp
 | x :: r,ms,h,p,hp,q,hq,e=>by
  simp only[sepS,Bool.and_eq_true,List.all_eq_true,bne_iff_ne] at h
  rcases List.mem_cons.1 hp with rfl|hp'
  ·rcases List.mem_cons.1 hq with rfl|hq'
   ·rfl
   ·exact absurd e (h.1.1 q hq')
  ·rcases List.mem_cons.1 hq with rfl|hq'
   ·exact absurd e.symm (h.1.1 p hp')
   ·exact sepS_one h.2 p hp' q hq' e
theorem sep1_row [Mode] {m:MI} (h:sep1 m=true) (i:Nat):m.row i≠m.src:=by
 unfold sep1 at h
 unfold MI.row
 have key:(m.src == m.base || !m.base.cov m.src)=true→m.base.at i≠m.src:=fun hk e=>by
  rcases Bool.or_eq_true _ _▸hk with h1|h1
  ·simp only[beq_iff_eq] at h1;rw[h1] at e;exact m.base.at_ne i e
  ·rw[← e,m.base.cov_at] at h1;cases h1
 cases he:m.ext with
 | none=>rw[he] at h;exact key h
 | some x=>
  rw[he] at h
  simp only[Bool.and_eq_true,bne_iff_ne] at h
  simp only
  split
  ·exact Ne.symm h.2
  ·exact key h.1.1
theorem sep1_inj [Mode] {m:MI} (h:sep1 m=true) {i j:Nat} (e:m.row i=m.row j):i=j:=by
 unfold sep1 at h
 unfold MI.row at e
 cases he:m.ext with
 | none=>rw[he] at e;exact (Loc.at_inj e).2
 | some x=>
  rw[he] at h e
  simp only[Bool.and_eq_true,Bool.not_eq_true'] at h
  have hcov:=h.1.2
  simp only at e
  split at e<;>split at e
  ·omega
  ·rw[e,m.base.cov_at] at hcov;cases hcov
  ·rw[← e,m.base.cov_at] at hcov;cases hcov
  ·exact (Loc.at_inj e).2
theorem sep2_row [Mode] {m m':MI} (h:sep2 m m'=true) (i j:Nat):m.row i≠m'.row j∧m.row i≠m'.src∧m'.row j≠m.src∧m.src≠m'.src:=by
 unfold sep2 at h
 simp only[Bool.and_eq_true,bne_iff_ne,Bool.not_eq_true'] at h
 obtain ⟨⟨⟨⟨⟨h1,h2⟩,h3⟩,h4⟩,h5⟩,h6⟩:=h
 have e5:∀ e,m.ext=some e→e≠m'.src∧m'.base.cov e=false∧∀ e',m'.ext=some e'→e≠e':=fun e he=>by
  rw[he] at h5
  simp only[Bool.and_eq_true,bne_iff_ne,Bool.not_eq_true'] at h5
  refine ⟨h5.1.1,h5.1.2,fun e' he'=>?_⟩
  have:=h5.2
  rw[he'] at this
  simpa using this
 have e6:∀ e,m'.ext=some e→e≠m.src∧m.base.cov e=false:=fun e he=>by
  rw[he] at h6
  simpa using h6
 refine ⟨?_,row_ne h3 fun e he=>(e5 e he).1,row_ne h4 fun e he=>(e6 e he).1,h1⟩
 unfold MI.row
 cases he:m.ext with
 | none=>
  simp only
  cases he':m'.ext with
  | none=>exact fun e=>h2 (Loc.at_inj e).1
  | some x'=>
   simp only
   split
   ·intro e;have:=(e6 x' he').2;rw[← e,m.base.cov_at] at this;cases this
   ·exact fun e=>h2 (Loc.at_inj e).1
 | some x=>
  simp only
  split
  ·have hx:=e5 x he
   cases he':m'.ext with
   | none=>intro e;have:=hx.2.1;rw[e,m'.base.cov_at] at this;cases this
   | some x'=>
    simp only
    split
    ·exact hx.2.2 x' he'
    ·intro e;have:=hx.2.1;rw[e,m'.base.cov_at] at this;cases this
  ·cases he':m'.ext with
   | none=>exact fun e=>h2 (Loc.at_inj e).1
   | some x'=>
    simp only
    split
    ·intro e;have:=(e6 x' he').2;rw[← e,m.base.cov_at] at this;cases this
    ·exact fun e=>h2 (Loc.at_inj e).1
theorem sepS_mm [Mode]:∀ {ms:List MI},sepS [] ms=true→(∀ m∈ms,sep1 m=true)∧∀ m∈ms,∀ m'∈ms,m=m'∨sep2 m m'=true∨sep2 m' m=true
 | [],_=>⟨fun m hm=>(by cases hm),fun m hm=>(by cases hm)⟩
 | x :: r,h=>by
  simp only[sepS,sepSm,Bool.and_eq_true,List.all_eq_true] at h
  obtain ⟨h1,h2⟩:=sepS_mm h.2
  refine ⟨fun m hm=>?_,fun m hm m' hm'=>?_⟩
  ·rcases List.mem_cons.1 hm with rfl|hm
   ·exact h.1.1
   ·exact h1 m hm
  ·rcases List.mem_cons.1 hm with e|hm2<;>rcases List.mem_cons.1 hm' with e'|hm2'
   ·exact .inl (e.trans e'.symm)
   ·subst e;exact .inr (.inl (h.1.2 m' hm2'))
   ·subst e';exact .inr (.inr (h.1.2 m hm2))
   ·exact h2 m hm2 m' hm2'
theorem tauX_inj [Mode] {hs:HL}{ms:List MI} (hN:sepN hs ms=true) (hS:sepS hs ms=true) {l l':Loc} (h:Dom hs ms l) (h':Dom hs ms l') (e:tauX hs ms l=tauX hs ms l'):l=l':=by
 obtain ⟨hS0,hps⟩:=sepS_ms hS
 obtain ⟨h1,h2⟩:=sepS_mm hS0
 cases h with
 | one p hp=>
  rw[tauX_one hN hp] at e
  cases h' with
  | one q hq=>rw[tauX_one hN hq] at e;exact sepS_one hS p hp q hq e
  | mat m hm=>rw[tauX_mat hN hm] at e;exact absurd e (hps p hp m hm).1
  | row m hm i hi=>rw[tauX_row hN hm] at e;exact absurd e.symm ((hps p hp m hm).2 i)
 | mat m hm=>
  rw[tauX_mat hN hm] at e
  cases h' with
  | one q hq=>rw[tauX_one hN hq] at e;exact absurd e.symm (hps q hq m hm).1
  | mat m' hm'=>
   rw[tauX_mat hN hm'] at e
   rcases h2 m hm m' hm' with rfl|h3|h3
   ·rfl
   ·exact absurd e (sep2_row h3 0 0).2.2.2
   ·exact absurd e.symm (sep2_row h3 0 0).2.2.2
  | row m' hm' i hi=>
   rw[tauX_row hN hm'] at e
   rcases h2 m hm m' hm' with rfl|h3|h3
   ·exact absurd e.symm (sep1_row (h1 m hm) i)
   ·exact absurd e.symm (sep2_row h3 0 i).2.2.1
   ·exact absurd e.symm (sep2_row h3 i 0).2.1
 | row m hm i hi=>
  rw[tauX_row hN hm] at e
  cases h' with
  | one q hq=>rw[tauX_one hN hq] at e;exact absurd e ((hps q hq m hm).2 i)
  | mat m' hm'=>
   rw[tauX_mat hN hm'] at e
   rcases h2 m hm m' hm' with rfl|h3|h3
   ·exact absurd e (sep1_row (h1 m hm) i)
   ·exact absurd e (sep2_row h3 i 0).2.1
   ·exact absurd e (sep2_row h3 0 i).2.2.1
  | row m' hm' j hj=>
   rw[tauX_row hN hm'] at e
   rcases h2 m hm m' hm' with rfl|h3|h3
   ·rw[sep1_inj (h1 m hm) e]
   ·exact absurd e (sep2_row h3 i j).1
   ·exact absurd e.symm (sep2_row h3 j i).1
theorem outer_get [Mode] {f:Nat→Loc}{k:Nat}{R:List (List (List D))}{nils i:Nat}{r:List AV} (h:(outer f k R nils).rows[i]? = some r):(∃ x,R[i]? = some x∧r=[.own k (f i) 0 x.length])∨r=[nilS]:=by
 simp only[outer] at h
 by_cases hi:i<R.length
 ·rw[List.getElem?_append_left (by simpa using hi)] at h
  simp only[List.getElem?_mapIdx,Option.map_eq_some_iff] at h
  obtain ⟨x,hx,rfl⟩:=h
  exact .inl ⟨x,hx,rfl⟩
 ·rw[List.getElem?_append_right (by simpa using hi)] at h
  exact .inr (List.eq_of_mem_replicate (List.mem_of_getElem? h))
theorem outer_len [Mode] {f:Nat→Loc}{k:Nat}{R:List (List (List D))}{nils:Nat}:(outer f k R nils).rows.length=R.length+nils:=by simp[outer]
theorem outer_lt [Mode] {f:Nat→Loc}{k:Nat}{R:List (List (List D))}{nils i:Nat}{x:List (List D)} (h:R[i]? = some x):(outer f k R nils).rows[i]? = some [.own k (f i) 0 x.length]:=by
 have hi:=(List.getElem?_eq_some_iff.1 h).1
 simp only[outer]
 rw[List.getElem?_append_left (by simpa using hi)]
 simp[h]
theorem heapX_row [Mode]:∀ {hs:HL}{ms:List MI},sepN hs ms=true→∀ {m:MI},m∈ms→∀ {i:Nat},heapX hs ms (m.l.at i)=(m.R[i]?).map (dobj m.k)
 | [],ms,h,m,hm,i=>by
  induction ms with
  | nil=>cases hm
  | cons m0 r ih=>
   simp only[sepN,sepNm,Bool.and_eq_true,List.all_eq_true] at h
   simp only[heapX,heapM]
   rcases List.mem_cons.1 hm with rfl|hm'
   ·rw[if_pos (m.l.cov_at i),matG_at]
   ·have hn:m0.l.cov (m.l.at i)=false:=by
     cases e:m0.l.cov (m.l.at i) with
     | false=>rfl
     | true=>
      exfalso
      have h1:=h.1 m hm'
      simp only[Bool.and_eq_true,Bool.not_eq_true'] at h1
      rcases cov_apart e (m.l.cov_at i) with h2|h2
      ·rw[h2] at h1;cases h1.1
      ·rw[h2] at h1;cases h1.2
    rw[if_neg (by rw[hn];decide)]
    exact ih h.2 hm'
 | p :: q,ms,h,m,hm,i=>by
  obtain ⟨h1,h2⟩:=sepN_ms h
  have h3:=(h2 p (by simp) m hm).1
  simp only[sepN,Bool.and_eq_true] at h
  simp only[heapX]
  rw[upd_ne (fun e=>by rw[← e,m.l.cov_at] at h3;cases h3)]
  exact heapX_row h.2 hm
end
section
open Go Go.RowKit
structure IsM (H:Heap) (l:Loc) (k:Nat) (R:List (List (List D))):Prop where
 o:H l=some (outer l.at k R 0)
 r:∀ i x,R[i]? = some x→H (l.at i)=some (dobj k x)
abbrev mRows (k:Nat) (R:List (List (List D))):List (List D):=R.map fun r=>[D.sl k r]
theorem IsM.dr [Mode] {H:Heap}{l:Loc}{k:Nat}{R:List (List (List D))}{lent:Loc→Prop} (hm:IsM H l k R) (hl:lent l) (hr:∀ i,lent (l.at i)):DRel H lent (.sl 1 (mRows k R)) (.own 1 l 0 R.length):=by
 have hget:∀ (i:Nat) r,(mRows k R)[i]? = some r→∃ x,R[i]? = some x∧r=[D.sl k x]:=fun i r h=>by
  simp only[mRows,List.getElem?_map,Option.map_eq_some_iff] at h
  obtain ⟨x,hx,rfl⟩:=h
  exact ⟨x,hx,rfl⟩
 refine .own 1 l 0 R.length _ _ hm.o hl rfl (by simp[outer_len]) (by simp[mRows]) (fun i r r' h1 h2=>?_) (fun i r r' h1 h2 j c c' h3 h4=>?_)
 ·obtain ⟨x,hx,rfl⟩:=hget i r h1
  rw[Nat.zero_add,outer_lt hx] at h2;cases h2
  rfl
 ·obtain ⟨x,hx,rfl⟩:=hget i r h1
  rw[Nat.zero_add,outer_lt hx] at h2;cases h2
  cases j with
  | succ j=>simp at h3
  | zero=>
   simp at h3 h4;subst h3;subst h4
   have:=DRel.dobj (off:=0) (n:=x.length) (hm.r i x hx) (hr i) (by omega)
   rwa [List.drop_zero,List.take_of_length_le (Nat.le_refl _)] at this
theorem CA.m [Mode] {H:Heap}{lent:List Loc}{cs vs:List AV}{l:Loc}{k n:Nat}{R:List (List (List D))} (hm:IsM H l k R) (hn:R.length=n) (h:CA H lent cs vs):CA H (l :: lent) (.d (.sl 1 (mRows k R)) :: cs) (.own 1 l 0 n :: vs):=by
 subst hn
 exact ARs.cons (.d (hm.dr (.mem (by simp)) (fun i=>⟨l,by simp,l.cov_at i⟩))) (ARs.more (fun _ h=>h.mono fun _ h=>List.mem_cons_of_mem _ h) h)
def relo (new:Nat) (l:Loc):Loc:=⟨new,l.id :: l.sub⟩
theorem relo_at [Mode] {new:Nat}{l:Loc}{i:Nat}:relo new (l.at i)=(relo new l).at i:=rfl
theorem relo_inj [Mode] {new:Nat}{l l':Loc}:relo new l=relo new l'↔l=l':=by
 constructor
 ·intro h
  obtain ⟨a,s⟩:=l;obtain ⟨b,t⟩:=l'
  simp only[relo,Loc.mk.injEq,List.cons.injEq,true_and] at h
  obtain ⟨rfl,rfl⟩:=h;rfl
 ·rintro rfl;rfl
theorem relo_cov [Mode] {new:Nat}{l l':Loc}:(relo new l).cov (relo new l')=l.cov l':=by
 simp[relo,Loc.cov,List.isPrefixOf]
def reHL (new:Nat) (hs:HL):HL:=hs.map fun p=>(relo new p.1,relo new p.1,p.2.2)
def reML (new:Nat) (ms:List MI):List MI:=ms.map fun m=>{ l:=relo new m.l,k:=m.k,R:=m.R,nils:=m.nils,src:=relo new m.l,base:=relo new m.l }
theorem rnO_outer [Mode] {g:Loc→Loc}{f f':Nat→Loc}{k nils:Nat}{R:List (List (List D))} (h:∀ i,i<R.length→g (f i)=f' i):rnO g (outer f k R nils)=outer f' k R nils:=by
 simp only[rnO,outer,AObj.mk.injEq,true_and,List.map_append]
 congr 1
 ·apply List.ext_getElem?
  intro i
  simp only[List.getElem?_map,List.getElem?_mapIdx]
  cases hx:R[i]? with
  | none=>rfl
  | some x=>simp[rn,h i (List.getElem?_eq_some_iff.1 hx).1]
 ·simp[rn]
theorem matG_relo [Mode] {new:Nat}{l l':Loc}{k nils:Nat}{R:List (List (List D))}:matG (relo new l) k R nils (relo new l')=(matG l k R nils l').map (rnO (relo new)):=by
 unfold matG
 by_cases e:l'=l
 ·subst e;simp only[if_true,Option.map_some];rw[rnO_outer (f':=(relo new l').at) (fun i _=>relo_at)]
 ·rw[if_neg (fun h=>e (relo_inj.1 h)),if_neg e]
  have:(relo new l').sub.drop (relo new l).sub.length=l'.sub.drop l.sub.length:=by simp[relo]
  rw[this]
  split
  ·simp only[Option.map_map,Function.comp_def,rnO_dobj]
  ·rfl
theorem heapM_relo [Mode] {new:Nat}{l:Loc}:∀ {ms:List MI},heapM (reML new ms) (relo new l)=(heapM ms l).map (rnO (relo new))
 | []=>rfl
 | m :: r=>by
  simp only[reML,List.map_cons,heapM,relo_cov]
  split
  ·exact matG_relo
  ·exact heapM_relo
theorem heapX_relo [Mode] {new:Nat}{l:Loc}{ms:List MI}:∀ {hs:HL},(∀ p∈hs,∀ g,rnO g p.2.2=p.2.2)→heapX (reHL new hs) (reML new ms) (relo new l)=(heapX hs ms l).map (rnO (relo new))
 | [],_=>heapM_relo
 | p :: r,h=>by
  simp only[reHL,List.map_cons,heapX,upd,relo_inj]
  split
  ·simp[h p (by simp)]
  ·exact heapX_relo fun q hq=>h q (by simp[hq])
theorem heapX_nosub [Mode] {new:Nat}{hs:HL}{ms:List MI}:heapX (reHL new hs) (reML new ms) ⟨new,[]⟩=none:=by
 cases h:heapX (reHL new hs) (reML new ms) ⟨new,[]⟩ with
 | none=>rfl
 | some ob=>
  exfalso
  rcases heapX_some h with ⟨p,hp,e,_⟩|⟨m,hm,hc,_⟩
  ·obtain ⟨q,_,rfl⟩:=List.mem_map.1 hp
   simp[relo] at e
  ·obtain ⟨q,_,rfl⟩:=List.mem_map.1 hm
   simp[relo,Loc.cov,List.isPrefixOf] at hc
section
variable {P : Program} {o : Oper} {A : Operand → AV} {H : Heap} {new : Nat} {fo : Operand} {xs : List Operand} {ts : Array TypeId} {f : FuncId} {caps args : List AV} {res res' : AV} {lent : List Loc}
def plainR (R:List (List (List D))):Prop:=∀ x∈R,∀ r∈x,∀ c∈r,∃ v,c=D.v v
theorem OpOk.callX [Mode] (hs:HL) (ms:List MI) (ho:o.op = .call { callee:=.value fo,args:=xs.toArray,argTypes:=ts }) [FnBody P f] (hfo:A fo = .clo (.func f) [] caps) (hc:AC P f args H0 res (heapX hs ms))
  (hargs:CA H lent args (xs.map A++caps)) (hfree:FreeF res) (hf1:AllP (fun p=>(∀ r∈p.2.2.rows,∀ c∈r,FreeF c)∧∀ g,rnO g p.2.2=p.2.2) hs) (hf2:AllP (fun m=>plainR m.R) ms) (hr:rn (relo new) res=res'):OpOk P o A lent H new res' [.all new fun sub=>heapX (reHL new hs) (reML new ms) ⟨new,sub⟩]:=by
 subst hr
 have h:=OpOk.callGen (P:=P) (o:=o) (A:=A) (H:=H) (new:=new) (wr:=[.all new fun sub=>heapX (reHL new hs) (reML new ms) ⟨new,sub⟩]) (Cov lent) lent id [] (fun _ h=>h) (fun l hl=>by simp at hl) ho hfo hc (fun l=>by simp) (fun l hl=>by simp at hl) (fun l hl=>by simp at hl) (fun l ob hob=>by cases hob)
  (.inr ⟨hfree,fun l ob hob r hr c hcc=>by
   rcases heapX_some hob with ⟨p,hp,rfl,rfl⟩|⟨m,hm,_,⟨rfl,rfl⟩|⟨i,x,rfl,hx,rfl⟩⟩
   ·exact (hf1.all p hp).1 r hr c hcc
   ·obtain ⟨i,hi⟩:=List.getElem?_of_mem hr
    rcases outer_get hi with ⟨x,_,rfl⟩|rfl
    ·simp at hcc;subst hcc;exact FreeF.own _ _ _ _
    ·simp at hcc;subst hcc;exact FreeF.v _
   ·simp only[dobj,List.mem_map] at hr
    obtain ⟨r',hr',rfl⟩:=hr
    obtain ⟨d,hd,rfl⟩:=List.mem_map.1 hcc
    obtain ⟨v,rfl⟩:=hf2.all m hm x (List.mem_of_getElem? hx) r' hr' d hd
    exact FreeF.v v⟩) (by simpa [CA] using hargs) (fun H1 h1 _=>by
   rw[merge_nil]
   funext l
   obtain ⟨id,sub⟩:=l
   simp only[upds,W.app]
   by_cases e:id=new
   ·subst e
    simp only[if_true]
    cases sub with
    | nil=>exact heapX_nosub
    | cons i s=>
     have h3:=heapX_relo (new:=id) (l:=⟨i,s⟩) (ms:=ms) (hs:=hs) (fun p hp=>(hf1.all p hp).2)
     have e3:emb _root_.id [] id=relo id:=by funext l;simp[emb,relo]
     simp only
     rw[e3]
     exact h3
   ·simp[e])
 have e:emb id [] new=relo new:=by funext l;simp[emb,relo]
 rw[e] at h
 exact h
abbrev mi0 (k:Nat) (R:List (List (List D))):MI:={ l:=⟨0,[]⟩,k:=k,R:=R,src:=⟨0,[]⟩,base:=⟨0,[]⟩ }
abbrev hpM (k:Nat) (R:List (List (List D))):Heap:=heapX [] [mi0 k R]
theorem hpM_l [Mode] {k:Nat}{R:List (List (List D))}:hpM k R ⟨0,[]⟩=some (outer (Loc.at ⟨0,[]⟩) k R 0):=rfl
theorem hpM_at [Mode] {k:Nat}{R:List (List (List D))}{i:Nat}:hpM k R (Loc.at ⟨0,[]⟩ i)=(R[i]?).map (dobj k):=heapX_row (hs:=[]) (ms:=[mi0 k R]) rfl (m:=mi0 k R) (by simp)
end
end
section
open Go Go.RowKit
inductive DataAV:AV→Prop
 | d (x:D):DataAV (.d x)
 | agg (cs:List AV) (h:∀ c∈cs,DataAV c):DataAV (.agg cs)
 | tup (cs:List AV) (h:∀ c∈cs,DataAV c):DataAV (.tup cs)
theorem DataAV.vr [Mode] {a:AV} (h:DataAV a) {ι ι':Iota}{F:Nat→Prop}{w:World}:∀ {v:Value},VR ι F w a v→VR ι' F w a v:=by
 induction h with
 | d x=>intro v hv;cases hv with|d h=>exact .d h
 | agg cs h ih=>
  intro v hv
  obtain ⟨vs,rfl,hvs⟩:=hv.agg_inv
  exact .agg cs vs hvs.1 fun i c v hc hv=>ih c (List.mem_of_getElem? hc) (hvs.2 i c v hc hv)
 | tup cs h ih=>
  intro v hv
  obtain ⟨vs,rfl,hvs⟩:=hv.tup_inv
  exact .tup cs vs hvs.1 fun i c v hc hv=>ih c (List.mem_of_getElem? hc) (hvs.2 i c v hc hv)
def dataB:AV→Bool
 | .d _=>true
 | .agg cs=>dataBs cs
 | .tup cs=>dataBs cs
 | _=>false
where dataBs:List AV→Bool
 | []=>true
 | c :: r=>dataB c&&dataBs r
mutual
theorem dataB_ok [Mode]:∀ {a:AV},dataB a=true→DataAV a
 | .d x,_=>.d x
 | .agg cs,h=>.agg cs (dataBs_ok (by simpa [dataB] using h))
 | .tup cs,h=>.tup cs (dataBs_ok (by simpa [dataB] using h))
 | .own ..,h=>by simp[dataB] at h
 | .ownc ..,h=>by simp[dataB] at h
 | .ptr ..,h=>by simp[dataB] at h
 | .dptr ..,h=>by simp[dataB] at h
 | .clo ..,h=>by simp[dataB] at h
 | .dead,h=>by simp[dataB] at h
theorem dataBs_ok [Mode]:∀ {cs:List AV},dataB.dataBs cs=true→∀ c∈cs,DataAV c
 | [],_,c,hc=>by cases hc
 | a :: r,h,c,hc=>by
  simp only[dataB.dataBs,Bool.and_eq_true] at h
  rcases List.mem_cons.1 hc with e|hc
  ·rw[e];exact dataB_ok h.1
  ·exact dataBs_ok h.2 c hc
end
def dropW (l:Loc):W:=.un l fun _=>some none
theorem upds_drop [Mode] {l:Loc}:∀ {ls:List Loc}{H:Heap},(Cov ls l→upds H (ls.map dropW) l=none)∧(¬ Cov ls l→upds H (ls.map dropW) l=H l)
 | [],H=>⟨fun h=>absurd h Cov.nil,fun _=>rfl⟩
 | r :: ls,H=>by
  have ih:=upds_drop (l:=l) (ls:=ls) (H:=(dropW r).app H)
  simp only[List.map_cons,upds]
  by_cases hc:r.cov l=true
  ·have happ:(dropW r).app H l=none:=by simp[dropW,W.app,hc]
   refine ⟨fun _=>?_,fun h=>absurd ⟨r,by simp,hc⟩ h⟩
   by_cases h2:Cov ls l
   ·exact ih.1 h2
   ·rw[ih.2 h2,happ]
  ·have happ:(dropW r).app H l=H l:=by simp[dropW,W.app,hc]
   refine ⟨fun ⟨r',hr',hc'⟩=>?_,fun h=>?_⟩
   ·rcases List.mem_cons.1 hr' with rfl|hr'
    ·exact absurd hc' hc
    ·exact ih.1 ⟨r',hr',hc'⟩
   ·rw[ih.2 (fun ⟨r',hr',hc'⟩=>h ⟨r',by simp[hr'],hc'⟩),happ]
theorem Sim.freeze [Mode] {ι:Iota}{F:Nat→Prop}{H1:Heap}{w:World} (hs:Sim ι F H1 w) (ls:List Loc):Sim ι (fun b=>F b∨∃ l,Cov ls l∧Owned ι H1 l b) (upds H1 (ls.map dropW)) w:=by
 have hsome:∀ {l},upds H1 (ls.map dropW) l≠none→¬ Cov ls l∧H1 l≠none:=fun {l} h=>by
  by_cases hc:Cov ls l
  ·exact absurd (upds_drop.1 hc) h
  ·exact ⟨hc,by rwa [upds_drop.2 hc] at h⟩
 refine ⟨fun l o h=>?_,fun l l' b s s' h h'=>hs.inj l l' b s s' (hsome h).2 (hsome h').2,fun l b s h e hF=>?_,fun b hb=>?_,hs.gl.mono (fun _ h=>.inl h) (fun _ _=>rfl)⟩
 ·have h1:=(hsome (l:=l) (by rw[h];simp)).1
  rw[upds_drop.2 h1] at h
  exact (hs.obj l o h).mono (ext_rfl _) (fun _ h=>.inl h) (fun _ _=>rfl) (fun _ _ _=>rfl)
 ·rcases hF with hF|⟨l2,hc,h2,s2,e2⟩
  ·exact hs.notF l b s (hsome h).2 e hF
  ·have:=hs.inj l l2 b s s2 (hsome h).2 h2 e e2
   subst this
   exact (hsome h).1 hc
 ·rcases hb with hb|⟨l2,hc,h2,s2,e2⟩
  ·exact hs.lt b hb
  ·exact hs.blt h2 e2
section
variable {P : Program} {o : Oper} {A : Operand → AV} {H : Heap} {new : Nat} {fo : Operand} {xs : List Operand} {ts : Array TypeId} {f : FuncId} {caps args : List AV} {res : AV} {ls : List Loc}
theorem OpOk.callZ [Mode] (ho:o.op = .call { callee:=.value fo,args:=xs.toArray,argTypes:=ts }) [FnBody P f] (hfo:A fo = .clo (.func f) [] caps) (hc:AC P f args H0 res H0)
  (hargs:CA H ls args (xs.map A++caps)) (hd:DataAV res):OpOk P o A ls H new res (ls.map dropW):=by
 intro ι F w H1 ρ hH hn hs hv
 have hvf:=hv fo (by simp[ho,Op.operands,Call.operands])
 rw[hfo] at hvf
 generalize hq:ρ fo=q at hvf
 cases hvf with
 | clo _ _ _ fv cv h1 h2 h3 h4=>
  have hfv:fv=[]:=List.length_eq_zero_iff.1 h1
  subst hfv
  rw[run_call (P:=P) (cap:=cv) ho hq]
  have hvs:VRs ι F w (xs.map A++caps) (xs.map ρ++cv):=by
   refine VRs.append ⟨by simp,fun i c v hc hv'=>?_⟩ ⟨h2,h4⟩
   simp only[List.getElem?_map,Option.map_eq_some_iff] at hc hv'
   obtain ⟨x,hx,rfl⟩:=hc
   obtain ⟨x',hx',rfl⟩:=hv'
   rw[hx] at hx';cases hx'
   exact hv x (by simp only[ho,Op.operands,Call.operands];simp;exact .inr (List.mem_of_getElem? hx))
  let F2:Nat→Prop:=fun b=>F b∨∃ l,Cov ls l∧Owned ι H1 l b
  have hs2:=hs.freeze ls
  have hvc:VRs (fun _=>none) F2 w args (xs.map ρ++cv):=⟨by rw[hvs.1,hargs.1],fun i c v hcc hvv=>by
   have hi:=(List.getElem?_eq_some_iff.1 hcc).1
   have hc':=List.getElem?_eq_getElem (l:=xs.map A++caps) (i:=i) (by have:=hargs.1;omega)
   exact ((hargs.2 i c _ hcc hc').congr hH).vr hs (fun l hl=>hl.elim) (hvs.2 i _ v hc' hvv)⟩
  show Calls P f _ w _
  refine (hc (fun _=>none) F2 w _ ⟨fun l o h=>(by cases h),fun l l' b s s' h=>absurd rfl h,fun l b s h=>absurd rfl h,hs2.lt,hs2.gl⟩ (fun _ _=>rfl) hvc).mono ?_
  rintro e w' ⟨v,ι',F',rfl,hres,hs',hstep,hsub,hsup,hown,hkeep⟩
  have hstep':Step (fun _=>False) w w':=hstep.mono fun b ⟨l,h,_⟩=>absurd rfl h
  have hblk:∀ b,b<w.heap.size→w'.heap[b]? = w.heap[b]?:=fun b hb=>hstep'.block b hb id
  refine ⟨v,rfl,ι,F',hd.vr hres,⟨fun l o h=>?_,hs2.inj,fun l b s h e hF=>?_,hs'.lt,hs'.gl⟩,ext_rfl _,fun l h=>.inl h,fun b hb=>hsub b (.inl hb),fun b hb=>?_,hstep'.mono fun _ h=>h.elim,fun l b s h e=>?_⟩
  ·exact (hs2.obj l o h).mono (ext_rfl _) hsub (fun b hb=>hblk b (hs2.lt b hb)) (fun b s e=>hblk b (hs2.blt (by rw[h];simp) e))
  ·rcases hsup b hF with h2|⟨l2,h2,_⟩|h2
   ·exact hs2.notF l b s h e h2
   ·exact absurd rfl h2
   ·have:=hs2.blt h e;omega
  ·rcases hsup b hb with (h2|h2)|⟨l2,h2,_⟩|h2
   ·exact .inl h2
   ·exact .inr (.inl h2)
   ·exact absurd rfl h2
   ·exact .inr (.inr h2)
  ·by_cases hcv:Cov ls l
   ·exact absurd (upds_drop.1 hcv) h
   ·rw[upds_drop.2 hcv] at h;exact .inl ⟨l,h,s,e⟩
end
theorem Le.headF [Mode] {C:Ctx}{fr:List AV}{H:Heap}{n:Nat} (hs:HL) (ms:List MI) {fr':List AV}{n':Nat} (lent:Loc→Prop) (hD:∀ l,C.D0 l→l.id<n'∧tauX hs ms l=l)
  (hob:AllP (fun p=>∃ ob',H p.2.1=some ob'∧ObA H lent (tauX hs ms) (fun l=>heapX hs ms l≠none) p.2.2 ob') hs)
  (hok:AllP (fun m=>m.ok H) ms) (hfr:ARs H lent (tauX hs ms) (fun l=>heapX hs ms l≠none) fr' fr)
  (hl1:AllP (fun p=>¬ lent p.2.1) hs) (hl2:AllP (fun m=>¬ lent m.src∧∀ i,¬ lent (m.row i)) ms)
  (hN:sepN hs ms=true) (hS:sepS hs ms=true) (hn:AllP (fun p=>p.1.id<n') hs) (hnm:AllP (fun m=>m.l.id<n') ms):Le C ⟨fr,H,n⟩ ⟨fr',heapX hs ms,n'⟩:=by
 refine Le.tell lent (tauX hs ms) hfr (fun l ob h=>?_) (fun l l' h h' e=>tauX_inj hN hS (heapX_dom h) (heapX_dom h') e) (fun l h=>?_) (fun l h=>?_) hD
 ·rcases heapX_some h with ⟨p,hp,rfl,rfl⟩|⟨m,hm,_,⟨rfl,rfl⟩|⟨i,r,rfl,hr,rfl⟩⟩
  ·rw[tauX_one hN hp];exact hob.all p hp
  ·rw[tauX_mat hN hm]
   obtain ⟨h1,h2⟩:=hok.all m hm
   refine ⟨_,h1,rfl,by simp[outer_len],fun i r r' hr hr'=>?_⟩
   rcases outer_get hr with ⟨x,hx,rfl⟩|rfl<;>rcases outer_get hr' with ⟨x',hx',rfl⟩|rfl
   ·rw[hx] at hx';cases hx'
    refine ⟨rfl,fun j c c' hc hc'=>?_⟩
    cases j with
    | zero=>
     simp at hc hc';subst hc;subst hc'
     have:=AR.own (H:=H) (lent:=lent) (τ:=tauX hs ms) (L:=fun l=>heapX hs ms l≠none) m.k (m.l.at i) 0 x.length (by rw[heapX_row hN hm,hx];simp)
     rwa [tauX_row hN hm] at this
    | succ j=>simp at hc
   ·rw[outer_lt hx] at hr';cases hr'
   ·rw[outer_lt hx'] at hr;cases hr
   ·refine ⟨rfl,fun j c c' hc hc'=>?_⟩
    rw[hc] at hc';cases hc'
    have:c=nilS:=by
     cases j with
     | zero=>simp at hc;exact hc.symm
     | succ j=>simp at hc
    subst this;exact AR.dd _
  ·rw[tauX_row hN hm]
   obtain ⟨h1,h2⟩:=hok.all m hm
   exact ⟨_,h2 i r hr,ObA.data⟩
 ·cases heapX_dom h with
  | one p hp=>rw[tauX_one hN hp];exact hl1.all p hp
  | mat m hm=>rw[tauX_mat hN hm];exact (hl2.all m hm).1
  | row m hm i hi=>rw[tauX_row hN hm];exact (hl2.all m hm).2 i
 ·cases heapX_dom h with
  | one p hp=>exact hn.all p hp
  | mat m hm=>exact hnm.all m hm
  | row m hm i hi=>exact hnm.all m hm
theorem Le.headZ [Mode] {C:Ctx}{fr:List AV}{H:Heap}{n:Nat}{hs:HL} (ss:List Loc) {fr':List AV}{n':Nat} (hlen:ss.length=hs.length) (hD:∀ l,C.D0 l→l.id<n'∧tauL (srcs hs ss) l=l)
  (hfr:ARs H (fun l=>l∉ss) (tauL (srcs hs ss)) (fun l=>heapL (srcs hs ss) l≠none) fr' fr)
  (hob:AllP (fun p=>∃ ob',H p.2.1=some ob'∧ObA H (fun l=>l∉ss) (tauL (srcs hs ss)) (fun l=>heapL (srcs hs ss) l≠none) p.2.2 ob') (srcs hs ss))
  (hn1:((srcs hs ss).map (·.1)).Nodup) (hn2:ss.Nodup) (hn:AllP (fun p=>p.1.id<n') (srcs hs ss)):Le C ⟨fr,H,n⟩ ⟨fr',heapL hs,n'⟩:=by
 have hss:∀ {hs:HL}{ss:List Loc},ss.length=hs.length→(srcs hs ss).map (·.2.1)=ss:=by
  intro hs
  induction hs with
  | nil=>intro ss h;cases ss with|nil=>rfl|cons=>simp at h
  | cons p r ih=>intro ss h;cases ss with|nil=>simp at h|cons s q=>simp[srcs,ih (by simpa using h)]
 have hmem:∀ p∈srcs hs ss,¬ p.2.1∉ss:=fun p hp h=>h (by rw[← hss hlen];exact List.mem_map_of_mem hp)
 have:=Le.tellL (C:=C) (s:=⟨fr,H,n⟩) (fun l=>l∉ss) (srcs hs ss) fr' n' hfr hob.all hn1 (by rw[hss hlen];exact hn2) hmem hn.all hD
 rwa [heapL_srcs hlen] at this
theorem AR.b [Mode] {H:Heap}{lent:Loc→Prop}{τ:Loc→Loc}{L:Loc→Prop}{a b:Bool} (h:a=b):AR H lent τ L (Bo a) (Bo b):=h▸AR.dd _
theorem AR.iE [Mode] {H:Heap}{lent:Loc→Prop}{τ:Loc→Loc}{L:Loc→Prop}{a b:Int} (h:a=b):AR H lent τ L (I a) (I b):=h▸AR.dd _
end
section
open Go Go.RowKit
theorem outer_congr [Mode] {f g:Nat→Loc}{k nils:Nat}{R:List (List (List D))} (h:∀ i,i<R.length→f i=g i):outer f k R nils=outer g k R nils:=by
 simp only[outer,AObj.mk.injEq,true_and]
 congr 1
 apply List.ext_getElem?
 intro i
 simp only[List.getElem?_mapIdx]
 cases hx:R[i]? with
 | none=>rfl
 | some x=>simp[h i (List.getElem?_eq_some_iff.1 hx).1]
theorem outer_snoc [Mode] {f:Nat→Loc}{k:Nat}{R:List (List (List D))}{r:List (List D)}{e:Loc}:(⟨1,(outer f k R 0).rows++[[.own k e 0 r.length]]⟩:AObj)=outer (fun i=>if i<R.length then f i else e) k (R++[r]) 0:=by
 simp only[outer,AObj.mk.injEq,true_and,List.replicate_zero,List.append_nil]
 apply List.ext_getElem?
 intro i
 simp only[List.getElem?_mapIdx]
 by_cases hi:i<R.length
 ·rw[List.getElem?_append_left (by simpa using hi),List.getElem?_append_left hi]
  simp[hi]
 ·rw[List.getElem?_append_right (by simpa using hi),List.getElem?_append_right (by omega)]
  by_cases h0:i=R.length
  ·subst h0;simp
  ·rw[List.getElem?_eq_none (by simp;omega),List.getElem?_eq_none (by simp;omega)];rfl
theorem outer_fill [Mode] {f:Nat→Loc}{k nils:Nat}{R:List (List (List D))}{r:List (List D)}{e:Loc}:(⟨1,(outer f k R (nils+1)).rows.set R.length [.own k e 0 r.length]⟩:AObj)=outer (fun i=>if i<R.length then f i else e) k (R++[r]) nils:=by
 simp only[outer,AObj.mk.injEq,true_and]
 apply List.ext_getElem?
 intro i
 rw[List.getElem?_set]
 by_cases h0:R.length=i
 ·subst h0
  simp[List.getElem?_append_left,List.getElem?_mapIdx]
 ·rw[if_neg h0]
  by_cases hi:i<R.length
  ·have hm:i<(List.mapIdx (fun i r=>[AV.own k (if i<R.length then f i else e) 0 r.length]) (R++[r])).length:=by simp;omega
   rw[List.getElem?_append_left (by simpa using hi),List.getElem?_append_left hm]
   simp only[List.getElem?_mapIdx,List.getElem?_append_left hi,hi,if_true]
  ·rw[List.getElem?_append_right (by simpa using hi),List.getElem?_append_right (by simp;omega)]
   simp only[List.getElem?_replicate,List.length_mapIdx,List.length_append,List.length_cons,List.length_nil]
   by_cases h2:i - R.length<nils+1
   ·rw[if_pos h2,if_pos (by omega)]
   ·rw[if_neg h2,if_neg (by omega)]
theorem cut_last [Mode] {i m:Nat}{a b:Loc} (h:i<m+1):(if i<m then a else b)=(if i=m then b else a):=by
 by_cases h1:i=m
 ·rw[if_pos h1,if_neg (by omega)]
 ·rw[if_neg h1,if_pos (by omega)]
theorem MI.ok_same [Mode] {H:Heap}{l src:Loc}{k nils:Nat}{R:List (List (List D))} (ho:H src=some (outer src.at k R nils)) (hr:∀ i x,R[i]? = some x→H (src.at i)=some (dobj k x)):MI.ok { l:=l,k:=k,R:=R,nils:=nils,src:=src,base:=src } H:=⟨ho,hr⟩
theorem MI.ok_snoc [Mode] {H:Heap}{l src base e:Loc}{k nils cut:Nat}{R R':List (List (List D))}{r:List (List D)} (hR:R'=R++[r]) (hcut:R.length=cut) (ho:H src=some (outer (fun i=>if i=R.length then e else base.at i) k (R++[r]) nils)) (hr:∀ i x,R[i]? = some x→H (base.at i)=some (dobj k x)) (he:H e=some (dobj k r)) :
  MI.ok { l:=l,k:=k,R:=R',nils:=nils,src:=src,base:=base,cut:=cut,ext:=some e } H:=by
 subst hR;subst hcut
 refine ⟨ho,fun i x hx=>?_⟩
 simp only[MI.row]
 by_cases hi:i<R.length
 ·simp only[if_neg (show ¬ i=R.length by omega)]
  rw[List.getElem?_append_left hi] at hx
  exact hr i x hx
 ·have hi':i=R.length:=by
   have:=(List.getElem?_eq_some_iff.1 hx).1
   simp at this;omega
  simp only[if_pos hi']
  rw[List.getElem?_append_right (by omega)] at hx
  have h0:i - R.length=0:=by
   have:=(List.getElem?_eq_some_iff.1 hx).1
   simp at this;omega
  rw[h0] at hx
  simp at hx;subst hx
  exact he
theorem MI.ok_app [Mode] {H:Heap}{l src base e:Loc}{k cut nlen:Nat}{R R':List (List (List D))}{r:List (List D)} (hR:R'=R++[r]) (hcut:R.length=cut) (hlen:r.length=nlen) (ho:H src=some ⟨1,(outer base.at k R 0).rows++[[.own k e 0 nlen]]⟩) (hr:∀ i x,R[i]? = some x→H (base.at i)=some (dobj k x)) (he:H e=some (dobj k r)) :
  MI.ok { l:=l,k:=k,R:=R',src:=src,base:=base,cut:=cut,ext:=some e } H:=by
 subst hlen
 exact MI.ok_snoc hR hcut (ho.trans (congrArg some (outer_snoc.trans (outer_congr fun i hi=>cut_last (by simpa using hi))))) hr he
theorem MI.ok_fill [Mode] {H:Heap}{l src e:Loc}{k cut nils nlen:Nat}{R R':List (List (List D))}{r:List (List D)} (hR:R'=R++[r]) (hcut:R.length=cut) (hlen:r.length=nlen) (ho:H src=some ⟨1,(outer src.at k R (nils+1)).rows.set cut [.own k e 0 nlen]⟩) (hr:∀ i x,R[i]? = some x→H (src.at i)=some (dobj k x)) (he:H e=some (dobj k r)) :
  MI.ok { l:=l,k:=k,R:=R',nils:=nils,src:=src,base:=src,cut:=cut,ext:=some e } H:=by
 subst hlen;subst hcut
 exact MI.ok_snoc hR rfl (ho.trans (congrArg some (outer_fill.trans (outer_congr fun i hi=>cut_last (by simpa using hi))))) hr he
theorem MI.ok_set [Mode] {H H':Heap}{l src:Loc}{k nils i:Nat}{R R':List (List (List D))}{r:List (List D)} (hR:R'=R.set i r) (hlen:∀ x,R[i]? = some x→x.length=r.length) (ho:H src=some (outer src.at k R nils)) (hr:∀ j x,R[j]? = some x→j≠i→H (src.at j)=some (dobj k x)) (hi:i<R.length→H (src.at i)=some (dobj k r)) :
  MI.ok { l:=l,k:=k,R:=R',nils:=nils,src:=src,base:=src } H:=by
 subst hR
 refine ⟨?_,fun j x hx=>?_⟩
 ·show H src=some (outer src.at k (R.set i r) nils)
  rw[ho]
  congr 1
  simp only[outer,AObj.mk.injEq,true_and]
  congr 1
  apply List.ext_getElem?
  intro j
  simp only[List.getElem?_mapIdx,List.getElem?_set]
  by_cases e:i=j
  ·subst e
   cases hx:R[i]? with
   | none=>simp[List.getElem?_eq_none_iff.1 hx]
   | some x=>simp[(List.getElem?_eq_some_iff.1 hx).1,hlen x hx]
  ·simp[e]
 ·show H (src.at j)=some (dobj k x)
  rw[List.getElem?_set] at hx
  by_cases e:i=j
  ·subst e
   simp at hx
   obtain ⟨h1,rfl⟩:=hx
   exact hi h1
  ·rw[if_neg e] at hx
   exact hr j x hx (fun h=>e h.symm)
theorem heapX_srcs [Mode] {ms:List MI}:∀ {hs:HL}{ss:List Loc},ss.length=hs.length→heapX (srcs hs ss) ms=heapX hs ms
 | [],[],_=>rfl
 | p :: r,s :: q,h=>by simp only[srcs,heapX];rw[heapX_srcs (by simpa using h)]
theorem heapX_ms [Mode] {ms ms':List MI} (h:heapM ms=heapM ms'):∀ {hs:HL},heapX hs ms=heapX hs ms'
 | []=>h
 | p :: r=>by simp only[heapX];rw[heapX_ms h]
theorem Le.headG [Mode] {C:Ctx}{fr:List AV}{H:Heap}{n:Nat}{hs:HL}{ms:List MI} (ss:List Loc) (ms':List MI) {fr':List AV}{n':Nat} (lent:Loc→Prop) (hlen:ss.length=hs.length) (hms:heapM ms'=heapM ms) (hD:∀ l,C.D0 l→l.id<n'∧tauX (srcs hs ss) ms' l=l)
  (hob:AllP (fun p=>∃ ob',H p.2.1=some ob'∧ObA H lent (tauX (srcs hs ss) ms') (fun l=>heapX (srcs hs ss) ms' l≠none) p.2.2 ob') (srcs hs ss))
  (hok:AllP (fun m=>m.ok H) ms') (hfr:ARs H lent (tauX (srcs hs ss) ms') (fun l=>heapX (srcs hs ss) ms' l≠none) fr' fr)
  (hl1:AllP (fun p=>¬ lent p.2.1) (srcs hs ss)) (hl2:AllP (fun m=>¬ lent m.src∧∀ i,¬ lent (m.row i)) ms')
  (hN:sepN (srcs hs ss) ms'=true) (hS:sepS (srcs hs ss) ms'=true) (hn:AllP (fun p=>p.1.id<n') (srcs hs ss)) (hnm:AllP (fun m=>m.l.id<n') ms'):Le C ⟨fr,H,n⟩ ⟨fr',heapX hs ms,n'⟩:=by
 have:=Le.headF (C:=C) (n:=n) (srcs hs ss) ms' (n':=n') lent hD hob hok hfr hl1 hl2 hN hS hn hnm
 rwa [heapX_srcs hlen,heapX_ms hms] at this
theorem outer_ix [Mode] {f:Nat→Loc}{k nils i:Nat}{R:List (List (List D))}{x:List (List D)} (h:R[i]? = some x):(outer f k R nils).rows[0+((i:Nat):Int).toNat]? = some [.own k (f i) 0 x.length]:=by
 have:0+((i:Nat):Int).toNat=i:=by omega
 rw[this];exact outer_lt h
section
variable {P : Program} {o : Oper} {A : Operand → AV} {H : Heap} {new : Nat}
theorem Ok.appendT [Mode] {t t' e e':TypeId}{ts:Array TypeId}{s x:Operand}{k b b' n:Nat}{z z':Value}{l l':Loc}{ob:AObj}{rw':List AV}{rows:List (List AV)} (ho:o.op = .call { callee:=.builtin .append,args:=#[s,x],argTypes:=ts }) (hts:ts = #[t,t']) [h:TySlice P t e k b z] [h':TySlice P t' e' k b' z'] (hk0:0<k)
  (hs:A s = .own k l 0 n) (hl:H l=some ob) (hok:ob.k=k) (hn:ob.rows.length=n) (hx:A x = .own k l' 0 1) (hl':H l'=some ⟨k,[rw']⟩) (hone:rw'.all AV.one=true) (hsz:(n+1)*b≤140737488355328) (h63:n+1≤9223372036854775807) (hrows:ob.rows++[rw']=rows) :
  OpOk P o A [l,l'] H new (.own k ⟨new,[]⟩ 0 (n+1)) [.one l none,.one ⟨new,[]⟩ (some ⟨k,rows⟩)]:=by
 have:=OpOk.append (P:=P) (H:=H) (new:=new) (A:=A) (S:=ob.rows) (R:=[rw']) (rd:=[l']) (rs:=[l]) (wr:=[.one l none,.one ⟨new,[]⟩ (some ⟨k,ob.rows++[rw']⟩)]) (n:=n) ho hts hk0
  (.inl ⟨l,_,hs,hl,hok,by rw[hn];exact Nat.le_refl _,by rw[List.take_of_length_le (by omega)],rfl,rfl⟩) (by rw[hx];exact .own l' 0 1 ⟨k,[rw']⟩ hl' rfl (by simp)) (by simpa using hone) (by simpa using hsz) (by simpa using h63)
 rw[hrows] at this
 exact this
end
end
section
open Go Go.RowKit
section
variable {P : Program} {o : Oper} {A : Operand → AV} {H : Heap} {new : Nat}
theorem Ok.ldT [Mode] {t:TypeId}{a:Operand}{k nils:Nat}{i:Nat}{l:Loc}{f:Nat→Loc}{R:List (List (List D))}{r:List (List D)} (ho:o.op = .load t a) (ha:A a = .ptr 1 l (0+((i:Nat):Int).toNat) 0) [TyCell P t] (hl:H l=some (outer f k R nils)) (hr:R[i]? = some r):OpOk P o A [l] H new (.own k (f i) 0 r.length) []:=
 OpOk.loadCell ho ha hl rfl (outer_ix hr) rfl
theorem Ok.ld1 [Mode] {t:TypeId}{a:Operand}{i:Nat}{l:Loc}{R:List (List D)}{c:D} (ho:o.op = .load t a) (ha:A a = .ptr 1 l (0+((i:Nat):Int).toNat) 0) [TyCell P t] (hl:H l=some (dobj 1 R)) (hr:R[i]? = some [c]):OpOk P o A [l] H new (.d c) []:=by
 have e:0+((i:Nat):Int).toNat=i:=by omega
 refine OpOk.loadCell ho ha hl rfl (r:=[.d c]) ?_ rfl
 rw[e];simp[dobj,hr]
theorem Ok.st1 [Mode] {t:TypeId}{a x:Operand}{i:Nat}{l:Loc}{R R':List (List D)}{c:D} (ho:o.op = .store t a x) (ha:A a = .ptr 1 l (0+((i:Nat):Int).toNat) 0) [TyCell P t] (hl:H l=some (dobj 1 R)) (hi:i<R.length) (hk:R[i]?.map List.length=some 1) (hx:A x = .d c) (h1:(AV.d c).one=true) (hR:R.set i [c]=R') :
  OpOk P o A [l] H new (.d (.v undef)) [.one l (some (dobj 1 R'))]:=by
 have e:0+((i:Nat):Int).toNat=i:=by omega
 obtain ⟨r,hr,hlen⟩:∃ r,R[i]? = some r∧r.length=1:=by
  rw[List.getElem?_eq_getElem hi] at hk ⊢
  exact ⟨_,rfl,by simpa using hk⟩
 have:=Ok.storeC (P:=P) (H:=H) (new:=new) (A:=A) (r:=r.map .d) (rows:=R'.map fun r=>r.map .d) ho ha hl rfl (by rw[e];simp[dobj,hr]) (by simp[hlen]) hx rfl h1 (by
  rw[e];subst hR
  match r,hlen with
  | [y],_=>simp[dobj,List.map_set])
 exact this
end
theorem upd_at [Mode] {H:Heap}{l:Loc}{i j:Nat}{ob:Option AObj}{x:Option AObj} (hne:j≠i) (h:H (l.at j)=x):upd H (l.at i) ob (l.at j)=x:=(upd_ne (fun e=>hne (Loc.at_inj e).2)).trans h
theorem MI.ok_row [Mode] {H:Heap}{l src:Loc}{k nils i:Nat}{R R':List (List (List D))}{r r0:List (List D)} (hR:R'=R.set i r) (h0:R[i]? = some r0) (hlen:r0.length=r.length) (ho:H src=some (outer src.at k R nils)) (hr:∀ j x,R[j]? = some x→H (src.at j)=some (dobj k x)) :
  MI.ok { l:=l,k:=k,R:=R',nils:=nils,src:=src,base:=src } (upd H (src.at i) (some (dobj k r))):=
 MI.ok_set (H':=H) hR (fun x hx=>by rw[h0] at hx;cases hx;exact hlen) ((upd_ne (fun e=>src.at_ne i e.symm)).trans ho) (fun j x hx hne=>upd_at hne (hr j x hx)) (fun _=>upd_same)
theorem AR.tab [Mode] {H:Heap}{lent:Loc→Prop}{τ:Loc→Loc}{L:Loc→Prop}{l:Loc}{k n:Nat}{R:List (List (List D))} (hm:IsM H l k R) (hn:R.length=n) (hl:lent l) (hr:∀ i,lent (l.at i)):AR H lent τ L (.d (.sl 1 (mRows k R))) (.own 1 l 0 n):=by
 subst hn;exact .d (hm.dr hl hr)
theorem CovL.at [Mode] {ls:List Loc}{l:Loc} (h:l∈ls) (i:Nat):Cov ls (l.at i):=⟨l,h,l.cov_at i⟩
end
section
open Go Go.RowKit
theorem MI.ok_make [Mode] {H:Heap}{l src:Loc}{k n:Nat} (h:H src=some (dobj 1 (List.replicate n [.v (.slice none 0 0)]))):MI.ok { l:=l,k:=k,R:=[],nils:=n,src:=src,base:=src } H:=by
 refine ⟨?_,fun i x hx=>by simp at hx⟩
 show H src=some (outer _ k [] n)
 rw[h]
 simp[dobj,outer]
section
variable {P : Program} {o : Oper} {A : Operand → AV} {H : Heap} {new : Nat}
theorem Ok.ldTn [Mode] {t:TypeId}{a:Operand}{k nils:Nat}{i n:Nat}{l:Loc}{f:Nat→Loc}{R:List (List (List D))}{r:List (List D)} (ho:o.op = .load t a) (ha:A a = .ptr 1 l (0+((i:Nat):Int).toNat) 0) [TyCell P t] (hl:H l=some (outer f k R nils)) (hr:R[i]? = some r) (hn:r.length=n):OpOk P o A [l] H new (.own k (f i) 0 n) []:=by
 subst hn;exact Ok.ldT ho ha hl hr
theorem Ok.stT [Mode] {t:TypeId}{a x:Operand}{k nils i m:Nat}{l e:Loc}{f:Nat→Loc}{R:List (List (List D))} (ho:o.op = .store t a x) (ha:A a = .ptr 1 l (0+((i:Nat):Int).toNat) 0) [TyCell P t] (hl:H l=some (outer f k R nils)) (hi:i<R.length+nils) (hx:A x = .own k e 0 m) :
  OpOk P o A [l] H new (.d (.v undef)) [.one l (some ⟨1,(outer f k R nils).rows.set i [.own k e 0 m]⟩)]:=by
 have e0:0+((i:Nat):Int).toNat=i:=by omega
 have hlen:i<(outer f k R nils).rows.length:=by rw[outer_len];exact hi
 obtain ⟨r,hr⟩:∃ r,(outer f k R nils).rows[i]? = some r:=⟨_,List.getElem?_eq_getElem hlen⟩
 have h1:r.length=1:=by rcases outer_get hr with ⟨y,_,rfl⟩|rfl<;>rfl
 exact Ok.storeC ho ha hl rfl (by rw[e0];exact hr) (by omega) hx rfl rfl (by
  rw[e0]
  match r,h1 with
  | [y],_=>rfl)
end
end
end Go.Proofs.YtkpoclbnnpglfaaGreat
