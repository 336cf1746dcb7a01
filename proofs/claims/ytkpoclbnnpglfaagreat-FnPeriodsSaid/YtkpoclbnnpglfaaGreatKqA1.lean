/-
  The abstract reading of the machine, part 1: values, operations, contracts, walks.
-/
import Derived.WalkKit
import Derived.WalkSpells
import Derived.WalkLawsBesides
import Derived.BigQuiet
import Derived.Lib.Hide
import Derived.Below
import Derived.Orders
import Derived.OneCell
import Derived.Tactics
import Derived.StillTail
import Derived.Laws.CopyRow
import Derived.Laws.Append
import Derived.Laws.MakeOwn
import Derived.Laws.AppendOwn
import Derived.Laws.Tables
set_option linter.unusedSimpArgs false
set_option linter.unusedVariables false
namespace Go.Proofs.YtkpoclbnnpglfaaGreat
section
open Go.RowKit
structure Later (B:Nat) (w:World) where
 W:World
 le:Below B w W
instance (B:Nat) (w:World):Nonempty (Later B w):=⟨⟨w,Below.refl B w⟩⟩
section
variable {P : Program}
end
theorem stay {B:Nat}{w w':World} (h:Below B w w') (hB:w.heap.size≤B) {a:Addr}{v:Value} (hc:w.cell? a=some v):w'.cell? a=some v:=
 (h.cell (Nat.lt_of_lt_of_le (World.block_lt_of_cell? _ _ hc) hB)).trans hc
def SlR {α:Type} (w:World) (k:Nat) (enc:α→List Value) (ad:Option Addr) (xs:List α):Prop:=
 ∀ (i:Nat) (x:α),xs[i]? = some x→∃ b off,ad=some ⟨b,off,none⟩∧∀ (j:Nat) (c:Value),(enc x)[j]? = some c→w.cell? ⟨b,off+i*k+j,none⟩=some c
theorem SlR.stay {α:Type}{w w':World}{k:Nat}{enc:α→List Value}{ad:Option Addr}{xs:List α} (h:SlR w k enc ad xs) (hb:Below w.heap.size w w'):SlR w' k enc ad xs:=
 fun i x hx=>let ⟨b,off,e,hc⟩:=h i x hx;⟨b,off,e,fun j c hj=>YtkpoclbnnpglfaaGreat.stay hb (Nat.le_refl _) (hc j c hj)⟩
theorem SlR.alloc {α:Type}{w:World}{k:Nat}{enc:α→List Value}{ad:Option Addr}{xs:List α} (h:SlR w k enc ad xs) (o:Obj):SlR (w.alloc o) k enc ad xs:=
 h.stay ((Below.refl _ _).alloc (Nat.le_refl _) o)
theorem SlR.drew {α:Type}{w:World}{k:Nat}{enc:α→List Value}{ad:Option Addr}{xs:List α} (h:SlR w k enc ad xs):SlR w.drew k enc ad xs:=h.stay (Below.refl _ _).drew
theorem SlR.nil {α:Type} (w:World) (k:Nat) (enc:α→List Value) (ad:Option Addr):SlR w k enc ad []:=fun i x h=>by simp at h
def fill {α:Type} (enc:α→List Value) (z:List Value) (xs:List α) (k:Nat):List Value:=(xs.take k).flatMap enc++(List.replicate (xs.length - k) z).flatten
def FlR (w:World) (ad:Option Addr) (cs:List Value):Prop:=
 ∀ (j:Nat) (c:Value),cs[j]? = some c→∃ b off,ad=some ⟨b,off,none⟩∧w.cell? ⟨b,off+j,none⟩=some c
structure Pl where
 f:Int
 t:Int
 d:Int
 k:Int
instance:Inhabited Pl:=⟨⟨0,0,0,0⟩⟩
def Pl.enc (p:Pl):List Value:=[.int .i64 p.f,.int .i64 p.t,.int .i64 p.d,.int .i64 p.k]
def Pl.val (p:Pl):Value:=.agg #[.int .i64 p.f,.int .i64 p.t,.int .i64 p.d,.int .i64 p.k]
def Pl.eq (p q:Pl):Bool:=p.f == q.f&&p.t == q.t&&p.d == q.d&&p.k == q.k
theorem Pl.eq_iff (p q:Pl):p.eq q=true↔p=q:=by
 cases p;cases q;simp[Pl.eq,and_assoc]
def Pl.zs:List Value:=[.int .i64 0,.int .i64 0,.int .i64 0,.int .i64 0]
structure Ed where
 kind:Int
 idx:Int
 pl:Pl
instance:Inhabited Ed:=⟨⟨0,0,⟨0,0,0,0⟩⟩⟩
def Ed.enc (e:Ed):List Value:=[.int .i64 e.kind,.int .i64 e.idx,.int .i64 e.pl.f,.int .i64 e.pl.t,.int .i64 e.pl.d,.int .i64 e.pl.k]
def Ed.val (e:Ed):Value:=.agg #[.int .i64 e.kind,.int .i64 e.idx,.int .i64 e.pl.f,.int .i64 e.pl.t,.int .i64 e.pl.d,.int .i64 e.pl.k]
def wi (n lo hi:Int):Bool:=decide (lo≤n)&&decide (n≤hi)
theorem wi_iff {n lo hi:Int}:wi n lo hi=true↔lo≤n∧n≤hi:=by simp[wi]
theorem all_step {α:Type}{f:α→Bool}{xs:List α}{k:Nat}{x:α} (hx:xs[k]? = some x) (h:xs.all f=(xs.drop k).all f) (hf:f x=true):xs.all f=(xs.drop (k+1)).all f:=by
 obtain ⟨h1,rfl⟩:=List.getElem?_eq_some_iff.1 hx
 rw[h,List.drop_eq_getElem_cons h1,List.all_cons,hf,Bool.true_and]
theorem all_no {α:Type}{f:α→Bool}{xs:List α}{k:Nat}{x:α} (hx:xs[k]? = some x) (hf:f x=false):xs.all f=false:=by
 rw[List.all_eq_false];exact ⟨x,List.mem_of_getElem? hx,by simp[hf]⟩
end
section
open Go Go.RowKit
class Mode where
 good:World→Prop
instance:Mode:=⟨fun _=>True⟩
def Glb [Mode] (F:Nat→Prop) (w:World):Prop:=∃ w0:World,Mode.good w0∧∀ b,b<w0.heap.size→F b∧w.heap[b]? = w0.heap[b]?
theorem Glb.mono [Mode] {F F':Nat→Prop}{w w':World} (h:Glb F w) (hF:∀ b,F b→F' b) (hw:∀ b,F b→w'.heap[b]? = w.heap[b]?):Glb F' w':=by
 obtain ⟨w0,hg,h⟩:=h
 exact ⟨w0,hg,fun b hb=>⟨hF _ (h b hb).1,(hw b (h b hb).1).trans (h b hb).2⟩⟩
theorem Glb.begin [Mode] {w:World} (h:Mode.good w):Glb (fun b=>b<w.heap.size) w:=⟨w,h,fun _ hb=>⟨hb,rfl⟩⟩
end
section
open Go Go.RowKit
inductive D where
 | v (x:Value)
 | sl (k:Nat) (rows:List (List D))
structure Loc where
 id:Nat
 sub:List Nat
 deriving DecidableEq
inductive AV where
 | d (x:D)
 | agg (cs:List AV)
 | tup (cs:List AV)
 | own (k:Nat) (l:Loc) (off n:Nat)
 | ownc (k:Nat) (l:Loc) (off n cap:Nat)
 | ptr (k:Nat) (l:Loc) (i j:Nat)
 | dptr (cs:List D)
 | clo (fn:Fn) (first captured:List AV)
 | dead
structure AObj where
 k:Nat
 rows:List (List AV)
abbrev Heap:=Loc→Option AObj
abbrev Iota:=Loc→Option (Option (Nat × Nat))
inductive DR (F:Nat→Prop) (w:World):D→Value→Prop where
 | v (x:Value):DR F w (.v x) x
 | sl (k:Nat) (rows:List (List D)) (a:Option Addr) (cap:Nat) (g:Nat→Nat→Value) (hcap:rows.length≤cap)
   (h:∀ i r j c,rows[i]? = some r→r[j]? = some c→∃ b off,a=some ⟨b,off,none⟩∧F b∧w.cell? ⟨b,off+i*k+j,none⟩=some (g i j))
   (hd:∀ i r j c,rows[i]? = some r→r[j]? = some c→DR F w c (g i j)):DR F w (.sl k rows) (.slice a rows.length cap)
inductive VR (ι:Iota) (F:Nat→Prop) (w:World):AV→Value→Prop where
 | d {x:D}{v:Value} (h:DR F w x v):VR ι F w (.d x) v
 | agg (cs:List AV) (vs:List Value) (hl:vs.length=cs.length) (h:∀ (i:Nat) c v,cs[i]? = some c→vs[i]? = some v→VR ι F w c v):VR ι F w (.agg cs) (.agg vs.toArray)
 | tup (cs:List AV) (vs:List Value) (hl:vs.length=cs.length) (h:∀ (i:Nat) c v,cs[i]? = some c→vs[i]? = some v→VR ι F w c v):VR ι F w (.tup cs) (.tuple vs.toArray)
 | own (k:Nat) (l:Loc) (off n b sz cap:Nat) (h:ι l=some (some (b,sz))) (hn:n≤cap) (hs:(off+cap)*k≤sz):VR ι F w (.own k l off n) (.slice (some ⟨b,off*k,none⟩) n cap)
 | ownNil (k:Nat) (l:Loc) (h:ι l=some none):VR ι F w (.own k l 0 0) (.slice none 0 0)
 | ownc (k:Nat) (l:Loc) (off n cap b sz:Nat) (h:ι l=some (some (b,sz))) (hn:n≤cap) (hs:(off+cap)*k≤sz):VR ι F w (.ownc k l off n cap) (.slice (some ⟨b,off*k,none⟩) n cap)
 | owncNil (k:Nat) (l:Loc) (h:ι l=some none):VR ι F w (.ownc k l 0 0 0) (.slice none 0 0)
 | ptr (k:Nat) (l:Loc) (i j b sz:Nat) (h:ι l=some (some (b,sz))):VR ι F w (.ptr k l i j) (.pointer (some ⟨b,i*k+j,none⟩))
 | dptr (cs:List D) (b off:Nat) (g:Nat→Value) (hF:F b) (h:∀ j c,cs[j]? = some c→w.cell? ⟨b,off+j,none⟩=some (g j)) (hd:∀ j c,cs[j]? = some c→DR F w c (g j)):VR ι F w (.dptr cs) (.pointer (some ⟨b,off,none⟩))
 | clo (fn:Fn) (fs cs:List AV) (fv cv:List Value) (hf:fv.length=fs.length) (hc:cv.length=cs.length)
   (h:∀ (i:Nat) c v,fs[i]? = some c→fv[i]? = some v→VR ι F w c v) (h':∀ (i:Nat) c v,cs[i]? = some c→cv[i]? = some v→VR ι F w c v):VR ι F w (.clo fn fs cs) (.func fn fv.toArray cv.toArray)
 | dead (v:Value):VR ι F w .dead v
theorem DR.mono [Mode] {F F':Nat→Prop}{w w':World}{x:D}{v:Value} (h:DR F w x v) (hF:∀ b,F b→F' b) (hw:∀ b,F b→w'.heap[b]? = w.heap[b]?):DR F' w' x v:=by
 induction h with
 | v x=>exact .v x
 | sl k rows a cap g hcap h hd ih=>
  refine .sl k rows a cap g hcap (fun i r j c hr hc=>?_) (fun i r j c hr hc=>ih i r j c hr hc)
  obtain ⟨b,off,e,hb,hv⟩:=h i r j c hr hc
  exact ⟨b,off,e,hF _ hb,(World.cell?_of_block (w:=w) (hw _ hb)).trans hv⟩
def Ext (ι ι':Iota):Prop:=∀ l x,ι l=some x→ι' l=some x
theorem VR.mono [Mode] {ι ι':Iota}{F F':Nat→Prop}{w w':World}{x:AV}{v:Value} (h:VR ι F w x v) (hι:Ext ι ι') (hF:∀ b,F b→F' b) (hw:∀ b,F b→w'.heap[b]? = w.heap[b]?):VR ι' F' w' x v:=by
 induction h with
 | d h=>exact .d (h.mono hF hw)
 | agg cs vs hl h ih=>exact .agg cs vs hl ih
 | tup cs vs hl h ih=>exact .tup cs vs hl ih
 | own k l off n b sz cap h hn hs=>exact .own k l off n b sz cap (hι _ _ h) hn hs
 | ownNil k l h=>exact .ownNil k l (hι _ _ h)
 | ownc k l off n cap b sz h hn hs=>exact .ownc k l off n cap b sz (hι _ _ h) hn hs
 | owncNil k l h=>exact .owncNil k l (hι _ _ h)
 | ptr k l i j b sz h=>exact .ptr k l i j b sz (hι _ _ h)
 | dptr cs b off g hF' h hd=>
  exact .dptr cs b off g (hF _ hF') (fun j c hc=>(World.cell?_of_block (w:=w) (hw _ hF')).trans (h j c hc)) (fun j c hc=>(hd j c hc).mono hF hw)
 | clo fn fs cs fv cv hf hc h h' ih ih'=>exact .clo fn fs cs fv cv hf hc ih ih'
 | dead v=>exact .dead v
def VRs (ι:Iota) (F:Nat→Prop) (w:World) (cs:List AV) (vs:List Value):Prop:=vs.length=cs.length∧∀ (i:Nat) c v,cs[i]? = some c→vs[i]? = some v→VR ι F w c v
theorem VRs.mono [Mode] {ι ι':Iota}{F F':Nat→Prop}{w w':World}{cs:List AV}{vs:List Value} (h:VRs ι F w cs vs) (hι:Ext ι ι') (hF:∀ b,F b→F' b) (hw:∀ b,F b→w'.heap[b]? = w.heap[b]?):VRs ι' F' w' cs vs:=
 ⟨h.1,fun i c v hc hv=>(h.2 i c v hc hv).mono hι hF hw⟩
theorem VRs.nil [Mode] {ι:Iota}{F:Nat→Prop}{w:World}:VRs ι F w [] []:=⟨rfl,fun _ _ _ h=>by simp at h⟩
theorem VRs.cons [Mode] {ι:Iota}{F:Nat→Prop}{w:World}{c:AV}{v:Value}{cs:List AV}{vs:List Value} (h:VR ι F w c v) (h':VRs ι F w cs vs):VRs ι F w (c :: cs) (v :: vs):=by
 refine ⟨by simp[h'.1],fun i c' v' hc hv=>?_⟩
 cases i with
 | zero=>simp at hc hv;subst hc;subst hv;exact h
 | succ i=>simp at hc hv;exact h'.2 i _ _ hc hv
theorem VRs.get [Mode] {ι:Iota}{F:Nat→Prop}{w:World}{cs:List AV}{vs:List Value} (h:VRs ι F w cs vs) {i:Nat}{c:AV} (hc:cs[i]? = some c):∃ v,vs[i]? = some v∧VR ι F w c v:=by
 have hi:=(List.getElem?_eq_some_iff.1 hc).1
 have hv:=List.getElem?_eq_getElem (l:=vs) (i:=i) (by rw[h.1];exact hi)
 exact ⟨_,hv,h.2 _ _ _ hc hv⟩
theorem VRs.agg [Mode] {ι:Iota}{F:Nat→Prop}{w:World}{cs:List AV}{vs:List Value} (h:VRs ι F w cs vs):VR ι F w (.agg cs) (.agg vs.toArray):=.agg cs vs h.1 h.2
theorem VRs.tup [Mode] {ι:Iota}{F:Nat→Prop}{w:World}{cs:List AV}{vs:List Value} (h:VRs ι F w cs vs):VR ι F w (.tup cs) (.tuple vs.toArray):=.tup cs vs h.1 h.2
theorem VR.agg_inv [Mode] {ι:Iota}{F:Nat→Prop}{w:World}{cs:List AV}{v:Value} (h:VR ι F w (.agg cs) v):∃ vs,v = .agg vs.toArray∧VRs ι F w cs vs:=by
 cases h with|agg _ vs hl h=>exact ⟨vs,rfl,hl,h⟩
theorem VR.tup_inv [Mode] {ι:Iota}{F:Nat→Prop}{w:World}{cs:List AV}{v:Value} (h:VR ι F w (.tup cs) v):∃ vs,v = .tuple vs.toArray∧VRs ι F w cs vs:=by
 cases h with|tup _ vs hl h=>exact ⟨vs,rfl,hl,h⟩
theorem VR.v_inv [Mode] {ι:Iota}{F:Nat→Prop}{w:World}{x v:Value} (h:VR ι F w (.d (.v x)) v):v=x:=by
 cases h with|d h=>cases h;rfl
theorem VR.sl_inv [Mode] {ι:Iota}{F:Nat→Prop}{w:World}{k:Nat}{rows:List (List D)}{v:Value} (h:VR ι F w (.d (.sl k rows)) v):DR F w (.sl k rows) v:=by
 cases h with|d h=>exact h
theorem VR.ptr_inv [Mode] {ι:Iota}{F:Nat→Prop}{w:World}{k i j:Nat}{l:Loc}{v:Value} (h:VR ι F w (.ptr k l i j) v):∃ b sz,ι l=some (some (b,sz))∧v = .pointer (some ⟨b,i*k+j,none⟩):=by
 cases h with|ptr _ _ _ _ b sz h=>exact ⟨b,sz,h,rfl⟩
theorem VR.own_inv [Mode] {ι:Iota}{F:Nat→Prop}{w:World}{k off n:Nat}{l:Loc}{v:Value} (h:VR ι F w (.own k l off n) v) :
  (∃ b sz cap,ι l=some (some (b,sz))∧n≤cap∧(off+cap)*k≤sz∧v = .slice (some ⟨b,off*k,none⟩) n cap)∨(ι l=some none∧off=0∧n=0∧v = .slice none 0 0):=by
 cases h with
 | own _ _ _ _ b sz cap h hn hs=>exact .inl ⟨b,sz,cap,h,hn,hs,rfl⟩
 | ownNil _ _ h=>exact .inr ⟨h,rfl,rfl,rfl⟩
def Loc.cov (r l:Loc):Bool:=r.id == l.id&&r.sub.isPrefixOf l.sub
theorem Loc.cov_self [Mode] (l:Loc):l.cov l=true:=by simp[Loc.cov]
theorem Loc.cov_id [Mode] {r l:Loc} (h:r.cov l=true):r.id=l.id:=by simp[Loc.cov] at h;exact h.1
def upd (H:Heap) (l:Loc) (o:Option AObj):Heap:=fun l'=>if l'=l then o else H l'
inductive W where
 | one (l:Loc) (o:Option AObj)
 | all (id:Nat) (g:List Nat→Option AObj)
 | un (l:Loc) (g:Loc→Option (Option AObj))
def W.app (H:Heap):W→Heap
 | .one l o=>upd H l o
 | .all id g=>fun l=>if l.id=id then g l.sub else H l
 | .un r g=>fun l=>match (if r.cov l=true then g l else none) with|some o=>o|none=>H l
def W.hits:W→Loc→Bool
 | .one l _,l'=>l' == l
 | .all id _,l'=>l'.id == id
 | .un r g,l'=>(if r.cov l'=true then g l' else none).isSome
def W.meets:W→W→Bool
 | .one l _,.un r _=>l.id == r.id
 | .one l _,w=>w.hits l
 | .all id _,.one l _=>l.id == id
 | .all id _,.all id' _=>id == id'
 | .all id _,.un r _=>id == r.id
 | .un r _,.one l _=>r.id == l.id
 | .un r _,.all id _=>r.id == id
 | .un r _,.un r' _=>r.id == r'.id
def upds (H:Heap):List W→Heap
 | []=>H
 | w :: r=>upds (w.app H) r
theorem upd_same [Mode] {H:Heap}{l:Loc}{o:Option AObj}:upd H l o l=o:=by simp[upd]
theorem upd_ne [Mode] {H:Heap}{l l':Loc}{o:Option AObj} (h:l'≠l):upd H l o l'=H l':=by simp[upd,h]
def ObjR (ι:Iota) (F:Nat→Prop) (w:World) (l:Loc) (o:AObj):Prop:=
 (ι l=some none∧o.rows=[])∨∃ (b:Nat) (cs:List Value) (T:TypeId),ι l=some (some (b,cs.length))∧w.heap[b]? = some (.cells cs.toArray T (0,0))∧o.rows.length*o.k≤cs.length∧
  ∀ (i:Nat) r,o.rows[i]? = some r→r.length=o.k∧∀ (j:Nat) c,r[j]? = some c→∃ v,cs[i*o.k+j]? = some v∧VR ι F w c v
structure Sim [Mode] (ι:Iota) (F:Nat→Prop) (H:Heap) (w:World):Prop where
 obj:∀ l o,H l=some o→ObjR ι F w l o
 inj:∀ l l' b s s',H l≠none→H l'≠none→ι l=some (some (b,s))→ι l'=some (some (b,s'))→l=l'
 notF:∀ l b s,H l≠none→ι l=some (some (b,s))→¬ F b
 lt:∀ b,F b→b<w.heap.size
 gl:Glb F w
theorem Sim.isSome [Mode] {ι:Iota}{F:Nat→Prop}{H:Heap}{w:World} (h:Sim ι F H w) {l:Loc} (hl:H l≠none):ι l≠none:=by
 cases ho:H l with
 | none=>exact absurd ho hl
 | some o=>rcases h.obj l o ho with ⟨e,_⟩|⟨b,cs,T,e,_⟩<;>rw[e]<;>simp
theorem Sim.isNone [Mode] {ι:Iota}{F:Nat→Prop}{H:Heap}{w:World} (h:Sim ι F H w) {l:Loc} (hl:ι l=none):H l=none:=by
 cases ho:H l with
 | none=>rfl
 | some o=>exact absurd hl (h.isSome (by rw[ho];simp))
theorem Sim.blt [Mode] {ι:Iota}{F:Nat→Prop}{H:Heap}{w:World} (h:Sim ι F H w) {l:Loc}{b s:Nat} (hl:H l≠none) (e:ι l=some (some (b,s))):b<w.heap.size:=by
 cases ho:H l with
 | none=>exact absurd ho hl
 | some o=>
  rcases h.obj l o ho with ⟨e',_⟩|⟨b',cs,T,e',hb,_⟩
  ·rw[e] at e';cases e'
  ·rw[e] at e';simp only[Option.some.injEq,Prod.mk.injEq] at e'
   obtain ⟨rfl,_⟩:=e'
   exact (Array.getElem?_eq_some_iff.1 hb).1
theorem ObjR.mono [Mode] {ι ι':Iota}{F F':Nat→Prop}{w w':World}{l:Loc}{o:AObj} (h:ObjR ι F w l o) (hι:Ext ι ι') (hF:∀ b,F b→F' b) (hw:∀ b,F b→w'.heap[b]? = w.heap[b]?) (hb:∀ b s,ι l=some (some (b,s))→w'.heap[b]? = w.heap[b]?):ObjR ι' F' w' l o:=by
 rcases h with ⟨e,h⟩|⟨b,cs,T,e,hc,hl,h⟩
 ·exact .inl ⟨hι _ _ e,h⟩
 ·exact .inr ⟨b,cs,T,hι _ _ e,(hb b _ e).trans hc,hl,fun i r hr=>⟨(h i r hr).1,fun j c hc=>let ⟨v,h1,h2⟩:=(h i r hr).2 j c hc;⟨v,h1,h2.mono hι hF hw⟩⟩⟩
structure Step (O:Nat→Prop) (w w':World):Prop where
 os:w'.os=w.os
 tape:w'.tape=w.tape
 output:w'.output=w.output
 size:w.heap.size≤w'.heap.size
 block:∀ b,b<w.heap.size→¬ O b→w'.heap[b]? = w.heap[b]?
theorem Step.refl [Mode] (O:Nat→Prop) (w:World):Step O w w:=⟨rfl,rfl,rfl,Nat.le_refl _,fun _ _ _=>rfl⟩
theorem Step.trans [Mode] {O O' O'':Nat→Prop}{w w' w'':World} (h:Step O w w') (k:Step O' w' w'') (h1:∀ b,O b→O'' b) (h2:∀ b,b<w.heap.size→O' b→O'' b):Step O'' w w'':=
 ⟨k.os.trans h.os,k.tape.trans h.tape,k.output.trans h.output,Nat.le_trans h.size k.size,fun b hb ho=>
  (k.block b (Nat.lt_of_lt_of_le hb h.size) (fun h'=>ho (h2 b hb h'))).trans (h.block b hb (fun h'=>ho (h1 b h')))⟩
theorem Step.mono [Mode] {O O':Nat→Prop}{w w':World} (h:Step O w w') (h1:∀ b,O b→O' b):Step O' w w':=⟨h.os,h.tape,h.output,h.size,fun b hb ho=>h.block b hb (fun h'=>ho (h1 b h'))⟩
theorem Step.below [Mode] {w w':World} (h:Step (fun _=>False) w w'):Below w.heap.size w w':=⟨h.os,h.tape,h.output,h.size,fun b hb=>h.block b hb id⟩
theorem Step.drew [Mode] {O:Nat→Prop}{w w':World} (h:Step O w w'):Step O w w'.drew:=⟨h.os,h.tape,h.output,h.size,h.block⟩
def Cov (reads:List Loc) (l:Loc):Prop:=∃ r∈reads,r.cov l=true
theorem Cov.mem [Mode] {reads:List Loc}{l:Loc} (h:l∈reads):Cov reads l:=⟨l,h,l.cov_self⟩
theorem Cov.nil [Mode] {l:Loc}:¬ Cov [] l:=fun ⟨_,h,_⟩=>by cases h
theorem Cov.mono [Mode] {a b:List Loc}{l:Loc} (h:∀ r∈a,r∈b):Cov a l→Cov b l:=fun ⟨r,h1,h2⟩=>⟨r,h r h1,h2⟩
def Owned (ι:Iota) (H:Heap) (l:Loc) (b:Nat):Prop:=H l≠none∧∃ s,ι l=some (some (b,s))
structure Post [Mode] (ι:Iota) (F:Nat→Prop) (H:Heap) (w:World) (reads:List Loc) (new:Nat) (ι':Iota) (F':Nat→Prop) (H':Heap) (w':World):Prop where
 sim:Sim ι' F' H' w'
 ext:Ext ι ι'
 dom:∀ l,ι' l≠none→ι l≠none∨l.id=new
 sub:∀ b,F b→F' b
 sup:∀ b,F' b→F b∨(∃ l,Cov reads l∧Owned ι H l b)∨w.heap.size≤b
 step:Step (fun b=>∃ l,Cov reads l∧Owned ι H l b) w w'
 own:∀ l b s,H' l≠none→ι' l=some (some (b,s))→(∃ l0,Owned ι H l0 b)∨w.heap.size≤b
theorem Post.stay [Mode] {ι ι':Iota}{F F':Nat→Prop}{H H':Heap}{w w':World}{reads:List Loc}{new:Nat} (h:Post ι F H w reads new ι' F' H' w') (hs:Sim ι F H w):∀ b,F b→w'.heap[b]? = w.heap[b]?:=
 fun b hb=>h.step.block b (hs.lt b hb) (fun ⟨l,_,hl,s,e⟩=>hs.notF l b s hl e hb)
theorem Post.same [Mode] {ι:Iota}{F:Nat→Prop}{H:Heap}{w:World} (hs:Sim ι F H w) (reads:List Loc) (new:Nat):Post ι F H w reads new ι F H w:=
 ⟨hs,fun _ _ h=>h,fun _ h=>.inl h,fun _ h=>h,fun _ h=>.inl h,Step.refl _ _,fun l b s hl e=>.inl ⟨l,hl,s,e⟩⟩
theorem Sim.drew [Mode] {ι:Iota}{F:Nat→Prop}{H:Heap}{w:World} (hs:Sim ι F H w):Sim ι F H w.drew:=
 ⟨fun l o h=>(hs.obj l o h).mono (fun _ _ h=>h) (fun _ h=>h) (fun _ _=>rfl) (fun _ _ _=>rfl),hs.inj,hs.notF,hs.lt,hs.gl.mono (fun _ h=>h) (fun _ _=>rfl)⟩
def Upon (P:Program) (S:Value→World→Prop):Result Next→Prop
 | .ok (.value u) w'=>S u w'
 | .ok .skip w'=>S undef w'
 | .ok (.enter f args) w'=>Calls P f args w' fun e w''=>∃ v,e = .returned v∧S v w''
 | _=>False
theorem Upon.mono [Mode] {P:Program}{S S':Value→World→Prop}{r:Result Next} (h:Upon P S r) (hs:∀ v w,S v w→S' v w):Upon P S' r:=by
 cases r with
 | ok x w'=>
  cases x<;>simp only[Upon] at h ⊢
  case value u=>exact hs _ _ h
  case skip=>exact hs _ _ h
  case enter f args=>exact h.mono fun e w'' ⟨v,he,h1⟩=>⟨v,he,hs _ _ h1⟩
 | halt x w'=>simp only[Upon] at h
theorem Upon.wp [Mode] {P:Program}{S:Value→World→Prop}{o:Oper}{a:Act}{w:World}{K:Act→World→Prop}{Q:Exit→Act→World→Prop} (h:Upon P S ((execOp a.eval o).run P w)) (hk:∀ v w',S v w'→K (a.put o.dst v) w'):o.wp P a w K Q:=by
 unfold Oper.wp
 generalize (execOp a.eval o).run P w=r at *
 cases r with
 | ok x w'=>
  cases x<;>simp only[Upon] at h<;>simp only[Oper.upon]
  case value u=>exact hk _ _ h
  case skip=>exact hk _ _ h
  case enter f args=>exact h.mono fun e w'' ⟨v,he,h1⟩=>by subst he;exact hk _ _ h1
 | halt x w'=>simp only[Upon] at h
def OpOk [Mode] (P:Program) (o:Oper) (A:Operand→AV) (reads:List Loc) (H:Heap) (new:Nat) (val:AV) (wr:List W):Prop:=
 ∀ (ι:Iota) (F:Nat→Prop) (w:World) (H1:Heap) (ρ:Operand→Value),(∀ l,Cov reads l→H1 l=H l)→(∀ k,ι ⟨new,k⟩=none)→Sim ι F H1 w→(∀ x∈o.op.operands,VR ι F w (A x) (ρ x))→
  Upon P (fun v w'=>∃ ι' F',VR ι' F' w' val v∧Post ι F H1 w reads new ι' F' (upds H1 wr) w') ((execOp ρ o).run P w)
end
section
open Go Go.RowKit
structure AS where
 fr:List AV
 H:Heap
 next:Nat
def evalF (fr:List AV):Operand→AV
 | .tmp t=>(fr[t]?).getD (.d (.v undef))
 | .const v=>.d (.v v)
 | .global g=>.d (.v (.pointer (some ⟨g,0,none⟩)))
 | .func f=>.clo (.func f) [] []
def putF (fr:List AV) (dst:Option Tmp) (x:AV):List AV:=match dst with|some t=>fr.set t x|none=>fr
structure Ctx where
 w0:World
 O0:Nat→Prop
 F0:Nat→Prop
 D0:Loc→Prop
 ι0:Iota
structure Inv (C:Ctx) (ι:Iota) (F:Nat→Prop) (H:Heap) (w:World):Prop where
 step:Step C.O0 C.w0 w
 sub:∀ b,C.F0 b→F b
 sup:∀ b,F b→C.F0 b∨C.O0 b∨C.w0.heap.size≤b
 own:∀ l b,Owned ι H l b→C.O0 b∨C.w0.heap.size≤b
 keep:∀ l x,C.D0 l→C.ι0 l=some x→ι l=some x
def RR [Mode] (C:Ctx) (U:Nat→Prop) (fr:List AV) (H:Heap) (a:Act) (w:World):Prop:=
 ∃ ι F,Sim ι F H w∧VRs ι F w fr a.tmps.toList∧a.defers=[]∧Inv C ι F H w∧∀ id,U id→∀ k,ι ⟨id,k⟩=none
def RS [Mode] (C:Ctx) (s:AS) (a:Act) (w:World):Prop:=RR C (fun id=>s.next≤id) s.fr s.H a w
theorem VRs.eval [Mode] {ι:Iota}{F:Nat→Prop}{w:World}{fr:List AV}{a:Act} (h:VRs ι F w fr a.tmps.toList) (x:Operand):VR ι F w (evalF fr x) (a.eval x):=by
 cases x with
 | tmp t=>
  simp only[evalF,Act.eval]
  cases hf:fr[t]? with
  | none=>
   have ht:a.tmps.size≤t:=by have:=h.1;have:=List.getElem?_eq_none_iff.1 hf;simp at *;omega
   simp[Array.getD,Nat.not_lt.2 ht]
   exact .d (.v _)
  | some c=>
   obtain ⟨v,hv,hr⟩:=h.get hf
   have:a.tmps[t]? = some v:=by simpa using hv
   simp only[Array.getD_eq_getD_getElem?,this,Option.getD_some]
   exact hr
 | const v=>exact .d (.v _)
 | global g=>exact .d (.v _)
 | func f=>exact .clo (.func f) [] [] [] [] rfl rfl (fun _ _ _ h=>by simp at h) (fun _ _ _ h=>by simp at h)
theorem VRs.put [Mode] {ι:Iota}{F:Nat→Prop}{w:World}{fr:List AV}{a:Act}{dst:Option Tmp}{x:AV}{v:Value} (h:VRs ι F w fr a.tmps.toList) (hx:VR ι F w x v):VRs ι F w (putF fr dst x) (a.put dst v).tmps.toList:=by
 cases dst with
 | none=>exact h
 | some t=>
  refine ⟨by simpa [putF,Act.put] using h.1,fun i c u hc hu=>?_⟩
  simp only[putF,Act.put,Array.toList_setIfInBounds,List.getElem?_set] at hc hu
  by_cases hit:t=i
  ·subst hit
   simp only[if_true] at hc hu
   split at hc
   ·split at hu
    ·cases hc;cases hu;exact hx
    ·cases hu
   ·cases hc
  ·rw[if_neg hit] at hc hu
   exact h.2 i c u hc hu
theorem RR.op [Mode] {P:Program}{C:Ctx}{U:Nat→Prop}{fr:List AV}{H:Heap}{a:Act}{w:World}{o:Oper}{reads:List Loc}{new:Nat}{val:AV}{wr:List W}{K:Act→World→Prop}{Q:Exit→Act→World→Prop}
  (h:RR C U fr H a w) (ho:OpOk P o (evalF fr) reads H new val wr) (hn:U new) (hk:∀ a' w',RR C (fun id=>U id∧id≠new) (putF fr o.dst val) (upds H wr) a' w'→K a' w'):o.wp P a w K Q:=by
 obtain ⟨ι,F,hs,hv,hd,hi,hu⟩:=h
 refine (ho ι F w H a.eval (fun _ _=>rfl) (hu new hn) hs (fun x _=>hv.eval x)).wp ?_
 rintro v w' ⟨ι',F',hr,hp⟩
 refine hk _ _ ⟨ι',F',hp.sim,(hv.mono hp.ext hp.sub (hp.stay hs)).put hr,?_,?_,?_⟩
 ·cases o.dst<;>exact hd
 ·refine ⟨hi.step.trans hp.step (fun _ h=>h) (fun b hb ⟨l,_,ho⟩=>?_),fun b hb=>hp.sub _ (hi.sub b hb),fun b hb=>?_,fun l b ho=>?_,fun l x hl he=>hp.ext _ _ (hi.keep l x hl he)⟩
  ·rcases hi.own l b ho with h|h
   ·exact h
   ·omega
  ·rcases hp.sup b hb with h|⟨l,_,ho⟩|h
   ·exact hi.sup b h
   ·exact .inr (hi.own l b ho)
   ·exact .inr (.inr (Nat.le_trans hi.step.size h))
  ·obtain ⟨hl,s,e⟩:=ho
   rcases hp.own l b s hl e with ⟨l0,h0⟩|h
   ·exact hi.own l0 b h0
   ·exact .inr (Nat.le_trans hi.step.size h)
 ·rintro id ⟨hid,hne⟩ k
  cases he:ι' ⟨id,k⟩ with
  | none=>rfl
  | some x=>
   rcases hp.dom ⟨id,k⟩ (by rw[he];simp) with h|h
   ·exact absurd (hu id hid k) h
   ·exact absurd h hne
theorem RR.drew [Mode] {C:Ctx}{U:Nat→Prop}{fr:List AV}{H:Heap}{a:Act}{w:World} (h:RR C U fr H a w):RR C U fr H a { w with drawn:=w.drawn+1 }:=by
 obtain ⟨ι,F,hs,hv,hd,hi,hu⟩:=h
 exact ⟨ι,F,hs.drew,hv.mono (fun _ _ h=>h) (fun _ h=>h) (fun _ _=>rfl),hd,⟨hi.step.drew,hi.sub,hi.sup,hi.own,hi.keep⟩,hu⟩
theorem RR.skip [Mode] {C:Ctx}{U:Nat→Prop}{fr:List AV}{H:Heap}{a:Act}{w:World} (h:RR C U fr H a w) (dst:Option Tmp):RR C U (putF fr dst (.d (.v undef))) H (a.put dst undef) w:=by
 obtain ⟨ι,F,hs,hv,hd,hi,hu⟩:=h
 exact ⟨ι,F,hs,hv.put (.d (.v _)),by cases dst<;>exact hd,hi,hu⟩
theorem RR.less [Mode] {C:Ctx}{U U':Nat→Prop}{fr:List AV}{H:Heap}{a:Act}{w:World} (h:RR C U fr H a w) (hU:∀ id,U' id→U id):RR C U' fr H a w:=by
 obtain ⟨ι,F,hs,hv,hd,hi,hu⟩:=h
 exact ⟨ι,F,hs,hv,hd,hi,fun id h=>hu id (hU id h)⟩
def boolV:Value→Option Bool
 | .bool b=>some b
 | _=>none
def GuardIs (ops:Array Oper) (fr:List AV) (o:Oper) (on:Bool):Prop:=
 match o.guard with
 | none=>on=true
 | some (j,want)=>∃ t v,(ops[j]?).bind (·.dst)=some t∧fr[t]? = some (.d (.v v))∧on=(boolV v == some want)
theorem GuardIs.wanted [Mode] {ι:Iota}{F:Nat→Prop}{w:World}{ops:Array Oper}{fr:List AV}{o:Oper}{on:Bool}{a:Act} (h:GuardIs ops fr o on) (hv:VRs ι F w fr a.tmps.toList):Region.wanted o (yielded ops a.tmps)=on:=by
 unfold GuardIs at h
 unfold Region.wanted
 cases hg:o.guard with
 | none=>simp only[hg] at h;exact h.symm
 | some jw=>
  obtain ⟨j,want⟩:=jw
  simp only[hg] at h ⊢
  obtain ⟨t,b,ht,hf,rfl⟩:=h
  obtain ⟨v,hv',hr⟩:=hv.get hf
  have:=hr.v_inv
  subst this
  have h2:a.tmps[t]? = some v:=by simpa using hv'
  simp only[yielded,ht,Option.bind_some,h2]
  cases v<;>rfl
def Lift [Mode] (C:Ctx) (Q:Exit→AS→Prop):Exit→Act→World→Prop:=fun e a w=>∃ s,Q e s∧RS C s a w
def AL [Mode] (P:Program) (C:Ctx) (ops:Array Oper) (Q:Exit→AS→Prop) (l:List Oper) (s:AS):Prop:=∀ a w,RS C s a w→wpList P ops (Lift C Q) l a w
section
variable {P : Program} {C : Ctx} {ops : Array Oper} {Q : Exit → AS → Prop} {l rest : List Oper} {s : AS} {o : Oper}
theorem AL.nil [Mode] (h:Q .normal s):AL P C ops Q [] s:=fun _ _ r=>⟨s,h,r⟩
theorem AL.cons [Mode] {reads:List Loc}{val:AV}{wr:List W} (on:Bool) (hg:GuardIs ops s.fr o on) (h1:on=true→OpOk P o (evalF s.fr) reads s.H s.next val wr∧AL P C ops Q rest ⟨putF s.fr o.dst val,upds s.H wr,s.next+1⟩)
  (h0:on=false→AL P C ops Q rest ⟨putF s.fr o.dst (.d (.v undef)),s.H,s.next+1⟩):AL P C ops Q (o :: rest) s:=by
 intro a w r
 have hw:Region.wanted o (yielded ops a.tmps)=on:=by obtain ⟨ι,F,_,hv,_⟩:=r;exact hg.wanted hv
 unfold wpList
 rw[hw]
 cases on with
 | true=>
  rw[if_pos rfl]
  left
  obtain ⟨ho,hr⟩:=h1 rfl
  exact RR.op r ho (Nat.le_refl _) (fun a' w' r'=>hr a' w' (r'.less fun id hid=>⟨Nat.le_of_lt hid,Nat.ne_of_gt hid⟩))
 | false=>
  rw[if_neg (by simp)]
  exact h0 rfl _ _ ((RR.skip r o.dst).less fun id hid=>Nat.le_of_lt hid)
theorem AL.op [Mode] {reads:List Loc}{val:AV}{wr:List W} (hg:o.guard=none) (h1:OpOk P o (evalF s.fr) reads s.H s.next val wr) (h2:AL P C ops Q rest ⟨putF s.fr o.dst val,upds s.H wr,s.next+1⟩):AL P C ops Q (o :: rest) s:=
 AL.cons true (by unfold GuardIs;rw[hg]) (fun _=>⟨h1,h2⟩) (fun h=>by cases h)
end
def AW [Mode] (P:Program) (C:Ctx) (c:Code) (Q:Exit→AS→Prop) (s:AS):Prop:=∀ a w,RS C s a w→c.wp P (Lift C Q) a w
section
variable {P : Program} {C : Ctx} {Q : Exit → AS → Prop} {s : AS}
theorem AW.mono [Mode] {c:Code}{Q':Exit→AS→Prop} (h:AW P C c Q s) (hq:∀ e s,Q e s→Q' e s):AW P C c Q' s:=fun a w r=>wp_mono (h a w r) fun _ _ _ ⟨s',q,r'⟩=>⟨s',hq _ _ q,r'⟩
theorem AW.skip [Mode] (h:Q .normal s):AW P C .skip Q s:=fun _ _ r=>wp_skip ⟨s,h,r⟩
theorem AW.exit [Mode] {id:Nat} (h:Q (.exit id) s):AW P C (.exit id) Q s:=fun _ _ r=>wp_exit ⟨s,h,r⟩
theorem AW.ret [Mode] (h:Q .ret s):AW P C .ret Q s:=fun _ _ r=>wp_ret ⟨s,h,r⟩
def thenQ (K:AS→Prop) (Q:Exit→AS→Prop):Exit→AS→Prop
 | .normal,s=>K s
 | e,s=>Q e s
theorem AW.seq [Mode] {x y:Code} (h:AW P C x (thenQ (AW P C y Q) Q) s):AW P C (.seq x y) Q s:=fun a w r=>wp_seq (wp_mono (h a w r) fun e a' w' ⟨s',q,r'⟩=>by
 cases e<;>first|exact q a' w' r'|exact ⟨s',q,r'⟩)
theorem AW.cond [Mode] {c:Operand}{x y:Code} (t:Bool) (hc:evalF s.fr c = .d (.v (.bool t))) (h1:t=true→AW P C x Q s) (h0:t=false→AW P C y Q s):AW P C (.cond c x y) Q s:=by
 intro a w r
 have he:a.eval c = .bool t:=by
  obtain ⟨ι,F,_,hv,_⟩:=r
  have:=hv.eval c
  rw[hc] at this
  exact this.v_inv
 cases t with
 | true=>exact wp_cond_true he (h1 rfl a w r)
 | false=>exact wp_cond_false he (h0 rfl a w r)
def blockQ (id:Nat) (Q:Exit→AS→Prop):Exit→AS→Prop
 | .exit id',s=>if id'=id then Q .normal s else Q (.exit id') s
 | e,s=>Q e s
theorem AW.block [Mode] {id:Nat}{c:Code} (h:AW P C c (blockQ id Q) s):AW P C (.block id c) Q s:=fun a w r=>wp_block (wp_mono (h a w r) fun e a' w' ⟨s',q,r'⟩=>by
 cases e<;>simp only[blockQ] at q<;>simp only[Exit.inBlock]<;>first
  | (split at q<;>(rename_i he;first|rw[if_pos he]|rw[if_neg he])<;>exact ⟨s',q,r'⟩)
  | exact ⟨s',q,r'⟩)
theorem AW.region [Mode] {id:Nat}{l:List Oper} (h:AL P C l.toArray Q l s):AW P C (.region id l.toArray false) Q s:=fun a w r=>wp_region_lit (h a w r)
def Le [Mode] (C:Ctx) (s s':AS):Prop:=∀ a w,RS C s a w→RS C s' a w
theorem Le.refl [Mode] (s:AS):Le C s s:=fun _ _ r=>r
theorem Le.trans [Mode] {s s' s'':AS} (h:Le C s s') (h':Le C s' s''):Le C s s'':=fun a w r=>h' a w (h a w r)
theorem AW.le [Mode] {c:Code}{s':AS} (h:AW P C c Q s') (hl:Le C s s'):AW P C c Q s:=fun a w r=>h a w (hl a w r)
theorem AW.loop [Mode] {X:Type}{c:Code} (St:X→AS) (μ:X→Nat) (x0:X) (h0:Le C s (St x0)) (round:∀ x,AW P C c (thenQ (fun s'=>∃ x',Le C s' (St x')∧μ x'<μ x) Q) (St x)):AW P C (.loop c) Q s:=by
 intro a w r b k cs
 have key:∀ n x a w,μ x=n→RS C (St x) a w→
   ∃ e a' w',Lift C Q e a' w'∧Arrives P (lone (b.at a (.code c :: .inLoop c :: k)) cs w) b k cs e a' w':=by
  intro n
  induction n using Nat.strongRecOn with
  | _ n ih=>
   intro x a w hn hI
   obtain ⟨e,a₁,w₁,⟨s₁,hq,hr⟩,harr⟩:=round x a w hI b (.inLoop c :: k) cs
   cases e with
   | normal=>
    obtain ⟨x',hle,hlt⟩:=hq
    obtain ⟨e₂,a₂,w₂,hq₂,harr₂⟩:=ih (μ x') (hn▸hlt) x' a₁ w₁ rfl (hle _ _ hr)
    exact ⟨e₂,a₂,w₂,hq₂,.of_steps (Steps.trans harr (.one step_inLoop)) harr₂⟩
   | exit id=>exact ⟨_,a₁,w₁,⟨s₁,hq,hr⟩,.pass (x:=.inLoop c) rfl (fun _ _=>.inl (by simp)) harr⟩
   | goto l=>exact ⟨_,a₁,w₁,⟨s₁,hq,hr⟩,.pass (x:=.inLoop c) rfl (fun _ _=>.inl (by simp)) harr⟩
   | ret=>exact ⟨_,a₁,w₁,⟨s₁,hq,hr⟩,.pass (x:=.inLoop c) rfl (fun _ _=>.inl (by simp)) harr⟩
   | panic ch=>exact ⟨_,a₁,w₁,⟨s₁,hq,hr⟩,.pass (x:=.inLoop c) rfl (fun _ _=>.inl (by simp)) harr⟩
   | outgrown=>exact ⟨_,a₁,w₁,⟨s₁,hq,hr⟩,.pass (x:=.inLoop c) rfl (fun _ _=>.inl (by simp)) harr⟩
 obtain ⟨e,a',w',hq,harr⟩:=key _ x0 a w rfl (h0 _ _ r)
 exact ⟨e,a',w',hq,.of_steps (.one step_loop) harr⟩
end
end
section
open Go Go.RowKit
structure TE where
 val:AV
 reads:List Loc
 wr:List W
 on:Bool
structure TO where
 i:Nat
 o:Oper
 t:TE
section
variable {P : Program} {ops : Array Oper} {n0 : Nat}
def EvOk [Mode] (P:Program) (ops:Array Oper) (n0:Nat) (x:TO) (fr:List AV) (H:Heap):Prop:=
 GuardIs ops fr x.o x.t.on∧(x.t.on=true→OpOk P x.o (evalF fr) x.t.reads H (n0+x.i) x.t.val x.t.wr)∧(x.t.on=false→x.t.val = .d (.v undef)∧x.t.wr=[])
def Seq [Mode] (P:Program) (ops:Array Oper) (n0:Nat):List TO→List AV→Heap→List AV→Heap→Prop
 | [],fr,H,fr',H'=>fr=fr'∧H=H'
 | x :: r,fr,H,fr',H'=>EvOk P ops n0 x fr H∧Seq P ops n0 r (putF fr x.o.dst x.t.val) (upds H x.t.wr) fr' H'
def W.num:W→Nat
 | .one l _=>l.id
 | .all id _=>id
 | .un r _=>r.id
theorem W.num_hits [Mode] {p:W}{l:Loc} (h:p.hits l=true):p.num=l.id:=by
 cases p with
 | one l' o=>simp[W.hits] at h;subst h;rfl
 | all id g=>simp[W.hits] at h;exact h.symm
 | un r g=>
  simp only[W.hits] at h
  split at h
  ·rename_i e;exact Loc.cov_id e
  ·cases h
theorem W.num_meets [Mode] {p q:W} (h:p.meets q=true):p.num=q.num:=by
 cases p with
 | one l' o=>
  cases q with
  | un r g=>simp[W.meets] at h;exact h
  | one l o=>exact (W.num_hits (p:=.one l o) h).symm
  | all id g=>exact (W.num_hits (p:=.all id g) h).symm
 | all id g=>
  cases q with
  | one l o=>simp[W.meets] at h;exact h.symm
  | all id' g'=>simp[W.meets] at h;exact h
  | un r g'=>simp[W.meets] at h;exact h
 | un r g=>
  cases q with
  | one l o=>simp[W.meets] at h;exact h
  | all id' g'=>simp[W.meets] at h;exact h
  | un r' g'=>simp[W.meets] at h;exact h
def noConf (ops:Array Oper) (x y:TO):Bool:=
 x.o.apart ops y.o&&(x.t.wr.all fun p=>!(y.t.reads.any fun l=>p.num == l.id)&&!(y.t.wr.any fun q=>p.num == q.num))&&(y.t.wr.all fun p=>!(x.t.reads.any fun l=>p.num == l.id))
theorem evalF_put [Mode] {fr:List AV}{dst:Option Tmp}{v:AV}{x:Operand} (h:∀ d,dst=some d→x≠.tmp d):evalF (putF fr dst v) x=evalF fr x:=by
 cases dst with
 | none=>rfl
 | some d=>
  cases x with
  | tmp t=>
   have hne:d≠t:=fun e=>h d rfl (e▸rfl)
   simp[evalF,putF,List.getElem?_set_ne hne]
  | _=>rfl
theorem putF_comm [Mode] (fr:List AV) {x y:Option Tmp} (v u:AV) (h:∀ d,x=some d→y≠some d):putF (putF fr x v) y u=putF (putF fr y u) x v:=by
 cases x with
 | none=>rfl
 | some d=>
  cases y with
  | none=>rfl
  | some e=>
   have hne:d≠e:=fun he=>h d rfl (he▸rfl)
   simp[putF,List.set_comm _ _ hne]
theorem W.app_other [Mode] {H:Heap}{w:W}{l:Loc} (h:w.hits l=false):w.app H l=H l:=by
 cases w with
 | one l' o=>simp only[W.hits,beq_eq_false_iff_ne] at h;exact upd_ne h
 | all id g=>simp only[W.hits,beq_eq_false_iff_ne] at h;simp[W.app,h]
 | un r g=>
  simp only[W.hits] at h
  simp only[W.app]
  split
  ·rename_i e;rw[e] at h;cases h
  ·rfl
theorem W.app_agree [Mode] {H H':Heap}{w:W}{l:Loc} (h:H l=H' l∨w.hits l=true):w.app H l=w.app H' l:=by
 cases w with
 | one l' o=>
  simp only[W.hits,beq_iff_eq] at h
  by_cases e:l=l'
  ·simp[W.app,upd,e]
  ·simp[W.app,upd,e,h.resolve_right e]
 | all id g=>
  simp only[W.hits,beq_iff_eq] at h
  by_cases e:l.id=id
  ·simp[W.app,e]
  ·simp[W.app,e,h.resolve_right e]
 | un r g=>
  simp only[W.hits] at h
  simp only[W.app]
  cases e:(if r.cov l=true then g l else none) with
  | some o=>rfl
  | none=>exact h.resolve_right (by rw[e];decide)
theorem upds_other [Mode] {l:Loc}:∀ {wr:List W}{H:Heap},(∀ p∈wr,p.hits l=false)→upds H wr l=H l
 | [],_,_=>rfl
 | w :: r,H,h=>by
  simp only[upds]
  rw[upds_other (fun p hp=>h p (by simp[hp]))]
  exact W.app_other (h w (by simp))
theorem upds_agree [Mode] {l:Loc}:∀ {wr:List W}{H H':Heap},(H l=H' l∨∃ p∈wr,p.hits l=true)→upds H wr l=upds H' wr l
 | [],_,_,h=>by simpa [upds] using h
 | w :: r,H,H',h=>by
  simp only[upds]
  apply upds_agree
  cases e:w.hits l with
  | true=>exact .inl (W.app_agree (.inr e))
  | false=>
   rcases h with h|⟨p,hp,hl⟩
   ·exact .inl (W.app_agree (.inl h))
   ·rcases List.mem_cons.1 hp with rfl|hp
    ·rw[e] at hl;cases hl
    ·exact .inr ⟨p,hp,hl⟩
theorem W.meets_of [Mode] {p q:W}{l:Loc} (hp:p.hits l=true) (hq:q.hits l=true):p.meets q=true:=by
 cases p with
 | one l' o=>
  simp only[W.hits,beq_iff_eq] at hp;subst hp
  cases q with
  | un r g=>have:=W.num_hits hq;simp only[W.num] at this;simp[W.meets,this]
  | one l o=>exact hq
  | all id g=>exact hq
 | all id g=>
  simp only[W.hits,beq_iff_eq] at hp
  cases q with
  | one l' o=>simp only[W.hits,beq_iff_eq] at hq;subst hq;simpa [W.meets] using hp
  | all id' g'=>simp only[W.hits,beq_iff_eq] at hq;simp[W.meets,← hp,← hq]
  | un r g'=>have:=W.num_hits (p:=.un r g') hq;simp only[W.num] at this;simp[W.meets,← hp,this]
 | un r g=>
  have h1:=W.num_hits (p:=.un r g) hp
  simp only[W.num] at h1
  cases q with
  | one l' o=>simp only[W.hits,beq_iff_eq] at hq;subst hq;simpa [W.meets] using h1
  | all id' g'=>simp only[W.hits,beq_iff_eq] at hq;simp[W.meets,h1,hq]
  | un r' g'=>have:=W.num_hits (p:=.un r' g') hq;simp only[W.num] at this;simp[W.meets,h1,this]
theorem upds_comm [Mode] {H:Heap}{a b:List W} (h:∀ p∈a,∀ q∈b,p.meets q=false):upds (upds H a) b=upds (upds H b) a:=by
 funext l
 by_cases ha:∃ p∈a,p.hits l=true
 ·obtain ⟨p,hp,hl⟩:=ha
  have hb:∀ q∈b,q.hits l=false:=fun q hq=>by
   cases e:q.hits l with
   | false=>rfl
   | true=>have:=W.meets_of hl e;rw[h p hp q hq] at this;cases this
  rw[upds_other (wr:=b) hb]
  exact upds_agree (.inr ⟨p,hp,hl⟩)
 ·have ha':∀ p∈a,p.hits l=false:=fun p hp=>by
   cases e:p.hits l with
   | false=>rfl
   | true=>exact absurd ⟨p,hp,e⟩ ha
  rw[upds_other (H:=upds H b) ha']
  exact upds_agree (.inl (upds_other ha'))
theorem OpOk.congr [Mode] {o:Oper}{A A':Operand→AV}{reads:List Loc}{H H':Heap}{new:Nat}{val:AV}{wr:List W} (h:OpOk P o A reads H new val wr) (hA:∀ x∈o.op.operands,A' x=A x) (hH:∀ l,Cov reads l→H' l=H l):OpOk P o A' reads H' new val wr:=
 fun ι F w H1 ρ h1 h2 h3 h4=>h ι F w H1 ρ (fun l hl=>(h1 l hl).trans (hH l hl)) h2 h3 (fun x hx=>by rw[← hA x hx];exact h4 x hx)
theorem noConf_spec [Mode] {x y:TO} (h:noConf ops x y=true):x.o.apart ops y.o=true∧(∀ p∈x.t.wr,(∀ l,Cov y.t.reads l→p.hits l=false)∧∀ q∈y.t.wr,p.meets q=false)∧(∀ p∈y.t.wr,∀ l,Cov x.t.reads l→p.hits l=false):=by
 simp only[noConf,Bool.and_eq_true,List.all_eq_true,Bool.not_eq_true',List.any_eq_false,Bool.not_eq_true,beq_eq_false_iff_ne] at h
 have key:∀ {p:W}{rs:List Loc},(∀ l∈rs,p.num≠l.id)→∀ l,Cov rs l→p.hits l=false:=fun {p rs} hk l ⟨r,hr,hc⟩=>by
  cases hh:p.hits l with
  | false=>rfl
  | true=>exact absurd ((W.num_hits hh).trans (Loc.cov_id hc).symm) (hk r hr)
 exact ⟨h.1.1,fun p hp=>⟨key fun l hl=>(h.1.2 p hp).1 l hl,fun q hq=>by
  cases hh:p.meets q with
  | false=>rfl
  | true=>exact absurd (W.num_meets hh) ((h.1.2 p hp).2 q hq)⟩,fun p hp=>key fun l hl=>h.2 p hp l hl⟩
theorem guardIs_put [Mode] {fr:List AV}{o:Oper}{on:Bool}{dst:Option Tmp}{v:AV} (h:∀ d,dst=some d→d∉o.looksAt ops):GuardIs ops (putF fr dst v) o on↔GuardIs ops fr o on:=by
 cases dst with
 | none=>exact Iff.rfl
 | some d=>
  unfold GuardIs
  cases hg:o.guard with
  | none=>exact Iff.rfl
  | some jw=>
   obtain ⟨j,want⟩:=jw
   simp only[]
   have key:∀ t,(ops[j]?).bind (·.dst)=some t→(putF fr (some d) v)[t]? = fr[t]?:=fun t ht=>by
    have hne:d≠t:=fun e=>h d rfl (by subst e;simp[Oper.looksAt,hg,ht])
    simp[putF,List.getElem?_set_ne hne]
   constructor
   ·rintro ⟨t,b,ht,hf,e⟩;exact ⟨t,b,ht,by rw[← key t ht];exact hf,e⟩
   ·rintro ⟨t,b,ht,hf,e⟩;exact ⟨t,b,ht,by rw[key t ht];exact hf,e⟩
theorem looks_of_operand [Mode] {o:Oper}{x:Operand}{d:Tmp} (hx:x∈o.op.operands) (h:d∉o.looksAt ops):x≠.tmp d:=by
 intro e;subst e
 exact h (List.mem_append_left _ (List.mem_filterMap.2 ⟨.tmp d,by simpa using hx,rfl⟩))
theorem evOk_put [Mode] {y:TO}{fr:List AV}{H H':Heap}{dst:Option Tmp}{v:AV} (h:∀ d,dst=some d→d∉y.o.looksAt ops) (hH:∀ l,Cov y.t.reads l→H' l=H l):EvOk P ops n0 y (putF fr dst v) H'↔EvOk P ops n0 y fr H:=by
 unfold EvOk
 rw[guardIs_put h]
 have he:∀ x∈y.o.op.operands,evalF (putF fr dst v) x=evalF fr x:=fun x hx=>evalF_put fun d hd=>looks_of_operand (ops:=ops) hx (h d hd)
 constructor
 ·rintro ⟨h1,h2,h3⟩;exact ⟨h1,fun hon=>(h2 hon).congr (fun x hx=>(he x hx).symm) (fun l hl=>(hH l hl).symm),h3⟩
 ·rintro ⟨h1,h2,h3⟩;exact ⟨h1,fun hon=>(h2 hon).congr he hH,h3⟩
theorem Seq.bubble [Mode] {j:TO}{r2:List TO}:∀ {r1:List TO}{fr:List AV}{H:Heap}{fr':List AV}{H':Heap},Seq P ops n0 (r1++j :: r2) fr H fr' H'→(∀ x∈r1,noConf ops x j=true)→
  EvOk P ops n0 j fr H∧Seq P ops n0 (r1++r2) (putF fr j.o.dst j.t.val) (upds H j.t.wr) fr' H'
 | [],fr,H,fr',H',h,_=>h
 | x :: r1,fr,H,fr',H',h,hc=>by
  obtain ⟨hx,hr⟩:=h
  obtain ⟨hj,hs⟩:=Seq.bubble (r1:=r1) hr fun y hy=>hc y (by simp[hy])
  obtain ⟨hap,hw,hw'⟩:=noConf_spec (hc x (by simp))
  obtain ⟨h1,h2,h3⟩:=Oper.apart_spec hap
  refine ⟨(evOk_put h1 fun l hl=>upds_other fun p hp=>(hw p hp).1 l hl).1 hj,(evOk_put h3 fun l hl=>upds_other fun p hp=>hw' p hp l hl).2 hx,?_⟩
  rw[putF_comm fr x.t.val j.t.val h2,upds_comm (fun p hp q hq=>(hw p hp).2 q hq)] at hs
  exact hs
def reach (ops:Array Oper):Nat→Nat→Nat→Bool
 | 0,_,_=>false
 | f+1,i,j=>match ops[j]? with
  | none=>false
  | some o=>(o.after.any fun e=>Region.binds .any e&&e.on == i) || (o.after.any fun e=>Region.binds .any e&&reach ops f i e.on)
def Closed (ops:Array Oper) (listed:Array Bool):Prop:=∀ j oj,ops[j]? = some oj→listed.getD j false=true→∀ e∈oj.after,Region.binds .any e=true→listed.getD e.on false=true
theorem reach_listed [Mode] {listed:Array Bool} (hcl:Closed ops listed):∀ (f i j:Nat) (o:Oper),ops[j]? = some o→(∀ e∈o.after,Region.binds .any e=true→listed.getD e.on false=true)→reach ops f i j=true→listed.getD i false=true
 | 0,i,j,o,_,_,h=>by simp[reach] at h
 | f+1,i,j,o,ho,hall,h=>by
  simp only[reach,ho,Bool.or_eq_true,Array.any_eq_true',Bool.and_eq_true,beq_iff_eq] at h
  rcases h with ⟨e,he,hb,rfl⟩|⟨e,he,hb,hr⟩
  ·exact hall e he hb
  ·cases hm:ops[e.on]? with
   | none=>cases f<;>simp[reach,hm] at hr
   | some om=>exact reach_listed hcl f i e.on om hm (hcl e.on om hm (hall e he hb)) hr
def pairOk (ops:Array Oper) (x y:TO):Bool:=noConf ops x y || reach ops 24 x.i y.i
def allPairs (ops:Array Oper):List TO→Bool
 | []=>true
 | x :: r=>(r.all fun y=>pairOk ops x y)&&allPairs ops r
def textOk (ops:Array Oper):Bool:=(List.range ops.size).all fun i=>match ops[i]? with|none=>true|some o=>o.after.all fun e=>!Region.binds .any e || decide (e.on<i)
theorem allPairs_spec [Mode]:∀ {l:List TO},allPairs ops l=true→l.Pairwise fun x y=>pairOk ops x y=true
 | [],_=>.nil
 | x :: r,h=>by
  simp only[allPairs,Bool.and_eq_true,List.all_eq_true] at h
  exact .cons (fun y hy=>h.1 y hy) (allPairs_spec h.2)
theorem textOk_spec [Mode] (h:textOk ops=true):∀ i o,ops[i]? = some o→∀ e∈o.after,Region.binds .any e=true→e.on<i:=by
 intro i o ho e he hb
 simp only[textOk,List.all_eq_true,List.mem_range] at h
 have:=h i (Array.getElem?_eq_some_iff.1 ho).1
 simp only[ho,Array.all_eq_true_iff_forall_mem,Bool.or_eq_true,Bool.not_eq_true',decide_eq_true_eq] at this
 rcases this e he with h|h
 ·rw[hb] at h;cases h
 ·exact h
theorem any_of_seq [Mode] {C:Ctx}{Q:Exit→Act→World→Prop}{fr':List AV}{H':Heap} (ht:textOk ops=true) (hfin:∀ a w,RR C (fun id=>n0+ops.size≤id) fr' H' a w→Q .normal a w) :
  ∀ (fuel:Nat) (rem:List TO) (listed:Array Bool) (fr:List AV) (H:Heap) (a:Act) (w:World),rem.length=fuel→listed.size=ops.size→(∀ i,i<ops.size→(listed.getD i true=false↔∃ x∈rem,x.i=i))→(∀ x∈rem,ops[x.i]? = some x.o)→
   rem.Pairwise (fun x y=>x.i<y.i)→rem.Pairwise (fun x y=>pairOk ops x y=true)→Closed ops listed→Seq P ops n0 rem fr H fr' H'→
   RR C (fun id=>n0+ops.size≤id∨∃ x∈rem,id=n0+x.i) fr H a w→wpAny P .any ops Q fuel listed a w
 | 0,rem,listed,fr,H,a,w,hl,hsz,hidx,hops,hsort,hpair,hcl,hseq,hr=>by
  have:rem=[]:=List.length_eq_zero_iff.1 hl
  subst this
  obtain ⟨rfl,rfl⟩:=hseq
  refine ⟨?_,hfin _ _ (hr.less fun id h=>.inl h)⟩
  cases hrd:Region.ready .any ops listed with
  | nil=>rfl
  | cons x xs=>
   have hx:x∈Region.ready .any ops listed:=by rw[hrd];simp
   obtain ⟨hun,o,ho,_⟩:=mem_ready.1 hx
   obtain ⟨y,hy,_⟩:=(hidx x (Array.getElem?_eq_some_iff.1 ho).1).1 hun
   cases hy
 | fuel+1,rem,listed,fr,H,a,w,hl,hsz,hidx,hops,hsort,hpair,hcl,hseq,hr=>by
  refine ⟨fun hnil=>?_,fun i hi=>?_⟩
  ·
   exfalso
   match rem,hl with
   | x :: r,_=>
    have hxo:=hops x (by simp)
    have hxl:=(Array.getElem?_eq_some_iff.1 hxo).1
    have:x.i∈Region.ready .any ops listed:=by
     refine mem_ready.2 ⟨(hidx x.i hxl).2 ⟨x,by simp,rfl⟩,x.o,hxo,fun e he hb=>?_⟩
     have hlt:=textOk_spec ht x.i x.o hxo e he hb
     have hel:e.on<listed.size:=by omega
     cases hle:listed.getD e.on false with
     | true=>rfl
     | false=>
      exfalso
      have h2:listed.getD e.on true=false:=by
       simp[Array.getD,hel] at hle ⊢;exact hle
      obtain ⟨y,hy,hyi⟩:=(hidx e.on (by omega)).1 h2
      rcases List.mem_cons.1 hy with rfl|hy
      ·omega
      ·have:=(List.pairwise_cons.1 hsort).1 y hy;omega
    rw[hnil] at this;cases this
  ·obtain ⟨hun,o,ho,hdep⟩:=mem_ready.1 hi
   obtain ⟨j,hj,rfl⟩:=(hidx i (Array.getElem?_eq_some_iff.1 ho).1).1 hun
   have hjo:o=j.o:=Option.some.inj (ho.symm.trans (hops j hj))
   subst hjo
   obtain ⟨r1,r2,rfl⟩:=List.append_of_mem hj
   have hno:∀ x∈r1,noConf ops x j=true:=fun x hx=>by
    have h1:=(List.pairwise_append.1 hpair).2.2 x hx j (by simp)
    simp only[pairOk,Bool.or_eq_true] at h1
    rcases h1 with h1|h1
    ·exact h1
    ·exfalso
     have h2:=reach_listed hcl 24 x.i j.i _ ho hdep h1
     have h3:=(hidx x.i (Array.getElem?_eq_some_iff.1 (hops x (by simp[hx]))).1).2 ⟨x,by simp[hx],rfl⟩
     rw[getD_both h3] at h2;cases h2
   obtain ⟨hev,hseq'⟩:=Seq.bubble hseq hno
   have hin:j.i<listed.size:=by rw[hsz];exact (Array.getElem?_eq_some_iff.1 ho).1
   have hne:∀ x∈r1++r2,x.i≠j.i:=fun x hx=>by
    have hs:=List.pairwise_append.1 hsort
    rcases List.mem_append.1 hx with h|h
    ·exact Nat.ne_of_lt (hs.2.2 x h j (by simp))
    ·exact Nat.ne_of_gt ((List.pairwise_cons.1 hs.2.1).1 x h)
   have hcl':Closed ops (listed.setIfInBounds j.i true):=by
    intro m om hm hlm e he hb
    by_cases hij:j.i=m
    ·subst hij
     have:om=j.o:=Option.some.inj (hm.symm.trans ho)
     subst this
     exact getD_set_true (hdep e he hb)
    ·rw[getD_set_ne false hij] at hlm
     exact getD_set_true (hcl m om hm hlm e he hb)
   have hsub:(r1++r2).Sublist (r1++j :: r2):=List.Sublist.append_left (List.sublist_cons_self j r2) r1
   have next:∀ a' w',RR C (fun id=>n0+ops.size≤id∨∃ x∈r1++r2,id=n0+x.i) (putF fr j.o.dst j.t.val) (upds H j.t.wr) a' w'→wpAny P .any ops Q fuel (listed.setIfInBounds j.i true) a' w':=by
    intro a' w' hr'
    refine any_of_seq ht hfin fuel (r1++r2) _ _ _ a' w' (by simp at hl ⊢;omega) (by simpa using hsz) (fun i hi=>?_) (fun x hx=>hops x (hsub.subset hx)) (hsort.sublist hsub) (hpair.sublist hsub) hcl' hseq' hr'
    by_cases hij:j.i=i
    ·subst hij
     constructor
     ·intro h;simp[Array.getD,hin] at h
     ·rintro ⟨x,hx,e⟩;exact absurd e (hne x hx)
    ·rw[getD_set_ne true hij,hidx i hi]
     constructor
     ·rintro ⟨x,hx,e⟩
      refine ⟨x,?_,e⟩
      rcases List.mem_append.1 hx with h|h
      ·exact List.mem_append_left _ h
      ·rcases List.mem_cons.1 h with rfl|h
       ·exact absurd e hij
       ·exact List.mem_append_right _ h
     ·rintro ⟨x,hx,e⟩;exact ⟨x,hsub.subset hx,e⟩
   unfold wpOp
   simp only[ho]
   obtain ⟨hg,h1,h0⟩:=hev
   have hw:Region.wanted j.o (yielded ops a.tmps)=j.t.on:=by obtain ⟨ι,F,_,hv,_⟩:=hr;exact hg.wanted hv
   rw[hw]
   have hold:∀ id,(n0+ops.size≤id∨∃ x∈r1++r2,id=n0+x.i)→(n0+ops.size≤id∨∃ x∈r1++j :: r2,id=n0+x.i)∧id≠n0+j.i:=by
    intro id hid
    have hjl:=(Array.getElem?_eq_some_iff.1 ho).1
    rcases hid with h|⟨x,hx,rfl⟩
    ·exact ⟨.inl h,by omega⟩
    ·exact ⟨.inr ⟨x,hsub.subset hx,rfl⟩,by have:=hne x hx;omega⟩
   cases hon:j.t.on with
   | true=>
    rw[if_pos rfl]
    left
    exact RR.op hr (h1 hon) (.inr ⟨j,by simp,rfl⟩) (fun a' w' hr'=>next a' w' (hr'.less hold))
   | false=>
    rw[if_neg (by simp)]
    obtain ⟨e1,e2⟩:=h0 hon
    have hr':=(hr.skip j.o.dst).less fun id hid=>(hold id hid).1
    rw[← e1] at hr'
    refine next _ _ ?_
    rw[e2];exact hr'
def AD [Mode] (P:Program) (ops:Array Oper) (n0:Nat) (Z:List AV→Heap→List TO→Prop):Nat→List Oper→List AV→Heap→List TO→Prop
 | _,[],fr,H,acc=>Z fr H acc
 | i,o :: l,fr,H,acc=>∃ te:TE,EvOk P ops n0 ⟨i,o,te⟩ fr H∧AD P ops n0 Z (i+1) l (putF fr o.dst te.val) (upds H te.wr) (acc++[⟨i,o,te⟩])
theorem AD.seq [Mode] {Z:List AV→Heap→List TO→Prop}:∀ {l:List Oper}{i:Nat}{fr:List AV}{H:Heap}{acc:List TO},AD P ops n0 Z i l fr H acc→
  ∃ (tr:List TO) (fr':List AV) (H':Heap),tr.length=l.length∧(∀ k o,l[k]? = some o→∃ x,tr[k]? = some x∧x.i=i+k∧x.o=o)∧Seq P ops n0 tr fr H fr' H'∧Z fr' H' (acc++tr)
 | [],i,fr,H,acc,h=>⟨[],fr,H,rfl,fun k o h=>by simp at h,⟨rfl,rfl⟩,by simpa [AD] using h⟩
 | o :: l,i,fr,H,acc,h=>by
  obtain ⟨te,hev,h⟩:=h
  obtain ⟨tr,fr',H',hlen,hix,hseq,hz⟩:=AD.seq h
  refine ⟨⟨i,o,te⟩ :: tr,fr',H',by simp[hlen],fun k o' hk=>?_,⟨hev,hseq⟩,by simpa using hz⟩
  cases k with
  | zero=>simp at hk;subst hk;exact ⟨_,rfl,rfl,rfl⟩
  | succ k=>
   simp at hk
   obtain ⟨x,h1,h2,h3⟩:=hix k o' hk
   exact ⟨x,by simpa using h1,by omega,h3⟩
theorem AW.draw [Mode] {C:Ctx}{Q:Exit→AS→Prop}{s:AS}{id:Nat}{l:List Oper} (hm:P.follows .mixedOrders=true) (ht:textOk l.toArray=true)
  (h:AD P l.toArray s.next (fun fr H tr=>allPairs l.toArray tr=true∧Q .normal ⟨fr,H,s.next+l.length⟩) 0 l s.fr s.H []):AW P C (.region id l.toArray true) Q s:=by
 intro a w r
 obtain ⟨tr,fr',H',hlen,hix,hseq,hp,hq⟩:=h.seq
 simp only[List.nil_append] at hp
 have hget:∀ x∈tr,∃ k,tr[k]? = some x∧x.i=k∧l[k]? = some x.o:=fun x hx=>by
  obtain ⟨k,hk⟩:=List.getElem?_of_mem hx
  have hkl:k<l.length:=by rw[← hlen];exact (List.getElem?_eq_some_iff.1 hk).1
  obtain ⟨y,h1,h2,h3⟩:=hix k _ (List.getElem?_eq_getElem hkl)
  have:x=y:=Option.some.inj (hk.symm.trans h1)
  subst this
  exact ⟨k,hk,by omega,by rw[h3];exact List.getElem?_eq_getElem hkl⟩
 refine wp_region_any hm ?_
 refine any_of_seq (n0:=s.next) (fr':=fr') (H':=H') ht (fun a w r=>⟨_,hq,r.less fun id hid=>by simpa using hid⟩) _ tr _ s.fr s.H a _ (by simpa using hlen) (by simp) (fun i hi=>?_) (fun x hx=>?_) ?_ (allPairs_spec hp) ?_ hseq (RR.drew (RR.less r ?_))
 ·have hi':i<l.length:=by simpa using hi
  obtain ⟨y,h1,h2,h3⟩:=hix i _ (List.getElem?_eq_getElem hi')
  constructor
  ·intro _;exact ⟨y,List.mem_of_getElem? h1,by omega⟩
  ·intro _;simp[Array.getD,hi']
 ·obtain ⟨k,_,rfl,h⟩:=hget x hx
  simpa using h
 ·rw[List.pairwise_iff_getElem]
  intro i j hi hj hij
  have h1:=hget tr[i] (List.getElem_mem hi)
  have hi':=hix i _ (List.getElem?_eq_getElem (by omega:i<l.length))
  have hj':=hix j _ (List.getElem?_eq_getElem (by omega:j<l.length))
  obtain ⟨y,e1,e2,_⟩:=hi'
  obtain ⟨z,e3,e4,_⟩:=hj'
  rw[List.getElem?_eq_getElem hi] at e1;cases e1
  rw[List.getElem?_eq_getElem hj] at e3;cases e3
  omega
 ·intro j oj _ hl
  rw[getD_replicate_false] at hl;cases hl
 ·intro id hid
  rcases hid with h|⟨x,_,rfl⟩
  ·have h':s.next+l.length≤id:=by simpa using h
   show s.next≤id
   omega
  ·show s.next≤s.next+x.i
   omega
end
end
section
open Go Go.RowKit
section
variable {ι : Iota} {F : Nat → Prop} {H : Heap} {w : World}
theorem ext_rfl [Mode] (ι:Iota):Ext ι ι:=fun _ _ h=>h
def updι (ι:Iota) (l:Loc) (x:Option (Nat × Nat)):Iota:=fun l'=>if l'=l then some x else ι l'
theorem ext_updι [Mode] {l:Loc}{x:Option (Nat × Nat)} (h:ι l=none):Ext ι (updι ι l x):=by
 intro l' y hy
 unfold updι
 split
 ·rename_i e;subst e;rw[h] at hy;cases hy
 ·exact hy
theorem Post.alloc [Mode] (hs:Sim ι F H w) {new:Nat} (hn:∀ k,ι ⟨new,k⟩=none) (cs:List Value) (T:TypeId) (o:AObj) (hl:o.rows.length*o.k≤cs.length)
  (h:∀ (i:Nat) r,o.rows[i]? = some r→r.length=o.k∧∀ (j:Nat) c,r[j]? = some c→∃ v,cs[i*o.k+j]? = some v∧VR ι F w c v) (reads:List Loc) :
  Post ι F H w reads new (updι ι ⟨new,[]⟩ (some (w.heap.size,cs.length))) F (upd H ⟨new,[]⟩ (some o)) (w.alloc (.cells cs.toArray T)):=by
 have he:Ext ι (updι ι ⟨new,[]⟩ (some (w.heap.size,cs.length))):=ext_updι (hn [])
 have hw:∀ b,b<w.heap.size→(w.alloc (.cells cs.toArray T)).heap[b]? = w.heap[b]?:=fun b hb=>Below.heap_alloc _ _ _ hb
 have hF:∀ b,F b→(w.alloc (.cells cs.toArray T)).heap[b]? = w.heap[b]?:=fun b hb=>hw b (hs.lt b hb)
 have hnew:H ⟨new,[]⟩=none:=hs.isNone (hn [])
 have hval:updι ι ⟨new,[]⟩ (some (w.heap.size,cs.length)) ⟨new,[]⟩=some (some (w.heap.size,cs.length)):=by simp[updι]
 have hoth:∀ l,l≠⟨new,[]⟩→updι ι ⟨new,[]⟩ (some (w.heap.size,cs.length)) l=ι l:=fun l hl=>by simp[updι,hl]
 have hHoth:∀ l,l≠⟨new,[]⟩→upd H ⟨new,[]⟩ (some o) l=H l:=fun l hl=>upd_ne hl
 refine ⟨⟨fun l ob hob=>?_,fun l l' b s s' h1 h2 e1 e2=>?_,fun l b s h1 e1=>?_,fun b hb=>?_,hs.gl.mono (fun _ h=>h) hF⟩,he,fun l hl=>?_,fun _ h=>h,fun _ h=>.inl h,⟨rfl,rfl,rfl,by simp,fun b hb _=>hw b hb⟩,fun l b s h1 e1=>?_⟩
 ·by_cases hl':l=⟨new,[]⟩
  ·subst hl'
   rw[upd_same] at hob;cases hob
   exact .inr ⟨w.heap.size,cs,T,hval,heap_alloc_new w _,hl,fun i r hr=>⟨(h i r hr).1,fun j c hc=>let ⟨v,h1,h2⟩:=(h i r hr).2 j c hc;⟨v,h1,h2.mono he (fun _ h=>h) hF⟩⟩⟩
  ·rw[hHoth l hl'] at hob
   exact (hs.obj l ob hob).mono he (fun _ h=>h) hF (fun b s e=>hw b (hs.blt (by rw[hob];simp) e))
 ·by_cases hl1:l=⟨new,[]⟩<;>by_cases hl2:l'=⟨new,[]⟩
  ·rw[hl1,hl2]
  ·exfalso
   subst hl1
   rw[hval] at e1;rw[hoth _ hl2] at e2;rw[hHoth _ hl2] at h2
   simp only[Option.some.injEq,Prod.mk.injEq] at e1
   have:=hs.blt h2 e2;omega
  ·exfalso
   subst hl2
   rw[hval] at e2;rw[hoth _ hl1] at e1;rw[hHoth _ hl1] at h1
   simp only[Option.some.injEq,Prod.mk.injEq] at e2
   have:=hs.blt h1 e1;omega
  ·rw[hoth _ hl1] at e1;rw[hoth _ hl2] at e2;rw[hHoth _ hl1] at h1;rw[hHoth _ hl2] at h2
   exact hs.inj l l' b s s' h1 h2 e1 e2
 ·by_cases hl1:l=⟨new,[]⟩
  ·subst hl1
   rw[hval] at e1
   simp only[Option.some.injEq,Prod.mk.injEq] at e1
   intro hb;have:=hs.lt b hb;omega
  ·rw[hoth _ hl1] at e1;rw[hHoth _ hl1] at h1
   exact hs.notF l b s h1 e1
 ·have:=hs.lt b hb;simp;omega
 ·by_cases hl1:l=⟨new,[]⟩
  ·right;rw[hl1]
  ·left;rwa [hoth _ hl1] at hl
 ·by_cases hl1:l=⟨new,[]⟩
  ·subst hl1
   rw[hval] at e1
   simp only[Option.some.injEq,Prod.mk.injEq] at e1
   right;omega
  ·rw[hoth _ hl1] at e1;rw[hHoth _ hl1] at h1
   exact .inl ⟨l,h1,s,e1⟩
theorem Post.allocNil [Mode] (hs:Sim ι F H w) {new:Nat} (hn:∀ k,ι ⟨new,k⟩=none) (k:Nat) (reads:List Loc) :
  Post ι F H w reads new (updι ι ⟨new,[]⟩ none) F (upd H ⟨new,[]⟩ (some ⟨k,[]⟩)) w:=by
 have he:Ext ι (updι ι ⟨new,[]⟩ none):=ext_updι (hn [])
 have hval:updι ι ⟨new,[]⟩ none ⟨new,[]⟩=some none:=by simp[updι]
 have hoth:∀ l,l≠⟨new,[]⟩→updι ι ⟨new,[]⟩ none l=ι l:=fun l hl=>by simp[updι,hl]
 have hHoth:∀ l,l≠⟨new,[]⟩→upd H ⟨new,[]⟩ (some ⟨k,[]⟩) l=H l:=fun l hl=>upd_ne hl
 refine ⟨⟨fun l ob hob=>?_,fun l l' b s s' h1 h2 e1 e2=>?_,fun l b s h1 e1=>?_,hs.lt,hs.gl⟩,he,fun l hl=>?_,fun _ h=>h,fun _ h=>.inl h,Step.refl _ _,fun l b s h1 e1=>?_⟩
 ·by_cases hl':l=⟨new,[]⟩
  ·subst hl'
   rw[upd_same] at hob;cases hob
   exact .inl ⟨hval,rfl⟩
  ·rw[hHoth l hl'] at hob
   exact (hs.obj l ob hob).mono he (fun _ h=>h) (fun _ _=>rfl) (fun b s e=>rfl)
 ·by_cases hl1:l=⟨new,[]⟩
  ·subst hl1;rw[hval] at e1;cases e1
  ·by_cases hl2:l'=⟨new,[]⟩
   ·subst hl2;rw[hval] at e2;cases e2
   ·rw[hoth _ hl1] at e1;rw[hoth _ hl2] at e2;rw[hHoth _ hl1] at h1;rw[hHoth _ hl2] at h2
    exact hs.inj l l' b s s' h1 h2 e1 e2
 ·by_cases hl1:l=⟨new,[]⟩
  ·subst hl1;rw[hval] at e1;cases e1
  ·rw[hoth _ hl1] at e1;rw[hHoth _ hl1] at h1
   exact hs.notF l b s h1 e1
 ·by_cases hl1:l=⟨new,[]⟩
  ·right;rw[hl1]
  ·left;rwa [hoth _ hl1] at hl
 ·by_cases hl1:l=⟨new,[]⟩
  ·subst hl1;rw[hval] at e1;cases e1
  ·rw[hoth _ hl1] at e1;rw[hHoth _ hl1] at h1
   exact .inl ⟨l,h1,s,e1⟩
theorem heap_setRow_ne [Mode] (w:World) (g:Nat) (cs:Array Value) (b:Nat) (h:b≠g):(w.setRow g cs).heap[b]? = w.heap[b]?:=by
 simp only[World.setRow,Array.getElem?_modify]
 rw[if_neg (by omega)]
theorem Post.write [Mode] (hs:Sim ι F H w) {l:Loc}{o o':AObj}{b:Nat}{cs cs':List Value}{T:TypeId} (hl:H l=some o) (he:ι l=some (some (b,cs.length))) (hb:w.heap[b]? = some (.cells cs.toArray T (0,0))) (hlen:cs'.length=cs.length)
  (hsz:o'.rows.length*o'.k≤cs'.length) (h:∀ (i:Nat) r,o'.rows[i]? = some r→r.length=o'.k∧∀ (j:Nat) c,r[j]? = some c→∃ v,cs'[i*o'.k+j]? = some v∧VR ι F w c v) (reads:List Loc) (hr:Cov reads l) (new:Nat) :
  Post ι F H w reads new ι F (upd H l (some o')) (w.setRow b cs'.toArray):=by
 have hH:∀ l',upd H l (some o') l'≠none→H l'≠none:=fun l' h'=>by
  by_cases e:l'=l
  ·subst e;rw[hl];simp
  ·rwa [upd_ne e] at h'
 have hF:∀ b',F b'→(w.setRow b cs'.toArray).heap[b']? = w.heap[b']?:=fun b' hb'=>heap_setRow_ne _ _ _ _ fun e=>by
  subst e;exact hs.notF l b' _ (by rw[hl];simp) he hb'
 refine ⟨⟨fun l' ob hob=>?_,fun l1 l2 b s s' h1 h2 e1 e2=>hs.inj l1 l2 b s s' (hH _ h1) (hH _ h2) e1 e2,fun l1 b s h1 e1=>hs.notF l1 b s (hH _ h1) e1,fun b' hb'=>by simpa [World.setRow] using hs.lt b' hb',hs.gl.mono (fun _ h=>h) hF⟩,ext_rfl ι,fun _ h=>.inl h,fun _ h=>h,fun _ h=>.inl h,
  ⟨rfl,rfl,rfl,by simp[World.setRow],fun b' _ hno=>heap_setRow_ne _ _ _ _ fun e=>hno ⟨l,hr,by rw[hl];simp,cs.length,by rw[e];exact he⟩⟩,fun l1 b s h1 e1=>.inl ⟨l1,hH _ h1,s,e1⟩⟩
 by_cases e:l'=l
 ·subst e
  rw[upd_same] at hob;cases hob
  refine .inr ⟨b,cs',T,by rw[hlen];exact he,by simpa using setRow_heap w b cs.toArray cs'.toArray T (0,0) hb,hsz,fun i r hr=>⟨(h i r hr).1,fun j c hc=>?_⟩⟩
  obtain ⟨v,h1,h2⟩:=(h i r hr).2 j c hc
  exact ⟨v,h1,h2.mono (ext_rfl ι) (fun _ h=>h) hF⟩
 ·rw[upd_ne e] at hob
  refine (hs.obj l' ob hob).mono (ext_rfl ι) (fun _ h=>h) hF (fun b' s e'=>heap_setRow_ne _ _ _ _ fun eb=>?_)
  subst eb
  exact e (hs.inj l' l b' s _ (by rw[hob];simp) (by rw[hl];simp) e' he)
theorem Sim.drop [Mode] (hs:Sim ι F H w) (l:Loc):Sim ι F (upd H l none) w:=by
 have hH:∀ l',upd H l none l'≠none→H l'≠none∧l'≠l:=fun l' h'=>by
  by_cases e:l'=l
  ·subst e;rw[upd_same] at h';exact absurd rfl h'
  ·exact ⟨by rwa [upd_ne e] at h',e⟩
 refine ⟨fun l' ob hob=>?_,fun l1 l2 b s s' h1 h2 e1 e2=>hs.inj l1 l2 b s s' (hH _ h1).1 (hH _ h2).1 e1 e2,fun l1 b s h1 e1=>hs.notF l1 b s (hH _ h1).1 e1,hs.lt,hs.gl⟩
 have:=hH l' (by rw[hob];simp)
 rw[upd_ne this.2] at hob
 exact hs.obj l' ob hob
end
def AV.one:AV→Bool
 | .agg _|.tup _|.dead=>false
 | .d (.v x)=>x.oneCell'
 | _=>true
theorem VR.one [Mode] {ι:Iota}{F:Nat→Prop}{w:World}{c:AV}{v:Value} (h:VR ι F w c v) (hc:c.one=true):v.oneCell'=true:=by
 cases h with
 | d h=>cases h with
  | v x=>exact hc
  | sl=>rfl
 | agg=>cases hc
 | tup=>cases hc
 | own=>rfl
 | ownNil=>rfl
 | ownc=>rfl
 | owncNil=>rfl
 | ptr=>rfl
 | dptr=>rfl
 | clo=>rfl
 | dead=>cases hc
def AV.cells:AV→List AV
 | .agg cs=>cs
 | c=>[c]
theorem VR.cells [Mode] {ι:Iota}{F:Nat→Prop}{w:World}{c:AV}{v:Value} (h:VR ι F w c v) (hc:c.cells.all AV.one=true):VRs ι F w c.cells v.cells.toList∧∀ u∈v.cells.toList,u.oneCell'=true:=by
 cases c with
 | agg cs=>
  obtain ⟨vs,rfl,h'⟩:=h.agg_inv
  refine ⟨by simpa [AV.cells,Value.cells] using h',fun u hu=>?_⟩
  simp only[Value.cells] at hu
  obtain ⟨i,hi⟩:=List.getElem?_of_mem hu
  simp only[AV.cells,List.all_eq_true] at hc
  have hl:i<cs.length:=by rw[← h'.1];exact (List.getElem?_eq_some_iff.1 hi).1
  exact (h'.2 i _ u (List.getElem?_eq_getElem hl) hi).one (hc cs[i] (List.getElem_mem hl))
 | _=>
  simp only[AV.cells,List.all_cons,List.all_nil,Bool.and_true] at hc
  have h1:=h.one hc
  have hv:v.cells = #[v]:=by cases v<;>first|rfl|(simp[Value.oneCell'] at h1)
  rw[hv]
  exact ⟨.cons h .nil,fun u hu=>by simp at hu;rw[hu];exact h1⟩
def isAggD:TypeDesc→Bool
 | .struct _|.array _ _=>true
 | _=>false
class TyAgg (P:Program) (t:TypeId) (n:outParam Nat):Prop where
 u:(P.underlying t).map isAggD=some true
 s:(P.info? t).map (·.size)=some n
class TyCell (P:Program) (t:TypeId):Prop where
 u:(P.underlying t).map isAggD=some false
 s:(P.info? t).map (·.size)=some 1
class TyZero (P:Program) (t:TypeId) (z:outParam Value):Prop where
 z:(P.info? t).map (·.zero)=some (some z)
class TySlice (P:Program) (t:TypeId) (e:outParam TypeId) (k b:outParam Nat) (z:outParam Value):Prop where
 u:P.underlying t=some (.slice e)
 s:(P.info? e).map (fun i=>(i.size,i.bytes,i.zero))=some (k,b,some z)
 zs:z.cells.size=k
class TyField (P:Program) (s:TypeId) (f:Nat) (off:outParam Nat) (t:outParam TypeId) (n:outParam Nat):Prop where
 u:(match P.underlying s with|some (.struct fs)=>(fs[f]?).map fun x=>(x.offset,x.type)|_=>none)=some (off,t)
 s:(P.info? t).map (·.size)=some n
class TyString (P:Program) (t:TypeId):Prop where
 u:P.underlying t=some .string
section
variable {P : Program} {w : World}
theorem run_isAgg [Mode] {t:TypeId}{b:Bool} (h:(P.underlying t).map isAggD=some b):(isAgg t).run P w = .ok b w:=by
 cases hd:P.underlying t with
 | none=>rw[hd] at h;cases h
 | some d=>
  rw[hd] at h
  simp only[Option.map_some,Option.some.injEq] at h
  subst h
  simp only[isAgg,Sem.run_bind,run_underlying hd,Result.andThen_ok]
  cases d<;>rfl
theorem run_sizeOf' [Mode] {t:TypeId}{n:Nat} (h:(P.info? t).map (·.size)=some n):(sizeOf t).run P w = .ok n w:=by
 cases hd:P.info? t with
 | none=>rw[hd] at h;cases h
 | some i=>
  rw[hd] at h
  simp only[Option.map_some,Option.some.injEq] at h
  subst h
  simp[sizeOf,typeInfo,hd]
theorem addr_add [Mode] (b o j:Nat):(⟨b,o,none⟩:Addr).add j=⟨b,o+j,none⟩:=by unfold Addr.add;split<;>simp_all
theorem run_loadVar_agg [Mode] {t:TypeId}{n:Nat} [h:TyAgg P t n] {b o:Nat}{cs:List Value} (hl:cs.length=n) (hc:∀ j v,cs[j]? = some v→w.cell? ⟨b,o+j,none⟩=some v):(loadVar t ⟨b,o,none⟩).run P w = .ok (.agg cs.toArray) w:=by
 have h1:=run_loadCells_list (P:=P) w ⟨b,o,none⟩ cs (fun j v hj=>by rw[addr_add];exact hc j v hj)
 rw[hl] at h1
 simp only[loadVar,Sem.run_bind,run_isAgg h.u,Result.andThen_ok,if_true,run_sizeOf' h.s,h1]
 rfl
theorem run_loadVar_cell [Mode] {t:TypeId} [h:TyCell P t] {a:Addr}{v:Value} (hc:w.cell? a=some v):(loadVar t a).run P w = .ok v w:=by
 simp only[loadVar,Sem.run_bind,run_isAgg h.u,Result.andThen_ok]
 simp[load,Sem.run,hc]
theorem run_storeVar [Mode] {t:TypeId}{n:Nat} (hs:(P.info? t).map (·.size)=some n) {b o:Nat}{cs:List Value}{T:TypeId}{v:Value} (hb:w.heap[b]? = some (.cells cs.toArray T (0,0))) (hl:v.cells.size=n) (hfit:o+n≤cs.length) (h1:∀ u∈v.cells.toList,u.oneCell'=true) :
  (storeVar t ⟨b,o,none⟩ v).run P w = .ok () (w.setRow b (cs.take o++v.cells.toList++cs.drop (o+n)).toArray):=by
 have h2:=run_storeCells_at P b o T v.cells.toList 0 cs.toArray w hb (by simp;omega) h1
 simp only[Nat.add_zero,Array.length_toList,hl] at h2
 simp only[storeVar,Sem.run_bind,run_sizeOf' hs,Result.andThen_ok,hl,ne_eq,not_true_eq_false,if_false]
 simpa using h2
end
section
variable {P : Program} {o : Oper} {A : Operand → AV} {H : Heap} {new : Nat}
theorem OpOk.still [Mode] {val:AV} (reads:List Loc) (h:∀ (ι:Iota) (F:Nat→Prop) (w:World) (H1:Heap) (ρ:Operand→Value),(∀ l,Cov reads l→H1 l=H l)→Sim ι F H1 w→(∀ x∈o.op.operands,VR ι F w (A x) (ρ x))→∃ v,(execOp ρ o).run P w = .ok (.value v) w∧VR ι F w val v) :
  OpOk P o A reads H new val []:=by
 intro ι F w H1 ρ h1 h2 h3 h4
 obtain ⟨v,hr,hv⟩:=h ι F w H1 ρ h1 h3 h4
 rw[hr]
 exact ⟨ι,F,hv,Post.same h3 reads new⟩
theorem OpOk.move [Mode] {x:Operand} (ho:o.op = .move x):OpOk P o A [] H new (A x) []:=
 .still [] fun ι F w H1 ρ _ _ hv=>⟨ρ x,by simp[execOp,ho],hv x (by simp[ho,Op.operands])⟩
theorem OpOk.assign [Mode] {x:Operand} (ho:o.op = .assign x):OpOk P o A [] H new (A x) []:=
 .still [] fun ι F w H1 ρ _ _ hv=>⟨ρ x,by simp[execOp,ho],hv x (by simp[ho,Op.operands])⟩
theorem OpOk.pick [Mode] {c x y:Operand}{b:Bool} (ho:o.op = .pick c x y) (hc:A c = .d (.v (.bool b))):OpOk P o A [] H new (if b then A x else A y) []:=
 .still [] fun ι F w H1 ρ _ _ hv=>by
  have h1:=hv c (by simp[ho,Op.operands])
  rw[hc] at h1
  have h2:=h1.v_inv
  refine ⟨if b then ρ x else ρ y,by simp[execOp,ho,h2,asBool],?_⟩
  cases b
  ·exact hv y (by simp[ho,Op.operands])
  ·exact hv x (by simp[ho,Op.operands])
theorem OpOk.box [Mode] {t:TypeId}{x:Operand} (ho:o.op = .box t x) (h1:(A x).cells.all AV.one=true):OpOk P o A [] H new (.ptr (A x).cells.length ⟨new,[]⟩ 0 0) [.one ⟨new,[]⟩ (some ⟨(A x).cells.length,[(A x).cells]⟩)]:=by
 intro ι F w H1 ρ _ hn hs hv
 obtain ⟨hc,hone⟩:=(hv x (by simp[ho,Op.operands])).cells h1
 have hrun:(execOp ρ o).run P w = .ok (.value (.pointer (some ⟨w.heap.size,0,none⟩))) (w.alloc (.cells (ρ x).cells t)):=by
  simp[execOp,ho,Instr.box,newVar,newRow]
 rw[hrun]
 refine ⟨updι ι ⟨new,[]⟩ (some (w.heap.size,(ρ x).cells.toList.length)),F,?_,?_⟩
 rotate_left
 ·have:=Post.alloc hs hn (ρ x).cells.toList t ⟨(A x).cells.length,[(A x).cells]⟩ (by simp[hc.1]) (fun i r hr=>?_) []
  ·simpa [upds,W.app] using this
  ·cases i with
   | zero=>
    simp at hr;subst hr
    refine ⟨rfl,fun j c hj=>?_⟩
    obtain ⟨v,h1,h2⟩:=hc.get hj
    exact ⟨v,by simpa using h1,h2⟩
   | succ i=>simp at hr
 ·have:=VR.ptr (ι:=updι ι ⟨new,[]⟩ (some (w.heap.size,(ρ x).cells.toList.length))) (F:=F) (w:=w.alloc (.cells (ρ x).cells t)) (A x).cells.length ⟨new,[]⟩ 0 0 w.heap.size (ρ x).cells.toList.length (by simp[updι])
  simpa using this
theorem OpOk.alloc [Mode] {t:TypeId}{z:Value} (ho:o.op = .alloc t) [hz:TyZero P t z]:OpOk P o A [] H new (.ptr z.cells.size ⟨new,[]⟩ 0 0) [.one ⟨new,[]⟩ (some ⟨z.cells.size,[z.cells.toList.map fun x=>.d (.v x)]⟩)]:=by
 intro ι F w H1 ρ _ hn hs hv
 have hrun:(execOp ρ o).run P w = .ok (.value (.pointer (some ⟨w.heap.size,0,none⟩))) (w.alloc (.cells z.cells t)):=by
  have:=hz.z
  cases hi:P.info? t with
  | none=>rw[hi] at this;cases this
  | some i=>
   rw[hi] at this
   simp at this
   simp[execOp,ho,Instr.alloc,zeroValue,typeInfo,hi,this,newVar,newRow]
 rw[hrun]
 refine ⟨updι ι ⟨new,[]⟩ (some (w.heap.size,z.cells.toList.length)),F,?_,?_⟩
 rotate_left
 ·have:=Post.alloc hs hn z.cells.toList t ⟨z.cells.size,[z.cells.toList.map fun x=>.d (.v x)]⟩ (by simp) (fun i r hr=>?_) []
  ·simpa [upds,W.app] using this
  ·cases i with
   | zero=>
    simp at hr;subst hr
    refine ⟨by simp,fun j c hj=>?_⟩
    simp only[List.getElem?_map,Option.map_eq_some_iff] at hj
    obtain ⟨v,h1,rfl⟩:=hj
    exact ⟨v,by simpa using h1,.d (.v _)⟩
   | succ i=>simp at hr
 ·have:=VR.ptr (ι:=updι ι ⟨new,[]⟩ (some (w.heap.size,z.cells.toList.length))) (F:=F) (w:=w.alloc (.cells z.cells t)) z.cells.size ⟨new,[]⟩ 0 0 w.heap.size z.cells.toList.length (by simp[updι])
  simpa using this
theorem Sim.row [Mode] {ι:Iota}{F:Nat→Prop}{w:World} (hs:Sim ι F H w) {l:Loc}{ob:AObj} (hl:H l=some ob) {i:Nat}{r:List AV} (hr:ob.rows[i]? = some r) :
  ∃ (b:Nat) (cs:List Value) (T:TypeId),ι l=some (some (b,cs.length))∧w.heap[b]? = some (.cells cs.toArray T (0,0))∧r.length=ob.k∧(i+1)*ob.k≤cs.length∧∀ (j:Nat) c,r[j]? = some c→∃ v,cs[i*ob.k+j]? = some v∧VR ι F w c v:=by
 rcases hs.obj l ob hl with ⟨_,e⟩|⟨b,cs,T,e,hb,hlen,h⟩
 ·rw[e] at hr;simp at hr
 ·refine ⟨b,cs,T,e,hb,(h i r hr).1,Nat.le_trans (Nat.mul_le_mul_right _ ?_) hlen,(h i r hr).2⟩
  exact (List.getElem?_eq_some_iff.1 hr).1
theorem cell_of_cells [Mode] {w:World}{b:Nat}{cs:List Value}{T:TypeId} (hb:w.heap[b]? = some (.cells cs.toArray T (0,0))) {j:Nat}{v:Value} (h:cs[j]? = some v):w.cell? ⟨b,j,none⟩=some v:=by
 simp[World.cell?,hb,h]
theorem OpOk.loadCell [Mode] {t:TypeId}{a:Operand}{k i j:Nat}{l:Loc}{ob:AObj}{r:List AV}{c:AV} (ho:o.op = .load t a) (ha:A a = .ptr k l i j) [TyCell P t] (hl:H l=some ob) (hk:ob.k=k) (hr:ob.rows[i]? = some r) (hc:r[j]? = some c):OpOk P o A [l] H new c []:=
 .still [l] fun ι F w H1 ρ h1 hs hv=>by
  have h2:=hv a (by simp[ho,Op.operands])
  rw[ha] at h2
  obtain ⟨b,sz,e,hp⟩:=h2.ptr_inv
  obtain ⟨b',cs,T,e',hb,hrl,hfit,hcells⟩:=hs.row ((h1 l (.mem (by simp))).trans hl) hr
  rw[e] at e';simp only[Option.some.injEq,Prod.mk.injEq] at e'
  obtain ⟨rfl,rfl⟩:=e'
  obtain ⟨v,h3,h4⟩:=hcells j c hc
  subst hk
  exact ⟨v,by simp[execOp,ho,hp,Instr.loadAt,Instr.sureAddr,run_loadVar_cell (cell_of_cells hb h3)],h4⟩
theorem OpOk.loadAgg [Mode] {t:TypeId}{a:Operand}{k i j n:Nat}{l:Loc}{ob:AObj}{r:List AV} (ho:o.op = .load t a) (ha:A a = .ptr k l i j) [TyAgg P t n] (hl:H l=some ob) (hk:ob.k=k) (hr:ob.rows[i]? = some r) (hn:j+n≤r.length):OpOk P o A [l] H new (.agg ((r.drop j).take n)) []:=
 .still [l] fun ι F w H1 ρ h1 hs hv=>by
  have h2:=hv a (by simp[ho,Op.operands])
  rw[ha] at h2
  obtain ⟨b,sz,e,hp⟩:=h2.ptr_inv
  obtain ⟨b',cs,T,e',hb,hrl,hfit,hcells⟩:=hs.row ((h1 l (.mem (by simp))).trans hl) hr
  rw[e] at e';simp only[Option.some.injEq,Prod.mk.injEq] at e'
  obtain ⟨rfl,rfl⟩:=e'
  subst hk
  have hlen:i*ob.k+r.length≤cs.length:=by rw[hrl];rw[Nat.succ_mul] at hfit;exact hfit
  have hvs:VRs ι F w ((r.drop j).take n) ((cs.drop (i*ob.k+j)).take n):=by
   refine ⟨by simp;omega,fun m c v hc hv=>?_⟩
   simp only[List.getElem?_take,List.getElem?_drop] at hc hv
   split at hc
   ·rename_i hm
    rw[if_pos hm] at hv
    obtain ⟨v',h3,h4⟩:=hcells (j+m) c hc
    rw[← Nat.add_assoc] at h3
    rw[h3] at hv;cases hv
    exact h4
   ·cases hc
  refine ⟨.agg ((cs.drop (i*ob.k+j)).take n).toArray,?_,hvs.agg⟩
  have:=run_loadVar_agg (P:=P) (w:=w) (t:=t) (n:=n) (b:=b) (o:=i*ob.k+j) (cs:=(cs.drop (i*ob.k+j)).take n) (by simp;omega) (fun m v hm=>by
   simp only[List.getElem?_take,List.getElem?_drop] at hm
   split at hm
   ·exact cell_of_cells hb hm
   ·cases hm)
  simp[execOp,ho,hp,Instr.loadAt,Instr.sureAddr,this]
theorem OpOk.loadDCell [Mode] {t:TypeId}{a:Operand}{cs:List D}{c:D} (ho:o.op = .load t a) (ha:A a = .dptr cs) [TyCell P t] (hc:cs[0]? = some c):OpOk P o A [] H new (.d c) []:=
 .still [] fun ι F w H1 ρ h1 hs hv=>by
  have h2:=hv a (by simp[ho,Op.operands])
  rw[ha] at h2
  generalize hx:ρ a=x at h2
  cases h2 with
  | dptr _ b off g hF h hd=>exact ⟨g 0,by simp[execOp,ho,hx,Instr.loadAt,Instr.sureAddr,run_loadVar_cell (show w.cell? ⟨b,off,none⟩=some (g 0) from h 0 c hc)],.d (hd 0 c hc)⟩
theorem OpOk.loadDAgg [Mode] {t:TypeId}{a:Operand}{cs:List D}{n:Nat} (ho:o.op = .load t a) (ha:A a = .dptr cs) [TyAgg P t n] (hn:n≤cs.length):OpOk P o A [] H new (.agg ((cs.take n).map .d)) []:=
 .still [] fun ι F w H1 ρ h1 hs hv=>by
  have h2:=hv a (by simp[ho,Op.operands])
  rw[ha] at h2
  generalize hx:ρ a=x at h2
  cases h2 with
  | dptr _ b off g hF h hd=>
   have hat:∀ m v,((List.range n).map g)[m]? = some v→m<n∧v=g m:=fun m v hm=>by
    simp only[List.getElem?_map,Option.map_eq_some_iff] at hm
    obtain ⟨q,h3,rfl⟩:=hm
    have hq:=(List.getElem?_eq_some_iff.1 h3).1
    have hq':m<n:=by simpa using hq
    rw[List.getElem?_range hq'] at h3
    cases h3
    exact ⟨hq',rfl⟩
   have hget:∀ m,m<n→∃ c,cs[m]? = some c:=fun m hm=>⟨cs[m],List.getElem?_eq_getElem (by omega)⟩
   have:=run_loadVar_agg (P:=P) (w:=w) (t:=t) (n:=n) (b:=b) (o:=off) (cs:=(List.range n).map g) (by simp) (fun m v hm=>by
    obtain ⟨h3,rfl⟩:=hat m v hm
    obtain ⟨c,hc⟩:=hget m h3
    exact h m c hc)
   refine ⟨_,by simp[execOp,ho,hx,Instr.loadAt,Instr.sureAddr,this];rfl,?_⟩
   refine VRs.agg ⟨by simp;omega,fun m c v hc hv=>?_⟩
   obtain ⟨h3,rfl⟩:=hat m v hv
   obtain ⟨c',hc'⟩:=hget m h3
   simp only[List.getElem?_map,List.getElem?_take,h3,if_true,hc',Option.map_some,Option.some.injEq] at hc
   subst hc
   exact .d (hd m c' hc')
theorem OpOk.store [Mode] {t:TypeId}{a x:Operand}{k i j n:Nat}{l:Loc}{ob:AObj}{r:List AV} (ho:o.op = .store t a x) (ha:A a = .ptr k l i j) (hs:(P.info? t).map (·.size)=some n) (hl:H l=some ob) (hk:ob.k=k) (hr:ob.rows[i]? = some r) (hn:j+n≤r.length) (hc:(A x).cells.length=n) (h1:(A x).cells.all AV.one=true) :
  OpOk P o A [l] H new (.d (.v undef)) [.one l (some ⟨k,ob.rows.set i (r.take j++(A x).cells++r.drop (j+n))⟩)]:=by
 intro ι F w H1 ρ hH hnew hsim hv
 have h2:=hv a (by simp[ho,Op.operands])
 rw[ha] at h2
 obtain ⟨hcx,hone⟩:=(hv x (by simp[ho,Op.operands])).cells h1
 obtain ⟨b,sz,e,hp⟩:=h2.ptr_inv
 have hl':=(hH l (.mem (by simp))).trans hl
 obtain ⟨b',cs,T,e',hb,hrl,hfit,hcells⟩:=hsim.row hl' hr
 rw[e] at e';simp only[Option.some.injEq,Prod.mk.injEq] at e'
 obtain ⟨rfl,rfl⟩:=e'
 subst hk
 have hlen:i*ob.k+r.length≤cs.length:=by rw[hrl];rw[Nat.succ_mul] at hfit;exact hfit
 have hvl:(ρ x).cells.toList.length=n:=by rw[hcx.1];exact hc
 have hrun:(execOp ρ o).run P w = .ok .skip (w.setRow b (cs.take (i*ob.k+j)++(ρ x).cells.toList++cs.drop (i*ob.k+j+n)).toArray):=by
  have:=run_storeVar (P:=P) (w:=w) hs (b:=b) (o:=i*ob.k+j) (v:=ρ x) hb (by simpa using hvl) (by omega) hone
  simp[execOp,ho,hp,Instr.storeAt,Instr.sureAddr,this]
 rw[hrun]
 refine ⟨ι,F,.d (.v _),?_⟩
 have hallk:∀ (i':Nat) r',ob.rows[i']? = some r'→r'.length=ob.k∧∀ (j:Nat) c,r'[j]? = some c→∃ v,cs[i'*ob.k+j]? = some v∧VR ι F w c v:=by
  rcases hsim.obj l ob hl' with ⟨_,e0⟩|⟨b0,cs0,T0,e0,hb0,hlen0,h0⟩
  ·rw[e0] at hr;simp at hr
  ·rw[e] at e0;simp only[Option.some.injEq,Prod.mk.injEq] at e0
   obtain ⟨rfl,_⟩:=e0
   rw[hb] at hb0;simp only[Option.some.injEq,Obj.cells.injEq] at hb0
   have hcs:cs=cs0:=by simpa using hb0.1
   subst hcs
   exact h0
 have hnl:(r.take j++(A x).cells++r.drop (j+n)).length=ob.k:=by simp[hc];omega
 have hnewcs:(cs.take (i*ob.k+j)++(ρ x).cells.toList++cs.drop (i*ob.k+j+n)).length=cs.length:=by simp only[List.length_append,List.length_take,List.length_drop,hvl];omega
 have hgetn:∀ m,(cs.take (i*ob.k+j)++(ρ x).cells.toList++cs.drop (i*ob.k+j+n))[m]? = if m<i*ob.k+j then cs[m]? else if m<i*ob.k+j+n then (ρ x).cells.toList[m - (i*ob.k+j)]? else cs[m]?:=by
  intro m
  have hm1:min (i*ob.k+j) cs.length=i*ob.k+j:=by omega
  simp only[List.getElem?_append,List.length_append,List.length_take,hm1,hvl,List.getElem?_take,List.getElem?_drop]
  by_cases c1:m<i*ob.k+j
  ·rw[if_pos (by omega),if_pos c1,if_pos c1,if_pos c1]
  ·by_cases c2:m<i*ob.k+j+n
   ·rw[if_pos c2,if_neg c1,if_neg c1,if_pos c2]
   ·rw[if_neg c2,if_neg c1,if_neg c2];congr 1;omega
 refine Post.write hsim hl' e hb hnewcs (o':=⟨ob.k,ob.rows.set i (r.take j++(A x).cells++r.drop (j+n))⟩) ?_ (fun i' r' hr'=>?_) [l] (.mem (by simp)) new
 ·rcases hsim.obj l ob hl' with ⟨_,e0⟩|⟨b0,cs0,T0,e0,hb0,hlen0,h0⟩
  ·rw[e0] at hr;simp at hr
  ·rw[e] at e0;simp only[Option.some.injEq,Prod.mk.injEq] at e0
   rw[hnewcs,e0.2];simpa using hlen0
 ·simp only[List.getElem?_set] at hr'
  by_cases hii:i=i'
  ·subst hii
   rw[if_pos rfl] at hr'
   split at hr'
   ·cases hr'
    refine ⟨hnl,fun m c hm=>?_⟩
    show ∃ v,_[i*ob.k+m]? = some v∧_
    rw[hgetn]
    have hml:min j r.length=j:=by omega
    simp only[List.getElem?_append,List.length_append,List.length_take,hml,hc,List.getElem?_take,List.getElem?_drop] at hm
    by_cases c1:m<j
    ·rw[if_pos (by omega),if_pos c1,if_pos c1] at hm
     rw[if_pos (by omega)]
     exact hcells m c hm
    ·by_cases c2:m<j+n
     ·rw[if_pos c2,if_neg c1] at hm
      rw[if_neg (by omega),if_pos (by omega),show i*ob.k+m - (i*ob.k+j)=m - j by omega]
      exact hcx.get hm
     ·rw[if_neg c2,show j+n+(m - (j+n))=m by omega] at hm
      rw[if_neg (by omega),if_neg (by omega)]
      exact hcells m c hm
   ·cases hr'
  ·rw[if_neg hii] at hr'
   obtain ⟨hl1,h0⟩:=hallk i' r' hr'
   refine ⟨hl1,fun m c hm=>?_⟩
   obtain ⟨v,h3,h4⟩:=h0 m c hm
   refine ⟨v,?_,h4⟩
   show _[i'*ob.k+m]? = some v
   rw[hgetn]
   have hm':m<ob.k:=by rw[← hl1];exact (List.getElem?_eq_some_iff.1 hm).1
   by_cases hlt:i'<i
   ·have:(i'+1)*ob.k≤i*ob.k:=Nat.mul_le_mul_right _ hlt
    rw[Nat.succ_mul] at this
    rw[if_pos (by omega)];exact h3
   ·have:(i+1)*ob.k≤i'*ob.k:=Nat.mul_le_mul_right _ (by omega)
    rw[Nat.succ_mul] at this
    rw[if_neg (by omega),if_neg (by omega)];exact h3
end
end
section
open Go Go.RowKit
section
variable {P : Program} {o : Oper} {A : Operand → AV} {H : Heap} {new : Nat}
theorem OpOk.known1 [Mode] {x:Operand}{a v:Value} (hx:A x = .d (.v a)) (hm:x∈o.op.operands) (h:∀ (ρ:Operand→Value) (w:World),ρ x=a→(execOp ρ o).run P w = .ok (.value v) w):OpOk P o A [] H new (.d (.v v)) []:=
 .still [] fun ι F w H1 ρ _ _ hv=>by
  have h1:=hv x hm
  rw[hx] at h1
  exact ⟨v,h ρ w h1.v_inv,.d (.v _)⟩
theorem OpOk.known2 [Mode] {x y:Operand}{a b v:Value} (hx:A x = .d (.v a)) (hy:A y = .d (.v b)) (hm:x∈o.op.operands) (hm':y∈o.op.operands) (h:∀ (ρ:Operand→Value) (w:World),ρ x=a→ρ y=b→(execOp ρ o).run P w = .ok (.value v) w):OpOk P o A [] H new (.d (.v v)) []:=
 .still [] fun ι F w H1 ρ _ _ hv=>by
  have h1:=hv x hm
  have h2:=hv y hm'
  rw[hx] at h1;rw[hy] at h2
  exact ⟨v,h ρ w h1.v_inv h2.v_inv,.d (.v _)⟩
def plainEq:Value→Value→Bool
 | .nilIface,.nilIface=>false
 | .agg _,.agg _=>false
 | _,_=>true
theorem run_eqGuard [Mode] {op:BinOp}{t:TypeId}{x y:Operand}{a b:Value}{w:World} (hg:plainEq a b=true):(eqGuard op t x y a b).run P w = .ok () w:=by
 unfold eqGuard
 cases op<;>first
  | rfl
  | (cases a<;>cases b<;>first|(simp[plainEq] at hg;done)|rfl)
theorem OpOk.bin [Mode] {op:BinOp}{t t':TypeId}{x y:Operand}{a b v:Value} (ho:o.op = .binOp op t x y t') (hx:A x = .d (.v a)) (hy:A y = .d (.v b)) (hg:plainEq a b=true)
  (h:∀ w,(binOp op t a b).run P w = .ok v w):OpOk P o A [] H new (.d (.v v)) []:=by
 refine .known2 hx hy (by simp[ho,Op.operands]) (by simp[ho,Op.operands]) fun ρ w h1 h2=>?_
 have hgd:=run_eqGuard (P:=P) (op:=op) (t:=t) (x:=x) (y:=y) (w:=w) hg
 simp[execOp,ho,h1,h2,hgd,h w]
theorem OpOk.un [Mode] {op:UnOp}{t:TypeId}{x:Operand}{a v:Value} (ho:o.op = .unOp op t x) (hx:A x = .d (.v a)) (h:∀ w,(Op.unary op a).run P w = .ok v w):OpOk P o A [] H new (.d (.v v)) []:=
 .known1 hx (by simp[ho,Op.operands]) fun ρ w h1=>by simp[execOp,ho,h1,h w]
theorem OpOk.conv [Mode] {s t:TypeId}{x:Operand}{a v:Value} (ho:o.op = .convert s t x) (hx:A x = .d (.v a)) (h:∀ w,(convert s t a).run P w = .ok v w):OpOk P o A [] H new (.d (.v v)) []:=
 .known1 hx (by simp[ho,Op.operands]) fun ρ w h1=>by simp[execOp,ho,h1,h w]
theorem run_fieldAt' [Mode] {s t:TypeId}{f off n:Nat} [h:TyField P s f off t n] (hn:n≠0) {b o':Nat}{w:World}:(Instr.fieldAt s (.pointer (some ⟨b,o',none⟩)) f).run P w = .ok (.pointer (some ⟨b,o'+off,none⟩)) w:=by
 have h1:=h.u
 cases hu:P.underlying s with
 | none=>rw[hu] at h1;cases h1
 | some d=>
  rw[hu] at h1
  cases d<;>simp only[reduceCtorEq] at h1
  rename_i fs
  cases hf:fs[f]? with
  | none=>rw[hf] at h1;cases h1
  | some x=>
   rw[hf] at h1
   simp only[Option.map_some,Option.some.injEq,Prod.mk.injEq] at h1
   obtain ⟨rfl,rfl⟩:=h1
   simp[Instr.fieldAt,run_underlying hu,hf,Instr.sureAddr,fieldPlace,run_sizeOf' h.s,hn,addr_add]
theorem OpOk.fieldAddr [Mode] {s t:TypeId}{x:Operand}{f off n k i j:Nat}{l:Loc} (ho:o.op = .fieldAddr s x f) (hx:A x = .ptr k l i j) [TyField P s f off t n] (hn:n≠0):OpOk P o A [] H new (.ptr k l i (j+off)) []:=
 .still [] fun ι F w H1 ρ _ _ hv=>by
  have h1:=hv x (by simp[ho,Op.operands])
  rw[hx] at h1
  obtain ⟨b,sz,e,hp⟩:=h1.ptr_inv
  refine ⟨.pointer (some ⟨b,i*k+j+off,none⟩),by simp[execOp,ho,hp,run_fieldAt' (P:=P) (s:=s) (f:=f) (off:=off) (t:=t) (n:=n) hn],?_⟩
  rw[Nat.add_assoc]
  exact .ptr k l i (j+off) b sz e
theorem OpOk.fieldDAddr [Mode] {s t:TypeId}{x:Operand}{f off n:Nat}{cs:List D} (ho:o.op = .fieldAddr s x f) (hx:A x = .dptr cs) [TyField P s f off t n] (hn:n≠0):OpOk P o A [] H new (.dptr (cs.drop off)) []:=
 .still [] fun ι F w H1 ρ _ _ hv=>by
  have h1:=hv x (by simp[ho,Op.operands])
  rw[hx] at h1
  generalize hy:ρ x=y at h1
  cases h1 with
  | dptr _ b of g hF h hd=>
   refine ⟨.pointer (some ⟨b,of+off,none⟩),by simp[execOp,ho,hy,run_fieldAt' (P:=P) (s:=s) (f:=f) (off:=off) (t:=t) (n:=n) hn],?_⟩
   refine .dptr _ b (of+off) (fun j=>g (off+j)) hF (fun j c hc=>?_) (fun j c hc=>?_)
   ·rw[List.getElem?_drop] at hc;rw[Nat.add_assoc];exact h _ _ hc
   ·rw[List.getElem?_drop] at hc;exact hd _ _ hc
theorem run_indexAt' [Mode] {t e:TypeId}{k b:Nat}{z:Value} [h:TySlice P t e k b z] {B off n cap:Nat}{kd:IntKind}{i:Int}{w:World} (h0:0≤i) (h1:i<n) :
  (Instr.indexAt t (.slice (some ⟨B,off,none⟩) n cap) (.int kd i)).run P w = .ok (.pointer (some ⟨B,off+i.toNat*k,none⟩)) w:=by
 have hs:(P.info? e).map (·.size)=some k:=by
  have:=h.s
  cases hi:P.info? e with
  | none=>rw[hi] at this;cases this
  | some i=>rw[hi] at this;simp at this;simp[this.1]
 simp[Instr.indexAt,asIntOf,run_underlying h.u,h0,h1,run_sizeOf' hs,addr_add]
theorem OpOk.indexOwn [Mode] {t e:TypeId}{x y:Operand}{k b off n:Nat}{z:Value}{l:Loc}{kd:IntKind}{i:Int} (ho:o.op = .indexAddr t x y) (hx:A x = .own k l off n) (hy:A y = .d (.v (.int kd i))) [TySlice P t e k b z] (h0:0≤i) (h1:i<n):OpOk P o A [] H new (.ptr k l (off+i.toNat) 0) []:=
 .still [] fun ι F w H1 ρ _ _ hv=>by
  have h2:=hv x (by simp[ho,Op.operands])
  have h3:=hv y (by simp[ho,Op.operands])
  rw[hx] at h2;rw[hy] at h3
  have h4:=h3.v_inv
  rcases h2.own_inv with ⟨B,sz,cap,e1,_,_,hp⟩|⟨_,_,rfl,_⟩
  ·refine ⟨.pointer (some ⟨B,off*k+i.toNat*k,none⟩),by simp[execOp,ho,hp,h4,run_indexAt' (P:=P) (t:=t) (k:=k) (b:=b) (z:=z) h0 h1],?_⟩
   rw[← Nat.add_mul]
   exact .ptr k l (off+i.toNat) 0 B sz e1
  ·omega
theorem OpOk.indexD [Mode] {t e:TypeId}{x y:Operand}{k b:Nat}{z:Value}{rows:List (List D)}{r:List D}{kd:IntKind}{i:Int} (ho:o.op = .indexAddr t x y) (hx:A x = .d (.sl k rows)) (hy:A y = .d (.v (.int kd i))) [TySlice P t e k b z] (h0:0≤i) (hr:rows[i.toNat]? = some r) (hk:0<r.length):OpOk P o A [] H new (.dptr r) []:=
 .still [] fun ι F w H1 ρ _ _ hv=>by
  have h2:=hv x (by simp[ho,Op.operands])
  have h3:=hv y (by simp[ho,Op.operands])
  rw[hx] at h2;rw[hy] at h3
  have h4:=h3.v_inv
  have h5:=h2.sl_inv
  have hlt:=(List.getElem?_eq_some_iff.1 hr).1
  generalize hq:ρ x=q at h5
  cases h5 with
  | sl _ _ a cap g hcap h hd=>
   obtain ⟨B,off,rfl,hF,hc⟩:=h i.toNat r 0 r[0] hr (List.getElem?_eq_getElem hk)
   refine ⟨.pointer (some ⟨B,off+i.toNat*k,none⟩),by simp[execOp,ho,hq,h4,run_indexAt' (P:=P) (t:=t) (k:=k) (b:=b) (z:=z) h0 (by omega:i<rows.length)],?_⟩
   refine .dptr r B _ (fun j=>g i.toNat j) hF (fun j c hc=>?_) (fun j c hc=>hd _ _ _ _ hr hc)
   obtain ⟨B',off',e',_,h6⟩:=h i.toNat r j c hr hc
   simp only[Option.some.injEq,Addr.mk.injEq,and_true] at e'
   obtain ⟨rfl,rfl⟩:=e'
   exact h6
theorem OpOk.len [Mode] {ts:Array TypeId}{t e:TypeId}{x:Operand}{k b n k':Nat}{z:Value} (ho:o.op = .call { callee:=.builtin .len,args:=#[x],argTypes:=ts }) (ht:ts[0]? = some t) [h:TySlice P t e k b z] (hx:(∃ l off,A x = .own k' l off n)∨(∃ rows,A x = .d (.sl k' rows)∧rows.length=n)∨(A x = .d (.v (.slice none 0 0))∧n=0)):OpOk P o A [] H new (.d (.v (.int .i64 n))) []:=
 .still [] fun ι F w H1 ρ _ _ hv=>by
  have h2:=hv x (by simp[ho,Op.operands,Call.operands])
  have h3:∃ a cap,ρ x = .slice a n cap:=by
   rcases hx with ⟨l,off,hx⟩|⟨rows,hx,rfl⟩|⟨hx,rfl⟩<;>rw[hx] at h2
   ·rcases h2.own_inv with ⟨B,sz,cap,_,_,_,hp⟩|⟨_,_,rfl,hp⟩
    ·exact ⟨_,_,hp⟩
    ·exact ⟨_,_,hp⟩
   ·have h5:=h2.sl_inv
    generalize ρ x=q at h5
    cases h5 with|sl _ _ a cap g hcap h hd=>exact ⟨_,_,rfl⟩
   ·exact ⟨_,_,h2.v_inv⟩
  obtain ⟨a,cap,h3⟩:=h3
  exact ⟨.int .i64 n,by simp[execOp,ho,resolve,invoke,builtin,Builtin.len_,ht,h3,run_underlying h.u,goInt],.d (.v _)⟩
theorem OpOk.lenStr [Mode] {ts:Array TypeId}{t:TypeId}{x:Operand}{s:ByteArray} (ho:o.op = .call { callee:=.builtin .len,args:=#[x],argTypes:=ts }) (ht:ts[0]? = some t) [h:TyString P t] (hx:A x = .d (.v (.string s))):OpOk P o A [] H new (.d (.v (.int .i64 s.size))) []:=
 .known1 hx (by simp[ho,Op.operands,Call.operands]) fun ρ w h3=>by simp[execOp,ho,resolve,invoke,builtin,Builtin.len_,ht,h3,run_underlying h.u,goInt]
theorem OpOk.extract [Mode] {x:Operand}{i:Nat}{cs:List AV}{c:AV} (ho:o.op = .extract x i) (hx:A x = .tup cs) (hc:cs[i]? = some c):OpOk P o A [] H new c []:=
 .still [] fun ι F w H1 ρ _ _ hv=>by
  have h2:=hv x (by simp[ho,Op.operands])
  rw[hx] at h2
  obtain ⟨vs,hp,h⟩:=h2.tup_inv
  obtain ⟨v,h1,h3⟩:=h.get hc
  exact ⟨v,by simp[execOp,ho,hp,Instr.extract,h1],h3⟩
theorem OpOk.fieldCell [Mode] {s t:TypeId}{x:Operand}{f off n:Nat}{cs:List AV}{c:AV} (ho:o.op = .field s x f) (hx:A x = .agg cs) [h:TyField P s f off t n] [ht:TyCell P t] (hc:cs[off]? = some c):OpOk P o A [] H new c []:=
 .still [] fun ι F w H1 ρ _ _ hv=>by
  have h2:=hv x (by simp[ho,Op.operands])
  rw[hx] at h2
  obtain ⟨vs,hp,hvs⟩:=h2.agg_inv
  obtain ⟨v,h1,h3⟩:=hvs.get hc
  have hu:=h.u
  refine ⟨v,?_,h3⟩
  cases hd:P.underlying s with
  | none=>rw[hd] at hu;cases hu
  | some d=>
   rw[hd] at hu
   cases d<;>simp only[reduceCtorEq] at hu
   rename_i fs
   cases hf:fs[f]? with
   | none=>rw[hf] at hu;cases hu
   | some y=>
    rw[hf] at hu
    simp only[Option.map_some,Option.some.injEq,Prod.mk.injEq] at hu
    obtain ⟨rfl,rfl⟩:=hu
    simp[execOp,ho,hp,Instr.field,run_underlying hd,hf,asAgg,part,run_isAgg ht.u,h1]
theorem OpOk.fieldAgg [Mode] {s t:TypeId}{x:Operand}{f off n:Nat}{cs:List AV} (ho:o.op = .field s x f) (hx:A x = .agg cs) [h:TyField P s f off t n] [ht:TyAgg P t n] (hc:off+n≤cs.length):OpOk P o A [] H new (.agg ((cs.drop off).take n)) []:=
 .still [] fun ι F w H1 ρ _ _ hv=>by
  have h2:=hv x (by simp[ho,Op.operands])
  rw[hx] at h2
  obtain ⟨vs,hp,hvs⟩:=h2.agg_inv
  have hu:=h.u
  have hvs':VRs ι F w ((cs.drop off).take n) ((vs.drop off).take n):=by
   refine ⟨by simp[hvs.1],fun m c v hc hv=>?_⟩
   simp only[List.getElem?_take,List.getElem?_drop] at hc hv
   split at hc
   ·rename_i hm
    rw[if_pos hm] at hv
    exact hvs.2 _ _ _ hc hv
   ·cases hc
  refine ⟨_,?_,hvs'.agg⟩
  cases hd:P.underlying s with
  | none=>rw[hd] at hu;cases hu
  | some d=>
   rw[hd] at hu
   cases d<;>simp only[reduceCtorEq] at hu
   rename_i fs
   cases hf:fs[f]? with
   | none=>rw[hf] at hu;cases hu
   | some y=>
    rw[hf] at hu
    simp only[Option.map_some,Option.some.injEq,Prod.mk.injEq] at hu
    obtain ⟨rfl,rfl⟩:=hu
    simp[execOp,ho,hp,Instr.field,run_underlying hd,hf,asAgg,part,run_isAgg ht.u,run_sizeOf' ht.s]
theorem OpOk.newRow [Mode] {k n:Nat}{rows:List (List AV)} (reads:List Loc) (hrn:rows.length=n) (hrk:∀ r∈rows,r.length=k)
  (h:∀ (ι:Iota) (F:Nat→Prop) (w:World) (H1:Heap) (ρ:Operand→Value),(∀ l,Cov reads l→H1 l=H l)→Sim ι F H1 w→(∀ x∈o.op.operands,VR ι F w (A x) (ρ x))→
   ∃ (w1:World) (cs:List Value) (cap:Nat) (T:TypeId),(execOp ρ o).run P w = .ok (.value (.slice (some ⟨w.heap.size,0,none⟩) n cap)) (w1.alloc (.cells cs.toArray T))∧(w1=w∨w1=w.drew)∧n≤cap∧cap*k≤cs.length∧
    ∀ (i:Nat) r,rows[i]? = some r→∀ (j:Nat) c,r[j]? = some c→∃ v,cs[i*k+j]? = some v∧VR ι F w c v) :
  OpOk P o A reads H new (.own k ⟨new,[]⟩ 0 n) [.one ⟨new,[]⟩ (some ⟨k,rows⟩)]:=by
 intro ι F w H1 ρ h1 hn hs hv
 obtain ⟨w1,cs,cap,T,hr,hw,hcap,hfit,hc⟩:=h ι F w H1 ρ h1 hs hv
 rw[hr]
 have hsz:w1.heap.size=w.heap.size:=by rcases hw with rfl|rfl<;>rfl
 have hs1:Sim ι F H1 w1:=by rcases hw with rfl|rfl<;>first|exact hs|exact hs.drew
 have hp:=Post.alloc hs1 hn cs T ⟨k,rows⟩ (by rw[hrn];exact Nat.le_trans (Nat.mul_le_mul_right _ hcap) hfit) (fun i r hr=>⟨hrk r (List.mem_of_getElem? hr),fun j c hj=>by
  obtain ⟨v,h2,h3⟩:=hc i r hr j c hj
  exact ⟨v,h2,h3.mono (fun _ _ h=>h) (fun _ h=>h) (fun b _=>by rcases hw with rfl|rfl<;>rfl)⟩⟩) reads
 rw[hsz] at hp
 have hp':Post ι F H1 w reads new (updι ι ⟨new,[]⟩ (some (w.heap.size,cs.length))) F (upd H1 ⟨new,[]⟩ (some ⟨k,rows⟩)) (w1.alloc (.cells cs.toArray T)):=by
  rcases hw with rfl|rfl
  ·exact hp
  ·exact ⟨hp.sim,hp.ext,hp.dom,hp.sub,hp.sup,⟨hp.step.os,hp.step.tape,hp.step.output,hp.step.size,hp.step.block⟩,hp.own⟩
 refine ⟨_,F,?_,hp'⟩
 have:=VR.own (ι:=updι ι ⟨new,[]⟩ (some (w.heap.size,cs.length))) (F:=F) (w:=w1.alloc (.cells cs.toArray T)) k ⟨new,[]⟩ 0 n w.heap.size cs.length cap (by simp[updι]) hcap (by simpa using hfit)
 simpa using this
theorem madeCells_get [Mode] {z:Array Value}{n k:Nat} (hz:z.size=k) {i j:Nat} (hi:i<n) (hj:j<k):(madeCells z (n*k)).toList[i*k+j]? = z[j]?:=by
 have hlt:i*k+j<n*k:=by
  have:(i+1)*k≤n*k:=Nat.mul_le_mul_right _ hi
  rw[Nat.succ_mul] at this;omega
 have hm:(i*k+j) % k=j:=by rw[Nat.add_comm,Nat.add_mul_mod_self_right,Nat.mod_eq_of_lt hj]
 have hjz:j<z.size:=by omega
 simp[madeCells,hlt,hz,hm]
 rw[getElem!_pos z j hjz,Array.getElem?_eq_getElem hjz]
theorem OpOk.makeSlice [Mode] {t e:TypeId}{x y:Operand}{k b:Nat}{z:Value}{kl kc:IntKind}{n:Int} (ho:o.op = .makeSlice t x y) (hx:A x = .d (.v (.int kl n))) (hy:A y = .d (.v (.int kc n))) [h:TySlice P t e k b z] (h0:0≤n) (hb:(b:Int)*n≤281474976710656) (h63:n≤9223372036854775807) :
  OpOk P o A [] H new (.own k ⟨new,[]⟩ 0 n.toNat) [.one ⟨new,[]⟩ (some ⟨k,List.replicate n.toNat (z.cells.toList.map fun x=>.d (.v x))⟩)]:=by
 refine .newRow [] (by simp) (fun r hr=>by rw[List.eq_of_mem_replicate hr];simpa using h.zs) fun ι F w H1 ρ _ hs hv=>?_
 have h1:=hv x (by simp[ho,Op.operands])
 have h2:=hv y (by simp[ho,Op.operands])
 rw[hx] at h1;rw[hy] at h2
 have h3:=h1.v_inv
 have h4:=h2.v_inv
 have hsi:=h.s
 cases hi:P.info? e with
 | none=>rw[hi] at hsi;cases hsi
 | some i=>
  rw[hi] at hsi
  simp only[Option.map_some,Option.some.injEq,Prod.mk.injEq] at hsi
  obtain ⟨rfl,rfl,hz⟩:=hsi
  have hr:=run_make (P:=P) w t e i z h.u hi hz kl kc n n h0 (Int.le_refl _) hb h63
  refine ⟨w,(madeCells z.cells (n.toNat*i.size)).toList,n.toNat,e,by simp[execOp,ho,h3,h4,hr],.inl rfl,Nat.le_refl _,by simp[size_madeCells],fun m r hm j c hj=>?_⟩
  rw[List.getElem?_replicate] at hm
  split at hm
  ·cases hm
   simp only[List.getElem?_map,Option.map_eq_some_iff] at hj
   obtain ⟨v,h5,rfl⟩:=hj
   have hjk:j<i.size:=by have:=(List.getElem?_eq_some_iff.1 h5).1;rw[← h.zs];simpa using this
   exact ⟨v,by rw[madeCells_get h.zs (by assumption) hjk];simpa using h5,.d (.v _)⟩
  ·cases hm
end
end
section
open Go Go.RowKit
theorem foldl_seg [Mode] (off:Nat):∀ (vs:List Value) (n:Nat) (cur:Array Value),off+n+vs.length≤cur.size→
  ((vs.zipIdx n).foldl (fun cs (x:Value × Nat)=>cs.setIfInBounds (off+x.2) x.1) cur).toList=cur.toList.take (off+n)++vs++cur.toList.drop (off+n+vs.length)
 | [],n,cur,h=>by simp
 | v :: vs,n,cur,h=>by
  simp only[List.zipIdx_cons,List.foldl_cons]
  rw[foldl_seg off vs (n+1) _ (by simp at h ⊢;omega)]
  have e:=list_seg_step cur.toList (off+n) v vs (by simp at h ⊢;omega)
  simp only[List.length_cons,Array.toList_setIfInBounds]
  rw[show off+(n+1)=off+n+1 by omega,e]
def fillA (place:Nat→Option (Nat × Nat)) (cells:List AV):List (Nat × AV)→Option (List AV)
 | []=>some cells
 | (i,v) :: rest=>
  match place i with
  | none=>none
  | some (off,size)=>if v.cells.length≠size || off+size > cells.length then none else fillA place (cells.take off++v.cells++cells.drop (off+size)) rest
section
variable {ι : Iota} {F : Nat → Prop} {w : World}
theorem VRs.append [Mode] {cs cs':List AV}{vs vs':List Value} (h:VRs ι F w cs vs) (h':VRs ι F w cs' vs'):VRs ι F w (cs++cs') (vs++vs'):=by
 refine ⟨by simp[h.1,h'.1],fun i c v hc hv=>?_⟩
 rw[List.getElem?_append] at hc hv
 rw[h.1] at hv
 split at hc
 ·rename_i hi;rw[if_pos hi] at hv;exact h.2 i c v hc hv
 ·rename_i hi;rw[if_neg hi] at hv;exact h'.2 _ c v hc hv
theorem VRs.take [Mode] {cs:List AV}{vs:List Value} (h:VRs ι F w cs vs) (n:Nat):VRs ι F w (cs.take n) (vs.take n):=by
 refine ⟨by simp[h.1],fun i c v hc hv=>?_⟩
 rw[List.getElem?_take] at hc hv
 split at hc
 ·rename_i hi;rw[if_pos hi] at hv;exact h.2 i c v hc hv
 ·cases hc
theorem VRs.drop [Mode] {cs:List AV}{vs:List Value} (h:VRs ι F w cs vs) (n:Nat):VRs ι F w (cs.drop n) (vs.drop n):=by
 refine ⟨by simp[h.1],fun i c v hc hv=>?_⟩
 rw[List.getElem?_drop] at hc hv
 exact h.2 _ c v hc hv
theorem fill_sound [Mode] {place:Nat→Option (Nat × Nat)}:∀ {parts:List (Nat × Operand)}{A:Operand→AV}{ρ:Operand→Value}{cells cells':List AV}{cur:Array Value},VRs ι F w cells cur.toList→(∀ p∈parts,VR ι F w (A p.2) (ρ p.2))→(∀ p∈parts,(A p.2).cells.all AV.one=true)→
  fillA place cells (parts.map fun p=>(p.1,A p.2))=some cells'→∃ cur',Instr.fill place cur (parts.map fun p=>(p.1,ρ p.2))=some cur'∧VRs ι F w cells' cur'.toList
 | [],A,ρ,cells,cells',cur,hv,_,_,h=>by simp[fillA] at h;subst h;exact ⟨cur,rfl,hv⟩
 | (i,x) :: rest,A,ρ,cells,cells',cur,hv,hp,ho,h=>by
  simp only[List.map_cons,fillA] at h
  simp only[List.map_cons,Instr.fill]
  cases hpl:place i with
  | none=>rw[hpl] at h;cases h
  | some os=>
   obtain ⟨off,size⟩:=os
   rw[hpl] at h
   simp only at h ⊢
   split at h
   ·cases h
   ·rename_i hc
    simp only[Bool.or_eq_true,decide_eq_true_eq,not_or,ne_eq,Decidable.not_not,Nat.not_lt] at hc
    obtain ⟨hcx,hone⟩:=(hp (i,x) (by simp)).cells (ho (i,x) (by simp))
    have hvl:(ρ x).cells.size=size:=by have:=hcx.1;simp at this;rw[this];exact hc.1
    have hcl:cells.length=cur.size:=by have:=hv.1;simpa using this.symm
    have hcond:¬ ((ρ x).cells.size≠size || decide (off+(ρ x).cells.size > cur.size))=true:=by
     simp[hvl];omega
    rw[if_neg hcond]
    have hseg:((ρ x).cells.zipIdx.foldl (fun cs (x:Value × Nat)=>cs.setIfInBounds (off+x.2) x.1) cur).toList=cur.toList.take off++(ρ x).cells.toList++cur.toList.drop (off+size):=by
     have:=foldl_seg off (ρ x).cells.toList 0 cur (by simp;omega)
     simp only[Nat.add_zero,Array.length_toList,hvl] at this
     rw[← Array.foldl_toList]
     simpa using this
    exact fill_sound (cur:=(ρ x).cells.zipIdx.foldl (fun cs (x:Value × Nat)=>cs.setIfInBounds (off+x.2) x.1) cur) (by rw[hseg];exact ((hv.take off).append hcx).append (hv.drop (off+size))) (fun p hp'=>hp p (by simp[hp'])) (fun p hp'=>ho p (by simp[hp'])) h
end
theorem flatten_at [Mode] {k:Nat}:∀ {rows:List (List AV)}{i j:Nat}{r:List AV}{c:AV},(∀ r∈rows,r.length=k)→rows[i]? = some r→r[j]? = some c→rows.flatten[i*k+j]? = some c
 | [],i,j,r,c,_,h,_=>by simp at h
 | y :: ys,0,j,r,c,_,h,hc=>by
  simp at h;subst h
  simp only[List.flatten_cons,Nat.zero_mul,Nat.zero_add]
  rw[List.getElem?_append_left (List.getElem?_eq_some_iff.1 hc).1];exact hc
 | y :: ys,i+1,j,r,c,hk,h,hc=>by
  simp at h
  have:=flatten_at (fun r hr=>hk r (by simp[hr])) h hc
  have hy:=hk y (by simp)
  simp only[List.flatten_cons]
  rw[List.getElem?_append_right (by rw[hy,Nat.succ_mul];omega),hy,show (i+1)*k+j - k=i*k+j by rw[Nat.succ_mul];omega]
  exact this
theorem flatten_len [Mode] {k:Nat}:∀ {rows:List (List AV)},(∀ r∈rows,r.length=k)→rows.flatten.length=rows.length*k
 | [],_=>by simp
 | y :: ys,h=>by rw[List.flatten_cons,List.length_append,h y (by simp),flatten_len fun r hr=>h r (by simp[hr]),List.length_cons,Nat.succ_mul,Nat.add_comm]
theorem fillA_rows [Mode] {k:Nat}:∀ (xs:List AV) (n:Nat) (cells:List AV),(∀ x∈xs,x.cells.length=k)→cells.length=(n+xs.length)*k→fillA (fun i=>some (i*k,k)) cells ((xs.zipIdx n).map fun p=>(p.2,p.1))=some (cells.take (n*k)++(xs.map AV.cells).flatten)
 | [],n,cells,_,hl=>by simp[fillA,List.take_of_length_le,hl]
 | x :: xs,n,cells,hk,hl=>by
  have hx:=hk x (by simp)
  have hle:n*k+k≤cells.length:=by
   have:(n+1)*k≤(n+(xs.length+1))*k:=Nat.mul_le_mul_right _ (by omega)
   rw[Nat.succ_mul] at this
   rw[hl];simpa using this
  simp only[List.zipIdx_cons,List.map_cons,fillA,hx]
  have hcond:¬ ((k≠k || decide (n*k+k > cells.length))=true):=by simp;omega
  rw[if_neg hcond]
  rw[fillA_rows xs (n+1) _ (fun y hy=>hk y (by simp[hy])) (by
   simp only[List.length_append,List.length_take,List.length_drop,hx]
   rw[Nat.min_eq_left (by omega)]
   simp only[List.length_cons] at hl
   rw[show n+1+xs.length=n+(xs.length+1) by omega,← hl];omega)]
  congr 1
  have hm:min (n*k) cells.length=n*k:=by omega
  have e1:(List.take (n*k) cells++x.cells++List.drop (n*k+k) cells).take ((n+1)*k)=List.take (n*k) cells++x.cells:=by
   rw[List.take_append_of_le_length (by simp[hx,hm,Nat.succ_mul]),List.take_of_length_le (by simp[hx,hm,Nat.succ_mul])]
  rw[e1]
  simp
section
variable {P : Program} {o : Oper} {A : Operand → AV} {H : Heap} {new : Nat}
theorem zero_flat [Mode] {z:Value}{k n:Nat} (hz:z.cells.size=k) (ι:Iota) (F:Nat→Prop) (w:World):VRs ι F w ((madeCells z.cells (n*k)).toList.map fun x=>.d (.v x)) (madeCells z.cells (n*k)).toList:=by
 refine ⟨by simp,fun i c v hc hv=>?_⟩
 simp only[List.getElem?_map,hv,Option.map_some,Option.some.injEq] at hc
 subst hc;exact .d (.v _)
theorem run_buildSlice' [Mode] {t e:TypeId}{n k b:Nat}{z:Value}{pv:Array (Nat × Value)}{cur:Array Value}{w:World} [h:TySlice P t e k b z] (hsm:n*k≤16777216) (hf:Instr.fill (fun i=>some (i*k,k)) (madeCells z.cells (n*k)) pv.toList=some cur) :
  (Instr.buildSlice t n pv).run P w = .ok (.slice (some ⟨w.heap.size,0,none⟩) n n) (w.alloc (.cells cur e)):=by
 have hsi:=h.s
 cases hi:P.info? e with
 | none=>rw[hi] at hsi;cases hsi
 | some i=>
  rw[hi] at hsi
  simp only[Option.map_some,Option.some.injEq,Prod.mk.injEq] at hsi
  obtain ⟨rfl,rfl,hz⟩:=hsi
  have hbig:¬ (n*i.size > 16777216):=by omega
  unfold madeCells at hf
  by_cases h0:n*i.size=0
  ·rw[h0] at hf
   simp only[Array.range_zero',Array.map_empty] at hf
   simp[Instr.buildSlice,run_underlying h.u,sizeOf,typeInfo,hi,h0,hf,Go.newRow,Array.range_zero']
  ·simp[Instr.buildSlice,run_underlying h.u,sizeOf,typeInfo,hi,hbig,h0,zeroValue,hz,hf,Go.newRow]
theorem OpOk.buildSlice [Mode] {t e:TypeId}{n k b:Nat}{z:Value}{parts:Array (Nat × Operand)} (xs:List Operand) (ho:o.op = .buildSlice t n parts) [h:TySlice P t e k b z] (hp:parts.toList=(xs.zipIdx).map fun p=>(p.2,p.1)) (hn:xs.length=n) (hsm:n*k≤16777216)
  (hone:∀ x∈xs,(A x).cells.all AV.one=true) (hlen:∀ x∈xs,(A x).cells.length=k):OpOk P o A [] H new (.own k ⟨new,[]⟩ 0 n) [.one ⟨new,[]⟩ (some ⟨k,xs.map fun x=>(A x).cells⟩)]:=by
 refine .newRow [] (by simpa using hn) (fun r hr=>by obtain ⟨x,hx,rfl⟩:=List.mem_map.1 hr;exact hlen x hx) fun ι F w H1 ρ _ hs hv=>?_
 have hpl:parts=((xs.zipIdx).map fun p=>(p.2,p.1)).toArray:=by rw[← hp]
 have hops:∀ x∈xs,VR ι F w (A x) (ρ x):=fun x hx=>hv x (by
  obtain ⟨i,hi⟩:=List.getElem?_of_mem hx
  have:(x,i)∈xs.zipIdx:=List.mem_zipIdx_iff_getElem?.2 hi
  simp only[ho,Op.operands,hp,List.map_map]
  exact List.mem_toArray.2 (List.mem_map.2 ⟨(x,i),this,rfl⟩))
 have hm2:∀ p∈(xs.zipIdx).map (fun p:Operand × Nat=>(p.2,p.1)),p.2∈xs:=fun p hp'=>by
  obtain ⟨q,hq,rfl⟩:=List.mem_map.1 hp'
  exact List.fst_mem_of_mem_zipIdx hq
 have hfa:=fillA_rows (k:=k) (xs.map A) 0 ((madeCells z.cells (n*k)).toList.map fun x=>.d (.v x)) (fun y hy=>by obtain ⟨x,hx,rfl⟩:=List.mem_map.1 hy;exact hlen x hx) (by simp[size_madeCells,hn])
 have hmap:((xs.map A).zipIdx 0).map (fun p=>(p.2,p.1))=((xs.zipIdx).map fun p=>(p.2,p.1)).map fun p=>(p.1,A p.2):=by
  simp[List.zipIdx_map,List.map_map,Function.comp_def]
 rw[hmap] at hfa
 simp only[Nat.zero_mul,List.take_zero,List.nil_append] at hfa
 obtain ⟨cur',hf,hvs⟩:=fill_sound (place:=fun i=>some (i*k,k)) (zero_flat (z:=z) (k:=k) (n:=n) h.zs ι F w) (fun p hp'=>hops p.2 (hm2 p hp')) (fun p hp'=>hone p.2 (hm2 p hp')) hfa
 have hlk:cur'.size=n*k:=by
  have:=hvs.1
  simp only[Array.length_toList] at this
  rw[this,flatten_len (k:=k) (fun r hr=>by
   obtain ⟨y,hy,rfl⟩:=List.mem_map.1 hr
   obtain ⟨x,hx,rfl⟩:=List.mem_map.1 hy
   exact hlen x hx)]
  simp[hn]
 refine ⟨w,cur'.toList,n,e,?_,.inl rfl,Nat.le_refl _,by simp[hlk],fun i r hr j c hj=>?_⟩
 ·have hr:=run_buildSlice' (P:=P) (t:=t) (e:=e) (n:=n) (k:=k) (b:=b) (z:=z) (w:=w) (pv:=parts.map fun (x:Nat × Operand)=>(x.1,ρ x.2)) (cur:=cur') hsm (by rw[Array.toList_map,hp];exact hf)
  simp[execOp,ho,hr]
 ·have hr':(xs.map A).map AV.cells=xs.map fun x=>(A x).cells:=by simp
  have:=flatten_at (k:=k) (rows:=xs.map fun x=>(A x).cells) (fun r hr=>by obtain ⟨x,hx,rfl⟩:=List.mem_map.1 hr;exact hlen x hx) hr hj
  rw[hr'] at hvs
  exact hvs.get this
end
end
section
open Go Go.RowKit
inductive SrcIs (H:Heap) (k:Nat):AV→List (List AV)→List Loc→Prop
 | data (rows:List (List D)) (hk:∀ r∈rows,r.length=k):SrcIs H k (.d (.sl k rows)) (rows.map fun r=>r.map .d) []
 | own (l:Loc) (off n:Nat) (ob:AObj) (hl:H l=some ob) (hk:ob.k=k) (hn:off+n≤ob.rows.length):SrcIs H k (.own k l off n) ((ob.rows.drop off).take n) [l]
 | nil:SrcIs H k (.d (.v (.slice none 0 0))) [] []
theorem rows_eq [Mode] {k:Nat}{P:Program}{t e:TypeId}{b:Nat}{z:Value} [h:TySlice P t e k b z]:∃ i,P.info? e=some i∧i.size=k∧i.bytes=b∧i.zero=some z:=by
 have hsi:=h.s
 cases hi:P.info? e with
 | none=>rw[hi] at hsi;cases hsi
 | some i=>
  rw[hi] at hsi
  simp only[Option.map_some,Option.some.injEq,Prod.mk.injEq] at hsi
  exact ⟨i,rfl,hsi⟩
section
variable {ι : Iota} {F : Nat → Prop} {w : World} {H : Heap} {P : Program}
theorem src_cells [Mode] {k:Nat} (hk0:0<k) {x:AV}{R:List (List AV)}{rd:List Loc}{v:Value} (hx:SrcIs H k x R rd) (hs:Sim ι F H w) (hv:VR ι F w x v) (hone:∀ r∈R,r.all AV.one=true) :
  ∃ (a:Option Addr) (cap:Nat) (news:List Value),v = .slice a R.length cap∧news.length=R.length*k∧(∀ w',(∀ a,w'.cell? a=w.cell? a)→(Builtin.firstCells k R.length v).run P w' = .ok news.toArray w')∧
   (∀ (i:Nat) r,R[i]? = some r→r.length=k∧∀ (j:Nat) c,r[j]? = some c→∃ u,news[i*k+j]? = some u∧VR ι F w c u)∧∀ u∈news,u.oneCell'=true:=by
 have honeOf:∀ (news:List Value),news.length=R.length*k→(∀ (i:Nat) r,R[i]? = some r→r.length=k∧∀ (j:Nat) c,r[j]? = some c→∃ u,news[i*k+j]? = some u∧VR ι F w c u)→∀ u∈news,u.oneCell'=true:=by
  intro news hlen h u hu
  obtain ⟨q,hq⟩:=List.getElem?_of_mem hu
  have hql:q<R.length*k:=by rw[← hlen];exact (List.getElem?_eq_some_iff.1 hq).1
  have hqi:q / k<R.length:=(Nat.div_lt_iff_lt_mul hk0).2 hql
  obtain ⟨h1,h2⟩:=h (q / k) _ (List.getElem?_eq_getElem hqi)
  have hqj:q % k<R[q / k].length:=by rw[h1];exact Nat.mod_lt _ hk0
  obtain ⟨u',h3,h4⟩:=h2 (q % k) _ (List.getElem?_eq_getElem hqj)
  rw[Nat.div_add_mod',hq] at h3
  cases h3
  exact h4.one (List.all_eq_true.1 (hone _ (List.getElem_mem hqi)) _ (List.getElem_mem hqj))
 cases hx with
 | data rows hk=>
  have hd:=hv.sl_inv
  cases hd with
  | sl _ _ a cap g hcap h hd=>
   have hcell:∀ (i:Nat) r,(rows.map fun r=>r.map AV.d)[i]? = some r→r.length=k∧∀ (j:Nat) c,r[j]? = some c→∃ u,((List.range ((rows.map fun r=>r.map AV.d).length*k)).map fun q=>g (q / k) (q % k))[i*k+j]? = some u∧VR ι F w c u:=by
    intro i r hr
    simp only[List.getElem?_map,Option.map_eq_some_iff] at hr
    obtain ⟨r',hr',rfl⟩:=hr
    have hrk:=hk r' (List.mem_of_getElem? hr')
    refine ⟨by simpa using hrk,fun j c hc=>?_⟩
    simp only[List.getElem?_map,Option.map_eq_some_iff] at hc
    obtain ⟨c',hc',rfl⟩:=hc
    have hj:j<k:=by rw[← hrk];exact (List.getElem?_eq_some_iff.1 hc').1
    have hi:i<rows.length:=(List.getElem?_eq_some_iff.1 hr').1
    have hlt:i*k+j<rows.length*k:=by
     have:(i+1)*k≤rows.length*k:=Nat.mul_le_mul_right _ hi
     rw[Nat.succ_mul] at this;omega
    refine ⟨g i j,?_,.d (hd i r' j c' hr' hc')⟩
    have e1:(i*k+j) / k=i:=by rw[Nat.add_comm,Nat.add_mul_div_right _ _ hk0,Nat.div_eq_of_lt hj,Nat.zero_add]
    have e2:(i*k+j) % k=j:=by rw[Nat.add_comm,Nat.add_mul_mod_self_right,Nat.mod_eq_of_lt hj]
    simp[hlt,e1,e2]
   refine ⟨a,cap,(List.range ((rows.map fun r=>r.map AV.d).length*k)).map fun q=>g (q / k) (q % k),by simp,by simp,fun w' hw'=>?_,hcell,honeOf _ (by simp) hcell⟩
   cases hrows:rows with
   | nil=>cases a<;>simp[Builtin.firstCells,loadCells,loadCellsFrom]
   | cons r0 rest=>
    have h0:=hk r0 (by rw[hrows];simp)
    obtain ⟨b,off,rfl,_,_⟩:=h 0 r0 0 r0[0] (by rw[hrows];rfl) (List.getElem?_eq_getElem (by omega))
    rw[← hrows]
    refine run_firstCells_some (P:=P) w' k _ ⟨b,off,none⟩ _ cap _ (by simp) (fun q u hq=>?_)
    simp only[List.getElem?_map,Option.map_eq_some_iff,List.length_map] at hq
    obtain ⟨q',h1,rfl⟩:=hq
    have hql:q<rows.length*k:=by have:=(List.getElem?_eq_some_iff.1 h1).1;simpa using this
    rw[List.getElem?_range hql] at h1;cases h1
    have hqi:q / k<rows.length:=(Nat.div_lt_iff_lt_mul hk0).2 hql
    have hrk:=hk rows[q / k] (List.getElem_mem hqi)
    have hqj:q % k<rows[q / k].length:=by rw[hrk];exact Nat.mod_lt _ hk0
    obtain ⟨b',off',e,_,h2⟩:=h (q / k) _ (q % k) _ (List.getElem?_eq_getElem hqi) (List.getElem?_eq_getElem hqj)
    simp only[Option.some.injEq,Addr.mk.injEq,and_true] at e
    obtain ⟨rfl,rfl⟩:=e
    rw[hw',addr_add,← h2,Nat.add_assoc,Nat.div_add_mod']
 | own l off n ob hl hk hn=>
  subst hk
  have hRl:((ob.rows.drop off).take n).length=n:=by simp;omega
  rcases hv.own_inv with ⟨b,sz,cap,e,hcap,hfit,rfl⟩|⟨e,rfl,rfl,rfl⟩
  ·rcases hs.obj l ob hl with ⟨e',_⟩|⟨b',cs,T,e',hb,hlen,h⟩
   ·rw[e] at e';cases e'
   ·rw[e] at e';simp only[Option.some.injEq,Prod.mk.injEq] at e'
    obtain ⟨rfl,rfl⟩:=e'
    have hle:off*ob.k+n*ob.k≤cs.length:=by
     rw[← Nat.add_mul];exact Nat.le_trans (Nat.mul_le_mul_right _ hn) hlen
    have hcell:∀ (i:Nat) r,((ob.rows.drop off).take n)[i]? = some r→r.length=ob.k∧∀ (j:Nat) c,r[j]? = some c→∃ u,((cs.drop (off*ob.k)).take (n*ob.k))[i*ob.k+j]? = some u∧VR ι F w c u:=by
     intro i r hr
     rw[List.getElem?_take] at hr
     split at hr
     ·rename_i hin
      rw[List.getElem?_drop] at hr
      obtain ⟨h1,h2⟩:=h (off+i) r hr
      refine ⟨h1,fun j c hc=>?_⟩
      obtain ⟨u,h3,h4⟩:=h2 j c hc
      have hj:j<ob.k:=by rw[← h1];exact (List.getElem?_eq_some_iff.1 hc).1
      have hlt:i*ob.k+j<n*ob.k:=by
       have:(i+1)*ob.k≤n*ob.k:=Nat.mul_le_mul_right _ hin
       rw[Nat.succ_mul] at this;omega
      refine ⟨u,?_,h4⟩
      rw[List.getElem?_take,if_pos hlt,List.getElem?_drop,← Nat.add_assoc,← Nat.add_mul]
      exact h3
     ·cases hr
    have hnl:((cs.drop (off*ob.k)).take (n*ob.k)).length=((ob.rows.drop off).take n).length*ob.k:=by rw[hRl];simp;omega
    refine ⟨some ⟨b,off*ob.k,none⟩,cap,(cs.drop (off*ob.k)).take (n*ob.k),by rw[hRl],hnl,fun w' hw'=>?_,hcell,honeOf _ hnl hcell⟩
    rw[hRl]
    refine run_firstCells_some (P:=P) w' ob.k n ⟨b,off*ob.k,none⟩ n cap _ (by rw[hnl,hRl]) (fun q u hq=>?_)
    rw[List.getElem?_take] at hq
    split at hq
    ·rw[List.getElem?_drop] at hq
     rw[hw',addr_add]
     exact cell_of_cells hb hq
    ·cases hq
  ·refine ⟨none,0,[],by simp,by simp,fun w' _=>by simp[Builtin.firstCells],fun i r hr=>by simp at hr,by simp⟩
 | nil=>
  have:=hv.v_inv
  subst this
  exact ⟨none,0,[],by simp,by simp,fun w' _=>by simp[Builtin.firstCells],fun i r hr=>by simp at hr,by simp⟩
end
section
variable {P : Program} {w : World}
def AppSrc (P:Program) (t':TypeId) (v:Value) (m:Nat):Prop:=(∃ e' a c,P.underlying t'=some (.slice e')∧v = .slice a m c)∨(P.underlying t'=some .string∧∃ s:ByteArray,v = .string s∧s.size=m)
theorem run_append_nilnil [Mode] {t t' ty e:TypeId}{k b:Nat}{z:Value} [h:TySlice P t e k b z] {v:Value} (hv:AppSrc P t' v 0) (hf:(Builtin.firstCells k 0 v).run P w = .ok #[] w) :
  (Builtin.append_ #[t,t'] ty #[.slice none 0 0,v]).run P w = .ok (.slice none 0 0) w:=by
 obtain ⟨i,hi,rfl,rfl,hz⟩:=rows_eq (P:=P) (t:=t) (e:=e) (k:=k) (b:=b) (z:=z)
 rcases hv with ⟨e',a,c,hu,rfl⟩|⟨hu,s,rfl,hm⟩
 ·simp[Builtin.append_,run_underlying h.u,run_underlying hu,sizeOf,typeInfo,hi,Builtin.lenOf,hf]
 ·simp[Builtin.append_,run_underlying h.u,run_underlying hu,sizeOf,typeInfo,hi,Builtin.lenOf,hm,hf]
theorem run_append_room' [Mode] {t t' ty e:TypeId}{k b:Nat}{z:Value} [h:TySlice P t e k b z] {g sLen sCap m:Nat}{cs news:List Value}{T:TypeId}{v:Value} (hv:AppSrc P t' v m) (hf:(Builtin.firstCells k m v).run P w = .ok news.toArray w) (hl:news.length=m*k)
  (hb:w.heap[g]? = some (.cells cs.toArray T (0,0))) (h1:∀ u∈news,u.oneCell'=true) (hroom:sLen+m≤sCap) (hfit:sCap*k≤cs.length) :
  (Builtin.append_ #[t,t'] ty #[.slice (some ⟨g,0,none⟩) sLen sCap,v]).run P w = .ok (.slice (some ⟨g,0,none⟩) (sLen+m) sCap) (w.setRow g (cs.take (sLen*k)++news++cs.drop (sLen*k+m*k)).toArray):=by
 obtain ⟨i,hi,rfl,rfl,hz⟩:=rows_eq (P:=P) (t:=t) (e:=e) (k:=k) (b:=b) (z:=z)
 have hle:sLen*i.size+news.length≤cs.length:=by rw[hl,← Nat.add_mul];exact Nat.le_trans (Nat.mul_le_mul_right _ hroom) hfit
 have hst:=run_storeCells_at P g (sLen*i.size) T news 0 cs.toArray w hb (by simpa using hle) h1
 simp only[Nat.add_zero,hl] at hst
 rcases hv with ⟨e',a,c,hu,rfl⟩|⟨hu,s,rfl,hm⟩
 ·simp[Builtin.append_,run_underlying h.u,run_underlying hu,sizeOf,typeInfo,hi,Builtin.lenOf,hroom,hf,addr_add,hst]
 ·simp[Builtin.append_,run_underlying h.u,run_underlying hu,sizeOf,typeInfo,hi,Builtin.lenOf,hm,hroom,hf,addr_add,hst]
theorem run_append_grow' [Mode] {t t' ty e:TypeId}{k b:Nat}{z:Value} [h:TySlice P t e k b z] {base:Option Addr}{sLen sCap m:Nat}{olds news:List Value}{v:Value} (hv:AppSrc P t' v m) (hf:(Builtin.firstCells k m v).run P w.drew = .ok news.toArray w.drew)
  (hfo:(Builtin.firstCells k sLen (.slice base sLen sCap)).run P w.drew = .ok olds.toArray w.drew) (hg:sCap<sLen+m) (h63:sLen+m≤9223372036854775807) (hb:(sLen+m)*b≤140737488355328) :
  (Builtin.append_ #[t,t'] ty #[.slice base sLen sCap,v]).run P w = .ok (.slice (some ⟨w.heap.size,0,none⟩) (sLen+m) (grownCap w (sLen+m) sCap e))
   (w.drew.alloc (.cells (olds.toArray++news.toArray++Builtin.zeroCells z.cells (grownCap w (sLen+m) sCap e - (sLen+m))) e)):=by
 obtain ⟨i,hi,rfl,rfl,hz⟩:=rows_eq (P:=P) (t:=t) (e:=e) (k:=k) (b:=b) (z:=z)
 have hn:¬ (sLen+m≤sCap):=by omega
 have h63':¬ (9223372036854775807<((sLen:Int)+(m:Int))):=by omega
 have hfit:=growslice_fits hg hb
 have h48':¬ (281474976710656<Builtin.nextslicecap (sLen+m) sCap*i.bytes):=by omega
 rcases hv with ⟨e',a,c,hu,rfl⟩|⟨hu,s,rfl,hm⟩
 ·simp[Builtin.append_,run_underlying h.u,run_underlying hu,sizeOf,typeInfo,zeroValue,hi,hz,Builtin.lenOf,hn,h63',h48',Question.forced,hf,hfo,Go.newRow,grownCap]
  congr 2
  apply Array.ext'
  simp
 ·simp[Builtin.append_,run_underlying h.u,run_underlying hu,sizeOf,typeInfo,zeroValue,hi,hz,Builtin.lenOf,hm,hn,h63',h48',Question.forced,hf,hfo,Go.newRow,grownCap]
  congr 2
  apply Array.ext'
  simp
theorem grownCap_le [Mode] {need old:Nat}{e:TypeId}:need≤grownCap w need old e:=by
 simp[grownCap,Question.cut]
end
section
variable {P : Program} {o : Oper} {A : Operand → AV} {H : Heap} {new : Nat}
def GivesRows [Mode] (P:Program) (t':TypeId) (k:Nat) (H:Heap) (x:AV) (R:List (List AV)) (rd:List Loc):Prop:=
 ∀ (ι:Iota) (F:Nat→Prop) (w:World) (H1:Heap) (v:Value),(∀ l,Cov rd l→H1 l=H l)→Sim ι F H1 w→VR ι F w x v→∃ news:List Value,AppSrc P t' v R.length∧news.length=R.length*k∧(∀ w',(∀ a,w'.cell? a=w.cell? a)→(Builtin.firstCells k R.length v).run P w' = .ok news.toArray w')∧
  (∀ (i:Nat) r,R[i]? = some r→r.length=k∧∀ (j:Nat) c,r[j]? = some c→∃ u,news[i*k+j]? = some u∧VR ι F w c u)∧∀ u∈news,u.oneCell'=true
theorem SrcIs.gives [Mode] {t' e':TypeId}{k b':Nat}{z':Value} [h':TySlice P t' e' k b' z'] (hk0:0<k) {x:AV}{R:List (List AV)}{rd:List Loc} (hx:SrcIs H k x R rd) (hone:∀ r∈R,r.all AV.one=true):GivesRows P t' k H x R rd:=by
 intro ι F w H1 v hH hs hv
 have hx1:SrcIs H1 k x R rd:=by
  cases hx with
  | data rows hk=>exact .data rows hk
  | own l off n ob hl hk hn=>exact .own l off n ob ((hH l (.mem (by simp))).trans hl) hk hn
  | nil=>exact .nil
 obtain ⟨a,cap,news,hxv,h1,h2,h3,h4⟩:=src_cells (P:=P) hk0 hx1 hs hv hone
 exact ⟨news,.inl ⟨e',a,cap,h'.u,hxv⟩,h1,h2,h3,h4⟩
theorem OpOk.appendG [Mode] {t t' e:TypeId}{ts:Array TypeId}{s x:Operand}{k b n:Nat}{z:Value}{R S:List (List AV)}{rd rs:List Loc}{wr:List W} (ho:o.op = .call { callee:=.builtin .append,args:=#[s,x],argTypes:=ts }) (hts:ts = #[t,t']) [h:TySlice P t e k b z]
  (hd:(∃ l ob,A s = .own k l 0 n∧H l=some ob∧ob.k=k∧n≤ob.rows.length∧S=ob.rows.take n∧rs=[l]∧wr=[.one l none,.one ⟨new,[]⟩ (some ⟨k,S++R⟩)])∨(A s = .d (.v (.slice none 0 0))∧n=0∧S=[]∧rs=[]∧wr=[.one ⟨new,[]⟩ (some ⟨k,S++R⟩)]))
  (hx:GivesRows P t' k H (A x) R rd) (hsz:(n+R.length)*b≤140737488355328) (h63:n+R.length≤9223372036854775807) :
  OpOk P o A (rs++rd) H new (.own k ⟨new,[]⟩ 0 (n+R.length)) wr:=by
 intro ι F w H1 ρ hH hnew hs hv
 have hvs:=hv s (by simp[ho,Op.operands,Call.operands])
 have hvx:=hv x (by simp[ho,Op.operands,Call.operands])
 obtain ⟨news,hxv,hnl,hfc,hcell,hno⟩:=hx ι F w H1 (ρ x) (fun l hl=>hH l (hl.mono fun r hr=>List.mem_append_right _ hr)) hs hvx
 have hrunop:∀ r sv,ρ s=sv→(Builtin.append_ #[t,t'] o.type #[sv,ρ x]).run P w=r→(execOp ρ o).run P w=r.andThen fun v w'=>.ok (.value v) w':=fun r sv hsv hr=>by
  subst hsv
  simp[execOp,ho,hts,resolve,invoke,builtin,hr]
 have caseNil:ρ s = .slice none 0 0→n=0→S=[]→(∀ l,l∈rs→ι l=some none)→(upds H1 wr=upd H1 ⟨new,[]⟩ (some ⟨k,S++R⟩)∨∃ l,upds H1 wr=upd (upd H1 l none) ⟨new,[]⟩ (some ⟨k,S++R⟩))→
   Upon P (fun v w'=>∃ ι' F',VR ι' F' w' (.own k ⟨new,[]⟩ 0 (n+R.length)) v∧Post ι F H1 w (rs++rd) new ι' F' (upds H1 wr) w') ((execOp ρ o).run P w):=by
  intro hsn hn0 hS hrs hw
  subst hn0 hS
  have post:∀ {ι':Iota}{F':Nat→Prop}{w':World},Post ι F H1 w (rs++rd) new ι' F' (upd H1 ⟨new,[]⟩ (some ⟨k,[]++R⟩)) w'→Post ι F H1 w (rs++rd) new ι' F' (upds H1 wr) w':=by
   intro ι' F' w' hp
   rcases hw with e|⟨l,e⟩
   ·rw[e];exact hp
   ·rw[e]
    by_cases hl:l=⟨new,[]⟩
    ·subst hl
     have:upd (upd H1 ⟨new,[]⟩ none) ⟨new,[]⟩ (some ⟨k,[]++R⟩)=upd H1 ⟨new,[]⟩ (some ⟨k,[]++R⟩):=by
      funext l';by_cases hl':l'=⟨new,[]⟩<;>simp[upd,hl']
     rw[this];exact hp
    ·have:upd (upd H1 l none) ⟨new,[]⟩ (some ⟨k,[]++R⟩)=upd (upd H1 ⟨new,[]⟩ (some ⟨k,[]++R⟩)) l none:=by
      funext l';simp only[upd]
      by_cases h1:l'=⟨new,[]⟩
      ·subst h1
       simp[Ne.symm hl]
      ·by_cases h2:l'=l
       ·subst h2;simp[h1]
       ·simp[h1,h2]
     rw[this]
     have hmono:∀ l',upd (upd H1 ⟨new,[]⟩ (some ⟨k,[]++R⟩)) l none l'≠none→upd H1 ⟨new,[]⟩ (some ⟨k,[]++R⟩) l'≠none:=fun l' h'=>by
      by_cases e':l'=l
      ·subst e';rw[upd_same] at h';exact absurd rfl h'
      ·rwa [upd_ne e'] at h'
     exact ⟨hp.sim.drop l,hp.ext,hp.dom,hp.sub,hp.sup,hp.step,fun l' b s h1 h2=>hp.own l' b s (hmono l' h1) h2⟩
  by_cases hR:R=[]
  ·subst hR
   have hr:=run_append_nilnil (P:=P) (w:=w) (t:=t) (t':=t') (ty:=o.type) (e:=e) (k:=k) (b:=b) (z:=z) (v:=ρ x) (by simpa using hxv) (by
    have:=hfc w (fun _=>rfl)
    have hn':news=[]:=List.length_eq_zero_iff.1 (by simpa using hnl)
    simpa [hn'] using this)
   rw[hrunop _ _ hsn hr]
   refine ⟨updι ι ⟨new,[]⟩ none,F,?_,post (by simpa using Post.allocNil hs hnew k (rs++rd))⟩
   simpa using VR.ownNil (ι:=updι ι ⟨new,[]⟩ none) (F:=F) (w:=w) k ⟨new,[]⟩ (by simp[updι])
  ·have hRl:0<R.length:=List.length_pos_iff.2 hR
   have hr:=run_append_grow' (P:=P) (w:=w) (t:=t) (t':=t') (ty:=o.type) (e:=e) (k:=k) (b:=b) (z:=z) (base:=none) (sLen:=0) (sCap:=0) (olds:=[]) (v:=ρ x) hxv (hfc w.drew (fun _=>rfl)) (by simp[Builtin.firstCells]) (by omega) (by omega) hsz
   rw[hrunop _ _ hsn hr]
   simp only[Result.andThen_ok]
   have hgc:=grownCap_le (w:=w) (need:=0+R.length) (old:=0) (e:=e)
   generalize grownCap w (0+R.length) 0 e=gc at hgc
   have hcs:(([]:List Value).toArray++news.toArray++Builtin.zeroCells z.cells (gc - (0+R.length)))=(news++(Builtin.zeroCells z.cells (gc - (0+R.length))).toList).toArray:=by
    apply Array.ext';simp
   rw[hcs]
   have hlen2:(news++(Builtin.zeroCells z.cells (gc - (0+R.length))).toList).length=gc*k:=by
    simp only[List.length_append,Array.length_toList,hnl,size_zeroCells,h.zs]
    rw[← Nat.add_mul];congr 1;omega
   generalize hbig:(news++(Builtin.zeroCells z.cells (gc - (0+R.length))).toList)=big at hlen2
   have hp:=Post.alloc hs.drew hnew big e ⟨k,[]++R⟩ (by rw[hlen2];exact Nat.mul_le_mul_right _ (by simpa using hgc)) (fun i r hr'=>⟨(hcell i r (by simpa using hr')).1,fun j c hc=>by
    obtain ⟨u,h1,h2⟩:=(hcell i r (by simpa using hr')).2 j c hc
    refine ⟨u,?_,h2.mono (ext_rfl ι) (fun _ h=>h) (fun _ _=>rfl)⟩
    show big[i*k+j]? = some u
    rw[← hbig,List.getElem?_append_left (List.getElem?_eq_some_iff.1 h1).1];exact h1⟩) (rs++rd)
   refine ⟨updι ι ⟨new,[]⟩ (some (w.heap.size,big.length)),F,?_,post ⟨hp.sim,hp.ext,hp.dom,hp.sub,hp.sup,⟨hp.step.os,hp.step.tape,hp.step.output,hp.step.size,hp.step.block⟩,hp.own⟩⟩
   have:=VR.own (ι:=updι ι ⟨new,[]⟩ (some (w.heap.size,big.length))) (F:=F) (w:=w.drew.alloc (.cells big.toArray e)) k ⟨new,[]⟩ 0 (0+R.length) w.heap.size big.length gc (by simp[updι]) hgc (by rw[hlen2];simp)
   simpa using this
 rcases hd with ⟨l,ob,hA,hl,hk,hn,hS,rfl,rfl⟩|⟨hA,hn0,hS,rfl,rfl⟩
 ·have hl1:=(hH l (.mem (by simp))).trans hl
  rw[hA] at hvs
  rcases hvs.own_inv with ⟨g,sz,sCap,eι,hcap,hfit,hsv⟩|⟨eι,_,hn0,hsv⟩
  ·subst hk
   rcases hs.obj l ob hl1 with ⟨e',_⟩|⟨g',cs,T,e',hb,hlen,hrows⟩
   ·rw[eι] at e';cases e'
   ·rw[eι] at e';simp only[Option.some.injEq,Prod.mk.injEq] at e'
    obtain ⟨rfl,rfl⟩:=e'
    simp only[Nat.zero_add,Nat.zero_mul] at hfit hsv
    have hnk:n*ob.k≤cs.length:=Nat.le_trans (Nat.mul_le_mul_right _ hn) hlen
    have hne:l≠⟨new,[]⟩:=fun e=>by rw[e,hnew []] at eι;cases eι
    by_cases hroom:n+R.length≤sCap
    ·
     have hr:=run_append_room' (P:=P) (w:=w) (t:=t) (t':=t') (ty:=o.type) (e:=e) (k:=ob.k) (b:=b) (z:=z) (sLen:=n) (v:=ρ x) hxv (hfc w (fun _=>rfl)) hnl hb hno hroom hfit
     rw[hrunop _ _ hsv hr]
     simp only[Result.andThen_ok]
     have hfit2:n*ob.k+R.length*ob.k≤cs.length:=by rw[← Nat.add_mul];exact Nat.le_trans (Nat.mul_le_mul_right _ hroom) hfit
     have hlen':(cs.take (n*ob.k)++news++cs.drop (n*ob.k+R.length*ob.k)).length=cs.length:=by
      simp only[List.length_append,List.length_take,List.length_drop,hnl];omega
     have hp:=Post.write hs hl1 eι hb hlen' (o':=⟨ob.k,S++R⟩) (by
      rw[hlen',hS];simp only[List.length_append,List.length_take,Nat.min_eq_left hn,Nat.add_mul];exact hfit2) (fun i r hr'=>by
       rw[List.getElem?_append] at hr'
       have hSl:S.length=n:=by rw[hS];simp;omega
       rw[hSl] at hr'
       split at hr'
       ·rename_i hin
        rw[hS,List.getElem?_take,if_pos hin] at hr'
        obtain ⟨h1,h2⟩:=hrows i r hr'
        refine ⟨h1,fun j c hc=>?_⟩
        obtain ⟨u,h3,h4⟩:=h2 j c hc
        refine ⟨u,?_,h4⟩
        have hj:j<ob.k:=by rw[← h1];exact (List.getElem?_eq_some_iff.1 hc).1
        have hlt:i*ob.k+j<n*ob.k:=by
         have:(i+1)*ob.k≤n*ob.k:=Nat.mul_le_mul_right _ hin
         rw[Nat.succ_mul] at this;omega
        show (cs.take (n*ob.k)++news++cs.drop (n*ob.k+R.length*ob.k))[i*ob.k+j]? = some u
        rw[List.append_assoc,List.getElem?_append_left (by simp;omega),List.getElem?_take,if_pos hlt];exact h3
       ·rename_i hin
        obtain ⟨h1,h2⟩:=hcell (i - n) r hr'
        refine ⟨h1,fun j c hc=>?_⟩
        obtain ⟨u,h3,h4⟩:=h2 j c hc
        refine ⟨u,?_,h4⟩
        have h3l:=(List.getElem?_eq_some_iff.1 h3).1
        have hik:i*ob.k=n*ob.k+(i - n)*ob.k:=by rw[← Nat.add_mul];congr 1;omega
        have htl:(cs.take (n*ob.k)).length=n*ob.k:=by simp;omega
        show (cs.take (n*ob.k)++news++cs.drop (n*ob.k+R.length*ob.k))[i*ob.k+j]? = some u
        rw[List.getElem?_append_left (by rw[List.length_append,htl];omega),List.getElem?_append_right (by rw[htl];omega),htl,show i*ob.k+j - n*ob.k=(i - n)*ob.k+j by omega]
        exact h3) ([l]++rd) (.mem (by simp)) new
     have he2:Ext ι (updι ι ⟨new,[]⟩ (some (g,cs.length))):=ext_updι (hnew [])
     have hval:updι ι ⟨new,[]⟩ (some (g,cs.length)) ⟨new,[]⟩=some (some (g,cs.length)):=by simp[updι]
     have hoth:∀ l',l'≠⟨new,[]⟩→updι ι ⟨new,[]⟩ (some (g,cs.length)) l'=ι l':=fun l' hl'=>by simp[updι,hl']
     have hHH:∀ l',upds H1 [.one l none,.one ⟨new,[]⟩ (some ⟨ob.k,S++R⟩)] l'=if l'=⟨new,[]⟩ then some ⟨ob.k,S++R⟩ else if l'=l then none else H1 l':=fun l'=>by simp[upds,W.app,upd]
     refine ⟨updι ι ⟨new,[]⟩ (some (g,cs.length)),F,?_,?_⟩
     ·have:=VR.own (ι:=updι ι ⟨new,[]⟩ (some (g,cs.length))) (F:=F) (w:=w.setRow g (cs.take (n*ob.k)++news++cs.drop (n*ob.k+R.length*ob.k)).toArray) ob.k ⟨new,[]⟩ 0 (n+R.length) g cs.length sCap hval hroom (by simpa using hfit)
      simpa using this
     ·refine ⟨⟨fun l' ob' hob=>?_,fun l1 l2 b s s' h1 h2 e1 e2=>?_,fun l1 b s h1 e1=>?_,hp.sim.lt,hp.sim.gl⟩,he2,fun l' hl'=>?_,fun _ h=>h,fun _ h=>.inl h,hp.step,fun l' b s h1 e1=>?_⟩
      ·rw[hHH] at hob
       by_cases h1:l'=⟨new,[]⟩
       ·rw[if_pos h1] at hob;cases hob;subst h1
        have h2:=hp.sim.obj l _ upd_same
        rcases h2 with ⟨e3,_⟩|⟨g2,cs2,T2,e3,h3,h4,h5⟩
        ·rw[eι] at e3;cases e3
        ·rw[eι] at e3;simp only[Option.some.injEq,Prod.mk.injEq] at e3
         obtain ⟨rfl,e3⟩:=e3
         exact .inr ⟨g,cs2,T2,by rw[hval,e3],h3,h4,fun i r hr'=>⟨(h5 i r hr').1,fun j c hc=>let ⟨u,h6,h7⟩:=(h5 i r hr').2 j c hc;⟨u,h6,h7.mono he2 (fun _ h=>h) (fun _ _=>rfl)⟩⟩⟩
       ·rw[if_neg h1] at hob
        by_cases h2:l'=l
        ·rw[if_pos h2] at hob;cases hob
        ·rw[if_neg h2] at hob
         have h3:=hp.sim.obj l' ob' (by rw[upd_ne h2];exact hob)
         exact h3.mono he2 (fun _ h=>h) (fun _ _=>rfl) (fun _ _ _=>rfl)
      ·rw[hHH] at h1 h2
       by_cases c1:l1=⟨new,[]⟩<;>by_cases c2:l2=⟨new,[]⟩
       ·rw[c1,c2]
       ·exfalso
        rw[if_neg c2] at h2
        by_cases c3:l2=l
        ·rw[if_pos c3] at h2;exact h2 rfl
        ·rw[if_neg c3] at h2
         rw[c1,hval] at e1;rw[hoth _ c2] at e2
         simp only[Option.some.injEq,Prod.mk.injEq] at e1
         obtain ⟨rfl,_⟩:=e1
         exact c3 (hs.inj l2 l g s' _ h2 (by rw[hl1];simp) e2 eι)
       ·exfalso
        rw[if_neg c1] at h1
        by_cases c3:l1=l
        ·rw[if_pos c3] at h1;exact h1 rfl
        ·rw[if_neg c3] at h1
         rw[c2,hval] at e2;rw[hoth _ c1] at e1
         simp only[Option.some.injEq,Prod.mk.injEq] at e2
         obtain ⟨rfl,_⟩:=e2
         exact c3 (hs.inj l1 l g s _ h1 (by rw[hl1];simp) e1 eι)
       ·rw[if_neg c1] at h1;rw[if_neg c2] at h2
        rw[hoth _ c1] at e1;rw[hoth _ c2] at e2
        by_cases c3:l1=l
        ·rw[if_pos c3] at h1;exact absurd rfl h1
        ·by_cases c4:l2=l
         ·rw[if_pos c4] at h2;exact absurd rfl h2
         ·rw[if_neg c3] at h1;rw[if_neg c4] at h2
          exact hs.inj l1 l2 b s s' h1 h2 e1 e2
      ·rw[hHH] at h1
       by_cases c1:l1=⟨new,[]⟩
       ·rw[c1,hval] at e1
        simp only[Option.some.injEq,Prod.mk.injEq] at e1
        obtain ⟨rfl,_⟩:=e1
        exact hs.notF l g _ (by rw[hl1];simp) eι
       ·rw[if_neg c1] at h1
        rw[hoth _ c1] at e1
        by_cases c3:l1=l
        ·rw[if_pos c3] at h1;exact absurd rfl h1
        ·rw[if_neg c3] at h1;exact hs.notF l1 b s h1 e1
      ·by_cases c1:l'=⟨new,[]⟩
       ·right;rw[c1]
       ·left;rwa [hoth _ c1] at hl'
      ·rw[hHH] at h1
       by_cases c1:l'=⟨new,[]⟩
       ·rw[c1,hval] at e1
        simp only[Option.some.injEq,Prod.mk.injEq] at e1
        obtain ⟨rfl,_⟩:=e1
        exact .inl ⟨l,by rw[hl1];simp,_,eι⟩
       ·rw[if_neg c1] at h1
        rw[hoth _ c1] at e1
        by_cases c3:l'=l
        ·rw[if_pos c3] at h1;exact absurd rfl h1
        ·rw[if_neg c3] at h1;exact .inl ⟨l',h1,s,e1⟩
    ·
     have hfo:(Builtin.firstCells ob.k n (.slice (some ⟨g,0,none⟩) n sCap)).run P w.drew = .ok (cs.take (n*ob.k)).toArray w.drew:=
      run_firstCells_some (P:=P) w.drew ob.k n ⟨g,0,none⟩ n sCap _ (by simp;omega) (fun q u hq=>by
       rw[List.getElem?_take] at hq
       split at hq
       ·rw[addr_add];simpa using cell_of_cells (w:=w) hb hq
       ·cases hq)
     have hr:=run_append_grow' (P:=P) (w:=w) (t:=t) (t':=t') (ty:=o.type) (e:=e) (k:=ob.k) (b:=b) (z:=z) (base:=some ⟨g,0,none⟩) (sLen:=n) (sCap:=sCap) (v:=ρ x) hxv (hfc w.drew (fun _=>rfl)) hfo (by omega) h63 hsz
     rw[hrunop _ _ hsv hr]
     simp only[Result.andThen_ok]
     have hgc:=grownCap_le (w:=w) (need:=n+R.length) (old:=sCap) (e:=e)
     generalize grownCap w (n+R.length) sCap e=gc at hgc
     have hcs:((cs.take (n*ob.k)).toArray++news.toArray++Builtin.zeroCells z.cells (gc - (n+R.length)))=(cs.take (n*ob.k)++news++(Builtin.zeroCells z.cells (gc - (n+R.length))).toList).toArray:=by
      apply Array.ext';simp
     rw[hcs]
     have htl:(cs.take (n*ob.k)).length=n*ob.k:=by simp;omega
     have hlen2:(cs.take (n*ob.k)++news++(Builtin.zeroCells z.cells (gc - (n+R.length))).toList).length=gc*ob.k:=by
      simp only[List.length_append,Array.length_toList,htl,hnl,size_zeroCells,h.zs]
      rw[← Nat.add_mul,← Nat.add_mul];congr 1;omega
     have hSl:S.length=n:=by rw[hS];simp;omega
     generalize hbig:(cs.take (n*ob.k)++news++(Builtin.zeroCells z.cells (gc - (n+R.length))).toList)=big at hlen2
     have hp:=Post.alloc (hs.drew.drop l) (new:=new) hnew big e ⟨ob.k,S++R⟩ (by
       rw[hlen2];simp only[List.length_append,hSl];exact Nat.mul_le_mul_right _ hgc) (fun i r hr'=>by
       rw[List.getElem?_append,hSl] at hr'
       split at hr'
       ·rename_i hin
        rw[hS,List.getElem?_take,if_pos hin] at hr'
        obtain ⟨h1,h2⟩:=hrows i r hr'
        refine ⟨h1,fun j c hc=>?_⟩
        obtain ⟨u,h3,h4⟩:=h2 j c hc
        refine ⟨u,?_,h4.mono (ext_rfl ι) (fun _ h=>h) (fun _ _=>rfl)⟩
        have hj:j<ob.k:=by rw[← h1];exact (List.getElem?_eq_some_iff.1 hc).1
        have hlt:i*ob.k+j<n*ob.k:=by
         have:(i+1)*ob.k≤n*ob.k:=Nat.mul_le_mul_right _ hin
         rw[Nat.succ_mul] at this;omega
        show big[i*ob.k+j]? = some u
        rw[← hbig,List.append_assoc,List.getElem?_append_left (by rw[htl];omega),List.getElem?_take,if_pos hlt];exact h3
       ·rename_i hin
        obtain ⟨h1,h2⟩:=hcell (i - n) r hr'
        refine ⟨h1,fun j c hc=>?_⟩
        obtain ⟨u,h3,h4⟩:=h2 j c hc
        refine ⟨u,?_,h4.mono (ext_rfl ι) (fun _ h=>h) (fun _ _=>rfl)⟩
        have h3l:=(List.getElem?_eq_some_iff.1 h3).1
        have hik:i*ob.k=n*ob.k+(i - n)*ob.k:=by rw[← Nat.add_mul];congr 1;omega
        show big[i*ob.k+j]? = some u
        rw[← hbig,List.getElem?_append_left (by rw[List.length_append,htl];omega),List.getElem?_append_right (by rw[htl];omega),htl,show i*ob.k+j - n*ob.k=(i - n)*ob.k+j by omega]
        exact h3) ([l]++rd)
     have hup:upds H1 [.one l none,.one ⟨new,[]⟩ (some ⟨ob.k,S++R⟩)]=upd (upd H1 l none) ⟨new,[]⟩ (some ⟨ob.k,S++R⟩):=rfl
     have hold:∀ l',upd H1 l none l'≠none→H1 l'≠none:=fun l' h'=>by
      by_cases e':l'=l
      ·subst e';rw[upd_same] at h';exact absurd rfl h'
      ·rwa [upd_ne e'] at h'
     refine ⟨updι ι ⟨new,[]⟩ (some (w.heap.size,big.length)),F,?_,?_⟩
     ·have:=VR.own (ι:=updι ι ⟨new,[]⟩ (some (w.heap.size,big.length))) (F:=F) (w:=w.drew.alloc (.cells big.toArray e)) ob.k ⟨new,[]⟩ 0 (n+R.length) w.heap.size big.length gc (by simp[updι]) hgc (by rw[hlen2];simp)
      simpa using this
     ·rw[hup]
      refine ⟨hp.sim,hp.ext,hp.dom,hp.sub,fun b hb'=>?_,⟨hp.step.os,hp.step.tape,hp.step.output,hp.step.size,fun b hb' hno=>?_⟩,fun l' b s h1 e1=>?_⟩
      ·rcases hp.sup b hb' with h|⟨l',hl',ho',s,e1⟩|h
       ·exact .inl h
       ·exact .inr (.inl ⟨l',hl',hold _ ho',s,e1⟩)
       ·exact .inr (.inr h)
      ·exact hp.step.block b hb' fun ⟨l',hl',ho',s,e1⟩=>hno ⟨l',hl',hold _ ho',s,e1⟩
      ·rcases hp.own l' b s h1 e1 with ⟨l0,h0,s0,e0⟩|h
       ·exact .inl ⟨l0,hold _ h0,s0,e0⟩
       ·exact .inr h
  ·have hS':S=[]:=by rw[hS,hn0];simp
   exact caseNil hsv hn0 hS' (fun l' hl'=>by simp at hl';rw[hl'];exact eι) (.inr ⟨l,rfl⟩)
 ·rw[hA] at hvs
  exact caseNil hvs.v_inv hn0 hS (fun l' hl'=>by simp at hl') (.inl rfl)
theorem OpOk.append [Mode] {t t' e e':TypeId}{ts:Array TypeId}{s x:Operand}{k b b' n:Nat}{z z':Value}{R S:List (List AV)}{rd rs:List Loc}{wr:List W} (ho:o.op = .call { callee:=.builtin .append,args:=#[s,x],argTypes:=ts }) (hts:ts = #[t,t']) [h:TySlice P t e k b z] [h':TySlice P t' e' k b' z'] (hk0:0<k)
  (hd:(∃ l ob,A s = .own k l 0 n∧H l=some ob∧ob.k=k∧n≤ob.rows.length∧S=ob.rows.take n∧rs=[l]∧wr=[.one l none,.one ⟨new,[]⟩ (some ⟨k,S++R⟩)])∨(A s = .d (.v (.slice none 0 0))∧n=0∧S=[]∧rs=[]∧wr=[.one ⟨new,[]⟩ (some ⟨k,S++R⟩)]))
  (hx:SrcIs H k (A x) R rd) (hone:∀ r∈R,r.all AV.one=true) (hsz:(n+R.length)*b≤140737488355328) (h63:n+R.length≤9223372036854775807) :
  OpOk P o A (rs++rd) H new (.own k ⟨new,[]⟩ 0 (n+R.length)) wr:=OpOk.appendG ho hts hd (hx.gives hk0 hone) hsz h63
end
end
section
open Go Go.RowKit
def OwnB (ι:Iota) (H:Heap) (b:Nat):Prop:=∃ l,Owned ι H l b
def AC [Mode] (P:Program) (f:FuncId) (args:List AV) (H:Heap) (res:AV) (H':Heap):Prop:=
 ∀ (ι:Iota) (F:Nat→Prop) (w:World) (vs:List Value),Sim ι F H w→(∀ l,H l=none→ι l=none)→VRs ι F w args vs→
  Calls P f vs.toArray w fun e w'=>∃ v ι' F',e = .returned v∧VR ι' F' w' res v∧Sim ι' F' H' w'∧Step (OwnB ι H) w w'∧(∀ b,F b→F' b)∧(∀ b,F' b→F b∨OwnB ι H b∨w.heap.size≤b)∧
   (∀ b,OwnB ι' H' b→OwnB ι H b∨w.heap.size≤b)∧(∀ l x,H l≠none→ι l=some x→ι' l=some x)
abbrev H0:Heap:=fun _=>none
theorem run_mapM_results [Mode] {P:Program}{w:World}{g:ResultVar→Sem Value}:∀ (l:List ResultVar) (vs:List Value),l.length=vs.length→(∀ (i:Nat) rv v,l[i]? = some rv→vs[i]? = some v→(g rv).run P w = .ok v w)→(l.mapM g).run P w = .ok vs w
 | [],vs,hl,_=>by
  have:vs=[]:=List.length_eq_zero_iff.1 hl.symm
  subst this;simp
 | rv :: l,vs,hl,h=>by
  cases vs with
  | nil=>simp at hl
  | cons v vs=>
   have h0:=h 0 rv v rfl rfl
   have ih:=run_mapM_results (P:=P) (w:=w) (g:=g) l vs (by simpa using hl) (fun i rv v h1 h2=>h (i+1) rv v (by simpa using h1) (by simpa using h2))
   simp[List.mapM_cons,h0,ih]
def ResOf (P:Program) (fr:List AV) (H:Heap) (rv:ResultVar) (c:AV):Prop:=
 match rv with
 | .tmp t=>fr[t]? = some c
 | .cell a t=>∃ (k:Nat) (l:Loc) (i j:Nat) (ob:AObj) (r:List AV),fr[a]? = some (.ptr k l i j)∧H l=some ob∧ob.k=k∧ob.rows[i]? = some r∧
   ((∃ n,TyAgg P t n∧j+n≤r.length∧c = .agg ((r.drop j).take n))∨(TyCell P t∧r[j]? = some c))
theorem ResOf.run [Mode] {P:Program}{ι:Iota}{F:Nat→Prop}{w:World}{fr:List AV}{H:Heap}{rv:ResultVar}{c:AV}{tmps:Array Value} (h:ResOf P fr H rv c) (hs:Sim ι F H w) (hv:VRs ι F w fr tmps.toList) :
  ∃ v,((match rv with|.tmp t=>pure (tmps.getD t undef)|.cell a t=>do loadVar t (← asAddr (tmps.getD a undef)):Sem Value)).run P w = .ok v w∧VR ι F w c v:=by
 have get:∀ (t:Nat) (c:AV),fr[t]? = some c→∃ v,tmps.getD t undef=v∧VR ι F w c v:=fun t c hc=>by
  obtain ⟨v,h1,h2⟩:=hv.get hc
  have:tmps[t]? = some v:=by simpa using h1
  exact ⟨v,by simp[Array.getD_eq_getD_getElem?,this],h2⟩
 cases rv with
 | tmp t=>
  obtain ⟨v,h1,h2⟩:=get t c h
  exact ⟨v,by simp[h1],h2⟩
 | cell a t=>
  obtain ⟨k,l,i,j,ob,r,hf,hl,hk,hr,hc⟩:=h
  obtain ⟨v,h1,h2⟩:=get a _ hf
  obtain ⟨b,sz,e,hp⟩:=h2.ptr_inv
  obtain ⟨b',cs,T,e',hb,hrl,hfit,hcells⟩:=hs.row hl hr
  rw[e] at e';simp only[Option.some.injEq,Prod.mk.injEq] at e'
  obtain ⟨rfl,rfl⟩:=e'
  subst hk
  have hlen:i*ob.k+r.length≤cs.length:=by rw[hrl];rw[Nat.succ_mul] at hfit;exact hfit
  rcases hc with ⟨n,ht,hn,rfl⟩|⟨ht,hc⟩
  ·have hvs:VRs ι F w ((r.drop j).take n) ((cs.drop (i*ob.k+j)).take n):=by
    refine ⟨by simp;omega,fun m c v hc hv=>?_⟩
    simp only[List.getElem?_take,List.getElem?_drop] at hc hv
    split at hc
    ·rename_i hm
     rw[if_pos hm] at hv
     obtain ⟨v',h3,h4⟩:=hcells (j+m) c hc
     rw[← Nat.add_assoc] at h3
     rw[h3] at hv;cases hv
     exact h4
    ·cases hc
   have:=run_loadVar_agg (P:=P) (w:=w) (t:=t) (n:=n) (b:=b) (o:=i*ob.k+j) (cs:=(cs.drop (i*ob.k+j)).take n) (by simp;omega) (fun m v hm=>by
    simp only[List.getElem?_take,List.getElem?_drop] at hm
    split at hm
    ·exact cell_of_cells hb hm
    ·cases hm)
   exact ⟨_,by simp[h1,hp,asAddr,this],hvs.agg⟩
  ·obtain ⟨v',h3,h4⟩:=hcells j c hc
   exact ⟨v',by simp[h1,hp,asAddr,run_loadVar_cell (cell_of_cells hb h3)],h4⟩
def ResAll (P:Program) (fr:List AV) (H:Heap) (rvs:List ResultVar) (res:AV):Prop:=
 ∃ cs:List AV,cs.length=rvs.length∧(∀ (i:Nat) rv c,rvs[i]? = some rv→cs[i]? = some c→ResOf P fr H rv c)∧res=(match cs with | [c]=>c|cs=>.tup cs)
theorem ResAll.run [Mode] {P:Program}{ι:Iota}{F:Nat→Prop}{w:World}{fr:List AV}{H:Heap}{fn:Func}{res:AV}{tmps:Array Value} (h:ResAll P fr H fn.results.toList res) (hs:Sim ι F H w) (hv:VRs ι F w fr tmps.toList) :
  ∃ v,(results fn tmps).run P w = .ok v w∧VR ι F w res v:=by
 obtain ⟨cs,hl,hc,rfl⟩:=h
 have:∃ vs:List Value,vs.length=cs.length∧(∀ (i:Nat) rv v,fn.results.toList[i]? = some rv→vs[i]? = some v→((match rv with|.tmp t=>pure (tmps.getD t undef)|.cell a t=>do loadVar t (← asAddr (tmps.getD a undef)):Sem Value)).run P w = .ok v w)∧(∀ (i:Nat) c v,cs[i]? = some c→vs[i]? = some v→VR ι F w c v):=by
  generalize fn.results.toList=rvs at hl hc
  induction rvs generalizing cs with
  | nil=>
   have:cs=[]:=List.length_eq_zero_iff.1 hl
   subst this
   exact ⟨[],rfl,fun i rv v h=>by simp at h,fun i c v h=>by simp at h⟩
  | cons rv rvs ih=>
   cases cs with
   | nil=>simp at hl
   | cons c cs=>
    obtain ⟨vs,h1,h2,h3⟩:=ih cs (by simpa using hl) (fun i rv c ha hb=>hc (i+1) rv c (by simpa using ha) (by simpa using hb))
    obtain ⟨v,h4,h5⟩:=(hc 0 rv c rfl rfl).run hs hv
    refine ⟨v :: vs,by simp[h1],fun i rv' v' ha hb=>?_,fun i c' v' ha hb=>?_⟩
    ·cases i with
     | zero=>simp at ha hb;subst ha;subst hb;exact h4
     | succ i=>exact h2 i rv' v' (by simpa using ha) (by simpa using hb)
    ·cases i with
     | zero=>simp at ha hb;subst ha;subst hb;exact h5
     | succ i=>exact h3 i c' v' (by simpa using ha) (by simpa using hb)
 obtain ⟨vs,h1,h2,h3⟩:=this
 have hm:=run_mapM_results (P:=P) (w:=w) (g:=fun rv=>(match rv with|.tmp t=>pure (tmps.getD t undef)|.cell a t=>do loadVar t (← asAddr (tmps.getD a undef)):Sem Value)) fn.results.toList vs (by rw[h1,hl]) h2
 have hres:(results fn tmps).run P w = .ok (if h:vs.toArray.size=1 then vs.toArray[0] else .tuple vs.toArray) w:=by
  unfold results
  rw[Sem.run_bind,Array.mapM_eq_mapM_toList,map_eq_pure_bind,Sem.run_bind]
  erw [hm]
  rfl
 refine ⟨_,hres,?_⟩
 clear hres hm hl hc h2
 match cs,vs,h1,h3 with
 | [c],[v],_,h3=>exact h3 0 c v rfl rfl
 | [],[],_,_=>exact .tup [] [] rfl (fun _ _ _ h=>by simp at h)
 | c :: c' :: cs,v :: v' :: vs,h1,h3=>exact .tup _ _ h1 h3
def startFr (n:Nat) (args:List AV):List AV:=args++List.replicate (n - args.length) (.d (.v undef))
def EndQ [Mode] (P:Program) (C:Ctx) (fn:Func) (res:AV) (H':Heap):Exit→AS→Prop
 | .normal,s|.ret,s=>∃ c n',ResAll P s.fr s.H fn.results.toList c∧Le C ⟨[c],s.H,s.next⟩ ⟨[res],H',n'⟩
 | _,_=>False
theorem AC.of_body [Mode] {P:Program}{f:FuncId}{fn:Func}{c:Code}{args:List AV}{H:Heap}{res:AV}{H':Heap} (next:Nat) (hf:P.funcs[f]? = some fn) (hb:fn.body=some c) (hn:∀ l,H l≠none→l.id<next)
  (h:∀ C,(∀ l,C.D0 l↔H l≠none)→AW P C c (EndQ P C fn res H') ⟨startFr fn.ntmps args,H,next⟩):AC P f args H res H':=by
 intro ι F w vs hs hdom hv
 let C:Ctx:=⟨w,OwnB ι H,F,fun l=>H l≠none,ι⟩
 have hrs:RS C ⟨startFr fn.ntmps args,H,next⟩ { tmps:=vs.toArray++Array.replicate (fn.ntmps - vs.toArray.size) undef,defers:=[] } w:=by
  refine ⟨ι,F,hs,?_,rfl,⟨Step.refl _ _,fun _ h=>h,fun _ h=>.inl h,fun l b ho=>.inl ⟨l,ho⟩,fun l x _ h=>h⟩,fun id hid k=>?_⟩
  ·simp only[startFr,Array.toList_append,Array.toList_replicate,List.size_toArray,hv.1]
   refine hv.append ⟨by simp,fun i c v hc hv=>?_⟩
   rw[List.getElem?_replicate] at hc hv
   split at hc
   ·rename_i hi;rw[if_pos hi] at hv;cases hc;cases hv;exact .d (.v _)
   ·cases hc
  ·cases hι:ι ⟨id,k⟩ with
   | none=>rfl
   | some x=>
    exfalso
    have h1:H ⟨id,k⟩≠none:=fun e=>by rw[hdom _ e] at hι;cases hι
    have h2:=hn _ h1
    have hid':next≤id:=hid
    simp only at h2
    omega
 refine calls_of_wp hf hb (wp_mono (h C (fun l=>Iff.rfl) _ _ hrs) fun e a' w' ⟨s',hq,hr⟩=>?_)
 have fin:∀ (s':AS),RS C s' a' w'→(∃ c n',ResAll P s'.fr s'.H fn.results.toList c∧Le C ⟨[c],s'.H,s'.next⟩ ⟨[res],H',n'⟩)→
   a'.defers=[]∧∃ v,(results fn a'.tmps).run P w' = .ok v w'∧∃ v' ι' F',Ending.returned v = .returned v'∧VR ι' F' w' res v'∧Sim ι' F' H' w'∧Step (OwnB ι H) w w'∧(∀ b,F b→F' b)∧(∀ b,F' b→F b∨OwnB ι H b∨w.heap.size≤b)∧
   (∀ b,OwnB ι' H' b→OwnB ι H b∨w.heap.size≤b)∧(∀ l x,H l≠none→ι l=some x→ι' l=some x):=by
  rintro s' ⟨ι1,F1,hs1,hv1,hd1,hi1,hu1⟩ ⟨c,n',hres,hle⟩
  obtain ⟨v,h1,h2⟩:=hres.run hs1 hv1
  obtain ⟨ι',F',hs',hv',_,hi',_⟩:=hle ⟨#[v],[]⟩ w' ⟨ι1,F1,hs1,.cons h2 .nil,rfl,hi1,hu1⟩
  exact ⟨hd1,v,h1,v,ι',F',rfl,hv'.2 0 res v rfl rfl,hs',hi'.step,hi'.sub,hi'.sup,fun b ⟨l,ho⟩=>hi'.own l b ho,fun l x hl e=>hi'.keep l x hl e⟩
 cases e<;>first|exact fin s' hr hq|exact hq.elim
end
section
open Go Go.RowKit
def rn (f:Loc→Loc):AV→AV
 | .d x=>.d x
 | .agg cs=>.agg (cs.map (rn f))
 | .tup cs=>.tup (cs.map (rn f))
 | .own k l off n=>.own k (f l) off n
 | .ownc k l off n c=>.ownc k (f l) off n c
 | .ptr k l i j=>.ptr k (f l) i j
 | .dptr cs=>.dptr cs
 | .clo fn fs cs=>.clo fn (fs.map (rn f)) (cs.map (rn f))
 | .dead=>.dead
def rnO (f:Loc→Loc) (o:AObj):AObj:=⟨o.k,o.rows.map fun r=>r.map (rn f)⟩
theorem VR.ren [Mode] {ι ι':Iota}{F:Nat→Prop}{w:World}{f:Loc→Loc} (hf:∀ l,ι' (f l)=ι l) {a:AV}{v:Value} (h:VR ι F w a v):VR ι' F w (rn f a) v:=by
 induction h with
 | d h=>rw[rn];exact .d h
 | agg cs vs hl h ih=>
  rw[rn]
  refine .agg _ vs (by simpa using hl) fun i c v hc hv=>?_
  simp only[List.getElem?_map,Option.map_eq_some_iff] at hc
  obtain ⟨c',hc',rfl⟩:=hc
  exact ih i c' v hc' hv
 | tup cs vs hl h ih=>
  rw[rn]
  refine .tup _ vs (by simpa using hl) fun i c v hc hv=>?_
  simp only[List.getElem?_map,Option.map_eq_some_iff] at hc
  obtain ⟨c',hc',rfl⟩:=hc
  exact ih i c' v hc' hv
 | own k l off n b sz cap h hn hs=>rw[rn];exact .own k (f l) off n b sz cap (by rw[hf];exact h) hn hs
 | ownNil k l h=>rw[rn];exact .ownNil k (f l) (by rw[hf];exact h)
 | ownc k l off n cap b sz h hn hs=>rw[rn];exact .ownc k (f l) off n cap b sz (by rw[hf];exact h) hn hs
 | owncNil k l h=>rw[rn];exact .owncNil k (f l) (by rw[hf];exact h)
 | ptr k l i j b sz h=>rw[rn];exact .ptr k (f l) i j b sz (by rw[hf];exact h)
 | dptr cs b off g hF h hd=>rw[rn];exact .dptr cs b off g hF h hd
 | clo fn fs cs fv cv hl hc h h' ih ih'=>
  rw[rn]
  refine .clo fn _ _ fv cv (by simpa using hl) (by simpa using hc) (fun i c v hc hv=>?_) (fun i c v hc hv=>?_)
  ·simp only[List.getElem?_map,Option.map_eq_some_iff] at hc
   obtain ⟨c',hc',rfl⟩:=hc
   exact ih i c' v hc' hv
  ·simp only[List.getElem?_map,Option.map_eq_some_iff] at hc
   obtain ⟨c',hc',rfl⟩:=hc
   exact ih' i c' v hc' hv
 | dead v=>rw[rn];exact .dead v
inductive DRel (H:Heap) (lent:Loc→Prop):D→AV→Prop
 | d (x:D):DRel H lent x (.d x)
 | nil (k:Nat):DRel H lent (.sl k []) (.d (.v (.slice none 0 0)))
 | own (k:Nat) (l:Loc) (off n:Nat) (ob:AObj) (rows:List (List D)) (hl:H l=some ob) (hm:lent l) (hk:ob.k=k) (hn:off+n≤ob.rows.length) (hr:rows.length=n)
   (hll:∀ (i:Nat) r r',rows[i]? = some r→ob.rows[off+i]? = some r'→r.length=r'.length)
   (h:∀ (i:Nat) r r',rows[i]? = some r→ob.rows[off+i]? = some r'→∀ (j:Nat) c c',r[j]? = some c→r'[j]? = some c'→DRel H lent c c'):DRel H lent (.sl k rows) (.own k l off n)
inductive AR (H:Heap) (lent:Loc→Prop) (τ:Loc→Loc) (L:Loc→Prop):AV→AV→Prop
 | d {x:D}{a:AV} (h:DRel H lent x a):AR H lent τ L (.d x) a
 | agg (cs cs':List AV) (hl:cs.length=cs'.length) (h:∀ (i:Nat) c c',cs[i]? = some c→cs'[i]? = some c'→AR H lent τ L c c'):AR H lent τ L (.agg cs) (.agg cs')
 | tup (cs cs':List AV) (hl:cs.length=cs'.length) (h:∀ (i:Nat) c c',cs[i]? = some c→cs'[i]? = some c'→AR H lent τ L c c'):AR H lent τ L (.tup cs) (.tup cs')
 | own (k:Nat) (l:Loc) (off n:Nat) (h:L l):AR H lent τ L (.own k l off n) (.own k (τ l) off n)
 | ptr (k:Nat) (l:Loc) (i j:Nat) (h:L l):AR H lent τ L (.ptr k l i j) (.ptr k (τ l) i j)
 | dptr (cs:List D):AR H lent τ L (.dptr cs) (.dptr cs)
 | clo (fn:Fn) (fs fs' cs cs':List AV) (hl:fs.length=fs'.length) (hl':cs.length=cs'.length) (h:∀ (i:Nat) c c',fs[i]? = some c→fs'[i]? = some c'→AR H lent τ L c c') (h':∀ (i:Nat) c c',cs[i]? = some c→cs'[i]? = some c'→AR H lent τ L c c'):AR H lent τ L (.clo fn fs cs) (.clo fn fs' cs')
 | dead (a:AV):AR H lent τ L .dead a
section
variable {ι : Iota} {F : Nat → Prop} {H : Heap} {w : World} {lent : Loc → Prop}
theorem DRel.dr [Mode] (hs:Sim ι F H w) {x:D}{a:AV} (h:DRel H lent x a):∀ {v:Value},VR ι F w a v→DR (fun b=>F b∨∃ l,lent l∧Owned ι H l b) w x v:=by
 induction h with
 | d x=>
  intro v hv
  cases hv with
  | d h=>exact h.mono (fun _ h=>.inl h) (fun _ _=>rfl)
 | nil k=>intro v hv;have:=hv.v_inv;subst this;exact .sl k [] none 0 (fun _ _=>undef) (Nat.le_refl _) (fun i r j c h=>by simp at h) (fun i r j c h=>by simp at h)
 | own k l off n ob rows hl hm hk hn hr hll h ih=>
  intro v hv
  subst hk
  rcases hv.own_inv with ⟨b,sz,cap,e,hcap,hfit,rfl⟩|⟨e,rfl,rfl,rfl⟩
  ·rcases hs.obj l ob hl with ⟨e',_⟩|⟨b',cs,T,e',hb,hlen,hrows⟩
   ·rw[e] at e';cases e'
   ·rw[e] at e';simp only[Option.some.injEq,Prod.mk.injEq] at e'
    obtain ⟨rfl,rfl⟩:=e'
    subst hr
    have key:∀ (i:Nat) r (j:Nat) c,rows[i]? = some r→r[j]? = some c→∃ c' v,cs[(off+i)*ob.k+j]? = some v∧VR ι F w c' v∧(∀ {v:Value},VR ι F w c' v→DR (fun b=>F b∨∃ l,lent l∧Owned ι H l b) w c v):=by
     intro i r j c hr hc
     have hi:=(List.getElem?_eq_some_iff.1 hr).1
     have hr':=List.getElem?_eq_getElem (l:=ob.rows) (i:=off+i) (by omega)
     have hll:=hll i r _ hr hr'
     have hj:=(List.getElem?_eq_some_iff.1 hc).1
     have hc':=List.getElem?_eq_getElem (l:=ob.rows[off+i]) (i:=j) (by omega)
     obtain ⟨v,h1,h2⟩:=(hrows (off+i) _ hr').2 j _ hc'
     exact ⟨_,v,h1,h2,fun hv=>ih i r _ hr hr' j c _ hc hc' hv⟩
    refine .sl ob.k rows (some ⟨b,off*ob.k,none⟩) cap (fun i j=>(cs[(off+i)*ob.k+j]?).getD undef) hcap (fun i r j c hr hc=>?_) (fun i r j c hr hc=>?_)
    ·obtain ⟨c',v,h1,h2,h3⟩:=key i r j c hr hc
     refine ⟨b,off*ob.k,rfl,.inr ⟨l,hm,by rw[hl];simp,_,e⟩,?_⟩
     rw[h1,← Nat.add_mul]
     exact cell_of_cells hb h1
    ·obtain ⟨c',v,h1,h2,h3⟩:=key i r j c hr hc
     simp only[h1,Option.getD_some]
     exact h3 h2
  ·have:rows=[]:=List.length_eq_zero_iff.1 hr
   subst this
   exact .sl ob.k [] none 0 (fun _ _=>undef) (Nat.le_refl _) (fun i r j c h=>by simp at h) (fun i r j c h=>by simp at h)
theorem AR.vr [Mode] (hs:Sim ι F H w) {τ:Loc→Loc}{L:Loc→Prop}{ιc:Iota} (hι:∀ l,L l→ιc l=ι (τ l)) {a a':AV} (h:AR H lent τ L a a'):∀ {v:Value},VR ι F w a' v→VR ιc (fun b=>F b∨∃ l,lent l∧Owned ι H l b) w a v:=by
 induction h with
 | d h=>intro v hv;exact .d (h.dr hs hv)
 | agg cs cs' hl h ih=>
  intro v hv
  obtain ⟨vs,rfl,hvs⟩:=hv.agg_inv
  refine .agg cs vs (by rw[hvs.1,hl]) fun i c v hc hv=>?_
  have hi:=(List.getElem?_eq_some_iff.1 hc).1
  have hc':=List.getElem?_eq_getElem (l:=cs') (i:=i) (by omega)
  exact ih i c _ hc hc' (hvs.2 i _ v hc' hv)
 | tup cs cs' hl h ih=>
  intro v hv
  obtain ⟨vs,rfl,hvs⟩:=hv.tup_inv
  refine .tup cs vs (by rw[hvs.1,hl]) fun i c v hc hv=>?_
  have hi:=(List.getElem?_eq_some_iff.1 hc).1
  have hc':=List.getElem?_eq_getElem (l:=cs') (i:=i) (by omega)
  exact ih i c _ hc hc' (hvs.2 i _ v hc' hv)
 | own k l off n h=>
  intro v hv
  rcases hv.own_inv with ⟨b,sz,cap,e,hcap,hfit,rfl⟩|⟨e,rfl,rfl,rfl⟩
  ·exact .own k l off n b sz cap (by rw[hι l h];exact e) hcap hfit
  ·exact .ownNil k l (by rw[hι l h];exact e)
 | ptr k l i j h=>
  intro v hv
  obtain ⟨b,sz,e,rfl⟩:=hv.ptr_inv
  exact .ptr k l i j b sz (by rw[hι l h];exact e)
 | dptr cs=>
  intro v hv
  cases hv with
  | dptr _ b off g hF h hd=>exact .dptr cs b off g (.inl hF) h (fun j c hc=>(hd j c hc).mono (fun _ h=>.inl h) (fun _ _=>rfl))
 | clo fn fs fs' cs cs' hl hl' h h' ih ih'=>
  intro v hv
  generalize hx:AV.clo fn fs' cs'=x at hv
  cases hv with
  | clo fn' fs2 cs2 fv cv h1 h2 h3 h4=>
   cases hx
   refine .clo fn fs cs fv cv (by omega) (by omega) (fun i c v hc hv=>?_) (fun i c v hc hv=>?_)
   ·have hi:=(List.getElem?_eq_some_iff.1 hc).1
    have hc':=List.getElem?_eq_getElem (l:=fs') (i:=i) (by omega)
    exact ih i c _ hc hc' (h3 i _ v hc' hv)
   ·have hi:=(List.getElem?_eq_some_iff.1 hc).1
    have hc':=List.getElem?_eq_getElem (l:=cs') (i:=i) (by omega)
    exact ih' i c _ hc hc' (h4 i _ v hc' hv)
  | _=>cases hx
 | dead a=>intro v _;exact .dead v
end
def FreeF (a:AV):Prop:=∀ (ι:Iota) (F F':Nat→Prop) (w:World) (v:Value),VR ι F w a v→VR ι F' w a v
theorem FreeF.v [Mode] (x:Value):FreeF (.d (.v x)):=fun _ _ _ _ v h=>by have:=h.v_inv;subst this;exact .d (.v _)
theorem FreeF.own [Mode] (k:Nat) (l:Loc) (off n:Nat):FreeF (.own k l off n):=fun _ _ _ _ v h=>by
 rcases h.own_inv with ⟨b,sz,cap,e,hcap,hfit,rfl⟩|⟨e,rfl,rfl,rfl⟩
 ·exact .own k l off n b sz cap e hcap hfit
 ·exact .ownNil k l e
theorem FreeF.agg [Mode] {cs:List AV} (h:∀ c∈cs,FreeF c):FreeF (.agg cs):=fun ι F F' w v hv=>by
 obtain ⟨vs,rfl,hvs⟩:=hv.agg_inv
 exact .agg cs vs hvs.1 fun i c v hc hv=>h c (List.mem_of_getElem? hc) ι F F' w v (hvs.2 i c v hc hv)
theorem FreeF.tup [Mode] {cs:List AV} (h:∀ c∈cs,FreeF c):FreeF (.tup cs):=fun ι F F' w v hv=>by
 obtain ⟨vs,rfl,hvs⟩:=hv.tup_inv
 exact .tup cs vs hvs.1 fun i c v hc hv=>h c (List.mem_of_getElem? hc) ι F F' w v (hvs.2 i c v hc hv)
def emb (τ:Loc→Loc) (L:List Loc) (new:Nat) (l:Loc):Loc:=if l∈L then τ l else ⟨new,l.id :: l.sub⟩
def merge (H:Heap) (τ:Loc→Loc) (L:List Loc) (new:Nat) (H':Heap):Heap:=fun l=>
 match L.find? (fun lc=>τ lc == l) with
 | some lc=>(H' lc).map (rnO (emb τ L new))
 | none=>if l.id=new then (match l.sub with|i :: s=>if ⟨i,s⟩∈L then none else (H' ⟨i,s⟩).map (rnO (emb τ L new)) | []=>none) else H l
theorem call_core [Mode] {P:Program}{f:FuncId}{args:List AV}{Hc:Heap}{res:AV}{Hc':Heap} (hc:AC P f args Hc res Hc') {ι:Iota}{F:Nat→Prop}{H:Heap}{w:World} (hs:Sim ι F H w) {new:Nat} (hnew:∀ k,ι ⟨new,k⟩=none)
  (lent:Loc→Prop) (R:List Loc) (τ:Loc→Loc) (L:List Loc) (hR:∀ l∈L,Cov R (τ l)) (hL:∀ l,Hc l≠none↔l∈L) (hτ:∀ l∈L,∀ l'∈L,τ l=τ l'→l=l') (hd:∀ l∈L,¬ lent (τ l))
  (hobj:∀ l ob,Hc l=some ob→∃ ob',H (τ l)=some ob'∧ob'.k=ob.k∧ob'.rows.length=ob.rows.length∧∀ (i:Nat) r r',ob.rows[i]? = some r→ob'.rows[i]? = some r'→r.length=r'.length∧∀ (j:Nat) c c',r[j]? = some c→r'[j]? = some c'→AR H lent τ (·∈L) c c')
  (hfree:(∀ l,¬ lent l)∨(FreeF res∧∀ l ob,Hc' l=some ob→∀ r∈ob.rows,∀ c∈r,FreeF c))
  {as:List AV}{vs:List Value} (hargs:args.length=as.length∧∀ (i:Nat) c c',args[i]? = some c→as[i]? = some c'→AR H lent τ (·∈L) c c') (hvs:VRs ι F w as vs) :
  Calls P f vs.toArray w fun e w'=>∃ v,e = .returned v∧∃ ι' F',VR ι' F' w' (rn (emb τ L new) res) v∧Post ι F H w R new ι' F' (merge H τ L new Hc') w':=by
 let ιc:Iota:=fun l=>if l∈L then ι (τ l) else none
 let Fc:Nat→Prop:=fun b=>F b∨∃ l,lent l∧Owned ι H l b
 have hιc:∀ l,l∈L→ιc l=ι (τ l):=fun l hl=>by simp[ιc,hl]
 have hHτ:∀ l,l∈L→H (τ l)≠none:=fun l hl=>by
  cases h1:Hc l with
  | none=>exact absurd h1 ((hL l).2 hl)
  | some ob=>obtain ⟨ob',h2,_⟩:=hobj l ob h1;rw[h2];simp
 have hsc:Sim ιc Fc Hc w:=by
  refine ⟨fun l ob hob=>?_,fun l l' b s s' h1 h2 e1 e2=>?_,fun l b s h1 e1 hF=>?_,fun b hb=>?_,hs.gl.mono (fun _ h=>.inl h) (fun _ _=>rfl)⟩
  ·have hl:=(hL l).1 (by rw[hob];simp)
   obtain ⟨ob',h1,hk,hrl,hrows⟩:=hobj l ob hob
   rcases hs.obj _ ob' h1 with ⟨e,h2⟩|⟨b,cs,T,e,hb,hlen,h2⟩
   ·left
    refine ⟨by rw[hιc l hl];exact e,List.length_eq_zero_iff.1 (by rw[← hrl,h2];rfl)⟩
   ·right
    refine ⟨b,cs,T,by rw[hιc l hl];exact e,hb,by rw[← hrl,← hk];exact hlen,fun i r hr=>?_⟩
    have hi:=(List.getElem?_eq_some_iff.1 hr).1
    have hr':=List.getElem?_eq_getElem (l:=ob'.rows) (i:=i) (by omega)
    obtain ⟨h3,h4⟩:=h2 i _ hr'
    obtain ⟨h5,h6⟩:=hrows i r _ hr hr'
    refine ⟨by rw[h5,h3,hk],fun j c hc=>?_⟩
    have hj:=(List.getElem?_eq_some_iff.1 hc).1
    have hc':=List.getElem?_eq_getElem (l:=ob'.rows[i]) (i:=j) (by omega)
    obtain ⟨v,h7,h8⟩:=h4 j _ hc'
    rw[hk] at h7
    exact ⟨v,h7,(h6 j c _ hc hc').vr hs hιc h8⟩
  ·have hl:=(hL l).1 h1;have hl':=(hL l').1 h2
   rw[hιc l hl] at e1;rw[hιc l' hl'] at e2
   exact hτ l hl l' hl' (hs.inj _ _ b s s' (hHτ l hl) (hHτ l' hl') e1 e2)
  ·have hl:=(hL l).1 h1
   rw[hιc l hl] at e1
   rcases hF with hF|⟨l2,hm,h2,s2,e2⟩
   ·exact hs.notF _ b s (hHτ l hl) e1 hF
   ·exact hd l hl (by rw[hs.inj _ _ b s s2 (hHτ l hl) h2 e1 e2];exact hm)
  ·rcases hb with hb|⟨l2,_,h2,s2,e2⟩
   ·exact hs.lt b hb
   ·exact hs.blt h2 e2
 have hdom:∀ l,Hc l=none→ιc l=none:=fun l hl=>by
  have:l∉L:=fun h=>(hL l).2 h hl
  simp[ιc,this]
 have hvc:VRs ιc Fc w args vs:=⟨by rw[hvs.1,hargs.1],fun i c v hc hv=>by
  have hi:=(List.getElem?_eq_some_iff.1 hc).1
  have hc':=List.getElem?_eq_getElem (l:=as) (i:=i) (by have:=hargs.1;omega)
  exact (hargs.2 i c _ hc hc').vr hs hιc (hvs.2 i _ v hc' hv)⟩
 refine (hc ιc Fc w vs hsc hdom hvc).mono ?_
 rintro e w' ⟨v,ι'c,F'c,rfl,hres,hs',hstep,hsub,hsup,hown,hkeep⟩
 let ι':Iota:=fun l=>if l.id=new then (match l.sub with|i :: s=>if ⟨i,s⟩∈L then none else ι'c ⟨i,s⟩ | []=>none) else ι l
 let F':Nat→Prop:=fun b=>F'c b∧¬ ∃ l,lent l∧Owned ι H l b
 have hid:∀ l,ι l≠none→l.id≠new:=fun l hl e=>hl (by
  have:=hnew l.sub
  rw[← e] at this;exact this)
 have hτid:∀ l,l∈L→(τ l).id≠new:=fun l hl=>hid _ (hs.isSome (hHτ l hl))
 have hι'old:∀ l,l.id≠new→ι' l=ι l:=fun l hl=>by simp[ι',hl]
 have hι'emb:∀ l,(l∈L→ι'c l=ιc l)→ι' (emb τ L new l)=ι'c l:=fun l hk=>by
  unfold emb
  by_cases hl:l∈L
  ·rw[if_pos hl,hι'old _ (hτid l hl),← hιc l hl,hk hl]
  ·rw[if_neg hl];simp[ι',hl]
 have hkeepL:∀ l,l∈L→ι'c l=ιc l:=fun l hl=>by
  cases h1:ιc l with
  | none=>exact absurd h1 (hsc.isSome ((hL l).2 hl))
  | some x=>exact hkeep l x ((hL l).2 hl) h1
 have hemb:∀ l,ι' (emb τ L new l)=ι'c l:=fun l=>hι'emb l (hkeepL l)
 have hext:Ext ι ι':=fun l x hl=>by
  rw[hι'old l (hid l (by rw[hl];simp))];exact hl
 have hFsub:∀ b,F b→F' b:=fun b hb=>⟨hsub b (.inl hb),fun ⟨l,_,h,s,e⟩=>hs.notF l b s h e hb⟩
 have hblock:∀ l b s,H l≠none→ι l=some (some (b,s))→(∀ lc∈L,τ lc≠l)→w'.heap[b]? = w.heap[b]?:=fun l b s h1 e1 hn=>
  hstep.block b (hs.blt h1 e1) fun ⟨lc,h2,s2,e2⟩=>by
   have hlc:=(hL lc).1 h2
   rw[hιc lc hlc] at e2
   exact hn lc hlc (hs.inj _ _ b s2 s (hHτ lc hlc) h1 e2 e1)
 have hFblock:∀ b,F b→w'.heap[b]? = w.heap[b]?:=fun b hb=>
  hstep.block b (hs.lt b hb) fun ⟨lc,h2,s2,e2⟩=>by
   have hlc:=(hL lc).1 h2
   rw[hιc lc hlc] at e2
   exact hs.notF _ b s2 (hHτ lc hlc) e2 hb
 have toF':∀ {a:AV}{v:Value},((∀ l,¬ lent l)∨FreeF a)→VR ι'c F'c w' a v→VR ι' F' w' (rn (emb τ L new) a) v:=by
  intro a v hfa hv
  refine VR.ren hemb ?_
  rcases hfa with hfa0|hfa
  ·exact hv.mono (ext_rfl _) (fun b hb=>⟨hb,fun ⟨l,hl,_⟩=>hfa0 l hl⟩) (fun _ _=>rfl)
  ·exact hfa _ _ _ _ _ hv
 have hmerge:∀ l ob,merge H τ L new Hc' l=some ob→(∃ lc ob',l=emb τ L new lc∧Hc' lc=some ob'∧ob=rnO (emb τ L new) ob')∨(H l=some ob∧l.id≠new∧∀ lc∈L,τ lc≠l):=by
  intro l ob h
  unfold merge at h
  cases hf:L.find? (fun lc=>τ lc == l) with
  | some lc=>
   rw[hf] at h
   simp only[Option.map_eq_some_iff] at h
   obtain ⟨ob',h1,rfl⟩:=h
   have hlc:=List.mem_of_find?_eq_some hf
   have he:τ lc=l:=by have:=List.find?_some hf;simpa using this
   exact .inl ⟨lc,ob',by simp[emb,hlc,he],h1,rfl⟩
  | none=>
   rw[hf] at h
   have hno:∀ lc∈L,τ lc≠l:=fun lc hlc e=>by
    have:=List.find?_eq_none.1 hf lc hlc
    simp[e] at this
   simp only at h
   split at h
   ·rename_i hidl
    obtain ⟨id,sub⟩:=l
    simp only at hidl
    subst hidl
    cases sub with
    | nil=>simp at h
    | cons i s=>
     simp only at h
     split at h
     ·cases h
     ·rename_i hnl
      simp only[Option.map_eq_some_iff] at h
      obtain ⟨ob',h1,rfl⟩:=h
      exact .inl ⟨⟨i,s⟩,ob',by simp[emb,hnl],h1,rfl⟩
   ·rename_i hidl
    exact .inr ⟨h,hidl,hno⟩
 have hkind:∀ l,merge H τ L new Hc' l≠none→(∃ lc,l=emb τ L new lc∧Hc' lc≠none)∨(H l≠none∧l.id≠new∧∀ lc∈L,τ lc≠l):=fun l hl=>by
  cases h:merge H τ L new Hc' l with
  | none=>exact absurd h hl
  | some ob=>
   rcases hmerge l ob h with ⟨lc,ob',e,h1,_⟩|⟨h1,h2,h3⟩
   ·exact .inl ⟨lc,e,by rw[h1];simp⟩
   ·exact .inr ⟨by rw[h1];simp,h2,h3⟩
 have hcross:∀ lc l b s s',Hc' lc≠none→ι'c lc=some (some (b,s))→H l≠none→ι l=some (some (b,s'))→(∀ lc∈L,τ lc≠l)→False:=by
  intro lc l b s s' h1 e1 h2 e2 hn
  rcases hown b ⟨lc,h1,s,e1⟩ with ⟨l3,h3,s3,e3⟩|h
  ·have hl3:=(hL l3).1 h3
   rw[hιc l3 hl3] at e3
   exact hn l3 hl3 (hs.inj _ _ b s3 s' (hHτ l3 hl3) h2 e3 e2)
  ·have:=hs.blt h2 e2;omega
 refine ⟨v,rfl,ι',F',toF' (hfree.imp id (·.1)) hres,⟨fun l ob hob=>?_,fun l l' b s s' h1 h2 e1 e2=>?_,fun l b s h1 e1 hF=>?_,fun b hb=>hs'.lt b hb.1,hs.gl.mono hFsub hFblock⟩,hext,fun l hl=>?_,hFsub,fun b hb=>?_,hstep.mono fun b ⟨lc,h1,s,e1⟩=>?_,fun l b s h1 e1=>?_⟩
 ·rcases hmerge l ob hob with ⟨lc,ob',rfl,h1,rfl⟩|⟨h1,h2,h3⟩
  ·have hcells:(∀ l,¬ lent l)∨∀ r∈ob'.rows,∀ c∈r,FreeF c:=hfree.imp id fun h=>h.2 lc ob' h1
   rcases hs'.obj lc ob' h1 with ⟨e,h4⟩|⟨b,cs,T,e,hb,hlen,h4⟩
   ·exact .inl ⟨by rw[hemb];exact e,by simp[rnO,h4]⟩
   ·refine .inr ⟨b,cs,T,by rw[hemb];exact e,hb,by simpa [rnO] using hlen,fun i r hr=>?_⟩
    simp only[rnO,List.getElem?_map,Option.map_eq_some_iff] at hr
    obtain ⟨r',hr',rfl⟩:=hr
    refine ⟨by simpa [rnO] using (h4 i r' hr').1,fun j c hc=>?_⟩
    simp only[List.getElem?_map,Option.map_eq_some_iff] at hc
    obtain ⟨c',hc',rfl⟩:=hc
    obtain ⟨v,h5,h6⟩:=(h4 i r' hr').2 j c' hc'
    exact ⟨v,h5,toF' (hcells.imp id fun h=>h r' (List.mem_of_getElem? hr') c' (List.mem_of_getElem? hc')) h6⟩
  ·exact (hs.obj l ob h1).mono hext hFsub hFblock (fun b s e=>hblock l b s (by rw[h1];simp) e h3)
 ·rcases hkind l h1 with ⟨lc,rfl,k1⟩|⟨k1,k2,k3⟩<;>rcases hkind l' h2 with ⟨lc',rfl,k1'⟩|⟨k1',k2',k3'⟩
  ·rw[hemb] at e1 e2
   rw[hs'.inj lc lc' b s s' k1 k1' e1 e2]
  ·rw[hemb] at e1;rw[hι'old _ k2'] at e2
   exact (hcross lc l' b s s' k1 e1 k1' e2 k3').elim
  ·rw[hemb] at e2;rw[hι'old _ k2] at e1
   exact (hcross lc' l b s' s k1' e2 k1 e1 k3).elim
  ·rw[hι'old _ k2] at e1;rw[hι'old _ k2'] at e2
   exact hs.inj l l' b s s' k1 k1' e1 e2
 ·rcases hkind l h1 with ⟨lc,rfl,k1⟩|⟨k1,k2,k3⟩
  ·rw[hemb] at e1
   exact hs'.notF lc b s k1 e1 hF.1
  ·rw[hι'old _ k2] at e1
   rcases hsup b hF.1 with (h|⟨l2,hm,h2,s2,e2⟩)|⟨lc,h2,s2,e2⟩|h
   ·exact hs.notF l b s k1 e1 h
   ·exact hF.2 ⟨l2,hm,h2,s2,e2⟩
   ·have hlc:=(hL lc).1 h2
    rw[hιc lc hlc] at e2
    exact k3 lc hlc (hs.inj _ _ b s2 s (hHτ lc hlc) k1 e2 e1)
   ·have:=hs.blt k1 e1;omega
 ·by_cases h:l.id=new
  ·exact .inr h
  ·left;rwa [hι'old l h] at hl
 ·rcases hsup b hb.1 with (h|h)|⟨lc,h2,s2,e2⟩|h
  ·exact .inl h
  ·exact absurd h hb.2
  ·have hlc:=(hL lc).1 h2
   rw[hιc lc hlc] at e2
   exact .inr (.inl ⟨τ lc,hR lc hlc,hHτ lc hlc,s2,e2⟩)
  ·exact .inr (.inr h)
 ·have hlc:=(hL lc).1 h1
  rw[hιc lc hlc] at e1
  exact ⟨τ lc,hR lc hlc,hHτ lc hlc,s,e1⟩
 ·rcases hkind l h1 with ⟨lc,rfl,k1⟩|⟨k1,k2,k3⟩
  ·rw[hemb] at e1
   rcases hown b ⟨lc,k1,s,e1⟩ with ⟨l3,h3,s3,e3⟩|h
   ·have hl3:=(hL l3).1 h3
    rw[hιc l3 hl3] at e3
    exact .inl ⟨τ l3,hHτ l3 hl3,s3,e3⟩
   ·exact .inr h
  ·rw[hι'old _ k2] at e1
   exact .inl ⟨l,k1,s,e1⟩
end
section
open Go Go.RowKit
class FnBody (P:Program) (f:FuncId):Prop where
 b : (P.funcs[f]?).map (fun fn => (fn.name == "runtime.NumGoroutine", fn.body.isNone)) = some (false, false)
theorem run_callFunc' [Mode] {P:Program}{f:FuncId} [h:FnBody P f] {args:Array Value}{w:World}:(callFunc f args).run P w = .ok (.enter f args) w:=by
 have hb:=h.b
 cases hf:P.funcs[f]? with
 | none=>rw[hf] at hb;cases hb
 | some fn=>
  rw[hf] at hb
  simp only[Option.map_some,Option.some.injEq,Prod.mk.injEq] at hb
  obtain ⟨h1,h2⟩:=hb
  simp only[callFunc,Sem.run_bind,run_program,Result.andThen_ok,hf,h1,h2,Bool.false_eq_true,if_false]
  rfl
theorem DRel.congr [Mode] {H H':Heap}{lent:Loc→Prop} (hH:∀ l,lent l→H' l=H l) {x:D}{a:AV} (h:DRel H lent x a):DRel H' lent x a:=by
 induction h with
 | d x=>exact .d x
 | nil k=>exact .nil k
 | own k l off n ob rows hl hm hk hn hr hll h ih=>exact .own k l off n ob rows ((hH l hm).trans hl) hm hk hn hr hll ih
theorem AR.congr [Mode] {H H':Heap}{lent:Loc→Prop}{τ:Loc→Loc}{L:Loc→Prop} (hH:∀ l,lent l→H' l=H l) {a a':AV} (h:AR H lent τ L a a'):AR H' lent τ L a a':=by
 induction h with
 | d h=>exact .d (h.congr hH)
 | agg cs cs' hl h ih=>exact .agg cs cs' hl ih
 | tup cs cs' hl h ih=>exact .tup cs cs' hl ih
 | own k l off n h=>exact .own k l off n h
 | ptr k l i j h=>exact .ptr k l i j h
 | dptr cs=>exact .dptr cs
 | clo fn fs fs' cs cs' hl hl' h h' ih ih'=>exact .clo fn fs fs' cs cs' hl hl' ih ih'
 | dead a=>exact .dead a
def ARs (H:Heap) (lent:Loc→Prop) (τ:Loc→Loc) (L:Loc→Prop) (cs cs':List AV):Prop:=cs.length=cs'.length∧∀ (i:Nat) c c',cs[i]? = some c→cs'[i]? = some c'→AR H lent τ L c c'
theorem ARs.nil [Mode] {H:Heap}{lent:Loc→Prop}{τ:Loc→Loc}{L:Loc→Prop}:ARs H lent τ L [] []:=⟨rfl,fun _ _ _ h=>by simp at h⟩
theorem ARs.cons [Mode] {H:Heap}{lent:Loc→Prop}{τ:Loc→Loc}{L:Loc→Prop}{c c':AV}{cs cs':List AV} (h:AR H lent τ L c c') (h':ARs H lent τ L cs cs'):ARs H lent τ L (c :: cs) (c' :: cs'):=by
 refine ⟨by simp[h'.1],fun i d d' hc hv=>?_⟩
 cases i with
 | zero=>simp at hc hv;subst hc;subst hv;exact h
 | succ i=>simp at hc hv;exact h'.2 i _ _ hc hv
theorem ARs.agg [Mode] {H:Heap}{lent:Loc→Prop}{τ:Loc→Loc}{L:Loc→Prop}{cs cs':List AV} (h:ARs H lent τ L cs cs'):AR H lent τ L (.agg cs) (.agg cs'):=.agg cs cs' h.1 h.2
theorem ARs.tup [Mode] {H:Heap}{lent:Loc→Prop}{τ:Loc→Loc}{L:Loc→Prop}{cs cs':List AV} (h:ARs H lent τ L cs cs'):AR H lent τ L (.tup cs) (.tup cs'):=.tup cs cs' h.1 h.2
theorem AR.clo' [Mode] {H:Heap}{lent:Loc→Prop}{τ:Loc→Loc}{L:Loc→Prop}{fn:Fn}{fs fs' cs cs':List AV} (h:ARs H lent τ L fs fs') (h':ARs H lent τ L cs cs'):AR H lent τ L (.clo fn fs cs) (.clo fn fs' cs'):=.clo fn fs fs' cs cs' h.1 h'.1 h.2 h'.2
theorem AR.dd [Mode] {H:Heap}{lent:Loc→Prop}{τ:Loc→Loc}{L:Loc→Prop} (x:D):AR H lent τ L (.d x) (.d x):=.d (.d x)
def dobj (k:Nat) (rows:List (List D)):AObj:=⟨k,rows.map fun r=>r.map .d⟩
theorem rnO_dobj [Mode] (f:Loc→Loc) (k:Nat) (rows:List (List D)):rnO f (dobj k rows)=dobj k rows:=by
 simp only[rnO,dobj,List.map_map]
 congr 1
 apply List.map_congr_left
 intro r _
 simp only[Function.comp_apply,List.map_map]
 apply List.map_congr_left
 intro c _
 simp[rn]
theorem DRel.dobj [Mode] {H : Heap} {lent : Loc → Prop} {k : Nat} {l : Loc} {off n : Nat} {rows : List (List D)} (hl : H l = some (YtkpoclbnnpglfaaGreat.dobj k rows)) (hm : lent l) (hn : off + n ≤ rows.length) : DRel H lent (.sl k ((rows.drop off).take n)) (.own k l off n) := by
  refine .own k l off n _ _ hl hm rfl (by simpa [YtkpoclbnnpglfaaGreat.dobj] using hn) (by simp; omega) (fun i r r' hr hr' => ?_) (fun i r r' hr hr' j c c' hc hc' => ?_)
  all_goals
    simp only [YtkpoclbnnpglfaaGreat.dobj, List.getElem?_map, Option.map_eq_some_iff] at hr'
    obtain ⟨r2, hr2, rfl⟩ := hr'
    rw [List.getElem?_take] at hr
    split at hr
    · rw [List.getElem?_drop, hr2] at hr
      cases hr
      first
        | (simp; done)
        | (simp only [List.getElem?_map, hc, Option.map_some, Option.some.injEq] at hc'
           subst hc'; exact .d _)
    · cases hr
theorem AR.whole [Mode] {H:Heap}{lent:Loc→Prop}{τ:Loc→Loc}{L:Loc→Prop}{k:Nat}{l:Loc}{n:Nat}{rows:List (List D)} (hl:H l=some (dobj k rows)) (hm:lent l) (hn:rows.length=n):AR H lent τ L (.d (.sl k rows)) (.own k l 0 n):=by
 have:=DRel.dobj (off:=0) (n:=n) hl hm (by omega)
 rw[List.drop_zero,List.take_of_length_le (by omega)] at this
 exact .d this
section
variable {P : Program} {o : Oper} {A : Operand → AV} {H : Heap} {new : Nat}
theorem run_call [Mode] {fo:Operand}{xs:Array Operand}{ts:Array TypeId}{f:FuncId}{cap:List Value} [FnBody P f] (ho:o.op = .call { callee:=.value fo,args:=xs,argTypes:=ts }) {ρ:Operand→Value}{w:World} (hf:ρ fo = .func (.func f) #[] cap.toArray) :
  (execOp ρ o).run P w = .ok (.enter f ((xs.toList.map ρ)++cap).toArray) w:=by
 have hr:=run_callFunc' (P:=P) (f:=f) (w:=w) (args:=((xs.toList.map ρ)++cap).toArray)
 have:xs.map ρ++cap.toArray=((xs.toList.map ρ)++cap).toArray:=by apply Array.ext';simp
 simp only[execOp,ho,resolve,hf,Deferred.ofValue,Sem.run_bind,Sem.run_pure,Result.andThen_ok,invoke,Array.empty_append,this,hr]
theorem OpOk.callGen [Mode] {fo:Operand}{xs:List Operand}{ts:Array TypeId}{f:FuncId}{caps args:List AV}{Hc Hc':Heap}{res:AV}{wr:List W} (lent:Loc→Prop) (R:List Loc) (τ:Loc→Loc) (L:List Loc) (hRl:∀ l,lent l→Cov R l) (hRL:∀ l∈L,Cov R (τ l)) (ho:o.op = .call { callee:=.value fo,args:=xs.toArray,argTypes:=ts }) [FnBody P f] (hfo:A fo = .clo (.func f) [] caps) (hc:AC P f args Hc res Hc')
  (hL:∀ l,Hc l≠none↔l∈L) (hτ:∀ l∈L,∀ l'∈L,τ l=τ l'→l=l') (hd:∀ l∈L,¬ lent (τ l))
  (hobj:∀ l ob,Hc l=some ob→∃ ob',H (τ l)=some ob'∧ob'.k=ob.k∧ob'.rows.length=ob.rows.length∧∀ (i:Nat) r r',ob.rows[i]? = some r→ob'.rows[i]? = some r'→r.length=r'.length∧∀ (j:Nat) c c',r[j]? = some c→r'[j]? = some c'→AR H lent τ (·∈L) c c')
  (hfree:(∀ l,¬ lent l)∨(FreeF res∧∀ l ob,Hc' l=some ob→∀ r∈ob.rows,∀ c∈r,FreeF c))
  (hargs:ARs H lent τ (·∈L) args (xs.map A++caps)) (hwr:∀ H1:Heap,(∀ k,H1 ⟨new,k⟩=none)→(∀ l∈L,H1 (τ l)=H (τ l))→upds H1 wr=merge H1 τ L new Hc'):OpOk P o A R H new (rn (emb τ L new) res) wr:=by
 intro ι F w H1 ρ hH hn hs hv
 have hvf:=hv fo (by simp[ho,Op.operands,Call.operands])
 rw[hfo] at hvf
 generalize hq:ρ fo=q at hvf
 cases hvf with
 | clo _ _ _ fv cv h1 h2 h3 h4=>
  have hfv:fv=[]:=List.length_eq_zero_iff.1 h1
  subst hfv
  rw[run_call (P:=P) (cap:=cv) ho hq]
  have hvs:VRs ι F w (xs.map A++caps) (xs.map ρ++cv):=by
   refine VRs.append ⟨by simp,fun i c v hc hv'=>?_⟩ ⟨h2,h4⟩
   simp only[List.getElem?_map,Option.map_eq_some_iff] at hc hv'
   obtain ⟨x,hx,rfl⟩:=hc
   obtain ⟨x',hx',rfl⟩:=hv'
   rw[hx] at hx';cases hx'
   exact hv x (by simp only[ho,Op.operands,Call.operands];simp;exact .inr (List.mem_of_getElem? hx))
  have hA:∀ l,lent l→H1 l=H l:=fun l hl=>hH l (hRl l hl)
  have:=call_core hc hs hn lent R τ L hRL hL hτ hd (fun l ob hob=>by
   obtain ⟨ob',h5,h6,h7,h8⟩:=hobj l ob hob
   exact ⟨ob',(hH _ (hRL l ((hL l).1 (by rw[hob];simp)))).trans h5,h6,h7,fun i r r' hr hr'=>⟨(h8 i r r' hr hr').1,fun j c c' hc hc'=>((h8 i r r' hr hr').2 j c c' hc hc').congr hA⟩⟩) hfree (as:=xs.map A++caps) (vs:=xs.map ρ++cv) ⟨hargs.1,fun i c c' hc hc'=>(hargs.2 i c c' hc hc').congr hA⟩ hvs
  rw[← hwr H1 (fun k=>hs.isNone (hn k)) (fun l hl=>hH _ (hRL l hl))] at this
  simpa [Upon] using this
theorem merge_nil [Mode] {H:Heap}{τ:Loc→Loc}{new:Nat}{Hc':Heap}:merge H τ [] new Hc'=fun l=>if l.id=new then (match l.sub with|i :: s=>(Hc' ⟨i,s⟩).map (rnO (emb τ [] new)) | []=>none) else H l:=by
 rfl
theorem OpOk.call0 [Mode] {fo:Operand}{xs:List Operand}{ts:Array TypeId}{f:FuncId}{caps args:List AV}{res:AV} (lent:List Loc) (ho:o.op = .call { callee:=.value fo,args:=xs.toArray,argTypes:=ts }) [FnBody P f] (hfo:A fo = .clo (.func f) [] caps) (hc:AC P f args H0 res H0)
  (hfree:lent=[]∨FreeF res) (hrn:∀ g,rn g res=res) (hargs:ARs H (Cov lent) id (fun _=>False) args (xs.map A++caps)):OpOk P o A lent H new res []:=by
 have h:=OpOk.callGen (P:=P) (o:=o) (A:=A) (H:=H) (new:=new) (wr:=[]) (Cov lent) lent id [] (fun _ h=>h) (fun l hl=>by simp at hl) ho hfo hc (fun l=>by simp) (fun l hl=>by simp at hl) (fun l hl=>by simp at hl) (fun l ob hob=>by cases hob)
  (hfree.imp (fun e l=>by subst e;exact Cov.nil) fun h=>⟨h,fun l ob hob=>by cases hob⟩) (by simpa using hargs) (fun H1 h1 _=>by
   rw[merge_nil]
   funext l
   simp only[upds]
   by_cases e:l.id=new
   ·obtain ⟨id,sub⟩:=l
    simp only at e;subst e
    rw[h1 sub]
    cases sub<;>simp
   ·simp[e])
 simpa [hrn] using h
theorem OpOk.call1 [Mode] {fo:Operand}{xs:List Operand}{ts:Array TypeId}{f:FuncId}{caps args:List AV}{res:AV}{ob:AObj} (lent:List Loc) (ho:o.op = .call { callee:=.value fo,args:=xs.toArray,argTypes:=ts }) [FnBody P f] (hfo:A fo = .clo (.func f) [] caps) (hc:AC P f args H0 res (upd H0 ⟨0,[]⟩ (some ob)))
  (hfree:lent=[]∨(FreeF res∧∀ r∈ob.rows,∀ c∈r,FreeF c)) (hrn:∀ g,rnO g ob=ob) (hargs:ARs H (Cov lent) id (fun _=>False) args (xs.map A++caps)):OpOk P o A lent H new (rn (fun l=>⟨new,l.id :: l.sub⟩) res) [.one ⟨new,[0]⟩ (some ob)]:=by
 have h:=OpOk.callGen (P:=P) (o:=o) (A:=A) (H:=H) (new:=new) (wr:=[.one ⟨new,[0]⟩ (some ob)]) (Cov lent) lent id [] (fun _ h=>h) (fun l hl=>by simp at hl) ho hfo hc (fun l=>by simp) (fun l hl=>by simp at hl) (fun l hl=>by simp at hl) (fun l ob hob=>by cases hob)
  (hfree.imp (fun e l=>by subst e;exact Cov.nil) fun h=>⟨h.1,fun l ob' hob=>by
   by_cases e:l=⟨0,[]⟩
   ·subst e;rw[upd_same] at hob;cases hob;exact h.2
   ·rw[upd_ne e] at hob;cases hob⟩) (by simpa using hargs) (fun H1 h1 _=>by
   rw[merge_nil]
   funext l
   obtain ⟨id,sub⟩:=l
   simp only[upds,W.app,upd]
   by_cases e:id=new
   ·subst e
    cases sub with
    | nil=>simp[h1]
    | cons i s=>
     by_cases e2:i=0∧s=[]
     ·obtain ⟨rfl,rfl⟩:=e2;simp[hrn]
     ·have e3:¬ (i :: s=[0]):=by simpa using e2
      have e4:¬ ((⟨i,s⟩:Loc)=⟨0,[]⟩):=by simpa using e2
      simp[e3,e4,h1]
   ·simp[e])
 have e:emb id [] new=fun l=>⟨new,l.id :: l.sub⟩:=by funext l;simp[emb]
 rw[e] at h
 simpa using h
end
theorem AC.freeze [Mode] {P:Program}{f:FuncId}{args:List AV}{H:Heap}{res res':AV}{H':Heap} (h:AC P f args H0 res H') (lent:Loc→Prop) (hr:AR H' lent id (fun _=>False) res' res):AC P f args H0 res' H0:=by
 intro ι F w vs hs hdom hv
 refine (h ι F w vs hs hdom hv).mono ?_
 rintro e w' ⟨v,ι',F',rfl,hres,hs',hstep,hsub,hsup,hown,hkeep⟩
 refine ⟨v,fun _=>none,fun b=>F' b∨∃ l,lent l∧Owned ι' H' l b,rfl,hr.vr hs' (fun l hl=>hl.elim) hres,⟨fun l o h=>(by cases h),fun l l' b s s' h=>absurd rfl h,fun l b s h=>absurd rfl h,fun b hb=>?_,hs'.gl.mono (fun _ h=>.inl h) (fun _ _=>rfl)⟩,hstep,fun b hb=>.inl (hsub b hb),fun b hb=>?_,fun b ⟨l,h,_⟩=>absurd rfl h,fun l x h=>absurd rfl h⟩
 ·rcases hb with hb|⟨l,_,h1,s,e⟩
  ·exact hs'.lt b hb
  ·exact hs'.blt h1 e
 ·rcases hb with hb|⟨l,_,h1,s,e⟩
  ·exact hsup b hb
  ·exact .inr (hown b ⟨l,h1,s,e⟩)
theorem Le.tell [Mode] {C:Ctx}{s s':AS} (lent:Loc→Prop) (τ:Loc→Loc) (hfr:ARs s.H lent τ (fun l=>s'.H l≠none) s'.fr s.fr)
  (hobj:∀ l ob,s'.H l=some ob→∃ ob',s.H (τ l)=some ob'∧ob'.k=ob.k∧ob'.rows.length=ob.rows.length∧∀ (i:Nat) r r',ob.rows[i]? = some r→ob'.rows[i]? = some r'→r.length=r'.length∧∀ (j:Nat) c c',r[j]? = some c→r'[j]? = some c'→AR s.H lent τ (fun l=>s'.H l≠none) c c')
  (hτ:∀ l l',s'.H l≠none→s'.H l'≠none→τ l=τ l'→l=l') (hd:∀ l,s'.H l≠none→¬ lent (τ l)) (hn:∀ l,s'.H l≠none→l.id<s'.next) (hD:∀ l,C.D0 l→l.id<s'.next∧τ l=l):Le C s s':=by
 rintro a w ⟨ι,F,hs,hv,hdf,hi,hu⟩
 let S:Loc→Prop:=fun l=>s'.H l≠none∨C.D0 l
 have hS:∀ l,S l→l.id<s'.next:=fun l h=>h.elim (hn l) fun h=>(hD l h).1
 let ι':Iota:=fun l=>@ite _ (S l) (Classical.propDecidable _) (ι (τ l)) none
 have hι:∀ l,S l→ι' l=ι (τ l):=fun l h=>by simp only[ι'];exact if_pos h
 have hι0:∀ l,¬ S l→ι' l=none:=fun l h=>by simp only[ι'];exact if_neg h
 have hHτ:∀ l,s'.H l≠none→s.H (τ l)≠none:=fun l hl=>by
  cases h1:s'.H l with
  | none=>exact absurd h1 hl
  | some ob=>obtain ⟨ob',h2,_⟩:=hobj l ob h1;rw[h2];simp
 refine ⟨ι',fun b=>F b∨∃ l,lent l∧Owned ι s.H l b,⟨fun l ob hob=>?_,fun l l' b sz sz' h1 h2 e1 e2=>?_,fun l b sz h1 e1 hF=>?_,fun b hb=>?_,hs.gl.mono (fun _ h=>.inl h) (fun _ _=>rfl)⟩,⟨by rw[hv.1,hfr.1],fun i c v hc hv'=>?_⟩,hdf,⟨hi.step,fun b hb=>.inl (hi.sub b hb),fun b hb=>?_,fun l b ho=>?_,fun l x hl e=>?_⟩,fun id hid k=>?_⟩
 ·have hl:s'.H l≠none:=by rw[hob];simp
  obtain ⟨ob',h1,hk,hrl,hrows⟩:=hobj l ob hob
  rcases hs.obj _ ob' h1 with ⟨e,h2⟩|⟨b,cs,T,e,hb,hlen,h2⟩
  ·exact .inl ⟨by rw[hι l (.inl hl)];exact e,List.length_eq_zero_iff.1 (by rw[← hrl,h2];rfl)⟩
  ·refine .inr ⟨b,cs,T,by rw[hι l (.inl hl)];exact e,hb,by rw[← hrl,← hk];exact hlen,fun i r hr=>?_⟩
   have hil:=(List.getElem?_eq_some_iff.1 hr).1
   have hr':=List.getElem?_eq_getElem (l:=ob'.rows) (i:=i) (by omega)
   obtain ⟨h3,h4⟩:=h2 i _ hr'
   obtain ⟨h5,h6⟩:=hrows i r _ hr hr'
   refine ⟨by rw[h5,h3,hk],fun j c hc=>?_⟩
   have hj:=(List.getElem?_eq_some_iff.1 hc).1
   have hc':=List.getElem?_eq_getElem (l:=ob'.rows[i]) (i:=j) (by omega)
   obtain ⟨v,h7,h8⟩:=h4 j _ hc'
   rw[hk] at h7
   exact ⟨v,h7,(h6 j c _ hc hc').vr hs (fun l hl=>hι l (.inl hl)) h8⟩
 ·rw[hι l (.inl h1)] at e1;rw[hι l' (.inl h2)] at e2
  exact hτ l l' h1 h2 (hs.inj _ _ b sz sz' (hHτ l h1) (hHτ l' h2) e1 e2)
 ·rw[hι l (.inl h1)] at e1
  rcases hF with hF|⟨l2,hm,h2,s2,e2⟩
  ·exact hs.notF _ b sz (hHτ l h1) e1 hF
  ·exact hd l h1 (by rw[hs.inj _ _ b sz s2 (hHτ l h1) h2 e1 e2];exact hm)
 ·rcases hb with hb|⟨l2,_,h2,s2,e2⟩
  ·exact hs.lt b hb
  ·exact hs.blt h2 e2
 ·have hil:=(List.getElem?_eq_some_iff.1 hc).1
  have hc':=List.getElem?_eq_getElem (l:=s.fr) (i:=i) (by have:=hfr.1;omega)
  exact (hfr.2 i c _ hc hc').vr hs (fun l hl=>hι l (.inl hl)) (hv.2 i _ v hc' hv')
 ·rcases hb with hb|⟨l2,_,ho⟩
  ·exact hi.sup b hb
  ·exact .inr (hi.own l2 b ho)
 ·obtain ⟨h1,sz,e1⟩:=ho
  rw[hι l (.inl h1)] at e1
  exact hi.own (τ l) b ⟨hHτ l h1,sz,e1⟩
 ·rw[hι l (.inr hl),(hD l hl).2]
  exact hi.keep l x hl e
 ·refine hι0 _ fun h=>?_
  have:=hS _ h
  have hid':s'.next≤id:=hid
  simp only at this
  omega
theorem Le.nil [Mode] {C:Ctx}{s:AS} (t k:Nat) (ht:s.fr[t]? = some (.d (.v (.slice none 0 0)))):Le C s ⟨s.fr.set t (.own k ⟨s.next,[]⟩ 0 0),upd s.H ⟨s.next,[]⟩ (some ⟨k,[]⟩),s.next+1⟩:=by
 rintro a w ⟨ι,F,hs,hv,hdf,hi,hu⟩
 have hn:∀ k,ι ⟨s.next,k⟩=none:=fun k=>hu s.next (Nat.le_refl _) k
 have hp:=Post.allocNil hs hn k []
 refine ⟨updι ι ⟨s.next,[]⟩ none,F,hp.sim,?_,hdf,⟨hi.step,hi.sub,hi.sup,fun l b ⟨h1,sz,e1⟩=>?_,fun l x hl e=>hp.ext _ _ (hi.keep l x hl e)⟩,fun id hid k=>?_⟩
 ·have hv':=hv.mono hp.ext hp.sub (fun b hb=>rfl)
  refine ⟨by simpa using hv'.1,fun i c v hc hvv=>?_⟩
  rw[List.getElem?_set] at hc
  split at hc
  ·rename_i he
   subst he
   split at hc
   ·cases hc
    have:=(hv.2 t _ v ht hvv).v_inv
    subst this
    exact .ownNil k _ (by simp[updι])
   ·cases hc
  ·exact hv'.2 i c v hc hvv
 ·by_cases hl:l=⟨s.next,[]⟩
  ·subst hl;simp[updι] at e1
  ·simp only[updι,hl,if_false] at e1
   have h1':upd s.H ⟨s.next,[]⟩ (some ⟨k,[]⟩) l≠none:=h1
   rw[upd_ne hl] at h1'
   exact hi.own l b ⟨h1',sz,e1⟩
 ·have hid':s.next+1≤id:=hid
  have:(⟨id,k⟩:Loc)≠⟨s.next,[]⟩:=fun e=>by cases e;omega
  simp only[updι,this,if_false]
  exact hu id (by show s.next≤id;omega) k
end
section
open Go Go.RowKit
abbrev I (n:Int):AV:=.d (.v (.int .i64 n))
abbrev Bo (b:Bool):AV:=.d (.v (.bool b))
abbrev DI (n:Int):D:=.v (.int .i64 n)
section
variable {P : Program} {C : Ctx} {ops : Array Oper} {Q : Exit → AS → Prop} {rest : List Oper} {fr : List AV} {H : Heap} {n t : Nat} {op : Op} {ty : TypeId} {pos : String} {after : Array Edge}
theorem AL.st [Mode] {fr':List AV}{H':Heap}{n':Nat}{reads:List Loc}{val:AV}{wr:List W} (h1:OpOk P ⟨some t,op,ty,pos,after,none⟩ (evalF fr) reads H n val wr) (hfr:fr.set t val=fr') (hH:upds H wr=H') (hn:n+1=n') (h2:AL P C ops Q rest ⟨fr',H',n'⟩):AL P C ops Q (⟨some t,op,ty,pos,after,none⟩ :: rest) ⟨fr,H,n⟩:=by (try subst hfr);(try subst hH);subst hn;exact AL.op rfl h1 h2
theorem AL.st0 [Mode] {H':Heap}{n':Nat}{reads:List Loc}{val:AV}{wr:List W} (h1:OpOk P ⟨none,op,ty,pos,after,none⟩ (evalF fr) reads H n val wr) (hH:upds H wr=H') (hn:n+1=n') (h2:AL P C ops Q rest ⟨fr,H',n'⟩):AL P C ops Q (⟨none,op,ty,pos,after,none⟩ :: rest) ⟨fr,H,n⟩:=by (try subst hfr);(try subst hH);subst hn;exact AL.op rfl h1 h2
theorem AL.stP [Mode] {fr':List AV}{n':Nat}{reads:List Loc}{val:AV} (h1:OpOk P ⟨some t,op,ty,pos,after,none⟩ (evalF fr) reads H n val []) (hfr:fr.set t val=fr') (hn:n+1=n') (h2:AL P C ops Q rest ⟨fr',H,n'⟩):AL P C ops Q (⟨some t,op,ty,pos,after,none⟩ :: rest) ⟨fr,H,n⟩:=by (try subst hfr);(try subst hH);subst hn;exact AL.op rfl h1 h2
theorem AL.on [Mode] {fr':List AV}{H':Heap}{n':Nat}{reads:List Loc}{val:AV}{wr:List W}{g:Nat}{want:Bool}{u:Nat} (hg:(ops[g]?).bind (·.dst)=some u) (hf:fr[u]? = some (Bo want)) (h1:OpOk P ⟨some t,op,ty,pos,after,some (g,want)⟩ (evalF fr) reads H n val wr) (hfr:fr.set t val=fr') (hH:upds H wr=H') (hn:n+1=n') (h2:AL P C ops Q rest ⟨fr',H',n'⟩):AL P C ops Q (⟨some t,op,ty,pos,after,some (g,want)⟩ :: rest) ⟨fr,H,n⟩:=
 by (try subst hfr);(try subst hH);subst hn;exact AL.cons true ⟨u,.bool want,hg,hf,by simp[boolV]⟩ (fun _=>⟨h1,h2⟩) (fun h=>by cases h)
theorem AL.off [Mode] {fr':List AV}{n':Nat}{g:Nat}{want:Bool}{v:Value}{u:Nat} (hg:(ops[g]?).bind (·.dst)=some u) (hf:fr[u]? = some (.d (.v v))) (hb:(boolV v == some want)=false) (hfr:fr.set t (.d (.v undef))=fr') (hn:n+1=n') (h2:AL P C ops Q rest ⟨fr',H,n'⟩):AL P C ops Q (⟨some t,op,ty,pos,after,some (g,want)⟩ :: rest) ⟨fr,H,n⟩:=
 by subst hfr;subst hn;exact AL.cons (reads:=[]) (val:=.dead) (wr:=[]) false ⟨u,v,hg,hf,hb.symm⟩ (fun h=>by cases h) (fun _=>h2)
theorem set_self [Mode] {fr:List AV}{u:Nat}{x:AV} (h:fr[u]? = some x):fr.set u x=fr:=by
 apply List.ext_getElem?
 intro i
 rw[List.getElem?_set]
 split
 ·rename_i e;subst e
  split
  ·exact h.symm
  ·rename_i h2;rw[List.getElem?_eq_none (by omega)]
 ·rfl
theorem AL.split [Mode] {o:Oper} (u:Nat) {b:Bool} (hf:fr[u]? = some (Bo b)) (h1:b=true→AL P C ops Q (o :: rest) ⟨fr.set u (Bo true),H,n⟩) (h0:b=false→AL P C ops Q (o :: rest) ⟨fr.set u (Bo false),H,n⟩):AL P C ops Q (o :: rest) ⟨fr,H,n⟩:=by
 cases b
 ·have:=h0 rfl;rwa [set_self hf] at this
 ·have:=h1 rfl;rwa [set_self hf] at this
theorem AL.splitP [Mode] {o:Oper} (u:Nat) {p:Prop} [Decidable p] (hf:fr[u]? = some (Bo (decide p))) (h1:p→AL P C ops Q (o :: rest) ⟨fr.set u (Bo true),H,n⟩) (h0:¬ p→AL P C ops Q (o :: rest) ⟨fr.set u (Bo false),H,n⟩):AL P C ops Q (o :: rest) ⟨fr,H,n⟩:=
 AL.split u hf (fun h=>h1 (of_decide_eq_true h)) (fun h=>h0 (of_decide_eq_false h))
theorem AL.gsplit [Mode] {g:Nat}{want:Bool}{u:Nat}{dst:Option Tmp}{p:Prop} [Decidable p] (hg:(ops[g]?).bind (·.dst)=some u) (hf:fr[u]? = some (Bo (decide p))) (h1:p→AL P C ops Q (⟨dst,op,ty,pos,after,some (g,want)⟩ :: rest) ⟨fr.set u (Bo true),H,n⟩) (h0:¬ p→AL P C ops Q (⟨dst,op,ty,pos,after,some (g,want)⟩ :: rest) ⟨fr.set u (Bo false),H,n⟩):AL P C ops Q (⟨dst,op,ty,pos,after,some (g,want)⟩ :: rest) ⟨fr,H,n⟩:=AL.splitP u hf h1 h0
theorem AL.gsplitB [Mode] {g:Nat}{want:Bool}{u:Nat}{dst:Option Tmp}{b:Bool} (hg:(ops[g]?).bind (·.dst)=some u) (hf:fr[u]? = some (Bo b)) (h1:b=true→AL P C ops Q (⟨dst,op,ty,pos,after,some (g,want)⟩ :: rest) ⟨fr.set u (Bo true),H,n⟩) (h0:b=false→AL P C ops Q (⟨dst,op,ty,pos,after,some (g,want)⟩ :: rest) ⟨fr.set u (Bo false),H,n⟩):AL P C ops Q (⟨dst,op,ty,pos,after,some (g,want)⟩ :: rest) ⟨fr,H,n⟩:=AL.split u hf h1 h0
variable {n0 i : Nat} {Z : List AV → Heap → List TO → Prop} {acc : List TO}
theorem AD.nil [Mode] (h:Z fr H acc):AD P ops n0 Z i [] fr H acc:=h
theorem AD.st [Mode] {fr':List AV}{H':Heap}{i' new:Nat}{reads:List Loc}{val:AV}{wr:List W} (hnew:n0+i=new) (h1:OpOk P ⟨some t,op,ty,pos,after,none⟩ (evalF fr) reads H new val wr) (hfr:fr.set t val=fr') (hH:upds H wr=H') (hi:i+1=i') (h2:AD P ops n0 Z i' rest fr' H' (acc++[⟨i,⟨some t,op,ty,pos,after,none⟩,⟨val,reads,wr,true⟩⟩])):AD P ops n0 Z i (⟨some t,op,ty,pos,after,none⟩ :: rest) fr H acc:=by
 (try subst hnew);(try subst hfr);(try subst hH);subst hi
 exact ⟨⟨val,reads,wr,true⟩,⟨rfl,fun _=>h1,fun h=>by cases h⟩,h2⟩
theorem AD.st0 [Mode] {H':Heap}{i' new:Nat}{reads:List Loc}{val:AV}{wr:List W} (hnew:n0+i=new) (h1:OpOk P ⟨none,op,ty,pos,after,none⟩ (evalF fr) reads H new val wr) (hH:upds H wr=H') (hi:i+1=i') (h2:AD P ops n0 Z i' rest fr H' (acc++[⟨i,⟨none,op,ty,pos,after,none⟩,⟨val,reads,wr,true⟩⟩])):AD P ops n0 Z i (⟨none,op,ty,pos,after,none⟩ :: rest) fr H acc:=by
 (try subst hnew);(try subst hfr);(try subst hH);subst hi
 exact ⟨⟨val,reads,wr,true⟩,⟨rfl,fun _=>h1,fun h=>by cases h⟩,h2⟩
theorem AD.stP [Mode] {fr':List AV}{i' new:Nat}{reads:List Loc}{val:AV} (hnew:n0+i=new) (h1:OpOk P ⟨some t,op,ty,pos,after,none⟩ (evalF fr) reads H new val []) (hfr:fr.set t val=fr') (hi:i+1=i') (h2:AD P ops n0 Z i' rest fr' H (acc++[⟨i,⟨some t,op,ty,pos,after,none⟩,⟨val,reads,[],true⟩⟩])):AD P ops n0 Z i (⟨some t,op,ty,pos,after,none⟩ :: rest) fr H acc:=by
 (try subst hnew);(try subst hfr);(try subst hH);subst hi
 exact ⟨⟨val,reads,[],true⟩,⟨rfl,fun _=>h1,fun h=>by cases h⟩,h2⟩
theorem AD.on [Mode] {fr':List AV}{H':Heap}{i' new:Nat}{reads:List Loc}{val:AV}{wr:List W}{g:Nat}{want:Bool}{u:Nat} (hg:(ops[g]?).bind (·.dst)=some u) (hf:fr[u]? = some (Bo want)) (hnew:n0+i=new) (h1:OpOk P ⟨some t,op,ty,pos,after,some (g,want)⟩ (evalF fr) reads H new val wr) (hfr:fr.set t val=fr') (hH:upds H wr=H') (hi:i+1=i') (h2:AD P ops n0 Z i' rest fr' H' (acc++[⟨i,⟨some t,op,ty,pos,after,some (g,want)⟩,⟨val,reads,wr,true⟩⟩])):AD P ops n0 Z i (⟨some t,op,ty,pos,after,some (g,want)⟩ :: rest) fr H acc:=by
 (try subst hnew);(try subst hfr);(try subst hH);subst hi
 exact ⟨⟨val,reads,wr,true⟩,⟨⟨u,.bool want,hg,hf,by simp[boolV]⟩,fun _=>h1,fun h=>by cases h⟩,h2⟩
theorem AD.off [Mode] {fr':List AV}{i':Nat}{g:Nat}{want:Bool}{v:Value}{u:Nat} (hg:(ops[g]?).bind (·.dst)=some u) (hf:fr[u]? = some (.d (.v v))) (hb:(boolV v == some want)=false) (hfr:fr.set t (.d (.v undef))=fr') (hi:i+1=i') (h2:AD P ops n0 Z i' rest fr' H (acc++[⟨i,⟨some t,op,ty,pos,after,some (g,want)⟩,⟨.d (.v undef),[],[],false⟩⟩])):AD P ops n0 Z i (⟨some t,op,ty,pos,after,some (g,want)⟩ :: rest) fr H acc:=by
 (try subst hnew);(try subst hfr);(try subst hH);subst hi
 exact ⟨⟨.d (.v undef),[],[],false⟩,⟨⟨u,v,hg,hf,hb.symm⟩,fun h=>(by cases h),fun _=>⟨rfl,rfl⟩⟩,h2⟩
theorem AD.split [Mode] {o:Oper} (u:Nat) {b:Bool} (hf:fr[u]? = some (Bo b)) (h1:b=true→AD P ops n0 Z i (o :: rest) (fr.set u (Bo true)) H acc) (h0:b=false→AD P ops n0 Z i (o :: rest) (fr.set u (Bo false)) H acc):AD P ops n0 Z i (o :: rest) fr H acc:=by
 cases b
 ·have:=h0 rfl;rwa [set_self hf] at this
 ·have:=h1 rfl;rwa [set_self hf] at this
theorem AD.splitP [Mode] {o:Oper} (u:Nat) {p:Prop} [Decidable p] (hf:fr[u]? = some (Bo (decide p))) (h1:p→AD P ops n0 Z i (o :: rest) (fr.set u (Bo true)) H acc) (h0:¬ p→AD P ops n0 Z i (o :: rest) (fr.set u (Bo false)) H acc):AD P ops n0 Z i (o :: rest) fr H acc:=
 AD.split u hf (fun h=>h1 (of_decide_eq_true h)) (fun h=>h0 (of_decide_eq_false h))
theorem AD.gsplit [Mode] {g:Nat}{want:Bool}{u:Nat}{dst:Option Tmp}{p:Prop} [Decidable p] (hg:(ops[g]?).bind (·.dst)=some u) (hf:fr[u]? = some (Bo (decide p))) (h1:p→AD P ops n0 Z i (⟨dst,op,ty,pos,after,some (g,want)⟩ :: rest) (fr.set u (Bo true)) H acc) (h0:¬ p→AD P ops n0 Z i (⟨dst,op,ty,pos,after,some (g,want)⟩ :: rest) (fr.set u (Bo false)) H acc):AD P ops n0 Z i (⟨dst,op,ty,pos,after,some (g,want)⟩ :: rest) fr H acc:=AD.splitP u hf h1 h0
theorem AD.gsplitB [Mode] {g:Nat}{want:Bool}{u:Nat}{dst:Option Tmp}{b:Bool} (hg:(ops[g]?).bind (·.dst)=some u) (hf:fr[u]? = some (Bo b)) (h1:b=true→AD P ops n0 Z i (⟨dst,op,ty,pos,after,some (g,want)⟩ :: rest) (fr.set u (Bo true)) H acc) (h0:b=false→AD P ops n0 Z i (⟨dst,op,ty,pos,after,some (g,want)⟩ :: rest) (fr.set u (Bo false)) H acc):AD P ops n0 Z i (⟨dst,op,ty,pos,after,some (g,want)⟩ :: rest) fr H acc:=AD.split u hf h1 h0
end
section
variable {P : Program} {C : Ctx} {Q : Exit → AS → Prop} {fr : List AV} {H : Heap} {n : Nat}
theorem AW.reg [Mode] {id:Nat}{l:List Oper} (h:AL P C l.toArray Q l ⟨fr,H,n⟩):AW P C (.region id l.toArray false) Q ⟨fr,H,n⟩:=AW.region h
theorem AW.dr [Mode] {id:Nat}{l:List Oper} (hm:P.follows .mixedOrders=true) (ht:textOk l.toArray=true) (h:AD P l.toArray n (fun fr H tr=>allPairs l.toArray tr=true∧Q .normal ⟨fr,H,n+l.length⟩) 0 l fr H []):AW P C (.region id l.toArray true) Q ⟨fr,H,n⟩:=AW.draw hm ht h
theorem AW.ite [Mode] {c:Operand}{x y:Code}{s:AS}{p:Prop} [Decidable p] (hc:evalF s.fr c=Bo (decide p)) (h1:p→AW P C x Q s) (h0:¬ p→AW P C y Q s):AW P C (.cond c x y) Q s:=
 AW.cond (decide p) hc (fun h=>h1 (of_decide_eq_true h)) (fun h=>h0 (of_decide_eq_false h))
theorem AW.condT [Mode] {c:Operand}{x y:Code}{s:AS} (hc:evalF s.fr c=Bo true) (h1:AW P C x Q s):AW P C (.cond c x y) Q s:=AW.cond true hc (fun _=>h1) (fun h=>by cases h)
theorem AW.condF [Mode] {c:Operand}{x y:Code}{s:AS} (hc:evalF s.fr c=Bo false) (h1:AW P C y Q s):AW P C (.cond c x y) Q s:=AW.cond false hc (fun h=>by cases h) (fun _=>h1)
end
section
variable {P : Program} {C : Ctx} {ops : Array Oper} {Q : Exit → AS → Prop} {K : AS → Prop} {fr fr' : List AV} {H : Heap} {n : Nat} {s : AS} {id id' : Nat}
theorem AL.fin [Mode] {n':Nat} (hfr:fr=fr') (hn:n=n') (h:Q .normal ⟨fr',H,n'⟩):AL P C ops Q [] ⟨fr,H,n⟩:=by subst hfr;subst hn;exact AL.nil h
theorem AD.fin [Mode] {n0 i n':Nat}{acc:List TO} (hn:n=n') (hfr:fr=fr') (hp:allPairs ops acc=true) (h:Q .normal ⟨fr',H,n'⟩):AD P ops n0 (fun fr H tr=>allPairs ops tr=true∧Q .normal ⟨fr,H,n⟩) i [] fr H acc:=by subst hfr;subst hn;exact ⟨hp,h⟩
theorem thenN [Mode] (h:K s):thenQ K Q .normal s:=h
theorem thenR [Mode] (h:Q .ret s):thenQ K Q .ret s:=h
theorem thenX [Mode] (h:Q (.exit id) s):thenQ K Q (.exit id) s:=h
theorem blockN [Mode] (h:Q .normal s):blockQ id Q .normal s:=h
theorem blockR [Mode] (h:Q .ret s):blockQ id Q .ret s:=h
theorem blockX [Mode] (h:Q .normal s):blockQ id Q (.exit id) s:=by simp only[blockQ,if_true];exact h
theorem blockY [Mode] (hne:id'≠id) (h:Q (.exit id') s):blockQ id Q (.exit id') s:=by simp only[blockQ,if_neg hne];exact h
theorem res2 [Mode] {rv rv':ResultVar}{c c':AV} (h:ResOf P fr H rv c) (h':ResOf P fr H rv' c'):ResAll P fr H [rv,rv'] (.tup [c,c']):=⟨[c,c'],rfl,fun i rv0 c0 h1 h2=>by
 match i with
 | 0=>simp at h1 h2;subst h1;subst h2;exact h
 | 1=>simp at h1 h2;subst h1;subst h2;exact h'
 | i+2=>simp at h1,rfl⟩
theorem end1 [Mode] {fn:Func}{res res' c:AV}{H':Heap}{e:Exit}{n':Nat}{rv:ResultVar} (he:e = .ret∨e = .normal) (hr:fn.results.toList=[rv]) (h:ResOf P fr H rv c) (hc:c=res') (hle:Le C ⟨[res'],H,n⟩ ⟨[res],H',n'⟩):EndQ P C fn res H' e ⟨fr,H,n⟩:=by
 subst hc
 have h1:ResAll P fr H fn.results.toList (c):=by
  rw[hr]
  exact ⟨[c],rfl,fun i rv' c' h1 h2=>by
   cases i with
   | zero=>simp at h1 h2;subst h1;subst h2;exact h
   | succ i=>simp at h1,rfl⟩
 rcases he with rfl|rfl<;>exact ⟨_,n',h1,hle⟩
theorem end2 [Mode] {fn:Func}{res res' c c':AV}{H':Heap}{e:Exit}{n':Nat}{rv rv':ResultVar} (he:e = .ret∨e = .normal) (hr:fn.results.toList=[rv,rv']) (h:ResOf P fr H rv c) (h':ResOf P fr H rv' c') (hc : .tup [c,c']=res') (hle:Le C ⟨[res'],H,n⟩ ⟨[res],H',n'⟩):EndQ P C fn res H' e ⟨fr,H,n⟩:=by
 subst hc
 have h1:ResAll P fr H fn.results.toList (.tup [c,c']):=by
  rw[hr]
  exact res2 h h'
 rcases he with rfl|rfl<;>exact ⟨_,n',h1,hle⟩
theorem end1p [Mode] {fn:Func}{res c:AV}{H':Heap}{e:Exit}{n':Nat}{rv:ResultVar} (he:e = .ret∨e = .normal) (hr:fn.results.toList=[rv]) (h:ResOf P fr H rv c) (hc:c=res) (hle:Le C ⟨[res],H,n⟩ ⟨[res],H',n'⟩):EndQ P C fn res H' e ⟨fr,H,n⟩:=end1 he hr h hc hle
theorem rT [Mode] {t:Nat}{c:AV} (h:fr[t]? = some c):ResOf P fr H (.tmp t) c:=h
theorem rCA [Mode] {a k i j m:Nat}{t:TypeId}{l:Loc}{ob:AObj}{r:List AV} [ht:TyAgg P t m] (h:fr[a]? = some (.ptr k l i j)) (hl:H l=some ob) (hk:ob.k=k) (hr:ob.rows[i]? = some r) (hm:j+m≤r.length):ResOf P fr H (.cell a t) (.agg ((r.drop j).take m)):=⟨k,l,i,j,ob,r,h,hl,hk,hr,.inl ⟨m,ht,hm,rfl⟩⟩
theorem rCC [Mode] {a k i j:Nat}{t:TypeId}{l:Loc}{ob:AObj}{r:List AV}{c:AV} [ht:TyCell P t] (h:fr[a]? = some (.ptr k l i j)) (hl:H l=some ob) (hk:ob.k=k) (hr:ob.rows[i]? = some r) (hc:r[j]? = some c):ResOf P fr H (.cell a t) c:=⟨k,l,i,j,ob,r,h,hl,hk,hr,.inr ⟨ht,hc⟩⟩
end
theorem rn_d [Mode] (f:Loc→Loc) (x:D):rn f (.d x) = .d x:=by rw[rn]
attribute [simp] rn_d rnO_dobj
section
variable {P : Program} {o : Oper} {A : Operand → AV} {H : Heap} {new : Nat} {t t' : TypeId} {x y : Operand}
theorem Ok.move [Mode] {v:AV} (ho:o.op = .move x) (hx:A x=v):OpOk P o A [] H new v []:=hx▸OpOk.move ho
theorem Ok.assign [Mode] {v:AV} (ho:o.op = .assign x) (hx:A x=v):OpOk P o A [] H new v []:=hx▸OpOk.assign ho
theorem Ok.boxA [Mode] {cs:List AV}{n:Nat} (ho:o.op = .box t x) (hx:A x = .agg cs) (hn:cs.length=n) (h1:cs.all AV.one=true):OpOk P o A [] H new (.ptr n ⟨new,[]⟩ 0 0) [.one ⟨new,[]⟩ (some ⟨n,[cs]⟩)]:=by
 have:=OpOk.box (P:=P) (A:=A) (H:=H) (new:=new) ho (by rw[hx];exact h1)
 rw[hx] at this;subst hn;exact this
theorem Ok.boxC [Mode] {c:AV} (ho:o.op = .box t x) (hx:A x=c) (h1:c.one=true):OpOk P o A [] H new (.ptr 1 ⟨new,[]⟩ 0 0) [.one ⟨new,[]⟩ (some ⟨1,[[c]]⟩)]:=by
 have hc:c.cells=[c]:=by cases c<;>first|rfl|cases h1
 have:=OpOk.box (P:=P) (A:=A) (H:=H) (new:=new) ho (by rw[hx,hc];simpa using h1)
 rw[hx,hc] at this;exact this
theorem Ok.alloc [Mode] {z:Value}{cs:List AV}{n:Nat} (ho:o.op = .alloc t) [hz:TyZero P t z] (hn:z.cells.size=n) (hc:(z.cells.toList.map fun x=>AV.d (.v x))=cs):OpOk P o A [] H new (.ptr n ⟨new,[]⟩ 0 0) [.one ⟨new,[]⟩ (some ⟨n,[cs]⟩)]:=by
 subst hn hc;exact OpOk.alloc ho
theorem Ok.fieldAddr [Mode] {s ft:TypeId}{f off fn i j j':Nat}{k:Nat}{l:Loc} (ho:o.op = .fieldAddr s x f) (hx:A x = .ptr k l i j) [TyField P s f off ft fn] (hn:fn≠0) (hj:j+off=j'):OpOk P o A [] H new (.ptr k l i j') []:=hj▸OpOk.fieldAddr ho hx hn
theorem Ok.lenO [Mode] {e:TypeId}{k b n k':Nat}{z:Value}{l:Loc}{off:Nat} (ho:o.op = .call { callee:=.builtin .len,args:=#[x],argTypes:=#[t] }) (hx:A x = .own k' l off n) [TySlice P t e k b z]:OpOk P o A [] H new (I n) []:=OpOk.len (t:=t) ho rfl (.inl ⟨l,off,hx⟩)
theorem Ok.lenD [Mode] {e:TypeId}{k b n k':Nat}{z:Value}{rows:List (List D)} (ho:o.op = .call { callee:=.builtin .len,args:=#[x],argTypes:=#[t] }) (hx:A x = .d (.sl k' rows)) [TySlice P t e k b z] (hn:rows.length=n):OpOk P o A [] H new (I n) []:=OpOk.len (t:=t) ho rfl (.inr (.inl ⟨rows,hx,hn⟩))
theorem Ok.lenN [Mode] {e:TypeId}{k b:Nat}{z:Value} (ho:o.op = .call { callee:=.builtin .len,args:=#[x],argTypes:=#[t] }) (hx:A x = .d (.v (.slice none 0 0))) [TySlice P t e k b z]:OpOk P o A [] H new (I 0) []:=OpOk.len (t:=t) (k':=0) (n:=0) ho rfl (.inr (.inr ⟨hx,rfl⟩))
theorem Ok.lenS [Mode] {s:ByteArray} (ho:o.op = .call { callee:=.builtin .len,args:=#[x],argTypes:=#[t] }) (hx:A x = .d (.v (.string s))) [TyString P t]:OpOk P o A [] H new (I s.size) []:=OpOk.lenStr (t:=t) ho rfl hx
theorem Ok.pickT [Mode] {c:Operand}{v:AV} (ho:o.op = .pick c x y) (hc:A c=Bo true) (hx:A x=v):OpOk P o A [] H new v []:=by have:=OpOk.pick (P:=P) (H:=H) (new:=new) ho hc;simpa [hx] using this
theorem Ok.pickF [Mode] {c:Operand}{v:AV} (ho:o.op = .pick c x y) (hc:A c=Bo false) (hy:A y=v):OpOk P o A [] H new v []:=by have:=OpOk.pick (P:=P) (H:=H) (new:=new) ho hc;simpa [hy] using this
theorem Ok.pick [Mode] {c:Operand}{b:Bool}{u v:AV} (ho:o.op = .pick c x y) (hc:A c=Bo b) (hx:A x=u) (hy:A y=v):OpOk P o A [] H new (if b then u else v) []:=hx▸hy▸OpOk.pick ho hc
theorem wrap64_id [Mode] {n:Int} (h0 : -9223372036854775808≤n) (h1:n≤9223372036854775807):IntKind.i64.wrap n=n:=by rw[IntKind.wrap_i64];omega
variable {k : IntKind} {a b : Int}
theorem Ok.add [Mode] (ho:o.op = .binOp .add t x y t') (hx:A x=I a) (hy:A y=I b) (h0 : -9223372036854775808≤a+b) (h1:a+b≤9223372036854775807):OpOk P o A [] H new (I (a+b)) []:=
 OpOk.bin ho hx hy rfl fun w=>by simp[binOp,Op.intArith,wrap64_id h0 h1]
theorem Ok.sub [Mode] (ho:o.op = .binOp .sub t x y t') (hx:A x=I a) (hy:A y=I b) (h0 : -9223372036854775808≤a - b) (h1:a - b≤9223372036854775807):OpOk P o A [] H new (I (a - b)) []:=
 OpOk.bin ho hx hy rfl fun w=>by simp[binOp,Op.intArith,wrap64_id h0 h1]
theorem Ok.mul [Mode] (ho:o.op = .binOp .mul t x y t') (hx:A x=I a) (hy:A y=I b) (h0 : -9223372036854775808≤a*b) (h1:a*b≤9223372036854775807):OpOk P o A [] H new (I (a*b)) []:=
 OpOk.bin ho hx hy rfl fun w=>by simp[binOp,Op.intArith,wrap64_id h0 h1]
theorem Ok.addW [Mode] (ho:o.op = .binOp .add t x y t') (hx:A x = .d (.v (.int k a))) (hy:A y = .d (.v (.int k b))):OpOk P o A [] H new (.d (.v (.int k (k.wrap (a+b))))) []:=OpOk.bin ho hx hy rfl fun w=>by simp[binOp,Op.intArith]
theorem Ok.subW [Mode] (ho:o.op = .binOp .sub t x y t') (hx:A x = .d (.v (.int k a))) (hy:A y = .d (.v (.int k b))):OpOk P o A [] H new (.d (.v (.int k (k.wrap (a - b))))) []:=OpOk.bin ho hx hy rfl fun w=>by simp[binOp,Op.intArith]
theorem Ok.quo [Mode] (ho:o.op = .binOp .quo t x y t') (hx:A x=I a) (hy:A y=I b) (h:0<b) (h0 : -9223372036854775808≤a) (h1:a≤9223372036854775807):OpOk P o A [] H new (I (a.tdiv b)) []:=by
 have hb:b≠0:=by omega
 have h2 : -9223372036854775808≤a.tdiv b∧a.tdiv b≤9223372036854775807:=by
  rcases Int.le_total 0 a with ha|ha
  ·rw[Int.tdiv_eq_ediv_of_nonneg ha]
   exact ⟨by have:=Int.ediv_nonneg ha (Int.le_of_lt h);omega,by have:=Int.ediv_le_self b ha;omega⟩
  ·have:a.tdiv b=-((-a) / b):=by
    have:=Int.neg_tdiv (a:=a) (b:=b)
    rw[Int.tdiv_eq_ediv_of_nonneg (by omega:0≤-a)] at this
    omega
   have h3:=Int.ediv_le_self b (by omega:0≤-a)
   have h4:=Int.ediv_nonneg (by omega:0≤-a) (Int.le_of_lt h)
   omega
 exact OpOk.bin ho hx hy rfl fun w=>by simp[binOp,Op.intDiv,hb,wrap64_id h2.1 h2.2]
theorem Ok.rem [Mode] (ho:o.op = .binOp .rem t x y t') (hx:A x=I a) (hy:A y=I b) (h:b≠0):OpOk P o A [] H new (I (a.tmod b)) []:=OpOk.bin ho hx hy rfl fun w=>by simp[binOp,Op.intDiv,h]
theorem Ok.eql [Mode] (ho:o.op = .binOp .eql t x y t') (hx:A x = .d (.v (.int k a))) (hy:A y = .d (.v (.int k b))):OpOk P o A [] H new (Bo (decide (a=b))) []:=OpOk.bin ho hx hy rfl fun w=>by
 have:(a == b)=decide (a=b):=by by_cases h:a=b<;>simp[h]
 simp[binOp,Op.intCmp,this]
theorem Ok.neq [Mode] (ho:o.op = .binOp .neq t x y t') (hx:A x = .d (.v (.int k a))) (hy:A y = .d (.v (.int k b))):OpOk P o A [] H new (Bo (decide (a≠b))) []:=OpOk.bin ho hx hy rfl fun w=>by
 have:(a != b)=decide (a≠b):=by by_cases h:a=b<;>simp[h]
 simp[binOp,Op.intCmp,this]
theorem Ok.lss [Mode] (ho:o.op = .binOp .lss t x y t') (hx:A x = .d (.v (.int k a))) (hy:A y = .d (.v (.int k b))):OpOk P o A [] H new (Bo (decide (a<b))) []:=OpOk.bin ho hx hy rfl fun w=>by simp[binOp,Op.intCmp]
theorem Ok.leq [Mode] (ho:o.op = .binOp .leq t x y t') (hx:A x = .d (.v (.int k a))) (hy:A y = .d (.v (.int k b))):OpOk P o A [] H new (Bo (decide (a≤b))) []:=OpOk.bin ho hx hy rfl fun w=>by simp[binOp,Op.intCmp]
theorem Ok.gtr [Mode] (ho:o.op = .binOp .gtr t x y t') (hx:A x = .d (.v (.int k a))) (hy:A y = .d (.v (.int k b))):OpOk P o A [] H new (Bo (decide (b<a))) []:=OpOk.bin ho hx hy rfl fun w=>by simp[binOp,Op.intCmp]
theorem Ok.geq [Mode] (ho:o.op = .binOp .geq t x y t') (hx:A x = .d (.v (.int k a))) (hy:A y = .d (.v (.int k b))):OpOk P o A [] H new (Bo (decide (b≤a))) []:=OpOk.bin ho hx hy rfl fun w=>by simp[binOp,Op.intCmp]
theorem Ok.notP [Mode] {p:Prop} [Decidable p] (ho:o.op = .unOp .not t x) (hx:A x=Bo (decide p)):OpOk P o A [] H new (Bo (decide (¬ p))) []:=OpOk.un ho hx fun w=>by simp[Op.unary]
theorem Ok.not [Mode] {b:Bool} (ho:o.op = .unOp .not t x) (hx:A x=Bo b):OpOk P o A [] H new (Bo (!b)) []:=OpOk.un ho hx fun w=>by simp[Op.unary]
theorem Ok.neg [Mode] (ho:o.op = .unOp .neg t x) (hx:A x=I a) (h0 : -9223372036854775808≤-a) (h1 : -a≤9223372036854775807):OpOk P o A [] H new (I (-a)) []:=OpOk.un ho hx fun w=>by simp[Op.unary,Op.intArith,wrap64_id h0 h1]
variable {s u : ByteArray}
theorem Ok.seql [Mode] (ho:o.op = .binOp .eql t x y t') (hx:A x = .d (.v (.string s))) (hy:A y = .d (.v (.string u))):OpOk P o A [] H new (Bo (decide (s=u))) []:=OpOk.bin ho hx hy rfl fun w=>by
 have:(s.toList == u.toList)=decide (s=u):=by
  by_cases h:s=u
  ·simp[h]
  ·have:s.toList≠u.toList:=fun e=>h (by
    have h1:=congrArg List.toArray e
    simp only[ByteArray.toList_eq] at h1
    cases s;cases u;simp_all)
   simp[h,this]
 simp[binOp,Op.stringOp,this]
theorem Ok.convII [Mode] {k':IntKind} (ho:o.op = .convert t t' x) (hx:A x = .d (.v (.int k a))) (hu:P.underlying t'=some (.int k')) (hs:(P.underlying t).isSome=true) (h:k'.wrap a=b):OpOk P o A [] H new (.d (.v (.int k' b))) []:=OpOk.conv ho hx fun w=>by
 obtain ⟨d,hd⟩:=Option.isSome_iff_exists.1 hs
 simp[convert,run_underlying hd,run_underlying hu,Conv.intToInt,h]
theorem Ok.minII [Mode] {ts:Array TypeId} (ho:o.op = .call { callee:=.builtin .min,args:=#[x,y],argTypes:=ts }) (hx:A x = .d (.v (.int k a))) (hy:A y = .d (.v (.int k b))):OpOk P o A [] H new (.d (.v (.int k (min a b)))) []:=
 .known2 hx hy (by simp[ho,Op.operands,Call.operands]) (by simp[ho,Op.operands,Call.operands]) fun ρ w h1 h2=>by
  have:(if b<a then b else a)=min a b:=by split<;>omega
  simp[execOp,ho,resolve,invoke,builtin,Builtin.min_,Builtin.min2,h1,h2,this]
theorem Ok.maxII [Mode] {ts:Array TypeId} (ho:o.op = .call { callee:=.builtin .max,args:=#[x,y],argTypes:=ts }) (hx:A x = .d (.v (.int k a))) (hy:A y = .d (.v (.int k b))):OpOk P o A [] H new (.d (.v (.int k (max a b)))) []:=
 .known2 hx hy (by simp[ho,Op.operands,Call.operands]) (by simp[ho,Op.operands,Call.operands]) fun ρ w h1 h2=>by
  have:(if b > a then b else a)=max a b:=by split<;>omega
  simp[execOp,ho,resolve,invoke,builtin,Builtin.max_,Builtin.max2,h1,h2]
  omega
end
end
section
open Go Go.RowKit
abbrev HL:=List (Loc × Loc × AObj)
def tauL:HL→Loc→Loc
 | [],l=>l
 | p :: r,l=>if l=p.1 then p.2.1 else tauL r l
def heapL:HL→Heap
 | []=>H0
 | p :: r=>upd (heapL r) p.1 (some p.2.2)
theorem heapL_mem [Mode]:∀ {hs:HL}{l:Loc}{o:AObj},heapL hs l=some o→∃ p∈hs,p.1=l∧p.2.2=o
 | [],l,o,h=>by cases h
 | p :: r,l,o,h=>by
  unfold heapL upd at h
  split at h
  ·rename_i e;cases h;exact ⟨p,by simp,e.symm,rfl⟩
  ·obtain ⟨q,hq,h1,h2⟩:=heapL_mem h;exact ⟨q,by simp[hq],h1,h2⟩
theorem heapL_ne [Mode]:∀ {hs:HL}{p:Loc × Loc × AObj},p∈hs→heapL hs p.1≠none
 | q :: r,p,h=>by
  unfold heapL upd
  split
  ·simp
  ·rename_i e
   rcases List.mem_cons.1 h with rfl|h
   ·exact absurd rfl e
   ·exact heapL_ne h
theorem tauL_of [Mode]:∀ {hs:HL}{p:Loc × Loc × AObj},(hs.map (·.1)).Nodup→p∈hs→tauL hs p.1=p.2.1
 | q :: r,p,hn,h=>by
  simp only[List.map_cons,List.nodup_cons,List.mem_map,not_exists,not_and] at hn
  unfold tauL
  split
  ·rename_i e
   rcases List.mem_cons.1 h with rfl|h
   ·rfl
   ·exact absurd e.symm (fun e'=>hn.1 p h e'.symm)
  ·rename_i e
   rcases List.mem_cons.1 h with rfl|h
   ·exact absurd rfl e
   ·exact tauL_of hn.2 h
def ObA (H:Heap) (lent:Loc→Prop) (τ:Loc→Loc) (L:Loc→Prop) (ob ob':AObj):Prop:=
 ob'.k=ob.k∧ob'.rows.length=ob.rows.length∧∀ (i:Nat) r r',ob.rows[i]? = some r→ob'.rows[i]? = some r'→r.length=r'.length∧∀ (j:Nat) c c',r[j]? = some c→r'[j]? = some c'→AR H lent τ L c c'
theorem ObA.data [Mode] {H:Heap}{lent:Loc→Prop}{τ:Loc→Loc}{L:Loc→Prop}{k:Nat}{rows:List (List D)}:ObA H lent τ L (dobj k rows) (dobj k rows):=by
 refine ⟨rfl,rfl,fun i r r' hr hr'=>?_⟩
 rw[hr] at hr';cases hr'
 refine ⟨rfl,fun j c c' hc hc'=>?_⟩
 rw[hc] at hc';cases hc'
 simp only[dobj,List.getElem?_map,Option.map_eq_some_iff] at hr
 obtain ⟨r2,_,rfl⟩:=hr
 simp only[List.getElem?_map,Option.map_eq_some_iff] at hc
 obtain ⟨x,_,rfl⟩:=hc
 exact AR.dd x
theorem ObA.dataE [Mode] {H:Heap}{lent:Loc→Prop}{τ:Loc→Loc}{L:Loc→Prop}{k:Nat}{rows:List (List D)}{ob:AObj} (h:ob=dobj k rows):ObA H lent τ L (dobj k rows) ob:=by subst h;exact ObA.data
theorem ObA.box [Mode] {H:Heap}{lent:Loc→Prop}{τ:Loc→Loc}{L:Loc→Prop}{k:Nat}{r r':List AV} (h:ARs H lent τ L r r'):ObA H lent τ L ⟨k,[r]⟩ ⟨k,[r']⟩:=by
 refine ⟨rfl,rfl,fun i q q' hq hq'=>?_⟩
 cases i with
 | zero=>simp at hq hq';subst hq;subst hq';exact h
 | succ i=>simp at hq
theorem Le.tellL [Mode] {C:Ctx}{s:AS} (lent:Loc→Prop) (hs:HL) (fr':List AV) (n':Nat) (hfr:ARs s.H lent (tauL hs) (fun l=>heapL hs l≠none) fr' s.fr) (hob:∀ p∈hs,∃ ob',s.H p.2.1=some ob'∧ObA s.H lent (tauL hs) (fun l=>heapL hs l≠none) p.2.2 ob')
  (hn1:(hs.map (·.1)).Nodup) (hn2:(hs.map (·.2.1)).Nodup) (hlen:∀ p∈hs,¬ lent p.2.1) (hn:∀ p∈hs,p.1.id<n') (hD:∀ l,C.D0 l→l.id<n'∧tauL hs l=l):Le C s ⟨fr',heapL hs,n'⟩:=by
 have get:∀ l,heapL hs l≠none→∃ p∈hs,p.1=l:=fun l hl=>by
  cases h:heapL hs l with
  | none=>exact absurd h hl
  | some o=>obtain ⟨p,hp,e,_⟩:=heapL_mem h;exact ⟨p,hp,e⟩
 refine Le.tell lent (tauL hs) hfr (fun l ob h=>?_) (fun l l' h h' e=>?_) (fun l h=>?_) (fun l h=>?_) hD
 ·obtain ⟨p,hp,rfl,rfl⟩:=heapL_mem h
  rw[tauL_of hn1 hp]
  exact hob p hp
 ·obtain ⟨p,hp,rfl⟩:=get l h
  obtain ⟨q,hq,rfl⟩:=get l' h'
  rw[tauL_of hn1 hp,tauL_of hn1 hq] at e
  obtain ⟨i,hi⟩:=List.getElem?_of_mem hp
  obtain ⟨j,hj⟩:=List.getElem?_of_mem hq
  have h1:(hs.map (·.2.1))[i]? = some p.2.1:=by simp[hi]
  have h2:(hs.map (·.2.1))[j]? = some q.2.1:=by simp[hj]
  obtain ⟨hi',e1⟩:=List.getElem?_eq_some_iff.1 h1
  obtain ⟨hj',e2⟩:=List.getElem?_eq_some_iff.1 h2
  have hpw:=List.pairwise_iff_getElem.1 hn2
  have:i=j:=by
   rcases Nat.lt_trichotomy i j with h|h|h
   ·exact absurd (by rw[e1,e2,e]) (hpw i j hi' hj' h)
   ·exact h
   ·exact absurd (by rw[e1,e2,e]) (hpw j i hj' hi' h)
  subst this
  rw[hi] at hj;cases hj;rfl
 ·obtain ⟨p,hp,rfl⟩:=get l h
  rw[tauL_of hn1 hp];exact hlen p hp
 ·obtain ⟨p,hp,rfl⟩:=get l h
  exact hn p hp
def AllP {α:Type} (p:α→Prop):List α→Prop
 | []=>True
 | x :: r=>p x∧AllP p r
theorem AllP.all [Mode] {α:Type}{p:α→Prop}:∀ {l:List α},AllP p l→∀ x∈l,p x
 | [],_,_,h=>by cases h
 | _ :: _,h,x,hx=>by
  rcases List.mem_cons.1 hx with rfl|hx
  ·exact h.1
  ·exact AllP.all h.2 x hx
theorem AR.i [Mode] {H:Heap}{lent:Loc→Prop}{τ:Loc→Loc}{L:Loc→Prop}{a b:Int} (h:a=b):AR H lent τ L (I a) (I b):=h▸AR.dd _
theorem AR.e [Mode] {H:Heap}{lent:Loc→Prop}{τ:Loc→Loc}{L:Loc→Prop}{a b:D} (h:a=b):AR H lent τ L (.d a) (.d b):=h▸AR.dd _
theorem Le.head [Mode] {C:Ctx}{fr:List AV}{H:Heap}{n:Nat} (hs:HL) {fr':List AV}{n':Nat} (hD:∀ l,C.D0 l→l.id<n'∧tauL hs l=l) (hob:AllP (fun p=>∃ ob',H p.2.1=some ob'∧ObA H (fun _=>False) (tauL hs) (fun l=>heapL hs l≠none) p.2.2 ob') hs) (hfr:ARs H (fun _=>False) (tauL hs) (fun l=>heapL hs l≠none) fr' fr)
  (hn1:(hs.map (·.1)).Nodup) (hn2:(hs.map (·.2.1)).Nodup) (hn:AllP (fun p=>p.1.id<n') hs):Le C ⟨fr,H,n⟩ ⟨fr',heapL hs,n'⟩:=
 Le.tellL (fun _=>False) hs fr' n' hfr hob.all hn1 hn2 (fun _ _ h=>h) hn.all hD
theorem heapL_iff [Mode] {hs:HL}{l:Loc}:heapL hs l≠none↔l∈hs.map (·.1):=by
 constructor
 ·intro h
  cases h1:heapL hs l with
  | none=>exact absurd h1 h
  | some o=>obtain ⟨p,hp,e,_⟩:=heapL_mem h1;exact List.mem_map.2 ⟨p,hp,e⟩
 ·intro h
  obtain ⟨p,hp,rfl⟩:=List.mem_map.1 h
  exact heapL_ne hp
inductive Locs (L:Loc→Prop):AV→Prop
 | d (x:D):Locs L (.d x)
 | agg (cs:List AV) (h:∀ (i:Nat) c,cs[i]? = some c→Locs L c):Locs L (.agg cs)
 | tup (cs:List AV) (h:∀ (i:Nat) c,cs[i]? = some c→Locs L c):Locs L (.tup cs)
 | own (k:Nat) (l:Loc) (off n:Nat) (h:L l):Locs L (.own k l off n)
 | ptr (k:Nat) (l:Loc) (i j:Nat) (h:L l):Locs L (.ptr k l i j)
 | dptr (cs:List D):Locs L (.dptr cs)
 | clo (fn:Fn) (fs cs:List AV) (h:∀ (i:Nat) c,fs[i]? = some c→Locs L c) (h':∀ (i:Nat) c,cs[i]? = some c→Locs L c):Locs L (.clo fn fs cs)
 | dead:Locs L .dead
theorem Locs.ar [Mode] {H:Heap}{lent L:Loc→Prop}{c:AV} (h:Locs L c):AR H lent id L c c:=by
 induction h with
 | d x=>exact .dd x
 | agg cs h ih=>exact .agg cs cs rfl fun i c c' h1 h2=>by rw[h1] at h2;cases h2;exact ih i c h1
 | tup cs h ih=>exact .tup cs cs rfl fun i c c' h1 h2=>by rw[h1] at h2;cases h2;exact ih i c h1
 | own k l off n h=>exact .own k l off n h
 | ptr k l i j h=>exact .ptr k l i j h
 | dptr cs=>exact .dptr cs
 | clo fn fs cs h h' ih ih'=>exact .clo fn fs fs cs cs rfl rfl (fun i c c' h1 h2=>by rw[h1] at h2;cases h2;exact ih i c h1) (fun i c c' h1 h2=>by rw[h1] at h2;cases h2;exact ih' i c h1)
 | dead=>exact .dead _
theorem Locs.rn [Mode] {L : Loc → Prop} {f : Loc → Loc} (hf : ∀ l, L l → f l = l) {c : AV} (h : Locs L c) : YtkpoclbnnpglfaaGreat.rn f c = c := by
  induction h with
  | d x => rw [YtkpoclbnnpglfaaGreat.rn]
  | agg cs h ih => rw [YtkpoclbnnpglfaaGreat.rn]; congr 1; conv => rhs; rw [← List.map_id cs]
                   exact List.map_congr_left fun c hc => by obtain ⟨i, hi⟩ := List.getElem?_of_mem hc; exact ih i c hi
  | tup cs h ih => rw [YtkpoclbnnpglfaaGreat.rn]; congr 1; conv => rhs; rw [← List.map_id cs]
                   exact List.map_congr_left fun c hc => by obtain ⟨i, hi⟩ := List.getElem?_of_mem hc; exact ih i c hi
  | own k l off n h => rw [YtkpoclbnnpglfaaGreat.rn, hf l h]
  | ptr k l i j h => rw [YtkpoclbnnpglfaaGreat.rn, hf l h]
  | dptr cs => rw [YtkpoclbnnpglfaaGreat.rn]
  | clo fn fs cs h h' ih ih' =>
    rw [YtkpoclbnnpglfaaGreat.rn]
    have e1 : fs.map (YtkpoclbnnpglfaaGreat.rn f) = fs := by
      conv => rhs; rw [← List.map_id fs]
      exact List.map_congr_left fun c hc => by obtain ⟨i, hi⟩ := List.getElem?_of_mem hc; exact ih i c hi
    have e2 : cs.map (YtkpoclbnnpglfaaGreat.rn f) = cs := by
      conv => rhs; rw [← List.map_id cs]
      exact List.map_congr_left fun c hc => by obtain ⟨i, hi⟩ := List.getElem?_of_mem hc; exact ih' i c hi
    rw [e1, e2]
  | dead => rw [YtkpoclbnnpglfaaGreat.rn]
def HOk (hs:HL):Prop:=∀ p∈hs,∀ r∈p.2.2.rows,∀ c∈r,Locs (·∈hs.map (·.1)) c
theorem rnO_ok [Mode] {hs:HL} (hok:HOk hs) {f:Loc→Loc} (hf:∀ l,l∈hs.map (·.1)→f l=l) {p:Loc × Loc × AObj} (hp:p∈hs):rnO f p.2.2=p.2.2:=by
 have h:=hok p hp
 generalize p.2.2=ob at h
 obtain ⟨k,rows⟩:=ob
 simp only[rnO]
 congr 1
 conv=>rhs;rw[← List.map_id rows]
 refine List.map_congr_left fun r hr=>?_
 conv=>rhs;rw[id,← List.map_id r]
 exact List.map_congr_left fun c hc=>(h r hr c hc).rn hf
theorem OpOk.callS [Mode] {P:Program}{o:Oper}{A:Operand→AV}{H:Heap}{new:Nat}{fo:Operand}{xs:List Operand}{ts:Array TypeId}{f:FuncId}{caps args:List AV}{res:AV} (hs:HL) (ho:o.op = .call { callee:=.value fo,args:=xs.toArray,argTypes:=ts }) [FnBody P f] (hfo:A fo = .clo (.func f) [] caps) (hc:AC P f args (heapL hs) res (heapL hs))
  (hH:∀ p∈hs,H p.1=heapL hs p.1) (hok:HOk hs) (hres:Locs (·∈hs.map (·.1)) res) (hargs:ARs H (fun _=>False) id (·∈hs.map (·.1)) args (xs.map A++caps)):OpOk P o A (hs.map (·.1)) H new res []:=by
 have hemb:∀ l,l∈hs.map (·.1)→emb id (hs.map (·.1)) new l=l:=fun l hl=>by unfold emb;rw[if_pos hl];rfl
 intro ι F w H1 ρ h1 hn hsim hv
 have hH1:∀ l,l∈hs.map (·.1)→H1 l=heapL hs l:=fun l hl=>by
  obtain ⟨p,hp,rfl⟩:=List.mem_map.1 hl
  exact (h1 p.1 (.mem hl)).trans (hH p hp)
 have h:=OpOk.callGen (P:=P) (o:=o) (A:=A) (H:=H1) (new:=new) (wr:=[.all new (fun _=>none)]) (fun _=>False) (hs.map (·.1)) id (hs.map (·.1)) (fun _ h=>h.elim) (fun l hl=>.mem (by first|(simp;done)|simpa using hl)) ho hfo hc (fun l=>heapL_iff) (fun l _ l' _ e=>e) (fun l _ h=>h)
  (fun l ob hob=>by
   have hl:=heapL_iff.1 (by rw[hob];simp:heapL hs l≠none)
   refine ⟨ob,(hH1 l hl).trans hob,rfl,rfl,fun i r r' hr hr'=>?_⟩
   rw[hr] at hr';cases hr'
   refine ⟨rfl,fun j c c' hc' hc2=>?_⟩
   rw[hc'] at hc2;cases hc2
   obtain ⟨p,hp,rfl,rfl⟩:=heapL_mem hob
   exact (hok p hp r (List.mem_of_getElem? hr) c (List.mem_of_getElem? hc')).ar) (.inl fun _ h=>h) (by
    refine ⟨hargs.1,fun i c c' hc1 hc2=>?_⟩
    have:=hargs.2 i c c' hc1 hc2
    exact this.congr (fun l hl=>hl.elim)) (fun H2 h2 h3=>?_)
 ·have:=h ι F w H1 ρ (fun _ _=>rfl) hn hsim hv
  rw[hres.rn hemb] at this
  refine this.mono fun v w' ⟨ι',F',hr,hp⟩=>⟨ι',F',hr,?_⟩
  have e:upds H1 [.all new (fun _=>none)]=upds H1 []:=by
   funext l
   simp only[upds,W.app]
   split
   ·rename_i e
    obtain ⟨id,sub⟩:=l
    simp only at e;subst e
    exact (hsim.isNone (hn sub)).symm
   ·rfl
  rw[e] at hp
  simpa using hp
 ·have hH2:∀ l,l∈hs.map (·.1)→H2 l=heapL hs l:=fun l hl=>(h3 l hl).trans (hH1 l hl)
  have hid:∀ l,l∈hs.map (·.1)→l.id≠new:=fun l hl e=>by
   have h4:=heapL_iff.2 hl
   rw[← hH2 l hl] at h4
   exact h4 (by obtain ⟨id,sub⟩:=l;simp only at e;subst e;exact h2 sub)
  funext l
  simp only[upds,W.app,merge]
  cases hf:(hs.map (·.1)).find? (fun lc=>id lc == l) with
  | some lc=>
   have hlc:=List.mem_of_find?_eq_some hf
   have he:lc=l:=by have:=List.find?_some hf;simpa using this
   subst he
   rw[if_neg (hid lc hlc)]
   simp only
   rw[hH2 lc hlc]
   cases hob:heapL hs lc with
   | none=>rfl
   | some ob=>
    obtain ⟨p,hp,rfl,rfl⟩:=heapL_mem hob
    simp only[Option.map_some]
    congr 1
    exact (rnO_ok hok hemb hp).symm
  | none=>
   simp only
   split
   ·rename_i e
    obtain ⟨id,sub⟩:=l
    cases sub with
    | nil=>rfl
    | cons i s=>
     simp only
     split
     ·rfl
     ·rename_i hnl
      cases hob:heapL hs ⟨i,s⟩ with
      | none=>rfl
      | some ob=>exact absurd (heapL_iff.1 (by rw[hob];simp)) hnl
   ·rfl
end
end Go.Proofs.YtkpoclbnnpglfaaGreat
