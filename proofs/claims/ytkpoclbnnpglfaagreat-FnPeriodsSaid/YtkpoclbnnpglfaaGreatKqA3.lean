/-
  The abstract reading of the machine, part 3: values, operations, contracts, walks.
-/
import Derived.Test.YtkpoclbnnpglfaaGreatKqA2
set_option linter.unusedSimpArgs false
set_option linter.unusedVariables false
namespace Go.Proofs.YtkpoclbnnpglfaaGreat
section
open Go Go.RowKit
theorem AC.frz [Mode] {P:Program}{f:FuncId}{args:List AV}{res resD:AV}{H':Heap} (hc:AC P f args H0 res H') (hr:AR H' (fun _=>True) (fun l=>l) (fun _=>False) resD res):AC P f args H0 resD H0:=by
 intro ι F w vs hs hi hv
 refine (hc ι F w vs hs hi hv).mono ?_
 rintro e w' ⟨v,ι',F',rfl,hres,hs',hstep,hsub,hsup,hown,hkeep⟩
 refine ⟨v,fun _=>none,fun b=>F' b∨∃ l,True∧Owned ι' H' l b,rfl,hr.vr hs' (fun l hl=>hl.elim) hres,⟨fun l o h=>(by cases h),fun l l' b s s' h=>absurd rfl h,fun l b s h=>absurd rfl h,fun b hb=>?_,hs'.gl.mono (fun _ h=>.inl h) (fun _ _=>rfl)⟩,hstep,fun b hb=>.inl (hsub b hb),fun b hb=>?_,fun b hb=>?_,fun l x h=>absurd rfl h⟩
 ·rcases hb with hb|⟨l,_,h,s,e⟩
  ·exact hs'.lt b hb
  ·exact hs'.blt h e
 ·rcases hb with hb|⟨l,_,h⟩
  ·exact hsup b hb
  ·exact .inr (hown b ⟨l,h⟩)
 ·obtain ⟨l,h,_⟩:=hb
  exact absurd rfl h
theorem AC.frzT [Mode] {P:Program}{f:FuncId}{args:List AV}{n:Nat}{R:List (List (List D))} (hc:AC P f args H0 (.own 1 ⟨0,[]⟩ 0 n) (hpM 1 R)) (hn:R.length=n):AC P f args H0 (.d (.sl 1 (mRows 1 R))) H0:=
 hc.frz (AR.tab ⟨hpM_l,fun i x hx=>by rw[hpM_at,hx];rfl⟩ hn trivial (fun _=>trivial))
theorem AC.frzT2 [Mode] {P:Program}{f:FuncId}{args:List AV}{n:Nat}{d:D}{R:List (List (List D))} (hc:AC P f args H0 (.tup [.own 1 ⟨0,[]⟩ 0 n,.d d]) (hpM 1 R)) (hn:R.length=n):AC P f args H0 (.tup [.d (.sl 1 (mRows 1 R)),.d d]) H0:=
 hc.frz (ARs.tup (.cons (AR.tab ⟨hpM_l,fun i x hx=>by rw[hpM_at,hx];rfl⟩ hn trivial (fun _=>trivial)) (.cons (.dd _) .nil)))
section
variable {P : Program} {o : Oper} {A : Operand → AV} {H : Heap} {new : Nat}
theorem Ok.bs2 [Mode] {t e:TypeId}{k b:Nat}{z:Value}{x y:Operand}{v u:AV}{cs ds:List AV} (ho:o.op = .buildSlice t 2 #[(0,x),(1,y)]) [h:TySlice P t e k b z] (hx:A x=v) (hy:A y=u) (hv:v.cells=cs) (hu:u.cells=ds) (hk:cs.length=k) (hk2:ds.length=k) (h1:cs.all AV.one=true) (h2:ds.all AV.one=true) (hsm:2*k≤16777216) :
  OpOk P o A [] H new (.own k ⟨new,[]⟩ 0 2) [.one ⟨new,[]⟩ (some ⟨k,[cs,ds]⟩)]:=by
 have:=OpOk.buildSlice (P:=P) (H:=H) (new:=new) (A:=A) [x,y] ho rfl rfl hsm (by intro p hp;simp at hp;rcases hp with rfl|rfl<;>simp only[hx,hy,hv,hu]<;>assumption) (by intro p hp;simp at hp;rcases hp with rfl|rfl<;>simp only[hx,hy,hv,hu]<;>assumption)
 simpa [hx,hy,hv,hu] using this
end
theorem unAt [Mode] {H:Heap}{l:Loc}{k:Nat}{R:List (List (List D))}{i:Nat}{x:List (List D)} (hx:R[i]? = some x):(W.un l fun l'=>(matG l k R 0 l').map some).app H (l.at i)=some (dobj k x):=by
 simp only[W.app,Loc.cov_at,if_true,matG_at,hx,Option.map_some]
theorem heapX_heapL [Mode] {ms:List MI}{l:Loc}:∀ {hs:HL},l∈hs.map (·.1)→heapX hs ms l=heapL hs l
 | [],h=>by simp at h
 | p :: r,h=>by
  simp only[heapX,heapL,upd]
  split
  ·rfl
  ·rename_i hne
   exact heapX_heapL (by simpa [hne] using h)
theorem heapX_not [Mode] {ms:List MI}{l:Loc}:∀ {hs:HL},l∉hs.map (·.1)→heapX hs ms l=heapM ms l
 | [],_=>rfl
 | p :: r,h=>by
  simp only[List.map_cons,List.mem_cons,not_or] at h
  simp only[heapX,upd,h.1,if_false]
  exact heapX_not h.2
theorem heapM_sep [Mode] {ms:List MI}{l:Loc} (h:∀ m∈ms,m.l.cov l=false):heapM ms l=none:=by
 cases hh:heapM ms l with
 | none=>rfl
 | some ob=>
  obtain ⟨m,hm,hc,_⟩:=heapM_some hh
  rw[h m hm] at hc;cases hc
section
variable {P : Program} {o : Oper} {A : Operand → AV} {H : Heap} {new : Nat} {fo : Operand} {xs : List Operand} {ts : Array TypeId} {f : FuncId} {caps args : List AV} {res res' : AV}
theorem OpOk.callSX [Mode] (hs:HL) (ms:List MI) (ho:o.op = .call { callee:=.value fo,args:=xs.toArray,argTypes:=ts }) [FnBody P f] (hfo:A fo = .clo (.func f) [] caps) (hc:AC P f args (heapL hs) res (heapX hs ms))
  (hH:∀ p∈hs,H p.1=heapL hs p.1) (hok:HOk hs) (hsep:∀ m∈ms,∀ p∈hs,m.l.cov p.1=false) (hargs:ARs H (fun _=>False) id (·∈hs.map (·.1)) args (xs.map A++caps)) (hr:rn (emb id (hs.map (·.1)) new) res=res') :
  OpOk P o A (hs.map (·.1)) H new res' [.all new fun sub=>heapM (reML new ms) ⟨new,sub⟩]:=by
 subst hr
 have hsep':∀ l∈hs.map (·.1),∀ m∈ms,m.l.cov l=false:=fun l hl m hm=>by
  obtain ⟨p,hp,rfl⟩:=List.mem_map.1 hl
  exact hsep m hm p hp
 have hemb:∀ l,l∈hs.map (·.1)→emb id (hs.map (·.1)) new l=l:=fun l hl=>by unfold emb;rw[if_pos hl];rfl
 refine OpOk.callGen (P:=P) (o:=o) (A:=A) (H:=H) (new:=new) (fun _=>False) (hs.map (·.1)) id (hs.map (·.1)) (fun _ h=>h.elim) (fun l hl=>.mem (by first|(simp;done)|simpa using hl)) ho hfo hc (fun l=>heapL_iff) (fun l _ l' _ e=>e) (fun l _ h=>h)
  (fun l ob hob=>by
   have hl:=heapL_iff.1 (by rw[hob];simp:heapL hs l≠none)
   obtain ⟨p,hp,rfl,rfl⟩:=heapL_mem hob
   refine ⟨p.2.2,(hH p hp).trans hob,rfl,rfl,fun i r r' hr hr'=>?_⟩
   rw[hr] at hr';cases hr'
   refine ⟨rfl,fun j c c' hc' hc2=>?_⟩
   rw[hc'] at hc2;cases hc2
   exact (hok p hp r (List.mem_of_getElem? hr) c (List.mem_of_getElem? hc')).ar) (.inl fun _ h=>h) hargs (fun H2 h2 h3=>?_)
 have hH2:∀ l,l∈hs.map (·.1)→H2 l=heapL hs l:=fun l hl=>by
  obtain ⟨p,hp,rfl⟩:=List.mem_map.1 hl
  exact (h3 p.1 hl).trans (hH p hp)
 have hid:∀ l,l∈hs.map (·.1)→l.id≠new:=fun l hl e=>by
  have h4:=heapL_iff.2 hl
  rw[← hH2 l hl] at h4
  exact h4 (by obtain ⟨id,sub⟩:=l;simp only at e;subst e;exact h2 sub)
 funext l
 simp only[upds,W.app,merge]
 cases hf:(hs.map (·.1)).find? (fun lc=>id lc == l) with
 | some lc=>
  have hlc:=List.mem_of_find?_eq_some hf
  have he:lc=l:=by have:=List.find?_some hf;simpa using this
  subst he
  rw[if_neg (hid lc hlc)]
  simp only
  rw[hH2 lc hlc,heapX_heapL hlc]
  cases hob:heapL hs lc with
  | none=>rfl
  | some ob=>
   obtain ⟨p,hp,rfl,rfl⟩:=heapL_mem hob
   simp only[Option.map_some]
   congr 1
   exact (rnO_ok hok hemb hp).symm
 | none=>
  simp only
  split
  ·rename_i e
   obtain ⟨id',sub⟩:=l
   simp only at e
   subst e
   cases sub with
   | nil=>exact heapX_nosub (hs:=[]) (ms:=ms)
   | cons i s=>
    have h5:=heapM_relo (new:=id') (ms:=ms) (l:=⟨i,s⟩)
    have h6:heapM (reML id' ms) ⟨id',i :: s⟩=(heapM ms ⟨i,s⟩).map (rnO (relo id')):=h5
    simp only
    rw[h6]
    split
    ·rename_i hl
     rw[heapM_sep (hsep' _ hl)];rfl
    ·rename_i hl
     rw[heapX_not hl]
     cases hob:heapM ms ⟨i,s⟩ with
     | none=>rfl
     | some ob=>
      simp only[Option.map_some]
      congr 1
      obtain ⟨m,hm,_,⟨_,rfl⟩|⟨j,r,_,_,rfl⟩⟩:=heapM_some hob
      ·rw[rnO_outer (f':=fun j=>relo id' (m.l.at j)) (fun j _=>rfl),rnO_outer (f':=fun j=>relo id' (m.l.at j)) (fun j _=>?_)]
       have hn:m.l.at j∉hs.map (·.1):=fun h=>by
        have:=hsep' _ h m hm
        rw[Loc.cov_at] at this;cases this
       unfold emb
       rw[if_neg hn];rfl
      ·rw[rnO_dobj,rnO_dobj]
  ·rfl
end
end
section
open Go Go.RowKit
theorem Le.same [Mode] {C:Ctx}{fr fr':List AV}{H H':Heap}{n n':Nat} (hH:∀ l,H l=H' l) (hok:∀ l ob,H' l=some ob→∀ r∈ob.rows,∀ c∈r,Locs (fun l=>H' l≠none) c) (hfr:ARs H (fun _=>False) id (fun l=>H' l≠none) fr' fr) (hn:∀ l,H' l≠none→l.id<n') (hD:∀ l,C.D0 l→l.id<n'):Le C ⟨fr,H,n⟩ ⟨fr',H',n'⟩:=by
 have e:H=H':=funext hH
 subst e
 refine Le.tell (fun _=>False) id hfr (fun l ob h=>⟨ob,h,rfl,rfl,fun i r r' hr hr'=>?_⟩) (fun l l' _ _ e=>e) (fun l _ h=>h) hn (fun l h=>⟨hD l h,rfl⟩)
 rw[hr] at hr';cases hr'
 refine ⟨rfl,fun j c c' hc hc'=>?_⟩
 rw[hc] at hc';cases hc'
 exact (hok l ob h r (List.mem_of_getElem? hr) c (List.mem_of_getElem? hc)).ar
section
variable {P : Program} {o : Oper} {A : Operand → AV} {H : Heap} {new : Nat} {fo : Operand} {xs : List Operand} {ts : Array TypeId} {f : FuncId} {caps args : List AV} {res res' : AV}
end
end
section
open Go Go.RowKit
abbrev Oo:AV:=.dead
section
variable {P : Program} {C : Ctx} {ops : Array Oper} {Q : Exit → AS → Prop} {rest : List Oper} {fr : List AV} {H : Heap} {n t : Nat} {op : Op} {ty : TypeId} {pos : String} {after : Array Edge}
variable {n0 i : Nat} {Z : List AV → Heap → List TO → Prop} {acc : List TO}
def NA [Mode] (P:Program) (C:Ctx) (ops:Array Oper) (Q:Exit→AS→Prop) (rest:List Oper) (fr:List AV) (H:Heap) (n:Nat):Prop:=AL P C ops Q rest ⟨fr,H,n⟩
def ND [Mode] (P:Program) (ops:Array Oper) (n0:Nat) (Z:List AV→Heap→List TO→Prop) (i:Nat) (rest:List Oper) (fr:List AV) (H:Heap) (acc:List TO):Prop:=AD P ops n0 Z i rest fr H acc
def NC [Mode] (P:Program) (C:Ctx) (ops:Array Oper) (Q:Exit→AS→Prop) (rest:List Oper) (fr:List AV) (H:Heap) (n:Nat):Prop:=AL P C ops Q rest ⟨fr,H,n⟩
def NE [Mode] (P:Program) (ops:Array Oper) (n0:Nat) (Z:List AV→Heap→List TO→Prop) (i:Nat) (rest:List Oper) (fr:List AV) (H:Heap) (acc:List TO):Prop:=AD P ops n0 Z i rest fr H acc
theorem Ba [Mode] {reads:List Loc}{val:AV}{wr:List W} (h1:OpOk P ⟨some t,op,ty,pos,after,none⟩ (evalF fr) reads H n val wr) (h2:NA P C ops Q rest (fr.set t val) (upds H wr) (n+1)):AL P C ops Q (⟨some t,op,ty,pos,after,none⟩ :: rest) ⟨fr,H,n⟩:=AL.st h1 rfl rfl rfl h2
theorem Bb [Mode] {reads:List Loc}{val:AV}{wr:List W}{g:Nat}{want:Bool}{u:Nat} (hg:(ops[g]?).bind (·.dst)=some u) (hf:fr[u]? = some (Bo want)) (h1:OpOk P ⟨some t,op,ty,pos,after,some (g,want)⟩ (evalF fr) reads H n val wr) (h2:NA P C ops Q rest (fr.set t val) (upds H wr) (n+1)) :
  AL P C ops Q (⟨some t,op,ty,pos,after,some (g,want)⟩ :: rest) ⟨fr,H,n⟩:=AL.on hg hf h1 rfl rfl rfl h2
theorem Bc [Mode] {new:Nat}{reads:List Loc}{val:AV}{wr:List W} (hnew:n0+i=new) (h1:OpOk P ⟨some t,op,ty,pos,after,none⟩ (evalF fr) reads H new val wr) (h2:ND P ops n0 Z (i+1) rest (fr.set t val) (upds H wr) (acc++[⟨i,⟨some t,op,ty,pos,after,none⟩,⟨val,reads,wr,true⟩⟩])):AD P ops n0 Z i (⟨some t,op,ty,pos,after,none⟩ :: rest) fr H acc:=AD.st hnew h1 rfl rfl rfl h2
theorem Bd [Mode] {new:Nat}{reads:List Loc}{val:AV}{wr:List W}{g:Nat}{want:Bool}{u:Nat} (hg:(ops[g]?).bind (·.dst)=some u) (hf:fr[u]? = some (Bo want)) (hnew:n0+i=new) (h1:OpOk P ⟨some t,op,ty,pos,after,some (g,want)⟩ (evalF fr) reads H new val wr) (h2:ND P ops n0 Z (i+1) rest (fr.set t val) (upds H wr) (acc++[⟨i,⟨some t,op,ty,pos,after,some (g,want)⟩,⟨val,reads,wr,true⟩⟩])):AD P ops n0 Z i (⟨some t,op,ty,pos,after,some (g,want)⟩ :: rest) fr H acc:=AD.on hg hf hnew h1 rfl rfl rfl h2
theorem Ca [Mode] {reads:List Loc}{val:AV}{wr:List W} (h1:OpOk P ⟨none,op,ty,pos,after,none⟩ (evalF fr) reads H n val wr) (h2:NC P C ops Q rest fr (upds H wr) (n+1)):AL P C ops Q (⟨none,op,ty,pos,after,none⟩ :: rest) ⟨fr,H,n⟩:=AL.st0 h1 rfl rfl h2
theorem Cb [Mode] {new:Nat}{reads:List Loc}{val:AV}{wr:List W} (hnew:n0+i=new) (h1:OpOk P ⟨none,op,ty,pos,after,none⟩ (evalF fr) reads H new val wr) (h2:NE P ops n0 Z (i+1) rest fr (upds H wr) (acc++[⟨i,⟨none,op,ty,pos,after,none⟩,⟨val,reads,wr,true⟩⟩])):AD P ops n0 Z i (⟨none,op,ty,pos,after,none⟩ :: rest) fr H acc:=AD.st0 hnew h1 rfl rfl h2
theorem Na [Mode] {val:AV}{wr:List W}{fr':List AV}{H':Heap}{n':Nat} (h:AL P C ops Q rest ⟨fr',H',n'⟩) (e1:fr.set t val=fr':=by simp only[List.set_cons_succ,List.set_cons_zero,List.take_succ_cons,List.drop_succ_cons,List.take_zero,List.drop_zero,List.take_nil,List.drop_nil,List.map_cons,List.map_nil];exact rfl) (e2:upds H wr=H':=by first|exact updsE|exact rfl) (e3:n+1=n':=by first|(simp only[Nat.reduceAdd];exact rfl)|exact rfl):NA P C ops Q rest (fr.set t val) (upds H wr) (n+1):=by subst e1 e2 e3;exact h
theorem Nb [Mode] {val:AV}{wr:List W}{fr':List AV}{H':Heap}{i':Nat} (h:AD P ops n0 Z i' rest fr' H' acc) (e1:fr.set t val=fr':=by simp only[List.set_cons_succ,List.set_cons_zero,List.take_succ_cons,List.drop_succ_cons,List.take_zero,List.drop_zero,List.take_nil,List.drop_nil,List.map_cons,List.map_nil];exact rfl) (e2:upds H wr=H':=by first|exact updsE|exact rfl) (e3:i+1=i':=by first|(simp only[Nat.reduceAdd];exact rfl)|exact rfl):ND P ops n0 Z (i+1) rest (fr.set t val) (upds H wr) acc:=by subst e1 e2 e3;exact h
theorem Nc [Mode] {wr:List W}{H':Heap}{n':Nat} (h:AL P C ops Q rest ⟨fr,H',n'⟩) (e2:upds H wr=H':=by exact rfl) (e3:n+1=n':=by first|(simp only[Nat.reduceAdd];exact rfl)|exact rfl):NC P C ops Q rest fr (upds H wr) (n+1):=by subst e2 e3;exact h
theorem Nd [Mode] {wr:List W}{H':Heap}{i':Nat} (h:AD P ops n0 Z i' rest fr H' acc) (e2:upds H wr=H':=by exact rfl) (e3:i+1=i':=by first|(simp only[Nat.reduceAdd];exact rfl)|exact rfl):NE P ops n0 Z (i+1) rest fr (upds H wr) acc:=by subst e2 e3;exact h
theorem Oa [Mode] {fr':List AV}{n':Nat}{g:Nat}{want:Bool}{v:Value}{u:Nat} (h2:AL P C ops Q rest ⟨fr',H,n'⟩) (hg:(ops[g]?).bind (·.dst)=some u:=by exact rfl) (hf:fr[u]? = some (.d (.v v)):=by exact rfl) (hb:(boolV v == some want)=false:=by exact rfl) (hfr:fr.set t (.d (.v undef))=fr':=by simp only[List.set_cons_succ,List.set_cons_zero,List.take_succ_cons,List.drop_succ_cons,List.take_zero,List.drop_zero,List.take_nil,List.drop_nil,List.map_cons,List.map_nil];exact rfl) (hn:n+1=n':=by first|(simp only[Nat.reduceAdd];exact rfl)|exact rfl) :
  AL P C ops Q (⟨some t,op,ty,pos,after,some (g,want)⟩ :: rest) ⟨fr,H,n⟩:=AL.off hg hf hb hfr hn h2
theorem Ob [Mode] {fr':List AV}{i':Nat}{g:Nat}{want:Bool}{v:Value}{u:Nat} (h2:AD P ops n0 Z i' rest fr' H (acc++[⟨i,⟨some t,op,ty,pos,after,some (g,want)⟩,⟨.d (.v undef),[],[],false⟩⟩])) (hg:(ops[g]?).bind (·.dst)=some u:=by exact rfl) (hf:fr[u]? = some (.d (.v v)):=by exact rfl) (hb:(boolV v == some want)=false:=by exact rfl) (hfr:fr.set t (.d (.v undef))=fr':=by simp only[List.set_cons_succ,List.set_cons_zero,List.take_succ_cons,List.drop_succ_cons,List.take_zero,List.drop_zero,List.take_nil,List.drop_nil,List.map_cons,List.map_nil];exact rfl) (hi:i+1=i':=by first|(simp only[Nat.reduceAdd];exact rfl)|exact rfl) :
  AD P ops n0 Z i (⟨some t,op,ty,pos,after,some (g,want)⟩ :: rest) fr H acc:=AD.off hg hf hb hfr hi h2
theorem Ga [Mode] {g:Nat}{want:Bool}{u:Nat}{dst:Option Tmp}{p:Prop} [Decidable p] (h1:p→AL P C ops Q (⟨dst,op,ty,pos,after,some (g,want)⟩ :: rest) ⟨fr.set u (Bo true),H,n⟩) (h0:¬ p→AL P C ops Q (⟨dst,op,ty,pos,after,some (g,want)⟩ :: rest) ⟨fr.set u (Bo false),H,n⟩) (hg:(ops[g]?).bind (·.dst)=some u:=by exact rfl) (hf:fr[u]? = some (Bo (decide p)):=by exact rfl) :
  AL P C ops Q (⟨dst,op,ty,pos,after,some (g,want)⟩ :: rest) ⟨fr,H,n⟩:=AL.gsplit hg hf h1 h0
theorem Gd [Mode] {g:Nat}{want:Bool}{u:Nat}{dst:Option Tmp}{p:Prop} [Decidable p] (h1:p→AD P ops n0 Z i (⟨dst,op,ty,pos,after,some (g,want)⟩ :: rest) (fr.set u (Bo true)) H acc) (h0:¬ p→AD P ops n0 Z i (⟨dst,op,ty,pos,after,some (g,want)⟩ :: rest) (fr.set u (Bo false)) H acc) (hg:(ops[g]?).bind (·.dst)=some u:=by exact rfl) (hf:fr[u]? = some (Bo (decide p)):=by exact rfl) :
  AD P ops n0 Z i (⟨dst,op,ty,pos,after,some (g,want)⟩ :: rest) fr H acc:=AD.gsplit hg hf h1 h0
attribute [irreducible] NA ND NC NE
end
section
variable {P : Program} {C : Ctx} {Q : Exit → AS → Prop} {s : AS} {x y : Code} {c : Operand}
theorem Wa [Mode] (h1:AW P C x Q s) (hc:evalF s.fr c=Bo true:=by exact rfl):AW P C (.cond c x y) Q s:=AW.condT hc h1
theorem Wb [Mode] (h1:AW P C y Q s) (hc:evalF s.fr c=Bo false:=by exact rfl):AW P C (.cond c x y) Q s:=AW.condF hc h1
end
section
variable {P : Program} {C : Ctx} {Q : Exit → AS → Prop} {K : AS → Prop} {ops : Array Oper} {fr fr' : List AV} {H : Heap} {n : Nat} {s : AS} {id id' : Nat} {x y : Code}
theorem Fa [Mode] {n0 i n':Nat}{acc:List TO} (h:Q .normal ⟨fr',H,n'⟩) (hn:n=n':=by simp only[List.length_cons,List.length_nil,Nat.reduceAdd];rfl) (hfr:fr=fr':=by exact rfl) (hp:allPairs ops acc=true:=by kernel_rfl):AD P ops n0 (fun fr H tr=>allPairs ops tr=true∧Q .normal ⟨fr,H,n⟩) i [] fr H acc:=AD.fin hn hfr hp h
theorem Fb [Mode] {l:List Oper} (h:AD P l.toArray n (fun fr H tr=>allPairs l.toArray tr=true∧Q .normal ⟨fr,H,n+l.length⟩) 0 l fr H []) (hm:P.follows .mixedOrders=true:=by exact mixedA) (ht:textOk l.toArray=true:=by kernel_rfl):AW P C (.region id l.toArray true) Q ⟨fr,H,n⟩:=AW.dr hm ht h
theorem Fc [Mode] (h:Q (.exit id') s) (hne:id'≠id:=by decide):blockQ id Q (.exit id') s:=blockY hne h
theorem Qa [Mode] (h:Q .normal s):AL P C ops Q [] s:=AL.nil h
theorem Qb [Mode] (h:K s):thenQ K Q .normal s:=h
theorem Qc [Mode] (h:AW P C x (thenQ (AW P C y Q) Q) s):AW P C (.seq x y) Q s:=AW.seq h
theorem Qd [Mode] {l:List Oper} (h:AL P C l.toArray Q l ⟨fr,H,n⟩):AW P C (.region id l.toArray false) Q ⟨fr,H,n⟩:=AW.reg h
theorem Qe [Mode] (h:AW P C x (blockQ id Q) s):AW P C (.block id x) Q s:=AW.block h
theorem Qf [Mode] (h:Q .ret s):AW P C .ret Q s:=AW.ret h
theorem Qg [Mode] (h:Q (.exit id) s):AW P C (.exit id) Q s:=AW.exit h
theorem Qh [Mode] (h:Q .normal s):AW P C .skip Q s:=AW.skip h
theorem Qi [Mode] (h:Q .ret s):thenQ K Q .ret s:=h
theorem Xa [Mode] (h:Q (.exit id) s):thenQ K Q (.exit id) s:=h
theorem Xb [Mode] (h:Q .normal s):blockQ id Q .normal s:=h
theorem Xc [Mode] (h:Q .ret s):blockQ id Q .ret s:=h
theorem Xd [Mode] (h:Q .normal s):blockQ id Q (.exit id) s:=blockX h
end
theorem Sx [Mode] {p q:Prop} (h:q) (e:q→p:=by first|exact fun h=>Na h|exact fun h=>Nb h|exact fun h=>Nc h|exact fun h=>Nd h|exact fun h=>Oa h|exact fun h=>Ob h|exact Qa|exact Qb|exact Qc|exact Qd|exact Qe|exact fun h=>Fa h|exact fun h=>Fb h|exact fun h=>Wa h|exact fun h=>Wb h|exact Qf|exact Qg|exact Qh|exact Qi|exact Xa|exact Xb|exact Xc|exact Xd|exact fun h=>Fc h):p:=e h
theorem Sy [Mode] {p q r a b:Prop} (h1:a→q) (h0:b→r) (e:(a→q)→(b→r)→p:=by first|exact fun h1 h0=>Ga h1 h0|exact fun h1 h0=>Gd h1 h0|exact fun h1 h0=>AW.ite rfl h1 h0):p:=e h1 h0
theorem Sz [Mode] {p q r a b:Prop} (h1:a→q) (h0:b→r) (e:(a→q)→(b→r)→p:=by first|exact fun h1 h0=>AL.gsplitB rfl rfl h1 h0|exact fun h1 h0=>AD.gsplitB rfl rfl h1 h0|exact fun h1 h0=>AW.cond _ rfl h1 h0):p:=e h1 h0
section
variable {P : Program} {o : Oper} {A : Operand → AV} {H : Heap} {new : Nat} {fo : Operand} {xs : List Operand} {ts : Array TypeId} {f : FuncId} {caps args : List AV} {res res' : AV} {lent : List Loc} {cs cs' vs vs' : List AV}
theorem Kz [Mode] (ho:o.op = .call { callee:=.value fo,args:=xs.toArray,argTypes:=ts }) [FnBody P f] (hfo:A fo = .clo (.func f) [] caps) (hc:AC P f args H0 res H0) (hargs:ARs H (Cov []) id (fun _=>False) args (xs.map A++caps)) (hrn:∀ g,rn g res=res:=by intro _;simp[Go.Proofs.YtkpoclbnnpglfaaGreat.rn]):OpOk P o A [] H new res []:=OpOk.call0 [] ho hfo hc (.inl rfl) hrn hargs
theorem Ez [Mode] (ho:o.op = .call { callee:=.value fo,args:=xs.toArray,argTypes:=ts }) [FnBody P f] (hfo:A fo = .clo (.func f) [] caps) (hc:AC P f args H0 res H0) (hargs:CA H lent args (xs.map A++caps)) (hfree:FreeF res:=by first|exact free_rowsPl|exact free_rowsEd|exact free_rowsG (fun _=>rfl)|(repeat' (first|exact FreeF.own _ _ _ _|exact FreeF.v _|refine FreeF.tup ?_|refine FreeF.agg ?_|refine FreeF.cons ?_ ?_|exact FreeF.nil))) (hrn:∀ g,rn g res=res:=by intro _;simp[Go.Proofs.YtkpoclbnnpglfaaGreat.rn]):OpOk P o A lent H new res []:=Ok.c0 ho hfo hc hargs hfree hrn
theorem Eo [Mode] {ob:AObj} (ho:o.op = .call { callee:=.value fo,args:=xs.toArray,argTypes:=ts }) [FnBody P f] (hfo:A fo = .clo (.func f) [] caps) (hc:AC P f args H0 res (upd H0 ⟨0,[]⟩ (some ob))) (hargs:CA H lent args (xs.map A++caps)) (hfree:FreeF res:=by first|exact free_rowsPl|exact free_rowsEd|exact free_rowsG (fun _=>rfl)|(repeat' (first|exact FreeF.own _ _ _ _|exact FreeF.v _|refine FreeF.tup ?_|refine FreeF.agg ?_|refine FreeF.cons ?_ ?_|exact FreeF.nil))) (hf':∀ r∈ob.rows,∀ c∈r,FreeF c:=by first|exact free_rowsPl|exact free_rowsEd|exact free_rowsG (fun _=>rfl)|(repeat' (first|exact FreeF.own _ _ _ _|exact FreeF.v _|refine FreeF.tup ?_|refine FreeF.agg ?_|refine FreeF.cons ?_ ?_|exact FreeF.nil))) (hrn:∀ g,rnO g ob=ob:=by intro _;first|exact rnO_dobj _ _ _|(simp[rnO_dobj];done))
  (hr:rn (fun l=>⟨new,l.id :: l.sub⟩) res=res':=by simp only[Go.Proofs.YtkpoclbnnpglfaaGreat.rn,List.map_cons,List.map_nil];exact rfl):OpOk P o A lent H new res' [.one ⟨new,[0]⟩ (some ob)]:=Ok.c1 ho hfo hc hargs hfree hf' hrn hr
theorem Tb [Mode] {ms:List MI} (ho:o.op = .call { callee:=.value fo,args:=xs.toArray,argTypes:=ts }) [FnBody P f] (hfo:A fo = .clo (.func f) [] caps) (hc:AC P f args H0 res (heapX [] ms)) (hargs:CA H lent args (xs.map A++caps)) (hfree:FreeF res:=by first|exact free_rowsPl|exact free_rowsEd|exact free_rowsG (fun _=>rfl)|(repeat' (first|exact FreeF.own _ _ _ _|exact FreeF.v _|refine FreeF.tup ?_|refine FreeF.agg ?_|refine FreeF.cons ?_ ?_|exact FreeF.nil))) (hf2:AllP (fun m=>plainR m.R) ms:=by exact ⟨TR_plain,trivial⟩) (hr:rn (relo new) res=res':=by simp only[Go.Proofs.YtkpoclbnnpglfaaGreat.rn,List.map_cons,List.map_nil];exact rfl) :
  OpOk P o A lent H new res' [.all new fun sub=>heapX (reHL new []) (reML new ms) ⟨new,sub⟩]:=OpOk.callX [] ms ho hfo hc hargs hfree trivial hf2 hr
theorem Zf [Mode] (ho:o.op = .call { callee:=.value fo,args:=xs.toArray,argTypes:=ts }) [FnBody P f] (hfo:A fo = .clo (.func f) [] caps) (hc:AC P f args H0 res H0) (hargs:CA H lent args (xs.map A++caps)) (hd:dataB res=true:=by exact rfl):OpOk P o A lent H new res (lent.map dropW):=OpOk.callZ ho hfo hc hargs (dataB_ok hd)
theorem Sn [Mode]:CA H [] [] []:=CA.nil
theorem Sd [Mode] {x:D} (h:CA H lent cs vs):CA H lent (.d x :: cs) (.d x :: vs):=CA.d h
theorem Sw [Mode] {k n:Nat}{l:Loc}{rows:List (List D)} (h:CA H lent cs vs) (hl:H l=some (dobj k rows):=by exact rfl) (hn:rows.length=n:=by first|rfl|(simp;done)|(simp[mksE_len,mksP_len];done)|(simp[rowF_len];done)):CA H (l :: lent) (.d (.sl k rows) :: cs) (.own k l 0 n :: vs):=CA.w hl hn h
theorem Sm [Mode] {l:Loc}{n:Nat}{R:List (List (List D))} (h:CA H lent cs vs) (h1:H l=some (outer l.at 1 R 0):=by exact rfl) (h2:∀ i x,R[i]? = some x→H (l.at i)=some (dobj 1 x):=by first|exact fun i x hx=>congrArg (Option.map (dobj 1)) hx|exact fun i x hx=>unAt hx) (hn:R.length=n:=by first|rfl|assumption|(simp;done)|(simp;omega)|(simp[mkAt_len];done)) :
  CA H (l :: lent) (.d (.sl 1 (mRows 1 R)) :: cs) (.own 1 l 0 n :: vs):=CA.m ⟨h1,h2⟩ hn h
theorem Sa [Mode] {lent':List Loc} (h':CA H lent' cs' vs') (h:CA H lent cs vs):CA H (lent'++lent) (.agg cs' :: cs) (.agg vs' :: vs):=CA.a h' h
theorem An [Mode] {l:Loc→Prop}{τ:Loc→Loc}{L:Loc→Prop}:ARs H l τ L [] []:=ARs.nil
theorem Ad [Mode] {l:Loc→Prop}{τ:Loc→Loc}{L:Loc→Prop}{x:D} (h:ARs H l τ L cs vs):ARs H l τ L (.d x :: cs) (.d x :: vs):=ARs.cons (AR.dd x) h
theorem Aa [Mode] {l:Loc→Prop}{τ:Loc→Loc}{L:Loc→Prop} (h':ARs H l τ L cs' vs') (h:ARs H l τ L cs vs):ARs H l τ L (.agg cs' :: cs) (.agg vs' :: vs):=ARs.cons (ARs.agg h') h
theorem Cg [Mode] {α:Type}{R:List α}{g:α→AObj} (i:Nat) (x:α) (hx:R[i]? = some x):Option.map g R[i]? = some (g x):=congrArg (Option.map g) hx
end
theorem Lc [Mode] {p:Prop} (h:p:=by first|exact trivial|exact ARs.nil|exact AR.dead _|exact AR.dd _|exact AR.i (by (try dsimp only);omega)|exact AR.ptr _ _ _ _ (by first|(simp[heapL,upd];done)|(simp[heapX,upd];done)|(simp[heapX,heapM,upd,matG,Loc.cov,Loc.at];done)|(simp[heapX,heapM,upd,matG,Loc.cov,Loc.at,tabF_len,TR_len,rowF_len,IR_len];done)|(simp[heapX,heapM,upd,matG,Loc.cov,Loc.at];omega)|(simp[heapX,heapM,upd,matG,Loc.cov,Loc.at,tabF_len,TR_len,rowF_len,IR_len];omega))|exact AR.own _ _ _ _ (by first|(simp[heapL,upd];done)|(simp[heapX,upd];done)|(simp[heapX,heapM,upd,matG,Loc.cov,Loc.at];done)|(simp[heapX,heapM,upd,matG,Loc.cov,Loc.at,tabF_len,TR_len,rowF_len,IR_len];done)|(simp[heapX,heapM,upd,matG,Loc.cov,Loc.at];omega)|(simp[heapX,heapM,upd,matG,Loc.cov,Loc.at,tabF_len,TR_len,rowF_len,IR_len];omega))|exact ObA.data|exact AR.clo' ARs.nil ARs.nil|exact AR.clo' ARs.nil (hca _ _)|exact AR.whole rfl (by simp) (by first|rfl|assumption|(simp;done)) |
 exact AR.tab ⟨rfl,fun i x hx=>congrArg (Option.map (dobj 1)) hx⟩ (by first|rfl|assumption|(simp;done)|(simp;omega)) (by simp[Cov,Loc.cov];done) (by intro i;simp[Cov,Loc.cov,Loc.at];done)|exact AR.d (DRel.nil _)):p:=h
section
variable {H : Heap} {lent : Loc → Prop} {τ : Loc → Loc} {L : Loc → Prop}
theorem Lo [Mode] {k off n n':Nat}{l:Loc} (hn:n=n') (h:L l:=by first|(simp[heapL,upd];done)|(simp[heapX,upd];done)|(simp[heapX,heapM,upd,matG,Loc.cov,Loc.at];done)|(simp[heapX,heapM,upd,matG,Loc.cov,Loc.at,tabF_len,TR_len,rowF_len,IR_len];done)|(simp[heapX,heapM,upd,matG,Loc.cov,Loc.at];omega)|(simp[heapX,heapM,upd,matG,Loc.cov,Loc.at,tabF_len,TR_len,rowF_len,IR_len];omega)):AR H lent τ L (.own k l off n) (.own k (τ l) off n'):=AR.ownE k l off hn h
theorem La [Mode] {c c':AV}{cs cs':List AV} (h:AR H lent τ L c c') (h':ARs H lent τ L cs cs'):ARs H lent τ L (c :: cs) (c' :: cs'):=ARs.cons h h'
end
theorem Lx [Mode] {p q:Prop} (h:q) (e:q→p:=by first|exact fun h=>ObA.box h|exact fun h=>ObA.frE h|exact fun h=>ObA.dataE h|exact fun h=>ARs.agg h|exact fun h=>ARs.tup h|exact fun h=>AR.b h|exact fun h=>AR.iE h|exact fun h=>AR.e h|exact fun h=>AR.clo' ARs.nil h):p:=e h
theorem Ld [Mode] {p:Prop} (h:p:=by first|exact fun l h=>absurd h (hD l)|(intro l h;rcases hD l h with rfl;simp[tauL];done)|(intro l h;rcases hD l h with rfl|rfl<;>simp[tauL];done)|(intro l h;rcases hD l h with rfl|rfl|rfl<;>simp[tauL];done)|(simp[AllP];done)|(intro l h;rcases hD l h with rfl;simp[tauX,tauM,Loc.cov];done)|(intro l h;rcases hD l h with rfl|rfl<;>simp[tauX,tauM,Loc.cov];done)|(intro l h;rcases hD l h with rfl|⟨i,rfl⟩<;>simp[tauX,tauM,Loc.cov,Loc.at,MI.row];done)):p:=h
section
variable {P : Program} {C : Ctx} {fr : List AV} {H : Heap} {n : Nat}
theorem Ya [Mode] {fn:Func}{res res' c:AV}{H':Heap}{e:Exit}{rv:ResultVar} (hle:Le C ⟨[res'],H,n⟩ ⟨[res],H',1000⟩) (he:e = .ret∨e = .normal:=by first|exact .inl rfl|exact .inr rfl) (hr:fn.results.toList=[rv]:=by exact rfl) (h:ResOf P fr H rv c:=by first|exact rT rfl|exact rCA rfl rfl rfl rfl (by simp)|exact rCC rfl rfl rfl rfl rfl) (hc:c=res':=by first|(simp only[List.take_succ_cons,List.take_zero,List.take_nil,List.drop_succ_cons,List.drop_zero,List.drop_nil,AV.cells];exact rfl)|exact rfl):EndQ P C fn res H' e ⟨fr,H,n⟩:=end1 he hr h hc hle
theorem Yb [Mode] {fn:Func}{res res' c c':AV}{H':Heap}{e:Exit}{rv rv':ResultVar} (hle:Le C ⟨[res'],H,n⟩ ⟨[res],H',1000⟩) (he:e = .ret∨e = .normal:=by first|exact .inl rfl|exact .inr rfl) (hr:fn.results.toList=[rv,rv']:=by exact rfl) (h:ResOf P fr H rv c:=by first|exact rT rfl|exact rCA rfl rfl rfl rfl (by simp)|exact rCC rfl rfl rfl rfl rfl) (h':ResOf P fr H rv' c':=by first|exact rT rfl|exact rCA rfl rfl rfl rfl (by simp)|exact rCC rfl rfl rfl rfl rfl) (hc : .tup [c,c']=res':=by first|(simp only[List.take_succ_cons,List.take_zero,List.take_nil,List.drop_succ_cons,List.drop_zero,List.drop_nil,AV.cells];exact rfl)|exact rfl):EndQ P C fn res H' e ⟨fr,H,n⟩:=end2 he hr h h' hc hle
end
end
section
open Go Go.RowKit
section
variable {P : Program} {o : Oper} {A : Operand → AV} {H : Heap} {new : Nat}
end
theorem free_rowsPl [Mode] {xs:List Pl}:∀ r∈(dobj 4 (xs.map Pl.row)).rows,∀ c∈r,FreeF c:=by
 intro r hr c hc
 simp only[dobj,List.map_map,List.mem_map,Function.comp_def,Pl.row] at hr
 obtain ⟨x,_,rfl⟩:=hr
 simp at hc
 rcases hc with rfl|rfl|rfl|rfl<;>exact FreeF.v _
theorem free_rowsEd [Mode] {xs:List Ed}:∀ r∈(dobj 6 (xs.map Ed.row)).rows,∀ c∈r,FreeF c:=by
 intro r hr c hc
 simp only[dobj,List.map_map,List.mem_map,Function.comp_def,Ed.row] at hr
 obtain ⟨x,_,rfl⟩:=hr
 simp at hc
 rcases hc with rfl|rfl|rfl|rfl|rfl|rfl<;>exact FreeF.v _
theorem FreeF.cons [Mode] {a:AV}{r:List AV} (h:FreeF a) (h':∀ c∈r,FreeF c):∀ c∈a :: r,FreeF c:=fun c hc=>by
 rcases List.mem_cons.1 hc with rfl|hc
 ·exact h
 ·exact h' c hc
theorem FreeF.nil [Mode]:∀ c∈([]:List AV),FreeF c:=fun c hc=>by cases hc
def mkP (k:Int) (i:Nat):Pl:=⟨k+4*i,k+4*i+1,k+4*i+1+1,k+4*i+1+1+1⟩
def mkE (k:Int) (i:Nat):Ed:=⟨k+6*i,k+6*i+1,⟨k+6*i+1+1,k+6*i+1+1+1,k+6*i+1+1+1+1,k+6*i+1+1+1+1+1⟩⟩
def mksP (k:Int) (n:Nat):List Pl:=(List.range n).map (mkP k)
def mksE (k:Int) (n:Nat):List Ed:=(List.range n).map (mkE k)
theorem mksP_len [Mode] (k:Int) (n:Nat):(mksP k n).length=n:=by simp[mksP]
theorem mksE_len [Mode] (k:Int) (n:Nat):(mksE k n).length=n:=by simp[mksE]
end
section
open Go Go.RowKit
section
variable {P : Program} {o : Oper} {A : Operand → AV} {H : Heap} {new : Nat}
end
end
section
open Go Go.RowKit
section
variable {P : Program} {o : Oper} {A : Operand → AV} {H : Heap} {new : Nat} {fo : Operand} {xs : List Operand} {ts : Array TypeId} {f : FuncId} {caps args : List AV} {res res' : AV}
end
end
section
open Go Go.RowKit
section
variable {P : Program} {o : Oper} {A : Operand → AV} {H : Heap} {new : Nat}
theorem OpOk.nilCheck [Mode] {x:Operand}{k i j:Nat}{l:Loc} (ho:o.op = .nilCheck x) (hx:A x = .ptr k l i j):OpOk P o A [] H new (.ptr k l i j) []:=
 .still [] fun ι F w H1 ρ _ _ hv=>by
  have h1:=hv x (by simp[ho,Op.operands])
  rw[hx] at h1
  obtain ⟨b,sz,e,hp⟩:=h1.ptr_inv
  exact ⟨.pointer (some ⟨b,i*k+j,none⟩),by simp[execOp,ho,hp],.ptr k l i j b sz e⟩
end
section
variable {P : Program} {o : Oper} {A : Operand → AV} {H : Heap} {new : Nat} {fo : Operand} {xs : List Operand} {ts : Array TypeId} {f : FuncId} {caps args : List AV} {res res' : AV}
theorem emb_one [Mode] {l:Loc}{new:Nat}{l':Loc} (h:l'≠⟨0,[]⟩):emb (fun _=>l) [⟨0,[]⟩] new l'=relo new l':=by
 unfold emb relo;rw[if_neg (by simpa using h)]
theorem OpOk.callMX [Mode] (hs:HL) (ms:List MI) {l:Loc}{k k':Nat}{rows rows':List (List D)} (ho:o.op = .call { callee:=.value fo,args:=xs.toArray,argTypes:=ts }) [FnBody P f] (hfo:A fo = .clo (.func f) [] caps)
  (hc:AC P f args (upd H0 ⟨0,[]⟩ (some (dobj k rows))) res (upd (heapX hs ms) ⟨0,[]⟩ (some (dobj k' rows')))) (hl:H l=some (dobj k rows)) (hargs:ARs H (fun _=>False) (fun _=>l) (· = ⟨0,[]⟩) args (xs.map A++caps))
  (hf1:AllP (fun p=>(∀ g,rnO g p.2.2=p.2.2)∧p.1.id≠0) hs) (hf2:AllP (fun m=>m.l.id≠0) ms) (hr:rn (emb (fun _=>l) [⟨0,[]⟩] new) res=res') :
  OpOk P o A [l] H new res' [.all new (fun sub=>heapX (reHL new hs) (reML new ms) ⟨new,sub⟩),.one l (some (dobj k' rows'))]:=by
 subst hr
 refine OpOk.callGen (P:=P) (o:=o) (A:=A) (H:=H) (new:=new) (fun _=>False) [l] (fun _=>l) [⟨0,[]⟩] (fun _ h=>h.elim) (fun l hl=>.mem (by first|(simp;done)|simpa using hl)) ho hfo hc (fun l'=>by
   by_cases e:l'=⟨0,[]⟩
   ·subst e;rw[upd_same];simp
   ·simp[upd_ne e,e]) (fun l1 h1 l2 h2 _=>by simp at h1 h2;rw[h1,h2]) (fun _ _ h=>h) (fun l' ob hob=>by
   by_cases e:l'=⟨0,[]⟩
   ·subst e;rw[upd_same] at hob;cases hob
    exact ⟨_,hl,ObA.data (H:=H) (lent:=fun _=>False) (τ:=fun _=>l) (L:=fun _=>True) |>.1,rfl,fun i r r' hr hr'=>⟨(ObA.data (H:=H) (lent:=fun _=>False) (τ:=fun _=>l) (L:=(·∈[(⟨0,[]⟩:Loc)]) )).2.2 i r r' hr hr' |>.1,(ObA.data (H:=H) (lent:=fun _=>False) (τ:=fun _=>l) (L:=(·∈[(⟨0,[]⟩:Loc)]) )).2.2 i r r' hr hr' |>.2⟩⟩
   ·rw[upd_ne e] at hob;cases hob) (.inl fun _ h=>h) (by simpa using hargs) (fun H1 h1 h2=>?_)
 have hlid:l.id≠new:=fun e=>by
  have h3:=h2 ⟨0,[]⟩ (by simp)
  rw[hl] at h3
  obtain ⟨a,b⟩:=l
  simp only at e;subst e
  rw[h1] at h3;cases h3
 funext l'
 simp only[upds,W.app,merge,upd,List.find?_cons,List.find?_nil]
 by_cases e:l'=l
 ·subst e
  simp only[beq_self_eq_true,if_true,Option.map_some]
  rw[rnO_dobj]
 ·rw[if_neg e,show (l == l')=false by simp[Ne.symm e]]
  simp only
  obtain ⟨id',sub⟩:=l'
  by_cases e2:id'=new
  ·subst e2
   simp only[if_true]
   cases sub with
   | nil=>exact heapX_nosub
   | cons i s=>
    simp only
    have h3:=heapX_relo (new:=id') (l:=⟨i,s⟩) (ms:=ms) (hs:=hs) (fun p hp=>(hf1.all p hp).1)
    have h4:heapX (reHL id' hs) (reML id' ms) ⟨id',i :: s⟩=(heapX hs ms ⟨i,s⟩).map (rnO (relo id')):=h3
    rw[h4]
    by_cases e3:(⟨i,s⟩:Loc)=⟨0,[]⟩
    ·rw[if_pos (by simp[e3]),e3]
     cases hh:heapX hs ms ⟨0,[]⟩ with
     | none=>rfl
     | some ob=>
      exfalso
      rcases heapX_some hh with ⟨p,hp,e4,_⟩|⟨m,hm,hc,_⟩
      ·exact (hf1.all p hp).2 (by rw[e4])
      ·exact hf2.all m hm (Loc.cov_id hc)
    ·rw[if_neg (by simpa using e3),if_neg e3]
     cases hh:heapX hs ms ⟨i,s⟩ with
     | none=>rfl
     | some ob=>
      simp only[Option.map_some]
      congr 1
      rcases heapX_some hh with ⟨p,hp,e5,rfl⟩|⟨m,hm,hc,⟨e5,rfl⟩|⟨j,x,_,hx,rfl⟩⟩
      ·rw[(hf1.all p hp).1,(hf1.all p hp).1]
      ·rw[rnO_outer (f':=fun j=>relo id' (m.l.at j)) (fun j _=>rfl),rnO_outer (f':=fun j=>relo id' (m.l.at j)) (fun j _=>?_)]
       exact emb_one fun e=>hf2.all m hm (by have:=congrArg Loc.id e;simpa [Loc.at] using this)
      ·rw[rnO_dobj,rnO_dobj]
  ·simp[e2]
def two (l l2:Loc):Loc→Loc:=fun x=>if x=⟨0,[]⟩ then l else l2
theorem OpOk.callM2 [Mode] {l l2:Loc}{k k' k2:Nat}{rows rows' rows2:List (List D)}{y:Value} (ho:o.op = .call { callee:=.value fo,args:=xs.toArray,argTypes:=ts }) [FnBody P f] (hfo:A fo = .clo (.func f) [] caps)
  (hc:AC P f args (upd (upd H0 ⟨1,[]⟩ (some (dobj k2 rows2))) ⟨0,[]⟩ (some (dobj k rows))) res (upd H0 ⟨0,[]⟩ (some (dobj k' rows')))) (hl:H l=some (dobj k rows)) (hl2:H l2=some (dobj k2 rows2)) (hne:l≠l2) (hres:res = .d (.v y))
  (hargs:ARs H (fun _=>False) (two l l2) (·∈[(⟨0,[]⟩:Loc),⟨1,[]⟩]) args (xs.map A++caps)):OpOk P o A [l,l2] H new res [.one l2 none,.one l (some (dobj k' rows'))]:=by
 have t0:two l l2 ⟨0,[]⟩=l:=if_pos rfl
 have t1:two l l2 ⟨1,[]⟩=l2:=if_neg (by decide)
 have hfn:∀ c,res=c→rn (emb (two l l2) [⟨0,[]⟩,⟨1,[]⟩] new) c=res:=fun c h=>by subst h;rw[hres,rn]
 have h:=OpOk.callGen (P:=P) (o:=o) (A:=A) (H:=H) (new:=new) (wr:=[.one l2 none,.one l (some (dobj k' rows'))]) (fun _=>False) [l,l2] (two l l2) [⟨0,[]⟩,⟨1,[]⟩] (fun _ h=>h.elim) (fun l' hl'=>.mem (by simp at hl';rcases hl' with rfl|rfl<;>simp[t0,t1])) ho hfo hc (fun l'=>by
   by_cases e:l'=⟨0,[]⟩
   ·subst e;rw[upd_same];simp
   ·rw[upd_ne e]
    by_cases e2:l'=⟨1,[]⟩
    ·subst e2;rw[upd_same];simp
    ·simp[upd_ne e2,e,e2]) (fun a h1 b h2 e=>by
   simp at h1 h2
   rcases h1 with rfl|rfl<;>rcases h2 with rfl|rfl
   ·rfl
   ·rw[t0,t1] at e;exact absurd e hne
   ·rw[t0,t1] at e;exact absurd e.symm hne
   ·rfl) (fun _ _ h=>h) (fun l' ob hob=>by
   by_cases e:l'=⟨0,[]⟩
   ·subst e;rw[upd_same] at hob;cases hob
    exact ⟨_,by rw[t0];exact hl,ObA.data (H:=H) (lent:=fun _=>False) (τ:=fun _=>l) (L:=fun _=>True) |>.1,rfl,fun i r r' hr hr'=>⟨(ObA.data (H:=H) (lent:=fun _=>False) (τ:=two l l2) (L:=(·∈[(⟨0,[]⟩:Loc),⟨1,[]⟩]) )).2.2 i r r' hr hr' |>.1,(ObA.data (H:=H) (lent:=fun _=>False) (τ:=two l l2) (L:=(·∈[(⟨0,[]⟩:Loc),⟨1,[]⟩]) )).2.2 i r r' hr hr' |>.2⟩⟩
   ·rw[upd_ne e] at hob
    by_cases e2:l'=⟨1,[]⟩
    ·subst e2;rw[upd_same] at hob;cases hob
     exact ⟨_,by rw[t1];exact hl2,ObA.data (H:=H) (lent:=fun _=>False) (τ:=fun _=>l) (L:=fun _=>True) |>.1,rfl,fun i r r' hr hr'=>⟨(ObA.data (H:=H) (lent:=fun _=>False) (τ:=two l l2) (L:=(·∈[(⟨0,[]⟩:Loc),⟨1,[]⟩]) )).2.2 i r r' hr hr' |>.1,(ObA.data (H:=H) (lent:=fun _=>False) (τ:=two l l2) (L:=(·∈[(⟨0,[]⟩:Loc),⟨1,[]⟩]) )).2.2 i r r' hr hr' |>.2⟩⟩
    ·rw[upd_ne e2] at hob;cases hob) (.inl fun _ h=>h) hargs (fun H1 h1 h2=>by
   funext l'
   simp only[upds,W.app,merge,upd,List.find?_cons,List.find?_nil,t0,t1]
   by_cases e:l'=l
   ·subst e
    simp only[beq_self_eq_true,if_true,Option.map_some]
    rw[rnO_dobj]
   ·rw[if_neg e,show (l == l')=false by simp[Ne.symm e]]
    simp only
    by_cases e2:l'=l2
    ·subst e2
     simp
    ·rw[if_neg e2,show (l2 == l')=false by simp[Ne.symm e2]]
     simp only
     obtain ⟨id',sub⟩:=l'
     by_cases e3:id'=new
     ·subst e3
      simp only[if_true]
      rw[h1]
      cases sub with
      | nil=>rfl
      | cons i s=>
       simp only
       split
       ·rfl
       ·rename_i hm
        rw[if_neg (fun e=>hm (by rw[e];simp))];rfl
     ·simp[e3])
 rwa [hfn res rfl] at h
end
end
section
open Go Go.RowKit
theorem Le.takeL [Mode] {C:Ctx}{fr:List AV}{H:Heap}{n:Nat} (l:Loc) (m:Nat) {k:Nat}{rows:List (List AV)} (hl:H l=some ⟨k,rows⟩):Le C ⟨fr,H,n⟩ ⟨fr,upd H l (some ⟨k,rows.take m⟩),n⟩:=by
 intro a w ⟨ι,F,hs,hfr,hd,hi,hU⟩
 have hne:∀ l',upd H l (some ⟨k,rows.take m⟩) l'≠none→H l'≠none:=fun l' h=>by
  by_cases e:l'=l
  ·subst e;rw[hl];simp
  ·rwa [upd_ne e] at h
 refine ⟨ι,F,⟨fun l' o ho=>?_,fun l1 l2 b s s' h1 h2=>hs.inj l1 l2 b s s' (hne _ h1) (hne _ h2),fun l' b s h=>hs.notF l' b s (hne _ h),hs.lt,hs.gl⟩,hfr,hd,⟨hi.step,hi.sub,hi.sup,fun l' b ⟨h1,h2⟩=>hi.own l' b ⟨hne _ h1,h2⟩,hi.keep⟩,hU⟩
 change upd H l (some ⟨k,rows.take m⟩) l'=some o at ho
 by_cases e:l'=l
 ·subst e
  rw[upd_same] at ho;cases ho
  rcases hs.obj _ _ hl with ⟨h1,h2⟩|⟨b,cs,T,h1,h2,h3,h4⟩
  ·simp only at h2
   exact .inl ⟨h1,by simp[h2]⟩
  ·refine .inr ⟨b,cs,T,h1,h2,?_,fun i r hr=>?_⟩
   ·simp only at h3 ⊢
    refine Nat.le_trans (Nat.mul_le_mul_right k ?_) h3
    rw[List.length_take];exact Nat.min_le_right _ _
   ·simp only[List.getElem?_take] at hr
    split at hr
    ·exact h4 i r hr
    ·cases hr
 ·rw[upd_ne e] at ho
  exact hs.obj l' o ho
section
variable {P : Program} {o : Oper} {A : Operand → AV} {H : Heap} {new : Nat} {fo : Operand} {xs : List Operand} {ts : Array TypeId} {f : FuncId} {caps args : List AV} {res res' : AV}
def thr (b p q:Loc):Loc→Loc:=fun x=>if x=⟨0,[]⟩ then b else if x=⟨1,[]⟩ then p else q
abbrev L3:List Loc:=[⟨0,[]⟩,⟨1,[]⟩,⟨2,[]⟩]
theorem dobj_ar [Mode] {H:Heap}{lent:Loc→Prop}{τ:Loc→Loc}{L:Loc→Prop}{k:Nat}{rows:List (List D)}:∀ (i:Nat) r r',(dobj k rows).rows[i]? = some r→(dobj k rows).rows[i]? = some r'→r.length=r'.length∧∀ (j:Nat) c c',r[j]? = some c→r'[j]? = some c'→AR H lent τ L c c':=
 fun i r r' hr hr'=>⟨(ObA.data (H:=H) (lent:=lent) (τ:=τ) (L:=L)).2.2 i r r' hr hr' |>.1,(ObA.data (H:=H) (lent:=lent) (τ:=τ) (L:=L)).2.2 i r r' hr hr' |>.2⟩
end
section
variable {P : Program} {o : Oper} {A : Operand → AV} {H : Heap} {new : Nat}
theorem Ok.sliceToO [Mode] {t e:TypeId}{x y:Operand}{k b n m:Nat}{i:Int}{z:Value}{l:Loc} (ho:o.op = .slice t x none (some y) none) [h:TySlice P t e k b z] (hx:A x = .own k l 0 n) (hy:A y=I i) (h0:0≤i) (h1:i.toNat=m) (h2:m≤n):OpOk P o A [] H new (.own k l 0 m) []:=by
 have:=OpOk.sliceO (P:=P) (H:=H) (new:=new) (A:=A) ho hx BndIs.none (BndIs.some hy h0 h1) (.inr rfl) h2 (Nat.zero_le _)
 simpa using this
end
end
section
open Go Go.RowKit
section
variable {P : Program} {o : Oper} {A : Operand → AV} {H : Heap} {new : Nat} {fo : Operand} {xs : List Operand} {ts : Array TypeId} {f : FuncId} {caps args : List AV} {res res' : AV}
theorem OpOk.callB3a [Mode] {b p q:Loc}{k m m' n:Nat}{ds ds':List AV}{rows rows' srows:List (List D)}{so:Option AObj}{x x':AV}{y:Value} (ho:o.op = .call { callee:=.value fo,args:=xs.toArray,argTypes:=ts }) [FnBody P f] (hfo:A fo = .clo (.func f) [] caps)
  (hc:AC P f args (upd (upd (upd H0 ⟨2,[]⟩ (some (dobj 1 srows))) ⟨1,[]⟩ (some (dobj 1 rows))) ⟨0,[]⟩ (some ⟨k,[ds++[.own 1 ⟨1,[]⟩ 0 m,.own 1 ⟨2,[]⟩ 0 n]]⟩)) res
   (upd (upd (upd H0 ⟨2,[]⟩ so) ⟨3,[]⟩ (some (dobj 1 rows'))) ⟨0,[]⟩ (some ⟨k,[ds'++[.own 1 ⟨3,[]⟩ 0 m',x]]⟩)))
  (hb:H b=some ⟨k,[ds++[.own 1 p 0 m,.own 1 q 0 n]]⟩) (hp:H p=some (dobj 1 rows)) (hq:H q=some (dobj 1 srows)) (hbp:b≠p) (hbq:b≠q) (hpq:p≠q) (hres:res = .d (.v y))
  (hso:∀ g,so.map (rnO g)=so) (hx:rn (emb (thr b p q) L3 new) x=x') (hargs:ARs H (fun _=>False) (thr b p q) (·∈L3) args (xs.map A++caps)) (hds:∀ c∈ds,∀ H lent τ L,AR H lent τ L c c) (hds':∀ c∈ds',∀ g,rn g c=c) :
  OpOk P o A [b,p,q] H new res [.one p none,.one q so,.one ⟨new,[3]⟩ (some (dobj 1 rows')),.one b (some ⟨k,[ds'++[.own 1 ⟨new,[3]⟩ 0 m',x']]⟩)]:=by
 have t0:thr b p q ⟨0,[]⟩=b:=if_pos rfl
 have t1:thr b p q ⟨1,[]⟩=p:=by unfold thr;rw[if_neg (by decide),if_pos rfl]
 have t2:thr b p q ⟨2,[]⟩=q:=by unfold thr;rw[if_neg (by decide),if_neg (by decide)]
 have hfn:∀ c,res=c→rn (emb (thr b p q) L3 new) c=res:=fun c h=>by subst h;rw[hres,rn]
 have h:=OpOk.callGen (P:=P) (o:=o) (A:=A) (H:=H) (new:=new) (wr:=[.one p none,.one q so,.one ⟨new,[3]⟩ (some (dobj 1 rows')),.one b (some ⟨k,[ds'++[.own 1 ⟨new,[3]⟩ 0 m',x']]⟩)]) (fun _=>False) [b,p,q] (thr b p q) L3 (fun _ h=>h.elim) (fun l' hl'=>.mem (by simp at hl';rcases hl' with rfl|rfl|rfl<;>simp[t0,t1,t2])) ho hfo hc (fun l'=>by
   simp only[upd]
   by_cases e:l'=⟨0,[]⟩
   ·simp[e]
   ·by_cases e1:l'=⟨1,[]⟩
    ·simp[e1]
    ·by_cases e2:l'=⟨2,[]⟩
     ·simp[e2]
     ·simp[e,e1,e2]) (fun a h1 c h2 e=>by
   simp at h1 h2
   rcases h1 with rfl|rfl|rfl<;>rcases h2 with rfl|rfl|rfl<;>simp only[t0,t1,t2] at e<;>first|rfl|exact absurd e hbp|exact absurd e hbq|exact absurd e hpq|exact absurd e.symm hbp|exact absurd e.symm hbq|exact absurd e.symm hpq) (fun _ _ h=>h) (fun l' ob hob=>by
   simp only[upd] at hob
   by_cases e:l'=⟨0,[]⟩
   ·subst e
    simp only[if_true,Option.some.injEq] at hob
    subst hob
    refine ⟨⟨k,[ds++[.own 1 p 0 m,.own 1 q 0 n]]⟩,by rw[t0];exact hb,rfl,rfl,fun i r r' hr hr'=>?_⟩
    cases i with
    | succ i=>simp at hr
    | zero=>
     simp only[List.getElem?_cons_zero,Option.some.injEq] at hr hr'
     subst hr;subst hr'
     refine ⟨by simp,fun j c c' hc1 hc2=>?_⟩
     by_cases hj:j<ds.length
     ·rw[List.getElem?_append_left hj] at hc1 hc2
      rw[hc1] at hc2;cases hc2
      exact hds _ (List.mem_of_getElem? hc1) _ _ _ _
     ·rw[List.getElem?_append_right (by omega)] at hc1 hc2
      generalize j - ds.length=jj at hc1 hc2
      match jj with
      | 0=>
       simp only[List.getElem?_cons_zero,Option.some.injEq] at hc1 hc2
       subst hc1;subst hc2
       have:=AR.own (H:=H) (lent:=fun _=>False) (τ:=thr b p q) (L:=(·∈L3)) 1 ⟨1,[]⟩ 0 m (by simp)
       rwa [t1] at this
      | 1=>
       simp only[List.getElem?_cons_succ,List.getElem?_cons_zero,Option.some.injEq] at hc1 hc2
       subst hc1;subst hc2
       have:=AR.own (H:=H) (lent:=fun _=>False) (τ:=thr b p q) (L:=(·∈L3)) 1 ⟨2,[]⟩ 0 n (by simp)
       rwa [t2] at this
      | jj+2=>simp at hc1
   ·simp only[e,if_false] at hob
    by_cases e1:l'=⟨1,[]⟩
    ·subst e1
     simp only[if_true,Option.some.injEq] at hob
     subst hob
     exact ⟨dobj 1 rows,by rw[t1];exact hp,rfl,rfl,dobj_ar⟩
    ·simp only[e1,if_false] at hob
     by_cases e2:l'=⟨2,[]⟩
     ·subst e2
      simp only[if_true,Option.some.injEq] at hob
      subst hob
      exact ⟨dobj 1 srows,by rw[t2];exact hq,rfl,rfl,dobj_ar⟩
     ·simp[e2] at hob) (.inl fun _ h=>h) hargs (fun H1 h1 h2=>by
   have hid:∀ l',l'∈L3→(thr b p q l').id≠new:=fun l' hl' e=>by
    have h3:=h2 l' hl'
    have h4:H (thr b p q l')≠none:=by
     simp at hl'
     rcases hl' with rfl|rfl|rfl
     ·rw[t0,hb];simp
     ·rw[t1,hp];simp
     ·rw[t2,hq];simp
    rw[← h3] at h4
    exact h4 (by generalize thr b p q l'=z at *;obtain ⟨id,sub⟩:=z;simp only at e;subst e;exact h1 sub)
   have i0:b.id≠new:=by have:=hid ⟨0,[]⟩ (by simp);rwa [t0] at this
   have i1:p.id≠new:=by have:=hid ⟨1,[]⟩ (by simp);rwa [t1] at this
   have i2:q.id≠new:=by have:=hid ⟨2,[]⟩ (by simp);rwa [t2] at this
   have hrow:rnO (emb (thr b p q) L3 new) ⟨k,[ds'++[.own 1 ⟨3,[]⟩ 0 m',x]]⟩=⟨k,[ds'++[.own 1 ⟨new,[3]⟩ 0 m',x']]⟩:=by
    have e3:emb (thr b p q) L3 new ⟨3,[]⟩=⟨new,[3]⟩:=by unfold emb;rw[if_neg (by decide)]
    simp only[rnO,List.map_cons,List.map_nil,List.map_append,rn,e3,hx]
    rw[(List.map_congr_left (fun c hc=>hds' c hc _):ds'.map (rn (emb (thr b p q) L3 new))=ds'.map id),List.map_id]
   funext l'
   simp only[upds,W.app,merge,upd,List.find?_cons,List.find?_nil,t0,t1,t2]
   by_cases e:l'=b
   ·subst e
    simp only[beq_self_eq_true,if_true,Option.map_some]
    rw[hrow]
   ·rw[if_neg e,show (b == l')=false by simp[Ne.symm e]]
    simp only
    by_cases e1:l'=p
    ·subst e1
     rw[if_neg (fun e=>i1 (by rw[e])),if_neg hpq]
     simp
    ·rw[show (p == l')=false by simp[Ne.symm e1]]
     simp only
     by_cases e2:l'=q
     ·subst e2
      rw[if_neg (fun e=>i2 (by rw[e])),if_pos rfl]
      simp[hso]
     ·rw[show (q == l')=false by simp[Ne.symm e2],if_neg e2,if_neg e1]
      simp only
      obtain ⟨id',sub⟩:=l'
      by_cases e3:id'=new
      ·subst e3
       simp only[if_true]
       cases sub with
       | nil=>rw[if_neg (by simp)];exact h1 _
       | cons i s=>
        simp only
        by_cases e4:(⟨i,s⟩:Loc)=⟨3,[]⟩
        ·simp only[Loc.mk.injEq] at e4
         obtain ⟨rfl,rfl⟩:=e4
         simp[rnO_dobj]
        ·rw[if_neg (fun e=>e4 (by simp only[Loc.mk.injEq,List.cons.injEq,true_and] at e;obtain ⟨rfl,rfl⟩:=e;rfl)),h1]
         split
         ·rfl
         ·rename_i hm
          have n0:¬ (⟨i,s⟩:Loc)=⟨0,[]⟩:=fun e=>hm (by rw[e];simp)
          have n2:¬ (⟨i,s⟩:Loc)=⟨2,[]⟩:=fun e=>hm (by rw[e];simp)
          simp[n0,n2,e4]
      ·rw[if_neg (fun e=>e3 (by simp at e;exact e.1)),if_neg e3])
 rwa [hfn res rfl] at h
end
section
variable {P : Program} {o : Oper} {A : Operand → AV} {H : Heap} {new : Nat}
end
end
section
open Go Go.RowKit
section
variable {P : Program} {C : Ctx} {fr : List AV} {H : Heap} {n : Nat}
end
end
section
open Go Go.RowKit
section
variable {P : Program} {C : Ctx} {fr : List AV} {H : Heap} {n : Nat}
end
end
section
open Go Go.RowKit
end
section
open Go Go.RowKit
theorem AC.frzIn [Mode] {P:Program}{f:FuncId}{args:List AV}{k:Nat}{rows:List (List D)}{res resD:AV}{H':Heap}{ob':AObj} (hc:AC P f args H0 res H') (h1:H' ⟨0,[]⟩=some ob') (hob:ObA H' (fun l=>l≠⟨0,[]⟩) id (fun l=>l=⟨0,[]⟩) (dobj k rows) ob')
  (hr:AR H' (fun l=>l≠⟨0,[]⟩) id (fun l=>l=⟨0,[]⟩) resD res):AC P f args H0 resD (upd H0 ⟨0,[]⟩ (some (dobj k rows))):=by
 intro ι F w vs hs hi hv
 refine (hc ι F w vs hs hi hv).mono ?_
 rintro e w' ⟨v,ι',F',rfl,hres,hs',hstep,hsub,hsup,hown,hkeep⟩
 have hH:∀ l o,upd H0 ⟨0,[]⟩ (some (dobj k rows)) l=some o→l=⟨0,[]⟩∧o=dobj k rows:=fun l o h=>by
  unfold upd at h;split at h
  ·rename_i he;exact ⟨he,by cases h;rfl⟩
  ·cases h
 have hH2:∀ l,upd H0 ⟨0,[]⟩ (some (dobj k rows)) l≠none→l=⟨0,[]⟩:=fun l h=>by
  unfold upd at h;split at h
  ·rename_i he;exact he
  ·exact absurd rfl h
 have hne:H' ⟨0,[]⟩≠none:=by rw[h1];simp
 refine ⟨v,ι',fun b=>F' b∨∃ l,l≠⟨0,[]⟩∧Owned ι' H' l b,rfl,hr.vr hs' (fun l hl=>by rfl) hres,⟨fun l o h=>?_,fun l l' b s s' h h' _ _=>(hH2 l h).trans (hH2 l' h').symm,fun l b s h e hF=>?_,fun b hb=>?_,hs'.gl.mono (fun _ h=>.inl h) (fun _ _=>rfl)⟩,hstep,fun b hb=>.inl (hsub b hb),fun b hb=>?_,fun b ⟨l,h,s,e⟩=>?_,hkeep⟩
 ·obtain ⟨rfl,rfl⟩:=hH l o h
  obtain ⟨hk,hrl,hrows⟩:=hob
  rcases hs'.obj _ ob' h1 with ⟨e,h2⟩|⟨b,cs,T,e,hb,hlen,h2⟩
  ·exact .inl ⟨e,List.length_eq_zero_iff.1 (by rw[← hrl,h2];rfl)⟩
  ·refine .inr ⟨b,cs,T,e,hb,by rw[← hrl,← hk];exact hlen,fun i r hr=>?_⟩
   have hil:=(List.getElem?_eq_some_iff.1 hr).1
   have hr':=List.getElem?_eq_getElem (l:=ob'.rows) (i:=i) (by omega)
   obtain ⟨h3,h4⟩:=h2 i _ hr'
   obtain ⟨h5,h6⟩:=hrows i r _ hr hr'
   refine ⟨by rw[h5,h3,hk],fun j c hc=>?_⟩
   have hj:=(List.getElem?_eq_some_iff.1 hc).1
   have hc':=List.getElem?_eq_getElem (l:=ob'.rows[i]) (i:=j) (by omega)
   obtain ⟨v,h7,h8⟩:=h4 j _ hc'
   rw[hk] at h7
   exact ⟨v,h7,(h6 j c _ hc hc').vr hs' (fun l hl=>by rfl) h8⟩
 ·obtain rfl:=hH2 l h
  rcases hF with hF|⟨l2,g1,g2,s2,e2⟩
  ·exact hs'.notF _ b s hne e hF
  ·exact g1 (hs'.inj _ _ b s2 s g2 hne e2 e)
 ·rcases hb with hb|⟨l,_,h,s,e⟩
  ·exact hs'.lt b hb
  ·exact hs'.blt h e
 ·rcases hb with hb|⟨l,_,h⟩
  ·exact hsup b hb
  ·exact .inr (hown b ⟨l,h⟩)
 ·obtain rfl:=hH2 l h
  exact hown b ⟨_,hne,s,e⟩
abbrev rwT (R:List (List (List D))):List (List D):=R.map fun r=>[D.sl 1 r]
theorem AC.frzR [Mode] {P:Program}{f:FuncId}{args:List AV}{n:Nat}{R:List (List (List D))} (hc:AC P f args H0 (.own 1 ⟨0,[]⟩ 0 n) (hpM 1 R)):AC P f args H0 (.own 1 ⟨0,[]⟩ 0 n) (upd H0 ⟨0,[]⟩ (some (dobj 1 (rwT R)))):=by
 refine AC.frzIn hc hpM_l ⟨rfl,by simp[outer_len,dobj],fun i r r' hr hr'=>?_⟩ (AR.own 1 ⟨0,[]⟩ 0 n rfl)
 have hi:i<R.length:=by have:=(List.getElem?_eq_some_iff.1 hr).1;simpa [dobj] using this
 have e1:r=[AV.d (D.sl 1 R[i])]:=by
  simp[dobj,hi] at hr;exact hr.symm
 rw[outer_lt (List.getElem?_eq_getElem hi)] at hr'
 cases hr'
 subst e1
 refine ⟨rfl,fun j c c' hc hc'=>?_⟩
 cases j with
 | succ j=>simp at hc
 | zero=>
  simp at hc hc';subst hc;subst hc'
  exact AR.whole (by rw[hpM_at,List.getElem?_eq_getElem hi];rfl) (by simp[Loc.at]) rfl
end
end Go.Proofs.YtkpoclbnnpglfaaGreat
