/-
  Walks in the abstract reading: l11Draw.
-/
import Derived.Test.YtkpoclbnnpglfaaGreatKqU13
set_option linter.unusedSimpArgs false
set_option linter.unusedVariables false
namespace Go.Proofs.YtkpoclbnnpglfaaGreat
open Go Go.RowKit
attribute [local irreducible] AL AD AW OpOk Le AC thenQ blockQ EndQ
section
variable {P : Program} {o : Oper} {A : Operand → AV} {H : Heap} {new : Nat}
theorem Ok.bs3 [Mode] {t e:TypeId}{k b:Nat}{z:Value}{x y w:Operand}{n1 n2 n3:Int} (ho:o.op = .buildSlice t 3 #[(0,x),(1,y),(2,w)]) [h:TySlice P t e k b z] (hx:A x=I n1) (hy:A y=I n2) (hw:A w=I n3) (hk:k=1) :
  OpOk P o A [] H new (.own k ⟨new,[]⟩ 0 3) [.one ⟨new,[]⟩ (some (IO [n1,n2,n3]))]:=by
 subst hk
 have:=OpOk.buildSlice (P:=P) (H:=H) (new:=new) (A:=A) [x,y,w] ho rfl rfl (by decide) (by intro p hp;simp at hp;rcases hp with rfl|rfl|rfl<;>simp only[hx,hy,hw]<;>rfl) (by intro p hp;simp at hp;rcases hp with rfl|rfl|rfl<;>simp only[hx,hy,hw]<;>rfl)
 simpa [hx,hy,hw,AV.cells,dobj] using this
theorem Nx [Mode] {fo x y:Operand}{ts:Array TypeId}{f:FuncId}{code:List Int}{s s':Src}{n a:Int} (hc:AC P f [Bx 3 0,I n] (srcH code s) (I a) (srcH code s')) (ho:o.op = .call { callee:=.value fo,args:=#[x,y],argTypes:=ts }) [FnBody P f] (hfo:A fo = .clo (.func f) [] [])
  (hx:A x=Bx 3 0) (hy:A y=I n) (hl:H ⟨0,[]⟩=some (srcO code s)):OpOk P o A [⟨0,[]⟩] H new (I a) [.one ⟨0,[]⟩ (some (srcO code s'))]:=
 OpOk.callM (xs:=[x,y]) ho hfo hc hl rfl (by
  show ARs _ _ _ _ _ [A x,A y]
  rw[hx,hy];exact .cons (AR.ptr 3 ⟨0,[]⟩ 0 0 rfl) (.cons (.dd _) .nil))
theorem Kx [Mode] {fo x y:Operand}{ts:Array TypeId}{f:FuncId}{code:List Int}{s s':Src}{m:Nat}{xs:List Int}{a:Int}{l:Loc} (hc:AC P f [Bx 3 0,.own 1 ⟨1,[]⟩ 0 m] (upd (upd H0 ⟨1,[]⟩ (some (IO xs))) ⟨0,[]⟩ (some (srcO code s))) (I a) (srcH code s')) (ho:o.op = .call { callee:=.value fo,args:=#[x,y],argTypes:=ts }) [FnBody P f] (hfo:A fo = .clo (.func f) [] [])
  (hx:A x=Bx 3 0) (hy:A y = .own 1 l 0 m) (hl:H ⟨0,[]⟩=some (srcO code s)) (hl2:H l=some (IO xs)) (hne:(⟨0,[]⟩:Loc)≠l):OpOk P o A [⟨0,[]⟩,l] H new (I a) [.one l none,.one ⟨0,[]⟩ (some (srcO code s'))]:=
 OpOk.callM2 (xs:=[x,y]) ho hfo hc hl hl2 hne rfl (by
  show ARs _ _ _ _ _ [A x,A y]
  rw[hx,hy]
  refine .cons ?_ (.cons ?_ .nil)
  ·have:=AR.ptr (H:=H) (lent:=fun _=>False) (τ:=two ⟨0,[]⟩ l) (L:=(·∈[(⟨0,[]⟩:Loc),⟨1,[]⟩])) 3 ⟨0,[]⟩ 0 0 (by simp)
   rwa [show two ⟨0,[]⟩ l ⟨0,[]⟩=⟨0,[]⟩ from if_pos rfl] at this
  ·have:=AR.own (H:=H) (lent:=fun _=>False) (τ:=two ⟨0,[]⟩ l) (L:=(·∈[(⟨0,[]⟩:Loc),⟨1,[]⟩])) 1 ⟨1,[]⟩ 0 m (by simp)
   rwa [show two ⟨0,[]⟩ l ⟨1,[]⟩=l from if_neg (by decide)] at this)
end
end Go.Proofs.YtkpoclbnnpglfaaGreat
