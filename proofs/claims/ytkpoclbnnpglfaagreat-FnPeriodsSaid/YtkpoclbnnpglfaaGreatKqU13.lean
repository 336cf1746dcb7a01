/-
  Walks in the abstract reading, part 13.
-/
import Derived.Test.YtkpoclbnnpglfaaGreatKqA3
import Derived.Test.YtkpoclbnnpglfaaGreatKqU1
import Derived.Test.YtkpoclbnnpglfaaGreatKqU2
import Derived.Test.YtkpoclbnnpglfaaGreatKqU4
set_option linter.unusedSimpArgs false
set_option linter.unusedVariables false
namespace Go.Proofs.YtkpoclbnnpglfaaGreat
section
open Go Go.RowKit
attribute [local irreducible] AL AD AW OpOk Le AC thenQ blockQ EndQ
structure Src where
 pos:Nat
 sd:Int
abbrev BR (code:List Int):List (List D):=code.map fun b=>[D.v (.int .u8 b)]
abbrev BD (code:List Int):D:=.sl 1 (BR code)
abbrev srcR (code:List Int) (s:Src):List (List D):=[[BD code,DI s.pos,DI s.sd]]
abbrev srcH (code:List Int) (s:Src):Heap:=hp1 (dobj 3 (srcR code s))
structure CodeOk (code:List Int):Prop where
 len:code.length≤4096
 b:∀ b∈code,0≤b∧b≤255
structure SrcOk (code:List Int) (s:Src):Prop where
 pos:s.pos≤code.length
 lo:0≤s.sd
 hi:s.sd<2147483647
def nxSd (sd:Int):Int:=(sd*48271+59).tmod 2147483647
def nxt (code:List Int) (s:Src) (n:Int):Int × Src:=
 if n≤1 then (0,s) else
 match code[s.pos]? with
 | none=>(((nxSd s.sd).tdiv 31).tmod n,⟨s.pos,nxSd s.sd⟩)
 | some b=>((if n≤256∧(s.pos+1) % 2=0 then b else (nxSd s.sd).tdiv 31+b).tmod n,⟨s.pos+1,nxSd s.sd⟩)
theorem tmod_in [Mode] {a n:Int} (ha:0≤a) (hn:0<n):0≤a.tmod n∧a.tmod n<n:=by
 rw[Int.tmod_eq_emod_of_nonneg ha]
 exact ⟨Int.emod_nonneg a (by omega),Int.emod_lt_of_pos a hn⟩
theorem nxSd_in [Mode] {sd:Int} (h:0≤sd):0≤nxSd sd∧nxSd sd<2147483647:=tmod_in (by omega) (by decide)
theorem div31 [Mode] {a:Int} (h:0≤a):0≤a.tdiv 31∧a.tdiv 31≤a:=by
 rw[Int.tdiv_eq_ediv_of_nonneg h];omega
theorem nxt_ok [Mode] {code:List Int} (hc:CodeOk code) {s:Src} (hs:SrcOk code s) (n:Int):0≤(nxt code s n).1∧(nxt code s n).1≤max (n - 1) 0∧SrcOk code (nxt code s n).2:=by
 have h1:=nxSd_in hs.lo
 have h2:=div31 h1.1
 unfold nxt
 by_cases hn:n≤1
 ·rw[if_pos hn]
  exact ⟨Int.le_refl 0,by simp only;omega,hs⟩
 ·rw[if_neg hn]
  cases hb:code[s.pos]? with
  | none=>
   have h3:=tmod_in (n:=n) h2.1 (by omega)
   exact ⟨h3.1,by simp only;omega,hs.pos,h1.1,h1.2⟩
  | some b=>
   have hp:=(List.getElem?_eq_some_iff.1 hb).1
   have h4:=hc.b b (List.mem_of_getElem? hb)
   have h3:=tmod_in (a:=if n≤256∧(s.pos+1) % 2=0 then b else (nxSd s.sd).tdiv 31+b) (n:=n) (by split<;>omega) (by omega)
   exact ⟨h3.1,by simp only;omega,by simp only;omega,h1.1,h1.2⟩
set_option maxHeartbeats 2000000 in
theorem l01Next_ac [Mode] (code:List Int) (hc:CodeOk code) (s:Src) (hs:SrcOk code s) (n:Int):AC Tryz.prog 60 [Bx 3 0,I n] (srcH code s) (I (nxt code s n).1) (srcH code (nxt code s n).2):=by
 have h1:=nxSd_in hs.lo
 have h2:=div31 h1.1
 have h3:=hs.lo
 have h4:=hs.hi
 have h5:=hs.pos
 have hl:(BR code).length=code.length:=List.length_map _
 have h6:=hc.len
 unfold nxt
 obtain ⟨pos,sd⟩:=s
 simp only at h1 h2 h3 h4 h5 ⊢
 show AC _ _ _ (heapL [(⟨0,[]⟩,⟨0,[]⟩,⟨3,[[.d (BD code),I pos,I sd]]⟩)]) _ _
 by_cases hn:n≤1
 ·rw[if_pos hn]
  refine AC.of_body 1 Tryz.func60 rfl (fun l h=>by simp[heapL,upd] at h;simp[h]) (fun C hC=>?_)
  simp only[startFr,Tryz.ntmps60,List.length_cons,List.length_nil,Nat.reduceAdd,Nat.reduceSub,List.replicate_succ,List.replicate_zero,List.cons_append,List.nil_append]
  have hD:∀ l,C.D0 l→l=⟨0,[]⟩:=fun l h=>by have:=(hC l).1 h;simp[heapL,upd] at this;exact this
  repeat' (first|((first|apply Ba|(apply Bb;(· rfl);(· rfl))|(apply Bc;(· exact nxE))|(apply Bd;(· rfl);(· rfl);(· exact nxE)));(· first|exact OpOk.nilCheck rfl rfl|exact Ok.rem rfl rfl rfl (by decide)|exact Ok.quo rfl rfl rfl (by decide) (by omega) (by omega)|exact Ok.convII rfl rfl Tryz.underlying2 (by rw[Tryz.underlying5];rfl) (wrap64_id (by omega) (by omega))|exact Ok.pe))|((first|apply Ca|(apply Cb;(· exact nxE)));(· first|exact Ok.e0))|refine Sx ?_|(refine Sy (fun h=>?_) (fun h=>?_)<;>try (exfalso;omega;done))|refine Sz (fun h=>?_) (fun h=>?_))
  (refine end1p (by first|exact .inl rfl|exact .inr rfl) rfl (by first|exact rT rfl|exact rCA rfl rfl rfl rfl (by simp)|exact rCC rfl rfl rfl rfl rfl) ?_ (Le.head ([(⟨0,[]⟩,⟨0,[]⟩,⟨3,[[.d (BD code),I pos,I sd]]⟩)]) (by first|exact fun l h=>absurd h (hD l)|(intro l h;rcases hD l h with rfl;simp[tauL])|(intro l h;rcases hD l h with rfl|rfl<;>simp[tauL];done)|(intro l h;rcases hD l h with rfl|rfl|rfl<;>simp[tauL])) ?_ ?_ (by simp) (by simp) (by simp[AllP]) (n':=1000));(· rfl))<;>(repeat' (first|exact trivial|exact ARs.nil|refine ARs.cons ?_ ?_|exact AR.dead _|exact AR.dd _|exact AR.i (by (try dsimp only);omega)|exact AR.ptr _ _ _ _ (by simp[heapL,upd])|exact AR.own _ _ _ _ (by simp[heapL,upd])|refine AR.ownE _ _ _ ?_ (by simp[heapL,upd])|refine ⟨⟨_,rfl,?_⟩,?_⟩|exact ObA.data|refine ObA.box ?_|refine ObA.frE ?_|refine ObA.dataE ?_|refine ARs.agg ?_|refine ARs.tup ?_|exact AR.clo' ARs.nil ARs.nil|exact AR.clo' ARs.nil (hca _ _)))
 ·rw[if_neg hn]
  unfold nxSd at *
  cases hb:code[pos]? with
  | none=>
   have hp:code.length≤pos:=by simpa using hb
   obtain rfl:pos=code.length:=by omega
   refine AC.of_body 1 Tryz.func60 rfl (fun l h=>by simp[heapL,upd] at h;simp[h]) (fun C hC=>?_)
   simp only[startFr,Tryz.ntmps60,List.length_cons,List.length_nil,Nat.reduceAdd,Nat.reduceSub,List.replicate_succ,List.replicate_zero,List.cons_append,List.nil_append]
   have hD:∀ l,C.D0 l→l=⟨0,[]⟩:=fun l h=>by have:=(hC l).1 h;simp[heapL,upd] at this;exact this
   repeat' (first|((first|apply Ba|(apply Bb;(· rfl);(· rfl))|(apply Bc;(· exact nxE))|(apply Bd;(· rfl);(· rfl);(· exact nxE)));(· first|exact Ok.rem rfl rfl rfl (by omega)|exact OpOk.nilCheck rfl rfl|exact Ok.rem rfl rfl rfl (by decide)|exact Ok.quo rfl rfl rfl (by decide) (by omega) (by omega)|exact Ok.convII rfl rfl Tryz.underlying2 (by rw[Tryz.underlying5];rfl) (wrap64_id (by omega) (by omega))|exact Ok.pe))|((first|apply Ca|(apply Cb;(· exact nxE)));(· first|exact Ok.e0))|refine Sx ?_|(refine Sy (fun h=>?_) (fun h=>?_)<;>try (exfalso;omega;done))|refine Sz (fun h=>?_) (fun h=>?_))
   (refine end1p (by first|exact .inl rfl|exact .inr rfl) rfl (by first|exact rT rfl|exact rCA rfl rfl rfl rfl (by simp)|exact rCC rfl rfl rfl rfl rfl) ?_ (Le.head ([(⟨0,[]⟩,⟨0,[]⟩,⟨3,[[.d (BD code),I code.length,I ((sd*48271+59).tmod 2147483647)]]⟩)]) (by first|exact fun l h=>absurd h (hD l)|(intro l h;rcases hD l h with rfl;simp[tauL])|(intro l h;rcases hD l h with rfl|rfl<;>simp[tauL];done)|(intro l h;rcases hD l h with rfl|rfl|rfl<;>simp[tauL])) ?_ ?_ (by simp) (by simp) (by simp[AllP]) (n':=1000));(· rfl))<;>(repeat' (first|exact trivial|exact ARs.nil|refine ARs.cons ?_ ?_|exact AR.dead _|exact AR.dd _|exact AR.i (by (try dsimp only);omega)|exact AR.ptr _ _ _ _ (by simp[heapL,upd])|exact AR.own _ _ _ _ (by simp[heapL,upd])|refine AR.ownE _ _ _ ?_ (by simp[heapL,upd])|refine ⟨⟨_,rfl,?_⟩,?_⟩|exact ObA.data|refine ObA.box ?_|refine ObA.frE ?_|refine ObA.dataE ?_|refine ARs.agg ?_|refine ARs.tup ?_|exact AR.clo' ARs.nil ARs.nil|exact AR.clo' ARs.nil (hca _ _)))
  | some b=>
   have hp:=(List.getElem?_eq_some_iff.1 hb).1
   have h7:=hc.b b (List.mem_of_getElem? hb)
   have hrow:(BR code)[((pos:Nat):Int).toNat]? = some [D.v (.int .u8 b)]:=by simp[hb]
   have hrow2:(BR code)[((pos:Nat):Int)+1 - 1 |>.toNat]? = some [D.v (.int .u8 b)]:=by simp[hb]
   have hm:((pos:Int)+1).tmod 2=(((pos+1) % 2:Nat):Int):=by rw[Int.tmod_eq_emod_of_nonneg (by omega)];omega
   refine AC.of_body 1 Tryz.func60 rfl (fun l h=>by simp[heapL,upd] at h;simp[h]) (fun C hC=>?_)
   simp only[startFr,Tryz.ntmps60,List.length_cons,List.length_nil,Nat.reduceAdd,Nat.reduceSub,List.replicate_succ,List.replicate_zero,List.cons_append,List.nil_append]
   have hD:∀ l,C.D0 l→l=⟨0,[]⟩:=fun l h=>by have:=(hC l).1 h;simp[heapL,upd] at this;exact this
   repeat' (first|((first|apply Ba|(apply Bb;(· rfl);(· rfl))|(apply Bc;(· exact nxE))|(apply Bd;(· rfl);(· rfl);(· exact nxE)));(· first|exact Ok.rem rfl rfl rfl (by omega)|exact OpOk.nilCheck rfl rfl|exact Ok.rem rfl rfl rfl (by decide)|exact Ok.quo rfl rfl rfl (by decide) (by omega) (by omega)|exact Ok.convII rfl rfl Tryz.underlying2 (by rw[Tryz.underlying5];rfl) (wrap64_id (by omega) (by omega))|exact Ok.pe))|((first|apply Ca|(apply Cb;(· exact nxE)));(· first|exact Ok.e0))|refine Sx ?_|(refine Sy (fun h=>?_) (fun h=>?_)<;>try (exfalso;omega;done))|refine Sz (fun h=>?_) (fun h=>?_))
   all_goals
    (refine end1p (by first|exact .inl rfl|exact .inr rfl) rfl (by first|exact rT rfl|exact rCA rfl rfl rfl rfl (by simp)|exact rCC rfl rfl rfl rfl rfl) ?_ (Le.head ([(⟨0,[]⟩,⟨0,[]⟩,⟨3,[[.d (BD code),I (pos+1:Nat),I ((sd*48271+59).tmod 2147483647)]]⟩)]) (by first|exact fun l h=>absurd h (hD l)|(intro l h;rcases hD l h with rfl;simp[tauL])|(intro l h;rcases hD l h with rfl|rfl<;>simp[tauL];done)|(intro l h;rcases hD l h with rfl|rfl|rfl<;>simp[tauL])) ?_ ?_ (by simp) (by simp) (by simp[AllP]) (n':=1000));(· first|(rw[if_pos ⟨by omega,by omega⟩];done)|(rw[if_neg (by omega)];done)|(simp;done)))<;>(repeat' (first|exact trivial|exact ARs.nil|refine ARs.cons ?_ ?_|exact AR.dead _|exact AR.dd _|exact AR.i (by (try dsimp only);omega)|exact AR.ptr _ _ _ _ (by simp[heapL,upd])|exact AR.own _ _ _ _ (by simp[heapL,upd])|refine AR.ownE _ _ _ ?_ (by simp[heapL,upd])|refine ⟨⟨_,rfl,?_⟩,?_⟩|exact ObA.data|refine ObA.box ?_|refine ObA.frE ?_|refine ObA.dataE ?_|refine ARs.agg ?_|refine ARs.tup ?_|exact AR.clo' ARs.nil ARs.nil|exact AR.clo' ARs.nil (hca _ _)))
def pick (code:List Int) (s:Src) (xs:List Int):Int:=(xs[(nxt code s xs.length).1.toNat]?).getD 0
set_option maxHeartbeats 2000000 in
theorem l01Pick_ac [Mode] (code:List Int) (hc:CodeOk code) (s:Src) (hs:SrcOk code s) (xs:List Int) (h0:0<xs.length) (hx:xs.length≤100):AC Tryz.prog 61 [Bx 3 0,.own 1 ⟨1,[]⟩ 0 xs.length] (upd (upd H0 ⟨1,[]⟩ (some (IO xs))) ⟨0,[]⟩ (some (dobj 3 (srcR code s)))) (I (pick code s xs)) (srcH code (nxt code s xs.length).2):=by
 have hN:=l01Next_ac code hc s hs xs.length
 obtain ⟨b1,b2,b3⟩:=nxt_ok hc hs xs.length
 unfold pick
 generalize nxt code s xs.length=q at *
 obtain ⟨i,s'⟩:=q
 simp only at *
 obtain ⟨j,rfl⟩:∃ j:Nat,i=j:=⟨i.toNat,by omega⟩
 obtain ⟨v,hv⟩:∃ v,xs[j]? = some v:=⟨xs[j]'(by omega),List.getElem?_eq_getElem (by omega)⟩
 have hcell:(IR xs)[j]? = some [DI v]:=by simp[hv]
 rw[show ((j:Int)).toNat=j from Int.toNat_natCast j,hv]
 show AC _ _ _ (heapL [(⟨0,[]⟩,⟨0,[]⟩,⟨3,[[.d (BD code),I s.pos,I s.sd]]⟩),(⟨1,[]⟩,⟨1,[]⟩,IO xs)]) (I v) _
 refine AC.of_body 2 Tryz.func61 rfl (fun l h=>by simp[heapL,upd] at h;(repeat' split at h)<;>simp_all) (fun C hC=>?_)
 simp only[startFr,Tryz.ntmps61,List.length_cons,List.length_nil,Nat.reduceAdd,Nat.reduceSub,List.replicate_succ,List.replicate_zero,List.cons_append,List.nil_append]
 have hD:∀ l,C.D0 l→l=⟨0,[]⟩∨l=⟨1,[]⟩:=fun l h=>by have:=(hC l).1 h;simp[heapL,upd] at this;(repeat' split at this)<;>simp_all
 repeat' (first|((first|apply Ba|(apply Bb;(· rfl);(· rfl))|(apply Bc;(· exact nxE))|(apply Bd;(· rfl);(· rfl);(· exact nxE)));(· first|exact Ok.ld1 rfl rfl rfl hcell|exact OpOk.nilCheck rfl rfl|exact Ok.rem rfl rfl rfl (by decide)|exact Ok.quo rfl rfl rfl (by decide) (by omega) (by omega)|exact Ok.convII rfl rfl Tryz.underlying2 (by rw[Tryz.underlying5];rfl) (wrap64_id (by omega) (by omega))|exact OpOk.callM rfl rfl hN rfl rfl (.cons (AR.ptr _ _ _ _ rfl) (.cons (.dd _) .nil))|exact Ok.pe))|((first|apply Ca|(apply Cb;(· exact nxE)));(· first|exact OpOk.callM rfl rfl hN rfl rfl (.cons (AR.ptr _ _ _ _ rfl) (.cons (.dd _) .nil))|exact Ok.e0))|refine Sx ?_|(refine Sy (fun h=>?_) (fun h=>?_)<;>try (exfalso;omega;done))|refine Sz (fun h=>?_) (fun h=>?_))
 (refine end1p (by first|exact .inl rfl|exact .inr rfl) rfl (by first|exact rT rfl|exact rCA rfl rfl rfl rfl (by simp)|exact rCC rfl rfl rfl rfl rfl) ?_ (Le.head ([(⟨0,[]⟩,⟨0,[]⟩,⟨3,[[.d (BD code),I s'.pos,I s'.sd]]⟩)]) (by first|exact fun l h=>absurd h (hD l)|(intro l h;rcases hD l h with rfl;simp[tauL])|(intro l h;rcases hD l h with rfl|rfl<;>simp[tauL];done)|(intro l h;rcases hD l h with rfl|rfl|rfl<;>simp[tauL])) ?_ ?_ (by simp) (by simp) (by simp[AllP]) (n':=1000));(· rfl))<;>(repeat' (first|exact trivial|exact ARs.nil|refine ARs.cons ?_ ?_|exact AR.dead _|exact AR.dd _|exact AR.i (by (try dsimp only);omega)|exact AR.ptr _ _ _ _ (by simp[heapL,upd])|exact AR.own _ _ _ _ (by simp[heapL,upd])|refine AR.ownE _ _ _ ?_ (by simp[heapL,upd])|refine ⟨⟨_,rfl,?_⟩,?_⟩|exact ObA.data|refine ObA.box ?_|refine ObA.frE ?_|refine ObA.dataE ?_|refine ARs.agg ?_|refine ARs.tup ?_|exact AR.clo' ARs.nil ARs.nil|exact AR.clo' ARs.nil (hca _ _)))
def sdF (code:List Int) (k:Nat):Int:=(code.take k).foldl (fun sd b=>(sd*67+b).tmod 2147483647) 61403
theorem sdF_in [Mode] {code:List Int} (hc:CodeOk code):∀ k,k≤code.length→0≤sdF code k∧sdF code k<2147483647
 | 0,_=>by simp[sdF]
 | k+1,hk=>by
  have ih:=sdF_in hc k (by omega)
  have hb:=hc.b code[k] (List.getElem_mem _)
  have e:sdF code (k+1)=(sdF code k*67+code[k]).tmod 2147483647:=by
   unfold sdF;rw[List.take_succ_eq_append_getElem (by omega),List.foldl_append];rfl
  rw[e]
  exact tmod_in (by omega) (by decide)
theorem sdF_succ [Mode] {code:List Int}{k:Nat}{b:Int} (h:code[k]? = some b):sdF code (k+1)=(sdF code k*67+b).tmod 2147483647:=by
 obtain ⟨hk,rfl⟩:=List.getElem?_eq_some_iff.1 h
 unfold sdF;rw[List.take_succ_eq_append_getElem hk,List.foldl_append];rfl
def src0 (code:List Int):Src:=⟨0,sdF code (min code.length 64)⟩
theorem src0_ok [Mode] {code:List Int} (hc:CodeOk code):SrcOk code (src0 code):=⟨Nat.zero_le _,(sdF_in hc _ (by omega)).1,(sdF_in hc _ (by omega)).2⟩
set_option maxHeartbeats 2000000 in
theorem l01From_ac [Mode] (code:List Int) (hc:CodeOk code):AC Tryz.prog 31 [.d (BD code)] H0 (Bx 3 0) (srcH code (src0 code)):=by
 have hl:(BR code).length=code.length:=List.length_map _
 have h6:=hc.len
 refine AC.of_body 0 Tryz.func31 rfl (fun l h=>absurd rfl h) (fun C hC=>?_)
 have hD:∀ l,¬ C.D0 l:=fun l h=>(hC l).1 h rfl
 simp only[startFr,Tryz.ntmps31,List.length_cons,List.length_nil,Nat.reduceAdd,Nat.reduceSub,List.replicate_succ,List.replicate_zero,List.cons_append,List.nil_append]
 repeat' (first|((first|apply Ba|(apply Bb;(· rfl);(· rfl))|(apply Bc;(· exact nxE))|(apply Bd;(· rfl);(· rfl);(· exact nxE)));(· first|exact OpOk.nilCheck rfl rfl|exact Ok.rem rfl rfl rfl (by decide)|exact Ok.quo rfl rfl rfl (by decide) (by omega) (by omega)|exact Ok.convII rfl rfl Tryz.underlying2 (by rw[Tryz.underlying5];rfl) (wrap64_id (by omega) (by omega))|exact Ok.pe))|((first|apply Ca|(apply Cb;(· exact nxE)));(· first|exact Ok.e0))|refine Sx ?_|(refine Sy (fun h=>?_) (fun h=>?_)<;>try (exfalso;omega;done))|refine Sz (fun h=>?_) (fun h=>?_))
 refine AW.loop (X:={k:Nat // k≤min code.length 64}) (fun k=>⟨[.d (BD code),Oo,Oo,Bx 3 0,I (k.1:Nat),Oo,Oo,Oo,Oo,Oo,Oo,Oo,Oo,Oo,Oo,Oo,Oo,Oo,Oo,Oo,Oo,Oo,Oo,Oo,Oo,Oo,Oo,Oo,Oo,Oo,Oo,Oo,Oo,Oo],heapL [(⟨0,[]⟩,⟨0,[]⟩,⟨3,[[.d (BD code),I 0,I (sdF code k.1)]]⟩)],900⟩) (fun k=>min code.length 64 - k.1) ⟨0,Nat.zero_le _⟩ ?_ (fun k=>?_)
 ·
  (apply Le.headZ [_] rfl)
  all_goals (try dsimp only[srcs])
  (case' hfr|hob=>(repeat' (first|refine La ?_ ?_|exact Lc|refine Lo ?_|refine ⟨⟨_,rfl,?_⟩,?_⟩|refine Lx ?_)))
  all_goals (first|(rfl)|exact Ld)
 obtain ⟨k,hk⟩:=k
 simp only
 by_cases hlt:k<min code.length 64
 ·obtain ⟨b,hb⟩:∃ b,code[k]? = some b:=⟨code[k]'(by omega),List.getElem?_eq_getElem (by omega)⟩
  have hrow:(BR code)[((k:Nat):Int).toNat]? = some [D.v (.int .u8 b)]:=by simp[hb]
  have h7:=hc.b b (List.mem_of_getElem? hb)
  have h8:=sdF_in hc k (by omega)
  have h9:=sdF_succ hb
  repeat' (first|((first|apply Ba|(apply Bb;(· rfl);(· rfl))|(apply Bc;(· exact nxE))|(apply Bd;(· rfl);(· rfl);(· exact nxE)));(· first|exact OpOk.nilCheck rfl rfl|exact Ok.rem rfl rfl rfl (by decide)|exact Ok.quo rfl rfl rfl (by decide) (by omega) (by omega)|exact Ok.convII rfl rfl Tryz.underlying2 (by rw[Tryz.underlying5];rfl) (wrap64_id (by omega) (by omega))|exact Ok.pe))|((first|apply Ca|(apply Cb;(· exact nxE)));(· first|exact Ok.e0))|refine Sx ?_|(refine Sy (fun h=>?_) (fun h=>?_)<;>try (exfalso;omega;done))|refine Sz (fun h=>?_) (fun h=>?_))
  refine ⟨⟨k+1,by omega⟩,?_,by simp only;omega⟩
  (apply Le.headZ [_] rfl)
  all_goals (try dsimp only[srcs])
  (case' hfr|hob=>(repeat' (first|refine La ?_ ?_|exact Lc|refine Lo ?_|refine ⟨⟨_,rfl,?_⟩,?_⟩|refine Lx ?_)))
  all_goals (first|((rw[h9];done))|exact Ld)
 ·obtain rfl:k=min code.length 64:=by omega
  repeat' (first|((first|apply Ba|(apply Bb;(· rfl);(· rfl))|(apply Bc;(· exact nxE))|(apply Bd;(· rfl);(· rfl);(· exact nxE)));(· first|exact OpOk.nilCheck rfl rfl|exact Ok.rem rfl rfl rfl (by decide)|exact Ok.quo rfl rfl rfl (by decide) (by omega) (by omega)|exact Ok.convII rfl rfl Tryz.underlying2 (by rw[Tryz.underlying5];rfl) (wrap64_id (by omega) (by omega))|exact Ok.pe))|((first|apply Ca|(apply Cb;(· exact nxE)));(· first|exact Ok.e0))|refine Sx ?_|(refine Sy (fun h=>?_) (fun h=>?_)<;>try (exfalso;omega;done))|refine Sz (fun h=>?_) (fun h=>?_))
  all_goals
   refine Ya ?_
   (apply Le.head [(⟨0,[]⟩,_,_)])
   (case' hfr|hob=>(repeat' (first|refine La ?_ ?_|exact Lc|refine Lo ?_|refine ⟨⟨_,rfl,?_⟩,?_⟩|refine Lx ?_)))
   all_goals (first|exact Ld|(rfl))
end
section
open Go Go.RowKit
attribute [local irreducible] AL AD AW OpOk Le AC thenQ blockQ EndQ
abbrev srcO (code:List Int) (s:Src):AObj:=dobj 3 (srcR code s)
theorem next_ex [Mode] {code:List Int} (hc:CodeOk code) {s:Src} (hs:SrcOk code s) (n:Int):∃ a s',0≤a∧a≤max (n - 1) 0∧SrcOk code s'∧nxt code s n=(a,s')∧AC Tryz.prog 60 [Bx 3 0,I n] (srcH code s) (I a) (srcH code s'):=
 ⟨(nxt code s n).1,(nxt code s n).2,(nxt_ok hc hs n).1,(nxt_ok hc hs n).2.1,(nxt_ok hc hs n).2.2,rfl,l01Next_ac code hc s hs n⟩
theorem pick_ex [Mode] {code:List Int} (hc:CodeOk code) {s:Src} (hs:SrcOk code s) (xs:List Int) (n:Int) (hn:(xs.length:Int)=n) (h0:0<xs.length:=by simp) (hx:xs.length≤100:=by simp) :
  ∃ v s',v∈xs∧SrcOk code s'∧pick code s xs=v∧(nxt code s n).2=s'∧AC Tryz.prog 61 [Bx 3 0,.own 1 ⟨1,[]⟩ 0 xs.length] (upd (upd H0 ⟨1,[]⟩ (some (IO xs))) ⟨0,[]⟩ (some (dobj 3 (srcR code s)))) (I v) (srcH code s'):=by
 subst hn
 refine ⟨pick code s xs,(nxt code s xs.length).2,?_,(nxt_ok hc hs _).2.2,rfl,rfl,l01Pick_ac code hc s hs xs h0 hx⟩
 obtain ⟨b1,b2,b3⟩:=nxt_ok hc hs xs.length
 unfold pick
 rw[List.getElem?_eq_getElem (by omega),Option.getD_some]
 exact List.getElem_mem _
abbrev RSt:=Src × List Pl
structure DrG where
 ev:Int
 xs:List Pl
 s:Src
structure DrPl (p:Pl):Prop where
 f : -1≤p.f∧p.f≤100
 t : -1≤p.t∧p.t≤100
 d : -1≤p.d∧p.d≤1001
 k : -1≤p.k∧p.k≤6
structure RStOk (code:List Int) (m:Nat) (q:RSt):Prop where
 s:SrcOk code q.1
 xs:∀ p∈q.2,DrPl p
 len:q.2.length≤m
theorem RStOk.app [Mode] {code:List Int}{m:Nat}{q:RSt}{p:Pl}{s:Src} (h:RStOk code m q) (hp:DrPl p) (hs:SrcOk code s):RStOk code (m+1) (s,q.2++[p]):=
 ⟨hs,fun p' hp'=>by
  rcases List.mem_append.1 hp' with h'|h'
  ·exact h.xs p' h'
  ·simp at h';subst h';exact hp,by have:=h.len;simp;omega⟩
structure DrOk (code:List Int) (g:DrG):Prop where
 ev:0≤g.ev∧g.ev≤11
 xs:∀ p∈g.xs,DrPl p
 len:g.xs.length≤40
 s:SrcOk code g.s
end
end Go.Proofs.YtkpoclbnnpglfaaGreat
