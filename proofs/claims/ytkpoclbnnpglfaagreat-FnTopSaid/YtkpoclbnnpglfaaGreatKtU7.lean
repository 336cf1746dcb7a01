/-
  Walks in the abstract reading, part 7.
-/
import Derived.Test.YtkpoclbnnpglfaaGreatKtU2
import Derived.Test.YtkpoclbnnpglfaaGreatKtU5
import Derived.Test.YtkpoclbnnpglfaaGreatKtA3
import Derived.Test.YtkpoclbnnpglfaaGreatKtU4
import Derived.Test.YtkpoclbnnpglfaaGreatKtU6
set_option linter.unusedSimpArgs false
set_option linter.unusedVariables false
namespace Go.Proofs.YtkpoclbnnpglfaaGreat
section
open Go Go.RowKit
attribute [local irreducible] AL AD AW OpOk Le AC thenQ blockQ EndQ
set_option maxHeartbeats 1000000 in
theorem revI_ac [Mode] (xs:List Int) (hn:xs.length≤1000000):AC Tryz.prog 101 [own1 1 xs.length] (hp1 (IO xs)) (.tup []) (hp1 (IO xs.reverse)):=by
 refine AC.of_body 1 Tryz.func101 rfl (fun l h=>by simp[upd] at h;simp[h]) (fun C hC=>?_)
 simp only[startFr,Tryz.ntmps101,List.length_cons,List.length_nil,Nat.reduceAdd,Nat.reduceSub,List.replicate_succ,List.replicate_zero,List.cons_append,List.nil_append]
 have hD:∀ l,C.D0 l→l=⟨0,[]⟩:=fun l h=>by have:=(hC l).1 h;simp[upd] at this;exact this
 repeat' (first|((first|apply Ba|(apply Bb;(· rfl);(· rfl))|(apply Bc;(· exact nxE))|(apply Bd;(· rfl);(· rfl);(· exact nxE)));(· first|exact Ok.pe))|((first|apply Ca|(apply Cb;(· exact nxE)));(· first|exact Ok.e0))|refine Sx ?_|(refine Sy (fun h=>?_) (fun h=>?_)<;>try (exfalso;omega;done))|refine Sz (fun h=>?_) (fun h=>?_))
 refine AW.loop (X:={k:Nat // 2*k≤xs.length}) (fun k=>⟨[own1 1 xs.length,Oo,I (k.1:Nat),I ((xs.length:Int) - 1 - (k.1:Nat)),Oo,Oo,Oo,Oo,Oo,Oo,Oo,Oo,Oo,Oo,Oo,Oo,Oo,Oo,Oo,Oo,Oo,Oo,Oo,Oo,Oo,Oo,Oo,Oo],heapL [(⟨0,[]⟩,⟨0,[]⟩,IO (rvAt 0 xs k.1))],50⟩) (fun k=>xs.length - k.1) ⟨0,Nat.zero_le _⟩ ?_ (fun k=>?_)
 ·
  refine Le.head ([(⟨0,[]⟩,⟨0,[]⟩,IO (rvAt 0 xs 0))]) (by first|exact fun l h=>absurd h (hD l)|(intro l h;rcases hD l h with rfl;simp[tauL])|(intro l h;rcases hD l h with rfl|rfl<;>simp[tauL];done)|(intro l h;rcases hD l h with rfl|rfl|rfl<;>simp[tauL])) ?_ ?_ (by simp) (by simp) (by simp[AllP])<;>(repeat' (first|exact trivial|exact ARs.nil|refine ARs.cons ?_ ?_|exact AR.dead _|exact AR.dd _|exact AR.i (by (try dsimp only);omega)|exact AR.ptr _ _ _ _ (by simp[heapL,upd])|exact AR.own _ _ _ _ (by simp[heapL,upd])|refine AR.ownE _ _ _ ?_ (by simp[heapL,upd])|refine ⟨⟨_,rfl,?_⟩,?_⟩|exact ObA.data|refine ObA.box ?_|refine ObA.frE ?_|refine ObA.dataE ?_|refine ARs.agg ?_|refine ARs.tup ?_|exact AR.clo' ARs.nil ARs.nil|exact AR.clo' ARs.nil (hca _ _)))
  all_goals (rw[rvAt_0])
 obtain ⟨k,hk⟩:=k
 simp only
 by_cases hlt:k<xs.length - 1 - k
 ·obtain ⟨p,hp⟩:∃ p,xs[k]? = some p:=⟨xs[k],by simp⟩
  obtain ⟨q,hq⟩:∃ q,xs[xs.length - 1 - k]? = some q:=⟨xs[xs.length - 1 - k],by simp⟩
  have hI:(IR (rvAt 0 xs k))[k]? = some [DI p]:=by simp[rvAt_i (z:=0) hlt hp]
  have hJ:(IR (rvAt 0 xs k))[xs.length - 1 - k]? = some [DI q]:=by simp[rvAt_j (z:=0) hlt hq]
  have hJ2:((IR (rvAt 0 xs k)).set k [DI q])[xs.length - 1 - k]? = some [DI q]:=by rw[IR_set];show (List.map _ _)[_]? = _;rw[List.getElem?_map,rvAt_j2 (z:=0) hlt hq];rfl
  have hS:((IR (rvAt 0 xs k)).set k [DI q]).set (xs.length - 1 - k) [DI p]=IR (rvAt 0 xs (k+1)):=by rw[IR_set,IR_set,rvAt_swap hlt hp hq]
  have hl:(IR (rvAt 0 xs k)).length=xs.length:=by rw[IR_len,rvAt_len]
  have hj:(xs.length:Int) - 1 - (k:Nat)=((xs.length - 1 - k:Nat):Int):=by omega
  rw[hj]
  repeat' (first|((first|apply Ba|(apply Bb;(· rfl);(· rfl))|(apply Bc;(· exact nxE))|(apply Bd;(· rfl);(· rfl);(· exact nxE)));(· first|exact Ok.ld1 rfl rfl rfl hI|exact Ok.ld1 rfl rfl rfl hJ|exact Ok.st1 rfl rfl rfl (by rw[hl];omega) (by rw[hI];rfl) rfl rfl rfl|exact Ok.st1 rfl rfl rfl (by rw[List.length_set,hl];omega) (by rw[hJ2];rfl) rfl rfl hS|exact Ok.pe))|((first|apply Ca|(apply Cb;(· exact nxE)));(· first|exact Ok.st1 rfl rfl rfl (by rw[hl];omega) (by rw[hI];rfl) rfl rfl rfl|exact Ok.st1 rfl rfl rfl (by rw[List.length_set,hl];omega) (by rw[hJ2];rfl) rfl rfl hS|exact Ok.e0))|refine Sx ?_|(refine Sy (fun h=>?_) (fun h=>?_)<;>try (exfalso;omega;done))|refine Sz (fun h=>?_) (fun h=>?_))
  refine ⟨⟨k+1,by omega⟩,?_,by simp only;omega⟩
  refine Le.head ([(⟨0,[]⟩,⟨0,[]⟩,IO (rvAt 0 xs (k+1)))]) (by first|exact fun l h=>absurd h (hD l)|(intro l h;rcases hD l h with rfl;simp[tauL])|(intro l h;rcases hD l h with rfl|rfl<;>simp[tauL];done)|(intro l h;rcases hD l h with rfl|rfl|rfl<;>simp[tauL])) ?_ ?_ (by simp) (by simp) (by simp[AllP])<;>(repeat' (first|exact trivial|exact ARs.nil|refine ARs.cons ?_ ?_|exact AR.dead _|exact AR.dd _|exact AR.i (by (try dsimp only);omega)|exact AR.ptr _ _ _ _ (by simp[heapL,upd])|exact AR.own _ _ _ _ (by simp[heapL,upd])|refine AR.ownE _ _ _ ?_ (by simp[heapL,upd])|refine ⟨⟨_,rfl,?_⟩,?_⟩|exact ObA.data|refine ObA.box ?_|refine ObA.frE ?_|refine ObA.dataE ?_|refine ARs.agg ?_|refine ARs.tup ?_|exact AR.clo' ARs.nil ARs.nil|exact AR.clo' ARs.nil (hca _ _)))
  all_goals (rfl)
 have hrev:rvAt 0 xs k=xs.reverse:=rvAt_all hk (by omega)
 repeat' (first|((first|apply Ba|(apply Bb;(· rfl);(· rfl))|(apply Bc;(· exact nxE))|(apply Bd;(· rfl);(· rfl);(· exact nxE)));(· first|exact Ok.pe))|((first|apply Ca|(apply Cb;(· exact nxE)));(· first|exact Ok.e0))|refine Sx ?_|(refine Sy (fun h=>?_) (fun h=>?_)<;>try (exfalso;omega;done))|refine Sz (fun h=>?_) (fun h=>?_))
 all_goals
  refine end0 (by first|exact .inl rfl|exact .inr rfl) rfl (Le.head ([(⟨0,[]⟩,⟨0,[]⟩,IO xs.reverse)]) (by first|exact fun l h=>absurd h (hD l)|(intro l h;rcases hD l h with rfl;simp[tauL])|(intro l h;rcases hD l h with rfl|rfl<;>simp[tauL];done)|(intro l h;rcases hD l h with rfl|rfl|rfl<;>simp[tauL])) ?_ ?_ (by simp) (by simp) (by simp[AllP]) (n':=1000))<;>(repeat' (first|exact trivial|exact ARs.nil|refine ARs.cons ?_ ?_|exact AR.dead _|exact AR.dd _|exact AR.i (by (try dsimp only);omega)|exact AR.ptr _ _ _ _ (by simp[heapL,upd])|exact AR.own _ _ _ _ (by simp[heapL,upd])|refine AR.ownE _ _ _ ?_ (by simp[heapL,upd])|refine ⟨⟨_,rfl,?_⟩,?_⟩|exact ObA.data|refine ObA.box ?_|refine ObA.frE ?_|refine ObA.dataE ?_|refine ARs.agg ?_|refine ARs.tup ?_|exact AR.clo' ARs.nil ARs.nil|exact AR.clo' ARs.nil (hca _ _)))
  all_goals (rw[hrev])
theorem placeWeight_ac [Mode] (p:Pl) (u1 u2:Int) (h1:0≤u2*p.d∧u2*p.d≤1000000000) (h2:0≤u1*p.k∧u1*p.k≤1000000000):AC Tryz.prog 54 [p.av,.agg [I u1,I u2]] H0 (I (pw u1 u2 p)) H0:=by
 unfold pw
 obtain ⟨pf,pt,pd,pk⟩:=p
 simp only at h1 h2 ⊢
 refine AC.of_body 0 Tryz.func54 rfl (fun l h=>absurd rfl h) (fun C hC=>?_)
 have hD:∀ l,¬ C.D0 l:=fun l h=>(hC l).1 h rfl
 simp only[startFr,Tryz.ntmps54,List.length_cons,List.length_nil,Nat.reduceAdd,Nat.reduceSub,List.replicate_succ,List.replicate_zero,List.cons_append,List.nil_append]
 repeat' (first|((first|apply Ba|(apply Bb;(· rfl);(· rfl))|(apply Bc;(· exact nxE))|(apply Bd;(· rfl);(· rfl);(· exact nxE)));(· first|exact Ok.pe))|((first|apply Ca|(apply Cb;(· exact nxE)));(· first|exact Ok.e0))|refine Sx ?_|(refine Sy (fun h=>?_) (fun h=>?_)<;>try (exfalso;omega;done))|refine Sz (fun h=>?_) (fun h=>?_))
 refine Ya ?_
 (apply Le.headZ (hs:=[]) [] rfl)
 all_goals (try dsimp only[srcs])
 (case' hfr=>(repeat' (first|refine La ?_ ?_|exact Lc|refine Lo ?_|refine ⟨⟨_,rfl,?_⟩,?_⟩|refine Lx ?_)))
 all_goals (first|exact Ld|exact trivial|(rfl))
noncomputable def perL (f:Nat→Nat) (z:Nat):Nat:=open Classical in if h:∃ L,Per f z L then Classical.choose h else 0
theorem perL_eq [Mode] {f:Nat→Nat}{z L:Nat} (h:Per f z L):perL f z=L:=by
 have he:∃ L,Per f z L:=⟨L,h⟩
 unfold perL
 rw[dif_pos he]
 exact Per.uniq (Classical.choose_spec he) h
abbrev predF (xs:List Pl) (y:Nat→Nat):Nat→Nat:=fun v=>plF xs (y v)
noncomputable def btL (xs:List Pl) (n:Nat) (s:BF):List Nat:=(backC s.y (predF xs s.y) (iter (predF xs s.y) n s.last.toNat) (perL (predF xs s.y) (iter (predF xs s.y) n s.last.toNat))).reverse
noncomputable def btRes (xs:List Pl) (n:Nat):Option BF→AV
 | none=>nilS
 | some s=>own1 1 (btL xs n s).length
noncomputable def btHp (xs:List Pl) (n:Nat):Option BF→Heap
 | none=>H0
 | some s=>hp1 (IO (cN (btL xs n s)))
theorem btL_eq [Mode] {xs:List Pl}{n:Nat}{r:Int × Int}{s:BF}{v z L:Nat} (h:Found xs n r s v z L):btL xs n s=(backC s.y (predF xs s.y) z L).reverse:=by
 unfold btL
 rw[h.last,Int.toNat_natCast]
 have e:iter (predF xs s.y) n v=z:=h.zv
 rw[e,perL_eq h.per]
structure BtSt (xs:List Pl) (n:Nat) (r:Int × Int) (q:Nat) (s:BF):Prop where
 le:q≤n+1
 run:bfRun xs r (n+1) bf0=bfRun xs r (n+1 - q) s
 bnd:∀ v,0≤s.b v∧s.b v≤30000000*(q:Int)
theorem bf_bnd2 [Mode] {n:Nat}{xs:List Pl}{r:Int × Int} (hx:xs.length≤30) (hw:∀ i,i<xs.length→plW xs r i≤1000000) {s:BF}{q:Nat} (h:∀ v,0≤s.b v∧s.b v≤30000000*(q:Int)) (k:Nat) (hk:k≤xs.length) (v:Nat):0≤(bfAt xs r s k).b v∧(bfAt xs r s k).b v≤30000000*((q+1:Nat):Int):=by
 have:=bf_bnd (B:=1000000) (by decide) hw h k hk v
 omega
theorem plW_le [Mode] {n:Nat}{xs:List Pl}{u1 u2:Int} (hv:∀ p∈xs,okPl n p) (hu1:0≤u1∧u1≤100000) (hu2:0≤u2∧u2≤50) (i:Nat) (hi:i<xs.length):(0≤u2*(plA xs i).d∧u2*(plA xs i).d≤500000)∧(0≤u1*(plA xs i).k∧u1*(plA xs i).k≤500000):=by
 have ho:=okPl_at hv i hi
 have h1:=mul_in hu2 ho.2.2.1
 have h2:=mul_in hu1 ho.2.2.2
 omega
set_option maxHeartbeats 8000000 in
theorem betterCircuit_ac [Mode] (n : Nat) (xs : List Pl) (u1 u2 : Int) (h0 : 1 ≤ n) (hn : n ≤ 10) (hx : xs.length ≤ 30) (hv : ∀ p ∈ xs, okPl n p) (hu1 : 0 ≤ u1 ∧ u1 ≤ 100000) (hu2 : 0 ≤ u2 ∧ u2 ≤ 50) :
    AC Tryz.prog 43 [grD n xs, .agg [I u1, I u2]] H0 (btRes xs n (bfRun xs (u1, u2) (n + 1) bf0)) (btHp xs n (bfRun xs (u1, u2) (n + 1) bf0)) := by
  have hpw := plW_le hv hu1 hu2
  have hW : ∀ i, i < xs.length → plW xs (u1, u2) i ≤ 1000000 := fun i hi => by have := hpw i hi; simp only [plW, pw]; omega
  have hfill := fillF_0 (n := n) (x := 0)
  have hok : okN xs n := fun i hi => by have := (okPl_at hv i hi).2.1; simp only [plTo]; omega
  refine AC.of_body 0 Tryz.func43 rfl (fun l h => absurd rfl h) (fun C hC => ?_)
  have hD : ∀ l, ¬ C.D0 l := fun l h => (hC l).1 h rfl
  simp only [startFr, Tryz.ntmps43, List.length_cons, List.length_nil, Nat.reduceAdd, Nat.reduceSub, List.replicate_succ, List.replicate_zero, List.cons_append, List.nil_append]
  repeat' (first | ((first | apply Ba | (apply Bb; (· rfl); (· rfl)) | (apply Bc; (· exact nxE)) | (apply Bd; (· rfl); (· rfl); (· exact nxE))); (· first | exact Ok.pe)) | ((first | apply Ca | (apply Cb; (· exact nxE))); (· first | exact Ok.e0)) | refine Sx ?_ | (refine Sy (fun h => ?_) (fun h => ?_) <;> try (exfalso; omega; done)) | refine Sz (fun h => ?_) (fun h => ?_))
  refine AW.loop (X := {p : Nat × BF // BtSt xs n (u1, u2) p.1 p.2}) (fun p => ⟨[Oo, Oo, Bx 2 0, Bx 2 1, Oo, .own 1 ⟨2, []⟩ 0 n, .own 1 ⟨3, []⟩ 0 n, I p.1.2.last, Oo, Oo, Oo, Oo, Oo, Oo, Oo, Oo, Oo, Oo, Oo, Oo, Oo, I ((n : Int) + 1), I (p.1.1 : Nat), Oo, Oo, Oo, Oo, Oo, Oo, Oo, Oo, Oo, Oo, Oo, Oo, Oo, Oo, Oo, Oo, Oo, Oo, Oo, Oo, Oo, Oo, Oo, Oo, Oo, Oo, Oo, Oo, Oo, Oo, Oo, Oo, Oo, Oo, Oo, Oo, Oo, Oo, Oo, Oo, Oo, Oo, Oo, Oo, Oo, Oo, Oo, Oo, Oo, Oo, Oo, Oo, Oo, Oo, Oo, Oo, Oo, Oo, Oo, Oo, Oo, Oo, Oo, Oo, Oo, Oo, Oo, Oo, Oo, Oo, Oo, Oo, Oo, Oo, Oo, Oo, Oo, Oo], heapL [(⟨0, []⟩, ⟨0, []⟩, ⟨2, [[I n, PL xs]]⟩), (⟨1, []⟩, ⟨1, []⟩, ⟨2, [[I u1, I u2]]⟩), (⟨2, []⟩, ⟨2, []⟩, IO (rowF n p.1.2.b)), (⟨3, []⟩, ⟨3, []⟩, IO (rowF n fun v => (p.1.2.y v : Int)))], 900⟩) (fun p => n + 1 - p.1.1) ⟨(0, bf0), Nat.zero_le _, rfl, fun v => by simp [bf0]⟩ ?_ (fun p => ?_)
  ·
    (apply Le.headZ [_, _, _, _] rfl)
    all_goals (try dsimp only [srcs])
    (case' hfr | hob => (repeat' (first | refine La ?_ ?_ | exact Lc | refine Lo ?_ | refine ⟨⟨_, rfl, ?_⟩, ?_⟩ | refine Lx ?_)))
    all_goals (first | ((first | exact hfill | (rw [hfill]; done) | (simp [bf0]; done))) | exact Ld)
  obtain ⟨⟨q, s⟩, hS⟩ := p
  simp only at hS ⊢
  have hq := hS.le
  have hrun := hS.run
  have hb0 := hS.bnd
  by_cases hlt : q < n + 1
  · have hbn := fun k hk v => bf_bnd2 (n := n) (r := (u1, u2)) hx hW hb0 k hk v
    repeat' (first | ((first | apply Ba | (apply Bb; (· rfl); (· rfl)) | (apply Bc; (· exact nxE)) | (apply Bd; (· rfl); (· rfl); (· exact nxE))); (· first | exact Ok.pe)) | ((first | apply Ca | (apply Cb; (· exact nxE))); (· first | exact Ok.e0)) | refine Sx ?_ | (refine Sy (fun h => ?_) (fun h => ?_) <;> try (exfalso; omega; done)) | refine Sz (fun h => ?_) (fun h => ?_))
    refine AW.loop (X := {k : Nat // k ≤ xs.length}) (fun k => ⟨[Oo, Oo, Bx 2 0, Bx 2 1, Oo, .own 1 ⟨2, []⟩ 0 n, .own 1 ⟨3, []⟩ 0 n, I (bfAt xs (u1, u2) s k.1).last, Oo, Oo, Oo, Oo, Oo, Oo, Oo, Oo, Oo, Oo, Oo, Oo, Oo, I ((n : Int) + 1), I q, Oo, Oo, PL xs, I xs.length, I (k.1 : Nat), Oo, Oo, Oo, Oo, Oo, Oo, Oo, Oo, Oo, Oo, Oo, Oo, Oo, Oo, Oo, Oo, Oo, Oo, Oo, Oo, Oo, Oo, Oo, Oo, Oo, Oo, Oo, Oo, Oo, Oo, Oo, Oo, Oo, Oo, Oo, Oo, Oo, Oo, Oo, Oo, Oo, Oo, Oo, Oo, Oo, Oo, Oo, Oo, Oo, Oo, Oo, Oo, Oo, Oo, Oo, Oo, Oo, Oo, Oo, Oo, Oo, Oo, Oo, Oo, Oo, Oo, Oo, Oo, Oo, Oo, Oo, Oo, Oo], heapL [(⟨0, []⟩, ⟨0, []⟩, ⟨2, [[I n, PL xs]]⟩), (⟨1, []⟩, ⟨1, []⟩, ⟨2, [[I u1, I u2]]⟩), (⟨2, []⟩, ⟨2, []⟩, IO (rowF n (bfAt xs (u1, u2) s k.1).b)), (⟨3, []⟩, ⟨3, []⟩, IO (rowF n fun v => ((bfAt xs (u1, u2) s k.1).y v : Int)))], 900⟩) (fun k => xs.length - k.1) ⟨0, Nat.zero_le _⟩ ?_ (fun k => ?_)
    ·
      (apply Le.headZ [_, _, _, _] rfl)
      all_goals (try dsimp only [srcs])
      (case' hfr | hob => (repeat' (first | refine La ?_ ?_ | exact Lc | refine Lo ?_ | refine ⟨⟨_, rfl, ?_⟩, ?_⟩ | refine Lx ?_)))
      all_goals (first | (rfl) | exact Ld)
    obtain ⟨k, hk⟩ := k
    simp only
    by_cases hlt2 : k < xs.length
    · have hrow := pl_row (n := 0) hlt2
      obtain ⟨⟨g1, g2⟩, ⟨g3, g4⟩, _⟩ := okPl_at hv k hlt2
      have hbk := hbn k hk
      have hpk := hpw k hlt2
      have hPW := placeWeight_ac (plA xs k) u1 u2 (by omega) (by omega)
      have hpwb : -1000000 ≤ pw u1 u2 (plA xs k) ∧ pw u1 u2 (plA xs k) ≤ 1000000 := by unfold pw; omega
      have hstep : bfAt xs (u1, u2) s (k + 1) = bfStep xs (u1, u2) (bfAt xs (u1, u2) s k) k := rfl
      unfold bfStep at hstep
      simp only [plF, plTo, plW] at hstep
      obtain ⟨e, he⟩ : ∃ e, bfAt xs (u1, u2) s k = e := ⟨_, rfl⟩
      rw [he] at hstep hbk ⊢
      obtain ⟨b, y, la⟩ := e
      simp only at hstep hbk ⊢
      generalize hw : pw u1 u2 (plA xs k) = w at *
      generalize plA xs k = p at *
      obtain ⟨pf, pt, pd, pk⟩ := p
      obtain ⟨f, rfl⟩ : ∃ f : Nat, pf = f := ⟨pf.toNat, by simp at g1; omega⟩
      obtain ⟨t, rfl⟩ : ∃ t : Nat, pt = t := ⟨pt.toNat, by simp at g3; omega⟩
      simp only [Int.toNat_natCast] at hrow g2 g4 hstep
      have hF := rowI_at (n := n) (g := b) (show f < n by omega)
      have hT := rowI_at (n := n) (g := b) (show t < n by omega)
      have hY := rowI_at (n := n) (g := fun v => (y v : Int)) (show t < n by omega)
      have hbf := hbk f
      have hbt := hbk t
      have hset : (IR (rowF n b)).set t [DI (b f + w)] = IR (rowF n (fun v => if v = t then b f + w else b v)) := by rw [IR_set, rowF_set]
      have hset2 : (IR (rowF n fun v => (y v : Int))).set t [DI (k : Int)] = IR (rowF n (fun v => ((if v = t then k else y v : Nat) : Int))) := by
        rw [IR_set, rowF_set]
        congr 1
        exact rowF_congr fun j _ => by by_cases h : j = t <;> simp [h]
      repeat' (first | ((first | apply Ba | (apply Bb; (· rfl); (· rfl)) | (apply Bc; (· exact nxE)) | (apply Bd; (· rfl); (· rfl); (· exact nxE))); (· first | exact Kz rfl rfl (hPW) (Aa (Ad (Ad (Ad (Ad An)))) (Aa (Ad (Ad An)) An)) | exact Ok.ld1 rfl rfl rfl hF | exact Ok.ld1 rfl rfl rfl hT | exact Ok.st1 rfl rfl rfl (by simp [rowF_len]; omega) (by rw [hT]; rfl) rfl rfl hset | exact Ok.st1 rfl rfl rfl (by simp [rowF_len]; omega) (by rw [hY]; rfl) rfl rfl hset2 | exact Ok.pe)) | ((first | apply Ca | (apply Cb; (· exact nxE))); (· first | exact Ok.st1 rfl rfl rfl (by simp [rowF_len]; omega) (by rw [hT]; rfl) rfl rfl hset | exact Ok.st1 rfl rfl rfl (by simp [rowF_len]; omega) (by rw [hY]; rfl) rfl rfl hset2 | exact Ok.e0)) | refine Sx ?_ | (refine Sy (fun h => ?_) (fun h => ?_) <;> try (exfalso; omega; done)) | refine Sz (fun h => ?_) (fun h => ?_))
      all_goals first
        | (have hyes : b t < b f + w := by omega
           rw [if_pos hyes] at hstep
           refine ⟨⟨k + 1, by omega⟩, ?_, by simp only; omega⟩
           simp only
           rw [hstep]
           (apply Le.headZ [_, _, _, _] rfl)
           all_goals (try dsimp only [srcs])
           (case' hfr | hob => (repeat' (first | refine La ?_ ?_ | exact Lc | refine Lo ?_ | refine ⟨⟨_, rfl, ?_⟩, ?_⟩ | refine Lx ?_)))
           all_goals (first | (rfl) | exact Ld)
           done)
        | (have hno : ¬ b t < b f + w := by omega
           rw [if_neg hno] at hstep
           refine ⟨⟨k + 1, by omega⟩, ?_, by simp only; omega⟩
           simp only
           rw [hstep]
           (apply Le.headZ [_, _, _, _] rfl)
           all_goals (try dsimp only [srcs])
           (case' hfr | hob => (repeat' (first | refine La ?_ ?_ | exact Lc | refine Lo ?_ | refine ⟨⟨_, rfl, ?_⟩, ?_⟩ | refine Lx ?_)))
           all_goals (first | (rfl) | exact Ld)
           done)
    · obtain rfl : k = xs.length := by omega
      have hstep : bfRun xs (u1, u2) (n + 1) bf0 = if (bfAt xs (u1, u2) s xs.length).last < 0 then none else bfRun xs (u1, u2) (n + 1 - (q + 1)) (bfAt xs (u1, u2) s xs.length) := by
        rw [hrun, show n + 1 - q = (n + 1 - (q + 1)) + 1 by omega]; rfl
      by_cases hneg : (bfAt xs (u1, u2) s xs.length).last < 0
      · rw [if_pos hneg] at hstep
        rw [hstep]
        repeat' (first | ((first | apply Ba | (apply Bb; (· rfl); (· rfl)) | (apply Bc; (· exact nxE)) | (apply Bd; (· rfl); (· rfl); (· exact nxE))); (· first | exact Ok.pe)) | ((first | apply Ca | (apply Cb; (· exact nxE))); (· first | exact Ok.e0)) | refine Sx ?_ | (refine Sy (fun h => ?_) (fun h => ?_) <;> try (exfalso; omega; done)) | refine Sz (fun h => ?_) (fun h => ?_))
        show EndQ _ _ _ nilS H0 _ _
        refine Ya ?_
        (apply Le.headZ (hs := []) [] rfl)
        all_goals (try dsimp only [srcs])
        (case' hfr => (repeat' (first | refine La ?_ ?_ | exact Lc | refine Lo ?_ | refine ⟨⟨_, rfl, ?_⟩, ?_⟩ | refine Lx ?_)))
        all_goals (first | exact Ld | exact trivial | (rfl))
      · rw [if_neg hneg] at hstep
        repeat' (first | ((first | apply Ba | (apply Bb; (· rfl); (· rfl)) | (apply Bc; (· exact nxE)) | (apply Bd; (· rfl); (· rfl); (· exact nxE))); (· first | exact Ok.pe)) | ((first | apply Ca | (apply Cb; (· exact nxE))); (· first | exact Ok.e0)) | refine Sx ?_ | (refine Sy (fun h => ?_) (fun h => ?_) <;> try (exfalso; omega; done)) | refine Sz (fun h => ?_) (fun h => ?_))
        refine ⟨⟨(q + 1, bfAt xs (u1, u2) s xs.length), by omega, hstep, fun v => hbn _ (Nat.le_refl _) v⟩, ?_, by simp only; omega⟩
        (apply Le.headZ [_, _, _, _] rfl)
        all_goals (try dsimp only [srcs])
        (case' hfr | hob => (repeat' (first | refine La ?_ ?_ | exact Lc | refine Lo ?_ | refine ⟨⟨_, rfl, ?_⟩, ?_⟩ | refine Lx ?_)))
        all_goals (first | (rfl) | exact Ld)
  · obtain rfl : q = n + 1 := by omega
    rw [Nat.sub_self] at hrun
    have hrun2 : bfRun xs (u1, u2) (n + 1) bf0 = some s := hrun
    rw [hrun2]
    obtain ⟨v, z, L, hFd⟩ := bf_found hok hrun2
    rw [show btRes xs n (some s) = own1 1 (btL xs n s).length from rfl, show btHp xs n (some s) = hp1 (IO (cN (btL xs n s))) from rfl, btL_eq hFd]
    have hit : ∀ j, j ≤ n → iter (predF xs s.y) j v < n := fun j hj => by
      cases j with
      | zero => exact hFd.vn
      | succ j =>
        have h1 := hFd.okv j (by omega)
        have h2 : 0 ≤ (plA xs (s.y (iter (predF xs s.y) j v))).f ∧ (plA xs (s.y (iter (predF xs s.y) j v))).f < n := (okPl_at hv _ h1).1
        show (plA xs (s.y (iter (predF xs s.y) j v))).f.toNat < n
        omega
    have hla := hFd.last
    repeat' (first | ((first | apply Ba | (apply Bb; (· rfl); (· rfl)) | (apply Bc; (· exact nxE)) | (apply Bd; (· rfl); (· rfl); (· exact nxE))); (· first | exact Ok.pe)) | ((first | apply Ca | (apply Cb; (· exact nxE))); (· first | exact Ok.e0)) | refine Sx ?_ | (refine Sy (fun h => ?_) (fun h => ?_) <;> try (exfalso; omega; done)) | refine Sz (fun h => ?_) (fun h => ?_))
    refine AW.loop (X := {k : Nat // k ≤ n}) (fun k => ⟨[Oo, Oo, Bx 2 0, Oo, Oo, Oo, .own 1 ⟨3, []⟩ 0 n, I (iter (predF xs s.y) k.1 v : Nat), Oo, Oo, Oo, Oo, Oo, Oo, Oo, Oo, Oo, Oo, Oo, Oo, Oo, Oo, Oo, Oo, Oo, Oo, Oo, Oo, Oo, Oo, Oo, Oo, Oo, Oo, Oo, Oo, Oo, Oo, Oo, Oo, Oo, Oo, Oo, Oo, Oo, Oo, Oo, Oo, Oo, Oo, Oo, Oo, Oo, Oo, Oo, Oo, Oo, Oo, Oo, Oo, Oo, Oo, Oo, Oo, Oo, I n, I (k.1 : Nat), Oo, Oo, Oo, Oo, Oo, Oo, Oo, Oo, Oo, Oo, Oo, Oo, Oo, Oo, Oo, Oo, Oo, Oo, Oo, Oo, Oo, Oo, Oo, Oo, Oo, Oo, Oo, Oo, Oo, Oo, Oo, Oo, Oo, Oo], heapL [(⟨0, []⟩, ⟨0, []⟩, ⟨2, [[I n, PL xs]]⟩), (⟨3, []⟩, ⟨3, []⟩, IO (rowF n fun v => (s.y v : Int)))], 900⟩) (fun k => n - k.1) ⟨0, Nat.zero_le _⟩ ?_ (fun k => ?_)
    ·
      (apply Le.headZ [_, _] rfl)
      all_goals (try dsimp only [srcs])
      (case' hfr | hob => (repeat' (first | refine La ?_ ?_ | exact Lc | refine Lo ?_ | refine ⟨⟨_, rfl, ?_⟩, ?_⟩ | refine Lx ?_)))
      all_goals (first | ((first | exact hla.symm | (rw [hla]; rfl))) | exact Ld)
    obtain ⟨j, hj⟩ := k
    simp only
    by_cases hlt3 : j < n
    · have hjn := hit j (by omega)
      have hyl := hFd.okv j (by omega)
      have hY := rowI_at (n := n) (g := fun v => (s.y v : Int)) hjn
      have hrow := pl_row (n := 0) hyl
      have ho := (okPl_at hv _ hyl).1.1
      have hnx : (plA xs (s.y (iter (predF xs s.y) j v))).f = ((iter (predF xs s.y) (j + 1) v : Nat) : Int) := (Int.toNat_of_nonneg ho).symm
      rw [hnx] at hrow
      generalize hw : iter (predF xs s.y) j v = w at *
      generalize hw2 : iter (predF xs s.y) (j + 1) v = w2 at *
      generalize s.y w = yw at *
      generalize plA xs yw = p at *
      obtain ⟨pf, pt, pd, pk⟩ := p
      simp only at hrow
      repeat' (first | ((first | apply Ba | (apply Bb; (· rfl); (· rfl)) | (apply Bc; (· exact nxE)) | (apply Bd; (· rfl); (· rfl); (· exact nxE))); (· first | exact Ok.ld1 rfl rfl rfl hY | exact Ok.pe)) | ((first | apply Ca | (apply Cb; (· exact nxE))); (· first | exact Ok.e0)) | refine Sx ?_ | (refine Sy (fun h => ?_) (fun h => ?_) <;> try (exfalso; omega; done)) | refine Sz (fun h => ?_) (fun h => ?_))
      refine ⟨⟨j + 1, by omega⟩, ?_, by simp only; omega⟩
      simp only
      rw [hw2]
      (apply Le.headZ [_, _] rfl)
      all_goals (try dsimp only [srcs])
      (case' hfr | hob => (repeat' (first | refine La ?_ ?_ | exact Lc | refine Lo ?_ | refine ⟨⟨_, rfl, ?_⟩, ?_⟩ | refine Lx ?_)))
      all_goals (first | (rfl) | exact Ld)
    · obtain rfl : j = n := by omega
      rw [show iter (predF xs s.y) j v = z from hFd.zv]
      have hper := hFd.per
      have hLn := hFd.Ln
      repeat' (first | ((first | apply Ba | (apply Bb; (· rfl); (· rfl)) | (apply Bc; (· exact nxE)) | (apply Bd; (· rfl); (· rfl); (· exact nxE))); (· first | exact Ok.pe)) | ((first | apply Ca | (apply Cb; (· exact nxE))); (· first | exact Ok.e0)) | refine Sx ?_ | (refine Sy (fun h => ?_) (fun h => ?_) <;> try (exfalso; omega; done)) | refine Sz (fun h => ?_) (fun h => ?_))
      refine AW.loop (X := {m : Nat // m < L}) (fun m => ⟨[Oo, Oo, Bx 2 0, Oo, Oo, Oo, .own 1 ⟨3, []⟩ 0 j, I (z : Nat), Oo, Oo, Oo, .own 1 ⟨4, []⟩ 0 m.1, I (iter (predF xs s.y) m.1 z : Nat), Oo, Oo, Oo, Oo, Oo, Oo, Oo, Oo, Oo, Oo, Oo, Oo, Oo, Oo, Oo, Oo, Oo, Oo, Oo, Oo, Oo, Oo, Oo, Oo, Oo, Oo, Oo, Oo, Oo, Oo, Oo, Oo, Oo, Oo, Oo, Oo, Oo, Oo, Oo, Oo, Oo, Oo, Oo, Oo, Oo, Oo, Oo, Oo, Oo, Oo, Oo, Oo, Oo, Oo, Oo, Oo, Oo, Oo, Oo, Oo, Oo, Oo, Oo, Oo, Oo, Oo, Oo, Oo, Oo, Oo, Oo, Oo, Oo, Oo, Oo, Oo, Oo, Oo, Oo, Oo, Oo, Oo, Oo, Oo, Oo, Oo, Oo, Oo], heapL [(⟨0, []⟩, ⟨0, []⟩, ⟨2, [[I j, PL xs]]⟩), (⟨3, []⟩, ⟨3, []⟩, IO (rowF j fun v => (s.y v : Int))), (⟨4, []⟩, ⟨4, []⟩, IO (cN (backC s.y (predF xs s.y) z m.1)))], 900⟩) (fun m => L - m.1) ⟨0, hper.pos⟩ ?_ (fun m => ?_)
      ·
        refine (Le.nil 11 1 rfl).trans ?_
        (apply Le.headZ [_, _, _] rfl)
        all_goals (try dsimp only [srcs])
        (case' hfr | hob => (repeat' (first | refine La ?_ ?_ | exact Lc | refine Lo ?_ | refine ⟨⟨_, rfl, ?_⟩, ?_⟩ | refine Lx ?_)))
        all_goals (first | (rfl) | exact Ld)
      obtain ⟨m, hm⟩ := m
      simp only
      have hmn := hFd.zn m
      have hyl := (hFd.ok m).1
      have hY := rowI_at (n := j) (g := fun v => (s.y v : Int)) hmn
      have hrow := pl_row (n := 0) hyl
      have ho := (okPl_at hv _ hyl).1.1
      have hnx : (plA xs (s.y (iter (predF xs s.y) m z))).f = ((iter (predF xs s.y) (m + 1) z : Nat) : Int) := (Int.toNat_of_nonneg ho).symm
      rw [hnx] at hrow
      have hbl : (IR (cN (backC s.y (predF xs s.y) z m))).length = m := by simp [backC]
      have hbs : IR (cN (backC s.y (predF xs s.y) z (m + 1))) = IR (cN (backC s.y (predF xs s.y) z m)) ++ [[DI (s.y (iter (predF xs s.y) m z) : Nat)]] := by rw [backC_succ]; simp
      by_cases hend : m + 1 = L
      · have hz : iter (predF xs s.y) (m + 1) z = z := by rw [hend]; exact hper.back
        rw [hz] at hrow
        have hR := revI_ac (cN (backC s.y (predF xs s.y) z (m + 1))) (by simp [backC]; omega)
        have hrl : (cN (backC s.y (predF xs s.y) z (m + 1))).length = m + 1 := by simp [backC]
        have hrv : (cN (backC s.y (predF xs s.y) z (m + 1))).reverse = cN (backC s.y (predF xs s.y) z L).reverse := by rw [← hend]; simp
        rw [hrl, hrv] at hR
        unfold IO at hR
        rw [hbs] at hR
        have hfl : (backC s.y (predF xs s.y) z L).reverse.length = m + 1 := by rw [← hend]; simp [backC]
        rw [hfl]
        generalize (backC s.y (predF xs s.y) z L).reverse = res at *
        generalize hbc : backC s.y (predF xs s.y) z m = bc at *
        generalize iter (predF xs s.y) m z = w at *
        generalize s.y w = yw at *
        generalize plA xs yw = p at *
        obtain ⟨pf, pt, pd, pk⟩ := p
        simp only at hrow
        repeat' (first | ((first | apply Ba | (apply Bb; (· rfl); (· rfl)) | (apply Bc; (· exact nxE)) | (apply Bd; (· rfl); (· rfl); (· exact nxE))); (· first | exact Ok.ld1 rfl rfl rfl hY | exact Ok.append1 (row := [DI (yw : Nat)]) rfl rfl (by decide) rfl rfl hbl rfl rfl rfl (by rfl) (by omega) (by omega) | exact OpOk.callMg rfl rfl hR rfl (fun _ => by simp [Go.Proofs.YtkpoclbnnpglfaaGreat.rn]) (.cons (.own _ _ _ _ rfl) .nil) | exact Ok.pe)) | ((first | apply Ca | (apply Cb; (· exact nxE))); (· first | exact Ok.append1 (row := [DI (yw : Nat)]) rfl rfl (by decide) rfl rfl hbl rfl rfl rfl (by rfl) (by omega) (by omega) | exact OpOk.callMg rfl rfl hR rfl (fun _ => by simp [Go.Proofs.YtkpoclbnnpglfaaGreat.rn]) (.cons (.own _ _ _ _ rfl) .nil) | exact Ok.e0)) | refine Sx ?_ | (refine Sy (fun h => ?_) (fun h => ?_) <;> try (exfalso; omega; done)) | refine Sz (fun h => ?_) (fun h => ?_))
        refine Ya ?_
        (apply Le.head [(⟨0, []⟩, _, _)])
        (case' hfr | hob => (repeat' (first | refine La ?_ ?_ | exact Lc | refine Lo ?_ | refine ⟨⟨_, rfl, ?_⟩, ?_⟩ | refine Lx ?_)))
        all_goals (first | exact Ld | (rfl))
      · have hne := hper.least (m + 1) (by omega) (by omega)
        generalize hw2 : iter (predF xs s.y) (m + 1) z = w2 at *
        generalize hw1 : iter (predF xs s.y) m z = w at *
        generalize hyw : s.y w = yw at *
        generalize hbc : backC s.y (predF xs s.y) z m = bc at *
        generalize plA xs yw = p at *
        obtain ⟨pf, pt, pd, pk⟩ := p
        simp only at hrow
        repeat' (first | ((first | apply Ba | (apply Bb; (· rfl); (· rfl)) | (apply Bc; (· exact nxE)) | (apply Bd; (· rfl); (· rfl); (· exact nxE))); (· first | exact Ok.ld1 rfl rfl rfl hY | exact Ok.append1 (row := [DI (yw : Nat)]) rfl rfl (by decide) rfl rfl hbl rfl rfl rfl (by rfl) (by omega) (by omega) | exact Ok.pe)) | ((first | apply Ca | (apply Cb; (· exact nxE))); (· first | exact Ok.append1 (row := [DI (yw : Nat)]) rfl rfl (by decide) rfl rfl hbl rfl rfl rfl (by rfl) (by omega) (by omega) | exact Ok.e0)) | refine Sx ?_ | (refine Sy (fun h => ?_) (fun h => ?_) <;> try (exfalso; omega; done)) | refine Sz (fun h => ?_) (fun h => ?_))
        refine ⟨⟨m + 1, by omega⟩, ?_, by simp only; omega⟩
        simp only
        rw [hw2]
        (apply Le.headZ [_, _, _] rfl)
        all_goals (try dsimp only [srcs])
        (case' hfr | hob => (repeat' (first | refine La ?_ ?_ | exact Lc | refine Lo ?_ | refine ⟨⟨_, rfl, ?_⟩, ?_⟩ | refine Lx ?_)))
        all_goals (first | ((first | (rw [hbs]; done) | rfl)) | exact Ld)
end
section
open Go Go.RowKit
attribute [local irreducible] AL AD AW OpOk Le AC thenQ blockQ EndQ
set_option maxHeartbeats 1000000 in
theorem circuitSums_ac [Mode] (ev:Int) (n:Nat) (xs:List Pl) (l:List Nat) (hx:xs.length≤100000000) (hv:∀ p∈xs,okPl n p) (hl:∀ i∈l,i<xs.length) (hn:l.length≤1000):AC Tryz.prog 48 [grD ev xs,IL (cN l)] H0 (.tup [I (sumD xs l),I (sumT xs l)]) H0:=by
 have hll:(IR (cN l)).length=l.length:=by simp
 refine AC.of_body 0 Tryz.func48 rfl (fun l h=>absurd rfl h) (fun C hC=>?_)
 have hD:∀ l,¬ C.D0 l:=fun l h=>(hC l).1 h rfl
 simp only[startFr,Tryz.ntmps48,List.length_cons,List.length_nil,Nat.reduceAdd,Nat.reduceSub,List.replicate_succ,List.replicate_zero,List.cons_append,List.nil_append]
 repeat' (first|((first|apply Ba|(apply Bb;(· rfl);(· rfl))|(apply Bc;(· exact nxE))|(apply Bd;(· rfl);(· rfl);(· exact nxE)));(· first|exact Ok.pe))|((first|apply Ca|(apply Cb;(· exact nxE)));(· first|exact Ok.e0))|refine Sx ?_|(refine Sy (fun h=>?_) (fun h=>?_)<;>try (exfalso;omega;done))|refine Sz (fun h=>?_) (fun h=>?_))
 refine AW.loop (X:={k:Nat // k≤l.length}) (fun k=>⟨[Oo,Oo,Bx 2 0,Oo,Oo,Oo,I (sumD xs (l.take k.1)),I (sumT xs (l.take k.1)),Oo,Oo,IL (cN l),I l.length,I (k.1:Nat),Oo,Oo,Oo,Oo,Oo,Oo,Oo,Oo,Oo,Oo,Oo,Oo,Oo,Oo,Oo,Oo,Oo,Oo,Oo,Oo,Oo,Oo],heapL [(⟨0,[]⟩,⟨0,[]⟩,⟨2,[[I ev,PL xs]]⟩)],900⟩) (fun k=>l.length - k.1) ⟨0,Nat.zero_le _⟩ ?_ (fun k=>?_)
 ·
  (apply Le.headZ [_] rfl)
  all_goals (try dsimp only[srcs])
  (case' hfr|hob=>(repeat' (first|refine La ?_ ?_|exact Lc|refine Lo ?_|refine ⟨⟨_,rfl,?_⟩,?_⟩|refine Lx ?_)))
  all_goals (first|(rfl)|exact Ld)
 obtain ⟨k,hk⟩:=k
 simp only
 by_cases hlt:k<l.length
 ·obtain ⟨i,hi⟩:∃ i,l[k]? = some i:=⟨l[k],by simp⟩
  have hil:=hl i (List.mem_of_getElem? hi)
  have hrow:=IR_get (xs:=cN l) (k:=k) (x:=(i:Int)) (by simp[hi])
  have hpl:=pl_row (n:=n) hil
  have ho:=okPl_at hv i hil
  obtain ⟨_,_,⟨h5,h6⟩,⟨h7,h8⟩⟩:=ho
  have hs:=sums_take hv hl k
  have hsd:=sumD_snoc (xs:=xs) hi
  have hsk:=sumT_snoc (xs:=xs) hi
  generalize sumD xs (l.take k)=D at hs hsd ⊢
  generalize sumT xs (l.take k)=K at hs hsk ⊢
  generalize plA xs i=p at *
  obtain ⟨pf,pt,pd,pk⟩:=p
  simp only at hpl h5 h6 h7 h8 hsd hsk
  repeat' (first|((first|apply Ba|(apply Bb;(· rfl);(· rfl))|(apply Bc;(· exact nxE))|(apply Bd;(· rfl);(· rfl);(· exact nxE)));(· first|exact Ok.pe))|((first|apply Ca|(apply Cb;(· exact nxE)));(· first|exact Ok.e0))|refine Sx ?_|(refine Sy (fun h=>?_) (fun h=>?_)<;>try (exfalso;omega;done))|refine Sz (fun h=>?_) (fun h=>?_))
  refine ⟨⟨k+1,by omega⟩,?_,by simp only;omega⟩
  (apply Le.headZ [_] rfl)
  all_goals (try dsimp only[srcs])
  (case' hfr|hob=>(repeat' (first|refine La ?_ ?_|exact Lc|refine Lo ?_|refine ⟨⟨_,rfl,?_⟩,?_⟩|refine Lx ?_)))
  all_goals (first|((first|(rw[hsd];done)|(rw[hsk];done)))|exact Ld)
 ·
  have hkn:k=l.length:=by omega
  subst hkn
  rw[List.take_length]
  repeat' (first|((first|apply Ba|(apply Bb;(· rfl);(· rfl))|(apply Bc;(· exact nxE))|(apply Bd;(· rfl);(· rfl);(· exact nxE)));(· first|exact Ok.pe))|((first|apply Ca|(apply Cb;(· exact nxE)));(· first|exact Ok.e0))|refine Sx ?_|(refine Sy (fun h=>?_) (fun h=>?_)<;>try (exfalso;omega;done))|refine Sz (fun h=>?_) (fun h=>?_))
  refine Yb ?_
  (apply Le.headZ (hs:=[]) [] rfl)
  all_goals (try dsimp only[srcs])
  (case' hfr=>(repeat' (first|refine La ?_ ?_|exact Lc|refine Lo ?_|refine ⟨⟨_,rfl,?_⟩,?_⟩|refine Lx ?_)))
  all_goals (first|exact Ld|exact trivial|(rfl))
theorem absOf_ac [Mode] (a:Int) (ha:0≤a):AC Tryz.prog 106 [I a] H0 (I a) H0:=by
 refine AC.of_body 0 Tryz.func106 rfl (fun l h=>absurd rfl h) (fun C hC=>?_)
 have hD:∀ l,¬ C.D0 l:=fun l h=>(hC l).1 h rfl
 simp only[startFr,Tryz.ntmps106,List.length_cons,List.length_nil,Nat.reduceAdd,Nat.reduceSub,List.replicate_succ,List.replicate_zero,List.cons_append,List.nil_append]
 repeat' (first|((first|apply Ba|(apply Bb;(· rfl);(· rfl))|(apply Bc;(· exact nxE))|(apply Bd;(· rfl);(· rfl);(· exact nxE)));(· first|exact Ok.pe))|((first|apply Ca|(apply Cb;(· exact nxE)));(· first|exact Ok.e0))|refine Sx ?_|(refine Sy (fun h=>?_) (fun h=>?_)<;>try (exfalso;omega;done))|refine Sz (fun h=>?_) (fun h=>?_))
 refine Ya ?_
 (apply Le.headZ (hs:=[]) [] rfl)
 all_goals (try dsimp only[srcs])
 (case' hfr=>(repeat' (first|refine La ?_ ?_|exact Lc|refine Lo ?_|refine ⟨⟨_,rfl,?_⟩,?_⟩|refine Lx ?_)))
 all_goals (first|exact Ld|exact trivial|(rfl))
theorem divisorOf_ac [Mode] (a b:Nat) (ha:a≤1000000000000000000) (hb:b≤1000000000000000000):AC Tryz.prog 72 [I a,I b] H0 (I (Nat.gcd a b:Nat)) H0:=by
 refine AC.of_body 0 Tryz.func72 rfl (fun l h=>absurd rfl h) (fun C hC=>?_)
 have hD:∀ l,¬ C.D0 l:=fun l h=>(hC l).1 h rfl
 simp only[startFr,Tryz.ntmps72,List.length_cons,List.length_nil,Nat.reduceAdd,Nat.reduceSub,List.replicate_succ,List.replicate_zero,List.cons_append,List.nil_append]
 repeat' (first|((first|apply Ba|(apply Bb;(· rfl);(· rfl))|(apply Bc;(· exact nxE))|(apply Bd;(· rfl);(· rfl);(· exact nxE)));(· first|exact Ok.pe))|((first|apply Ca|(apply Cb;(· exact nxE)));(· first|exact Ok.e0))|refine Sx ?_|(refine Sy (fun h=>?_) (fun h=>?_)<;>try (exfalso;omega;done))|refine Sz (fun h=>?_) (fun h=>?_))
 refine AW.loop (X:={p:Nat × Nat // Nat.gcd p.1 p.2=Nat.gcd a b∧p.1≤1000000000000000000∧p.2≤1000000000000000000}) (fun p=>⟨[I (p.1.1:Nat),I (p.1.2:Nat),Oo,Oo,Oo,Oo,Oo,Oo,Oo,Oo,Oo,Oo],heapL [],900⟩) (fun p=>p.1.2) ⟨(a,b),rfl,ha,hb⟩ ?_ (fun p=>?_)
 ·
  (apply Le.headZ [] rfl)
  all_goals (try dsimp only[srcs])
  (case' hfr|hob=>(repeat' (first|refine La ?_ ?_|exact Lc|refine Lo ?_|refine ⟨⟨_,rfl,?_⟩,?_⟩|refine Lx ?_)))
  all_goals (first|(rfl)|exact Ld)
 obtain ⟨⟨x,y⟩,hg,hx,hy⟩:=p
 simp only at hg hx hy ⊢
 by_cases h0:0<y
 ·
  repeat' (first|((first|apply Ba|(apply Bb;(· rfl);(· rfl))|(apply Bc;(· exact nxE))|(apply Bd;(· rfl);(· rfl);(· exact nxE)));(· first|exact Ok.rem rfl rfl rfl (by omega)|exact Ok.pe))|((first|apply Ca|(apply Cb;(· exact nxE)));(· first|exact Ok.e0))|refine Sx ?_|(refine Sy (fun h=>?_) (fun h=>?_)<;>try (exfalso;omega;done))|refine Sz (fun h=>?_) (fun h=>?_))
  refine ⟨⟨(y,x % y),by rw[← hg,Nat.gcd_comm y (x % y),← Nat.gcd_rec,Nat.gcd_comm],hy,by have:=Nat.mod_lt x h0;simp only;omega⟩,?_,by simp only;exact Nat.mod_lt x h0⟩
  (apply Le.headZ [] rfl)
  all_goals (try dsimp only[srcs])
  (case' hfr|hob=>(repeat' (first|refine La ?_ ?_|exact Lc|refine Lo ?_|refine ⟨⟨_,rfl,?_⟩,?_⟩|refine Lx ?_)))
  all_goals (first|(rfl)|exact Ld)
 ·
  obtain rfl:y=0:=by omega
  rw[Nat.gcd_zero_right] at hg
  subst hg
  repeat' (first|((first|apply Ba|(apply Bb;(· rfl);(· rfl))|(apply Bc;(· exact nxE))|(apply Bd;(· rfl);(· rfl);(· exact nxE)));(· first|exact Ok.pe))|((first|apply Ca|(apply Cb;(· exact nxE)));(· first|exact Ok.e0))|refine Sx ?_|(refine Sy (fun h=>?_) (fun h=>?_)<;>try (exfalso;omega;done))|refine Sz (fun h=>?_) (fun h=>?_))
  refine Ya ?_
  (apply Le.headZ (hs:=[]) [] rfl)
  all_goals (try dsimp only[srcs])
  (case' hfr=>(repeat' (first|refine La ?_ ?_|exact Lc|refine Lo ?_|refine ⟨⟨_,rfl,?_⟩,?_⟩|refine Lx ?_)))
  all_goals (first|exact Ld|exact trivial|(rfl))
theorem ratioOf_ac [Mode] (d m:Int) (hd:0≤d∧d≤1000000000000000) (hm:0<m∧m≤1000000000000000):AC Tryz.prog 49 [I d,I m] H0 (.agg [I (redR d m).1,I (redR d m).2]) H0:=by
 obtain ⟨e1,e2,e3⟩:=redR_div hd.1 hm.1
 have hG:=divisorOf_ac d.toNat m.toNat (by omega) (by omega)
 rw[Int.toNat_of_nonneg hd.1,Int.toNat_of_nonneg (Int.le_of_lt hm.1)] at hG
 have hA:=absOf_ac d hd.1
 rw[← e1,← e2]
 generalize ((Nat.gcd d.toNat m.toNat:Nat):Int)=g at *
 refine AC.of_body 0 Tryz.func49 rfl (fun l h=>absurd rfl h) (fun C hC=>?_)
 have hD:∀ l,¬ C.D0 l:=fun l h=>(hC l).1 h rfl
 simp only[startFr,Tryz.ntmps49,List.length_cons,List.length_nil,Nat.reduceAdd,Nat.reduceSub,List.replicate_succ,List.replicate_zero,List.cons_append,List.nil_append]
 repeat' (first|((first|apply Ba|(apply Bb;(· rfl);(· rfl))|(apply Bc;(· exact nxE))|(apply Bd;(· rfl);(· rfl);(· exact nxE)));(· first|exact Kz rfl rfl (hA) (Ad An)|exact Kz rfl rfl (hG) (Ad (Ad An))|exact Ok.quo rfl rfl rfl (by omega) (by omega) (by omega)|exact Ok.pe))|((first|apply Ca|(apply Cb;(· exact nxE)));(· first|exact Ok.e0))|refine Sx ?_|(refine Sy (fun h=>?_) (fun h=>?_)<;>try (exfalso;omega;done))|refine Sz (fun h=>?_) (fun h=>?_))
 (refine end1p (by first|exact .inl rfl|exact .inr rfl) rfl (by first|exact rT rfl|exact rCA rfl rfl rfl rfl (by simp)|exact rCC rfl rfl rfl rfl rfl) ?_ (Le.head ([]) (by first|exact fun l h=>absurd h (hD l)|(intro l h;rcases hD l h with rfl;simp[tauL])|(intro l h;rcases hD l h with rfl|rfl<;>simp[tauL];done)|(intro l h;rcases hD l h with rfl|rfl|rfl<;>simp[tauL])) ?_ ?_ (by simp) (by simp) (by simp[AllP]) (n':=1000));(· rfl))<;>(repeat' (first|exact trivial|exact ARs.nil|refine ARs.cons ?_ ?_|exact AR.dead _|exact AR.dd _|exact AR.i (by (try dsimp only);omega)|exact AR.ptr _ _ _ _ (by simp[heapL,upd])|exact AR.own _ _ _ _ (by simp[heapL,upd])|refine AR.ownE _ _ _ ?_ (by simp[heapL,upd])|refine ⟨⟨_,rfl,?_⟩,?_⟩|exact ObA.data|refine ObA.box ?_|refine ObA.frE ?_|refine ObA.dataE ?_|refine ARs.agg ?_|refine ARs.tup ?_|exact AR.clo' ARs.nil ARs.nil|exact AR.clo' ARs.nil (hca _ _)))
structure CtSt (xs:List Pl) (r:Int × Int):Prop where
 n1:0≤r.1∧r.1≤100000
 n2:0<r.2∧r.2≤50
 red:Int.gcd r.1 r.2=1
 walk:∃ c u,c≠[]∧Wk xs u c u∧0≤wgt xs r.1 r.2 c
theorem CtSt.fin [Mode] {n:Nat}{xs:List Pl} (hl:Live xs n) {r:Int × Int} (h:CtSt xs r) (hb:bfRun xs r (n+1) bf0=none):Go.Proofs.YtkpoclbnnpglfaaGreat.maxR xs=r:=by
 obtain ⟨c,u,h1,h2,h3⟩:=h.walk
 have hs:=(bf_spec (n:=n) (r:=r) (fun i hi=>by have:=(hl.pl i hi).2.1;simp only[plTo];omega)).1 hb
 exact maxR_eq hl (MaxR.of_walk h.n2.1 h.red (fun c hc=>hs c _ hc.wk) h1 h2 h3)
theorem rank_up [Mode] {r:Int × Int} (h1:0≤r.1∧r.1≤100000):rank 1000 r≤100000*1000000:=by
 unfold rank
 refine Int.le_trans (Int.ediv_le_self _ (Int.mul_nonneg (by omega) (by omega))) ?_
 omega
theorem CtSt.next [Mode] {n:Nat}{xs:List Pl} (hl:Live xs n) (hn:n≤10) {r:Int × Int} (h:CtSt xs r) {s:BF} (hb:bfRun xs r (n+1) bf0=some s):∃ c,btL xs n s=c∧0<c.length∧c.length≤n∧(∀ i∈c,i<xs.length)∧(0≤sumD xs c∧sumD xs c≤100000)∧(0<sumT xs c∧sumT xs c≤50)∧CtSt xs (redR (sumD xs c) (sumT xs c))∧rank 1000 r<rank 1000 (redR (sumD xs c) (sumT xs c)):=by
 obtain ⟨v,z,L,hF⟩:=bf_found (n:=n) (fun i hi=>by have:=(hl.pl i hi).2.1;simp only[plTo];omega) hb
 have hw:Wk xs (z:Nat) (backC s.y (predF xs s.y) z L).reverse (z:Nat):=by
  have:=back_walk (xs:=xs) (y:=s.y) (z:=z) (fun p hp=>by
   obtain ⟨i,hi,rfl⟩:=List.getElem_of_mem hp
   have:=hl.pl i hi
   simp only[plA,List.getElem?_eq_getElem hi,Option.getD_some] at this
   exact ⟨this.1.1,this.2.1.1⟩) hF.ok L
  have e:iter (predF xs s.y) L z=z:=hF.per.back
  rw[show iter (fun v=>plF xs (s.y v)) L z=z from e] at this
  exact this
 have hlen:(backC s.y (predF xs s.y) z L).reverse.length=L:=by simp[backC]
 have hpos:=hF.pos
 rw[← wgt_rev] at hpos
 have hpL:=hF.per.pos
 have hLn:=hF.Ln
 refine ⟨_,rfl,?_⟩
 rw[btL_eq hF]
 have hpos2:0<wgt xs r.1 r.2 (backC s.y (predF xs s.y) z L).reverse:=hpos
 generalize (backC s.y (predF xs s.y) z L).reverse=c at *
 have hne:c≠[]:=by intro e;rw[e] at hlen;simp at hlen;omega
 have hk:=hl.tok c _ hne hw
 have hsb:=sum_bnd (fun i hi=>(hl.pl i hi).2.2) hw.lt
 have hrd:=hl.red hn (c:=c) (by omega) hw.lt hk
 have h1:=h.n1
 have h2:=h.n2
 exact ⟨by omega,by omega,hw.lt,by omega,by omega,⟨hrd.1,hrd.2.1,hrd.2.2,c,_,hne,hw,by rw[wgt_redR hk];exact Int.le_refl _⟩,rank_redR (M:=1000) h2.1 (by omega) hk (by omega) hpos2⟩
noncomputable def ctFr (xs:List Pl) (n:Nat):Option BF→AV
 | none=>nilS
 | some s=>.own 1 ⟨5,[]⟩ 0 (btL xs n s).length
noncomputable def ctHp (xs:List Pl) (n:Nat):Option BF→HL
 | none=>[]
 | some s=>[(⟨5,[]⟩,⟨5,[]⟩,IO (cN (btL xs n s)))]
noncomputable def btV (xs:List Pl) (n new:Nat):Option BF→AV
 | none=>nilS
 | some s=>.own 1 ⟨new,[0]⟩ 0 (btL xs n s).length
noncomputable def btW (xs:List Pl) (n new:Nat):Option BF→List W
 | none=>[]
 | some s=>[.one ⟨new,[0]⟩ (some (IO (cN (btL xs n s))))]
theorem Ok.bt [Mode] {P:Program}{o:Oper}{A:Operand→AV}{H:Heap}{new:Nat}{fo:Operand}{zs:List Operand}{ts:Array TypeId}{f:FuncId}{caps args:List AV}{lent:List Loc}{xs:List Pl}{n:Nat}{x:Option BF} (ho:o.op = .call { callee:=.value fo,args:=zs.toArray,argTypes:=ts }) [FnBody P f] (hfo:A fo = .clo (.func f) [] caps)
  (hc:AC P f args H0 (btRes xs n x) (btHp xs n x)) (hargs:CA H lent args (zs.map A++caps)):OpOk P o A lent H new (btV xs n new x) (btW xs n new x):=by
 cases x with
 | none=>
  have hc':AC P f args H0 nilS H0:=hc
  exact Ez ho hfo hc' hargs (FreeF.v _) (fun _=>rn_d _ _)
 | some s=>
  have hc':AC P f args H0 (own1 1 (btL xs n s).length) (hp1 (IO (cN (btL xs n s)))):=hc
  exact Eo ho hfo hc' hargs
attribute [local irreducible] btV btW
set_option maxHeartbeats 4000000 in
theorem cycleTime_ac [Mode] (n:Nat) (xs:List Pl) (hg:isEG n xs=true):AC Tryz.prog 33 [grD n xs] H0 (.tup [.agg [I (ctR n xs).1,I (ctR n xs).2],I (bcC n xs)]) H0:=by
 obtain ⟨n',hnn,h1,h2,h3,h4⟩:=isEG_ok hg
 obtain rfl:n=n':=by omega
 have hL:=isLive_ac n xs h2 (by omega) h4
 have hH:=hasCircuit_ac n xs h2 (by omega) h4
 have hCi:=hasC_any h2 h4
 cases hl:liveB n xs
 ·have hC:liveI n xs=5:=by unfold liveI;rw[if_pos hg,hl];rfl
  have hB:bcC n xs=5:=by unfold bcC;rw[hC];rfl
  unfold ctR
  rw[hB,if_neg (by decide)]
  rw[hl] at hL
  refine AC.of_body 0 Tryz.func33 rfl (fun l h=>absurd rfl h) (fun C hC=>?_)
  have hD:∀ l,¬ C.D0 l:=fun l h=>(hC l).1 h rfl
  simp only[startFr,Tryz.ntmps33,List.length_cons,List.length_nil,Nat.reduceAdd,Nat.reduceSub,List.replicate_succ,List.replicate_zero,List.cons_append,List.nil_append]
  repeat' (first|((first|apply Ba|(apply Bb;(· rfl);(· rfl))|(apply Bc;(· exact nxE))|(apply Bd;(· rfl);(· rfl);(· exact nxE)));(· first|exact Kz rfl rfl (hL) (Aa (Ad (Ad An)) An)|exact Ok.pe))|((first|apply Ca|(apply Cb;(· exact nxE)));(· first|exact Ok.e0))|refine Sx ?_|(refine Sy (fun h=>?_) (fun h=>?_)<;>try (exfalso;omega;done))|refine Sz (fun h=>?_) (fun h=>?_))
  refine Yb ?_
  (apply Le.headZ (hs:=[]) [] rfl)
  all_goals (try dsimp only[srcs])
  (case' hfr=>(repeat' (first|refine La ?_ ?_|exact Lc|refine Lo ?_|refine ⟨⟨_,rfl,?_⟩,?_⟩|refine Lx ?_)))
  all_goals (first|exact Ld|exact trivial|(rfl))
 ·have hC:liveI n xs=0:=by unfold liveI;rw[if_pos hg,hl];rfl
  have hLv:=live_of h4 hl
  rw[hl] at hL
  by_cases hc:hasC xs
  ·have hB:bcC n xs=0:=by unfold bcC;rw[if_pos hC,if_pos hc]
   unfold ctR
   rw[hB,if_pos rfl]
   rw[hCi.2 hc] at hH
   have hbt:∀ r:Int × Int,CtSt xs r→AC Tryz.prog 43 [grD n xs,.agg [I r.1,I r.2]] H0 (btRes xs n (bfRun xs r (n+1) bf0)) (btHp xs n (bfRun xs r (n+1) bf0)):=fun r hr=>betterCircuit_ac n xs r.1 r.2 h1 h2 h3 h4 hr.n1 ⟨by have:=hr.n2.1;omega,hr.n2.2⟩
   have hst:CtSt xs (0,1):=by
    obtain ⟨c,hcc⟩:=hc
    refine ⟨by decide,by decide,by decide,c,_,hcc.ne,hcc.wk,?_⟩
    rw[wgt_sums]
    have:=(hLv.circ hcc).2.1.1
    simp only;omega
   generalize hM:Go.Proofs.YtkpoclbnnpglfaaGreat.maxR xs=M
   have hb0:AC Tryz.prog 43 [grD n xs,.agg [I 0,I 1]] H0 (btRes xs n (bfRun xs (0,1) (n+1) bf0)) (btHp xs n (bfRun xs (0,1) (n+1) bf0)):=hbt (0,1) hst
   obtain ⟨ob,hob⟩:∃ ob,bfRun xs (0,1) (n+1) bf0=ob:=⟨_,rfl⟩
   rw[hob] at hb0
   refine AC.of_body 0 Tryz.func33 rfl (fun l h=>absurd rfl h) (fun C hC=>?_)
   have hD:∀ l,¬ C.D0 l:=fun l h=>(hC l).1 h rfl
   simp only[startFr,Tryz.ntmps33,List.length_cons,List.length_nil,Nat.reduceAdd,Nat.reduceSub,List.replicate_succ,List.replicate_zero,List.cons_append,List.nil_append]
   repeat' (first|((first|apply Ba|(apply Bb;(· rfl);(· rfl))|(apply Bc;(· exact nxE))|(apply Bd;(· rfl);(· rfl);(· exact nxE)));(· first|exact Kz rfl rfl (hL) (Aa (Ad (Ad An)) An)|exact Kz rfl rfl (hH) (Aa (Ad (Ad An)) An)|exact Ok.bt rfl rfl hb0 (Sa (Sd (Sd Sn)) (Sa (Sd (Sd Sn)) Sn))|exact Ok.pe))|((first|apply Ca|(apply Cb;(· exact nxE)));(· first|exact Ok.bt rfl rfl hb0 (Sa (Sd (Sd Sn)) (Sa (Sd (Sd Sn)) Sn))|exact Ok.e0))|refine Sx ?_|(refine Sy (fun h=>?_) (fun h=>?_)<;>try (exfalso;omega;done))|refine Sz (fun h=>?_) (fun h=>?_))
   refine AW.loop (X:={r:Int × Int // CtSt xs r}) (fun r=>⟨[Oo,Bx 2 0,Bx 2 1,Oo,Bx 2 2,ctFr xs n (bfRun xs r.1 (n+1) bf0),Oo,Oo,Oo,Oo,Oo,Oo,Oo,Oo,Oo,Oo,Oo,Oo,Oo,Oo,Oo,Oo,Oo,Oo,Oo,Oo,Oo,Oo,Oo,Oo],heapL ([(⟨0,[]⟩,⟨0,[]⟩,⟨2,[[I n,PL xs]]⟩),(⟨1,[]⟩,⟨1,[]⟩,⟨2,[[I 0,I 0]]⟩),(⟨2,[]⟩,⟨2,[]⟩,⟨2,[[I r.1.1,I r.1.2]]⟩)]++ctHp xs n (bfRun xs r.1 (n+1) bf0)),900⟩) (fun r=>(1000000000000 - rank 1000 r.1).toNat) ⟨(0,1),hst⟩ ?_ (fun r=>?_)
   ·
    simp only
    rw[hob]
    cases ob with
    | none=>
     simp only[btV,btW,ctFr,ctHp,List.append_nil]
     (apply Le.headZ [_,_,_] rfl)
     all_goals (try dsimp only[srcs])
     (case' hfr|hob=>(repeat' (first|refine La ?_ ?_|exact Lc|refine Lo ?_|refine ⟨⟨_,rfl,?_⟩,?_⟩|refine Lx ?_)))
     all_goals (first|(rfl)|exact Ld)
    | some s=>
     simp only[btV,btW,ctFr,ctHp,List.cons_append,List.nil_append]
     (apply Le.headZ [_,_,_,_] rfl)
     all_goals (try dsimp only[srcs])
     (case' hfr|hob=>(repeat' (first|refine La ?_ ?_|exact Lc|refine Lo ?_|refine ⟨⟨_,rfl,?_⟩,?_⟩|refine Lx ?_)))
     all_goals (first|(rfl)|exact Ld)
   obtain ⟨r,hr⟩:=r
   simp only
   cases hbf:bfRun xs r (n+1) bf0 with
   | none=>
    have hfin:=hr.fin hLv hbf
    obtain rfl:M=r:=hM.symm.trans hfin
    obtain ⟨q1,q2⟩:=M
    simp only[ctFr,ctHp,List.append_nil]
    repeat' (first|((first|apply Ba|(apply Bb;(· rfl);(· rfl))|(apply Bc;(· exact nxE))|(apply Bd;(· rfl);(· rfl);(· exact nxE)));(· first|exact Ok.neqNilV rfl rfl rfl|exact Ok.pe))|((first|apply Ca|(apply Cb;(· exact nxE)));(· first|exact Ok.e0))|refine Sx ?_|(refine Sy (fun h=>?_) (fun h=>?_)<;>try (exfalso;omega;done))|refine Sz (fun h=>?_) (fun h=>?_))
    refine Yb ?_
    (apply Le.headZ (hs:=[]) [] rfl)
    all_goals (try dsimp only[srcs])
    (case' hfr=>(repeat' (first|refine La ?_ ?_|exact Lc|refine Lo ?_|refine ⟨⟨_,rfl,?_⟩,?_⟩|refine Lx ?_)))
    all_goals (first|exact Ld|exact trivial|(rfl))
   | some s=>
    obtain ⟨c,hcb,c1,c2,c3,c4,c5,c6,c7⟩:=hr.next hLv h2 hbf
    simp only[ctFr,ctHp,List.cons_append,List.nil_append]
    rw[hcb]
    have hS:=circuitSums_ac n n xs c (by omega) h4 c3 (by omega)
    have hR:=ratioOf_ac (sumD xs c) (sumT xs c) (by omega) (by omega)
    have hbn:=hbt _ c6
    have hup:=rank_up c6.n1
    have hcl:(IR (cN c)).length=c.length:=by simp
    generalize redR (sumD xs c) (sumT xs c)=r' at *
    obtain ⟨ob',hob'⟩:∃ ob',bfRun xs r' (n+1) bf0=ob':=⟨_,rfl⟩
    rw[hob'] at hbn
    obtain ⟨q1,q2⟩:=r
    obtain ⟨p1,p2⟩:=r'
    simp only at hbn hR
    repeat' (first|((first|apply Ba|(apply Bb;(· rfl);(· rfl))|(apply Bc;(· exact nxE))|(apply Bd;(· rfl);(· rfl);(· exact nxE)));(· first|exact Ok.neqNilO rfl rfl rfl (by omega)|exact Ez rfl rfl (hS) (Sa (Sd (Sd Sn)) (Sw Sn))|exact Kz rfl rfl (hR) (Ad (Ad An))|exact Ok.bt rfl rfl hbn (Sa (Sd (Sd Sn)) (Sa (Sd (Sd Sn)) Sn))|exact Ok.pe))|((first|apply Ca|(apply Cb;(· exact nxE)));(· first|exact Ok.bt rfl rfl hbn (Sa (Sd (Sd Sn)) (Sa (Sd (Sd Sn)) Sn))|exact Ok.e0))|refine Sx ?_|(refine Sy (fun h=>?_) (fun h=>?_)<;>try (exfalso;omega;done))|refine Sz (fun h=>?_) (fun h=>?_))
    refine ⟨⟨(p1,p2),c6⟩,?_,by simp only;omega⟩
    simp only
    rw[hob']
    cases ob' with
    | none=>
     simp only[btV,btW,ctFr,ctHp,List.append_nil]
     (apply Le.headZ [_,_,_] rfl)
     all_goals (try dsimp only[srcs])
     (case' hfr|hob=>(repeat' (first|refine La ?_ ?_|exact Lc|refine Lo ?_|refine ⟨⟨_,rfl,?_⟩,?_⟩|refine Lx ?_)))
     all_goals (first|(rfl)|exact Ld)
    | some s=>
     simp only[btV,btW,ctFr,ctHp,List.cons_append,List.nil_append]
     (apply Le.headZ [_,_,_,_] rfl)
     all_goals (try dsimp only[srcs])
     (case' hfr|hob=>(repeat' (first|refine La ?_ ?_|exact Lc|refine Lo ?_|refine ⟨⟨_,rfl,?_⟩,?_⟩|refine Lx ?_)))
     all_goals (first|(rfl)|exact Ld)
  ·have hB:bcC n xs=4:=by unfold bcC;rw[if_pos hC,if_neg hc]
   unfold ctR
   rw[hB,if_neg (by decide)]
   have hf:(xs.any fun p=>decide (0≤tdF xs p.t p.f.toNat))=false:=by
    cases h:(xs.any fun p=>decide (0≤tdF xs p.t p.f.toNat))
    ·rfl
    ·exact absurd (hCi.1 h) hc
   rw[hf] at hH
   refine AC.of_body 0 Tryz.func33 rfl (fun l h=>absurd rfl h) (fun C hC=>?_)
   have hD:∀ l,¬ C.D0 l:=fun l h=>(hC l).1 h rfl
   simp only[startFr,Tryz.ntmps33,List.length_cons,List.length_nil,Nat.reduceAdd,Nat.reduceSub,List.replicate_succ,List.replicate_zero,List.cons_append,List.nil_append]
   repeat' (first|((first|apply Ba|(apply Bb;(· rfl);(· rfl))|(apply Bc;(· exact nxE))|(apply Bd;(· rfl);(· rfl);(· exact nxE)));(· first|exact Kz rfl rfl (hL) (Aa (Ad (Ad An)) An)|exact Kz rfl rfl (hH) (Aa (Ad (Ad An)) An)|exact Ok.pe))|((first|apply Ca|(apply Cb;(· exact nxE)));(· first|exact Ok.e0))|refine Sx ?_|(refine Sy (fun h=>?_) (fun h=>?_)<;>try (exfalso;omega;done))|refine Sz (fun h=>?_) (fun h=>?_))
   refine Yb ?_
   (apply Le.headZ (hs:=[]) [] rfl)
   all_goals (try dsimp only[srcs])
   (case' hfr=>(repeat' (first|refine La ?_ ?_|exact Lc|refine Lo ?_|refine ⟨⟨_,rfl,?_⟩,?_⟩|refine Lx ?_)))
   all_goals (first|exact Ld|exact trivial|(rfl))
end
section
theorem circ_of_walk1 {xs:List Pl}{rn rd:Int}:∀ (n:Nat) (c:List Nat) (u:Int),c.length≤n→c≠[]→Wk xs u c u→0<wgt xs rn rd c→∃ c',Circ xs c'∧0<wgt xs rn rd c'
 | 0,c,u,hn,hc,_,_=>absurd (List.length_eq_zero_iff.1 (by omega)) hc
 | n+1,c,u,hn,hc,hw,h0=>by
  by_cases hnd:(c.map fun i=>(plA xs i).f).Nodup
  ·obtain ⟨i,hi,hmin⟩:=exists_least (g:=fun i=>(plA xs i).f) hc
   obtain ⟨a,b,rfl⟩:=List.append_of_mem hi
   rw[Wk.app] at hw
   obtain ⟨m,hw1,h1,h2,h3⟩:=hw
   refine ⟨i :: b++a,⟨by simp,?_,?_,?_⟩,?_⟩
   ·have:firstF xs (i :: b++a)=m:=h2
    rw[this,Wk.app]
    exact ⟨u,⟨h1,h2,h3⟩,hw1⟩
   ·rw[List.map_append] at hnd ⊢
    rw[List.nodup_append] at hnd ⊢
    exact ⟨hnd.2.1,hnd.1,fun x hx y hy e=>hnd.2.2 y hy x hx e.symm⟩
   ·intro j hj
    exact hmin j (by simp only[List.mem_append] at hj ⊢;exact hj.symm)
   ·rw[wgt_app] at h0 ⊢;omega
  ·obtain ⟨a,i,b,j,e,rfl,hij⟩:=not_nodup_split hnd
   rw[Wk.app] at hw
   obtain ⟨m,hw1,hw2⟩:=hw
   rw[Wk.app] at hw1
   obtain ⟨m2,hwa,hwb⟩:=hw1
   have hm:m2=(plA xs i).f:=hwb.2.1.symm
   have hm2:m=(plA xs j).f:=hw2.2.1.symm
   have hA:Wk xs m2 (i :: b) m2:=by rw[hm2,← hij,← hm] at hwb;exact hwb
   have hB:Wk xs u (a++j :: e) u:=by rw[Wk.app];exact ⟨m2,hwa,by rw[hm,hij,← hm2];exact hw2⟩
   rw[wgt_app,wgt_app] at h0
   simp only[List.length_append,List.length_cons] at hn
   by_cases h1:0<wgt xs rn rd (i :: b)
   ·exact circ_of_walk1 n (i :: b) m2 (by simp;omega) (by simp) hA h1
   ·exact circ_of_walk1 n (a++j :: e) u (by simp;omega) (by simp) hB (by rw[wgt_app (rn:=rn) (rd:=rd)];omega)
theorem MaxR.walks {xs:List Pl}{r:Int × Int} (h:MaxR xs r) {c:List Nat}{u:Int} (hw:Wk xs u c u):wgt xs r.1 r.2 c≤0:=by
 apply Classical.byContradiction
 intro hn
 cases c with
 | nil=>simp[wgt] at hn
 | cons i c=>
  obtain ⟨c',h1,h2⟩:=circ_of_walk1 (rn:=r.1) (rd:=r.2) (i :: c).length (i :: c) u (Nat.le_refl _) (by simp) hw (by omega)
  have:=h.le c' h1
  omega
def wmS (r:Int × Int) (t:List (List Int)) (p:Pl):List (List Int):=setT t p.t.toNat p.f.toNat (max (entN t p.t.toNat p.f.toNat) (pw r.1 r.2 p))
def wmT (n:Nat) (xs:List Pl) (r:Int × Int):List (List Int):=xs.foldl (wmS r) (botT n n)
theorem wmS_sq {n:Nat}{r:Int × Int}{t:List (List Int)}{p:Pl} (h:Sq t n):Sq (wmS r t p) n:=h.setT
theorem wm_sq {n:Nat}{r:Int × Int}:∀ {xs:List Pl}{t:List (List Int)},Sq t n→Sq (xs.foldl (wmS r) t) n
 | [],_,h=>h
 | _ :: xs,_,h=>wm_sq (xs:=xs) (wmS_sq h)
structure WmOk (n:Nat) (xs:List Pl) (r:Int × Int) (t:List (List Int)):Prop where
 sq:Sq t n
 some:∀ u v,u<n→v<n→entN t v u=BOT∨∃ p∈xs,p.f=(u:Int)∧p.t=(v:Int)∧pw r.1 r.2 p=entN t v u
 all:∀ p∈xs,entN t p.t.toNat p.f.toNat≠BOT∧pw r.1 r.2 p≤entN t p.t.toNat p.f.toNat
theorem wm_ok {n:Nat}{r:Int × Int}{M:Int} (hM:M<1000000000000000):∀ (xs:List Pl),(∀ p∈xs,okPl n p∧-M≤pw r.1 r.2 p)→WmOk n xs r (wmT n xs r):=by
 intro xs
 have key:∀ (zs:List Pl) (ys:List Pl) (t:List (List Int)),WmOk n ys r t→(∀ p∈zs,okPl n p∧-M≤pw r.1 r.2 p)→WmOk n (ys++zs) r (zs.foldl (wmS r) t):=by
  intro zs
  induction zs with
  | nil=>intro ys t h _;simpa using h
  | cons p zs ih=>
   intro ys t h hz
   obtain ⟨⟨⟨g1,g2⟩,⟨g3,g4⟩,_⟩,g5⟩:=hz p (by simp)
   have hp1:p.t.toNat<n:=by omega
   have hp2:p.f.toNat<n:=by omega
   have hent:∀ a b,entN (wmS r t p) a b=if a=p.t.toNat∧b=p.f.toNat then max (entN t p.t.toNat p.f.toNat) (pw r.1 r.2 p) else entN t a b:=fun a b=>entN_setT h.sq hp1 hp2 a b
   have:=ih (ys++[p]) (wmS r t p) ⟨wmS_sq h.sq,fun u v hu hv=>?_,fun q hq=>?_⟩ (fun q hq=>hz q (by simp[hq]))
   ·simpa using this
   ·rw[hent]
    by_cases e:v=p.t.toNat∧u=p.f.toNat
    ·rw[if_pos e]
     obtain ⟨e1,e2⟩:=e
     subst e1 e2
     by_cases hm:pw r.1 r.2 p≤entN t p.t.toNat p.f.toNat
     ·rw[show max (entN t p.t.toNat p.f.toNat) (pw r.1 r.2 p)=entN t p.t.toNat p.f.toNat by omega]
      rcases h.some p.f.toNat p.t.toNat hp2 hp1 with h1|⟨q,h1,h2⟩
      ·exact .inl h1
      ·exact .inr ⟨q,by simp[h1],h2⟩
     ·rw[show max (entN t p.t.toNat p.f.toNat) (pw r.1 r.2 p)=pw r.1 r.2 p by omega]
      exact .inr ⟨p,by simp,by omega,by omega,rfl⟩
    ·rw[if_neg e]
     rcases h.some u v hu hv with h1|⟨q,h1,h2⟩
     ·exact .inl h1
     ·exact .inr ⟨q,by simp[h1],h2⟩
   ·rw[hent]
    by_cases e:q.t.toNat=p.t.toNat∧q.f.toNat=p.f.toNat
    ·rw[if_pos e]
     refine ⟨fun e2=>?_,?_⟩
     ·simp only[BOT] at e2;omega
     ·rcases List.mem_append.1 hq with hq|hq
      ·have:=(h.all q hq).2
       rw[e.1,e.2] at this
       omega
      ·simp at hq;subst hq;omega
    ·rw[if_neg e]
     rcases List.mem_append.1 hq with hq|hq
     ·exact h.all q hq
     ·simp at hq;subst hq;exact absurd ⟨rfl,rfl⟩ e
 intro hx
 have:=key xs [] (botT n n) ⟨Sq.bot n,fun u v hu hv=>.inl (entN_bot hv hu),fun p hp=>by cases hp⟩ hx
 exact this
theorem wm_walk {n:Nat}{xs:List Pl}{r:Int × Int}{t:List (List Int)} (h:WmOk n xs r t):∀ {c:List Nat}{u v:Nat},u<n→v<n→(∀ x∈c,x<n)→WM (entN t) u c v→∃ d,Wk xs (u:Int) d (v:Int)∧d≠[]∧wgt xs r.1 r.2 d=wM (entN t) u c v
 | [],u,v,hu,hv,_,hw=>by
  rcases h.some u v hu hv with e|⟨p,hp,h1,h2,h3⟩
  ·exact absurd e hw
  ·obtain ⟨i,hi,rfl⟩:=List.getElem_of_mem hp
   have e:plA xs i=xs[i]:=by simp[plA,hi]
   exact ⟨[i],⟨hi,by rw[e];exact h1,by rw[e];exact h2⟩,by simp,by simp only[wgt,wM];rw[e,h3];omega⟩
 | m :: c,u,v,hu,hv,hc,hw=>by
  have hm:=hc m (by simp)
  obtain ⟨d,g1,_,g3⟩:=wm_walk h hm hv (fun x hx=>hc x (by simp[hx])) hw.2
  rcases h.some u m hu hm with e|⟨p,hp,h1,h2,h3⟩
  ·exact absurd e hw.1
  ·obtain ⟨i,hi,rfl⟩:=List.getElem_of_mem hp
   have e:plA xs i=xs[i]:=by simp[plA,hi]
   exact ⟨i :: d,⟨hi,by rw[e];exact h1,by rw[e,h2];exact g1⟩,by simp,by simp only[wgt,wM];rw[e,h3,g3]⟩
theorem wm_noPos {n:Nat}{xs:List Pl}{r:Int × Int}{t:List (List Int)} (h:WmOk n xs r t) (hr:MaxR xs r):NoPos (entN t) n:=fun u c hu hc hw=>by
 obtain ⟨d,h1,_,h3⟩:=wm_walk h hu hu hc hw
 rw[← h3]
 exact hr.walks h1
end
section
open Go Go.RowKit
attribute [local irreducible] AL AD AW OpOk Le AC thenQ blockQ EndQ
theorem wm_take [Mode] {xs:List Pl}{r:Int × Int}{n k:Nat} (h:k<xs.length):(xs.take (k+1)).foldl (wmS r) (botT n n)=wmS r ((xs.take k).foldl (wmS r) (botT n n)) (plA xs k):=by
 have e:xs[k]? = some (plA xs k):=by simp[plA,h]
 exact take_fold e
theorem wm_bnd [Mode] {n:Nat}{xs:List Pl} (hv:∀ p∈xs,okPl n p) {u1 u2:Int} (h1:0≤u1∧u1≤100000) (h2:0≤u2∧u2≤50) (p:Pl) (hp:p∈xs) : -500000≤pw u1 u2 p∧pw u1 u2 p≤500000:=by
 obtain ⟨i,hi,rfl⟩:=List.getElem_of_mem hp
 have:=plW_le hv h1 h2 i hi
 have e:plA xs i=xs[i]:=by simp[plA,hi]
 rw[e] at this
 unfold pw;omega
set_option maxHeartbeats 2000000 in
theorem l15Weights_ac [Mode] (n:Nat) (xs:List Pl) (u1 u2:Int) (hn:n≤10) (hx:xs.length≤1000) (hv:∀ p∈xs,okPl n p) (h1:0≤u1∧u1≤100000) (h2:0≤u2∧u2≤50):AC Tryz.prog 95 [grD n xs,.agg [I u1,I u2]] H0 (own1 1 n) (hpM 1 (TR (wmT n xs (u1,u2)))):=by
 have hB:=l02Bottom_ac n n (by omega) (by omega)
 refine AC.of_body 0 Tryz.func95 rfl (fun l h=>absurd rfl h) (fun C hC=>?_)
 have hD:∀ l,¬ C.D0 l:=fun l h=>(hC l).1 h rfl
 simp only[startFr,Tryz.ntmps95,List.length_cons,List.length_nil,Nat.reduceAdd,Nat.reduceSub,List.replicate_succ,List.replicate_zero,List.cons_append,List.nil_append]
 repeat' (first|((first|apply Ba|(apply Bb;(· rfl);(· rfl))|(apply Bc;(· exact nxE))|(apply Bd;(· rfl);(· rfl);(· exact nxE)));(· first|exact Tb rfl rfl (hB) (Sd (Sd Sn))|exact Ok.pe))|((first|apply Ca|(apply Cb;(· exact nxE)));(· first|exact Tb rfl rfl (hB) (Sd (Sd Sn))|exact Ok.e0))|refine Sx ?_|(refine Sy (fun h=>?_) (fun h=>?_)<;>try (exfalso;omega;done))|refine Sz (fun h=>?_) (fun h=>?_))
 refine AW.loop (X:={k:Nat // k≤xs.length}) (fun k=>⟨[Oo,Oo,Bx 2 0,Bx 2 1,Oo,.own 1 ⟨2,[]⟩ 0 n,I (k.1:Nat),Oo,Oo,Oo,Oo,Oo,Oo,Oo,Oo,Oo,Oo,Oo,Oo,Oo,Oo,Oo,Oo,Oo,Oo,Oo,Oo,Oo,Oo,Oo,Oo,Oo,Oo,Oo,Oo,Oo,Oo,Oo,Oo,Oo,Oo,Oo,Oo,Oo,Oo,Oo,Oo,Oo,Oo,Oo,Oo,Oo,Oo,Oo,Oo],heapX [(⟨0,[]⟩,⟨0,[]⟩,⟨2,[[I n,PL xs]]⟩),(⟨1,[]⟩,⟨1,[]⟩,⟨2,[[I u1,I u2]]⟩)] [mi1 ⟨2,[]⟩ (TR ((xs.take k.1).foldl (wmS (u1,u2)) (botT n n)))],900⟩) (fun k=>xs.length - k.1) ⟨0,Nat.zero_le _⟩ ?_ (fun k=>?_)
 ·
  (apply Le.headG [_,_] [{ l:=⟨2,[]⟩,k:=1,R:=TR (botT n n),src:=⟨7,[0]⟩,base:=⟨7,[0]⟩ }] (fun _=>False))
  (case' hlen=>rfl)
  (case' hms=>rfl)
  all_goals (try dsimp only[srcs])
  (case' hfr|hob=>(repeat' (first|refine La ?_ ?_|exact Lc|refine Lo ?_|refine ⟨⟨_,rfl,?_⟩,?_⟩|refine Lx ?_)))
  (case' hok=>first|exact ⟨MI.ok_same rfl (Cg),trivial⟩|exact trivial)
  (case' hN=>rfl)
  (case' hS=>rfl)
  all_goals (first|exact Ld|(rfl))
 obtain ⟨k,hk⟩:=k
 simp only
 by_cases hlt:k<xs.length
 ·have hrow:=pl_row (n:=0) hlt
  have hst:=wm_take (r:=(u1,u2)) (n:=n) hlt
  have hpw:=plW_le hv h1 h2 k hlt
  obtain ⟨⟨g1,g2⟩,⟨g3,g4⟩,_⟩:=okPl_at hv k hlt
  have hsq:Sq ((xs.take k).foldl (wmS (u1,u2)) (botT n n)) n:=wm_sq (Sq.bot n)
  generalize hT:(xs.take k).foldl (wmS (u1,u2)) (botT n n)=T at hst hsq
  generalize plA xs k=p at *
  obtain ⟨pf,pt,pd,pk⟩:=p
  obtain ⟨f,rfl⟩:∃ f:Nat,pf=f:=⟨pf.toNat,by simp at g1;omega⟩
  obtain ⟨t,rfl⟩:∃ t:Nat,pt=t:=⟨pt.toNat,by simp at g3;omega⟩
  simp only[Int.toNat_natCast] at hrow g2 g4 hpw
  obtain ⟨r,hr1,hr2,hr3⟩:=hsq.get (show t<n by omega) (show f<n by omega)
  have hr1':(TR T)[t]? = some (IR r):=by simp[hr1]
  have hrl:(IR r).length=n:=by rw[IR_len,hr3]
  have hrf:(IR r)[f]? = some [DI (entN T t f)]:=by simp[hr2]
  repeat' (first|((first|apply Ba|(apply Bb;(· rfl);(· rfl))|(apply Bc;(· exact nxE))|(apply Bd;(· rfl);(· rfl);(· exact nxE)));(· first|exact Ok.ldTn rfl rfl rfl hr1' hrl|exact Ok.ld1 rfl rfl (congrArg (Option.map (dobj 1)) hr1') hrf|exact Ok.st1 rfl rfl (congrArg (Option.map (dobj 1)) hr1') (by omega) (by rw[hrf];rfl) rfl rfl IR_set|exact Ok.pe))|((first|apply Ca|(apply Cb;(· exact nxE)));(· first|exact Ok.st1 rfl rfl (congrArg (Option.map (dobj 1)) hr1') (by omega) (by rw[hrf];rfl) rfl rfl IR_set|exact Ok.e0))|refine Sx ?_|(refine Sy (fun h=>?_) (fun h=>?_)<;>try (exfalso;omega;done))|refine Sz (fun h=>?_) (fun h=>?_))
  refine ⟨⟨k+1,by omega⟩,?_,by simp only;omega⟩
  (apply Le.headG [_,_] [{ l:=⟨2,[]⟩,k:=1,R:=TR ((xs.take (k+1)).foldl (wmS (u1,u2)) (botT n n)),src:=⟨2,[]⟩,base:=⟨2,[]⟩ }] (fun _=>False))
  (case' hlen=>rfl)
  (case' hms=>rfl)
  all_goals (try dsimp only[srcs])
  (case' hfr|hob=>(repeat' (first|refine La ?_ ?_|exact Lc|refine Lo ?_|refine ⟨⟨_,rfl,?_⟩,?_⟩|refine Lx ?_)))
  (case' hok=>first|exact ⟨MI.ok_row (r0:=IR r) (r:=IR (r.set f (max (entN T t f) (u2*pd - u1*pk)))) (by rw[hst,wmS];exact setT_TR hr1) hr1' (by simp) rfl (Cg),trivial⟩|exact trivial)
  (case' hN=>rfl)
  (case' hS=>rfl)
  all_goals (first|exact Ld|(rfl))
 ·
  obtain rfl:k=xs.length:=by omega
  rw[List.take_length]
  repeat' (first|((first|apply Ba|(apply Bb;(· rfl);(· rfl))|(apply Bc;(· exact nxE))|(apply Bd;(· rfl);(· rfl);(· exact nxE)));(· first|exact Ok.pe))|((first|apply Ca|(apply Cb;(· exact nxE)));(· first|exact Ok.e0))|refine Sx ?_|(refine Sy (fun h=>?_) (fun h=>?_)<;>try (exfalso;omega;done))|refine Sz (fun h=>?_) (fun h=>?_))
  refine Ya ?_
  (apply Le.headG [] [{ l:=⟨0,[]⟩,k:=1,R:=TR (wmT n xs (u1,u2)),src:=⟨2,[]⟩,base:=⟨2,[]⟩ }] (fun _=>False))
  (case' hlen=>rfl)
  (case' hms=>rfl)
  all_goals (try dsimp only[srcs])
  (case' hfr|hob=>(repeat' (first|refine La ?_ ?_|exact Lc|refine Lo ?_|refine ⟨⟨_,rfl,?_⟩,?_⟩|refine Lx ?_)))
  (case' hok=>first|exact ⟨MI.ok_same rfl (Cg),trivial⟩|exact trivial)
  (case' hN=>rfl)
  (case' hS=>rfl)
  all_goals (first|exact Ld|(rfl))
end
end Go.Proofs.YtkpoclbnnpglfaaGreat
