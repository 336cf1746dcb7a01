/-
  Walks in the abstract reading: l11Draw.
-/
import Derived.Test.YtkpoclbnnpglfaaGreatKtU4
set_option linter.unusedSimpArgs false
set_option linter.unusedVariables false
namespace Go.Proofs.YtkpoclbnnpglfaaGreat
open Go Go.RowKit
attribute [local irreducible] AL AD AW OpOk Le AC thenQ blockQ EndQ
section
variable {P : Program} {o : Oper} {A : Operand → AV} {H : Heap} {new : Nat}
theorem Ok.bs3 [Mode] {t e:TypeId}{k b:Nat}{z:Value}{x y w:Operand}{n1 n2 n3:Int} (ho:o.op = .buildSlice t 3 #[(0,x),(1,y),(2,w)]) [h:TySlice P t e k b z] (hx:A x=I n1) (hy:A y=I n2) (hw:A w=I n3) (hk:k=1) :
  OpOk P o A [] H new (.own k ⟨new,[]⟩ 0 3) [.one ⟨new,[]⟩ (some (IO [n1,n2,n3]))]:=by
 subst hk
 have:=OpOk.buildSlice (P:=P) (H:=H) (new:=new) (A:=A) [x,y,w] ho rfl rfl (by decide) (by intro p hp;simp at hp;rcases hp with rfl|rfl|rfl<;>simp only[hx,hy,hw]<;>rfl) (by intro p hp;simp at hp;rcases hp with rfl|rfl|rfl<;>simp only[hx,hy,hw]<;>rfl)
 simpa [hx,hy,hw,AV.cells,dobj] using this
theorem Nx [Mode] {fo x y:Operand}{ts:Array TypeId}{f:FuncId}{code:List Int}{s s':Src}{n a:Int} (hc:AC P f [Bx 3 0,I n] (srcH code s) (I a) (srcH code s')) (ho:o.op = .call { callee:=.value fo,args:=#[x,y],argTypes:=ts }) [FnBody P f] (hfo:A fo = .clo (.func f) [] [])
  (hx:A x=Bx 3 0) (hy:A y=I n) (hl:H ⟨0,[]⟩=some (srcO code s)):OpOk P o A [⟨0,[]⟩] H new (I a) [.one ⟨0,[]⟩ (some (srcO code s'))]:=
 OpOk.callM (xs:=[x,y]) ho hfo hc hl rfl (by
  show ARs _ _ _ _ _ [A x,A y]
  rw[hx,hy];exact .cons (AR.ptr 3 ⟨0,[]⟩ 0 0 rfl) (.cons (.dd _) .nil))
theorem Kx [Mode] {fo x y:Operand}{ts:Array TypeId}{f:FuncId}{code:List Int}{s s':Src}{m:Nat}{xs:List Int}{a:Int}{l:Loc} (hc:AC P f [Bx 3 0,.own 1 ⟨1,[]⟩ 0 m] (upd (upd H0 ⟨1,[]⟩ (some (IO xs))) ⟨0,[]⟩ (some (srcO code s))) (I a) (srcH code s')) (ho:o.op = .call { callee:=.value fo,args:=#[x,y],argTypes:=ts }) [FnBody P f] (hfo:A fo = .clo (.func f) [] [])
  (hx:A x=Bx 3 0) (hy:A y = .own 1 l 0 m) (hl:H ⟨0,[]⟩=some (srcO code s)) (hl2:H l=some (IO xs)) (hne:(⟨0,[]⟩:Loc)≠l):OpOk P o A [⟨0,[]⟩,l] H new (I a) [.one l none,.one ⟨0,[]⟩ (some (srcO code s'))]:=
 OpOk.callM2 (xs:=[x,y]) ho hfo hc hl hl2 hne rfl (by
  show ARs _ _ _ _ _ [A x,A y]
  rw[hx,hy]
  refine .cons ?_ (.cons ?_ .nil)
  ·have:=AR.ptr (H:=H) (lent:=fun _=>False) (τ:=two ⟨0,[]⟩ l) (L:=(·∈[(⟨0,[]⟩:Loc),⟨1,[]⟩])) 3 ⟨0,[]⟩ 0 0 (by simp)
   rwa [show two ⟨0,[]⟩ l ⟨0,[]⟩=⟨0,[]⟩ from if_pos rfl] at this
  ·have:=AR.own (H:=H) (lent:=fun _=>False) (τ:=two ⟨0,[]⟩ l) (L:=(·∈[(⟨0,[]⟩:Loc),⟨1,[]⟩])) 1 ⟨1,[]⟩ 0 m (by simp)
   rwa [show two ⟨0,[]⟩ l ⟨1,[]⟩=l from if_neg (by decide)] at this)
end
set_option maxHeartbeats 2000000 in
theorem l11Draw_ac [Mode] (code : List Int) (hc : CodeOk code) (s : Src) (hs : SrcOk code s) : AC Tryz.prog 77 [Bx 3 0] (srcH code s) (.agg [I (dr11 code s).ev, .own 4 ⟨1, []⟩ 0 (dr11 code s).xs.length]) (heapL [(⟨0, []⟩, ⟨0, []⟩, srcO code (dr11 code s).s), (⟨1, []⟩, ⟨1, []⟩, PO (dr11 code s).xs)]) := by
  unfold dr11
  obtain ⟨e, s1, e1, e2, h1, q1, N1⟩ := next_ex hc hs 5
  rw [q1]; simp only
  obtain ⟨m, s2, m1, m2, h2, q2, N2⟩ := next_ex hc h1 9
  rw [q2]; simp only
  obtain ⟨n, rfl⟩ : ∃ n : Nat, m = n := ⟨m.toNat, by omega⟩
  rw [Int.toNat_natCast]
  have hF := drI_ok hc (ev := 1 + e) (by omega) h2 n
  generalize hqF : itr (drF code (1 + e)) n (s2, []) = qF at hF
  show AC _ _ _ (heapL [(⟨0, []⟩, ⟨0, []⟩, srcO code s)]) _ _
  refine AC.of_body 1 Tryz.func77 rfl (fun l h => by simp [heapL, upd] at h; simp [h]) (fun C hC => ?_)
  simp only [startFr, Tryz.ntmps77, List.length_cons, List.length_nil, Nat.reduceAdd, Nat.reduceSub, List.replicate_succ, List.replicate_zero, List.cons_append, List.nil_append]
  have hD : ∀ l, C.D0 l → l = ⟨0, []⟩ := fun l h => by have := (hC l).1 h; simp [heapL, upd] at this; exact this
  repeat' (first | ((first | apply Ba | (apply Bb; (· rfl); (· rfl)) | (apply Bc; (· exact nxE)) | (apply Bd; (· rfl); (· rfl); (· exact nxE))); (· first | exact Nx N1 rfl rfl rfl rfl rfl | exact Nx N2 rfl rfl rfl rfl rfl | exact Ok.pe)) | ((first | apply Ca | (apply Cb; (· exact nxE))); (· first | exact Nx N1 rfl rfl rfl rfl rfl | exact Nx N2 rfl rfl rfl rfl rfl | exact Ok.e0)) | refine Sx ?_ | (refine Sy (fun h => ?_) (fun h => ?_) <;> try (exfalso; omega; done)) | refine Sz (fun h => ?_) (fun h => ?_))
  refine AW.loop (X := {k : Nat // k ≤ n}) (fun k => ⟨[Bx 3 0, Oo, Bx 2 1, Bx 2 2, I ((n : Int) - (k.1 : Nat)), Oo, Oo, Oo, Oo, Oo, Oo, Oo, Oo, Oo, Oo, Oo, Oo, Oo, Oo, Oo, Oo, Oo, Oo, Oo, Oo, Oo, Oo, Oo, Oo, Oo, Oo, Oo, Oo, Oo, Oo, Oo, Oo, Oo, Oo, Oo, Oo, Oo, Oo, Oo, Oo, Oo, Oo, Oo, Oo, Oo, Oo, Oo, Oo, Oo, Oo, Oo, Oo, Oo, Oo, Oo, Oo, Oo, Oo, Oo, Oo, Oo, Oo, Oo, Oo, Oo, Oo, Oo, Oo, Oo, Oo, Oo, Oo, Oo, Oo, Oo, Oo, Oo, Oo, Oo, Oo, Oo, Oo, Oo, Oo, Oo, Oo, Oo, Oo, Oo, Oo, Oo, Oo, Oo, Oo, Oo, Oo, Oo, Oo, Oo, Oo, Oo, Oo, Oo], heapL [(⟨0, []⟩, ⟨0, []⟩, srcO code (itr (drF code (1 + e)) k.1 (s2, [])).1), (⟨1, []⟩, ⟨1, []⟩, ⟨2, [[I 0, nilS]]⟩), (⟨2, []⟩, ⟨2, []⟩, ⟨2, [[I (1 + e), .own 4 ⟨3, []⟩ 0 (itr (drF code (1 + e)) k.1 (s2, [])).2.length]]⟩), (⟨3, []⟩, ⟨3, []⟩, PO (itr (drF code (1 + e)) k.1 (s2, [])).2)], 900⟩) (fun k => n - k.1) ⟨0, Nat.zero_le _⟩ ?_ (fun k => ?_)
  ·
    (apply Le.headZ [_, _, _, _] rfl)
    all_goals (try dsimp only [srcs])
    (case' hfr | hob => (repeat' (first | refine La ?_ ?_ | exact Lc | refine Lo ?_ | refine ⟨⟨_, rfl, ?_⟩, ?_⟩ | refine Lx ?_)))
    all_goals (first | (rfl) | exact Ld)
  obtain ⟨k, hk⟩ := k
  simp only
  by_cases hlt : k < n
  · have hI := drI_ok hc (ev := 1 + e) (by omega) h2 k
    have hst : itr (drF code (1 + e)) (k + 1) (s2, []) = drF code (1 + e) (itr (drF code (1 + e)) k (s2, [])) := rfl
    generalize itr (drF code (1 + e)) k (s2, []) = q at hI hst ⊢
    obtain ⟨s3, ys⟩ := q
    obtain ⟨i1, i2, i3⟩ := hI
    simp only at i1 i2 i3 ⊢
    obtain ⟨a, s4, a1, a2, h4, q4, N4⟩ := next_ex hc i1 (1 + e)
    obtain ⟨b, s5, b1, b2, h5, q5, N5⟩ := next_ex hc h4 (1 + e)
    obtain ⟨d, s6, d1, d2, h6, q6, N6⟩ := next_ex hc h5 12
    obtain ⟨f, s7, f1, f2, h7, q7, N7⟩ := next_ex hc h6 4
    obtain ⟨t, ht⟩ : ∃ t, t = if b ≤ a then s6 else s7 := ⟨_, rfl⟩
    have h8 : SrcOk code t := by rw [ht]; split <;> assumption
    obtain ⟨x, s9, x1, x2, h9, q9, N9⟩ := next_ex hc h8 2
    obtain ⟨y, s10, y1, y2, h10, q10, N10⟩ := next_ex hc h9 3
    have hxy : 0 ≤ x * y ∧ x * y ≤ 2 := by
      have e1 : x ≤ 1 := by omega
      have := Int.mul_nonneg x1 y1
      have := Int.mul_le_mul_of_nonneg_right e1 y1
      omega
    obtain ⟨u, hu⟩ : ∃ u, u = if b ≤ a ∨ f = 0 then s10 else t := ⟨_, rfl⟩
    have h11 : SrcOk code u := by rw [hu]; split <;> assumption
    obtain ⟨z, s12, z1, z2, h12, q12, N12⟩ := next_ex hc h11 30
    have hp : drPl code (1 + e) s3 = (⟨a, b, d, if z = 0 then 0 else if b ≤ a ∨ f = 0 then 1 + x * y else 0⟩, s12) := by
      have h20 : (if b ≤ a ∨ f = 0 then ((1 + x * y, s10) : Int × Src) else (0, t)) = (if b ≤ a ∨ f = 0 then 1 + x * y else 0, u) := by rw [hu]; split <;> rfl
      unfold drPl
      simp only [q4, q5, q6, q7, ← ht, q9, q10, h20, q12]
    have hst2 : itr (drF code (1 + e)) (k + 1) (s2, []) = (s12, ys ++ [⟨a, b, d, if z = 0 then 0 else if b ≤ a ∨ f = 0 then 1 + x * y else 0⟩]) := by
      rw [hst]; unfold drF; rw [hp]
    clear hst hp
    have hyl : (ys.map Pl.row).length = ys.length := List.length_map _
    have hcs : (t = s6 ∧ b ≤ a) ∨ (t = s7 ∧ ¬ b ≤ a) := by rw [ht]; by_cases hb : b ≤ a <;> simp [hb]
    have hcu : (u = s10 ∧ (b ≤ a ∨ f = 0)) ∨ (u = t ∧ ¬ (b ≤ a ∨ f = 0)) := by rw [hu]; by_cases hb : b ≤ a ∨ f = 0 <;> simp [hb]
    clear ht hu
    rcases hcs with ⟨rfl, hb1⟩ | ⟨rfl, hb1⟩ <;> rcases hcu with ⟨rfl, hb2⟩ | ⟨rfl, hb2⟩ <;> try (exfalso; omega; done)
    all_goals
      repeat' (first | ((first | apply Ba | (apply Bb; (· rfl); (· rfl)) | (apply Bc; (· exact nxE)) | (apply Bd; (· rfl); (· rfl); (· exact nxE))); (· first | exact Nx N4 rfl rfl rfl rfl rfl | exact Nx N5 rfl rfl rfl rfl rfl | exact Nx N6 rfl rfl rfl rfl rfl | exact Nx N7 rfl rfl rfl rfl rfl | exact Nx N9 rfl rfl rfl rfl rfl | exact Nx N10 rfl rfl rfl rfl rfl | exact Nx N12 rfl rfl rfl rfl rfl | exact Ok.append1 (row := [DI a, DI b, DI d, DI _]) rfl rfl (by decide) rfl rfl hyl rfl rfl rfl (by rfl) (by omega) (by omega) | exact Ok.pe)) | ((first | apply Ca | (apply Cb; (· exact nxE))); (· first | exact Nx N4 rfl rfl rfl rfl rfl | exact Nx N5 rfl rfl rfl rfl rfl | exact Nx N6 rfl rfl rfl rfl rfl | exact Nx N7 rfl rfl rfl rfl rfl | exact Nx N9 rfl rfl rfl rfl rfl | exact Nx N10 rfl rfl rfl rfl rfl | exact Nx N12 rfl rfl rfl rfl rfl | exact Ok.append1 (row := [DI a, DI b, DI d, DI _]) rfl rfl (by decide) rfl rfl hyl rfl rfl rfl (by rfl) (by omega) (by omega) | exact Ok.e0)) | refine Sx ?_ | (refine Sy (fun h => ?_) (fun h => ?_) <;> try (exfalso; omega; done)) | refine Sz (fun h => ?_) (fun h => ?_))
    all_goals
      refine ⟨⟨k + 1, by omega⟩, ?_, by simp only; omega⟩
      simp only [hst2]
      (apply Le.headZ [_, _, _, _] rfl)
      all_goals (try dsimp only [srcs])
      (case' hfr | hob => (repeat' (first | refine La ?_ ?_ | exact Lc | refine Lo ?_ | refine ⟨⟨_, rfl, ?_⟩, ?_⟩ | refine Lx ?_)))
      all_goals (first | ((simp [Pl.row, *]; done)) | exact Ld)
  · obtain rfl : k = n := by omega
    rw [hqF]
    obtain ⟨s3, ys⟩ := qF
    obtain ⟨i1, i2, i3⟩ := hF
    simp only at i1 i2 i3 ⊢
    have hyl : (ys.map Pl.row).length = ys.length := List.length_map _
    obtain ⟨z, s4, z1, z2, h4, q4, N4⟩ := next_ex hc i1 60
    obtain ⟨a1, s5, _, h5, p1, q5, K1⟩ := pick_ex hc h4 [0, 10, 11] 3 rfl
    obtain ⟨a2, s6, _, h6, p2, q6, K2⟩ := pick_ex hc h4 [-1, 0, 1 + e] 3 rfl
    obtain ⟨a4, s8, _, h8, p4, q8, K4⟩ := pick_ex hc h4 [5, 6, -1] 3 rfl
    obtain rfl : s5 = s6 := q5.symm.trans q6
    obtain rfl : s5 = s8 := q5.symm.trans q8
    obtain ⟨a3, s7, _, h7, p3, q7, K3⟩ := pick_ex hc h5 [-1, 1000, 1001] 3 rfl
    unfold drEnd
    simp only [q4, q5, q7, p1, p2, p3, p4]
    have hm := drMany_ok hc 31 0 (s4, ys) k (by omega) ⟨h4, i2, i3⟩
    obtain ⟨R, hR⟩ : ∃ R, R = drMany code 31 0 (s4, ys) := ⟨_, rfl⟩
    rw [← hR] at hm ⊢
    repeat' (first | ((first | apply Ba | (apply Bb; (· rfl); (· rfl)) | (apply Bc; (· exact nxE)) | (apply Bd; (· rfl); (· rfl); (· exact nxE))); (· first | exact Nx N4 rfl rfl rfl rfl rfl | exact Kx K1 rfl rfl rfl rfl rfl rfl (by decide) | exact Kx K2 rfl rfl rfl rfl rfl rfl (by decide) | exact Kx K3 rfl rfl rfl rfl rfl rfl (by decide) | exact Kx K4 rfl rfl rfl rfl rfl rfl (by decide) | exact Ok.bs3 rfl rfl rfl rfl rfl | exact Ok.append1 (row := [DI _, DI _, DI _, DI _]) rfl rfl (by decide) rfl rfl hyl rfl rfl rfl (by rfl) (by omega) (by omega) | exact Ok.pe)) | ((first | apply Ca | (apply Cb; (· exact nxE))); (· first | exact Nx N4 rfl rfl rfl rfl rfl | exact Kx K1 rfl rfl rfl rfl rfl rfl (by decide) | exact Kx K2 rfl rfl rfl rfl rfl rfl (by decide) | exact Kx K3 rfl rfl rfl rfl rfl rfl (by decide) | exact Kx K4 rfl rfl rfl rfl rfl rfl (by decide) | exact Ok.bs3 rfl rfl rfl rfl rfl | exact Ok.append1 (row := [DI _, DI _, DI _, DI _]) rfl rfl (by decide) rfl rfl hyl rfl rfl rfl (by rfl) (by omega) (by omega) | exact Ok.e0)) | refine Sx ?_ | (refine Sy (fun h => ?_) (fun h => ?_) <;> try (exfalso; omega; done)) | refine Sz (fun h => ?_) (fun h => ?_))
    rotate_left 3
    · rw [if_neg (by assumption), if_neg (by assumption), if_neg (by assumption), if_pos (by assumption)]
      refine AW.loop (X := {p : Nat × RSt // p.1 ≤ 30 ∧ drMany code (31 - p.1) p.1 p.2 = R ∧ RStOk code (k + p.1) p.2}) (fun p => ⟨[Bx 3 0, Oo, Bx 2 1, Bx 2 2, Oo, Oo, I p.1.1, Oo, Oo, Oo, Oo, Oo, Oo, Oo, Oo, Oo, Oo, Oo, Oo, Oo, Oo, Oo, Oo, Oo, Oo, Oo, Oo, Oo, Oo, Oo, Oo, Oo, Oo, Oo, Oo, Oo, Oo, Oo, Oo, Oo, Oo, Oo, Oo, Oo, Oo, Oo, Oo, Oo, Oo, Oo, Oo, Oo, Oo, Oo, Oo, Oo, Oo, Oo, Oo, Oo, Oo, Oo, Oo, Oo, Oo, Oo, Oo, Oo, Oo, Oo, Oo, Oo, Oo, Oo, Oo, Oo, Oo, Oo, Oo, Oo, Oo, Oo, Oo, Oo, Oo, Oo, Oo, Oo, Oo, Oo, Oo, Oo, Oo, Oo, Oo, Oo, Oo, Oo, Oo, Oo, Oo, Oo, Oo, Oo, Oo, Oo, Oo, Oo], heapL [(⟨0, []⟩, ⟨0, []⟩, srcO code p.1.2.1), (⟨1, []⟩, ⟨1, []⟩, ⟨2, [[I 0, nilS]]⟩), (⟨2, []⟩, ⟨2, []⟩, ⟨2, [[I (1 + e), .own 4 ⟨3, []⟩ 0 p.1.2.2.length]]⟩), (⟨3, []⟩, ⟨3, []⟩, PO p.1.2.2)], 900⟩) (fun p => 31 - p.1.1) ⟨(0, s4, ys), by simp, hR.symm, h4, i2, i3⟩ ?_ (fun p => ?_)
      ·
        (apply Le.headZ [_, _, _, _] rfl)
        all_goals (try dsimp only [srcs])
        (case' hfr | hob => (repeat' (first | refine La ?_ ?_ | exact Lc | refine Lo ?_ | refine ⟨⟨_, rfl, ?_⟩, ?_⟩ | refine Lx ?_)))
        all_goals (first | (rfl) | exact Ld)
      obtain ⟨⟨j, s10, us⟩, j1, j2, ⟨g1, g2, g3⟩⟩ := p
      simp only at j1 j2 g1 g2 g3 ⊢
      obtain ⟨y, s11, y1, y2, h11, q11, N11⟩ := next_ex hc g1 9
      have hul : (us.map Pl.row).length = us.length := List.length_map _
      by_cases hlt2 : (j : Int) < 22 + y
      · have hst : drMany code (31 - j) j (s10, us) = drMany code (31 - (j + 1)) (j + 1) (s11, us ++ [⟨0, 0, j, 1⟩]) := by
          rw [show 31 - j = (31 - (j + 1)) + 1 by omega, drMany]
          simp only [q11]
          rw [if_pos hlt2]
        rw [hst] at j2
        repeat' (first | ((first | apply Ba | (apply Bb; (· rfl); (· rfl)) | (apply Bc; (· exact nxE)) | (apply Bd; (· rfl); (· rfl); (· exact nxE))); (· first | exact Nx N11 rfl rfl rfl rfl rfl | exact Ok.append1 (row := [DI 0, DI 0, DI j, DI 1]) rfl rfl (by decide) rfl rfl hul rfl rfl rfl (by rfl) (by omega) (by omega) | exact Ok.pe)) | ((first | apply Ca | (apply Cb; (· exact nxE))); (· first | exact Nx N11 rfl rfl rfl rfl rfl | exact Ok.append1 (row := [DI 0, DI 0, DI j, DI 1]) rfl rfl (by decide) rfl rfl hul rfl rfl rfl (by rfl) (by omega) (by omega) | exact Ok.e0)) | refine Sx ?_ | (refine Sy (fun h => ?_) (fun h => ?_) <;> try (exfalso; omega; done)) | refine Sz (fun h => ?_) (fun h => ?_))
        refine ⟨⟨(j + 1, s11, us ++ [⟨0, 0, j, 1⟩]), by simp only; omega, j2, h11, fun p hp => ?_, by simp; omega⟩, ?_, by simp only; omega⟩
        · rcases List.mem_append.1 hp with h | h
          · exact g2 p h
          · simp at h; subst h; exact ⟨by simp, by simp, by simp only; omega, by simp⟩
        (apply Le.headZ [_, _, _, _] rfl)
        all_goals (try dsimp only [srcs])
        (case' hfr | hob => (repeat' (first | refine La ?_ ?_ | exact Lc | refine Lo ?_ | refine ⟨⟨_, rfl, ?_⟩, ?_⟩ | refine Lx ?_)))
        all_goals (first | ((simp [Pl.row, *]; done)) | exact Ld)
      · have hst : R = (s11, us) := by
          rw [← j2]
          rw [show 31 - j = (31 - (j + 1)) + 1 by omega, drMany]
          simp only [q11]
          rw [if_neg hlt2]
        rw [hst]
        repeat' (first | ((first | apply Ba | (apply Bb; (· rfl); (· rfl)) | (apply Bc; (· exact nxE)) | (apply Bd; (· rfl); (· rfl); (· exact nxE))); (· first | exact Nx N11 rfl rfl rfl rfl rfl | exact Ok.pe)) | ((first | apply Ca | (apply Cb; (· exact nxE))); (· first | exact Nx N11 rfl rfl rfl rfl rfl | exact Ok.e0)) | refine Sx ?_ | (refine Sy (fun h => ?_) (fun h => ?_) <;> try (exfalso; omega; done)) | refine Sz (fun h => ?_) (fun h => ?_))
        refine Ya ?_
        (apply Le.head [(⟨0, []⟩, ⟨0, []⟩, srcO code s11), (⟨1, []⟩, ⟨3, []⟩, PO us)])
        (case' hfr | hob => (repeat' (first | refine La ?_ ?_ | exact Lc | refine Lo ?_ | refine ⟨⟨_, rfl, ?_⟩, ?_⟩ | refine Lx ?_)))
        all_goals (first | exact Ld | ((simp [Pl.row, *]; done)))
    rotate_left 1
    all_goals (first | rw [if_pos (by assumption)] | rw [if_neg (by assumption), if_pos (by assumption)] | rw [if_neg (by assumption), if_neg (by assumption), if_pos (by assumption)] | rw [if_neg (by assumption), if_neg (by assumption), if_neg (by assumption), if_neg (by assumption)])
    (·
      refine Ya ?_
      (apply Le.head [(⟨0, []⟩, ⟨0, []⟩, srcO code s5), (⟨1, []⟩, ⟨3, []⟩, PO ys)])
      (case' hfr | hob => (repeat' (first | refine La ?_ ?_ | exact Lc | refine Lo ?_ | refine ⟨⟨_, rfl, ?_⟩, ?_⟩ | refine Lx ?_)))
      all_goals (first | exact Ld | ((simp [Pl.row, *]; done))))
    (·
      refine Ya ?_
      (apply Le.head [(⟨0, []⟩, ⟨0, []⟩, srcO code s7), (⟨1, []⟩, ⟨920, []⟩, PO _)])
      (case' hfr | hob => (repeat' (first | refine La ?_ ?_ | exact Lc | refine Lo ?_ | refine ⟨⟨_, rfl, ?_⟩, ?_⟩ | refine Lx ?_)))
      all_goals (first | exact Ld | ((simp [Pl.row, *]; done))))
    (·
      refine Ya ?_
      (apply Le.head [(⟨0, []⟩, ⟨0, []⟩, srcO code s5), (⟨1, []⟩, ⟨917, []⟩, PO _)])
      (case' hfr | hob => (repeat' (first | refine La ?_ ?_ | exact Lc | refine Lo ?_ | refine ⟨⟨_, rfl, ?_⟩, ?_⟩ | refine Lx ?_)))
      all_goals (first | exact Ld | ((simp [Pl.row, *]; done))))
    (·
      refine Ya ?_
      (apply Le.head [(⟨0, []⟩, ⟨0, []⟩, srcO code s4), (⟨1, []⟩, ⟨3, []⟩, PO ys)])
      (case' hfr | hob => (repeat' (first | refine La ?_ ?_ | exact Lc | refine Lo ?_ | refine ⟨⟨_, rfl, ?_⟩, ?_⟩ | refine Lx ?_)))
      all_goals (first | exact Ld | ((simp [Pl.row, *]; done))))
end Go.Proofs.YtkpoclbnnpglfaaGreat
