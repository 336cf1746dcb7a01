/-
  Walks in the abstract reading, part 15.
-/
import Derived.Test.YtpgcmpbamlnkkaaGreatKeU14
import Derived.Test.YtpgcmpbamlnkkaaGreatKeA3
section
namespace Go.Proofs.YtpgcmpbamlnkkaaGreat
set_option linter.unusedSimpArgs false
set_option linter.unusedVariables false
open Go Go.RowKit
attribute [local irreducible] AL AD AW OpOk Le AC thenQ blockQ EndQ

def rollF5 (code : List Int) : Nat → Int
  | 0 => IntKind.u64.wrap (IntKind.u64.wrap (501 * 9103) + IntKind.u64.wrap code.length)
  | k + 1 => IntKind.u64.wrap (IntKind.u64.wrap (IntKind.u64.wrap (rollF5 code k * 1099511628211) + IntKind.u64.wrap ((code[k]?).getD 0)) + 5)
set_option maxHeartbeats 4000000 in
theorem roll5_ac (code : List Int) (hc : CodeOk code) : AC Tryz.prog 46 [.d (BD code), U 501] H0 (Bx 3 0) (hp1 (diO code 0 (rollF5 code code.length))) := by
  have hl : (BR code).length = code.length := List.length_map _
  have h6 := hc.len
  have h00 : rollF5 code 0 = IntKind.u64.wrap (IntKind.u64.wrap (501 * 9103) + IntKind.u64.wrap code.length) := rfl
  refine AC.of_body 0 Tryz.func46 rfl (fun l h => absurd rfl h) (fun C hC => ?_)
  have hD : ∀ l, ¬ C.D0 l := fun l h => (hC l).1 h rfl
  simp only [startFr, Tryz.ntmps46, List.length_cons, List.length_nil, Nat.reduceAdd, Nat.reduceSub, List.replicate_succ, List.replicate_zero, List.cons_append, List.nil_append]
  repeat' (first | ((first | apply Ba | (apply Bb; (· rfl); (· rfl)) | (apply Bc; (· exact nxE)) | (apply Bd; (· rfl); (· rfl); (· exact nxE))); (· first | exact Ok.mulW rfl rfl rfl | exact Ok.convII rfl rfl Tryz.underlying77 (by rw [Tryz.underlying3]; rfl) rfl | exact Ok.pe)) | ((first | apply Ca | (apply Cb; (· exact nxE))); (· first | exact Ok.e0)) | refine Sx ?_ | (refine Sy (fun h => ?_) (fun h => ?_) <;> try (exfalso; omega; done)) | refine Sz (fun h => ?_) (fun h => ?_))
  refine AW.loop (X := {k : Nat // k ≤ code.length}) (fun k => ⟨[.d (BD code), Oo, Oo, Oo, Oo, Bx 3 0, I (k.1 : Nat), Oo, Oo, Oo, Oo, Oo, Oo, Oo, Oo, Oo, Oo, Oo, Oo, Oo, Oo, Oo, Oo, Oo, Oo, Oo, Oo, Oo, Oo, Oo, Oo, Oo, Oo, Oo, Oo, Oo, Oo, Oo], heapL [(⟨0, []⟩, ⟨0, []⟩, ⟨3, [[.d (BD code), I 0, U (rollF5 code k.1)]]⟩)], 900⟩) (fun k => code.length - k.1) ⟨0, Nat.zero_le _⟩ ?_ (fun k => ?_)
  ·
    (apply Le.headZ [_] rfl)
    all_goals (try dsimp only [srcs])
    (case' hfr | hob => (repeat' (first | refine La ?_ ?_ | exact Lc | refine Lo ?_ | refine ⟨⟨_, rfl, ?_⟩, ?_⟩ | refine Lx ?_)))
    all_goals (first | (rfl) | exact Ld)
  obtain ⟨k, hk⟩ := k
  simp only
  by_cases hlt : k < code.length
  · obtain ⟨b, hb⟩ : ∃ b, code[k]? = some b := ⟨code[k], by simp⟩
    have hrow : (BR code)[((k : Nat) : Int).toNat]? = some [D.v (.int .u8 b)] := by simp [hb]
    have hst : rollF5 code (k + 1) = IntKind.u64.wrap (IntKind.u64.wrap (IntKind.u64.wrap (rollF5 code k * 1099511628211) + IntKind.u64.wrap b) + 5) := by rw [rollF5, hb]; rfl
    generalize rollF5 code k = h0 at hst ⊢
    repeat' (first | ((first | apply Ba | (apply Bb; (· rfl); (· rfl)) | (apply Bc; (· exact nxE)) | (apply Bd; (· rfl); (· rfl); (· exact nxE))); (· first | exact OpOk.nilCheck rfl rfl | exact Ok.mulW rfl rfl rfl | exact Ok.convII rfl rfl Tryz.underlying77 (by rw [Tryz.underlying5]; rfl) rfl | exact Ok.pe)) | ((first | apply Ca | (apply Cb; (· exact nxE))); (· first | exact Ok.e0)) | refine Sx ?_ | (refine Sy (fun h => ?_) (fun h => ?_) <;> try (exfalso; omega; done)) | refine Sz (fun h => ?_) (fun h => ?_))
    refine ⟨⟨k + 1, by omega⟩, ?_, by simp only; omega⟩
    simp only [hst]
    (apply Le.headZ [_] rfl)
    all_goals (try dsimp only [srcs])
    (case' hfr | hob => (repeat' (first | refine La ?_ ?_ | exact Lc | refine Lo ?_ | refine ⟨⟨_, rfl, ?_⟩, ?_⟩ | refine Lx ?_)))
    all_goals (first | (rfl) | exact Ld)
  · obtain rfl : k = code.length := by omega
    repeat' (first | ((first | apply Ba | (apply Bb; (· rfl); (· rfl)) | (apply Bc; (· exact nxE)) | (apply Bd; (· rfl); (· rfl); (· exact nxE))); (· first | exact Ok.pe)) | ((first | apply Ca | (apply Cb; (· exact nxE))); (· first | exact Ok.e0)) | refine Sx ?_ | (refine Sy (fun h => ?_) (fun h => ?_) <;> try (exfalso; omega; done)) | refine Sz (fun h => ?_) (fun h => ?_))
    refine Ya ?_
    (apply Le.head [(⟨0, []⟩, _, _)])
    (case' hfr | hob => (repeat' (first | refine La ?_ ?_ | exact Lc | refine Lo ?_ | refine ⟨⟨_, rfl, ?_⟩, ?_⟩ | refine Lx ?_)))
    all_goals (first | exact Ld | (rfl))
end Go.Proofs.YtpgcmpbamlnkkaaGreat
end

section
namespace Go.Proofs.YtpgcmpbamlnkkaaGreat
set_option linter.unusedSimpArgs false
set_option linter.unusedVariables false
open Go Go.RowKit

theorem apA_at0 {f : Nat → Nat → Int} {v : Nat → Int} {i : Nat} : ∀ {k : Nat}, apA f v i k = BOT ∨ ∃ j, j < k ∧ apA f v i k = timesB (f i j) (v j)
  | 0 => .inl rfl
  | k + 1 => by
    simp only [apA]
    rcases apA_at0 (f := f) (v := v) (i := i) (k := k) with e | ⟨j, hj, e⟩
    · by_cases h : timesB (f i k) (v k) ≤ apA f v i k
      · left; omega
      · right; exact ⟨k, by omega, by omega⟩
    · by_cases h : timesB (f i k) (v k) ≤ apA f v i k
      · right; exact ⟨j, by omega, by omega⟩
      · right; exact ⟨k, by omega, by omega⟩
theorem wm_kp {a b : Nat → Nat → Int} {n : Nat} (hab : ∀ i j, i < n → j < n → b i j = a i j) : ∀ {r : List Nat} {f v : Nat}, f < n → v < n → (∀ x ∈ r, x < n) → kP a f r → a v (kE f r) ≠ BOT → WM b f r v ∧ wM b f r v = kW a f r + a v (kE f r)
  | [], f, v, hf, hv, _, _, hc => by
    simp only [WM, wM, kW, kE] at hc ⊢
    rw [hab v f hv hf]
    exact ⟨hc, by omega⟩
  | m :: r, f, v, hf, hv, hr, hp, hc => by
    simp only [kP, kE] at hp hc
    obtain ⟨h1, h2⟩ := wm_kp hab (r := r) (f := m) (v := v) (hr m (by simp)) hv (fun x hx => hr x (by simp [hx])) hp.2 hc
    simp only [WM, wM, kW, kE]
    rw [hab m f (hr m (by simp)) hf, h2]
    exact ⟨⟨hp.1, h1⟩, by omega⟩
theorem star_arc {W : Nat → Nat → Int} {n : Nat} {s : Nat → Nat → Int} (hs : StarOk W n s) {i j m : Nat} (hi : i < n) (hj : j < n) (hm : m < n) (hW : W i j ≠ BOT) (hne : s j m ≠ BOT) : s i m ≠ BOT ∧ W i j + s j m ≤ s i m := by
  rcases hs.some m j hm hj with e1 | ⟨e1, e2⟩ | ⟨c, c1, c2, c3⟩
  · exact absurd e1 hne
  · subst e1
    have := hs.all m i [] hm hi (by simp) hW
    simp only [wM] at this
    exact ⟨this.1, by omega⟩
  · have := hs.all m i (c ++ [j]) hm hi (fun x hx => by
      rcases List.mem_append.1 hx with hx | hx
      · exact c2 x hx
      · simp at hx; subst hx; exact hj) (WM.app.2 ⟨c1, hW⟩)
    rw [wM_app] at this
    simp only [wM] at this
    exact ⟨this.1, by omega⟩
theorem wm_last {W : Nat → Nat → Int} {n : Nat} {s : Nat → Nat → Int} (hs : StarOk W n s) {f i : Nat} (hf : f < n) (c : List Nat) (hc : ∀ x ∈ c, x < n) (h : WM W f c i) : ∃ k, k < n ∧ W i k ≠ BOT ∧ s k f ≠ BOT ∧ wM W f c i ≤ s k f + W i k := by
  rcases List.eq_nil_or_concat c with rfl | ⟨d, k, rfl⟩
  · obtain ⟨d1, d2⟩ := hs.dia f hf
    refine ⟨f, hf, h, d1, ?_⟩
    simp only [wM]; omega
  · rw [List.concat_eq_append] at *
    rw [WM.app] at h
    have hk : k < n := hc k (by simp)
    obtain ⟨d1, d2⟩ := hs.all f k d hf hk (fun x hx => hc x (by simp [hx])) h.1
    refine ⟨k, hk, h.2, d1, ?_⟩
    rw [wM_app]
    simp only [wM]; omega
theorem star_last {W : Nat → Nat → Int} {n : Nat} {s : Nat → Nat → Int} (hs : StarOk W n s) (hnp : NoPos W n) {f i : Nat} (hf : f < n) (hi : i < n) (hz : ∃ r : List Nat, (∀ x ∈ r, x < n) ∧ WM W f r f ∧ 0 ≤ wM W f r f) (hne : s i f ≠ BOT) : ∃ k, k < n ∧ W i k ≠ BOT ∧ s k f ≠ BOT ∧ s i f ≤ s k f + W i k := by
  rcases hs.some f i hf hi with e | ⟨e1, e2⟩ | ⟨c, c1, c2, c3⟩
  · exact absurd e hne
  · subst e1
    obtain ⟨r, r1, r2, r3⟩ := hz
    obtain ⟨k, k1, k2, k3, k4⟩ := wm_last hs hf r r1 r2
    exact ⟨k, k1, k2, k3, by omega⟩
  · obtain ⟨k, k1, k2, k3, k4⟩ := wm_last hs hf c c2 c1
    exact ⟨k, k1, k2, k3, by omega⟩
theorem apA_bot {f : Nat → Nat → Int} {v : Nat → Int} {i : Nat} : ∀ {k : Nat}, BOT ≤ apA f v i k
  | 0 => Int.le_refl _
  | k + 1 => by
    have := apA_bot (f := f) (v := v) (i := i) (k := k)
    simp only [apA]; omega
theorem timesB_ge {a p : Int} (ha : a = BOT ∨ -1000000 ≤ a) (hp : -1000000 ≤ p) : BOT ≤ timesB a p := by
  unfold timesB BOT at *
  split <;> omega
/-- A column of the star is kept by the matrix, as far as the mean. -/
theorem ev_eq {F B s : Nat → Nat → Int} {n : Nat} (hs : StarOk B n s) (hnp : NoPos B n) {f : Nat} (hf : f < n) (hz : ∃ r : List Nat, (∀ x ∈ r, x < n) ∧ WM B f r f ∧ 0 ≤ wM B f r f) {p : Int} (hp : -1000000 ≤ p ∧ p ≤ 1000000) {v : Nat → Int} (hv : ∀ j, j < n → v j = s j f) (hb : ∀ j, j < n → v j = BOT ∨ (-1000000 ≤ v j ∧ v j ≤ 1000000))
    (hF : ∀ i k, i < n → k < n → (F i k = BOT ↔ B i k = BOT) ∧ (F i k ≠ BOT → F i k = B i k + p)) {i : Nat} (hi : i < n) : apA F v i n = timesB (v i) p := by
  have hpb : p ≠ BOT := by unfold BOT; omega
  have hge : BOT ≤ timesB (v i) p := timesB_ge ((hb i hi).imp id (·.1)) hp.1
  apply Int.le_antisymm
  · rcases apA_at0 (f := F) (v := v) (i := i) (k := n) with e | ⟨k, hk, e⟩
    · rw [e]; exact hge
    · rw [e]
      by_cases h1 : F i k = BOT ∨ v k = BOT
      · have : timesB (F i k) (v k) = BOT := by unfold timesB; rw [if_pos h1]
        rw [this]; exact hge
      · have h2 : F i k ≠ BOT := fun h => h1 (.inl h)
        have h3 : v k ≠ BOT := fun h => h1 (.inr h)
        have h4 := hF i k hi hk
        have h5 : B i k ≠ BOT := fun h => h2 (h4.1.2 h)
        obtain ⟨a1, a2⟩ := star_arc hs hi hk hf h5 (by rw [← hv k hk]; exact h3)
        rw [← hv i hi] at a1 a2
        rw [← hv k hk] at a2
        have h6 := h4.2 h2
        unfold timesB
        rw [if_neg h1, if_neg (fun h => h.elim a1 hpb)]
        omega
  · by_cases hx : v i = BOT
    · have : timesB (v i) p = BOT := by unfold timesB; rw [if_pos (.inl hx)]
      rw [this]; exact apA_bot
    · obtain ⟨k, k1, k2, k3, k4⟩ := star_last hs hnp hf hi hz (by rw [← hv i hi]; exact hx)
      have h4 := hF i k hi k1
      have h2 : F i k ≠ BOT := fun h => k2 (h4.1.1 h)
      have h6 := h4.2 h2
      rw [← hv k k1] at k3 k4
      rw [← hv i hi] at k4
      have hg := apA_geM (f := F) (v := v) (i := i) (j := k) (k := n) k1
      have e1 : timesB (F i k) (v k) = F i k + v k := by unfold timesB; rw [if_neg (fun h => h.elim h2 k3)]
      have e2 : timesB (v i) p = v i + p := by unfold timesB; rw [if_neg (fun h => h.elim hx hpb)]
      rw [e1] at hg
      rw [e2]
      omega
/-- A shifted vector is kept too. -/
theorem ev_shift {F : Nat → Nat → Int} {x y : Nat → Int} {g : Int} {i : Nat} (hg : -1000000 ≤ g ∧ g ≤ 1000000) : ∀ {k : Nat}, (∀ j, j < k → F i j = BOT ∨ -100000000 ≤ F i j) → (∀ j, j < k → x j = BOT ∨ -1000000 ≤ x j) → (∀ j, j < k → y j = timesB (x j) g) → apA F y i k = timesB (apA F x i k) g ∧ (apA F x i k = BOT ∨ -200000000 ≤ apA F x i k)
  | 0, _, _, _ => ⟨by simp only [apA]; unfold timesB; rw [if_pos (.inl rfl)], .inl rfl⟩
  | k + 1, hF, hx, hy => by
    obtain ⟨e, b⟩ := ev_shift hg (k := k) (fun j hj => hF j (by omega)) (fun j hj => hx j (by omega)) (fun j hj => hy j (by omega))
    have h1 := hF k (by omega)
    have h2 := hx k (by omega)
    simp only [apA]
    rw [e, hy k (by omega)]
    generalize apA F x i k = m at *
    generalize F i k = w at *
    generalize x k = z at *
    clear e hF hx hy
    unfold timesB BOT at *
    have hgb : ¬ g = -1000000000000000 := by omega
    by_cases c1 : w = -1000000000000000 <;> by_cases c2 : z = -1000000000000000 <;> by_cases c3 : m = -1000000000000000 <;> simp [c1, c2, c3, hgb] <;> (repeat' split) <;> omega
end Go.Proofs.YtpgcmpbamlnkkaaGreat
end

section
namespace Go.Proofs.YtpgcmpbamlnkkaaGreat
set_option linter.unusedSimpArgs false
set_option linter.unusedVariables false
open Go Go.RowKit

theorem ev_bnd0 {t : List (List Int)} (h : evC t = 0) : ((-1000000 ≤ (evR t).1 ∧ (evR t).1 ≤ 1000000) ∧ (0 < (evR t).2 ∧ (evR t).2 ≤ 10)) ∧ ((evX t).length = t.length ∧ 1 ≤ t.length ∧ ∀ v ∈ evX t, v = BOT ∨ (-1000000 ≤ v ∧ v ≤ 1000000)) := by
  obtain ⟨hz, hall, eX, eR⟩ := ev_ok h
  obtain ⟨hs, hc, hi, _, _⟩ := cm_ok hz
  have hMt := isSq_ok hs
  obtain ⟨_, _, _, h4⟩ := kmR_ok hMt.b hMt.le hc
  rw [eX, eR]
  refine ⟨⟨?_, h4⟩, coL_len, hMt.pos, fun v hv => isVal_iff.1 (List.all_eq_true.1 hall v hv)⟩
  unfold isRt at hi
  exact wi_iff.1 hi
theorem eigB_iff {t : List (List Int)} {r : Int × Int} {x : List Int} : eigB t r x = true ↔ askB t r x = true ∧ someB x = true ∧ ∀ i, i < t.length → apA (entN (shT t t.length 0 r.2)) (egV x) i t.length = timesB (egV x i) r.1 := by
  unfold eigB
  rw [Bool.and_eq_true, Bool.and_eq_true, List.all_eq_true, and_assoc]
  have hq : ∀ i, i < t.length → (egQ t r x i = true ↔ apA (entN (shT t t.length 0 r.2)) (egV x) i t.length = timesB (egV x i) r.1) := fun i hi => by
    unfold egQ egY
    rw [decide_eq_true_eq, List.getD_eq_getElem?_getD, rowF_get hi, List.getD_eq_getElem?_getD]
    rfl
  constructor
  · rintro ⟨h1, h2, h3⟩
    exact ⟨h1, h2, fun i hi => (hq i hi).1 (h3 i (List.mem_range.2 hi))⟩
  · rintro ⟨h1, h2, h3⟩
    exact ⟨h1, h2, fun i hi => (hq i (List.mem_range.1 hi)).2 (h3 i (List.mem_range.1 hi))⟩
theorem someB_iff {x : List Int} : someB x = true ↔ ∃ j, j < x.length ∧ egV x j ≠ BOT := by
  unfold someB
  rw [List.any_eq_true]
  constructor
  · rintro ⟨a, ha, hb⟩
    obtain ⟨j, hj, rfl⟩ := List.mem_iff_getElem.1 ha
    refine ⟨j, hj, ?_⟩
    unfold egV BOT
    rw [List.getElem?_eq_getElem hj]
    simpa using hb
  · rintro ⟨j, hj, hb⟩
    refine ⟨x[j], List.getElem_mem hj, ?_⟩
    unfold egV BOT at hb
    rw [List.getElem?_eq_getElem hj] at hb
    simpa using hb
theorem eig_ok {t : List (List Int)} (h : evC t = 0) : eigB t (evR t) (evX t) = true := by
  obtain ⟨⟨hp, hq⟩, hl, hn1, hb⟩ := ev_bnd0 h
  obtain ⟨hz, hall, eX, eR⟩ := ev_ok h
  obtain ⟨k1, k2, k3, k4, k5⟩ := cm_ok hz
  have hM := isSq_ok k1
  have hle := hM.le
  obtain ⟨f, r, e1, hcy, e2⟩ := best_ne hM.b hM.le k2
  obtain ⟨m1, m2, m3, m4⟩ := kmR_ok hM.b hM.le k2
  have hst := starM_k hM k2
  have hrt := kmR_rt hM k2
  rw [eR] at hp hq ⊢
  have hxl : (evX t).length = t.length := hl
  have hxj : ∀ j, j < t.length → egV (evX t) j = starF (entN (shT t t.length (kmR (entN t) t.length).1 (kmR (entN t) t.length).2)) t.length j f := fun j hj => by
    unfold egV
    rw [eX]
    unfold evL
    rw [show bkF t t.length (kmR (entN t) t.length) (-1) = f :: r from e1]
    unfold coL
    rw [rowF_get hj]
    rfl
  have hxb : ∀ j, j < t.length → egV (evX t) j = BOT ∨ (-1000000 ≤ egV (evX t) j ∧ egV (evX t) j ≤ 1000000) := fun j hj => by
    unfold egV
    rw [List.getElem?_eq_getElem (by omega)]
    exact hb _ (List.getElem_mem _)
  have hs := hst.ok
  have hdia := hs.dia f hcy.lt
  obtain ⟨f', r', e1', hcy'⟩ := overF_w (a := shF (entN t) (kmR (entN t) t.length).1 (kmR (entN t) t.length).2) (n := t.length) (over := -1) (by rw [e1]; simp)
  rw [e1] at e1'
  cases e1'
  have hsh := sh_ne (W := entN t) hM.b m3 m4
  have hzz : ∃ r : List Nat, (∀ x ∈ r, x < t.length) ∧ WM (entN (shT t t.length (kmR (entN t) t.length).1 (kmR (entN t) t.length).2)) f r f ∧ 0 ≤ wM (entN (shT t t.length (kmR (entN t) t.length).1 (kmR (entN t) t.length).2)) f r f := by
    obtain ⟨w1, w2⟩ := wm_kp (a := shF (entN t) (kmR (entN t) t.length).1 (kmR (entN t) t.length).2) (b := entN (shT t t.length (kmR (entN t) t.length).1 (kmR (entN t) t.length).2)) (fun i j hi hj => shT_ent hi hj) hcy'.lt hcy'.lt (fun x hx => (hcy'.gt x hx).2) hcy'.path hcy'.close
    refine ⟨r, fun x hx => (hcy'.gt x hx).2, w1, ?_⟩
    have := hcy'.more
    omega
  rw [eigB_iff]
  refine ⟨?_, someB_iff.2 ⟨f, by have := hcy.lt; omega, by rw [hxj f hcy.lt]; exact hdia.1⟩, fun i hi => ?_⟩
  · unfold askB
    rw [k1, isRtG_of hrt, k3, isVec_all hxl hM.pos hM.le, eX, hall, ← eX, hxl]
    simp
  · refine ev_eq hs hst.np hcy.lt hzz (by omega) hxj hxb (fun a b ha hb' => ?_) hi
    rw [shT_ent ha hb', shT_ent ha hb']
    have h0 := sh_ne (W := entN t) hM.b (p := 0) (by omega) m4 b a
    have h1 := hsh b a
    unfold shF
    by_cases hW : entN t a b = BOT
    · rw [if_pos hW, if_pos hW]; exact ⟨⟨fun _ => rfl, fun _ => rfl⟩, fun hh => absurd rfl hh⟩
    · rw [if_neg hW, if_neg hW]
      exact ⟨⟨fun hh => absurd hh (h0 hW), fun hh => absurd hh (h1 hW)⟩, fun _ => by omega⟩
theorem eig_shift {t : List (List Int)} {r : Int × Int} {x : List Int} {g : Int} (hr : DrR r) (he : eigB t r x = true) (hg : -1000000 ≤ g ∧ g ≤ 1000000) (ha : (shV x g).all isVal = true) : eigB t r (shV x g) = true := by
  rw [eigB_iff] at he ⊢
  obtain ⟨h1, h2, h3⟩ := he
  obtain ⟨hM, hs, hrg, hq, hp, hxl, hv, hb⟩ := askB_ok hr h1
  have hle := hM.le
  have hy : ∀ j, j < t.length → egV (shV x g) j = timesB (egV x j) g := fun j hj => by
    unfold egV shV
    rw [rowF_get (by omega), List.getD_eq_getElem?_getD]
    rfl
  have hxb : ∀ j, j < t.length → egV x j = BOT ∨ (-1000000 ≤ egV x j ∧ egV x j ≤ 1000000) := fun j hj => by
    have := hb j hj
    rwa [List.getD_eq_getElem?_getD] at this
  have hpb : r.1 ≠ BOT := by unfold BOT; omega
  have hgb : g ≠ BOT := by unfold BOT; omega
  refine ⟨?_, ?_, fun i hi => ?_⟩
  · unfold askB
    rw [hs, hrg, isVec_all (shV_len.trans hxl) hM.pos hM.le, ha, shV_len, hxl]
    simp
  · obtain ⟨j, j1, j2⟩ := someB_iff.1 h2
    refine someB_iff.2 ⟨j, by rw [shV_len]; exact j1, ?_⟩
    rw [hy j (by omega)]
    have := (hxb j (by omega)).resolve_left j2
    unfold timesB
    rw [if_neg (fun hh => hh.elim j2 hgb)]
    unfold BOT; omega
  · obtain ⟨e, b⟩ := ev_shift (F := entN (shT t t.length 0 r.2)) (x := egV x) (y := egV (shV x g)) (i := i) hg (k := t.length) (fun j hj => by
      have := (eg_apOk hM hq hb).f i j hi hj
      rw [shT_ent hi hj]
      unfold shF
      by_cases hW : entN t i j = BOT
      · rw [if_pos hW]; exact .inl rfl
      · rw [if_neg hW]
        have hbb := hM.b j i hW
        have hmb := mulB (q := r.2) (w := entN t i j) (Q := 10) (M := 1000000) (by omega) hq.2 hbb.1 hbb.2 (by decide)
        right; omega) (fun j hj => (hxb j hj).imp id (·.1)) hy
    rw [e, h3 i hi, hy i hi]
    unfold timesB
    have h4 := hxb i hi
    unfold BOT at *
    by_cases c1 : egV x i = -1000000000000000
    · simp [c1]
    · have := h4.resolve_left c1
      rw [if_neg (show ¬(egV x i = -1000000000000000 ∨ r.1 = -1000000000000000) by omega), if_neg (show ¬(egV x i = -1000000000000000 ∨ g = -1000000000000000) by omega), if_neg (show ¬(egV x i + r.1 = -1000000000000000 ∨ g = -1000000000000000) by omega), if_neg (show ¬(egV x i + g = -1000000000000000 ∨ r.1 = -1000000000000000) by omega)]
      omega
theorem eig_sub {t : List (List Int)} {r : Int × Int} {x : List Int} (h : eigB t r x = true) : subB t r x = true := by
  obtain ⟨e1, e2⟩ := cpI_eq (t := t) (r := r) (x := x)
  rw [← e1, decide_eq_true_eq] at h
  rw [← e2, decide_eq_true_eq]
  omega
end Go.Proofs.YtpgcmpbamlnkkaaGreat
end

section
namespace Go.Proofs.YtpgcmpbamlnkkaaGreat
set_option linter.unusedSimpArgs false
set_option linter.unusedVariables false
open Go Go.RowKit
attribute [local irreducible] AL AD AW OpOk Le AC thenQ blockQ EndQ

theorem svC_cases {x : List Int} {g : Int} (hv : isVec x = true) (hg : -1000000 ≤ g ∧ g ≤ 1000000) : svC x g = 3 ∨ (svC x g = 0 ∧ (shV x g).all isVal = true ∧ svX x g = shV x g) := by
  have hw : wi g (-1000000) 1000000 = true := wi_iff.2 hg
  unfold svX svC
  rw [if_pos hv, if_pos hw]
  by_cases ha : (shV x g).all isVal = true
  · right
    rw [if_pos ha]
    exact ⟨rfl, ha, if_pos rfl⟩
  · left
    rw [if_neg ha]
theorem stX_len {t : List (List Int)} {q : Int} : (stX t q).length ≤ 100000000 ∧ ∀ r ∈ stX t q, r.length ≤ 100000000 := by
  unfold stX
  split
  · rename_i hs
    have hM := isSq_ok hs
    have := hM.le
    split
    · split
      · exact ⟨by rw [shT_sq.l]; omega, (shT_sq10 hM).2⟩
      · simp
    · simp
  · simp
set_option maxRecDepth 100000 in
set_option maxHeartbeats 16000000 in
theorem lawFnEigenvectors_ac (code : List Int) (hl : code.length ≤ 9223372036854775807) (hb : ∀ b ∈ code, 0 ≤ b ∧ b ≤ 255) : AC Tryz.prog 5 [.d (BD code)] H0 (Bo true) H0 := by
  have hBig := big_ac code hl
  by_cases hbig : 4096 < (code.length : Int)
  ·
    refine AC.of_body 0 Tryz.func5 rfl (fun l h => absurd rfl h) (fun C hC => ?_)
    have hD : ∀ l, ¬ C.D0 l := fun l h => (hC l).1 h rfl
    simp only [startFr, Tryz.ntmps5, List.length_cons, List.length_nil, Nat.reduceAdd, Nat.reduceSub, List.replicate_succ, List.replicate_zero, List.cons_append, List.nil_append]
    repeat' (first | ((first | apply Ba | (apply Bb; (· rfl); (· rfl)) | (apply Bc; (· exact nxE)) | (apply Bd; (· rfl); (· rfl); (· exact nxE))); (· first | exact Kz rfl rfl (hBig) (Ad An) | exact Ok.pe)) | ((first | apply Ca | (apply Cb; (· exact nxE))); (· first | exact Ok.e0)) | refine Sx ?_ | (refine Sy (fun h => ?_) (fun h => ?_) <;> try (exfalso; omega; done)) | refine Sz (fun h => ?_) (fun h => ?_))
    refine Ya ?_
    (apply Le.headZ (hs := []) [] rfl)
    all_goals (try dsimp only [srcs])
    (case' hfr => (repeat' (first | refine La ?_ ?_ | exact Lc | refine Lo ?_ | refine ⟨⟨_, rfl, ?_⟩, ?_⟩ | refine Lx ?_)))
    all_goals (first | exact Ld | exact trivial | (rfl))
  have hc : CodeOk code := ⟨by omega, hb⟩
  obtain ⟨t, hT, hG⟩ := drawEigenVector_ex code hc
  obtain ⟨u, q, y, hU, hU6, hq, hy, hG2⟩ := drawIsEigenVector_ex code hc
  obtain ⟨e, k, hE, hG3⟩ := drawStretchMatrix_ex code hc
  have ht : t.length ≤ 100000000 := by have := hT.l; omega
  have hr : ∀ r ∈ t, r.length ≤ 100000000 := fun r h => by have := hT.r r h; omega
  have hu : u.length ≤ 100000000 := by omega
  have hur : ∀ r ∈ u, r.length ≤ 100000000 := fun r h => by have := hU.r r h; omega
  have he : e.length ≤ 100000000 := by have := hE.l; omega
  have her : ∀ r ∈ e, r.length ≤ 100000000 := fun r h => by have := hE.r r h; omega
  have hI := (iEigenVector_ac t ht hr).frz (resD := .tup [IL (evX t), .agg [I (evR t).1, I (evR t).2], I (evC t)]) (ARs.tup (.cons (AR.whole (l := ⟨0, []⟩) rfl trivial (by simp)) (.cons (ARs.agg (.cons (.dd _) (.cons (.dd _) .nil))) (.cons (.dd _) .nil))))
  have hS := sEigenVector_ac t ht hr
  have hI2 := iIsEigenVector_ac u q y hq hu hur (by omega)
  have hS2 := sIsEigenVector_ac u q y hq hu hur (by omega)
  have hI3 := iIsSubEigen_ac u q y hq hu hur (by omega)
  have hS3 := sIsSubEigen_ac u q y hq hu hur (by omega)
  have hM1 := iStretchMatrix_ac e k he her
  have hM2 := sStretchMatrix_ac e k he her
  have hxl : (evX t).length ≤ 100000000 := by
    unfold evX
    split
    · unfold evL; rw [coL_len]; exact ht
    · simp
  have hL1 := likeInts_refl (evX t) (by omega)
  have hL2 := likeTables9_refl (stX e k) stX_len.1 stX_len.2
  have hsub := fun h => eig_sub (t := u) (r := q) (x := y) h
  have hRo := roll5_ac code hc
  obtain ⟨q', di, dh, q1, q2, hBe⟩ := below_ex code hc (rollF5 code code.length) 50 (by omega)
  have hSv := iShiftVector_ac (evX t) (q' - 25) hxl
  have hfin : evC t = 0 → AC Tryz.prog 40 [TL t, .agg [I (evR t).1, I (evR t).2], IL (evX t)] H0 (Bo true) H0 ∧ (svC (evX t) (q' - 25) = 3 ∨ (svC (evX t) (q' - 25) = 0 ∧ AC Tryz.prog 40 [TL t, .agg [I (evR t).1, I (evR t).2], IL (svX (evX t) (q' - 25))] H0 (Bo true) H0)) := fun h0 => by
    obtain ⟨⟨⟨b1, b2⟩, b3, b4⟩, _⟩ := ev_bnd h0
    have hd : DrR (evR t) := ⟨by omega, by omega, fun _ => b4⟩
    have h1 := eig_ok h0
    have hA := iIsEigenVector_ac t (evR t) (evX t) hd ht hr hxl
    rw [h1] at hA
    refine ⟨hA, ?_⟩
    obtain ⟨_, _, _, _, _, _, hv, _⟩ := askB_ok hd (eigB_iff.1 h1).1
    rcases svC_cases hv (g := q' - 25) (by omega) with e3 | ⟨e0, ea, ex⟩
    · exact .inl e3
    · right
      refine ⟨e0, ?_⟩
      have hB := iIsEigenVector_ac t (evR t) (shV (evX t) (q' - 25)) hd ht hr (by rw [shV_len]; exact hxl)
      rw [eig_shift hd h1 (by omega) ea] at hB
      rw [ex]
      exact hB
  generalize evR t = m at *
  generalize evX t = l1 at *
  generalize evC t = c at *
  generalize svX l1 (q' - 25) = l2 at *
  generalize svC l1 (q' - 25) = d at *
  generalize eigB u q y = z at *
  generalize subB u q y = z' at *
  generalize stX e k = s1 at *
  generalize stC e k = s2 at *
  obtain ⟨p1, p2⟩ := q
  obtain ⟨m1, m2⟩ := m
  simp only at hI hS hI2 hS2 hI3 hS3 hG2 hfin
  have hz : z = false ∨ (z = true ∧ z' = true) := by
    cases z
    · exact .inl rfl
    · exact .inr ⟨rfl, hsub rfl⟩
  clear hsub
  by_cases hc0 : c = 0
  · obtain ⟨hA, hB⟩ := hfin hc0
    clear hfin
    rcases hz with rfl | ⟨rfl, rfl⟩ <;> rcases hB with rfl | ⟨rfl, hB⟩
    ·
      refine AC.of_body 0 Tryz.func5 rfl (fun l h => absurd rfl h) (fun C hC => ?_)
      have hD : ∀ l, ¬ C.D0 l := fun l h => (hC l).1 h rfl
      simp only [startFr, Tryz.ntmps5, List.length_cons, List.length_nil, Nat.reduceAdd, Nat.reduceSub, List.replicate_succ, List.replicate_zero, List.cons_append, List.nil_append]
      repeat' (first | ((first | apply Ba | (apply Bb; (· rfl); (· rfl)) | (apply Bc; (· exact nxE)) | (apply Bd; (· rfl); (· rfl); (· exact nxE))); (· first | exact Kz rfl rfl (hBig) (Ad An) | exact Kz rfl rfl (hG) (Ad An) | exact Kz rfl rfl (hG2) (Ad An) | exact Kz rfl rfl (hG3) (Ad An) | exact Kz rfl rfl (hI) (Ad An) | exact Kz rfl rfl (hS) (Ad An) | exact Kz rfl rfl (hM1) (Ad (Ad An)) | exact Kz rfl rfl (hM2) (Ad (Ad An)) | exact Kz rfl rfl (hI2) (Ad (Aa (Ad (Ad An)) (Ad An))) | exact Kz rfl rfl (hS2) (Ad (Aa (Ad (Ad An)) (Ad An))) | exact Kz rfl rfl (hI3) (Ad (Aa (Ad (Ad An)) (Ad An))) | exact Kz rfl rfl (hS3) (Ad (Aa (Ad (Ad An)) (Ad An))) | exact Kz rfl rfl (hL1) (Ad (Ad An)) | exact Kz rfl rfl (hL2) (Ad (Ad An)) | exact Kz rfl rfl (hSv) (Ad (Ad An)) | exact Kz rfl rfl (hA) (Ad (Aa (Ad (Ad An)) (Ad An))) | exact Ok.neqRtS rfl rfl rfl | exact Ok.bneS rfl rfl rfl (by kernel_rfl) | exact Fo hRo rfl rfl rfl ⟨_, rfl⟩ rfl | exact Ol hBe rfl rfl rfl rfl rfl | exact Ok.pe)) | ((first | apply Ca | (apply Cb; (· exact nxE))); (· first | exact Fo hRo rfl rfl rfl ⟨_, rfl⟩ rfl | exact Ol hBe rfl rfl rfl rfl rfl | exact Ok.e0)) | refine Sx ?_ | (refine Sy (fun h => ?_) (fun h => ?_) <;> try (exfalso; omega; done)) | refine Sz (fun h => ?_) (fun h => ?_))
      all_goals
        refine Ya ?_
        (apply Le.headZ (hs := []) [] rfl)
        all_goals (try dsimp only [srcs])
        (case' hfr => (repeat' (first | refine La ?_ ?_ | exact Lc | refine Lo ?_ | refine ⟨⟨_, rfl, ?_⟩, ?_⟩ | refine Lx ?_)))
        all_goals (first | exact Ld | exact trivial | (first | rfl | exact (decide_eq_true (by omega)).symm))
    ·
      refine AC.of_body 0 Tryz.func5 rfl (fun l h => absurd rfl h) (fun C hC => ?_)
      have hD : ∀ l, ¬ C.D0 l := fun l h => (hC l).1 h rfl
      simp only [startFr, Tryz.ntmps5, List.length_cons, List.length_nil, Nat.reduceAdd, Nat.reduceSub, List.replicate_succ, List.replicate_zero, List.cons_append, List.nil_append]
      repeat' (first | ((first | apply Ba | (apply Bb; (· rfl); (· rfl)) | (apply Bc; (· exact nxE)) | (apply Bd; (· rfl); (· rfl); (· exact nxE))); (· first | exact Kz rfl rfl (hBig) (Ad An) | exact Kz rfl rfl (hG) (Ad An) | exact Kz rfl rfl (hG2) (Ad An) | exact Kz rfl rfl (hG3) (Ad An) | exact Kz rfl rfl (hI) (Ad An) | exact Kz rfl rfl (hS) (Ad An) | exact Kz rfl rfl (hM1) (Ad (Ad An)) | exact Kz rfl rfl (hM2) (Ad (Ad An)) | exact Kz rfl rfl (hI2) (Ad (Aa (Ad (Ad An)) (Ad An))) | exact Kz rfl rfl (hS2) (Ad (Aa (Ad (Ad An)) (Ad An))) | exact Kz rfl rfl (hI3) (Ad (Aa (Ad (Ad An)) (Ad An))) | exact Kz rfl rfl (hS3) (Ad (Aa (Ad (Ad An)) (Ad An))) | exact Kz rfl rfl (hL1) (Ad (Ad An)) | exact Kz rfl rfl (hL2) (Ad (Ad An)) | exact Kz rfl rfl (hSv) (Ad (Ad An)) | exact Kz rfl rfl (hA) (Ad (Aa (Ad (Ad An)) (Ad An))) | exact Kz rfl rfl (hB) (Ad (Aa (Ad (Ad An)) (Ad An))) | exact Ok.neqRtS rfl rfl rfl | exact Ok.bneS rfl rfl rfl (by kernel_rfl) | exact Fo hRo rfl rfl rfl ⟨_, rfl⟩ rfl | exact Ol hBe rfl rfl rfl rfl rfl | exact Ok.pe)) | ((first | apply Ca | (apply Cb; (· exact nxE))); (· first | exact Fo hRo rfl rfl rfl ⟨_, rfl⟩ rfl | exact Ol hBe rfl rfl rfl rfl rfl | exact Ok.e0)) | refine Sx ?_ | (refine Sy (fun h => ?_) (fun h => ?_) <;> try (exfalso; omega; done)) | refine Sz (fun h => ?_) (fun h => ?_))
      all_goals
        refine Ya ?_
        (apply Le.headZ (hs := []) [] rfl)
        all_goals (try dsimp only [srcs])
        (case' hfr => (repeat' (first | refine La ?_ ?_ | exact Lc | refine Lo ?_ | refine ⟨⟨_, rfl, ?_⟩, ?_⟩ | refine Lx ?_)))
        all_goals (first | exact Ld | exact trivial | (first | rfl | exact (decide_eq_true (by omega)).symm))
    ·
      refine AC.of_body 0 Tryz.func5 rfl (fun l h => absurd rfl h) (fun C hC => ?_)
      have hD : ∀ l, ¬ C.D0 l := fun l h => (hC l).1 h rfl
      simp only [startFr, Tryz.ntmps5, List.length_cons, List.length_nil, Nat.reduceAdd, Nat.reduceSub, List.replicate_succ, List.replicate_zero, List.cons_append, List.nil_append]
      repeat' (first | ((first | apply Ba | (apply Bb; (· rfl); (· rfl)) | (apply Bc; (· exact nxE)) | (apply Bd; (· rfl); (· rfl); (· exact nxE))); (· first | exact Kz rfl rfl (hBig) (Ad An) | exact Kz rfl rfl (hG) (Ad An) | exact Kz rfl rfl (hG2) (Ad An) | exact Kz rfl rfl (hG3) (Ad An) | exact Kz rfl rfl (hI) (Ad An) | exact Kz rfl rfl (hS) (Ad An) | exact Kz rfl rfl (hM1) (Ad (Ad An)) | exact Kz rfl rfl (hM2) (Ad (Ad An)) | exact Kz rfl rfl (hI2) (Ad (Aa (Ad (Ad An)) (Ad An))) | exact Kz rfl rfl (hS2) (Ad (Aa (Ad (Ad An)) (Ad An))) | exact Kz rfl rfl (hI3) (Ad (Aa (Ad (Ad An)) (Ad An))) | exact Kz rfl rfl (hS3) (Ad (Aa (Ad (Ad An)) (Ad An))) | exact Kz rfl rfl (hL1) (Ad (Ad An)) | exact Kz rfl rfl (hL2) (Ad (Ad An)) | exact Kz rfl rfl (hSv) (Ad (Ad An)) | exact Kz rfl rfl (hA) (Ad (Aa (Ad (Ad An)) (Ad An))) | exact Ok.neqRtS rfl rfl rfl | exact Ok.bneS rfl rfl rfl (by kernel_rfl) | exact Fo hRo rfl rfl rfl ⟨_, rfl⟩ rfl | exact Ol hBe rfl rfl rfl rfl rfl | exact Ok.pe)) | ((first | apply Ca | (apply Cb; (· exact nxE))); (· first | exact Fo hRo rfl rfl rfl ⟨_, rfl⟩ rfl | exact Ol hBe rfl rfl rfl rfl rfl | exact Ok.e0)) | refine Sx ?_ | (refine Sy (fun h => ?_) (fun h => ?_) <;> try (exfalso; omega; done)) | refine Sz (fun h => ?_) (fun h => ?_))
      all_goals
        refine Ya ?_
        (apply Le.headZ (hs := []) [] rfl)
        all_goals (try dsimp only [srcs])
        (case' hfr => (repeat' (first | refine La ?_ ?_ | exact Lc | refine Lo ?_ | refine ⟨⟨_, rfl, ?_⟩, ?_⟩ | refine Lx ?_)))
        all_goals (first | exact Ld | exact trivial | (first | rfl | exact (decide_eq_true (by omega)).symm))
    ·
      refine AC.of_body 0 Tryz.func5 rfl (fun l h => absurd rfl h) (fun C hC => ?_)
      have hD : ∀ l, ¬ C.D0 l := fun l h => (hC l).1 h rfl
      simp only [startFr, Tryz.ntmps5, List.length_cons, List.length_nil, Nat.reduceAdd, Nat.reduceSub, List.replicate_succ, List.replicate_zero, List.cons_append, List.nil_append]
      repeat' (first | ((first | apply Ba | (apply Bb; (· rfl); (· rfl)) | (apply Bc; (· exact nxE)) | (apply Bd; (· rfl); (· rfl); (· exact nxE))); (· first | exact Kz rfl rfl (hBig) (Ad An) | exact Kz rfl rfl (hG) (Ad An) | exact Kz rfl rfl (hG2) (Ad An) | exact Kz rfl rfl (hG3) (Ad An) | exact Kz rfl rfl (hI) (Ad An) | exact Kz rfl rfl (hS) (Ad An) | exact Kz rfl rfl (hM1) (Ad (Ad An)) | exact Kz rfl rfl (hM2) (Ad (Ad An)) | exact Kz rfl rfl (hI2) (Ad (Aa (Ad (Ad An)) (Ad An))) | exact Kz rfl rfl (hS2) (Ad (Aa (Ad (Ad An)) (Ad An))) | exact Kz rfl rfl (hI3) (Ad (Aa (Ad (Ad An)) (Ad An))) | exact Kz rfl rfl (hS3) (Ad (Aa (Ad (Ad An)) (Ad An))) | exact Kz rfl rfl (hL1) (Ad (Ad An)) | exact Kz rfl rfl (hL2) (Ad (Ad An)) | exact Kz rfl rfl (hSv) (Ad (Ad An)) | exact Kz rfl rfl (hA) (Ad (Aa (Ad (Ad An)) (Ad An))) | exact Kz rfl rfl (hB) (Ad (Aa (Ad (Ad An)) (Ad An))) | exact Ok.neqRtS rfl rfl rfl | exact Ok.bneS rfl rfl rfl (by kernel_rfl) | exact Fo hRo rfl rfl rfl ⟨_, rfl⟩ rfl | exact Ol hBe rfl rfl rfl rfl rfl | exact Ok.pe)) | ((first | apply Ca | (apply Cb; (· exact nxE))); (· first | exact Fo hRo rfl rfl rfl ⟨_, rfl⟩ rfl | exact Ol hBe rfl rfl rfl rfl rfl | exact Ok.e0)) | refine Sx ?_ | (refine Sy (fun h => ?_) (fun h => ?_) <;> try (exfalso; omega; done)) | refine Sz (fun h => ?_) (fun h => ?_))
      all_goals
        refine Ya ?_
        (apply Le.headZ (hs := []) [] rfl)
        all_goals (try dsimp only [srcs])
        (case' hfr => (repeat' (first | refine La ?_ ?_ | exact Lc | refine Lo ?_ | refine ⟨⟨_, rfl, ?_⟩, ?_⟩ | refine Lx ?_)))
        all_goals (first | exact Ld | exact trivial | (first | rfl | exact (decide_eq_true (by omega)).symm))
  · clear hfin
    rcases hz with rfl | ⟨rfl, rfl⟩
    ·
      refine AC.of_body 0 Tryz.func5 rfl (fun l h => absurd rfl h) (fun C hC => ?_)
      have hD : ∀ l, ¬ C.D0 l := fun l h => (hC l).1 h rfl
      simp only [startFr, Tryz.ntmps5, List.length_cons, List.length_nil, Nat.reduceAdd, Nat.reduceSub, List.replicate_succ, List.replicate_zero, List.cons_append, List.nil_append]
      repeat' (first | ((first | apply Ba | (apply Bb; (· rfl); (· rfl)) | (apply Bc; (· exact nxE)) | (apply Bd; (· rfl); (· rfl); (· exact nxE))); (· first | exact Kz rfl rfl (hBig) (Ad An) | exact Kz rfl rfl (hG) (Ad An) | exact Kz rfl rfl (hG2) (Ad An) | exact Kz rfl rfl (hG3) (Ad An) | exact Kz rfl rfl (hI) (Ad An) | exact Kz rfl rfl (hS) (Ad An) | exact Kz rfl rfl (hM1) (Ad (Ad An)) | exact Kz rfl rfl (hM2) (Ad (Ad An)) | exact Kz rfl rfl (hI2) (Ad (Aa (Ad (Ad An)) (Ad An))) | exact Kz rfl rfl (hS2) (Ad (Aa (Ad (Ad An)) (Ad An))) | exact Kz rfl rfl (hI3) (Ad (Aa (Ad (Ad An)) (Ad An))) | exact Kz rfl rfl (hS3) (Ad (Aa (Ad (Ad An)) (Ad An))) | exact Kz rfl rfl (hL1) (Ad (Ad An)) | exact Kz rfl rfl (hL2) (Ad (Ad An)) | exact Ok.neqRtS rfl rfl rfl | exact Ok.bneS rfl rfl rfl (by kernel_rfl) | exact Ok.pe)) | ((first | apply Ca | (apply Cb; (· exact nxE))); (· first | exact Ok.e0)) | refine Sx ?_ | (refine Sy (fun h => ?_) (fun h => ?_) <;> try (exfalso; omega; done)) | refine Sz (fun h => ?_) (fun h => ?_))
      all_goals
        refine Ya ?_
        (apply Le.headZ (hs := []) [] rfl)
        all_goals (try dsimp only [srcs])
        (case' hfr => (repeat' (first | refine La ?_ ?_ | exact Lc | refine Lo ?_ | refine ⟨⟨_, rfl, ?_⟩, ?_⟩ | refine Lx ?_)))
        all_goals (first | exact Ld | exact trivial | (first | rfl | exact (decide_eq_true (by omega)).symm))
    ·
      refine AC.of_body 0 Tryz.func5 rfl (fun l h => absurd rfl h) (fun C hC => ?_)
      have hD : ∀ l, ¬ C.D0 l := fun l h => (hC l).1 h rfl
      simp only [startFr, Tryz.ntmps5, List.length_cons, List.length_nil, Nat.reduceAdd, Nat.reduceSub, List.replicate_succ, List.replicate_zero, List.cons_append, List.nil_append]
      repeat' (first | ((first | apply Ba | (apply Bb; (· rfl); (· rfl)) | (apply Bc; (· exact nxE)) | (apply Bd; (· rfl); (· rfl); (· exact nxE))); (· first | exact Kz rfl rfl (hBig) (Ad An) | exact Kz rfl rfl (hG) (Ad An) | exact Kz rfl rfl (hG2) (Ad An) | exact Kz rfl rfl (hG3) (Ad An) | exact Kz rfl rfl (hI) (Ad An) | exact Kz rfl rfl (hS) (Ad An) | exact Kz rfl rfl (hM1) (Ad (Ad An)) | exact Kz rfl rfl (hM2) (Ad (Ad An)) | exact Kz rfl rfl (hI2) (Ad (Aa (Ad (Ad An)) (Ad An))) | exact Kz rfl rfl (hS2) (Ad (Aa (Ad (Ad An)) (Ad An))) | exact Kz rfl rfl (hI3) (Ad (Aa (Ad (Ad An)) (Ad An))) | exact Kz rfl rfl (hS3) (Ad (Aa (Ad (Ad An)) (Ad An))) | exact Kz rfl rfl (hL1) (Ad (Ad An)) | exact Kz rfl rfl (hL2) (Ad (Ad An)) | exact Ok.neqRtS rfl rfl rfl | exact Ok.bneS rfl rfl rfl (by kernel_rfl) | exact Ok.pe)) | ((first | apply Ca | (apply Cb; (· exact nxE))); (· first | exact Ok.e0)) | refine Sx ?_ | (refine Sy (fun h => ?_) (fun h => ?_) <;> try (exfalso; omega; done)) | refine Sz (fun h => ?_) (fun h => ?_))
      all_goals
        refine Ya ?_
        (apply Le.headZ (hs := []) [] rfl)
        all_goals (try dsimp only [srcs])
        (case' hfr => (repeat' (first | refine La ?_ ?_ | exact Lc | refine Lo ?_ | refine ⟨⟨_, rfl, ?_⟩, ?_⟩ | refine Lx ?_)))
        all_goals (first | exact Ld | exact trivial | (first | rfl | exact (decide_eq_true (by omega)).symm))
end Go.Proofs.YtpgcmpbamlnkkaaGreat
end
