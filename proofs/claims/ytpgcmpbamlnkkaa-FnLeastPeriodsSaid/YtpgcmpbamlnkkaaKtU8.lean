/-
  Walks in the abstract reading, part 8.
-/
import Derived.Test.YtpgcmpbamlnkkaaKtU7
import Derived.Test.YtpgcmpbamlnkkaaKtU6
import Derived.Test.YtpgcmpbamlnkkaaKtA3
import Derived.Test.YtpgcmpbamlnkkaaKtU4
import Derived.Test.YtpgcmpbamlnkkaaKtU5
section
namespace Go.Proofs.Ytpgcmpbamlnkkaa
set_option linter.unusedSimpArgs false
set_option linter.unusedVariables false
open Go Go.RowKit
attribute [local irreducible] AL AD AW OpOk Le AC thenQ blockQ EndQ

section
variable {P : Program} {o : Oper} {A : Operand → AV} {H : Heap} {new : Nat}
end
/-- A path of the search. -/
structure PathN (n : Nat) (l : List Nat) : Prop where
  ne : l ≠ []
  lt : ∀ v ∈ l, v < n
  nd : l.Nodup
  tl : ∀ v ∈ l.tail, hdN l < v
theorem PathN.snoc {n : Nat} {l : List Nat} (h : PathN n l) {v : Nat} (hv : v < n) (h0 : hdN l < v) (hm : v ∉ l) : PathN n (l ++ [v]) := by
  refine ⟨by simp, fun x hx => ?_, ?_, fun x hx => ?_⟩
  · rcases List.mem_append.1 hx with hx | hx
    · exact h.lt x hx
    · simp at hx; omega
  · rw [List.nodup_append]
    exact ⟨h.nd, by simp, fun x hx y hy e => by simp at hy; subst hy; subst e; exact hm hx⟩
  · rw [hdN_app h.ne]
    rw [List.tail_append_of_ne_nil h.ne] at hx
    rcases List.mem_append.1 hx with hx | hx
    · exact h.tl x hx
    · simp at hx; omega
theorem PathN.mem {n : Nat} {l : List Nat} (h : PathN n l) {v : Nat} (h0 : hdN l < v) : v ∈ l ↔ v ∈ l.tail := by
  cases l with
  | nil => exact absurd rfl h.ne
  | cons x l =>
    have e : hdN (x :: l) = x := rfl
    rw [e] at h0
    simp only [List.tail_cons, List.mem_cons]
    exact ⟨fun h => h.resolve_left (by omega), .inr⟩
end Go.Proofs.Ytpgcmpbamlnkkaa
end

section
namespace Go.Proofs.Ytpgcmpbamlnkkaa
set_option linter.unusedSimpArgs false
set_option linter.unusedVariables false
open Go Go.RowKit
attribute [local irreducible] AL AD AW OpOk Le AC thenQ blockQ EndQ

end Go.Proofs.Ytpgcmpbamlnkkaa
end

section
namespace Go.Proofs.Ytpgcmpbamlnkkaa
set_option linter.unusedSimpArgs false
set_option linter.unusedVariables false

/-- A walk from u along the nodes of a list. -/
def kP (W : Nat → Nat → Int) : Nat → List Nat → Prop
  | _, [] => True
  | u, v :: l => W v u ≠ BOT ∧ kP W v l
def kW (W : Nat → Nat → Int) : Nat → List Nat → Int
  | _, [] => 0
  | u, v :: l => W v u + kW W v l
/-- Its last node. -/
def kE : Nat → List Nat → Nat
  | u, [] => u
  | _, v :: l => kE v l
theorem kE_app : ∀ (a b : List Nat) (u : Nat), kE u (a ++ b) = kE (kE u a) b
  | [], _, _ => rfl
  | v :: a, b, u => kE_app a b v
theorem kP_app {W : Nat → Nat → Int} : ∀ (a b : List Nat) (u : Nat), kP W u (a ++ b) ↔ kP W u a ∧ kP W (kE u a) b
  | [], b, u => by simp [kP, kE]
  | v :: a, b, u => by
    simp only [List.cons_append, kP, kE, kP_app a b v, and_assoc]
theorem kW_app {W : Nat → Nat → Int} : ∀ (a b : List Nat) (u : Nat), kW W u (a ++ b) = kW W u a + kW W (kE u a) b
  | [], b, u => by simp [kW, kE]
  | v :: a, b, u => by
    simp only [List.cons_append, kW, kE, kW_app a b v]; omega
theorem kE_lt {n : Nat} : ∀ {l : List Nat} {u : Nat}, u < n → (∀ x ∈ l, x < n) → kE u l < n
  | [], _, hu, _ => hu
  | v :: l, _, _, hl => kE_lt (l := l) (u := v) (hl v (by simp)) fun x hx => hl x (by simp [hx])
/-- Weight and number of arcs at once. -/
def kV (W : Nat → Nat → Int) (p q : Int) (u : Nat) (l : List Nat) : Int := q * kW W u l - p * l.length
/-- p / q is the greatest mean of a closed walk. -/
structure KMean (W : Nat → Nat → Int) (n : Nat) (p q : Int) : Prop where
  pos : 0 < q
  le : ∀ u l, u < n → (∀ x ∈ l, x < n) → kP W u l → kE u l = u → kV W p q u l ≤ 0
  eq : ∃ u l, u < n ∧ (∀ x ∈ l, x < n) ∧ l ≠ [] ∧ kP W u l ∧ kE u l = u ∧ kV W p q u l = 0
section
variable {W : Nat → Nat → Int} {n : Nat} {M : Int} (hM : 0 ≤ M) (hW : ∀ u v, W v u ≠ BOT → -M ≤ W v u ∧ W v u ≤ M)
include hM hW
omit hM hW in
omit hM hW in
omit hM hW in
omit hM hW in
omit hM hW in
end
end Go.Proofs.Ytpgcmpbamlnkkaa
end

section
namespace Go.Proofs.Ytpgcmpbamlnkkaa
set_option linter.unusedSimpArgs false
set_option linter.unusedVariables false

/-- A written cycle: its first node is its least one; it weighs more than some number. -/
structure CyW (a : Nat → Nat → Int) (n : Nat) (over : Int) (f : Nat) (r : List Nat) : Prop where
  lt : f < n
  gt : ∀ x ∈ r, f < x ∧ x < n
  nd : (f :: r).Nodup
  path : kP a f r
  close : a f (kE f r) ≠ BOT
  more : over < kW a f r + a f (kE f r)
theorem CyW.len {a : Nat → Nat → Int} {n : Nat} {over : Int} {f : Nat} {r : List Nat} (h : CyW a n over f r) : r.length + 1 ≤ n := by
  have := nodup_le n (f :: r) h.nd (fun x hx => by
    rcases List.mem_cons.1 hx with rfl | hx
    · exact h.lt
    · exact (h.gt x hx).2)
  simpa using this
/-! ### Shifted matrices -/
section
variable {W : Nat → Nat → Int} {n : Nat} {p q : Int} (hs : ∀ u v, W v u ≠ BOT → q * W v u - p ≠ BOT)
include hs
omit hs in
end
end Go.Proofs.Ytpgcmpbamlnkkaa
end

section
namespace Go.Proofs.Ytpgcmpbamlnkkaa
set_option linter.unusedSimpArgs false
set_option linter.unusedVariables false

/-- What is held of the star of a matrix without positive cycles. -/
structure KStar (W : Nat → Nat → Int) (n : Nat) (s : Nat → Nat → Int) : Prop where
  at' : ∀ u v, u < n → v < n → s v u = BOT ∨ ∃ l, (∀ x ∈ l, x < n) ∧ kP W u l ∧ kE u l = v ∧ kW W u l = s v u
  ge : ∀ u l, u < n → (∀ x ∈ l, x < n) → kP W u l → s (kE u l) u ≠ BOT ∧ kW W u l ≤ s (kE u l) u
  np : ∀ u l, u < n → (∀ x ∈ l, x < n) → kP W u l → kE u l = u → kW W u l ≤ 0
/-- The arc from u to v is critical. -/
def crit (W s : Nat → Nat → Int) (v u : Nat) : Prop := W v u ≠ BOT ∧ s u v ≠ BOT ∧ W v u + s u v = 0
def kC (W s : Nat → Nat → Int) : Nat → List Nat → Prop
  | _, [] => True
  | u, v :: l => crit W s v u ∧ kC W s v l
theorem kC_path {W s : Nat → Nat → Int} : ∀ {l : List Nat} {u : Nat}, kC W s u l → kP W u l
  | [], _, _ => trivial
  | _ :: _, _, h => ⟨h.1.1, kC_path h.2⟩
section
variable {W s : Nat → Nat → Int} {n : Nat} (h : KStar W n s)
include h
theorem KStar.super {u m v : Nat} (hu : u < n) (hm : m < n) (hv : v < n) (h1 : s m u ≠ BOT) (h2 : s v m ≠ BOT) : s v u ≠ BOT ∧ s m u + s v m ≤ s v u := by
  rcases h.at' u m hu hm with e | ⟨a, a1, a2, a3, a4⟩
  · exact absurd e h1
  · rcases h.at' m v hm hv with e | ⟨b, b1, b2, b3, b4⟩
    · exact absurd e h2
    · have := h.ge u (a ++ b) hu (fun x hx => by
        rcases List.mem_append.1 hx with hx | hx
        · exact a1 x hx
        · exact b1 x hx) ((kP_app a b u).2 ⟨a2, by rw [a3]; exact b2⟩)
      rw [kE_app, a3, b3, kW_app, a3, a4, b4] at this
      exact this
theorem KStar.dia {u : Nat} (hu : u < n) : s u u ≠ BOT ∧ s u u = 0 := by
  have h1 := h.ge u [] hu (by simp) trivial
  simp only [kE, kW] at h1
  refine ⟨h1.1, ?_⟩
  rcases h.at' u u hu hu with e | ⟨l, l1, l2, l3, l4⟩
  · exact absurd e h1.1
  · have := h.np u l hu l1 l2 l3
    omega
theorem KStar.back : ∀ {l : List Nat} {u : Nat}, u < n → (∀ x ∈ l, x < n) → kC W s u l → s u (kE u l) ≠ BOT ∧ - kW W u l ≤ s u (kE u l)
  | [], u, hu, _, _ => by
    have := h.dia hu
    simp only [kE, kW]
    exact ⟨this.1, by omega⟩
  | v :: l, u, hu, hl, hc => by
    have hv := hl v (by simp)
    have hl' : ∀ x ∈ l, x < n := fun x hx => hl x (by simp [hx])
    obtain ⟨g1, g2⟩ := KStar.back (l := l) hv hl' hc.2
    have h3 := h.super (kE_lt hv hl') hv hu g1 hc.1.2.1
    have := hc.1.2.2
    simp only [kE, kW]
    exact ⟨h3.1, by omega⟩
theorem KStar.zero {u : Nat} {l : List Nat} (hu : u < n) (hl : ∀ x ∈ l, x < n) (hc : kC W s u l) (he : kE u l = u) : kW W u l = 0 := by
  have h1 := (h.back hu hl hc).2
  rw [he, (h.dia hu).2] at h1
  have := h.np u l hu hl (kC_path hc) he
  omega
theorem KStar.arc {v u : Nat} (hu : u < n) (hv : v < n) (ha : W v u ≠ BOT) (hs : s u v ≠ BOT) : W v u + s u v ≤ 0 := by
  rcases h.at' v u hv hu with e | ⟨l, l1, l2, l3, l4⟩
  · exact absurd e hs
  · have := h.np u (v :: l) hu (fun x hx => by
      rcases List.mem_cons.1 hx with rfl | hx
      · exact hv
      · exact l1 x hx) ⟨ha, l2⟩ l3
    simp only [kW] at this
    omega
theorem KStar.crit : ∀ {b a : List Nat} {u : Nat}, u < n → (∀ x ∈ a ++ b, x < n) → kP W u (a ++ b) → kE u (a ++ b) = u → kW W u (a ++ b) = 0 → kC W s (kE u a) b
  | [], _, _, _, _, _, _, _ => trivial
  | v :: b, a, u, hu, hl, hp, he, hw => by
    have hv := hl v (by simp)
    have ha : ∀ x ∈ a, x < n := fun x hx => hl x (by simp [hx])
    have hb : ∀ x ∈ b, x < n := fun x hx => hl x (by simp [hx])
    have hp2 := (kP_app a (v :: b) u).1 hp
    have he2 := he
    have hw2 := hw
    rw [kE_app] at he2
    rw [kW_app] at hw2
    simp only [kE] at he2
    simp only [kW] at hw2
    have hm := kE_lt hu ha
    have hge := h.ge v (b ++ a) hv (fun x hx => by
      rcases List.mem_append.1 hx with hx | hx
      · exact hb x hx
      · exact ha x hx) ((kP_app b a v).2 ⟨hp2.2.2, by rw [he2]; exact hp2.1⟩)
    rw [kE_app, he2, kW_app, he2] at hge
    have harc := h.arc hm hv hp2.2.1 hge.1
    refine ⟨⟨hp2.2.1, hge.1, by omega⟩, ?_⟩
    have e : a ++ v :: b = (a ++ [v]) ++ b := by simp
    have := KStar.crit (b := b) (a := a ++ [v]) hu (by rw [← e]; exact hl) (by rw [← e]; exact hp) (by rw [← e]; exact he) (by rw [← e]; exact hw)
    rw [kE_app] at this
    exact this
end
section
variable {W s C : Nat → Nat → Int} {n : Nat} (h : KStar W n s) (hC : ∀ u v, u < n → v < n → (C v u ≠ BOT ↔ crit W s v u))
include h
include hC
end
end Go.Proofs.Ytpgcmpbamlnkkaa
end

section
namespace Go.Proofs.Ytpgcmpbamlnkkaa
set_option linter.unusedSimpArgs false
set_option linter.unusedVariables false
open Go Go.RowKit
attribute [local irreducible] AL AD AW OpOk Le AC thenQ blockQ EndQ

/-- Ratios whose products fit. -/
def smallR (a : Int × Int) : Prop := (0 ≤ a.1 ∧ a.1 ≤ 1000000) ∧ (0 ≤ a.2 ∧ a.2 ≤ 1000000)
theorem smallR.mul {a b : Int × Int} (h : smallR a) (k : smallR b) : (0 ≤ a.1 * b.2 ∧ a.1 * b.2 ≤ 1000000000000) ∧ (0 ≤ b.1 * a.2 ∧ b.1 * a.2 ≤ 1000000000000) :=
  ⟨mul_in h.1 k.2, mul_in k.1 h.2⟩
/-! ### Graphs with a faster place -/
end Go.Proofs.Ytpgcmpbamlnkkaa
end

section
namespace Go.Proofs.Ytpgcmpbamlnkkaa
set_option linter.unusedSimpArgs false
set_option linter.unusedVariables false
open Go Go.RowKit
attribute [local irreducible] AL AD AW OpOk Le AC thenQ blockQ EndQ

end Go.Proofs.Ytpgcmpbamlnkkaa
end

section
namespace Go.Proofs.Ytpgcmpbamlnkkaa
set_option linter.unusedSimpArgs false
set_option linter.unusedVariables false
open Go Go.RowKit

structure LsOk (D : Nat → Nat → Int) (n v K : Nat) (l : Int × Int) : Prop where
  pos : 0 < l.2
  red : Int.gcd l.1 l.2 = 1
  at' : ∃ k, k < K ∧ D k v ≠ BOT ∧ l = redR (D n v - D k v) ((n : Int) - k)
  le : ∀ k, k < K → D k v ≠ BOT → l.1 * ((n : Int) - k) ≤ (D n v - D k v) * l.2
end Go.Proofs.Ytpgcmpbamlnkkaa
end

section
namespace Go.Proofs.Ytpgcmpbamlnkkaa
set_option linter.unusedSimpArgs false
set_option linter.unusedVariables false
open Go Go.RowKit

structure MatOk (t : List (List Int)) (n : Nat) : Prop where
  sq : Sq t n
  pos : 1 ≤ n
  le : n ≤ 10
  b : ∀ u v, entN t v u ≠ BOT → -1000000 ≤ entN t v u ∧ entN t v u ≤ 1000000
theorem mulB {q w Q M : Int} (h1 : 0 ≤ q) (h2 : q ≤ Q) (h3 : -M ≤ w) (h4 : w ≤ M) (hM : 0 ≤ M) : -(Q * M) ≤ q * w ∧ q * w ≤ Q * M := by
  have a1 := Int.mul_le_mul_of_nonneg_left h4 h1
  have a2 := Int.mul_le_mul_of_nonneg_left h3 h1
  have a3 := Int.mul_le_mul_of_nonneg_right h2 hM
  rw [Int.mul_neg] at a2
  omega
section
variable {W : Nat → Nat → Int} {n : Nat} (hW : ∀ u v, W v u ≠ BOT → -1000000 ≤ W v u ∧ W v u ≤ 1000000) (hn : n ≤ 10)
include hW hn
omit hn in
omit hn in
end
end Go.Proofs.Ytpgcmpbamlnkkaa
end

section
namespace Go.Proofs.Ytpgcmpbamlnkkaa
set_option linter.unusedSimpArgs false
set_option linter.unusedVariables false
open Go Go.RowKit
attribute [local irreducible] AL AD AW OpOk Le AC thenQ blockQ EndQ

abbrev hs1 (x : D) : HL := [(⟨0, []⟩, ⟨0, []⟩, ⟨1, [[.d x]]⟩)]
end Go.Proofs.Ytpgcmpbamlnkkaa
end

section
namespace Go.Proofs.Ytpgcmpbamlnkkaa
set_option linter.unusedSimpArgs false
set_option linter.unusedVariables false
open Go Go.RowKit
attribute [local irreducible] AL AD AW OpOk Le AC thenQ blockQ EndQ

/-! ### The best cycle -/
end Go.Proofs.Ytpgcmpbamlnkkaa
end

section
namespace Go.Proofs.Ytpgcmpbamlnkkaa
set_option linter.unusedSimpArgs false
set_option linter.unusedVariables false
open Go Go.RowKit
attribute [local irreducible] AL AD AW OpOk Le AC thenQ blockQ EndQ

end Go.Proofs.Ytpgcmpbamlnkkaa
end

section
namespace Go.Proofs.Ytpgcmpbamlnkkaa
set_option linter.unusedSimpArgs false
set_option linter.unusedVariables false
open Go Go.RowKit
attribute [local irreducible] AL AD AW OpOk Le AC thenQ blockQ EndQ

/-- The greatest of a row's first k products. -/
def apA (f : Nat → Nat → Int) (v : Nat → Int) (i : Nat) : Nat → Int
  | 0 => BOT
  | k + 1 => max (apA f v i k) (timesB (f i k) (v k))
/-- What the entries and the vector must be for the machine's sums. -/
structure ApOk (f : Nat → Nat → Int) (v : Nat → Int) (m n : Nat) : Prop where
  f : ∀ i j, i < m → j < n → f i j = BOT ∨ (-1000000000000000000 ≤ f i j ∧ f i j ≤ 1000000000000000000)
  v : ∀ j, j < n → v j = BOT ∨ (-1000000000000000000 ≤ v j ∧ v j ≤ 1000000000000000000)
set_option maxHeartbeats 4000000 in
theorem timesVector_ac (t : List (List Int)) (m n : Nat) (v : Nat → Int) (ht : Rc t m n) (hm : m ≤ 1000000) (hn : n ≤ 1000000) (ho : ApOk (entN t) v m n) : AC Try.prog 143 [TL t, IL (rowF n v)] H0 (own1 1 m) (hp1 (IO (rowF m fun i => apA (entN t) v i n))) := by
  obtain rfl := ht.l
  have hz := mgF_0 (n := t.length) (f := fun i => apA (entN t) v i n)
  have hvl : (IR (rowF n v)).length = n := by rw [IR_len, rowF_len]
  have hvl2 : (rowF n v).length = n := rowF_len
  refine AC.of_body 0 Try.func143 rfl (fun l h => absurd rfl h) (fun C hC => ?_)
  have hD : ∀ l, ¬ C.D0 l := fun l h => (hC l).1 h rfl
  simp only [startFr, Try.ntmps143, List.length_cons, List.length_nil, Nat.reduceAdd, Nat.reduceSub, List.replicate_succ, List.replicate_zero, List.cons_append, List.nil_append]
  repeat' (first | ((first | apply Ba | (apply Bb; (· rfl); (· rfl)) | (apply Bc; (· exact nxE)) | (apply Bd; (· rfl); (· rfl); (· exact nxE))); (· first | exact Ok.pe)) | ((first | apply Ca | (apply Cb; (· exact nxE))); (· first | exact Ok.e0)) | refine Sx ?_ | (refine Sy (fun h => ?_) (fun h => ?_) <;> try (exfalso; omega; done)) | refine Sz (fun h => ?_) (fun h => ?_))
  refine AW.loop (X := {k : Nat // k ≤ t.length}) (fun k => ⟨[Oo, IL (rowF n v), Oo, Oo, Oo, .own 1 ⟨0, []⟩ 0 t.length, Oo, Oo, Oo, Oo, Oo, Oo, Oo, TL t, I t.length, I (k.1 : Nat), Oo, Oo, Oo, Oo, Oo, Oo, Oo, Oo, Oo, Oo, Oo, Oo, Oo, Oo, Oo, Oo, Oo, Oo, Oo, Oo, Oo, Oo, Oo, Oo, Oo, Oo, Oo, Oo, Oo, Oo, Oo], heapL [(⟨0, []⟩, ⟨0, []⟩, IO (rowF t.length (mixR (fun i => apA (entN t) v i n) (fun _ => 0) k.1)))], 900⟩) (fun k => t.length - k.1) ⟨0, Nat.zero_le _⟩ ?_ (fun k => ?_)
  ·
    (apply Le.headZ [_] rfl)
    all_goals (try dsimp only [srcs])
    (case' hfr | hob => (repeat' (first | refine La ?_ ?_ | exact Lc | refine Lo ?_ | refine ⟨⟨_, rfl, ?_⟩, ?_⟩ | refine Lx ?_)))
    all_goals (first | ((first | exact hz | (rw [hz]; done))) | exact Ld)
  obtain ⟨i, hi⟩ := k
  simp only
  by_cases hlt : i < t.length
  ·
    obtain ⟨r, hr1⟩ : ∃ r, t[i]? = some r := ⟨t[i], by simp⟩
    have hrl0 := ht.r r (List.mem_of_getElem? hr1)
    have hr1' := TR_get hr1
    have hrl : (IR r).length = n := by rw [IR_len, hrl0]
    have hc0 := IRF_get (g := mixR (fun i => apA (entN t) v i n) (fun _ => 0) i) hlt
    have hs1 : (IR (rowF t.length (mixR (fun i => apA (entN t) v i n) (fun _ => 0) i))).set i [DI (-1000000000000000)] = IR (rowF t.length (fun b => if b = i then apA (entN t) v i 0 else mixR (fun i => apA (entN t) v i n) (fun _ => 0) i b)) := by rw [IR_set, rowF_set]; rfl
    repeat' (first | ((first | apply Ba | (apply Bb; (· rfl); (· rfl)) | (apply Bc; (· exact nxE)) | (apply Bd; (· rfl); (· rfl); (· exact nxE))); (· first | exact Ok.st1 rfl rfl rfl (by simp [rowF_len]; omega) (by rw [hc0]; rfl) rfl rfl hs1 | exact Ok.pe)) | ((first | apply Ca | (apply Cb; (· exact nxE))); (· first | exact Ok.st1 rfl rfl rfl (by simp [rowF_len]; omega) (by rw [hc0]; rfl) rfl rfl hs1 | exact Ok.e0)) | refine Sx ?_ | (refine Sy (fun h => ?_) (fun h => ?_) <;> try (exfalso; omega; done)) | refine Sz (fun h => ?_) (fun h => ?_))
    refine AW.loop (X := {k : Nat // k ≤ n}) (fun k => ⟨[Oo, IL (rowF n v), Oo, Oo, Oo, .own 1 ⟨0, []⟩ 0 t.length, I i, Oo, Oo, Oo, Oo, Oo, Oo, TL t, I t.length, I i, Oo, Oo, Oo, Oo, Oo, Oo, Oo, IL r, I n, I (k.1 : Nat), Oo, Oo, Oo, Oo, Oo, Oo, Oo, Oo, Oo, Oo, Oo, Oo, Oo, Oo, Oo, Oo, Oo, Oo, Oo, Oo, Oo], heapL [(⟨0, []⟩, ⟨0, []⟩, IO (rowF t.length (fun b => if b = i then apA (entN t) v i k.1 else mixR (fun i => apA (entN t) v i n) (fun _ => 0) i b)))], 900⟩) (fun k => n - k.1) ⟨0, Nat.zero_le _⟩ ?_ (fun k => ?_)
    ·
      (apply Le.headZ [_] rfl)
      all_goals (try dsimp only [srcs])
      (case' hfr | hob => (repeat' (first | refine La ?_ ?_ | exact Lc | refine Lo ?_ | refine ⟨⟨_, rfl, ?_⟩, ?_⟩ | refine Lx ?_)))
      all_goals (first | (rfl) | exact Ld)
    obtain ⟨j, hj⟩ := k
    simp only
    by_cases hlt2 : j < n
    ·
      obtain ⟨r', hr1b, hr2, _⟩ := ht.get hlt hlt2
      rw [hr1] at hr1b; cases hr1b
      have hrj := IR_get hr2
      have hvj : (IR (rowF n v))[((j : Nat) : Int).toNat]? = some [DI (v j)] := IRF_get hlt2
      have hT := times_ac (entN t i j) (v j) (fun e1 e2 => by
        have h1 := (ho.f i j hlt hlt2).resolve_left e1
        have h2 := (ho.v j hlt2).resolve_left e2
        omega)
      have hcj := IRF_get (g := fun b => if b = i then apA (entN t) v i j else mixR (fun i => apA (entN t) v i n) (fun _ => 0) i b) hlt
      simp only [if_true] at hcj
      have hs2 : (IR (rowF t.length (fun b => if b = i then apA (entN t) v i j else mixR (fun i => apA (entN t) v i n) (fun _ => 0) i b))).set i [DI (max (apA (entN t) v i j) (timesB (entN t i j) (v j)))] = IR (rowF t.length (fun b => if b = i then apA (entN t) v i (j + 1) else mixR (fun i => apA (entN t) v i n) (fun _ => 0) i b)) := by
        rw [IR_set, rowF_set]
        congr 1
        refine rowF_congr fun b _ => ?_
        by_cases e : b = i <;> simp [e, apA]
      repeat' (first | ((first | apply Ba | (apply Bb; (· rfl); (· rfl)) | (apply Bc; (· exact nxE)) | (apply Bd; (· rfl); (· rfl); (· exact nxE))); (· first | exact Ok.ld1 rfl rfl rfl hcj | exact Kz rfl rfl (hT) (Ad (Ad An)) | exact Ok.st1 rfl rfl rfl (by simp [rowF_len]; omega) (by rw [hcj]; rfl) rfl rfl hs2 | exact Ok.pe)) | ((first | apply Ca | (apply Cb; (· exact nxE))); (· first | exact Ok.st1 rfl rfl rfl (by simp [rowF_len]; omega) (by rw [hcj]; rfl) rfl rfl hs2 | exact Ok.e0)) | refine Sx ?_ | (refine Sy (fun h => ?_) (fun h => ?_) <;> try (exfalso; omega; done)) | refine Sz (fun h => ?_) (fun h => ?_))
      refine ⟨⟨j + 1, by omega⟩, ?_, by simp only; omega⟩
      (apply Le.headZ [_] rfl)
      all_goals (try dsimp only [srcs])
      (case' hfr | hob => (repeat' (first | refine La ?_ ?_ | exact Lc | refine Lo ?_ | refine ⟨⟨_, rfl, ?_⟩, ?_⟩ | refine Lx ?_)))
      all_goals (first | (rfl) | exact Ld)
    ·
      obtain rfl : j = n := by omega
      have hnx : rowF t.length (fun b => if b = i then apA (entN t) v i j else mixR (fun i => apA (entN t) v i j) (fun _ => 0) i b) = rowF t.length (mixR (fun i => apA (entN t) v i j) (fun _ => 0) (i + 1)) := by
        rw [← mixR_set, rowF_set]
      rw [hnx]
      repeat' (first | ((first | apply Ba | (apply Bb; (· rfl); (· rfl)) | (apply Bc; (· exact nxE)) | (apply Bd; (· rfl); (· rfl); (· exact nxE))); (· first | exact Ok.pe)) | ((first | apply Ca | (apply Cb; (· exact nxE))); (· first | exact Ok.e0)) | refine Sx ?_ | (refine Sy (fun h => ?_) (fun h => ?_) <;> try (exfalso; omega; done)) | refine Sz (fun h => ?_) (fun h => ?_))
      refine ⟨⟨i + 1, by omega⟩, ?_, by simp only; omega⟩
      (apply Le.headZ [_] rfl)
      all_goals (try dsimp only [srcs])
      (case' hfr | hob => (repeat' (first | refine La ?_ ?_ | exact Lc | refine Lo ?_ | refine ⟨⟨_, rfl, ?_⟩, ?_⟩ | refine Lx ?_)))
      all_goals (first | (rfl) | exact Ld)
  ·
    have him : i = t.length := by omega
    subst him
    rw [mixR_all]
    repeat' (first | ((first | apply Ba | (apply Bb; (· rfl); (· rfl)) | (apply Bc; (· exact nxE)) | (apply Bd; (· rfl); (· rfl); (· exact nxE))); (· first | exact Ok.pe)) | ((first | apply Ca | (apply Cb; (· exact nxE))); (· first | exact Ok.e0)) | refine Sx ?_ | (refine Sy (fun h => ?_) (fun h => ?_) <;> try (exfalso; omega; done)) | refine Sz (fun h => ?_) (fun h => ?_))
    refine Ya ?_
    (apply Le.head [(⟨0, []⟩, _, _)])
    (case' hfr | hob => (repeat' (first | refine La ?_ ?_ | exact Lc | refine Lo ?_ | refine ⟨⟨_, rfl, ?_⟩, ?_⟩ | refine Lx ?_)))
    all_goals (first | exact Ld | (rfl))
set_option maxHeartbeats 4000000 in
theorem l02Apply_ac (t : List (List Int)) (m n : Nat) (v : Nat → Int) (ht : Rc t m n) (hm : m ≤ 1000000) (hn : n ≤ 1000000) (ho : ApOk (entN t) v m n) : AC Try.prog 115 [TL t, IL (rowF n v)] H0 (own1 1 m) (hp1 (IO (rowF m fun i => apA (entN t) v i n))) := by
  obtain rfl := ht.l
  have hvl : (IR (rowF n v)).length = n := by rw [IR_len, rowF_len]
  have hvl2 : (rowF n v).length = n := rowF_len
  have htl : (mRows 1 (TR t)).length = t.length := by rw [mTR_len]
  refine AC.of_body 0 Try.func115 rfl (fun l h => absurd rfl h) (fun C hC => ?_)
  have hD : ∀ l, ¬ C.D0 l := fun l h => (hC l).1 h rfl
  simp only [startFr, Try.ntmps115, List.length_cons, List.length_nil, Nat.reduceAdd, Nat.reduceSub, List.replicate_succ, List.replicate_zero, List.cons_append, List.nil_append]
  repeat' (first | ((first | apply Ba | (apply Bb; (· rfl); (· rfl)) | (apply Bc; (· exact nxE)) | (apply Bd; (· rfl); (· rfl); (· exact nxE))); (· first | exact Ok.pe)) | ((first | apply Ca | (apply Cb; (· exact nxE))); (· first | exact Ok.e0)) | refine Sx ?_ | (refine Sy (fun h => ?_) (fun h => ?_) <;> try (exfalso; omega; done)) | refine Sz (fun h => ?_) (fun h => ?_))
  refine AW.loop (X := {k : Nat // k ≤ t.length}) (fun k => ⟨[TL t, IL (rowF n v), Oo, Oo, Oo, .own 1 ⟨0, []⟩ 0 (k.1 : Nat), I (k.1 : Nat), Oo, Oo, Oo, Oo, Oo, Oo, Oo, Oo, Oo, Oo, Oo, Oo, Oo, Oo, Oo, Oo, Oo, Oo, Oo, Oo, Oo, Oo, Oo, Oo, Oo, Oo, Oo, Oo, Oo, Oo, Oo, Oo, Oo, Oo], heapL [(⟨0, []⟩, ⟨0, []⟩, IO (rowF k.1 (fun i => apA (entN t) v i n)))], 900⟩) (fun k => t.length - k.1) ⟨0, Nat.zero_le _⟩ ?_ (fun k => ?_)
  ·
    (apply Le.headZ [_] rfl)
    all_goals (try dsimp only [srcs])
    (case' hfr | hob => (repeat' (first | refine La ?_ ?_ | exact Lc | refine Lo ?_ | refine ⟨⟨_, rfl, ?_⟩, ?_⟩ | refine Lx ?_)))
    all_goals (first | (rfl) | exact Ld)
  obtain ⟨i, hi⟩ := k
  simp only
  by_cases hlt : i < t.length
  ·
    obtain ⟨r, hr1⟩ : ∃ r, t[i]? = some r := ⟨t[i], by simp⟩
    have hrl0 := ht.r r (List.mem_of_getElem? hr1)
    have hr1' := TR_get hr1
    have hrl : (IR r).length = n := by rw [IR_len, hrl0]
    have hol : (IR (rowF i fun i => apA (entN t) v i n)).length = i := by rw [IR_len, rowF_len]
    repeat' (first | ((first | apply Ba | (apply Bb; (· rfl); (· rfl)) | (apply Bc; (· exact nxE)) | (apply Bd; (· rfl); (· rfl); (· exact nxE))); (· first | exact Ok.pe)) | ((first | apply Ca | (apply Cb; (· exact nxE))); (· first | exact Ok.e0)) | refine Sx ?_ | (refine Sy (fun h => ?_) (fun h => ?_) <;> try (exfalso; omega; done)) | refine Sz (fun h => ?_) (fun h => ?_))
    refine AW.loop (X := {k : Nat // k ≤ n}) (fun k => ⟨[TL t, IL (rowF n v), Oo, Oo, Oo, .own 1 ⟨0, []⟩ 0 i, I i, I (apA (entN t) v i (k.1 : Nat)), I (k.1 : Nat), Oo, Oo, Oo, Oo, Oo, Oo, Oo, Oo, Oo, Oo, Oo, Oo, Oo, Oo, Oo, Oo, Oo, Oo, Oo, Oo, Oo, Oo, Oo, Oo, Oo, Oo, Oo, Oo, Oo, Oo, Oo, Oo], heapL [(⟨0, []⟩, ⟨0, []⟩, IO (rowF i (fun i => apA (entN t) v i n)))], 900⟩) (fun k => n - k.1) ⟨0, Nat.zero_le _⟩ ?_ (fun k => ?_)
    ·
      (apply Le.headZ [_] rfl)
      all_goals (try dsimp only [srcs])
      (case' hfr | hob => (repeat' (first | refine La ?_ ?_ | exact Lc | refine Lo ?_ | refine ⟨⟨_, rfl, ?_⟩, ?_⟩ | refine Lx ?_)))
      all_goals (first | (rfl) | exact Ld)
    obtain ⟨j, hj⟩ := k
    simp only
    by_cases hlt2 : j < n
    ·
      obtain ⟨r', hr1b, hr2, _⟩ := ht.get hlt hlt2
      rw [hr1] at hr1b; cases hr1b
      have hrj := IR_get hr2
      have hvj : (IR (rowF n v))[((j : Nat) : Int).toNat]? = some [DI (v j)] := IRF_get hlt2
      have hT := l01Times_ac (entN t i j) (v j) (fun e1 e2 => by
        have h1 := (ho.f i j hlt hlt2).resolve_left e1
        have h2 := (ho.v j hlt2).resolve_left e2
        omega)
      repeat' (first | ((first | apply Ba | (apply Bb; (· rfl); (· rfl)) | (apply Bc; (· exact nxE)) | (apply Bd; (· rfl); (· rfl); (· exact nxE))); (· first | exact Kz rfl rfl (hT) (Ad (Ad An)) | exact Ok.pe)) | ((first | apply Ca | (apply Cb; (· exact nxE))); (· first | exact Ok.e0)) | refine Sx ?_ | (refine Sy (fun h => ?_) (fun h => ?_) <;> try (exfalso; omega; done)) | refine Sz (fun h => ?_) (fun h => ?_))
      refine ⟨⟨j + 1, by omega⟩, ?_, by simp only; omega⟩
      (apply Le.headZ [_] rfl)
      all_goals (try dsimp only [srcs])
      (case' hfr | hob => (repeat' (first | refine La ?_ ?_ | exact Lc | refine Lo ?_ | refine ⟨⟨_, rfl, ?_⟩, ?_⟩ | refine Lx ?_)))
      all_goals (first | (rfl) | exact Ld)
    ·
      obtain rfl : j = n := by omega
      repeat' (first | ((first | apply Ba | (apply Bb; (· rfl); (· rfl)) | (apply Bc; (· exact nxE)) | (apply Bd; (· rfl); (· rfl); (· exact nxE))); (· first | exact Ok.append1 (row := [DI (apA (entN t) v i j)]) rfl rfl (by decide) rfl rfl hol rfl rfl rfl (by rfl) (by omega) (by omega) | exact Ok.pe)) | ((first | apply Ca | (apply Cb; (· exact nxE))); (· first | exact Ok.append1 (row := [DI (apA (entN t) v i j)]) rfl rfl (by decide) rfl rfl hol rfl rfl rfl (by rfl) (by omega) (by omega) | exact Ok.e0)) | refine Sx ?_ | (refine Sy (fun h => ?_) (fun h => ?_) <;> try (exfalso; omega; done)) | refine Sz (fun h => ?_) (fun h => ?_))
      refine ⟨⟨i + 1, by omega⟩, ?_, by simp only; omega⟩
      (apply Le.headZ [_] rfl)
      all_goals (try dsimp only [srcs])
      (case' hfr | hob => (repeat' (first | refine La ?_ ?_ | exact Lc | refine Lo ?_ | refine ⟨⟨_, rfl, ?_⟩, ?_⟩ | refine Lx ?_)))
      all_goals (first | ((first | (rw [rowF_succ]; simp; done) | (rw [rowF_succ]; rw [IR_app]; done))) | exact Ld)
  ·
    have him : i = t.length := by omega
    subst him
    repeat' (first | ((first | apply Ba | (apply Bb; (· rfl); (· rfl)) | (apply Bc; (· exact nxE)) | (apply Bd; (· rfl); (· rfl); (· exact nxE))); (· first | exact Ok.pe)) | ((first | apply Ca | (apply Cb; (· exact nxE))); (· first | exact Ok.e0)) | refine Sx ?_ | (refine Sy (fun h => ?_) (fun h => ?_) <;> try (exfalso; omega; done)) | refine Sz (fun h => ?_) (fun h => ?_))
    refine Ya ?_
    (apply Le.head [(⟨0, []⟩, _, _)])
    (case' hfr | hob => (repeat' (first | refine La ?_ ?_ | exact Lc | refine Lo ?_ | refine ⟨⟨_, rfl, ?_⟩, ?_⟩ | refine Lx ?_)))
    all_goals (first | exact Ld | (rfl))
end Go.Proofs.Ytpgcmpbamlnkkaa
end

section
namespace Go.Proofs.Ytpgcmpbamlnkkaa
set_option linter.unusedSimpArgs false
set_option linter.unusedVariables false
open Go Go.RowKit
attribute [local irreducible] AL AD AW OpOk Le AC thenQ blockQ EndQ

section
variable {W : Nat → Nat → Int} {n : Nat} (hb : ∀ k v, k ≤ n → v < n → W k v = BOT ∨ (-10000000 ≤ W k v ∧ W k v ≤ 10000000)) (hn : n ≤ 10)
include hb hn
end
end Go.Proofs.Ytpgcmpbamlnkkaa
end

section
namespace Go.Proofs.Ytpgcmpbamlnkkaa
set_option linter.unusedSimpArgs false
set_option linter.unusedVariables false
open Go Go.RowKit
attribute [local irreducible] AL AD AW OpOk Le AC thenQ blockQ EndQ

end Go.Proofs.Ytpgcmpbamlnkkaa
end

section
namespace Go.Proofs.Ytpgcmpbamlnkkaa
set_option linter.unusedSimpArgs false
set_option linter.unusedVariables false
open Go Go.RowKit
attribute [local irreducible] AL AD AW OpOk Le AC thenQ blockQ EndQ

structure RtZ (r : Int × Int) : Prop where
  n : -1000000000000 ≤ r.1 ∧ r.1 ≤ 1000000000000
  d : 1 ≤ r.2 ∧ r.2 ≤ 1000000
  g : Nat.gcd r.1.natAbs r.2.toNat = 1
/-! ### Turned matrices -/
end Go.Proofs.Ytpgcmpbamlnkkaa
end

section
namespace Go.Proofs.Ytpgcmpbamlnkkaa
set_option linter.unusedSimpArgs false
set_option linter.unusedVariables false
open Go Go.RowKit
attribute [local irreducible] AL AD AW OpOk Le AC thenQ blockQ EndQ

/-- Which ratios are valid. -/
def isRtG (r : Int × Int) : Bool := wi r.1 (-1000000) 1000000 && (wi r.2 1 1000000 && (Nat.gcd r.1.natAbs r.2.toNat == 1))
structure DrR (r : Int × Int) : Prop where
  n : -2000000 ≤ r.1 ∧ r.1 ≤ 2000000
  d : -1 ≤ r.2 ∧ r.2 ≤ 1000000
  s : isRtG r = true → r.2 ≤ 10
end Go.Proofs.Ytpgcmpbamlnkkaa
end

section
namespace Go.Proofs.Ytpgcmpbamlnkkaa
set_option linter.unusedSimpArgs false
set_option linter.unusedVariables false
open Go Go.RowKit
attribute [local irreducible] AL AD AW OpOk Le AC thenQ blockQ EndQ

end Go.Proofs.Ytpgcmpbamlnkkaa
end

section
namespace Go.Proofs.Ytpgcmpbamlnkkaa
set_option linter.unusedSimpArgs false
set_option linter.unusedVariables false
open Go Go.RowKit
attribute [local irreducible] AL AD AW OpOk Le AC thenQ blockQ EndQ

noncomputable def ptL (n : Nat) (xs : List Pl) (r : Int × Int) : List Int := rowF n fun i => apA (entN (tabF n n (starF (entN (wmT n xs r)) n))) (fun _ => 0) i n
theorem apA_ge {f : Nat → Nat → Int} {v : Nat → Int} {i j : Nat} : ∀ {k : Nat}, j < k → timesB (f i j) (v j) ≤ apA f v i k
  | k + 1, h => by
    simp only [apA]
    by_cases e : j = k
    · subst e; omega
    · have := apA_ge (f := f) (v := v) (i := i) (j := j) (k := k) (by omega); omega
theorem ptL_ne {n : Nat} {xs : List Pl} {r : Int × Int} (hst : StarM (wmT n xs r) n) : ∀ a ∈ ptL n xs r, a ≠ BOT := by
  intro a ha
  obtain ⟨i, hi, rfl⟩ := List.mem_map.1 ha
  rw [List.mem_range] at hi
  have := apA_ge (f := entN (tabF n n (starF (entN (wmT n xs r)) n))) (v := fun _ => 0) (i := i) (j := i) (k := n) hi
  rw [tabF_ent hi hi, star_dia0 hst.np hst.ok.some hst.ok.dia hi] at this
  unfold timesB BOT at this
  unfold BOT
  simp at this
  omega
theorem apOk_star {n : Nat} {xs : List Pl} {r : Int × Int} (hst : StarM (wmT n xs r) n) : ApOk (entN (tabF n n (starF (entN (wmT n xs r)) n))) (fun _ => 0) n n := ⟨fun i j hi hj => by
  rw [tabF_ent hi hj]
  rcases hst.starB hi hj with h | h
  · exact .inl h
  · exact .inr (by omega), fun j _ => .inr (by omega)⟩
theorem zeroRow {n : Nat} : IR (rowF n fun _ => 0) = List.replicate n [DI 0] := by simp [rowF, List.map_const']
end Go.Proofs.Ytpgcmpbamlnkkaa
end

section
namespace Go.Proofs.Ytpgcmpbamlnkkaa
set_option linter.unusedSimpArgs false
set_option linter.unusedVariables false
open Go Go.RowKit
attribute [local irreducible] AL AD AW OpOk Le AC thenQ blockQ EndQ

end Go.Proofs.Ytpgcmpbamlnkkaa
end

section
namespace Go.Proofs.Ytpgcmpbamlnkkaa
set_option linter.unusedSimpArgs false
set_option linter.unusedVariables false
open Go Go.RowKit
attribute [local irreducible] AL AD AW OpOk Le AC thenQ blockQ EndQ

/-! ### Potentials -/
theorem getD_cell {x : List Int} {n j : Nat} (hl : x.length = n) (hj : j < n) : (IR x)[((j : Nat) : Int).toNat]? = some [DI (x.getD j 0)] := by
  have : x[j]? = some (x.getD j 0) := by rw [List.getD_eq_getElem?_getD, List.getElem?_eq_getElem (by omega)]; rfl
  exact IR_get this
end Go.Proofs.Ytpgcmpbamlnkkaa
end

section
namespace Go.Proofs.Ytpgcmpbamlnkkaa
set_option linter.unusedSimpArgs false
set_option linter.unusedVariables false

structure FWX (W : Nat → Nat → Int) (n : Nat) (M : Int) (k : Nat) (s : Nat → Nat → Int) : Prop where
  bnd : ∀ u v, u < n → v < n → s v u ≠ BOT → -(M * 2 ^ k) ≤ s v u ∧ s v u ≤ M * 2 ^ k
  dia : ∀ u, u < n → s u u ≠ BOT ∧ 0 ≤ s u u
  arc : ∀ u v, u < n → v < n → W v u ≠ BOT → s v u ≠ BOT ∧ W v u ≤ s v u
  tr : ∀ u m v, u < n → m < k → m < n → v < n → s m u ≠ BOT → s v m ≠ BOT → s v u ≠ BOT ∧ s m u + s v m ≤ s v u
section
variable {W : Nat → Nat → Int} {n : Nat} {M : Int}
theorem FWX.start (hM : 0 ≤ M) (hMb : M < 1000000000000000) (hW : ∀ u v, W v u ≠ BOT → -M ≤ W v u ∧ W v u ≤ M) : FWX W n M 0 (fun i j => max (W i j) (if i = j then 0 else BOT)) := by
  have hb : ∀ u v, W v u = BOT ∨ (-M ≤ W v u ∧ W v u ≤ M) := fun u v => by
    by_cases h : W v u = BOT
    · exact .inl h
    · exact .inr (hW u v h)
  refine ⟨fun u v _ _ h => ?_, fun u _ => ?_, fun u v _ _ h => ?_, fun u m v _ h => by omega⟩
  · rw [Int.pow_zero, Int.mul_one]
    have h1 := hb u v
    revert h
    unfold BOT at *
    split <;> omega
  · have h1 := hb u u
    simp only [if_true]
    unfold BOT at *
    omega
  · have h1 := hW u v h
    unfold BOT at *
    split <;> omega
variable {k : Nat} {s : Nat → Nat → Int}
theorem FWX.step (hM : 0 ≤ M) (hMb : M * 2 ^ (k + 1) < 1000000000000000) (hk : k < n) (h : FWX W n M k s) (hkk : s k k = 0) : FWX W n M (k + 1) (fwS s k) ∧ (∀ i, i < n → fwS s k i k = s i k) ∧ ∀ j, j < n → fwS s k k j = s k j := by
  have hpow : M * 2 ^ (k + 1) = M * 2 ^ k * 2 := by rw [Int.pow_succ, Int.mul_assoc]
  have hp0 : 0 ≤ M * 2 ^ k := Int.mul_nonneg hM (Int.pow_nonneg (by omega))
  obtain ⟨hb, hd, ha, ht⟩ := h
  generalize M * 2 ^ k = B at *
  rw [hpow] at hMb
  have hc : ∀ v u, u < n → v < n → s v u = BOT ∨ (s v u ≠ BOT ∧ -B ≤ s v u ∧ s v u ≤ B) := fun v u hu hv => by
    by_cases e : s v u = BOT
    · exact .inl e
    · exact .inr ⟨e, hb u v hu hv e⟩
  have g1 : ∀ v u, u < n → v < n → s v u ≠ BOT → fwS s k v u ≠ BOT ∧ s v u ≤ fwS s k v u := fun v u hu hv h => by
    have := hb u v hu hv h
    unfold fwS BOT at *
    omega
  have g2 : ∀ v u, u < n → v < n → s v k ≠ BOT → s k u ≠ BOT → fwS s k v u ≠ BOT ∧ s v k + s k u ≤ fwS s k v u := fun v u hu hv h1 h2 => by
    have a1 := hb k v hk hv h1
    have a2 := hb u k hu hk h2
    unfold fwS
    rw [timesB_ne h1 h2]
    unfold BOT at *
    omega
  have g3 : ∀ v u, u < n → v < n → fwS s k v u ≠ BOT → (s v u ≠ BOT ∧ fwS s k v u = s v u) ∨ (s v k ≠ BOT ∧ s k u ≠ BOT ∧ fwS s k v u = s v k + s k u) := fun v u hu hv h => by
    have a0 := hc v u hu hv
    by_cases h1 : s v k = BOT
    · have e : fwS s k v u = max (s v u) BOT := by unfold fwS timesB; rw [if_pos (.inl h1)]
      rw [e] at h ⊢
      left; unfold BOT at *; omega
    · by_cases h2 : s k u = BOT
      · have e : fwS s k v u = max (s v u) BOT := by unfold fwS timesB; rw [if_pos (.inr h2)]
        rw [e] at h ⊢
        left; unfold BOT at *; omega
      · have a1 := hb k v hk hv h1
        have a2 := hb u k hu hk h2
        have e : fwS s k v u = max (s v u) (s v k + s k u) := by unfold fwS; rw [timesB_ne h1 h2]
        rw [e] at h ⊢
        by_cases h3 : s v u = BOT
        · right; refine ⟨h1, h2, ?_⟩; unfold BOT at *; omega
        · by_cases h4 : s v k + s k u ≤ s v u
          · left; exact ⟨h3, by omega⟩
          · right; exact ⟨h1, h2, by omega⟩
  refine ⟨⟨fun u v hu hv h => ?_, fun u hu => ?_, fun u v hu hv h => ?_, fun u m v hu hm hmn hv h1 h2 => ?_⟩, fun i hi => ?_, fun j hj => ?_⟩
  · rw [hpow]
    rcases g3 v u hu hv h with ⟨a, e⟩ | ⟨a, b, e⟩
    · have := hb u v hu hv a; omega
    · have := hb k v hk hv a
      have := hb u k hu hk b
      omega
  · obtain ⟨a, b⟩ := hd u hu
    have := g1 u u hu hu a
    exact ⟨this.1, by omega⟩
  · obtain ⟨a, b⟩ := ha u v hu hv h
    have := g1 v u hu hv a
    exact ⟨this.1, by omega⟩
  · by_cases e : m = k
    · subst e
      have e1 : fwS s m m u = s m u := by unfold fwS; rw [hkk, timesB_0']; omega
      have e2 : fwS s m v m = s v m := by unfold fwS; rw [hkk, timesB_0]; omega
      rw [e1] at h1 ⊢
      rw [e2] at h2 ⊢
      have := g2 v u hu hv h2 h1
      exact ⟨this.1, by omega⟩
    · have ih := fun u v hu hv => ht u m v hu (by omega) hmn hv
      rcases g3 m u hu hmn h1 with ⟨a, ea⟩ | ⟨a, a', ea⟩ <;> rcases g3 v m hmn hv h2 with ⟨b, eb⟩ | ⟨b, b', eb⟩
      · obtain ⟨i1, i2⟩ := ih u v hu hv a b
        have := g1 v u hu hv i1
        exact ⟨this.1, by omega⟩
      · obtain ⟨i1, i2⟩ := ih u k hu hk a b'
        have := g2 v u hu hv b i1
        exact ⟨this.1, by omega⟩
      · obtain ⟨i1, i2⟩ := ih k v hk hv a b
        have := g2 v u hu hv i1 a'
        exact ⟨this.1, by omega⟩
      · obtain ⟨i1, i2⟩ := ih k k hk hk a b'
        have := g2 v u hu hv b a'
        exact ⟨this.1, by omega⟩
  · unfold fwS; rw [hkk, timesB_0]; omega
  · unfold fwS; rw [hkk, timesB_0']; omega
theorem FWX.walk (h : FWX W n M n s) : ∀ (c : List Nat) (u v : Nat), u < n → v < n → (∀ x ∈ c, x < n) → WM W u c v → s v u ≠ BOT ∧ wM W u c v ≤ s v u
  | [], u, v, hu, hv, _, hw => h.arc u v hu hv hw
  | m :: c, u, v, hu, hv, hc, hw => by
    have hm := hc m (by simp)
    obtain ⟨a1, a2⟩ := h.arc u m hu hm hw.1
    obtain ⟨b1, b2⟩ := h.walk c m v hm hv (fun x hx => hc x (by simp [hx])) hw.2
    obtain ⟨c1, c2⟩ := h.tr u m v hu hm hm hv a1 b1
    exact ⟨c1, by simp only [wM]; omega⟩
/-- Where no diagonal is positive there is no positive cycle. -/
theorem FWX.np (h : FWX W n M n s) (h0 : ∀ u, u < n → s u u ≤ 0) : NoPos W n := fun u c hu hc hw => by
  have := h.walk c u u hu hu hc hw
  have := h0 u hu
  omega
/-- Powers that stay as they are: there is no positive cycle. -/
theorem powS_np {x : Nat → Nat → Int} (hx : ∀ u v, u < n → v < n → powS W n x v u = x v u) (hb : ∀ u v, u < n → v < n → x v u = BOT ∨ (-400000000000000 ≤ x v u ∧ x v u ≤ 400000000000000)) (hW : ∀ u v, W v u ≠ BOT → -100000000000 ≤ W v u ∧ W v u ≤ 100000000000) : NoPos W n := by
  have hge : ∀ u v q, u < n → v < n → q < n → W v q ≠ BOT → x q u ≠ BOT → x v u ≠ BOT ∧ W v q + x q u ≤ x v u := fun u v q hu hv hq h1 h2 => by
    have e := hx u v hu hv
    have g : timesB (W v q) (x q u) ≤ maxN (fun k => timesB (W v k) (x k u)) n := maxN_ge (f := fun k => timesB (W v k) (x k u)) hq
    rw [timesB_ne h1 h2] at g
    unfold powS at e
    have w1 := hW q v h1
    have w2 := (hb u q hu hq).resolve_left h2
    have : W v q + x q u ≤ x v u := by rw [← e]; omega
    refine ⟨?_, this⟩
    unfold BOT at *
    omega
  have key : ∀ (c : List Nat) (a u v : Nat), u < n → a < n → v < n → (∀ y ∈ c, y < n) → WM W a c v → x a u ≠ BOT → x v u ≠ BOT ∧ wM W a c v + x a u ≤ x v u := by
    intro c
    induction c with
    | nil => intro a u v hu ha hv _ hw h; exact hge u v a hu hv ha hw h
    | cons m c ih =>
      intro a u v hu ha hv hc hw h
      have hm := hc m (by simp)
      obtain ⟨a1, a2⟩ := hge u m a hu hm ha hw.1 h
      obtain ⟨b1, b2⟩ := ih m u v hu hm hv (fun y hy => hc y (by simp [hy])) hw.2 a1
      exact ⟨b1, by simp only [wM]; omega⟩
  intro u c hu hc hw
  have e := hx u u hu hu
  have h0 : x u u ≠ BOT := by
    unfold powS unitF at e
    simp only [if_true] at e
    unfold BOT
    omega
  have := (key c u u u hu hu hu hc hw h0).2
  omega
end
end Go.Proofs.Ytpgcmpbamlnkkaa
end
