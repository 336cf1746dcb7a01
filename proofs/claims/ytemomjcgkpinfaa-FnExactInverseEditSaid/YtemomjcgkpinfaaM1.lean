/-
  Walks: the laws' helpers that write numbers into a slice and look whether they are still there (by wip/gen/marks.py).
-/
import Derived.Test.YtemomjcgkpinfaaProg
import Derived.Test.YtemomjcgkpinfaaBase
namespace Go.Proofs.Ytemomjcgkpinfaa
open Go.RowKit

/-! ### laws.markPlaceS, laws.heldPlaceS -/
set_option maxHeartbeats 1600000 in
theorem markPlaceS_some (g n cap : Nat) (cs : List Value) (k : Int) (B : Nat) (hn : n ≤ 10000000) (h0 : 0 ≤ k) (h1 : k ≤ 10000000000) (w : World) (own : w.ownsRow B 35 4 (.slice (some ⟨g, 0, none⟩) n cap) n cs) :
    Calls Try.prog 64 #[.slice (some ⟨g, 0, none⟩) n cap, .int .i64 k] w fun e w' => e = .returned (.int .i64 (k + (n * 4 : Nat))) ∧ w'.ownsRow B 35 4 (.slice (some ⟨g, 0, none⟩) n cap) n (marks k (n * 4)) ∧ w.grownBy w' (some g) := by
  have hlen := own.1
  go_enter Try.func64, Try.ntmps64
  have Hlen := Lib.hid hlen; clear hlen
  go_wp2
  go_loopw [1, 5] (fun s t wr => ∃ (i : Nat) (K : Int), i ≤ n ∧ t = .int .i64 i ∧ s = .int .i64 K ∧ K = k + (i * 4 : Nat) ∧ w.grownBy wr (some g) ∧ wr.ownsRow B 35 4 (.slice (some ⟨g, 0, none⟩) n cap) n (marks k (i * 4) ++ cs.drop (i * 4))) (fun _ t _ => n - (intOf t).toNat)
  case atStart => exact ⟨0, k, Nat.zero_le _, rfl, rfl, by simp, grown_rfl _ _, by simpa [marks] using own⟩
  case round =>
    obtain ⟨i, K, hi, rfl, rfl, hK, hgr, hown⟩ := hrel
    by_cases hlt : i < n
    · have hK0 : 0 ≤ K := by omega
      have hK1 : K ≤ 10100000000 := by omega
      have HK := Lib.hid hK; clear hK
      obtain ⟨v0, e0⟩ := own_some hown (j := i * 4) (by omega)
      obtain ⟨v1, e1⟩ := own_some hown (j := i * 4 + 1) (by omega)
      obtain ⟨v2, e2⟩ := own_some hown (j := i * 4 + 2) (by omega)
      obtain ⟨v3, e3⟩ := own_some hown (j := i * 4 + 3) (by omega)
      have hfz := hown.frozenAt
      have Hown := Lib.hid hown; clear hown own
      go_wp2
      have hlen := Hlen.out
      have o0 := Hown.out
      have o1 := (o0.stored (i * 4) (.int .i64 (K))).1
      have o2 := (o1.stored (i * 4 + 1) (.int .i64 (K + 1))).1
      have o3 := (o2.stored (i * 4 + 2) (.int .i64 (K + 1 + 1))).1
      have o4 := (o3.stored (i * 4 + 3) (.int .i64 (K + 1 + 1 + 1))).1
      go_roundw
      case rel =>
        refine ⟨i + 1, K + 1 + 1 + 1 + 1, by omega, by go_num, by go_num, by (have := HK.out; omega), ?_, ?_⟩
        · repeat' (first | with_reducible exact hgr | with_reducible refine grown_set ?_ rfl)
        · clear hfz
          rw [marks_set (m := i * 4) (v := K) (by omega) (by (have := HK.out; omega))] at o4
          rw [marks_set (m := i * 4 + 1) (v := K + 1) (by omega) (by (have := HK.out; omega))] at o4
          rw [marks_set (m := i * 4 + 2) (v := K + 1 + 1) (by omega) (by (have := HK.out; omega))] at o4
          rw [marks_set (m := i * 4 + 3) (v := K + 1 + 1 + 1) (by omega) (by (have := HK.out; omega))] at o4
          rw [show (i + 1) * 4 = i * 4 + 4 from by omega]
          exact o4
      case measure => simp [intOf]; omega
    · obtain rfl : i = n := by omega
      clear own
      have HK := Lib.hid hK; clear hK
      go_wp2
      go_ret
      refine ⟨ret_int HK.out, ?_, hgr⟩
      have := Hlen.out
      rw [List.drop_of_length_le (by omega), List.append_nil] at hown
      exact hown
set_option maxHeartbeats 800000 in
theorem markPlaceS_none (k : Int) (w : World) :
    Calls Try.prog 64 #[.slice none 0 0, .int .i64 k] w fun e w' => e = .returned (.int .i64 k) ∧ w = w' := by
  go_enter Try.func64, Try.ntmps64
  go_wp2
  refine wp_loop_rounds 1 ?_
  rw [rounds_succ]
  go_wp2
  go_ret
  exact ⟨rfl, rfl⟩
theorem markPlaceS_any (ad : Option Addr) (n cap : Nat) (cs : List Value) (k : Int) (B : Nat) (hn : n ≤ 10000000) (h0 : 0 ≤ k) (h1 : k ≤ 10000000000) (w : World) (own : w.ownsRow B 35 4 (.slice ad n cap) n cs) :
    Calls Try.prog 64 #[.slice ad n cap, .int .i64 k] w fun e w' => e = .returned (.int .i64 (k + (n * 4 : Nat))) ∧ w'.ownsRow B 35 4 (.slice ad n cap) n (marks k (n * 4)) ∧ w.grownBy w' (Value.slice ad n cap).ownBlock := by
  rcases own.2 with ⟨hv, rfl⟩ | ⟨g, cap', cur, hv, _⟩
  · simp only [Value.slice.injEq, true_and] at hv
    obtain ⟨rfl, rfl⟩ := hv
    refine (markPlaceS_none k w).mono fun e w' ⟨he, hw⟩ => ?_
    subst hw
    exact ⟨by simpa using he, by simpa [marks] using World.ownsRow_nil w B 35 4, grown_rfl _ _⟩
  · simp only [Value.slice.injEq, true_and] at hv
    obtain ⟨rfl, rfl⟩ := hv
    exact markPlaceS_some g n cap cs k B hn h0 h1 w own

set_option maxHeartbeats 1600000 in
theorem heldPlaceS_any (ad : Option Addr) (n cap : Nat) (k : Int) (hn : n ≤ 10000000) (h0 : 0 ≤ k) (h1 : k ≤ 10000000000) (w : World) (hr : FlR w ad (marks k (n * 4))) :
    Calls Try.prog 67 #[.slice ad n cap, .int .i64 k] w fun e w' => e = .returned (.int .i64 (k + (n * 4 : Nat))) ∧ w = w' := by
  go_enter Try.func67, Try.ntmps67
  go_wp2
  go_loopw [1, 5] (fun s t wr => ∃ (i : Nat) (K : Int), i ≤ n ∧ t = .int .i64 i ∧ s = .int .i64 K ∧ K = k + (i * 4 : Nat) ∧ w = wr) (fun _ t _ => n - (intOf t).toNat)
  case atStart => exact ⟨0, k, Nat.zero_le _, rfl, rfl, by simp, rfl⟩
  case round =>
    obtain ⟨i, K, hi, rfl, rfl, hK, rfl⟩ := hrel
    by_cases hlt : i < n
    · have hK0 : 0 ≤ K := by omega
      have hK1 : K ≤ 10100000000 := by omega
      obtain ⟨b, off, rfl, hc⟩ := flr_at hr (m := i * 4) (c := 4) (by rw [marks_len]; omega)
      have c0 : w.cell? ⟨b, off + i * 4, none⟩ = some (.int .i64 (K)) := by
        have := hc 0 (by omega) _ (marks_at (k := k) (n := n * 4) (m := i * 4 + 0) (by omega))
        rw [show K = k + ((i * 4 + 0 : Nat) : Int) from by omega]
        exact this
      have c1 : w.cell? ⟨b, off + i * 4 + 1, none⟩ = some (.int .i64 (K + 1)) := by
        have := hc 1 (by omega) _ (marks_at (k := k) (n := n * 4) (m := i * 4 + 1) (by omega))
        rw [show K + 1 = k + ((i * 4 + 1 : Nat) : Int) from by omega]
        exact this
      have c2 : w.cell? ⟨b, off + i * 4 + 2, none⟩ = some (.int .i64 (K + 1 + 1)) := by
        have := hc 2 (by omega) _ (marks_at (k := k) (n := n * 4) (m := i * 4 + 2) (by omega))
        rw [show K + 1 + 1 = k + ((i * 4 + 2 : Nat) : Int) from by omega]
        exact this
      have c3 : w.cell? ⟨b, off + i * 4 + 3, none⟩ = some (.int .i64 (K + 1 + 1 + 1)) := by
        have := hc 3 (by omega) _ (marks_at (k := k) (n := n * 4) (m := i * 4 + 3) (by omega))
        rw [show K + 1 + 1 + 1 = k + ((i * 4 + 3 : Nat) : Int) from by omega]
        exact this
      have HK := Lib.hid hK; clear hK hc hr
      go_wp2
      go_roundw
      case rel => exact ⟨i + 1, K + 1 + 1 + 1 + 1, by omega, by go_num, by go_num, by (have := HK.out; omega), by simp⟩
      case measure => simp [intOf]; omega
    · obtain rfl : i = n := by omega
      have HK := Lib.hid hK; clear hK hr
      go_wp2
      go_ret
      exact ⟨ret_int HK.out, rfl⟩

/-! ### laws.markEditS, laws.heldEditS -/
set_option maxHeartbeats 1600000 in
theorem markEditS_some (g n cap : Nat) (cs : List Value) (k : Int) (B : Nat) (hn : n ≤ 10000000) (h0 : 0 ≤ k) (h1 : k ≤ 10000000000) (w : World) (own : w.ownsRow B 37 6 (.slice (some ⟨g, 0, none⟩) n cap) n cs) :
    Calls Try.prog 30 #[.slice (some ⟨g, 0, none⟩) n cap, .int .i64 k] w fun e w' => e = .returned (.int .i64 (k + (n * 6 : Nat))) ∧ w'.ownsRow B 37 6 (.slice (some ⟨g, 0, none⟩) n cap) n (marks k (n * 6)) ∧ w.grownBy w' (some g) := by
  have hlen := own.1
  go_enter Try.func30, Try.ntmps30
  have Hlen := Lib.hid hlen; clear hlen
  go_wp2
  go_loopw [1, 5] (fun s t wr => ∃ (i : Nat) (K : Int), i ≤ n ∧ t = .int .i64 i ∧ s = .int .i64 K ∧ K = k + (i * 6 : Nat) ∧ w.grownBy wr (some g) ∧ wr.ownsRow B 37 6 (.slice (some ⟨g, 0, none⟩) n cap) n (marks k (i * 6) ++ cs.drop (i * 6))) (fun _ t _ => n - (intOf t).toNat)
  case atStart => exact ⟨0, k, Nat.zero_le _, rfl, rfl, by simp, grown_rfl _ _, by simpa [marks] using own⟩
  case round =>
    obtain ⟨i, K, hi, rfl, rfl, hK, hgr, hown⟩ := hrel
    by_cases hlt : i < n
    · have hK0 : 0 ≤ K := by omega
      have hK1 : K ≤ 10100000000 := by omega
      have HK := Lib.hid hK; clear hK
      obtain ⟨v0, e0⟩ := own_some hown (j := i * 6) (by omega)
      obtain ⟨v1, e1⟩ := own_some hown (j := i * 6 + 1) (by omega)
      obtain ⟨v2, e2⟩ := own_some hown (j := i * 6 + 2) (by omega)
      obtain ⟨v3, e3⟩ := own_some hown (j := i * 6 + 3) (by omega)
      obtain ⟨v4, e4⟩ := own_some hown (j := i * 6 + 4) (by omega)
      obtain ⟨v5, e5⟩ := own_some hown (j := i * 6 + 5) (by omega)
      have hfz := hown.frozenAt
      have Hown := Lib.hid hown; clear hown own
      go_wp2
      have hlen := Hlen.out
      have o0 := Hown.out
      have o1 := (o0.stored (i * 6) (.int .i64 (K))).1
      have o2 := (o1.stored (i * 6 + 1) (.int .i64 (K + 1))).1
      have o3 := (o2.stored (i * 6 + 2) (.int .i64 (K + 1 + 1))).1
      have o4 := (o3.stored (i * 6 + 3) (.int .i64 (K + 1 + 1 + 1))).1
      have o5 := (o4.stored (i * 6 + 4) (.int .i64 (K + 1 + 1 + 1 + 1))).1
      have o6 := (o5.stored (i * 6 + 5) (.int .i64 (K + 1 + 1 + 1 + 1 + 1))).1
      go_roundw
      case rel =>
        refine ⟨i + 1, K + 1 + 1 + 1 + 1 + 1 + 1, by omega, by go_num, by go_num, by (have := HK.out; omega), ?_, ?_⟩
        · repeat' (first | with_reducible exact hgr | with_reducible refine grown_set ?_ rfl)
        · clear hfz
          rw [marks_set (m := i * 6) (v := K) (by omega) (by (have := HK.out; omega))] at o6
          rw [marks_set (m := i * 6 + 1) (v := K + 1) (by omega) (by (have := HK.out; omega))] at o6
          rw [marks_set (m := i * 6 + 2) (v := K + 1 + 1) (by omega) (by (have := HK.out; omega))] at o6
          rw [marks_set (m := i * 6 + 3) (v := K + 1 + 1 + 1) (by omega) (by (have := HK.out; omega))] at o6
          rw [marks_set (m := i * 6 + 4) (v := K + 1 + 1 + 1 + 1) (by omega) (by (have := HK.out; omega))] at o6
          rw [marks_set (m := i * 6 + 5) (v := K + 1 + 1 + 1 + 1 + 1) (by omega) (by (have := HK.out; omega))] at o6
          rw [show (i + 1) * 6 = i * 6 + 6 from by omega]
          exact o6
      case measure => simp [intOf]; omega
    · obtain rfl : i = n := by omega
      clear own
      have HK := Lib.hid hK; clear hK
      go_wp2
      go_ret
      refine ⟨ret_int HK.out, ?_, hgr⟩
      have := Hlen.out
      rw [List.drop_of_length_le (by omega), List.append_nil] at hown
      exact hown
set_option maxHeartbeats 800000 in
theorem markEditS_none (k : Int) (w : World) :
    Calls Try.prog 30 #[.slice none 0 0, .int .i64 k] w fun e w' => e = .returned (.int .i64 k) ∧ w = w' := by
  go_enter Try.func30, Try.ntmps30
  go_wp2
  refine wp_loop_rounds 1 ?_
  rw [rounds_succ]
  go_wp2
  go_ret
  exact ⟨rfl, rfl⟩
theorem markEditS_any (ad : Option Addr) (n cap : Nat) (cs : List Value) (k : Int) (B : Nat) (hn : n ≤ 10000000) (h0 : 0 ≤ k) (h1 : k ≤ 10000000000) (w : World) (own : w.ownsRow B 37 6 (.slice ad n cap) n cs) :
    Calls Try.prog 30 #[.slice ad n cap, .int .i64 k] w fun e w' => e = .returned (.int .i64 (k + (n * 6 : Nat))) ∧ w'.ownsRow B 37 6 (.slice ad n cap) n (marks k (n * 6)) ∧ w.grownBy w' (Value.slice ad n cap).ownBlock := by
  rcases own.2 with ⟨hv, rfl⟩ | ⟨g, cap', cur, hv, _⟩
  · simp only [Value.slice.injEq, true_and] at hv
    obtain ⟨rfl, rfl⟩ := hv
    refine (markEditS_none k w).mono fun e w' ⟨he, hw⟩ => ?_
    subst hw
    exact ⟨by simpa using he, by simpa [marks] using World.ownsRow_nil w B 37 6, grown_rfl _ _⟩
  · simp only [Value.slice.injEq, true_and] at hv
    obtain ⟨rfl, rfl⟩ := hv
    exact markEditS_some g n cap cs k B hn h0 h1 w own

set_option maxHeartbeats 1600000 in
theorem heldEditS_any (ad : Option Addr) (n cap : Nat) (k : Int) (hn : n ≤ 10000000) (h0 : 0 ≤ k) (h1 : k ≤ 10000000000) (w : World) (hr : FlR w ad (marks k (n * 6))) :
    Calls Try.prog 31 #[.slice ad n cap, .int .i64 k] w fun e w' => e = .returned (.int .i64 (k + (n * 6 : Nat))) ∧ w = w' := by
  go_enter Try.func31, Try.ntmps31
  go_wp2
  go_loopw [1, 5] (fun s t wr => ∃ (i : Nat) (K : Int), i ≤ n ∧ t = .int .i64 i ∧ s = .int .i64 K ∧ K = k + (i * 6 : Nat) ∧ w = wr) (fun _ t _ => n - (intOf t).toNat)
  case atStart => exact ⟨0, k, Nat.zero_le _, rfl, rfl, by simp, rfl⟩
  case round =>
    obtain ⟨i, K, hi, rfl, rfl, hK, rfl⟩ := hrel
    by_cases hlt : i < n
    · have hK0 : 0 ≤ K := by omega
      have hK1 : K ≤ 10100000000 := by omega
      obtain ⟨b, off, rfl, hc⟩ := flr_at hr (m := i * 6) (c := 6) (by rw [marks_len]; omega)
      have c0 : w.cell? ⟨b, off + i * 6, none⟩ = some (.int .i64 (K)) := by
        have := hc 0 (by omega) _ (marks_at (k := k) (n := n * 6) (m := i * 6 + 0) (by omega))
        rw [show K = k + ((i * 6 + 0 : Nat) : Int) from by omega]
        exact this
      have c1 : w.cell? ⟨b, off + i * 6 + 1, none⟩ = some (.int .i64 (K + 1)) := by
        have := hc 1 (by omega) _ (marks_at (k := k) (n := n * 6) (m := i * 6 + 1) (by omega))
        rw [show K + 1 = k + ((i * 6 + 1 : Nat) : Int) from by omega]
        exact this
      have c2 : w.cell? ⟨b, off + i * 6 + 2, none⟩ = some (.int .i64 (K + 1 + 1)) := by
        have := hc 2 (by omega) _ (marks_at (k := k) (n := n * 6) (m := i * 6 + 2) (by omega))
        rw [show K + 1 + 1 = k + ((i * 6 + 2 : Nat) : Int) from by omega]
        exact this
      have c3 : w.cell? ⟨b, off + i * 6 + 3, none⟩ = some (.int .i64 (K + 1 + 1 + 1)) := by
        have := hc 3 (by omega) _ (marks_at (k := k) (n := n * 6) (m := i * 6 + 3) (by omega))
        rw [show K + 1 + 1 + 1 = k + ((i * 6 + 3 : Nat) : Int) from by omega]
        exact this
      have c4 : w.cell? ⟨b, off + i * 6 + 4, none⟩ = some (.int .i64 (K + 1 + 1 + 1 + 1)) := by
        have := hc 4 (by omega) _ (marks_at (k := k) (n := n * 6) (m := i * 6 + 4) (by omega))
        rw [show K + 1 + 1 + 1 + 1 = k + ((i * 6 + 4 : Nat) : Int) from by omega]
        exact this
      have c5 : w.cell? ⟨b, off + i * 6 + 5, none⟩ = some (.int .i64 (K + 1 + 1 + 1 + 1 + 1)) := by
        have := hc 5 (by omega) _ (marks_at (k := k) (n := n * 6) (m := i * 6 + 5) (by omega))
        rw [show K + 1 + 1 + 1 + 1 + 1 = k + ((i * 6 + 5 : Nat) : Int) from by omega]
        exact this
      have HK := Lib.hid hK; clear hK hc hr
      go_wp2
      go_roundw
      case rel => exact ⟨i + 1, K + 1 + 1 + 1 + 1 + 1 + 1, by omega, by go_num, by go_num, by (have := HK.out; omega), by simp⟩
      case measure => simp [intOf]; omega
    · obtain rfl : i = n := by omega
      have HK := Lib.hid hK; clear hK hr
      go_wp2
      go_ret
      exact ⟨ret_int HK.out, rfl⟩

end Go.Proofs.Ytemomjcgkpinfaa
