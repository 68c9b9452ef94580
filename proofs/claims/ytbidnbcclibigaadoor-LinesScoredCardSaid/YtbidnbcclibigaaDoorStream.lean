/-
  The numbers that a stream hands out, and the small functions on numbers. Conditions: the bounds on numbers that each theorem names.
-/
import Derived.Test.YtbidnbcclibigaaDoorProg
import Derived.Test.YtbidnbcclibigaaDoorBwLib
import Derived.Deep.QuietTactic
import Derived.BigQuiet
import Derived.Lib.MinMax
namespace Go.Proofs.YtbidnbcclibigaaDoor
open Go.RowKit Go.Bw

set_option maxHeartbeats 400000 in
theorem out_true (n low high : Int) (w : World) (h : n < low ∨ high < n) :
    Calls Tryd.prog 43 #[.int .i64 n, .int .i64 low, .int .i64 high] w fun e w' => e = .returned (.bool true) ∧ w = w' := by
  rcases h with h | h
  · go_enter Tryd.func43, Tryd.ntmps43
    go_wp2
    go_ret
    exact ⟨by simp [h], rfl⟩
  · by_cases h2 : n < low
    · go_enter Tryd.func43, Tryd.ntmps43
      go_wp2
      go_ret
      exact ⟨by simp [h2], rfl⟩
    · go_enter Tryd.func43, Tryd.ntmps43
      go_wp2
      go_ret
      exact ⟨by simp [h], rfl⟩

set_option maxHeartbeats 400000 in
theorem out_false (n low high : Int) (w : World) (h : low ≤ n) (h' : n ≤ high) :
    Calls Tryd.prog 43 #[.int .i64 n, .int .i64 low, .int .i64 high] w fun e w' => e = .returned (.bool false) ∧ w = w' := by
  go_enter Tryd.func43, Tryd.ntmps43
  go_wp2
  go_ret
  exact ⟨by simp; omega, rfl⟩

/-- Is n outside low to high? -/
def outB (n low high : Int) : Bool := decide (n < low ∨ high < n)

theorem out_any (n low high : Int) (w : World) :
    Calls Tryd.prog 43 #[.int .i64 n, .int .i64 low, .int .i64 high] w fun e w' => e = .returned (.bool (outB n low high)) ∧ w = w' := by
  by_cases h : n < low ∨ high < n
  · have : outB n low high = true := by simp [outB, h]
    rw [this]
    exact out_true n low high w h
  · have : outB n low high = false := by simp [outB]; omega
    rw [this]
    exact out_false n low high w (by omega) (by omega)

theorem tmod_bounds (x n : Int) (h : 1 ≤ n) : -n < x.tmod n ∧ x.tmod n < n := by
  have h2 : x.tmod n < n := Int.tmod_lt_of_pos _ (by omega)
  have h3 : (-x).tmod n < n := Int.tmod_lt_of_pos _ (by omega)
  rw [Int.neg_tmod] at h3
  omega

set_option maxHeartbeats 400000 in
theorem below_any (x n : Int) (w : World) (hn : n ≤ 1099511627776) :
    Calls Tryd.prog 46 #[.int .i64 x, .int .i64 n] w fun e w' => ∃ r : Int, e = .returned (.int .i64 r) ∧ (n < 1 → r = 0) ∧ (1 ≤ n → 0 ≤ r ∧ r < n) ∧ w = w' := by
  by_cases h : n < 1
  · go_enter Tryd.func46, Tryd.ntmps46
    go_wp2
    go_ret
    exact ⟨0, rfl, fun _ => rfl, by omega, rfl⟩
  · obtain ⟨h1, h2⟩ := tmod_bounds x n (by omega)
    by_cases h3 : x.tmod n < 0
    · go_enter Tryd.func46, Tryd.ntmps46
      go_wp2
      go_ret
      exact ⟨_, rfl, by omega, by omega, rfl⟩
    · go_enter Tryd.func46, Tryd.ntmps46
      go_wp2
      go_ret
      exact ⟨_, rfl, by omega, by omega, rfl⟩

set_option maxHeartbeats 1000000 in
theorem next_any (B b : Nat) (n : Int) (w : World) (hn : n ≤ 1099511627776) (hS : Str B w b) (hb : b ≤ 1099511627776) :
    Calls Tryd.prog 22 #[.pointer (some ⟨B, 0, none⟩), .int .i64 n] w fun e w' => ∃ r : Int, e = .returned (.int .i64 r) ∧ (n < 1 → r = 0) ∧ (1 ≤ n → 0 ≤ r ∧ r < n) ∧
      Str B w' (b + 1) ∧ w.grownBy w' (some B) := by
  have hS0 := hS
  obtain ⟨v, m, zs, t, h0, h1, h2, h3, h4, h5'⟩ := hS
  have hst := Str.step h0 h1 h2 h3 h4 h5'
  have c0 : (w.setCell ⟨B, 1, none⟩ (.int .i64 (t + 1))).cell? ⟨B, 0, none⟩ = some v := by rw [World.cell?_setCell_other _ _ _ _ (by simp)]; exact h0
  have c1 : (w.setCell ⟨B, 1, none⟩ (.int .i64 (t + 1))).cell? ⟨B, 1, none⟩ = some (.int .i64 (t + 1)) := World.cell?_setCell_same' _ _ _ (by rw [h1]; rfl)
  have ht : t ≤ 1099511627776 := by omega
  have hv : ∃ a cap, v = .slice a m cap := by
    rcases h5' with ⟨rfl, a, c, rfl⟩ | ⟨h5, h6⟩
    · exact ⟨_, _, rfl⟩
    · rcases h5.2 with ⟨rfl, rfl⟩ | ⟨bz, off, cap, rfl, _⟩
      · exact ⟨_, _, rfl⟩
      · exact ⟨_, _, rfl⟩
  by_cases hm0 : m = 0
  · obtain ⟨a, cap, rfl⟩ := hv
    subst hm0
    clear h5' hS0
    go_enter Tryd.func22, Tryd.ntmps22
    go_wp2_with (go_at_call 46; refine (below_any _ _ _ hn).mono ?_; rintro e w1 ⟨r, rfl, hr0, hr1, rfl⟩)
    go_ret
    exact ⟨_, rfl, hr0, hr1, hst, grown_setCell _ _ _ _⟩
  · clear hv
    rcases h5' with ⟨h, _⟩ | ⟨h5, h6⟩
    · exact absurd h hm0
    obtain ⟨hlen, hcase⟩ := h5.ints
    rcases hcase with ⟨rfl, h⟩ | ⟨bz, off, cap, rfl, hbb, hbs, hnc, hcm, hcell⟩
    · exact absurd h hm0
    · have hbB : bz < B := h6 bz rfl
      have hi0 : 0 ≤ t % m := Int.emod_nonneg _ (by omega)
      have hi1 : t % m < m := Int.emod_lt_of_pos _ (by omega)
      have hc : (w.setCell ⟨B, 1, none⟩ (.int .i64 (t + 1))).cell? ⟨bz, off + (t % m).toNat, none⟩ = some (.int .i64 (geti zs (t % m))) := by
        rw [World.cell?_setCell_other _ _ _ _ (by simp [Nat.ne_of_gt hbB])]; exact hcell _ hi0 hi1
      have hmp : ((m : Int) == 0) = false := by simp; omega
      have hm64 : (m : Int) ≤ 9223372036854775807 := by unfold maxLen at hcm; omega
      clear hcell h6 h5 hS0 hlen
      unfold maxLen at hcm
      go_enter Tryd.func22, Tryd.ntmps22
      go_wp2_with (go_at_call 46; refine (below_any _ _ _ (by first | exact hn | omega)).mono ?_; rintro e w1 ⟨r, rfl, hr0, hr1, rfl⟩)
      go_quiet (fail)
      go_wp2_with fail
      go_quiet (fail)
      go_wp2_with (go_at_call 46; refine (below_any _ _ _ (by first | exact hn | omega)).mono ?_; rintro e w1 ⟨r, rfl, hr0, hr1, rfl⟩)
      go_ret
      exact ⟨_, rfl, hr0, hr1, hst.drewN _, grown_drewN (grown_setCell _ _ _ _) _⟩

set_option maxHeartbeats 400000 in
/-- Range: a number from low to high. -/
theorem range_any (B b : Nat) (low high : Int) (w : World) (hl : -1099511627000 ≤ low) (hl' : low ≤ 549755813888) (hh : high ≤ 549755813888) (hlo : high - low ≤ 1099511627000) (hS : Str B w b) (hb : b ≤ 1099511627776) :
    Calls Tryd.prog 7 #[.pointer (some ⟨B, 0, none⟩), .int .i64 low, .int .i64 high] w fun e w' => ∃ r : Int, e = .returned (.int .i64 r) ∧ low ≤ r ∧ (low ≤ high → r ≤ high) ∧ (high < low → r = low) ∧
      Str B w' (b + 1) ∧ w.grownBy w' (some B) := by
  by_cases h : high < low
  · go_enter Tryd.func7, Tryd.ntmps7
    go_wp2
    go_ret
    exact ⟨_, rfl, by omega, by omega, by omega, hS.mono (by omega), grown_refl _ _⟩
  · go_enter Tryd.func7, Tryd.ntmps7
    go_wp2_with (go_at_call 22; refine (next_any B b _ _ (by omega) hS hb).mono ?_; rintro e w1 ⟨r, rfl, hr0, hr1, hS1, hg1⟩; have hrl := (hr1 (by omega)).1; have hrh := (hr1 (by omega)).2)
    go_ret
    exact ⟨_, rfl, by omega, by omega, by omega, hS1, hg1⟩

set_option maxHeartbeats 400000 in
theorem flip_any (B b : Nat) (n : Int) (w : World) (hn : n ≤ 1099511627776) (hS : Str B w b) (hb : b ≤ 1099511627776) :
    Calls Tryd.prog 21 #[.pointer (some ⟨B, 0, none⟩), .int .i64 n] w fun e w' => ∃ r : Bool, e = .returned (.bool r) ∧ Str B w' (b + 1) ∧ w.grownBy w' (some B) := by
  go_enter Tryd.func21, Tryd.ntmps21
  go_wp2_with (go_at_call 22; refine (next_any B b _ _ hn hS hb).mono ?_; rintro e w1 ⟨r, rfl, hr0, hr1, hS1, hg1⟩)
  go_ret
  exact ⟨_, rfl, hS1, hg1⟩

set_option maxHeartbeats 400000 in
/-- Pick: one of some numbers. -/
theorem pick_any (B b : Nat) (v : Value) (n : Nat) (xs : List Int) (w : World) (hx : Row w 0 1 v n (xs.map (.int .i64))) (hn0 : 0 < n) (hn : n ≤ 1099511627776) (hB : ∀ k, v.ownBlock = some k → k ≠ B) (hS : Str B w b) (hb : b ≤ 1099511627776) :
    Calls Tryd.prog 45 #[.pointer (some ⟨B, 0, none⟩), v] w fun e w' => ∃ r : Int, e = .returned (.int .i64 r) ∧ r ∈ xs ∧ Str B w' (b + 1) ∧ w.grownBy w' (some B) := by
  obtain ⟨hlen, hcase⟩ := hx.ints
  rcases hcase with ⟨rfl, h⟩ | ⟨bz, off, cap, rfl, hbb, hbs, hnc, hcm, hcell⟩
  · omega
  · have hne : bz ≠ B := hB bz rfl
    clear hB hx
    unfold maxLen at hcm
    go_enter Tryd.func45, Tryd.ntmps45
    go_wp2_with (go_at_call 22; refine (next_any B b _ _ (by omega) hS hb).mono ?_; rintro e w1 ⟨r, rfl, hr0, hr1, hS1, hg1⟩; have hrl := (hr1 (by omega)).1; have hrh := (hr1 (by omega)).2; have hc := (World.cell?_of_block (a := ⟨bz, off + r.toNat, none⟩) (hg1.block bz hbs (by simpa using hne))).trans (hcell r hrl hrh); clear hcell)
    go_ret
    exact ⟨_, rfl, by unfold geti; rw [List.getElem?_eq_getElem (by omega)]; simp, hS1, hg1⟩

set_option maxHeartbeats 400000 in
theorem in_any (n low high : Int) (w : World) :
    Calls Tryd.prog 34 #[.int .i64 n, .int .i64 low, .int .i64 high] w fun e w' => e = .returned (.bool (!outB n low high)) ∧ w = w' := by
  by_cases h1 : n < low
  · have h2 : outB n low high = true := by simp [outB, h1]
    rw [h2]
    go_enter Tryd.func34, Tryd.ntmps34
    go_wp2
    go_ret
    exact ⟨by simp <;> omega, rfl⟩
  · by_cases h3 : high < n
    · have h2 : outB n low high = true := by simp [outB, h3]
      rw [h2]
      go_enter Tryd.func34, Tryd.ntmps34
      go_wp2
      go_ret
      exact ⟨by simp <;> omega, rfl⟩
    · have h2 : outB n low high = false := by simp [outB]; omega
      rw [h2]
      go_enter Tryd.func34, Tryd.ntmps34
      go_wp2
      go_ret
      exact ⟨by simp <;> omega, rfl⟩

end Go.Proofs.YtbidnbcclibigaaDoor
