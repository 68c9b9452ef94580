/-
  Is a string among strings? The library's slices.Contains, the program's Common at one string. Condition: fewer strings than Go's greatest number.
-/
import Derived.Test.YtbidnbcclibigaaDoorRising
import Derived.Lib.SlicesS
namespace Go.Proofs.YtbidnbcclibigaaDoor
open Go.RowKit Go.Bw

/-- Is x among zs? -/
def hasS (zs : List ByteArray) (x : ByteArray) : Bool := Lib.containsS zs x

theorem contains_str (v : Value) (n : Nat) (zs : List ByteArray) (x : ByteArray) (base : Nat) (w : World) (h : Row w base 1 v n (cellsOf encS zs)) :
    Calls Tryd.prog 54 #[v, .string x] w fun e w' => e = .returned (.bool (hasS zs x)) ∧ w = w' := by
  obtain ⟨hl, hc⟩ := h.els encS_length (by decide)
  subst hl
  rcases hc with ⟨rfl, h0⟩ | ⟨b, off, cap, rfl, _, hbs, hnc, hcm, hcell⟩
  · refine (Tryd.slices_Contains_string_empty none 0 x w).mono ?_
    rintro e w' ⟨rfl, rfl⟩
    have : zs = [] := List.length_eq_zero_iff.1 h0
    subst this
    exact ⟨rfl, rfl⟩
  · refine (Tryd.slices_Contains_string b off zs.length cap zs x w (Nat.le_refl _) (by omega) (fun j hj => ?_)).mono ?_
    · have := hcell (j : Int) (by omega) (by omega) 0 _ rfl
      rw [geta_eq zs j (by omega) (by omega)] at this
      simpa [List.getD, hj] using this
    · rintro e w' ⟨rfl, rfl⟩
      rw [List.take_length]
      exact ⟨rfl, rfl⟩

theorem hasS_iff (zs : List ByteArray) (x : ByteArray) : hasS zs x = true ↔ x ∈ zs := Lib.containsS_iff zs x

set_option maxHeartbeats 400000 in
theorem common1 (v : Value) (n : Nat) (zs : List ByteArray) (x : ByteArray) (base B : Nat) (w : World) (h : Row w base 1 v n (cellsOf encS zs)) (hB : w.cell? ⟨B, 0, none⟩ = some v) :
    Calls Tryd.prog 60 #[.string x, .pointer (some ⟨B, 0, none⟩)] w fun e w' => e = .returned (.bool (hasS zs x)) ∧ w = w' := by
  obtain ⟨p, c, hv⟩ := h.shape
  subst hv
  go_enter Tryd.func60, Tryd.ntmps60
  go_wp2_with (go_at_call 54; refine (contains_str _ n zs x base _ h).mono ?_; rintro e w1 ⟨rfl, rfl⟩)
  go_ret
  exact ⟨rfl, rfl⟩

set_option maxHeartbeats 1000000 in
theorem common_idx (v : Value) (n : Nat) (zs : List ByteArray) (x : ByteArray) (base B g : Nat) (w : World) (h : Row w base 1 v n (cellsOf encS zs)) (hB : w.cell? ⟨B, 0, none⟩ = some v) (hg : w.cell? ⟨g, 0, none⟩ = some (.string x)) (q : Bool) (hq : hasS zs x = q) :
    Calls Tryd.prog 64 #[.slice (some ⟨g, 0, none⟩) 1 1, .func (.func 60) #[] #[.pointer (some ⟨B, 0, none⟩)]] w fun e w' => e = .returned (.int .i64 (if q = true then 0 else -1)) ∧ w = w' := by
  have H1 := Lib.hid (common1 v n zs x base B w h hB)
  rw [hq] at H1
  clear hB h hq
  cases q
  · go_enter Tryd.func64, Tryd.ntmps64
    go_wp2_with fail
    go_loop [8] (fun i => ∃ k : Int, 0 ≤ k ∧ k ≤ 1 ∧ i = .int .i64 k) (fun i => 2 - (intOf i).toNat)
    case atStart => exact ⟨0, by omega, by omega, rfl⟩
    case round =>
      obtain ⟨k, hk0, hk1, rfl⟩ := hrel
      by_cases hlt : k < 1
      · obtain rfl : k = 0 := by omega
        clear hk0 hk1 hlt
        go_wp2_with (go_at_call 60; refine H1.out.mono ?_; rintro e w1 ⟨rfl, rfl⟩)
        go_round
        case rel => exact ⟨1, by omega, by omega, rfl⟩
        case measure => simp [intOf]
      · obtain rfl : k = 1 := by omega
        clear hk0 hk1 hlt
        go_wp2_with fail
        go_ret
        exact ⟨rfl, rfl⟩
  · go_enter Tryd.func64, Tryd.ntmps64
    go_wp2_with fail
    go_loop [8] (fun i => i = .int .i64 0) (fun i => 2 - (intOf i).toNat)
    case atStart => rfl
    case round =>
      obtain rfl := hrel
      go_wp2_with (go_at_call 60; refine H1.out.mono ?_; rintro e w1 ⟨rfl, rfl⟩)
      go_ret
      exact ⟨rfl, rfl⟩

set_option maxHeartbeats 1000000 in
theorem common_fn (v : Value) (n : Nat) (zs : List ByteArray) (x : ByteArray) (base B g : Nat) (w : World) (h : Row w base 1 v n (cellsOf encS zs)) (hB : w.cell? ⟨B, 0, none⟩ = some v) (hg : w.cell? ⟨g, 0, none⟩ = some (.string x)) :
    Calls Tryd.prog 59 #[.slice (some ⟨g, 0, none⟩) 1 1, .func (.func 60) #[] #[.pointer (some ⟨B, 0, none⟩)]] w fun e w' => e = .returned (.bool (hasS zs x)) ∧ w = w' := by
  have H1 := Lib.hid (common_idx v n zs x base B g w h hB hg _ rfl)
  clear hB h hg
  generalize hasS zs x = q at *
  cases q
  all_goals
    go_enter Tryd.func59, Tryd.ntmps59
    go_wp2_with (go_at_call 64; refine H1.out.mono ?_; rintro e w1 ⟨rfl, rfl⟩)
    go_ret
    exact ⟨rfl, rfl⟩

set_option maxHeartbeats 1000000 in
theorem common_any (v : Value) (n : Nat) (zs : List ByteArray) (x : ByteArray) (base g : Nat) (w : World) (h : Row w base 1 v n (cellsOf encS zs)) (hg : w.cell? ⟨g, 0, none⟩ = some (.string x)) :
    Calls Tryd.prog 49 #[.slice (some ⟨g, 0, none⟩) 1 1, v] w fun e w' => e = .returned (.bool (hasS zs x)) ∧ Below w.heap.size w w' := by
  have hgl := World.block_lt_of_cell? w _ hg
  have hw0 := (Below.refl w.heap.size w).alloc (Nat.le_refl _) (.cells #[v] 28)
  have hr := h.below hw0
  have c0 := cells_new w #[v] 28 0 _ rfl
  have c1 := (hw0.cell (p := ⟨g, 0, none⟩) hgl).trans hg
  have H1 := Lib.hid (common_fn v n zs x base w.heap.size g _ hr c0 c1)
  obtain ⟨p, c, rfl⟩ := h.shape
  clear hr c0 c1 hg h
  go_enter Tryd.func49, Tryd.ntmps49
  go_wp2_with fail
  refine H1.out.mono ?_
  rintro e w1 ⟨rfl, rfl⟩
  go_wp2_with fail
  go_ret
  exact ⟨rfl, hw0⟩
end Go.Proofs.YtbidnbcclibigaaDoor
