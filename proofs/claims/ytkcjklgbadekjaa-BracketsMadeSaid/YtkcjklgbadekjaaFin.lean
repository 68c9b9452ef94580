/-
  The law's own look that the package makes brackets. No condition.
-/
import Derived.Test.YtkcjklgbadekjaaFixed
import Derived.Test.YtkcjklgbadekjaaEqual
namespace Go.Proofs.Ytkcjklgbadekjaa
open Go.RowKit Go.Bw

theorem firstR_3 : firstR 3 = [(1, 0), (2, 3)] := by decide +kernel

set_option maxRecDepth 100000 in
set_option maxHeartbeats 1000000 in
theorem finished_any (w : World) : Calls Try.prog 23 #[] w fun e w' => e = .returned (.bool true) ∧ Below w.heap.size w w' := by
  go_enter Try.func23, Try.ntmps23
  go_wp2_with (go_at_call 13; refine (first_prog 3 _).mono ?_; rw [firstR_3, show manyF 3 = 0 from by decide +kernel]; rintro e w1 ⟨v, rfl, hown, hbel⟩; obtain ⟨hl, hc⟩ := row_pairs (Row.of_owns hown); rcases hc with ⟨_, h⟩ | ⟨b, off, cap, rfl, _, _, hn, hm, hcell⟩; (simp at h); have hc0 := (hcell 0 (by omega) (by simp)).1; simp [getp] at hc0; have hl2 : ([(1, 0), (2, 3)] : List (Int × Int)).length = 2 := rfl; clear hcell)
  go_ret
  exact ⟨rfl, hbel⟩
end Go.Proofs.Ytkcjklgbadekjaa
