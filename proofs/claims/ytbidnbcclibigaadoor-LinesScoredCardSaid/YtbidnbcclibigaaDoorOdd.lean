/-
  An odd number: what Stream.Odd hands out. Conditions: low and high from 1 to 20.
-/
import Derived.Test.YtbidnbcclibigaaDoorGenL
import Derived.Lib.MinMax
namespace Go.Proofs.YtbidnbcclibigaaDoor
open Go.RowKit Go.Bw

theorem lit_row (w : World) (e : TypeId) (xs : List Int) (n : Nat) (hn : n ≤ 1099511627776) (hl : xs.length = n) (cs : Array Value) (hcs : cs.toList = xs.map (.int .i64)) :
    Row (w.alloc (.cells cs e)) 0 1 (.slice (some ⟨w.heap.size, 0, none⟩) n n) n (xs.map (.int .i64)) := by
  have h := owns_lit w 0 e cs n hn (by rw [← Array.length_toList, hcs]; simp [hl]) (Nat.zero_le _)
  rw [hcs] at h
  exact Row.of_owns h

set_option maxHeartbeats 1000000 in
theorem odd_any (B b : Nat) (low high : Int) (w : World) (hl : 0 ≤ low) (hl' : low ≤ high) (hh : high ≤ 100) (hS : Str B w b) (hb : b ≤ 1000000) :
    Calls Tryd.prog 24 #[.pointer (some ⟨B, 0, none⟩), .int .i64 low, .int .i64 high] w fun e w' => ∃ r : Int, e = .returned (.int .i64 r) ∧ Str B w' (b + 2) ∧ w.grownBy w' (some B) := by
  go_enter Tryd.func24, Tryd.ntmps24
  go_wp2_with first
    | (go_at_call 21; refine (flip_any B b _ _ (by omega) hS (by omega)).mono ?_; rintro e w1 ⟨q, rfl, hS1, hg1⟩; cases q)
    | (go_at_call 7; refine (range_any B (b + 1) _ _ _ (by omega) (by omega) (by omega) (by omega) hS1 (by omega)).mono ?_; rintro e w2 ⟨r, rfl, _, _, _, hS2, hg2⟩)
    | (go_at_call 45; go_must (refine (pick_any B (b + 1) _ 6 [low - 1, high + 1, low, high, -1099511627776, 1099511627776] _ (lit_row _ _ _ 6 (by decide) rfl _ rfl) (by decide) (by decide) (by intro k hk; have := hS1.lt; simp [Value.ownBlock] at hk; omega) (hS1.alloc _) (by omega)).mono ?_); rintro e w2 ⟨r, rfl, _, hS2, hg2⟩)
  all_goals go_ret
  · exact ⟨r, rfl, hS2, grown_trans hg1 hg2⟩
  · exact ⟨r, rfl, hS2, grown_trans hg1 (grown_trans (World.grownBy_alloc _ _ _) hg2)⟩
end Go.Proofs.YtbidnbcclibigaaDoor
