/-
  What the stream hands out of strings; the first of some errors. Conditions: the bounds that each theorem names.
-/
import Derived.Test.YtbidnbcclibigaaDoorRising
import Derived.Test.YtbidnbcclibigaaDoorOdd
import Derived.Test.YtbidnbcclibigaaDoorGenM
namespace Go.Bw
open Go.RowKit
theorem lit_rowS (w : World) (e : TypeId) (xs : List ByteArray) (n : Nat) (hn : n ≤ 1099511627776) (hl : xs.length = n) (cs : Array Value) (hcs : cs.toList = cellsOf encS xs) :
    Row (w.alloc (.cells cs e)) 0 1 (.slice (some ⟨w.heap.size, 0, none⟩) n n) n (cellsOf encS xs) := by
  have h := owns_lit w 0 e cs n hn (by rw [← Array.length_toList, hcs, cellsOf_length encS 1 encS_length]; omega) (Nat.zero_le _)
  rw [hcs] at h
  exact Row.of_owns h
/-- A short string. -/
def Sm (s : ByteArray) : Prop := s.size ≤ 100
instance (s : ByteArray) : Decidable (Sm s) := inferInstanceAs (Decidable (s.size ≤ 100))
theorem Sm.le {s : ByteArray} (h : Sm s) : s.size ≤ 9223372036854775807 := Nat.le_trans h (by decide)
/-- What a call of the stream leaves behind an allocation. -/
theorem Drawn.of_alloc {n₀ b : Nat} {w w' : World} {o : Obj} (h : Drawn n₀ (w.alloc o) w' b) : Drawn n₀ w w' b := ⟨h.str, grown_trans (World.grownBy_alloc w o _) h.gr⟩
end Go.Bw
namespace Go.Proofs.YtbidnbcclibigaaDoor
open Go.RowKit Go.Bw
theorem el_str : Elem Tryd.prog 28 9 (.string ByteArray.empty) 1 16 := ⟨by kernel_rfl, by kernel_rfl, by kernel_rfl, by decide, by decide⟩

set_option maxHeartbeats 400000 in
theorem some_any (B b : Nat) (v : Value) (n : Nat) (xs : List ByteArray) (w : World) (hx : Row w 0 1 v n (cellsOf encS xs)) (hn0 : 0 < n) (hn : n ≤ 1099511627776) (hB : ∀ k, v.ownBlock = some k → k ≠ B) (hS : Str B w b) (hb : b ≤ 1099511627776) :
    Calls Tryd.prog 23 #[.pointer (some ⟨B, 0, none⟩), v] w fun e w' => ∃ r : ByteArray, e = .returned (.string r) ∧ r ∈ xs ∧ Drawn B w w' (b + 1) := by
  obtain ⟨hlen, hcase⟩ := hx.els encS_length (by decide)
  rcases hcase with ⟨rfl, h⟩ | ⟨bz, off, cap, rfl, hbb, hbs, hnc, hcm, hcell⟩
  · omega
  · have hne : bz ≠ B := hB bz rfl
    have hm := @geta_mem ByteArray _ xs
    clear hB hx
    go_enter Tryd.func23, Tryd.ntmps23
    go_wp2_with (go_at_call 22; refine (next_any B b _ _ (by omega) hS hb).mono ?_; rintro e w1 ⟨r, rfl, hr0, hr1, hS1, hg1⟩; have hrl := (hr1 (by omega)).1; have hrh := (hr1 (by omega)).2; have hc := hcell r hrl hrh 0 _ rfl; rw [Nat.mul_one, Nat.add_zero] at hc; replace hc := (World.cell?_of_block (a := ⟨bz, off + r.toNat, none⟩) (hg1.block bz hbs (by simpa using hne))).trans hc; replace hm := hm hrl (by omega); clear hcell)
    go_ret
    exact ⟨_, rfl, hm, hS1, hg1⟩

theorem some_lit (B b : Nat) (xs : List ByteArray) (n : Nat) (cs : Array Value) (e : TypeId) (w : World) (hcs : cs.toList = cellsOf encS xs) (hl : xs.length = n) (hn0 : 0 < n) (hn : n ≤ 1099511627776) (hS : Str B w b) (hb : b ≤ 1099511627776) :
    Calls Tryd.prog 23 #[.pointer (some ⟨B, 0, none⟩), .slice (some ⟨w.heap.size, 0, none⟩) n n] (w.alloc (.cells cs e)) fun e w' => ∃ r : ByteArray, e = .returned (.string r) ∧ r ∈ xs ∧ Drawn B w w' (b + 1) := by
  refine (some_any B b _ n xs _ (lit_rowS w e xs n hn hl cs hcs) hn0 hn (by intro k hk; have := hS.lt; simp [Value.ownBlock] at hk; omega) (hS.alloc _) hb).mono ?_
  rintro e w1 ⟨r, rfl, hm, hd⟩
  exact ⟨r, rfl, hm, hd.of_alloc⟩

theorem pick_lit (B b : Nat) (xs : List Int) (n : Nat) (cs : Array Value) (e : TypeId) (w : World) (hcs : cs.toList = xs.map (.int .i64)) (hl : xs.length = n) (hn0 : 0 < n) (hn : n ≤ 1099511627776) (hS : Str B w b) (hb : b ≤ 1099511627776) :
    Calls Tryd.prog 45 #[.pointer (some ⟨B, 0, none⟩), .slice (some ⟨w.heap.size, 0, none⟩) n n] (w.alloc (.cells cs e)) fun e w' => ∃ r : Int, e = .returned (.int .i64 r) ∧ r ∈ xs ∧ Drawn B w w' (b + 1) := by
  refine (pick_any B b _ n xs _ (lit_row w e xs n hn hl cs hcs) hn0 hn (by intro k hk; have := hS.lt; simp [Value.ownBlock] at hk; omega) (hS.alloc _) hb).mono ?_
  rintro e w1 ⟨r, rfl, hm, h1, h2⟩
  exact ⟨r, rfl, hm, h1, grown_trans (World.grownBy_alloc _ _ _) h2⟩

theorem flip_d (B b : Nat) (n : Int) (w : World) (hS : Str B w b) (hn : decide (n ≤ 1000) = true) (hb : b ≤ 1000000) :
    Calls Tryd.prog 21 #[.pointer (some ⟨B, 0, none⟩), .int .i64 n] w fun e w' => ∃ r : Bool, e = .returned (.bool r) ∧ Drawn B w w' (b + 1) := by
  refine (flip_any B b n w (by have := of_decide_eq_true hn; omega) hS (by omega)).mono ?_
  rintro e w1 ⟨r, rfl, h1, h2⟩
  exact ⟨r, rfl, h1, h2⟩
theorem next_d (B b : Nat) (n : Int) (w : World) (hS : Str B w b) (hn : 1 ≤ n) (hn' : n ≤ 1000) (hb : b ≤ 1000000) :
    Calls Tryd.prog 22 #[.pointer (some ⟨B, 0, none⟩), .int .i64 n] w fun e w' => ∃ r : Int, e = .returned (.int .i64 r) ∧ 0 ≤ r ∧ r < n ∧ Drawn B w w' (b + 1) := by
  refine (next_any B b n w (by omega) hS (by omega)).mono ?_
  rintro e w1 ⟨r, rfl, _, hr, h1, h2⟩
  exact ⟨r, rfl, (hr hn).1, (hr hn).2, h1, h2⟩
theorem range_d (B b : Nat) (low high : Int) (w : World) (hS : Str B w b) (hl : decide (0 ≤ low ∧ low ≤ high ∧ high ≤ 1000) = true) (hb : b ≤ 1000000) :
    Calls Tryd.prog 7 #[.pointer (some ⟨B, 0, none⟩), .int .i64 low, .int .i64 high] w fun e w' => ∃ r : Int, e = .returned (.int .i64 r) ∧ (low ≤ r ∧ r ≤ high) ∧ Drawn B w w' (b + 1) := by
  have hl := of_decide_eq_true hl
  refine (range_any B b low high w (by omega) (by omega) (by omega) (by omega) hS (by omega)).mono ?_
  rintro e w1 ⟨r, rfl, h1, h2, _, h4, h5⟩
  exact ⟨r, rfl, ⟨h1, h2 (by omega)⟩, h4, h5⟩

set_option maxHeartbeats 1000000 in
/-- Odd, within wide bounds. -/
theorem odd_d (B b : Nat) (low high : Int) (w : World) (hl : -1000000 ≤ low) (hl' : low ≤ high) (hh : high ≤ 1000000) (hS : Str B w b) (hb : b ≤ 1000000) :
    Calls Tryd.prog 24 #[.pointer (some ⟨B, 0, none⟩), .int .i64 low, .int .i64 high] w fun e w' => ∃ r : Int, e = .returned (.int .i64 r) ∧ (-1099511627776 ≤ r ∧ r ≤ 1099511627776) ∧ Drawn B w w' (b + 2) := by
  go_enter Tryd.func24, Tryd.ntmps24
  go_wp2_with first
    | (go_at_call 21; refine (flip_d B b _ _ hS rfl hb).mono ?_; rintro e w1 ⟨q, rfl, hd1⟩; cases q)
    | (go_at_call 7; refine (range_any B (b + 1) _ _ _ (by omega) (by omega) (by omega) (by omega) hd1.str (by omega)).mono ?_; rintro e w2 ⟨r, rfl, hr1, hr2, _, hS2, hg2⟩)
    | (go_at_call 45; go_must (refine (pick_lit B (b + 1) [low - 1, high + 1, low, high, -1099511627776, 1099511627776] 6 _ _ _ rfl rfl (by decide) (by decide) hd1.str (by omega)).mono ?_); rintro e w2 ⟨r, rfl, hm, hd2⟩)
  all_goals go_ret
  · have := hr2 hl'
    exact ⟨r, rfl, by omega, ⟨hS2, grown_trans hd1.gr hg2⟩⟩
  · simp only [List.mem_cons, List.mem_nil_iff, or_false] at hm
    exact ⟨r, rfl, by omega, hd1.trans hd2⟩

/-- The first of two errors. -/
def err2 (a b : Int) : Int := if a ≠ 0 then a else b
set_option maxRecDepth 100000 in
set_option maxHeartbeats 1000000 in
theorem errs_two (a b : Int) (w : World) (e : TypeId) :
    Calls Tryd.prog 10 #[.slice (some ⟨w.heap.size, 0, none⟩) 2 2] (w.alloc (.cells #[.int .i64 a, .int .i64 b] e)) fun x w' => x = .returned (.int .i64 (err2 a b)) ∧ Below w.heap.size w w' := by
  have hb := (Below.refl w.heap.size w).alloc (Nat.le_refl _) (.cells #[.int .i64 a, .int .i64 b] e)
  have c0 := cells_new w #[.int .i64 a, .int .i64 b] e 0 _ rfl
  have c1 := cells_new w #[.int .i64 a, .int .i64 b] e 1 _ rfl
  generalize w.alloc (.cells #[.int .i64 a, .int .i64 b] e) = W at *
  generalize hg : w.heap.size = g at *
  have Hg := Lib.hid hg
  clear hg
  by_cases ha : a = 0
  · have HE : err2 a b = b := by simp [err2, ha]
    rw [HE]
    clear HE
    subst ha
    by_cases hb0 : b = 0
    · subst hb0
      go_enter Tryd.func10, Tryd.ntmps10
      go_wp2_with fail
      go_loop [7] (fun i => ∃ k : Int, 0 ≤ k ∧ k ≤ 2 ∧ i = .int .i64 k) (fun i => 2 - (intOf i).toNat)
      case atStart => exact ⟨0, by omega, by omega, rfl⟩
      case round =>
        obtain ⟨k, hk0, hk1, rfl⟩ := hrel
        have hk : k = 0 ∨ k = 1 ∨ k = 2 := by omega
        rcases hk with rfl | rfl | rfl
        · go_wp2_with fail
          go_round
          case rel => exact ⟨1, by omega, by omega, rfl⟩
          case measure => simp [intOf]
        · go_wp2_with fail
          go_round
          case rel => exact ⟨2, by omega, by omega, rfl⟩
          case measure => simp [intOf]
        · go_wp2_with fail
          go_ret
          exact ⟨rfl, hb⟩
    · have hbb : (b != 0) = true := by simp [hb0]
      clear hb0
      go_enter Tryd.func10, Tryd.ntmps10
      go_wp2_with fail
      go_loop [7] (fun i => ∃ k : Int, 0 ≤ k ∧ k ≤ 1 ∧ i = .int .i64 k) (fun i => 2 - (intOf i).toNat)
      case atStart => exact ⟨0, by omega, by omega, rfl⟩
      case round =>
        obtain ⟨k, hk0, hk1, rfl⟩ := hrel
        have hk : k = 0 ∨ k = 1 := by omega
        rcases hk with rfl | rfl
        · go_wp2_with fail
          go_round
          case rel => exact ⟨1, by omega, by omega, rfl⟩
          case measure => simp [intOf]
        · go_wp2_with fail
          go_ret
          exact ⟨rfl, hb⟩
  · have HE := Lib.hid (show err2 a b = a by simp [err2, ha])
    have hab : (a != 0) = true := by simp [ha]
    clear ha
    go_enter Tryd.func10, Tryd.ntmps10
    go_wp2_with fail
    go_loop [7] (fun i => i = .int .i64 0) (fun i => 2 - (intOf i).toNat)
    case atStart => rfl
    case round =>
      obtain rfl := hrel
      go_wp2_with fail
      go_ret
      exact ⟨ret_int HE.out.symm, hb⟩
end Go.Proofs.YtbidnbcclibigaaDoor
