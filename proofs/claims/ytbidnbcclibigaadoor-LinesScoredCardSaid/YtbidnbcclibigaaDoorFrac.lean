/-
  Fractions: the program's and the reference's reckoning. Conditions: the bounds on numbers that each theorem names.
-/
import Derived.Test.YtbidnbcclibigaaDoorKey
import Derived.Test.YtbidnbcclibigaaDoorBwReg
import Derived.IntWalk
import Derived.WalkLawsBesides
namespace Go.Bw
open Go.RowKit
theorem gcd_tmod (a b : Int) : Int.gcd b (a.tmod b) = Int.gcd a b := by
  unfold Int.gcd
  rw [Int.natAbs_tmod, Nat.gcd_comm, ← Nat.gcd_rec, Nat.gcd_comm]
theorem gcd_emod (a b : Int) (h : 0 ≤ a) : Int.gcd b (a % b) = Int.gcd a b := by
  rw [← Int.tmod_eq_emod_of_nonneg h, gcd_tmod]
theorem gcd_zero {a : Int} : Int.gcd a 0 = a.natAbs := by simp [Int.gcd]
theorem gcd_neg' (a b : Int) : Int.gcd (-a) b = Int.gcd a b := by simp [Int.gcd]
theorem gcd_abs (a b : Int) : Int.gcd (max a (-a)) b = Int.gcd a b := by
  by_cases h : 0 ≤ a
  · rw [Int.max_eq_left (by omega)]
  · rw [Int.max_eq_right (by omega), gcd_neg']
theorem wrap_neg_u64 {x : Int} (h1 : -9223372036854775808 ≤ x) (h2 : x < 0) : IntKind.u64.wrap (-IntKind.u64.wrap x) = -x := by
  have e : ∀ y : Int, IntKind.u64.wrap y = y % 18446744073709551616 := fun y => rfl
  rw [e, e]
  omega
theorem frozen_new0 (w : World) (cs : Array Value) (e : TypeId) (i : Nat) : (w.alloc (.cells cs e)).frozen? ⟨w.heap.size, i, none⟩ = false := by
  unfold World.frozen?
  rw [heap_alloc_new]
  simp
/-- A block of two cells that was laid, seen behind a call that left it alone. -/
theorem fresh2 (w w1 : World) (e : TypeId) (x0 y0 : Value) (hb : Below (w.alloc (.cells #[x0, y0] e)).heap.size (w.alloc (.cells #[x0, y0] e)) w1) :
    w1.cell? ⟨w.heap.size, 0, none⟩ = some x0 ∧ w1.cell? ⟨w.heap.size, 1, none⟩ = some y0 ∧ w1.frozen? ⟨w.heap.size, 0, none⟩ = false ∧ w1.frozen? ⟨w.heap.size, 1, none⟩ = false ∧ w.heap.size < w1.heap.size ∧
    (∀ x y, ((w1.setCell ⟨w.heap.size, 0, none⟩ x).setCell ⟨w.heap.size, 1, none⟩ y).cell? ⟨w.heap.size, 0, none⟩ = some x) ∧
    (∀ x y, ((w1.setCell ⟨w.heap.size, 0, none⟩ x).setCell ⟨w.heap.size, 1, none⟩ y).cell? ⟨w.heap.size, 1, none⟩ = some y) ∧
    (∀ x y, Below w.heap.size w ((w1.setCell ⟨w.heap.size, 0, none⟩ x).setCell ⟨w.heap.size, 1, none⟩ y)) := by
  have hlt : w.heap.size < (w.alloc (.cells #[x0, y0] e)).heap.size := by simp
  have k0 := (hb.cell (p := ⟨w.heap.size, 0, none⟩) hlt).trans (cells_new w #[x0, y0] e 0 _ rfl)
  have k1 := (hb.cell (p := ⟨w.heap.size, 1, none⟩) hlt).trans (cells_new w #[x0, y0] e 1 _ rfl)
  have hw := ((Below.refl w.heap.size w).alloc (Nat.le_refl _) (.cells #[x0, y0] e)).trans (hb.mono (Nat.le_of_lt hlt))
  refine ⟨k0, k1, (hb.frozen (p := ⟨w.heap.size, 0, none⟩) hlt).trans (frozen_new0 _ _ _ _), (hb.frozen (p := ⟨w.heap.size, 1, none⟩) hlt).trans (frozen_new0 _ _ _ _), Nat.lt_of_lt_of_le hlt hb.size, fun x y => ?_, fun x y => ?_, fun x y => (hw.setCell (Nat.le_refl _) _).setCell (Nat.le_refl _) _⟩
  · rw [World.cell?_setCell_other _ _ _ _ (by simp)]
    exact World.cell?_setCell_same' _ _ _ (by rw [k0]; rfl)
  · exact World.cell?_setCell_same' _ _ _ (by rw [World.cell?_setCell_other _ _ _ _ (by simp), k1]; rfl)
theorem mul_small (x q : Int) (h1 : -1000000000000000 ≤ x) (h2 : x ≤ 1000000000000000) (h3 : 0 ≤ q) (h4 : q ≤ 100) : -100000000000000000 ≤ x * q ∧ x * q ≤ 100000000000000000 := by
  have a := Int.mul_le_mul_of_nonneg_right h1 h3
  have b := Int.mul_le_mul_of_nonneg_right h2 h3
  omega
end Go.Bw
namespace Go.Proofs.YtbidnbcclibigaaDoor
open Go.RowKit Go.Bw

set_option maxRecDepth 100000 in
set_option maxHeartbeats 1000000 in
theorem gcd_any (a b : Int) (w : World) (h1 : 0 ≤ a) (h2 : a ≤ 9223372036854775807) (h3 : 0 ≤ b) (h4 : b ≤ 9223372036854775807) :
    Calls Tryd.prog 58 #[.int .i64 a, .int .i64 b] w fun e w' => e = .returned (.int .i64 (Int.gcd a b)) ∧ Below w.heap.size w w' := by
  have hw0 := Below.refl w.heap.size w
  obtain ⟨G, hG⟩ : ∃ G, G = Int.gcd a b := ⟨_, rfl⟩
  rw [← hG]
  have HG := Lib.hid hG.symm
  clear hG
  go_enter Tryd.func58, Tryd.ntmps58
  go_wp2_with fail
  go_loopw [0, 1] (fun s t wr => ∃ x y : Int, 0 ≤ x ∧ x ≤ 9223372036854775807 ∧ 0 ≤ y ∧ y ≤ 9223372036854775807 ∧ Hid (Int.gcd x y = G) ∧ s = .int .i64 x ∧ t = .int .i64 y ∧ Below w.heap.size w wr) (fun _ t _ => (intOf t).toNat)
  case atStart => exact ⟨a, b, h1, h2, h3, h4, HG, rfl, rfl, hw0⟩
  case round =>
    obtain ⟨x, y, hx0, hx1, hy0, hy1, hg, rfl, rfl, hb⟩ := hrel
    by_cases hy : y = 0
    · have hx : (G : Int) = x := by rw [← hg.out, hy, gcd_zero]; omega
      subst hy
      have Hx := Lib.hid hx
      clear hx
      go_wp2_with fail
      go_ret
      exact ⟨ret_int Hx.out.symm, hb⟩
    · have hyb : (y == 0) = false := by simp [hy]
      have hst : Hid (Int.gcd y (x % y) = G) := Lib.hid (by rw [gcd_emod _ _ hx0]; exact hg.out)
      have hm0 : 0 ≤ x % y := Int.emod_nonneg _ hy
      have hm1 : x % y < y := Int.emod_lt_of_pos _ (by omega)
      clear hg
      go_wp2_with fail
      go_quiet (fail)
      go_wp2_with fail
      go_roundw
      case rel => exact ⟨y, x % y, by omega, by omega, by omega, by omega, hst, rfl, rfl, below_drewN hb _⟩
      case measure => simp [intOf]; omega

set_option maxRecDepth 100000 in
set_option maxHeartbeats 1000000 in
theorem lowest_any (num den : Int) (w : World) (h1 : -9223372036854775808 ≤ num) (h2 : num ≤ 9223372036854775807) (h3 : 1 ≤ den) (h4 : den ≤ 9223372036854775807) :
    Calls Tryd.prog 57 #[.agg #[.int .i64 num, .int .i64 den]] w fun e w' => e = .returned (.bool (decide (Int.gcd num den = 1))) ∧ Below w.heap.size w w' := by
  have hw0 := Below.refl w.heap.size w
  obtain ⟨G, hG⟩ : ∃ G, G = Int.gcd num den := ⟨_, rfl⟩
  rw [← hG]
  have HG := Lib.hid hG.symm
  clear hG
  have HA : Hid (Int.gcd num.natAbs den = G) := Lib.hid (by rw [← HG.out]; simp [Int.gcd])
  by_cases hn : num < 0
  · have HW := Lib.hid (wrap_neg_u64 h1 hn)
    have hG2 : Hid (Int.gcd (-num) den = G) := Lib.hid (by rw [gcd_neg']; exact HG.out)
    go_enter Tryd.func57, Tryd.ntmps57
    go_wp2_with fail
    go_quiet (fail)
    go_wp2_with fail
    go_loopw [3, 4] (fun s t wr => ∃ x y : Int, 0 ≤ x ∧ x ≤ 9223372036854775808 ∧ 0 ≤ y ∧ y ≤ 9223372036854775807 ∧ Hid (Int.gcd x y = G) ∧ s = .int .u64 x ∧ t = .int .u64 y ∧ Below w.heap.size w wr) (fun _ t _ => (intOf t).toNat)
    case atStart => exact ⟨-num, den, by omega, by omega, by omega, h4, hG2, by rw [HW.out], rfl, below_drewN (hw0.alloc (Nat.le_refl _) _) _⟩
    case round =>
      obtain ⟨x, y, hx0, hx1, hy0, hy1, hg, rfl, rfl, hb⟩ := hrel
      by_cases hy : y = 0
      · have hx : (G : Int) = x := by rw [← hg.out, hy, gcd_zero]; omega
        subst hy
        have Hx := Lib.hid hx
        clear hx
        go_wp2_with fail
        go_ret
        exact ⟨ret_bool (by rw [← Hx.out]; by_cases hG : G = 1 <;> simp [hG] <;> omega), hb⟩
      · have hyb : (y == 0) = false := by simp [hy]
        have hst : Hid (Int.gcd y (x % y) = G) := Lib.hid (by rw [gcd_emod _ _ hx0]; exact hg.out)
        have hm0 : 0 ≤ x % y := Int.emod_nonneg _ hy
        have hm1 : x % y < y := Int.emod_lt_of_pos _ (by omega)
        clear hg
        go_wp2_with fail
        go_quiet (fail)
        go_wp2_with fail
        go_roundw
        case rel => exact ⟨y, x % y, by omega, by omega, by omega, by omega, hst, rfl, rfl, below_drewN hb _⟩
        case measure => simp [intOf]; omega
  · go_enter Tryd.func57, Tryd.ntmps57
    go_wp2_with fail
    go_quiet (fail)
    go_wp2_with fail
    go_loopw [3, 4] (fun s t wr => ∃ x y : Int, 0 ≤ x ∧ x ≤ 9223372036854775808 ∧ 0 ≤ y ∧ y ≤ 9223372036854775807 ∧ Hid (Int.gcd x y = G) ∧ s = .int .u64 x ∧ t = .int .u64 y ∧ Below w.heap.size w wr) (fun _ t _ => (intOf t).toNat)
    case atStart => exact ⟨num, den, by omega, by omega, by omega, h4, HG, rfl, rfl, below_drewN (hw0.alloc (Nat.le_refl _) _) _⟩
    case round =>
      obtain ⟨x, y, hx0, hx1, hy0, hy1, hg, rfl, rfl, hb⟩ := hrel
      by_cases hy : y = 0
      · have hx : (G : Int) = x := by rw [← hg.out, hy, gcd_zero]; omega
        subst hy
        have Hx := Lib.hid hx
        clear hx
        go_wp2_with fail
        go_ret
        exact ⟨ret_bool (by rw [← Hx.out]; by_cases hG : G = 1 <;> simp [hG] <;> omega), hb⟩
      · have hyb : (y == 0) = false := by simp [hy]
        have hst : Hid (Int.gcd y (x % y) = G) := Lib.hid (by rw [gcd_emod _ _ hx0]; exact hg.out)
        have hm0 : 0 ≤ x % y := Int.emod_nonneg _ hy
        have hm1 : x % y < y := Int.emod_lt_of_pos _ (by omega)
        clear hg
        go_wp2_with fail
        go_quiet (fail)
        go_wp2_with fail
        go_roundw
        case rel => exact ⟨y, x % y, by omega, by omega, by omega, by omega, hst, rfl, rfl, below_drewN hb _⟩
        case measure => simp [intOf]; omega

set_option maxRecDepth 100000 in
set_option maxHeartbeats 1000000 in
/-- divisor: of a number and one above 0. -/
theorem divisor_any (a b : Int) (w : World) (h1 : -9223372036854775808 ≤ a) (h2 : a ≤ 9223372036854775807) (h3 : 1 ≤ b) (h4 : b ≤ 9223372036854775807) :
    Calls Tryd.prog 53 #[.int .i64 a, .int .i64 b] w fun e w' => e = .returned (.int .i64 (Int.gcd a b)) ∧ Below w.heap.size w w' := by
  have hw0 := Below.refl w.heap.size w
  obtain ⟨G, hG⟩ : ∃ G, G = Int.gcd a b := ⟨_, rfl⟩
  rw [← hG]
  have HG := Lib.hid hG.symm
  clear hG
  go_enter Tryd.func53, Tryd.ntmps53
  go_wp2_with fail
  go_loopw [0, 1] (fun s t wr => ∃ x y : Int, -9223372036854775808 ≤ x ∧ x ≤ 9223372036854775807 ∧ -9223372036854775807 ≤ y ∧ y ≤ 9223372036854775807 ∧ (y = 0 → -9223372036854775807 ≤ x) ∧ Hid (Int.gcd x y = G) ∧ s = .int .i64 x ∧ t = .int .i64 y ∧ Below w.heap.size w wr) (fun _ t _ => (intOf t).natAbs)
  case atStart => exact ⟨a, b, h1, h2, by omega, h4, by omega, HG, rfl, rfl, hw0⟩
  case round =>
    obtain ⟨x, y, hx0, hx1, hy0, hy1, hxy, hg, rfl, rfl, hb⟩ := hrel
    by_cases hy : y = 0
    · have hx : (G : Int) = max x (-x) := by rw [← hg.out, hy, gcd_zero]; omega
      have hx2 := hxy hy
      subst hy
      have Hx := Lib.hid hx
      clear hx hxy
      go_wp2_with fail
      go_ret
      exact ⟨ret_int Hx.out.symm, hb⟩
    · have hyb : (y == 0) = false := by simp [hy]
      have hst : Hid (Int.gcd y (x.tmod y) = G) := Lib.hid (by rw [gcd_tmod]; exact hg.out)
      have hna : (x.tmod y).natAbs < y.natAbs := by rw [Int.natAbs_tmod]; exact Nat.mod_lt _ (by omega)
      have hm0 : -9223372036854775807 ≤ x.tmod y := by omega
      have hm1 : x.tmod y ≤ 9223372036854775807 := by omega
      clear hg hxy
      go_wp2_with fail
      go_quiet (fail)
      go_wp2_with fail
      go_roundw
      case rel => exact ⟨y, x.tmod y, by omega, by omega, by omega, by omega, by omega, hst, rfl, rfl, below_drewN hb _⟩
      case measure => exact hna

/-- So many hundredths, in lowest terms. -/
def ofHn (n : Int) : Int := n / (Int.gcd n 100 : Int)
def ofHd (n : Int) : Int := 100 / (Int.gcd n 100 : Int)

theorem gcd100 (n : Int) : 1 ≤ (Int.gcd n 100 : Int) ∧ (Int.gcd n 100 : Int) ≤ 100 := by
  have h0 : 0 < Int.gcd n 100 := Int.gcd_pos_of_ne_zero_right _ (by decide)
  have h1 : Int.gcd n 100 ∣ 100 := by have := Int.gcd_dvd_right n 100; exact_mod_cast this
  have := Nat.le_of_dvd (by decide) h1
  omega

theorem ofH_quo (n : Int) : n.tdiv (Int.gcd n 100 : Int) = ofHn n := by
  unfold ofHn
  rw [Int.tdiv_eq_ediv_of_dvd (Int.gcd_dvd_left n 100)]

theorem ofH_bounds (n : Int) (h : -1000000000000000 ≤ n) (h' : n ≤ 1000000000000000) : -1000000000000000 ≤ ofHn n ∧ ofHn n ≤ 1000000000000000 ∧ 1 ≤ ofHd n ∧ ofHd n ≤ 100 := by
  have hg := gcd100 n
  have hn : ofHn n * (Int.gcd n 100 : Int) = n := by unfold ofHn; exact Int.ediv_mul_cancel (Int.gcd_dvd_left n 100)
  have hm : (ofHn n).natAbs ≤ n.natAbs := by
    rw [← congrArg Int.natAbs hn, Int.natAbs_mul]
    exact Nat.le_mul_of_pos_right _ (by omega)
  refine ⟨by omega, by omega, ?_, ?_⟩
  · unfold ofHd
    exact Int.le_ediv_of_mul_le (by omega) (by omega)
  · unfold ofHd
    exact Int.ediv_le_self _ (by decide)

/-- Made into hundredths again. -/
theorem ofH_back (n : Int) : ofHn n * (100 / ofHd n) = n := by
  have hg := gcd100 n
  have hd : ofHd n * (Int.gcd n 100 : Int) = 100 := by unfold ofHd; exact Int.ediv_mul_cancel (Int.gcd_dvd_right n 100)
  have hn : ofHn n * (Int.gcd n 100 : Int) = n := by unfold ofHn; exact Int.ediv_mul_cancel (Int.gcd_dvd_left n 100)
  have hne : ofHd n ≠ 0 := by intro e; rw [e] at hd; simp at hd
  rw [← hd, Int.mul_ediv_cancel_left _ hne, hn]

set_option maxRecDepth 100000 in
set_option maxHeartbeats 1000000 in
theorem fraction_prog (n : Int) (w : World) (h1 : -1000000000000000 ≤ n) (h2 : n ≤ 1000000000000000) :
    Calls Tryd.prog 48 #[.int .i64 n, .int .i64 100] w fun e w' => e = .returned (.agg #[.int .i64 (ofHn n), .int .i64 (ofHd n)]) ∧ Below w.heap.size w w' := by
  have hq := Lib.hid (ofH_quo n)
  have hg := gcd100 n
  have ha := Lib.hid (gcd_abs n 100)
  have hd := Lib.hid (show 100 / (Int.gcd n 100 : Int) = ofHd n from rfl)
  have hw0 := Below.refl w.heap.size w
  go_enter Tryd.func48, Tryd.ntmps48
  go_wp2_with fail
  have k0 := cells_new w #[.int .i64 0, .int .i64 0] 36 0 _ rfl
  have k1 := cells_new w #[.int .i64 0, .int .i64 0] 36 1 _ rfl
  have kf := frozen_new0 w #[.int .i64 0, .int .i64 0] 36 0
  have kf1 := frozen_new0 w #[.int .i64 0, .int .i64 0] 36 1
  have hlt : w.heap.size < (w.alloc (.cells #[.int .i64 0, .int .i64 0] 36)).heap.size := by simp
  replace hw0 := hw0.alloc (Nat.le_refl _) (.cells #[.int .i64 0, .int .i64 0] 36)
  generalize w.alloc (Obj.cells #[Value.int IntKind.i64 0, Value.int IntKind.i64 0] 36) = W at *
  refine (gcd_any _ _ _ (by omega) (by omega) (by omega) (by omega)).mono ?_
  rw [ha.out]
  rintro e w1 ⟨rfl, hb⟩
  generalize (Int.gcd n 100 : Int) = g at *
  have hg0 : (g == 0) = false := by simp; omega
  replace k0 := (hb.cell (p := ⟨w.heap.size, 0, none⟩) hlt).trans k0
  replace k1 := (hb.cell (p := ⟨w.heap.size, 1, none⟩) hlt).trans k1
  replace kf := (hb.frozen (p := ⟨w.heap.size, 0, none⟩) hlt).trans kf
  replace kf1 := (hb.frozen (p := ⟨w.heap.size, 1, none⟩) hlt).trans kf1
  replace hw0 := hw0.trans (hb.mono (Nat.le_of_lt hlt))
  have hlt1 : w.heap.size < w1.heap.size := Nat.lt_of_lt_of_le hlt hb.size
  clear hb hlt
  generalize hB : w.heap.size = B at *
  go_wp2_with fail
  have hbn := ofH_bounds n h1 h2
  have hne : ¬ g = 0 := by omega
  have e1 : IntKind.i64.wrap (n.tdiv g) = ofHn n := by rw [hq.out]; exact IntWalk.i64_in _ (by omega)
  have e2 : IntKind.i64.wrap (Int.tdiv 100 g) = ofHd n := by rw [Int.tdiv_eq_ediv_of_nonneg (by decide), hd.out]; exact IntWalk.i64_in _ (by omega)
  have hA := @cell?_allocs
  refine wp_region_calm [0, 1, 2, 3, 4, 5, 6] [7] (by kernel_rfl) (by kernel_rfl) (by intro c a d v w h; cases d <;> exact h) ?_
  simp only [pickOps, List.filterMap_cons, List.filterMap_nil, List.getElem?_cons_succ, List.getElem?_cons_zero]
  repeat (refine wpCalm_step (fun K hK => ?_); go_simp; refine hK _ ?_; clear hK K)
  refine wpCalm_nil ?_
  clear hA hne e1 e2
  go_wp2_with fail
  have r1 := World.cell?_setCell_same' (w1.setCell ⟨B, 0, none⟩ (.int .i64 (ofHn n))) ⟨B, 1, none⟩ (.int .i64 (ofHd n)) (by rw [World.cell?_setCell_other _ _ _ _ (by simp), k1]; rfl)
  have r0 : ((w1.setCell ⟨B, 0, none⟩ (.int .i64 (ofHn n))).setCell ⟨B, 1, none⟩ (.int .i64 (ofHd n))).cell? ⟨B, 0, none⟩ = some (.int .i64 (ofHn n)) := by
    rw [World.cell?_setCell_other _ _ _ _ (by simp)]
    exact World.cell?_setCell_same' _ _ _ (by rw [k0]; rfl)
  refine bodyPost_ret (v := .agg #[.int .i64 (ofHn n), .int .i64 (ofHd n)]) (by simp [results, Tryd.results48, go_sem, r0, r1]) rfl ⟨rfl, ?_⟩
  rw [hB]
  exact below_drewN ((hw0.setCell (Nat.le_refl _) _).setCell (Nat.le_refl _) _) 1

set_option maxRecDepth 100000 in
set_option maxHeartbeats 1000000 in
theorem ofHundredths_prog (n : Int) (w : World) (h1 : -1000000000000000 ≤ n) (h2 : n ≤ 1000000000000000) :
    Calls Tryd.prog 29 #[.int .i64 n] w fun e w' => e = .returned (.agg #[.int .i64 (ofHn n), .int .i64 (ofHd n)]) ∧ Below w.heap.size w w' := by
  go_enter Tryd.func29, Tryd.ntmps29
  go_wp2_with fail
  refine (fraction_prog n _ h1 h2).mono ?_
  rintro e w1 ⟨rfl, hb⟩
  obtain ⟨k0, k1, kf, kf1, hlt, r0, r1, hB⟩ := fresh2 _ _ _ _ _ hb
  have r0 := r0 (.int .i64 (ofHn n)) (.int .i64 (ofHd n))
  have r1 := r1 (.int .i64 (ofHn n)) (.int .i64 (ofHd n))
  have hB := hB (.int .i64 (ofHn n)) (.int .i64 (ofHd n))
  clear hb
  go_wp2_with fail
  exact bodyPost_ret (v := .agg #[.int .i64 (ofHn n), .int .i64 (ofHd n)]) (by simp [results, Tryd.results29, go_sem, r0, r1]) rfl ⟨rfl, hB⟩

set_option maxRecDepth 100000 in
set_option maxHeartbeats 1000000 in
theorem lowestF_ref (n : Int) (w : World) (h1 : -1000000000000000 ≤ n) (h2 : n ≤ 1000000000000000) :
    Calls Tryd.prog 56 #[.int .i64 n, .int .i64 100] w fun e w' => e = .returned (.agg #[.int .i64 (ofHn n), .int .i64 (ofHd n)]) ∧ Below w.heap.size w w' := by
  have hq := Lib.hid (ofH_quo n)
  have hg := gcd100 n
  have hd := Lib.hid (show 100 / (Int.gcd n 100 : Int) = ofHd n from rfl)
  go_enter Tryd.func56, Tryd.ntmps56
  go_wp2_with fail
  refine (divisor_any _ _ _ (by omega) (by omega) (by omega) (by omega)).mono ?_
  rintro e w1 ⟨rfl, hb⟩
  generalize (Int.gcd n 100 : Int) = g at *
  obtain ⟨k0, k1, kf, kf1, hlt, r0, r1, hB⟩ := fresh2 _ _ _ _ _ hb
  have r0 := r0 (.int .i64 (ofHn n)) (.int .i64 (ofHd n))
  have r1 := r1 (.int .i64 (ofHn n)) (.int .i64 (ofHd n))
  have hB := hB (.int .i64 (ofHn n)) (.int .i64 (ofHd n))
  clear hb
  go_wp2_with fail
  have hbn := ofH_bounds n h1 h2
  have hne : ¬ g = 0 := by omega
  have e1 : IntKind.i64.wrap (n.tdiv g) = ofHn n := by rw [hq.out]; exact IntWalk.i64_in _ (by omega)
  have e2 : IntKind.i64.wrap (Int.tdiv 100 g) = ofHd n := by rw [Int.tdiv_eq_ediv_of_nonneg (by decide), hd.out]; exact IntWalk.i64_in _ (by omega)
  have hA := @cell?_allocs
  refine wp_region_calm [0, 1, 2, 3, 4, 5, 6] [7] (by kernel_rfl) (by kernel_rfl) (by intro c a d v w h; cases d <;> exact h) ?_
  simp only [pickOps, List.filterMap_cons, List.filterMap_nil, List.getElem?_cons_succ, List.getElem?_cons_zero]
  repeat (refine wpCalm_step (fun K hK => ?_); go_simp; refine hK _ ?_; clear hK K)
  refine wpCalm_nil ?_
  clear hA hne e1 e2
  go_wp2_with fail
  exact bodyPost_ret (v := .agg #[.int .i64 (ofHn n), .int .i64 (ofHd n)]) (by simp [results, Tryd.results56, go_sem, r0, r1]) rfl ⟨rfl, below_drewN hB 1⟩

set_option maxRecDepth 100000 in
set_option maxHeartbeats 1000000 in
theorem ofHundredths_ref (n : Int) (w : World) (h1 : -1000000000000000 ≤ n) (h2 : n ≤ 1000000000000000) :
    Calls Tryd.prog 39 #[.int .i64 n] w fun e w' => e = .returned (.agg #[.int .i64 (ofHn n), .int .i64 (ofHd n)]) ∧ Below w.heap.size w w' := by
  go_enter Tryd.func39, Tryd.ntmps39
  go_wp2_with fail
  refine (lowestF_ref n _ h1 h2).mono ?_
  rintro e w1 ⟨rfl, hb⟩
  obtain ⟨k0, k1, kf, kf1, hlt, r0, r1, hB⟩ := fresh2 _ _ _ _ _ hb
  have r0 := r0 (.int .i64 (ofHn n)) (.int .i64 (ofHd n))
  have r1 := r1 (.int .i64 (ofHn n)) (.int .i64 (ofHd n))
  have hB := hB (.int .i64 (ofHn n)) (.int .i64 (ofHd n))
  clear hb
  go_wp2_with fail
  exact bodyPost_ret (v := .agg #[.int .i64 (ofHn n), .int .i64 (ofHd n)]) (by simp [results, Tryd.results39, go_sem, r0, r1]) rfl ⟨rfl, hB⟩

/-- What a fraction is worth in hundredths. -/
def hund (num den : Int) : Int := num * (100 / den)

set_option maxRecDepth 100000 in
set_option maxHeartbeats 1000000 in
theorem hundredths_prog (num den : Int) (w : World) (h1 : -1000000000000000 ≤ num) (h2 : num ≤ 1000000000000000) (h3 : 1 ≤ den) (h4 : den ≤ 9223372036854775807) :
    Calls Tryd.prog 50 #[.agg #[.int .i64 num, .int .i64 den]] w fun e w' => e = .returned (.int .i64 (hund num den)) ∧ Below w.heap.size w w' := by
  have hw0 := Below.refl w.heap.size w
  have hq0 : 0 ≤ 100 / den := Int.ediv_nonneg (by decide) (by omega)
  have hq1 : 100 / den ≤ 100 := Int.ediv_le_self _ (by decide)
  have hdz : (den == 0) = false := by simp; omega
  have hb := mul_small num (100 / den) h1 h2 hq0 hq1
  go_enter Tryd.func50, Tryd.ntmps50
  go_wp2_with fail
  go_quiet (fail)
  go_wp2_with fail
  go_ret
  exact ⟨rfl, below_drewN (hw0.alloc (Nat.le_refl _) _) _⟩


set_option maxRecDepth 100000 in
set_option maxHeartbeats 1000000 in
theorem hundredths_ref (num den : Int) (w : World) (h1 : -1000000000000000 ≤ num) (h2 : num ≤ 1000000000000000) (h3 : 1 ≤ den) (h4 : den ≤ 9223372036854775807) :
    Calls Tryd.prog 55 #[.agg #[.int .i64 num, .int .i64 den]] w fun e w' => e = .returned (.int .i64 (hund num den)) ∧ Below w.heap.size w w' := by
  have hw0 := Below.refl w.heap.size w
  have hq0 : 0 ≤ 100 / den := Int.ediv_nonneg (by decide) (by omega)
  have hq1 : 100 / den ≤ 100 := Int.ediv_le_self _ (by decide)
  have hdz : (den == 0) = false := by simp; omega
  have hb := mul_small num (100 / den) h1 h2 hq0 hq1
  go_enter Tryd.func55, Tryd.ntmps55
  go_wp2_with fail
  go_quiet (fail)
  go_wp2_with fail
  go_ret
  exact ⟨rfl, below_drewN (hw0.alloc (Nat.le_refl _) _) _⟩


/-- What is wrong with points from -most to most. -/
def amountE (num den most : Int) : Int := if den < 1 ∨ Int.gcd num den ≠ 1 then 3 else if 100 % den ≠ 0 ∨ num < -most * den ∨ most * den < num then 1 else 0

theorem den_le {den : Int} (h : 1 ≤ den) (h0 : 100 % den = 0) : den ≤ 100 := Int.le_of_dvd (by decide) (Int.dvd_of_emod_eq_zero h0)

set_option maxRecDepth 100000 in
set_option maxHeartbeats 1000000 in
theorem amount_prog (num den most : Int) (w : World) (h1 : -9223372036854775808 ≤ num) (h2 : num ≤ 9223372036854775807) (h3 : -9223372036854775808 ≤ den) (h4 : den ≤ 9223372036854775807) (h5 : 0 ≤ most) (h6 : most ≤ 1000000) :
    Calls Tryd.prog 44 #[.agg #[.int .i64 num, .int .i64 den], .int .i64 most] w fun e w' => e = .returned (.int .i64 (amountE num den most)) ∧ Below w.heap.size w w' := by
  have hw0 := Below.refl w.heap.size w
  by_cases hd : den < 1
  · have he := Lib.hid (show amountE num den most = 3 by simp [amountE, hd])
    go_enter Tryd.func44, Tryd.ntmps44
    go_wp2_with fail
    go_ret
    exact ⟨ret_int he.out.symm, hw0.alloc (Nat.le_refl _) _⟩
  · have c0 := cells_new w #[.int .i64 num, .int .i64 den] 36 0 _ rfl
    have c1 := cells_new w #[.int .i64 num, .int .i64 den] 36 1 _ rfl
    have hlt : w.heap.size < (w.alloc (.cells #[.int .i64 num, .int .i64 den] 36)).heap.size := by simp
    replace hw0 := hw0.alloc (Nat.le_refl _) (.cells #[.int .i64 num, .int .i64 den] 36)
    have hl := lowest_any num den (w.alloc (.cells #[.int .i64 num, .int .i64 den] 36)) h1 h2 (by omega) h4
    by_cases hg : Int.gcd num den = 1
    · have hgb : decide (Int.gcd num den = 1) = true := by simp [hg]
      rw [hgb] at hl
      by_cases hm : 100 % den = 0
      · have hle := den_le (by omega) hm
        have hmb : (100 % den != 0) = false := by simp [hm]
        have hb1 := mul_small most den (by omega) (by omega) (by omega) hle
        have hb2 := mul_small (-most) den (by omega) (by omega) (by omega) hle
        have he := Lib.hid (show amountE num den most = if outB num (-most * den) (most * den) = true then 1 else 0 by simp [amountE, hd, hg, hm, outB])
        clear hgb hg hm
        cases ho : outB num (-most * den) (most * den)
        all_goals
          have ho := Lib.hid ho
          go_enter Tryd.func44, Tryd.ntmps44
          go_wp2_with fail
          generalize w.alloc (.cells #[.int .i64 num, .int .i64 den] 36) = W at *
          refine hl.mono ?_
          rintro e w1 ⟨rfl, hb⟩
          replace c0 := (hb.cell (p := ⟨w.heap.size, 0, none⟩) hlt).trans c0
          replace c1 := (hb.cell (p := ⟨w.heap.size, 1, none⟩) hlt).trans c1
          replace hw0 := hw0.trans (hb.mono (Nat.le_of_lt hlt))
          clear hb hlt hl
          go_wp2_with (go_at_call 43; refine (out_is _ _ _ _ ho.out _).mono ?_; rintro e w2 ⟨rfl, rfl⟩)
          go_ret
          exact ⟨ret_int (by rw [he.out, ho.out]; rfl), hw0⟩
      · have hmb : (100 % den != 0) = true := by simp [hm]
        have hdz : (den == 0) = false := by simp; omega
        have he := Lib.hid (show amountE num den most = 1 by simp [amountE, hd, hg, hm])
        clear hgb hg hm
        go_enter Tryd.func44, Tryd.ntmps44
        go_wp2_with fail
        generalize w.alloc (.cells #[.int .i64 num, .int .i64 den] 36) = W at *
        refine hl.mono ?_
        rintro e w1 ⟨rfl, hb⟩
        replace c0 := (hb.cell (p := ⟨w.heap.size, 0, none⟩) hlt).trans c0
        replace c1 := (hb.cell (p := ⟨w.heap.size, 1, none⟩) hlt).trans c1
        replace hw0 := hw0.trans (hb.mono (Nat.le_of_lt hlt))
        clear hb hlt hl
        go_wp2_with fail
        go_ret
        exact ⟨ret_int he.out.symm, hw0⟩
    · have hgb : decide (Int.gcd num den = 1) = false := by simp [hg]
      rw [hgb] at hl
      have he := Lib.hid (show amountE num den most = 3 by simp [amountE, hg])
      clear hgb hg
      go_enter Tryd.func44, Tryd.ntmps44
      go_wp2_with fail
      generalize w.alloc (.cells #[.int .i64 num, .int .i64 den] 36) = W at *
      refine hl.mono ?_
      rintro e w1 ⟨rfl, hb⟩
      replace hw0 := hw0.trans (hb.mono (Nat.le_of_lt hlt))
      clear hb hlt hl
      go_wp2_with fail
      go_ret
      exact ⟨ret_int he.out.symm, hw0⟩

set_option maxRecDepth 100000 in
set_option maxHeartbeats 1000000 in
theorem pointsFault_ref (num den most : Int) (w : World) (h1 : -9223372036854775808 ≤ num) (h2 : num ≤ 9223372036854775807) (h3 : -9223372036854775808 ≤ den) (h4 : den ≤ 9223372036854775807) (h5 : 0 ≤ most) (h6 : most ≤ 1000000) :
    Calls Tryd.prog 35 #[.agg #[.int .i64 num, .int .i64 den], .int .i64 most] w fun e w' => e = .returned (.int .i64 (amountE num den most)) ∧ Below w.heap.size w w' := by
  have hw0 := Below.refl w.heap.size w
  by_cases hd : den < 1
  · have he := Lib.hid (show amountE num den most = 3 by simp [amountE, hd])
    go_enter Tryd.func35, Tryd.ntmps35
    go_wp2_with fail
    go_ret
    exact ⟨ret_int he.out.symm, hw0.alloc (Nat.le_refl _) _⟩
  · have c0 := cells_new w #[.int .i64 num, .int .i64 den] 36 0 _ rfl
    have c1 := cells_new w #[.int .i64 num, .int .i64 den] 36 1 _ rfl
    have hlt : w.heap.size < (w.alloc (.cells #[.int .i64 num, .int .i64 den] 36)).heap.size := by simp
    replace hw0 := hw0.alloc (Nat.le_refl _) (.cells #[.int .i64 num, .int .i64 den] 36)
    have hl := divisor_any num den (w.alloc (.cells #[.int .i64 num, .int .i64 den] 36)) h1 h2 (by omega) h4
    have hdz : (den == 0) = false := by simp; omega
    by_cases hg : Int.gcd num den = 1
    · rw [hg] at hl
      by_cases hm : 100 % den = 0
      · have hle := den_le (by omega) hm
        have hmb : (100 % den != 0) = false := by simp [hm]
        have hb1 := mul_small most den (by omega) (by omega) (by omega) hle
        have hb2 := mul_small (-most) den (by omega) (by omega) (by omega) hle
        have he := Lib.hid (show amountE num den most = if num < -most * den ∨ most * den < num then 1 else 0 by simp [amountE, hd, hg, hm])
        clear hg hm
        by_cases ho1 : num < -most * den
        · go_enter Tryd.func35, Tryd.ntmps35
          go_wp2_with fail
          generalize w.alloc (.cells #[.int .i64 num, .int .i64 den] 36) = W at *
          refine hl.mono ?_
          rintro e w1 ⟨rfl, hb⟩
          replace c0 := (hb.cell (p := ⟨w.heap.size, 0, none⟩) hlt).trans c0
          replace c1 := (hb.cell (p := ⟨w.heap.size, 1, none⟩) hlt).trans c1
          replace hw0 := hw0.trans (hb.mono (Nat.le_of_lt hlt))
          clear hb hlt hl
          go_wp2_with fail
          go_ret
          exact ⟨ret_int (by rw [he.out, if_pos (.inl ho1)]), hw0⟩
        · by_cases ho2 : most * den < num
          · go_enter Tryd.func35, Tryd.ntmps35
            go_wp2_with fail
            generalize w.alloc (.cells #[.int .i64 num, .int .i64 den] 36) = W at *
            refine hl.mono ?_
            rintro e w1 ⟨rfl, hb⟩
            replace c0 := (hb.cell (p := ⟨w.heap.size, 0, none⟩) hlt).trans c0
            replace c1 := (hb.cell (p := ⟨w.heap.size, 1, none⟩) hlt).trans c1
            replace hw0 := hw0.trans (hb.mono (Nat.le_of_lt hlt))
            clear hb hlt hl
            go_wp2_with fail
            go_ret
            exact ⟨ret_int (by rw [he.out, if_pos (.inr ho2)]), hw0⟩
          · go_enter Tryd.func35, Tryd.ntmps35
            go_wp2_with fail
            generalize w.alloc (.cells #[.int .i64 num, .int .i64 den] 36) = W at *
            refine hl.mono ?_
            rintro e w1 ⟨rfl, hb⟩
            replace c0 := (hb.cell (p := ⟨w.heap.size, 0, none⟩) hlt).trans c0
            replace c1 := (hb.cell (p := ⟨w.heap.size, 1, none⟩) hlt).trans c1
            replace hw0 := hw0.trans (hb.mono (Nat.le_of_lt hlt))
            clear hb hlt hl
            go_wp2_with fail
            go_ret
            exact ⟨ret_int (by rw [he.out, if_neg (by omega)]), hw0⟩
      · have hmb : (100 % den != 0) = true := by simp [hm]
        have he := Lib.hid (show amountE num den most = 1 by simp [amountE, hd, hg, hm])
        clear hg hm
        go_enter Tryd.func35, Tryd.ntmps35
        go_wp2_with fail
        generalize w.alloc (.cells #[.int .i64 num, .int .i64 den] 36) = W at *
        refine hl.mono ?_
        rintro e w1 ⟨rfl, hb⟩
        replace c0 := (hb.cell (p := ⟨w.heap.size, 0, none⟩) hlt).trans c0
        replace c1 := (hb.cell (p := ⟨w.heap.size, 1, none⟩) hlt).trans c1
        replace hw0 := hw0.trans (hb.mono (Nat.le_of_lt hlt))
        clear hb hlt hl
        go_wp2_with fail
        go_ret
        exact ⟨ret_int he.out.symm, hw0⟩
    · have he := Lib.hid (show amountE num den most = 3 by simp [amountE, hg])
      have hgb : (((Int.gcd num den : Nat) : Int) != 1) = true := by simp; omega
      generalize ((Int.gcd num den : Nat) : Int) = g at *
      clear hg
      go_enter Tryd.func35, Tryd.ntmps35
      go_wp2_with fail
      generalize w.alloc (.cells #[.int .i64 num, .int .i64 den] 36) = W at *
      refine hl.mono ?_
      rintro e w1 ⟨rfl, hb⟩
      replace hw0 := hw0.trans (hb.mono (Nat.le_of_lt hlt))
      clear hb hlt hl
      go_wp2_with fail
      go_ret
      exact ⟨ret_int he.out.symm, hw0⟩
end Go.Proofs.YtbidnbcclibigaaDoor
