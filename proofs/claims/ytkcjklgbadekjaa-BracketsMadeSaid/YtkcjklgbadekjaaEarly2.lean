/-
  Earliest: the program's and the reference's. Conditions: numbers of seeds as the functions check them.
-/
import Derived.Test.YtkcjklgbadekjaaEarly
namespace Go.Proofs.Ytkcjklgbadekjaa
open Go.RowKit Go.Bw

def earl (x y : Int) : Int := if x = y then 0 else if x / 2 = y / 2 then 1 else if x / 4 = y / 4 then 2 else if x / 8 = y / 8 then 3 else if x / 16 = y / 16 then 4 else 5
theorem earl_le (x y : Int) : 0 ≤ earl x y ∧ earl x y ≤ 5 := by
  unfold earl; repeat' split
  all_goals omega

theorem bracketL_has0 : ((List.range 21).all fun k => (List.range 21).all fun j => !(decide (2 ≤ k) && decide (1 ≤ j) && decide (j ≤ k)) || (decide (0 ≤ idxI (bracketL (k : Nat)) (j : Nat)) && decide (idxI (bracketL (k : Nat)) (j : Nat) ≤ 31))) = true := by decide +kernel
theorem bracketL_has (k : Nat) (h : k < 21) (j : Nat) (hj : j < 21) (h2 : 2 ≤ k) (h1 : 1 ≤ j) (hjk : j ≤ k) : 0 ≤ idxI (bracketL (k : Nat)) (j : Nat) ∧ idxI (bracketL (k : Nat)) (j : Nat) ≤ 31 := by
  have := List.all_eq_true.1 (List.all_eq_true.1 bracketL_has0 k (List.mem_range.2 h)) j (List.mem_range.2 hj)
  simpa [h2, h1, hjk] using this

theorem idxI_get (l : List Int) (v : Int) (h : 0 ≤ idxI l v) : geti l (idxI l v) = v := by
  unfold idxI firstIdx at *
  split at h
  · rename_i k hk
    obtain ⟨h1, h2, _⟩ := List.findIdx?_eq_some_iff_getElem.1 hk
    simp only [geti, Int.toNat_natCast, List.getElem?_eq_getElem h1, Option.getD_some]
    simpa using h2
  · omega

theorem places_at (many a : Int) (h : 2 ≤ many) (h' : many ≤ 20) (ha : 1 ≤ a) (ha' : a ≤ many) : 0 ≤ idxI (bracketL many) a ∧ idxI (bracketL many) a ≤ 31 := by
  have := bracketL_has many.toNat (by omega) a.toNat (by omega) (by omega) (by omega) (by omega)
  rw [Int.toNat_of_nonneg (by omega), Int.toNat_of_nonneg (by omega)] at this
  exact this

def earlE (many a b : Int) : Int := if outB many 2 20 || outB a 1 many || outB b 1 many then 1 else if a = b then 6 else 0
def earlF (many a b : Int) : Int := if earlE many a b = 0 then earl (idxI (bracketL many) a) (idxI (bracketL many) b) else 0

theorem earlE_1 {many a b : Int} (h : outB many 2 20 = true ∨ outB a 1 many = true ∨ outB b 1 many = true) : earlE many a b = 1 ∧ earlF many a b = 0 := by
  have : earlE many a b = 1 := by
    unfold earlE; rcases h with h | h | h <;> simp [h]
  exact ⟨this, by simp [earlF, this]⟩
theorem earlE_6 {many a b : Int} (h : outB many 2 20 = false) (h1 : outB a 1 many = false) (h2 : outB b 1 many = false) (h3 : a = b) : earlE many a b = 6 ∧ earlF many a b = 0 := by
  have : earlE many a b = 6 := by
    unfold earlE; subst h3; simp [h, h1]
  exact ⟨this, by simp [earlF, this]⟩
theorem earlE_0 {many a b : Int} (h : outB many 2 20 = false) (h1 : outB a 1 many = false) (h2 : outB b 1 many = false) (h3 : ¬ a = b) : earlE many a b = 0 ∧ earlF many a b = earl (idxI (bracketL many) a) (idxI (bracketL many) b) := by
  have : earlE many a b = 0 := by
    unfold earlE; simp [h, h1, h2, h3]
  exact ⟨this, by simp [earlF, this]⟩

theorem earl_step (x y k : Int) (hx : 0 ≤ x ∧ x ≤ 31) (hy : 0 ≤ y ∧ y ≤ 31) (h0 : 0 ≤ k) (h : k ≤ earl x y) : (x / 2 ^ k.toNat = y / 2 ^ k.toNat → earl x y ≤ k) ∧ (¬ x / 2 ^ k.toNat = y / 2 ^ k.toNat → k + 1 ≤ earl x y) := by
  have hle := earl_le x y
  have hk : k = 0 ∨ k = 1 ∨ k = 2 ∨ k = 3 ∨ k = 4 ∨ k = 5 := by omega
  clear hle
  unfold earl at *
  rcases hk with rfl | rfl | rfl | rfl | rfl | rfl
  all_goals
    constructor
    all_goals
      intro h2
      simp at h2
      repeat' split at h
      all_goals (repeat' split)
      all_goals omega

theorem bnef {a b : Int} (h : a = b) : (a != b) = false := by simp [h]
theorem bnet {a b : Int} (h : ¬ a = b) : (a != b) = true := by simp [h]

set_option maxRecDepth 100000 in
set_option maxHeartbeats 2000000 in
theorem earliest_prog (many a b : Int) (w : World) : Calls Try.prog 17 #[.int .i64 many, .int .i64 a, .int .i64 b] w fun e w' => e = .returned (.tuple #[.int .i64 (earlF many a b), .int .i64 (earlE many a b)]) ∧ Below w.heap.size w w' := by
  cases h : outB many 2 20
  · have hm := outB_false h
    cases h1 : outB a 1 many
    · have ha := outB_false h1
      cases h2 : outB b 1 many
      · have hb := outB_false h2
        by_cases h3 : a = b
        · obtain ⟨e1, e2⟩ := earlE_6 h h1 h2 h3
          rw [e1, e2]
          have h3' : (a == b) = true := by simp [h3]
          clear e1 e2 h3
          go_enter Try.func17, Try.ntmps17
          go_wp2_with (first | (go_at_call 51; refine (manyFault_prog _ _).mono ?_; rw [manyF_ok h]; rintro e w1 ⟨rfl, rfl⟩) | (go_at_call 54; refine (out_any _ _ _ _).mono ?_; rintro e w1 ⟨rfl, rfl⟩))
          go_ret2
          exact ⟨rfl, Below.refl _ _⟩
        · obtain ⟨e1, e2⟩ := earlE_0 h h1 h2 h3
          rw [e1]
          have E2 := Lib.hid e2
          have hx := places_at many a hm.1 hm.2 ha.1 ha.2
          have hy := places_at many b hm.1 hm.2 hb.1 hb.2
          have hL := (bracketL_length many hm.1 hm.2).2.2
          have h3' : (a == b) = false := by simp [h3]
          generalize hix : idxI (bracketL many) a = x at *
          generalize hiy : idxI (bracketL many) b = y at *
          have Hx := Lib.hid hix
          have Hy := Lib.hid hiy
          clear e1 e2 h3 hix hiy
          go_enter Try.func17, Try.ntmps17
          go_wp2_with (first | (go_at_call 51; refine (manyFault_prog _ _).mono ?_; rw [manyF_ok h]; rintro e w1 ⟨rfl, rfl⟩) | (go_at_call 54; refine (out_any _ _ _ _).mono ?_; rintro e w1 ⟨rfl, rfl⟩) | (go_at_call 53; refine (places_any _ _ (by omega)).mono ?_; rintro e w1 ⟨g, cap, rfl, hown, hbel⟩) | (go_at_call 57; refine (index_int _ _ _ _ _ _ (Row.of_owns hown)).mono ?_; (first | rw [Hx.out] | rw [Hy.out]); rintro e w2 ⟨rfl, rfl⟩))
          clear hown
          go_loopw [12] (fun i wr => ∃ k : Int, 0 ≤ k ∧ k ≤ earl x y ∧ i = .int .i64 k ∧ Below w.heap.size w wr) (fun i _ => 6 - (intOf i).toNat)
          case atStart => exact ⟨0, by omega, (earl_le x y).1, rfl, hbel⟩
          case round =>
            obtain ⟨k, hk0, hk1, rfl, hb1⟩ := hrel
            have hk : k = 0 ∨ k = 1 ∨ k = 2 ∨ k = 3 ∨ k = 4 ∨ k = 5 := by have := (earl_le x y).2; omega
            have hst := earl_step x y k hx hy hk0 hk1
            by_cases hq : x / 2 ^ k.toNat = y / 2 ^ k.toNat
            · have hd := hst.1 hq
              clear hst
              rcases hk with rfl | rfl | rfl | rfl | rfl | rfl
              all_goals
                simp at hq
                have hq' := bnef hq
                clear hq
                go_wp2
                go_quiet (fail)
                go_wp2
                go_ret2
                exact ⟨ret_ii (by have := E2.out; omega) rfl, below_drewN hb1 _⟩
            · have hd := hst.2 hq
              clear hst
              rcases hk with rfl | rfl | rfl | rfl | rfl | rfl
              all_goals
                simp at hq
                have hq' := bnet hq
                clear hq
                go_wp2
                go_quiet (fail)
                go_wp2
                first
                  | omega
                  | (go_roundw
                     case rel => exact ⟨_, by omega, hd, rfl, below_drewN hb1 _⟩
                     case measure => simp [intOf])
      · obtain ⟨e1, e2⟩ := earlE_1 (many := many) (a := a) (b := b) (.inr (.inr h2))
        rw [e1, e2]
        clear e1 e2
        go_enter Try.func17, Try.ntmps17
        go_wp2_with (first | (go_at_call 51; refine (manyFault_prog _ _).mono ?_; rw [manyF_ok h]; rintro e w1 ⟨rfl, rfl⟩) | (go_at_call 54; refine (out_any _ _ _ _).mono ?_; rintro e w1 ⟨rfl, rfl⟩))
        go_ret2
        exact ⟨rfl, Below.refl _ _⟩
    · obtain ⟨e1, e2⟩ := earlE_1 (many := many) (a := a) (b := b) (.inr (.inl h1))
      rw [e1, e2]
      clear e1 e2
      go_enter Try.func17, Try.ntmps17
      go_wp2_with (first | (go_at_call 51; refine (manyFault_prog _ _).mono ?_; rw [manyF_ok h]; rintro e w1 ⟨rfl, rfl⟩) | (go_at_call 54; refine (out_any _ _ _ _).mono ?_; rintro e w1 ⟨rfl, rfl⟩))
      go_ret2
      exact ⟨rfl, Below.refl _ _⟩
  · obtain ⟨e1, e2⟩ := earlE_1 (many := many) (a := a) (b := b) (.inl h)
    rw [e1, e2]
    clear e1 e2
    go_enter Try.func17, Try.ntmps17
    go_wp2_with (first | (go_at_call 51; refine (manyFault_prog _ _).mono ?_; rw [manyF_bad h]; rintro e w1 ⟨rfl, rfl⟩))
    go_ret2
    exact ⟨rfl, Below.refl _ _⟩

set_option maxRecDepth 100000 in
set_option maxHeartbeats 2000000 in
theorem earliest_ref (many a b : Int) (w : World) : Calls Try.prog 21 #[.int .i64 many, .int .i64 a, .int .i64 b] w fun e w' => e = .returned (.tuple #[.int .i64 (earlF many a b), .int .i64 (earlE many a b)]) ∧ Below w.heap.size w w' := by
  cases h : outB many 2 20
  · have hm := outB_false h
    cases h1 : outB a 1 many
    · have ha := outB_false h1
      cases h2 : outB b 1 many
      · have hb := outB_false h2
        by_cases h3 : a = b
        · obtain ⟨e1, e2⟩ := earlE_6 h h1 h2 h3
          rw [e1, e2]
          have h3' : (a == b) = true := by simp [h3]
          clear e1 e2 h3
          go_enter Try.func21, Try.ntmps21
          go_wp2_with (first | (go_at_call 8; refine (manyFault_ref _ _).mono ?_; rw [manyF_ok h]; rintro e w1 ⟨rfl, rfl⟩) | (go_at_call 48; refine (in_any _ _ _ _).mono ?_; rintro e w1 ⟨rfl, rfl⟩))
          go_ret2
          exact ⟨rfl, Below.refl _ _⟩
        · obtain ⟨e1, e2⟩ := earlE_0 h h1 h2 h3
          rw [e1]
          have E2 := Lib.hid e2
          have hx := places_at many a hm.1 hm.2 ha.1 ha.2
          have hy := places_at many b hm.1 hm.2 hb.1 hb.2
          have hL := (bracketL_length many hm.1 hm.2).2.2
          have h3' : (a == b) = false := by simp [h3]
          have hne : idxI (bracketL many) a ≠ idxI (bracketL many) b := fun e => h3 (by rw [← idxI_get _ a hx.1, ← idxI_get _ b hy.1, e])
          generalize hix : idxI (bracketL many) a = x at *
          generalize hiy : idxI (bracketL many) b = y at *
          have Hx := Lib.hid hix
          have Hy := Lib.hid hiy
          have hst0 := earl_step x y 0 hx hy (by omega) (earl_le x y).1
          have hE0 : 1 ≤ earl x y := by have := hst0.2 (by simpa using hne); omega
          clear e1 e2 h3 hix hiy hne hst0
          go_enter Try.func21, Try.ntmps21
          go_wp2_with (first | (go_at_call 8; refine (manyFault_ref _ _).mono ?_; rw [manyF_ok h]; rintro e w1 ⟨rfl, rfl⟩) | (go_at_call 48; refine (in_any _ _ _ _).mono ?_; rintro e w1 ⟨rfl, rfl⟩) | (go_at_call 49; refine (bracket_any _ _ (by omega)).mono ?_; rintro e w1 ⟨g, cap, rfl, hown, hbel⟩) | (go_at_call 57; refine (index_int _ _ _ _ _ _ (Row.of_owns hown)).mono ?_; (first | rw [Hx.out] | rw [Hy.out]); rintro e w2 ⟨rfl, rfl⟩))
          clear hown
          go_loopw [9, 10, 11] (fun i1 i2 i wr => ∃ k x1 y1 : Int, 0 ≤ k ∧ k + 1 ≤ earl x y ∧ 0 ≤ x1 ∧ 0 ≤ y1 ∧ x1 ≤ 31 ∧ y1 ≤ 31 ∧ Hid (x1 = x / 2 ^ k.toNat) ∧ Hid (y1 = y / 2 ^ k.toNat) ∧ i1 = .int .i64 x1 ∧ i2 = .int .i64 y1 ∧ i = .int .i64 (k + 1) ∧ Below w.heap.size w wr) (fun _ _ i _ => 7 - (intOf i).toNat)
          case atStart => exact ⟨0, x, y, by omega, by omega, hx.1, hy.1, hx.2, hy.2, by show _ = _; simp, by show _ = _; simp, rfl, rfl, rfl, hbel⟩
          case round =>
            obtain ⟨k, x1, y1, hk0, hk1, hx0, hy0, hx31, hy31, Hx1, Hy1, rfl, rfl, rfl, hb1⟩ := hrel
            have hle := (earl_le x y).2
            have hst := Lib.hid (earl_step x y (k + 1) hx hy (by omega) hk1)
            have hp : x1 / 2 = x / 2 ^ (k + 1).toNat ∧ y1 / 2 = y / 2 ^ (k + 1).toNat := by
              rw [Hx1.out, Hy1.out, show (k + 1).toNat = k.toNat + 1 by omega, Int.pow_succ, Int.ediv_ediv_of_nonneg (Int.pow_nonneg (by omega)), Int.ediv_ediv_of_nonneg (Int.pow_nonneg (by omega))]
              exact ⟨rfl, rfl⟩
            have Hp := Lib.hid hp
            clear hp
            by_cases hq : x1 / 2 = y1 / 2
            · have hq' : (x1 / 2 == y1 / 2) = true := by simp [hq]
              have hd := hst.out.1 (by rw [← Hp.out.1, ← Hp.out.2]; exact hq)
              clear hq
              go_wp2
              go_ret2
              exact ⟨ret_ii (by have := E2.out; omega) rfl, hb1⟩
            · have hq' : (x1 / 2 == y1 / 2) = false := by simp [hq]
              have hd := hst.out.2 (by rw [← Hp.out.1, ← Hp.out.2]; exact hq)
              have hx2 : 0 ≤ x1 / 2 := by omega
              have hy2 : 0 ≤ y1 / 2 := by omega
              clear hq
              go_wp2
              go_roundw
              case rel => exact ⟨k + 1, _, _, by omega, hd, hx2, hy2, by omega, by omega, Hp.out.1, Hp.out.2, rfl, rfl, rfl, hb1⟩
              case measure => simp [intOf]; omega
      · obtain ⟨e1, e2⟩ := earlE_1 (many := many) (a := a) (b := b) (.inr (.inr h2))
        rw [e1, e2]
        clear e1 e2
        go_enter Try.func21, Try.ntmps21
        go_wp2_with (first | (go_at_call 8; refine (manyFault_ref _ _).mono ?_; rw [manyF_ok h]; rintro e w1 ⟨rfl, rfl⟩) | (go_at_call 48; refine (in_any _ _ _ _).mono ?_; rintro e w1 ⟨rfl, rfl⟩))
        go_ret2
        exact ⟨rfl, Below.refl _ _⟩
    · obtain ⟨e1, e2⟩ := earlE_1 (many := many) (a := a) (b := b) (.inr (.inl h1))
      rw [e1, e2]
      clear e1 e2
      go_enter Try.func21, Try.ntmps21
      go_wp2_with (first | (go_at_call 8; refine (manyFault_ref _ _).mono ?_; rw [manyF_ok h]; rintro e w1 ⟨rfl, rfl⟩) | (go_at_call 48; refine (in_any _ _ _ _).mono ?_; rintro e w1 ⟨rfl, rfl⟩))
      go_ret2
      exact ⟨rfl, Below.refl _ _⟩
  · obtain ⟨e1, e2⟩ := earlE_1 (many := many) (a := a) (b := b) (.inl h)
    rw [e1, e2]
    clear e1 e2
    go_enter Try.func21, Try.ntmps21
    go_wp2_with (first | (go_at_call 8; refine (manyFault_ref _ _).mono ?_; rw [manyF_bad h]; rintro e w1 ⟨rfl, rfl⟩))
    go_ret2
    exact ⟨rfl, Below.refl _ _⟩

end Go.Proofs.Ytkcjklgbadekjaa
