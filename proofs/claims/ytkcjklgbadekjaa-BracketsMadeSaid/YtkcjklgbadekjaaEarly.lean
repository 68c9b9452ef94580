/-
  Rounds and Earliest: the program's and the reference's. Conditions: numbers of seeds as the functions check them.
-/
import Derived.Test.YtkcjklgbadekjaaBrack
namespace Go.Proofs.Ytkcjklgbadekjaa
open Go.RowKit Go.Bw

/-- The first place whose element satisfies p; -1: none. -/
def firstIdx {α : Type} (p : α → Bool) (l : List α) : Int := match l.findIdx? p with | some k => (k : Int) | none => -1

theorem firstIdx_found {α : Type} (p : α → Bool) (l : List α) (k : Nat) (hk : k < l.length) (h : p l[k] = true) (hb : ∀ j (hj : j < k), p (l[j]'(by omega)) = false) : firstIdx p l = k := by
  have : l.findIdx? p = some k := by
    rw [List.findIdx?_eq_some_iff_getElem]
    exact ⟨hk, h, fun j hj => by rw [hb j hj]; simp⟩
  unfold firstIdx
  rw [this]

theorem firstIdx_none {α : Type} (p : α → Bool) (l : List α) (hb : ∀ x ∈ l, p x = false) : firstIdx p l = -1 := by
  have : l.findIdx? p = none := by
    rw [List.findIdx?_eq_none_iff]
    exact hb
  unfold firstIdx
  rw [this]

def idxI (l : List Int) (v : Int) : Int := firstIdx (fun x => x == v) l

theorem idxI_found (l : List Int) (v i : Int) (h0 : 0 ≤ i) (h1 : i < l.length) (h : v = geti l i) (hb : ∀ j : Int, 0 ≤ j → j < i → v ≠ geti l j) : idxI l v = i := by
  have := firstIdx_found (fun x => x == v) l i.toNat (by omega) (by simp [h, geti, List.getElem?_eq_getElem (show i.toNat < l.length by omega)]) (fun j hj => by
    have := hb j (by omega) (by omega)
    simp only [geti, Int.toNat_natCast, List.getElem?_eq_getElem (show j < l.length by omega), Option.getD_some] at this
    simpa using Ne.symm this)
  unfold idxI
  rw [this]
  omega

theorem idxI_none (l : List Int) (v : Int) (hb : ∀ j : Int, 0 ≤ j → j < l.length → v ≠ geti l j) : idxI l v = -1 := by
  refine firstIdx_none _ _ fun x hx => ?_
  obtain ⟨j, hj, rfl⟩ := List.getElem_of_mem hx
  have := hb j (by omega) (by omega)
  simp only [geti, Int.toNat_natCast, List.getElem?_eq_getElem hj, Option.getD_some] at this
  simpa using Ne.symm this

/-- What is not among the first i. -/
def NotYet (l : List Int) (v i : Int) : Prop := ∀ j : Int, 0 ≤ j → j < i → v ≠ geti l j
theorem NotYet.step {l : List Int} {v i : Int} (h : NotYet l v i) (hn : ¬ v = geti l i) : NotYet l v (i + 1) := fun j h0 h1 => by
  by_cases e : j = i
  · subst e; exact hn
  · exact h j h0 (by omega)

set_option maxHeartbeats 400000 in
theorem index_int (v : Value) (n : Nat) (l : List Int) (x : Int) (base : Nat) (w : World) (h : Row w base 1 v n (l.map (.int .i64))) :
    Calls Try.prog 57 #[v, .int .i64 x] w fun e w' => e = .returned (.int .i64 (idxI l x)) ∧ w = w' := by
  obtain ⟨hlen, hcase⟩ := h.ints
  have hv : ∃ a cap, v = .slice a n cap := by
    rcases hcase with ⟨rfl, rfl⟩ | ⟨bz, off, cap, rfl, _⟩ <;> exact ⟨_, _, rfl⟩
  have hm : n ≤ 9223372036854775807 := by
    rcases hcase with ⟨_, rfl⟩ | ⟨bz, off, cap, _, _, _, h1, h2, _⟩
    · omega
    · unfold maxLen at h2; omega
  obtain ⟨a, cap, rfl⟩ := hv
  subst hlen
  clear h
  go_enter Try.func57, Try.ntmps57
  go_wp2
  go_loop [8] (fun i => ∃ k : Int, 0 ≤ k ∧ k ≤ l.length ∧ i = .int .i64 k ∧ NotYet l x k) (fun i => l.length - (intOf i).toNat)
  case atStart => exact ⟨0, by omega, by omega, rfl, fun _ _ _ => by omega⟩
  case round =>
    obtain ⟨k, hk0, hk1, rfl, hny⟩ := hrel
    by_cases hlt : k < l.length
    · rcases hcase with ⟨h, h0⟩ | ⟨bz, off, cap', h, hbb, hbs, hnc, hcm, hcell⟩
      · omega
      · simp only [Value.slice.injEq] at h
        obtain ⟨rfl, _, rfl⟩ := h
        have hc := hcell k hk0 hlt
        clear hcell
        by_cases hx : x = geti l k
        · have hf := Lib.hid (idxI_found l x k hk0 hlt hx hny)
          have hx' : (x == geti l k) = true := by simp [hx]
          clear hx hny
          go_wp2
          go_ret
          exact ⟨ret_int hf.out.symm, rfl⟩
        · have hny' := hny.step hx
          have hx' : (x == geti l k) = false := by simp [hx]
          clear hx hny
          go_wp2
          go_round
          case rel => exact ⟨k + 1, by omega, by omega, rfl, hny'⟩
          case measure => simp [intOf]; omega
    · have hf := Lib.hid (idxI_none l x (fun j h0 h1 => hny j h0 (by omega)))
      clear hny hcase
      go_wp2
      go_ret
      exact ⟨ret_int hf.out.symm, rfl⟩

theorem idxI_nonneg (l : List Int) (v : Int) : -1 ≤ idxI l v ∧ idxI l v < 2 ^ 63 ∨ (2 : Int) ^ 63 ≤ l.length := by
  unfold idxI firstIdx
  split
  · rename_i k h
    have := (List.findIdx?_eq_some_iff_getElem.1 h).1
    omega
  · omega

def hasI (l : List Int) (v : Int) : Bool := decide (0 ≤ idxI l v)

set_option maxHeartbeats 400000 in
theorem contains_int (v : Value) (n : Nat) (l : List Int) (x : Int) (base : Nat) (w : World) (h : Row w base 1 v n (l.map (.int .i64))) :
    Calls Try.prog 55 #[v, .int .i64 x] w fun e w' => e = .returned (.bool (hasI l x)) ∧ w = w' := by
  go_enter Try.func55, Try.ntmps55
  go_wp2_with (go_at_call 57; refine (index_int _ _ _ _ _ _ h).mono ?_; rintro e w1 ⟨rfl, rfl⟩)
  go_ret
  exact ⟨by simp [hasI], rfl⟩

def manyF (many : Int) : Int := if outB many 2 20 then 1 else 0
theorem manyF_bad {many : Int} (h : outB many 2 20 = true) : manyF many = 1 := by simp [manyF, h]
theorem manyF_ok {many : Int} (h : outB many 2 20 = false) : manyF many = 0 := by simp [manyF, h]
theorem manyF_ok' {many : Int} (h0 : 2 ≤ many) (h : many ≤ 20) : manyF many = 0 := manyF_ok (by simp [outB]; omega)

set_option maxHeartbeats 400000 in
theorem manyFault_ref (many : Int) (w : World) : Calls Try.prog 8 #[.int .i64 many] w fun e w' => e = .returned (.int .i64 (manyF many)) ∧ w = w' := by
  cases h : outB many 2 20
  · rw [manyF_ok h]
    go_enter Try.func8, Try.ntmps8
    go_wp2_with (go_at_call 48; refine (in_any _ _ _ _).mono ?_; rintro e w1 ⟨rfl, rfl⟩)
    go_ret
    exact ⟨rfl, rfl⟩
  · rw [manyF_bad h]
    go_enter Try.func8, Try.ntmps8
    go_wp2_with (go_at_call 48; refine (in_any _ _ _ _).mono ?_; rintro e w1 ⟨rfl, rfl⟩)
    go_ret
    exact ⟨rfl, rfl⟩

set_option maxHeartbeats 400000 in
theorem manyFault_prog (many : Int) (w : World) : Calls Try.prog 51 #[.int .i64 many] w fun e w' => e = .returned (.int .i64 (manyF many)) ∧ w = w' := by
  cases h : outB many 2 20
  · rw [manyF_ok h]
    go_enter Try.func51, Try.ntmps51
    go_wp2_with (go_at_call 54; refine (out_any _ _ _ _).mono ?_; rintro e w1 ⟨rfl, rfl⟩)
    go_ret
    exact ⟨rfl, rfl⟩
  · rw [manyF_bad h]
    go_enter Try.func51, Try.ntmps51
    go_wp2_with (go_at_call 54; refine (out_any _ _ _ _).mono ?_; rintro e w1 ⟨rfl, rfl⟩)
    go_ret
    exact ⟨rfl, rfl⟩

theorem outB_false {n low high : Int} (h : outB n low high = false) : low ≤ n ∧ n ≤ high := by
  simp [outB] at h; omega

/-- How many rounds there are. -/
def roundsF (many : Int) : Int := if many ≤ 1 then 0 else if many ≤ 2 then 1 else if many ≤ 4 then 2 else if many ≤ 8 then 3 else if many ≤ 16 then 4 else 5

theorem roundsF_le (many : Int) : 0 ≤ roundsF many ∧ roundsF many ≤ 5 := by
  unfold roundsF; repeat' split
  all_goals omega

theorem roundsF_step (many k : Int) (hm : many ≤ 20) (h0 : 0 ≤ k) (h : k ≤ 5) : ((2 : Int) ^ k.toNat < many → k + 1 ≤ roundsF many) ∧ (many ≤ (2 : Int) ^ k.toNat → roundsF many ≤ k) := by
  have hk : k = 0 ∨ k = 1 ∨ k = 2 ∨ k = 3 ∨ k = 4 ∨ k = 5 := by omega
  rcases hk with rfl | rfl | rfl | rfl | rfl | rfl
  all_goals
    unfold roundsF
    constructor
    all_goals
      intro h2
      simp at h2
      repeat' split
      all_goals omega

set_option maxHeartbeats 1000000 in
theorem rounds_prog (many : Int) (w : World) (h : many ≤ 20) : Calls Try.prog 56 #[.int .i64 many] w fun e w' => e = .returned (.int .i64 (roundsF many)) ∧ w = w' := by
  have hr := roundsF_le many
  go_enter Try.func56, Try.ntmps56
  go_wp2
  go_loop [3] (fun i => ∃ k : Int, 0 ≤ k ∧ k ≤ roundsF many ∧ i = .int .i64 k) (fun i => 6 - (intOf i).toNat)
  case atStart => exact ⟨0, by omega, by omega, rfl⟩
  case round =>
    obtain ⟨k, hk0, hk1, rfl⟩ := hrel
    have hk : k = 0 ∨ k = 1 ∨ k = 2 ∨ k = 3 ∨ k = 4 ∨ k = 5 := by omega
    have hst := Lib.hid (roundsF_step many k h hk0 (by omega))
    rcases hk with rfl | rfl | rfl | rfl | rfl | rfl
    all_goals go_wp2
    all_goals first
      | (go_ret; exact ⟨ret_int (by have := hst.out.2 (by simp; omega); omega), rfl⟩)
      | (go_round
         case rel => exact ⟨_, by omega, hst.out.1 (by simp; omega), rfl⟩
         case measure => simp [intOf])
    all_goals go_ways

set_option maxHeartbeats 400000 in
theorem Rounds_prog (many : Int) (w : World) : Calls Try.prog 16 #[.int .i64 many] w fun e w' => e = .returned (.tuple #[.int .i64 (if manyF many = 0 then roundsF many else 0), .int .i64 (manyF many)]) ∧ w = w' := by
  cases h : outB many 2 20
  · have h2 := outB_false h
    rw [manyF_ok h]
    go_enter Try.func16, Try.ntmps16
    go_wp2_with (first | (go_at_call 51; refine (manyFault_prog _ _).mono ?_; rw [manyF_ok h]; rintro e w1 ⟨rfl, rfl⟩) | (go_at_call 56; refine (rounds_prog _ _ (by omega)).mono ?_; rintro e w1 ⟨rfl, rfl⟩))
    go_ret2
    exact ⟨rfl, rfl⟩
  · rw [manyF_bad h]
    go_enter Try.func16, Try.ntmps16
    go_wp2_with (go_at_call 51; refine (manyFault_prog _ _).mono ?_; rw [manyF_bad h]; rintro e w1 ⟨rfl, rfl⟩)
    go_ret2
    exact ⟨rfl, rfl⟩

def halv (k : Int) : Int := if k ≤ 1 then 0 else if k ≤ 3 then 1 else if k ≤ 7 then 2 else if k ≤ 15 then 3 else if k ≤ 31 then 4 else if k ≤ 63 then 5 else 6
theorem halv_step (k : Int) (h : 1 < k) (h' : k ≤ 64) : halv (k / 2) + 1 = halv k ∧ 1 ≤ k / 2 := by
  refine ⟨?_, by omega⟩
  unfold halv
  repeat' split
  all_goals omega
theorem halv_le (k : Int) : 0 ≤ halv k ∧ halv k ≤ 6 := by
  unfold halv; repeat' split
  all_goals omega
theorem halv_one (k : Int) (h : k ≤ 1) : halv k = 0 := by simp [halv, h]

theorem bracketL_length (many : Int) (h : 2 ≤ many) (h' : many ≤ 20) : halv (bracketL many).length = roundsF many ∧ ((bracketL many).length : Int) = 2 ^ (roundsF many).toNat ∧ (bracketL many).length ≤ 32 := by
  have : many = 2 ∨ many = 3 ∨ many = 4 ∨ many = 5 ∨ many = 6 ∨ many = 7 ∨ many = 8 ∨ many = 9 ∨ many = 10 ∨ many = 11 ∨ many = 12 ∨ many = 13 ∨ many = 14 ∨ many = 15 ∨ many = 16 ∨ many = 17 ∨ many = 18 ∨ many = 19 ∨ many = 20 := by omega
  rcases this with rfl | rfl | rfl | rfl | rfl | rfl | rfl | rfl | rfl | rfl | rfl | rfl | rfl | rfl | rfl | rfl | rfl | rfl | rfl
  all_goals decide +kernel

set_option maxHeartbeats 1000000 in
theorem rounds_ref (many : Int) (w : World) (h : 2 ≤ many) (h' : many ≤ 20) : Calls Try.prog 18 #[.int .i64 many] w fun e w' => e = .returned (.int .i64 (roundsF many)) ∧ Below w.heap.size w w' := by
  obtain ⟨hb1, hb2, hb3⟩ := bracketL_length many h h'
  have H1 := Lib.hid hb1
  have hL : ((bracketL many).length : Int) ≤ 32 := by omega
  have hL0 : (1 : Int) ≤ (bracketL many).length := by
    rw [hb2]
    have : 1 ≤ (2 : Nat) ^ (roundsF many).toNat := Nat.one_le_two_pow
    exact_mod_cast this
  have hr := roundsF_le many
  clear hb1 hb2 hb3
  go_enter Try.func18, Try.ntmps18
  go_wp2_with (go_at_call 49; refine (bracket_any _ _ (by omega)).mono ?_; rintro e w1 ⟨g, cap, rfl, hown, hbel⟩)
  clear hown
  go_loop [3, 4] (fun i j => ∃ n k : Int, 0 ≤ n ∧ n ≤ 6 ∧ 1 ≤ k ∧ k ≤ 64 ∧ i = .int .i64 n ∧ j = .int .i64 k ∧ Hid (halv k + n = roundsF many)) (fun i _ => 7 - (intOf i).toNat)
  case atStart => exact ⟨0, _, by omega, by omega, hL0, by omega, rfl, rfl, by show _ = _; rw [H1.out]; omega⟩
  case round =>
    obtain ⟨n, k, hn0, hn1, hk0, hk1, rfl, rfl, hh⟩ := hrel
    by_cases hlt : 1 < k
    · obtain ⟨hs, hs1⟩ := halv_step k hlt hk1
      have hh1 := hh.out
      have hl2 := halv_le (k / 2)
      have hn6 : n + 1 ≤ 6 := by omega
      have HH : Hid (halv (k / 2) + (n + 1) = roundsF many) := by show _ = _; omega
      have hk2 : k / 2 ≤ 64 := by omega
      clear hs hh1 hh
      go_wp2
      go_round
      case rel => exact ⟨_, _, by omega, by omega, hs1, by omega, rfl, rfl, HH⟩
      case measure => simp [intOf]; omega
    · have hh1 := hh.out
      rw [halv_one k (by omega)] at hh1
      have HH := Lib.hid hh1
      clear hh1 hh
      go_wp2
      go_ret
      exact ⟨ret_int (by have := HH.out; omega), hbel⟩

end Go.Proofs.Ytkcjklgbadekjaa
