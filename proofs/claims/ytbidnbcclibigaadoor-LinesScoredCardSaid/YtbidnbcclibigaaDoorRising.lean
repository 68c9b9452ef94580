/-
  Lists of keys that rise: the program's and the reference's look. Condition: the strings are no longer than any string of Go.
-/
import Derived.Test.YtbidnbcclibigaaDoorKey
import Derived.Test.YtbidnbcclibigaaDoorElems
import Derived.WalkLawsBesides
namespace Go.Bw
open Go.RowKit
def encS (s : ByteArray) : List Value := [.string s]
theorem encS_length (s : ByteArray) : (encS s).length = 1 := rfl
/-- Is the one string not greater than the other? -/
def leB (a b : ByteArray) : Bool := Op.bytesLess a.toList b.toList || a.toList == b.toList
end Go.Bw
namespace Go.Proofs.YtbidnbcclibigaaDoor
open Go.RowKit Go.Bw
def risingAt (l : List ByteArray) (i : Int) : Int := if keyB (geta l i) = false then 5 else if 0 < i ∧ leB (geta l i) (geta l (i - 1)) = true then 7 else 0
def risingE (l : List ByteArray) : Int := firstErr (risingAt l) l.length

set_option maxRecDepth 100000 in
set_option maxHeartbeats 1000000 in
theorem rising_prog (v : Value) (n : Nat) (l : List ByteArray) (base : Nat) (w : World) (h : Row w base 1 v n (cellsOf encS l)) (hz : ∀ s ∈ l, s.size ≤ 9223372036854775807) :
    Calls Tryd.prog 47 #[v] w fun e w' => e = .returned (.int .i64 (risingE l)) ∧ Below w.heap.size w w' := by
  obtain ⟨hl, hc⟩ := h.els encS_length (by decide)
  subst hl
  obtain ⟨p0, c0, rfl⟩ := h.shape
  have hw0 := Below.refl w.heap.size w
  clear h
  go_enter Tryd.func47, Tryd.ntmps47
  go_wp2_with fail
  go_loopw [7] (fun i wr => ∃ k : Int, 0 ≤ k ∧ k ≤ l.length ∧ NoErr (risingAt l) k ∧ i = .int .i64 k ∧ Below w.heap.size w wr) (fun i _ => l.length - (intOf i).toNat)
  case atStart => exact ⟨0, by omega, by omega, NoErr.zero _, rfl, hw0⟩
  case round =>
    obtain ⟨k, hk0, hk1, hok, rfl, hb⟩ := hrel
    by_cases hlt : k < l.length
    · rcases hc with ⟨_, hc⟩ | ⟨b, off, cap, hv, _, hbs, hnc, hcm, hcell⟩
      · omega
      simp only [Value.slice.injEq] at hv
      obtain ⟨rfl, _, rfl⟩ := hv
      have g1 := hcell k hk0 hlt 0 _ rfl
      have g1 := (hb.cell (p := ⟨b, off + k.toNat * 1 + 0, none⟩) hbs).trans g1
      rw [Nat.mul_one, Nat.add_zero] at g1
      have hz1 := hz _ (geta_mem hk0 hlt)
      have he := Lib.hid (show risingAt l k = if keyB (geta l k) = false then 5 else if 0 < k ∧ leB (geta l k) (geta l (k - 1)) = true then 7 else 0 from rfl)
      cases hkb : keyB (geta l k)
      · have hf := Lib.hid (firstErr_hit hok hk0 hlt (by rw [he.out, if_pos hkb]; decide))
        have hg := Lib.hid (show risingAt l k = 5 by rw [he.out, if_pos hkb])
        have hkb := Lib.hid hkb
        clear hcell hz
        generalize geta l k = s1 at *
        go_wp2_with (go_at_call 41; refine (key_is _ _ hkb.out _ hz1).mono ?_; rintro e w1 ⟨rfl, rfl⟩)
        go_ret
        exact ⟨ret_int (by show (5 : Int) = firstErr _ _; rw [hf.out, hg.out]), hb⟩
      · by_cases hp : 0 < k
        · have g2 := hcell (k - 1) (by omega) (by omega) 0 _ rfl
          have g2 := (hb.cell (p := ⟨b, off + (k - 1).toNat * 1 + 0, none⟩) hbs).trans g2
          rw [Nat.mul_one, Nat.add_zero, show (k - 1).toNat = k.toNat - 1 by omega] at g2
          cases hle : leB (geta l k) (geta l (k - 1))
          · have hst := Lib.hid (hok.step (by rw [he.out, if_neg (by rw [hkb]; decide), if_neg (by rw [hle]; simp)]))
            have hkb := Lib.hid hkb
            unfold leB at hle
            clear hcell hz
            generalize geta l k = s1 at *
            generalize geta l (k - 1) = s2 at *
            go_wp2_with (go_at_call 41; refine (key_is _ _ hkb.out _ hz1).mono ?_; rintro e w1 ⟨rfl, rfl⟩)
            go_roundw
            case rel => exact ⟨k + 1, by omega, by omega, hst.out, rfl, hb⟩
            case measure => simp [intOf]; omega
          · have hg := Lib.hid (show risingAt l k = 7 by rw [he.out, if_neg (by rw [hkb]; decide), if_pos ⟨hp, hle⟩])
            have hf := Lib.hid (firstErr_hit hok hk0 hlt (by rw [hg.out]; decide))
            have hkb := Lib.hid hkb
            unfold leB at hle
            clear hcell hz
            generalize geta l k = s1 at *
            generalize geta l (k - 1) = s2 at *
            go_wp2_with (go_at_call 41; refine (key_is _ _ hkb.out _ hz1).mono ?_; rintro e w1 ⟨rfl, rfl⟩)
            go_ret
            exact ⟨ret_int (by show (7 : Int) = firstErr _ _; rw [hf.out, hg.out]), hb⟩
        · have hst := Lib.hid (hok.step (by rw [he.out, if_neg (by rw [hkb]; decide), if_neg (fun h => hp h.1)]))
          have hkb := Lib.hid hkb
          clear hcell hz
          generalize geta l k = s1 at *
          go_wp2_with (go_at_call 41; refine (key_is _ _ hkb.out _ hz1).mono ?_; rintro e w1 ⟨rfl, rfl⟩)
          go_roundw
          case rel => exact ⟨k + 1, by omega, by omega, hst.out, rfl, hb⟩
          case measure => simp [intOf]; omega
    · have hf := Lib.hid (firstErr_none (f := risingAt l) (n := l.length) (fun j h0 h1 => hok j h0 (by omega)))
      clear hc
      go_wp2_with fail
      go_ret
      exact ⟨ret_int hf.out.symm, hb⟩

set_option maxRecDepth 100000 in
set_option maxHeartbeats 1000000 in
theorem rising_ref (v : Value) (n : Nat) (l : List ByteArray) (base : Nat) (w : World) (h : Row w base 1 v n (cellsOf encS l)) (hz : ∀ s ∈ l, s.size ≤ 9223372036854775807) :
    Calls Tryd.prog 36 #[v] w fun e w' => e = .returned (.int .i64 (risingE l)) ∧ Below w.heap.size w w' := by
  obtain ⟨hl, hc⟩ := h.els encS_length (by decide)
  subst hl
  obtain ⟨p0, c0, rfl⟩ := h.shape
  have hw0 := Below.refl w.heap.size w
  clear h
  go_enter Tryd.func36, Tryd.ntmps36
  go_wp2_with fail
  go_loopw [7] (fun i wr => ∃ k : Int, 0 ≤ k ∧ k ≤ l.length ∧ NoErr (risingAt l) k ∧ i = .int .i64 k ∧ Below w.heap.size w wr) (fun i _ => l.length - (intOf i).toNat)
  case atStart => exact ⟨0, by omega, by omega, NoErr.zero _, rfl, hw0⟩
  case round =>
    obtain ⟨k, hk0, hk1, hok, rfl, hb⟩ := hrel
    by_cases hlt : k < l.length
    · rcases hc with ⟨_, hc⟩ | ⟨b, off, cap, hv, _, hbs, hnc, hcm, hcell⟩
      · omega
      simp only [Value.slice.injEq] at hv
      obtain ⟨rfl, _, rfl⟩ := hv
      have g1 := hcell k hk0 hlt 0 _ rfl
      have g1 := (hb.cell (p := ⟨b, off + k.toNat * 1 + 0, none⟩) hbs).trans g1
      rw [Nat.mul_one, Nat.add_zero] at g1
      have hz1 := hz _ (geta_mem hk0 hlt)
      have he := Lib.hid (show risingAt l k = if keyB (geta l k) = false then 5 else if 0 < k ∧ leB (geta l k) (geta l (k - 1)) = true then 7 else 0 from rfl)
      cases hkb : keyB (geta l k)
      · have hf := Lib.hid (firstErr_hit hok hk0 hlt (by rw [he.out, if_pos hkb]; decide))
        have hg := Lib.hid (show risingAt l k = 5 by rw [he.out, if_pos hkb])
        have hkb := Lib.hid hkb
        clear hcell hz
        generalize geta l k = s1 at *
        go_wp2_with (go_at_call 33; refine (key_ref_is _ _ hkb.out _ hz1).mono ?_; rintro e w1 ⟨rfl, rfl⟩)
        go_ret
        exact ⟨ret_int (by show (5 : Int) = firstErr _ _; rw [hf.out, hg.out]), hb⟩
      · by_cases hp : 0 < k
        · have g2 := hcell (k - 1) (by omega) (by omega) 0 _ rfl
          have g2 := (hb.cell (p := ⟨b, off + (k - 1).toNat * 1 + 0, none⟩) hbs).trans g2
          rw [Nat.mul_one, Nat.add_zero, show (k - 1).toNat = k.toNat - 1 by omega] at g2
          cases hle : leB (geta l k) (geta l (k - 1))
          · have hst := Lib.hid (hok.step (by rw [he.out, if_neg (by rw [hkb]; decide), if_neg (by rw [hle]; simp)]))
            have hkb := Lib.hid hkb
            unfold leB at hle
            clear hcell hz
            generalize geta l k = s1 at *
            generalize geta l (k - 1) = s2 at *
            go_wp2_with (go_at_call 33; refine (key_ref_is _ _ hkb.out _ hz1).mono ?_; rintro e w1 ⟨rfl, rfl⟩)
            go_roundw
            case rel => exact ⟨k + 1, by omega, by omega, hst.out, rfl, hb⟩
            case measure => simp [intOf]; omega
          · have hg := Lib.hid (show risingAt l k = 7 by rw [he.out, if_neg (by rw [hkb]; decide), if_pos ⟨hp, hle⟩])
            have hf := Lib.hid (firstErr_hit hok hk0 hlt (by rw [hg.out]; decide))
            have hkb := Lib.hid hkb
            unfold leB at hle
            clear hcell hz
            generalize geta l k = s1 at *
            generalize geta l (k - 1) = s2 at *
            go_wp2_with (go_at_call 33; refine (key_ref_is _ _ hkb.out _ hz1).mono ?_; rintro e w1 ⟨rfl, rfl⟩)
            go_ret
            exact ⟨ret_int (by show (7 : Int) = firstErr _ _; rw [hf.out, hg.out]), hb⟩
        · have hst := Lib.hid (hok.step (by rw [he.out, if_neg (by rw [hkb]; decide), if_neg (fun h => hp h.1)]))
          have hkb := Lib.hid hkb
          clear hcell hz
          generalize geta l k = s1 at *
          go_wp2_with (go_at_call 33; refine (key_ref_is _ _ hkb.out _ hz1).mono ?_; rintro e w1 ⟨rfl, rfl⟩)
          go_roundw
          case rel => exact ⟨k + 1, by omega, by omega, hst.out, rfl, hb⟩
          case measure => simp [intOf]; omega
    · have hf := Lib.hid (firstErr_none (f := risingAt l) (n := l.length) (fun j h0 h1 => hok j h0 (by omega)))
      clear hc
      go_wp2_with fail
      go_ret
      exact ⟨ret_int hf.out.symm, hb⟩

/-- What is wrong with a list of positions that may be empty. -/
def listE (l : List ByteArray) : Int := if 10 < l.length then 2 else risingE l

set_option maxRecDepth 100000 in
set_option maxHeartbeats 1000000 in
theorem listFault_ref (v : Value) (n : Nat) (l : List ByteArray) (base : Nat) (w : World) (h : Row w base 1 v n (cellsOf encS l)) (hz : ∀ s ∈ l, s.size ≤ 9223372036854775807) :
    Calls Tryd.prog 12 #[v, .bool false] w fun e w' => e = .returned (.int .i64 (listE l)) ∧ Below w.heap.size w w' := by
  have hl := (h.els encS_length (by decide)).1
  subst hl
  obtain ⟨p0, c0, rfl⟩ := h.shape
  by_cases h10 : 10 < l.length
  · have he := Lib.hid (show listE l = 2 by simp [listE, h10])
    go_enter Tryd.func12, Tryd.ntmps12
    go_wp2_with fail
    go_ret
    exact ⟨ret_int he.out.symm, Below.refl _ _⟩
  · have he := Lib.hid (show listE l = risingE l by simp [listE, h10])
    go_enter Tryd.func12, Tryd.ntmps12
    go_wp2_with (go_at_call 36; refine (rising_ref _ _ l base _ h hz).mono ?_; rintro e w1 ⟨rfl, hb⟩)
    go_ret
    exact ⟨ret_int he.out.symm, hb⟩
end Go.Proofs.YtbidnbcclibigaaDoor
