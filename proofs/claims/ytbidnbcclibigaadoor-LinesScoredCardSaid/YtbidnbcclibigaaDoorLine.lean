/-
  Lines: the program's and the reference's look at them. Conditions: strings and numbers are no greater than Go's.
-/
import Derived.Test.YtbidnbcclibigaaDoorRising
import Derived.Test.YtbidnbcclibigaaDoorBwReg
import Derived.Test.YtbidnbcclibigaaDoorPiece
namespace Go.Bw
open Go.RowKit
/-- A statistic: its name, how often. -/
structure StatL where
  name : ByteArray
  count : Int
instance : Inhabited StatL := ⟨⟨ByteArray.empty, 0⟩⟩
def encT (t : StatL) : List Value := [.string t.name, .int .i64 t.count]
theorem encT_length (t : StatL) : (encT t).length = 2 := rfl
/-- Its parts are no greater than Go's. -/
def StatOk (t : StatL) : Prop := t.name.size ≤ 9223372036854775807
theorem le_empty {s : ByteArray} (h : 0 < s.size) : leB s ByteArray.empty = false := by
  have hl : s.toList ≠ [] := by
    intro e
    rw [ByteArray.toList_eq] at e
    have : s.data.toList.length = 0 := by rw [e]; rfl
    have : s.size = 0 := by simpa using this
    omega
  have he : ByteArray.empty.toList = [] := by rw [ByteArray.toList_eq]; rfl
  unfold leB
  rw [he]
  cases hx : s.toList with
  | nil => exact absurd hx hl
  | cons c t => simp [Op.bytesLess]
end Go.Bw
namespace Go.Proofs.YtbidnbcclibigaaDoor
open Go.RowKit Go.Bw

theorem keyB_pos {s : ByteArray} (h : keyB s = true) : 0 < s.size := by
  by_cases h0 : s.size = 0
  · rw [keyB_empty h0] at h; cases h
  · omega

def statAt (l : List StatL) (i : Int) : Int :=
  if keyB (geta l i).name = false then 5 else if outB (geta l i).count (-100000) 100000 = true then 1 else if 0 < i ∧ leB (geta l i).name (geta l (i - 1)).name = true then 7 else 0
def lineE (p : ByteArray) (wk : Int) (l : List StatL) : Int :=
  if keyB p = false then 5 else if outB wk 1 60 = true then 1 else if 40 < l.length then 2 else firstErr (statAt l) l.length
/-- The name before. -/
def lastT (l : List StatL) (i : Int) : ByteArray := if i ≤ 0 then ByteArray.empty else (geta l (i - 1)).name
theorem statAt_last (l : List StatL) (i : Int) : statAt l i =
    if keyB (geta l i).name = false then 5 else if outB (geta l i).count (-100000) 100000 = true then 1 else if leB (geta l i).name (lastT l i) = true then 7 else 0 := by
  unfold statAt lastT
  by_cases hk : keyB (geta l i).name = false
  · simp [hk]
  · by_cases h0 : i ≤ 0
    · have he := le_empty (keyB_pos (by simpa using hk))
      rw [if_pos h0, he]
      have : ¬ (0 < i ∧ leB (geta l i).name (geta l (i - 1)).name = true) := by omega
      rw [if_neg this]
      simp
    · rw [if_neg h0]
      have : (0 < i ∧ leB (geta l i).name (geta l (i - 1)).name = true) ↔ leB (geta l i).name (geta l (i - 1)).name = true := by constructor; exact fun h => h.2; exact fun h => ⟨by omega, h⟩
      simp only [this]
theorem lastT_succ (l : List StatL) (i : Int) (h : 0 ≤ i) : lastT l (i + 1) = (geta l i).name := by
  unfold lastT
  rw [if_neg (by omega), show i + 1 - 1 = i by omega]

theorem week_prog (n : Int) (b : Bool) (h : (!outB n 1 60) = b) (w : World) : Calls Tryd.prog 42 #[.int .i64 n] w fun e w' => e = .returned (.bool b) ∧ w = w' := by
  have ho : outB n 1 60 = !b := by rw [← h]; simp
  have ho := Lib.hid ho
  clear h
  go_enter Tryd.func42, Tryd.ntmps42
  go_wp2_with (go_at_call 43; refine (out_is _ _ _ _ ho.out _).mono ?_; rintro e w1 ⟨rfl, rfl⟩)
  go_ret
  exact ⟨ret_bool (by simp), rfl⟩
theorem week_ref (n : Int) (b : Bool) (h : (!outB n 1 60) = b) (w : World) : Calls Tryd.prog 37 #[.int .i64 n] w fun e w' => e = .returned (.bool b) ∧ w = w' := by
  have ho := Lib.hid h
  clear h
  go_enter Tryd.func37, Tryd.ntmps37
  go_wp2_with (go_at_call 34; refine (in_is _ _ _ _ ho.out _).mono ?_; rintro e w1 ⟨rfl, rfl⟩)
  go_ret
  exact ⟨rfl, rfl⟩

set_option maxRecDepth 100000 in
set_option maxHeartbeats 2000000 in
theorem line_prog (p : ByteArray) (wk : Int) (v : Value) (n : Nat) (l : List StatL) (base : Nat) (w : World) (hz0 : p.size ≤ 9223372036854775807) (h : Row w base 2 v n (cellsOf encT l)) (hz : ∀ t ∈ l, StatOk t) :
    Calls Tryd.prog 16 #[.agg #[.string p, .int .i64 wk, v]] w fun e w' => e = .returned (.int .i64 (lineE p wk l)) ∧ Below w.heap.size w w' := by
  obtain ⟨hl, hc⟩ := h.els encT_length (by decide)
  subst hl
  obtain ⟨p0, c0, rfl⟩ := h.shape
  have hw0 := Below.refl w.heap.size w
  clear h
  cases hkb : keyB p
  · have he := Lib.hid (show lineE p wk l = 5 by simp [lineE, hkb])
    have hkb := Lib.hid hkb
    clear hc
    go_enter Tryd.func16, Tryd.ntmps16
    go_wp2_with (go_at_call 41; refine (key_is _ _ hkb.out _ hz0).mono ?_; rintro e w1 ⟨rfl, rfl⟩)
    go_ret
    exact ⟨ret_int he.out.symm, hw0.alloc (Nat.le_refl _) _⟩
  cases hob : outB wk 1 60
  rotate_left
  · have he := Lib.hid (show lineE p wk l = 1 by simp [lineE, hkb, hob])
    have hkb := Lib.hid hkb
    have hwb := Lib.hid (show (!outB wk 1 60) = false by rw [hob]; rfl)
    clear hc hob
    go_enter Tryd.func16, Tryd.ntmps16
    go_wp2_with first | (go_at_call 41; refine (key_is _ _ hkb.out _ hz0).mono ?_; rintro e w1 ⟨rfl, rfl⟩) | (go_at_call 42; refine (week_prog _ _ hwb.out _).mono ?_; rintro e w1 ⟨rfl, rfl⟩)
    go_ret
    exact ⟨ret_int he.out.symm, hw0.alloc (Nat.le_refl _) _⟩
  by_cases h40 : 40 < l.length
  · have he := Lib.hid (show lineE p wk l = 2 by simp [lineE, hkb, hob, h40])
    have hkb := Lib.hid hkb
    have hwb := Lib.hid (show (!outB wk 1 60) = true by rw [hob]; rfl)
    clear hc hob
    go_enter Tryd.func16, Tryd.ntmps16
    go_wp2_with first | (go_at_call 41; refine (key_is _ _ hkb.out _ hz0).mono ?_; rintro e w1 ⟨rfl, rfl⟩) | (go_at_call 42; refine (week_prog _ _ hwb.out _).mono ?_; rintro e w1 ⟨rfl, rfl⟩)
    go_ret
    exact ⟨ret_int he.out.symm, hw0.alloc (Nat.le_refl _) _⟩
  have he := Lib.hid (show lineE p wk l = firstErr (statAt l) l.length by simp [lineE, hkb, hob, h40])
  replace hkb := Lib.hid hkb
  have hwb := Lib.hid (show (!outB wk 1 60) = true by rw [hob]; rfl)
  clear hob
  go_enter Tryd.func16, Tryd.ntmps16
  go_wp2_with first | (go_at_call 41; refine (key_is _ _ hkb.out _ hz0).mono ?_; rintro e w1 ⟨rfl, rfl⟩) | (go_at_call 42; refine (week_prog _ _ hwb.out _).mono ?_; rintro e w1 ⟨rfl, rfl⟩)
  have b0 := cells_new w #[.string p, .int .i64 wk, .slice p0 l.length c0] 32 2 _ rfl
  replace hw0 := hw0.alloc (Nat.le_refl _) (.cells #[.string p, .int .i64 wk, .slice p0 l.length c0] 32)
  have hlt0 : w.heap.size < (w.alloc (.cells #[.string p, .int .i64 wk, .slice p0 l.length c0] 32)).heap.size := by simp
  generalize w.alloc (.cells #[.string p, .int .i64 wk, .slice p0 l.length c0] 32) = W at *
  go_loopw [23] (fun i wr => ∃ k : Int, 0 ≤ k ∧ k ≤ l.length ∧ NoErr (statAt l) k ∧ i = .int .i64 k ∧ Below W.heap.size W wr) (fun i  _ => l.length - (intOf i).toNat)
  case atStart => exact ⟨0, by omega, by omega, NoErr.zero _, rfl, Below.refl _ _⟩
  case round =>
    obtain ⟨k, hk0, hk1, hok, rfl, hb⟩ := hrel
    by_cases hlt : k < l.length
    · rcases hc with ⟨_, hc⟩ | ⟨b, off, cap, hv, _, hbs, hnc, hcm, hcell⟩
      · omega
      simp only [Value.slice.injEq] at hv
      obtain ⟨rfl, _, rfl⟩ := hv
      have hbW : b < W.heap.size := by have := hw0.size; omega
      have tr : ∀ o u, w.cell? ⟨b, o, none⟩ = some u → wr.cell? ⟨b, o, none⟩ = some u := fun o u h => ((hb.cell (p := ⟨b, o, none⟩) hbW).trans (hw0.cell (p := ⟨b, o, none⟩) hbs)).trans h
      have g0 := tr _ _ (hcell k hk0 hlt 0 _ rfl)
      have g1 := tr _ _ (hcell k hk0 hlt 1 _ rfl)
      have b0 := (hb.cell (p := ⟨w.heap.size, 2, none⟩) hlt0).trans b0
      rw [Nat.add_zero] at g0
      have hz1 := hz _ (geta_mem hk0 hlt)
      unfold StatOk at hz1
      have hex := Lib.hid (show statAt l k = if keyB (geta l k).name = false then 5 else if outB (geta l k).count (-100000) 100000 = true then 1 else if 0 < k ∧ leB (geta l k).name (geta l (k - 1)).name = true then 7 else 0 from rfl)
      have hc0 : k ≤ 0 ∨ wr.cell? ⟨b, off + (k.toNat - 1) * 2, none⟩ = some (.string (geta l (k - 1)).name) := by
        by_cases hp : 0 < k
        · have := tr _ _ (hcell (k - 1) (by omega) (by omega) 0 _ rfl)
          rw [Nat.add_zero, show (k - 1).toNat = k.toNat - 1 by omega] at this
          exact .inr this
        · exact .inl (by omega)
      have hsz := hb.size
      have hbr : b < wr.heap.size := by omega
      have hBr : w.heap.size < wr.heap.size := by omega
      have hst := Lib.hid (fun h => hok.step (f := statAt l) (i := k) h)
      generalize (geta l k).name = s1 at *
      generalize (geta l k).count = n1 at *
      go_upto_region 10 with fail
      have d0 := cells_new wr #[.string s1, .int .i64 n1] 74 0 _ rfl
      have d1 := cells_new wr #[.string s1, .int .i64 n1] 74 1 _ rfl
      have hb2 := hb.alloc hsz (.cells #[.string s1, .int .i64 n1] 74)
      have b0 := (World.cell?_of_block (a := ⟨w.heap.size, 2, none⟩) ((World.grownBy_alloc wr (.cells #[.string s1, .int .i64 n1] 74) none).block _ hBr (by simp))).trans b0
      replace hc0 : k ≤ 0 ∨ (wr.alloc (.cells #[.string s1, .int .i64 n1] 74)).cell? ⟨b, off + (k.toNat - 1) * 2, none⟩ = some (.string (geta l (k - 1)).name) := by
        rcases hc0 with hc0 | hc0
        · exact .inl hc0
        · exact .inr ((World.cell?_of_block (a := ⟨b, off + (k.toNat - 1) * 2, none⟩) ((World.grownBy_alloc wr (.cells #[.string s1, .int .i64 n1] 74) none).block _ hbr (by simp))).trans hc0)
      generalize wr.alloc (.cells #[.string s1, .int .i64 n1] 74) = W2 at *
      generalize wr.heap.size = g at *
      clear hcell tr g0 g1 hz
      cases hkn : keyB s1
      · have hg := Lib.hid (show statAt l k = 5 by rw [hex.out, if_pos hkn])
        have hf := Lib.hid (firstErr_hit hok hk0 hlt (by rw [hg.out]; decide))
        have hkn := Lib.hid hkn
        go_wp2_with (go_at_call 41; refine (key_is _ _ hkn.out _ hz1).mono ?_; rintro e w2 ⟨rfl, rfl⟩)
        go_ret
        exact ⟨ret_int (by rw [he.out]; show (5 : Int) = firstErr _ _; rw [hf.out, hg.out]), hw0.trans (hb2.mono (Nat.le_of_lt hlt0))⟩
      cases hon : outB n1 (-100000) 100000
      rotate_left
      · have hg := Lib.hid (show statAt l k = 1 by rw [hex.out, if_neg (by rw [hkn]; decide), if_pos hon])
        have hf := Lib.hid (firstErr_hit hok hk0 hlt (by rw [hg.out]; decide))
        have hkn := Lib.hid hkn
        have hon := Lib.hid hon
        go_wp2_with first | (go_at_call 41; refine (key_is _ _ hkn.out _ hz1).mono ?_; rintro e w2 ⟨rfl, rfl⟩) | (go_at_call 43; refine (out_is _ _ _ _ hon.out _).mono ?_; rintro e w2 ⟨rfl, rfl⟩)
        go_ret
        exact ⟨ret_int (by rw [he.out]; show (1 : Int) = firstErr _ _; rw [hf.out, hg.out]), hw0.trans (hb2.mono (Nat.le_of_lt hlt0))⟩
      by_cases hp : 0 < k
      · have hkb1 := hkn
        have hon1 := hon
        rcases hc0 with hc0 | hc0
        · omega
        have hkn := Lib.hid hkn
        have hon := Lib.hid hon
        cases hle : leB s1 (geta l (k - 1)).name
        · have hst := Lib.hid (hst.out (by rw [hex.out, if_neg (by rw [hkb1]; decide), if_neg (by rw [hon1]; decide), if_neg (by rw [hle]; simp)]))
          unfold leB at hle
          clear hkb1 hon1
          generalize (geta l (k - 1)).name = s2 at *
          go_wp2_with first | (go_at_call 41; refine (key_is _ _ hkn.out _ hz1).mono ?_; rintro e w2 ⟨rfl, rfl⟩) | (go_at_call 43; refine (out_is _ _ _ _ hon.out _).mono ?_; rintro e w2 ⟨rfl, rfl⟩)
          go_quiet (fail)
          go_wp2_with fail
          go_roundw
          case rel => exact ⟨k + 1, by omega, by omega, hst.out, rfl, below_drewN hb2 _⟩
          case measure => simp [intOf]; omega
        · have hg := Lib.hid (show statAt l k = 7 by rw [hex.out, if_neg (by rw [hkb1]; decide), if_neg (by rw [hon1]; decide), if_pos ⟨hp, hle⟩])
          have hf := Lib.hid (firstErr_hit hok hk0 hlt (by rw [hg.out]; decide))
          unfold leB at hle
          clear hkb1 hon1
          generalize (geta l (k - 1)).name = s2 at *
          go_wp2_with first | (go_at_call 41; refine (key_is _ _ hkn.out _ hz1).mono ?_; rintro e w2 ⟨rfl, rfl⟩) | (go_at_call 43; refine (out_is _ _ _ _ hon.out _).mono ?_; rintro e w2 ⟨rfl, rfl⟩)
          go_quiet (fail)
          go_wp2_with fail
          go_ret
          exact ⟨ret_int (by rw [he.out]; show (7 : Int) = firstErr _ _; rw [hf.out, hg.out]), below_drewN (hw0.trans (hb2.mono (Nat.le_of_lt hlt0))) _⟩
      · have hst := Lib.hid (hst.out (by rw [hex.out, if_neg (by rw [hkn]; decide), if_neg (by rw [hon]; decide), if_neg (fun h => hp h.1)]))
        have hpb : decide (0 < k) = false := by simp; omega
        have hkn := Lib.hid hkn
        have hon := Lib.hid hon
        go_wp2_with first | (go_at_call 41; refine (key_is _ _ hkn.out _ hz1).mono ?_; rintro e w2 ⟨rfl, rfl⟩) | (go_at_call 43; refine (out_is _ _ _ _ hon.out _).mono ?_; rintro e w2 ⟨rfl, rfl⟩)
        go_quiet (fail)
        go_wp2_with fail
        go_roundw
        case rel => exact ⟨k + 1, by omega, by omega, hst.out, rfl, below_drewN hb2 _⟩
        case measure => simp [intOf]; omega
    · have hf := Lib.hid (firstErr_none (f := statAt l) (n := l.length) (fun j h0 h1 => hok j h0 (by omega)))
      clear hc
      go_wp2_with fail
      go_ret
      exact ⟨ret_int (by rw [he.out, hf.out]), hw0.trans (hb.mono (Nat.le_of_lt hlt0))⟩

set_option maxRecDepth 100000 in
set_option maxHeartbeats 2000000 in
theorem line_ref (p : ByteArray) (wk : Int) (v : Value) (n : Nat) (l : List StatL) (base : Nat) (w : World) (hz0 : p.size ≤ 9223372036854775807) (h : Row w base 2 v n (cellsOf encT l)) (hz : ∀ t ∈ l, StatOk t) :
    Calls Tryd.prog 13 #[.agg #[.string p, .int .i64 wk, v]] w fun e w' => e = .returned (.int .i64 (lineE p wk l)) ∧ Below w.heap.size w w' := by
  obtain ⟨hl, hc⟩ := h.els encT_length (by decide)
  subst hl
  obtain ⟨p0, c0, rfl⟩ := h.shape
  have hw0 := Below.refl w.heap.size w
  clear h
  cases hkb : keyB p
  · have he := Lib.hid (show lineE p wk l = 5 by simp [lineE, hkb])
    have hkb := Lib.hid hkb
    clear hc
    go_enter Tryd.func13, Tryd.ntmps13
    go_wp2_with (go_at_call 33; refine (key_ref_is _ _ hkb.out _ hz0).mono ?_; rintro e w1 ⟨rfl, rfl⟩)
    go_ret
    exact ⟨ret_int he.out.symm, hw0.alloc (Nat.le_refl _) _⟩
  cases hob : outB wk 1 60
  rotate_left
  · have he := Lib.hid (show lineE p wk l = 1 by simp [lineE, hkb, hob])
    have hkb := Lib.hid hkb
    have hwb := Lib.hid (show (!outB wk 1 60) = false by rw [hob]; rfl)
    clear hc hob
    go_enter Tryd.func13, Tryd.ntmps13
    go_wp2_with first | (go_at_call 33; refine (key_ref_is _ _ hkb.out _ hz0).mono ?_; rintro e w1 ⟨rfl, rfl⟩) | (go_at_call 37; refine (week_ref _ _ hwb.out _).mono ?_; rintro e w1 ⟨rfl, rfl⟩)
    go_ret
    exact ⟨ret_int he.out.symm, hw0.alloc (Nat.le_refl _) _⟩
  by_cases h40 : 40 < l.length
  · have he := Lib.hid (show lineE p wk l = 2 by simp [lineE, hkb, hob, h40])
    have hkb := Lib.hid hkb
    have hwb := Lib.hid (show (!outB wk 1 60) = true by rw [hob]; rfl)
    clear hc hob
    go_enter Tryd.func13, Tryd.ntmps13
    go_wp2_with first | (go_at_call 33; refine (key_ref_is _ _ hkb.out _ hz0).mono ?_; rintro e w1 ⟨rfl, rfl⟩) | (go_at_call 37; refine (week_ref _ _ hwb.out _).mono ?_; rintro e w1 ⟨rfl, rfl⟩)
    go_ret
    exact ⟨ret_int he.out.symm, hw0.alloc (Nat.le_refl _) _⟩
  have he := Lib.hid (show lineE p wk l = firstErr (statAt l) l.length by simp [lineE, hkb, hob, h40])
  replace hkb := Lib.hid hkb
  have hwb := Lib.hid (show (!outB wk 1 60) = true by rw [hob]; rfl)
  clear hob
  go_enter Tryd.func13, Tryd.ntmps13
  go_wp2_with first | (go_at_call 33; refine (key_ref_is _ _ hkb.out _ hz0).mono ?_; rintro e w1 ⟨rfl, rfl⟩) | (go_at_call 37; refine (week_ref _ _ hwb.out _).mono ?_; rintro e w1 ⟨rfl, rfl⟩)
  have b0 := cells_new w #[.string p, .int .i64 wk, .slice p0 l.length c0] 32 2 _ rfl
  replace hw0 := hw0.alloc (Nat.le_refl _) (.cells #[.string p, .int .i64 wk, .slice p0 l.length c0] 32)
  have hlt0 : w.heap.size < (w.alloc (.cells #[.string p, .int .i64 wk, .slice p0 l.length c0] 32)).heap.size := by simp
  generalize w.alloc (.cells #[.string p, .int .i64 wk, .slice p0 l.length c0] 32) = W at *
  go_loopw [24, 3] (fun i s wr => ∃ k : Int, 0 ≤ k ∧ k ≤ l.length ∧ NoErr (statAt l) k ∧ i = .int .i64 k ∧ s = .string (lastT l k) ∧ Below W.heap.size W wr) (fun i _ _ => l.length - (intOf i).toNat)
  case atStart => exact ⟨0, by omega, by omega, NoErr.zero _, rfl, rfl, Below.refl _ _⟩
  case round =>
    obtain ⟨k, hk0, hk1, hok, rfl, rfl, hb⟩ := hrel
    by_cases hlt : k < l.length
    · rcases hc with ⟨_, hc⟩ | ⟨b, off, cap, hv, _, hbs, hnc, hcm, hcell⟩
      · omega
      simp only [Value.slice.injEq] at hv
      obtain ⟨rfl, _, rfl⟩ := hv
      have hbW : b < W.heap.size := by have := hw0.size; omega
      have tr : ∀ o u, w.cell? ⟨b, o, none⟩ = some u → wr.cell? ⟨b, o, none⟩ = some u := fun o u h => ((hb.cell (p := ⟨b, o, none⟩) hbW).trans (hw0.cell (p := ⟨b, o, none⟩) hbs)).trans h
      have g0 := tr _ _ (hcell k hk0 hlt 0 _ rfl)
      have g1 := tr _ _ (hcell k hk0 hlt 1 _ rfl)
      have b0 := (hb.cell (p := ⟨w.heap.size, 2, none⟩) hlt0).trans b0
      rw [Nat.add_zero] at g0
      have hz1 := hz _ (geta_mem hk0 hlt)
      unfold StatOk at hz1
      have hex := Lib.hid (statAt_last l k)
      have hls := Lib.hid (lastT_succ l k hk0)
      have hsz := hb.size
      have hbr : b < wr.heap.size := by omega
      have hBr : w.heap.size < wr.heap.size := by omega
      have hst := Lib.hid (fun h => hok.step (f := statAt l) (i := k) h)
      generalize (geta l k).name = s1 at *
      generalize (geta l k).count = n1 at *
      go_upto_region 11 with fail
      have d0 := cells_new wr #[.string s1, .int .i64 n1] 74 0 _ rfl
      have d1 := cells_new wr #[.string s1, .int .i64 n1] 74 1 _ rfl
      have hb2 := hb.alloc hsz (.cells #[.string s1, .int .i64 n1] 74)
      have b0 := (World.cell?_of_block (a := ⟨w.heap.size, 2, none⟩) ((World.grownBy_alloc wr (.cells #[.string s1, .int .i64 n1] 74) none).block _ hBr (by simp))).trans b0
      generalize wr.alloc (.cells #[.string s1, .int .i64 n1] 74) = W2 at *
      generalize wr.heap.size = g at *
      clear hcell tr g0 g1 hz
      cases hkn : keyB s1
      · have hg := Lib.hid (show statAt l k = 5 by rw [hex.out, if_pos hkn])
        have hf := Lib.hid (firstErr_hit hok hk0 hlt (by rw [hg.out]; decide))
        have hkn := Lib.hid hkn
        go_wp2_with (go_at_call 33; refine (key_ref_is _ _ hkn.out _ hz1).mono ?_; rintro e w2 ⟨rfl, rfl⟩)
        go_ret
        exact ⟨ret_int (by rw [he.out]; show (5 : Int) = firstErr _ _; rw [hf.out, hg.out]), hw0.trans (hb2.mono (Nat.le_of_lt hlt0))⟩
      cases hon : outB n1 (-100000) 100000
      rotate_left
      · have hg := Lib.hid (show statAt l k = 1 by rw [hex.out, if_neg (by rw [hkn]; decide), if_pos hon])
        have hf := Lib.hid (firstErr_hit hok hk0 hlt (by rw [hg.out]; decide))
        have hkn := Lib.hid hkn
        have hon := Lib.hid (show (!outB n1 (-100000) 100000) = false by rw [hon]; rfl)
        go_wp2_with first | (go_at_call 33; refine (key_ref_is _ _ hkn.out _ hz1).mono ?_; rintro e w2 ⟨rfl, rfl⟩) | (go_at_call 34; refine (in_is _ _ _ _ hon.out _).mono ?_; rintro e w2 ⟨rfl, rfl⟩)
        go_ret
        exact ⟨ret_int (by rw [he.out]; show (1 : Int) = firstErr _ _; rw [hf.out, hg.out]), hw0.trans (hb2.mono (Nat.le_of_lt hlt0))⟩
      have hkb1 := hkn
      have hon1 := hon
      have hkn := Lib.hid hkn
      have hon := Lib.hid (show (!outB n1 (-100000) 100000) = true by rw [hon]; rfl)
      cases hle : leB s1 (lastT l k)
      · have hst := Lib.hid (hst.out (by rw [hex.out, if_neg (by rw [hkb1]; decide), if_neg (by rw [hon1]; decide), if_neg (by rw [hle]; simp)]))
        unfold leB at hle
        clear hkb1 hon1
        generalize lastT l k = s2 at *
        go_wp2_with first | (go_at_call 33; refine (key_ref_is _ _ hkn.out _ hz1).mono ?_; rintro e w2 ⟨rfl, rfl⟩) | (go_at_call 34; refine (in_is _ _ _ _ hon.out _).mono ?_; rintro e w2 ⟨rfl, rfl⟩)
        go_roundw
        case rel => exact ⟨k + 1, by omega, by omega, hst.out, rfl, by rw [hls.out], hb2⟩
        case measure => simp [intOf]; omega
      · have hg := Lib.hid (show statAt l k = 7 by rw [hex.out, if_neg (by rw [hkb1]; decide), if_neg (by rw [hon1]; decide), if_pos hle])
        have hf := Lib.hid (firstErr_hit hok hk0 hlt (by rw [hg.out]; decide))
        unfold leB at hle
        clear hkb1 hon1
        generalize lastT l k = s2 at *
        go_wp2_with first | (go_at_call 33; refine (key_ref_is _ _ hkn.out _ hz1).mono ?_; rintro e w2 ⟨rfl, rfl⟩) | (go_at_call 34; refine (in_is _ _ _ _ hon.out _).mono ?_; rintro e w2 ⟨rfl, rfl⟩)
        go_ret
        exact ⟨ret_int (by rw [he.out]; show (7 : Int) = firstErr _ _; rw [hf.out, hg.out]), hw0.trans (hb2.mono (Nat.le_of_lt hlt0))⟩
    · have hf := Lib.hid (firstErr_none (f := statAt l) (n := l.length) (fun j h0 h1 => hok j h0 (by omega)))
      clear hc
      go_wp2_with fail
      go_ret
      exact ⟨ret_int (by rw [he.out, hf.out]), hw0.trans (hb.mono (Nat.le_of_lt hlt0))⟩
end Go.Proofs.YtbidnbcclibigaaDoor
