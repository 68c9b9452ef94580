/-
  Fractions as texts: the program's and the reference's. Conditions: Go's numbers; the library's table of powers of ten reads as it is laid.
-/
import Derived.Test.YtbidnbcclibigaaDoorMix
import Derived.Test.YtbidnbcclibigaaDoorShelf
import Derived.Lib.ItoaLen
import Derived.Deep.DeepCutAuto
namespace Go.Proofs.YtbidnbcclibigaaDoor
open Go.RowKit Go.Bw
/-- The library's table of powers of ten. -/
def Tab (w : World) : Prop := Lib.TabIs Tryd.prog w "internal/strconv.uint64pow10" .u64 Lib.pow10Tab
theorem Tab.below {w w' : World} (h : Tab w) (b : Below w.heap.size w w') : Tab w' := by
  unfold Tab Lib.TabIs World.var? at *
  cases hg : Tryd.prog.globalNamed "internal/strconv.uint64pow10" with
  | none => simp [hg] at h
  | some g =>
    simp only [hg, Option.bind_some] at h ⊢
    have hlt : g < w.heap.size := by
      rcases Nat.lt_or_ge g w.heap.size with h' | h'
      · exact h'
      · rw [Array.getElem?_eq_none h'] at h; simp at h
    rw [b.block g hlt]
    exact h
theorem below_news (w : World) (k : Nat) (os : Array Obj) : Below w.heap.size w (Sort.grow (w.drewN k) os) := by
  refine ⟨rfl, rfl, rfl, ?_, fun j hj => ?_⟩
  · show w.heap.size ≤ (w.heap ++ os).size
    rw [Array.size_append]; omega
  · show (w.heap ++ os)[j]? = w.heap[j]?
    rw [Array.getElem?_append_left hj]
def numT (n : Int) : ByteArray := ⟨(Lib.itoa n).toArray⟩
theorem itoa_any (n : Int) (h0 : -9223372036854775808 ≤ n) (h1 : n ≤ 9223372036854775807) (w : World) (h : Tab w) :
    Calls Tryd.prog 51 #[.int .i64 n] w fun e w' => e = .returned (.string (numT n)) ∧ Below w.heap.size w w' := by
  refine (Tryd.strconv_Itoa n h0 h1 w h).mono ?_
  rintro e w' ⟨rfl, k, os, rfl⟩
  exact ⟨rfl, below_news w k os⟩
theorem numT_size (n : Int) (h0 : -9223372036854775808 ≤ n) (h1 : n ≤ 9223372036854775807) : (numT n).size ≤ 21 := by
  have := Lib.itoa_length_le n h0 h1
  show (Lib.itoa n).toArray.size ≤ 21
  simpa using this
def fracT (a b : Int) : ByteArray := numT a ++ ⟨#[47]⟩ ++ numT b

set_option maxRecDepth 100000 in
set_option maxHeartbeats 1000000 in
theorem ratio_prog (a b : Int) (a0 : -9223372036854775808 ≤ a) (a1 : a ≤ 9223372036854775807) (b0 : -9223372036854775808 ≤ b) (b1 : b ≤ 9223372036854775807) (w : World) (h : Tab w) :
    Calls Tryd.prog 32 #[.agg #[.int .i64 a, .int .i64 b]] w fun e w' => e = .returned (.string (fracT a b)) ∧ Below w.heap.size w w' := by
  have hb1 := (Below.refl w.heap.size w).alloc (Nat.le_refl _) (.cells #[.int .i64 a, .int .i64 b] 36)
  have c0 := cells_new w #[.int .i64 a, .int .i64 b] 36 0 _ rfl
  have c1 := cells_new w #[.int .i64 a, .int .i64 b] 36 1 _ rfl
  have hT : Tab (w.alloc (.cells #[.int .i64 a, .int .i64 b] 36)) := h.below hb1
  go_enter Tryd.func32, Tryd.ntmps32
  go_upto_region 1 with fail
  generalize w.alloc (.cells #[.int .i64 a, .int .i64 b] 36) = w₁ at *
  have hgz := hb1.size
  generalize hg : w.heap.size = g at *
  have Hg := Lib.hid hg
  clear hg
  have l1 := numT_size a a0 a1
  have l2 := numT_size b b0 b1
  have l3 : ¬ 9223372036854775807 < (numT a).size + 1 := by omega
  have l4 : ¬ 9223372036854775807 < (numT a).size + 1 + (numT b).size := by omega
  clear l1 l2
  refine wp_region_mix none [(true, 0), (true, 1), (true, 4), (true, 5), (false, 2), (true, 3), (false, 6), (true, 7), (true, 8)] (by kernel_rfl) (by kernel_rfl) (by intro c a d v w h; cases d <;> exact h) ?_
  simp only [pickFlat, List.filterMap_cons, List.filterMap_nil, List.getElem?_cons_succ, List.getElem?_cons_zero, Option.map_some]
  have A0 := wof_at (w₁ := w₁.drew) (row := none) (a := ⟨g, 0, none⟩) c0 (by simp)
  have A1 := wof_at (w₁ := w₁.drew) (row := none) (a := ⟨g, 1, none⟩) c1 (by simp)
  refine flat_hide (fun W hH hC hN hE => ?_)
  iterate 4 (refine hH.out _ _ _ _ (fun K hK => ?_); go_simp; refine hK _ ?_; clear hK K)
  refine hC.out _ _ _ _ rfl (fun K hK => ?_)
  simp only [bare]
  go_wp2_with fail
  refine (itoa_any a a0 a1 w₁.drew hT).mono ?_
  rintro e w2 ⟨rfl, hb2⟩
  go_wp2_with fail
  refine hK.out _ _ (grown_of_below hb2) ?_
  clear hK K
  iterate 1 (refine hH.out _ _ _ _ (fun K hK => ?_); go_simp; refine hK _ ?_; clear hK K)
  refine hC.out _ _ _ _ rfl (fun K hK => ?_)
  simp only [bare]
  go_wp2_with fail
  refine (itoa_any b b0 b1 w2 (Tab.below (w := w₁.drew) hT hb2)).mono ?_
  rintro e w3 ⟨rfl, hb3⟩
  go_wp2_with fail
  refine hK.out _ _ (grown_of_below (hb2.trans (hb3.mono hb2.size))) ?_
  clear hK K
  iterate 2 (refine hH.out _ _ _ _ (fun K hK => ?_); go_simp; refine hK _ ?_; clear hK K)
  refine hE.out _ _ ?_
  clear hH hC hN hE W
  go_wp2_with fail
  go_ret
  exact ⟨rfl, by rw [Hg.out]; exact (hb1.trans (below_drewN (Below.refl _ _) 1)).trans ((hb2.trans (hb3.mono hb2.size)).mono hgz)⟩
set_option maxRecDepth 100000 in
set_option maxHeartbeats 1000000 in
theorem ratio_ref (a b : Int) (a0 : -9223372036854775808 ≤ a) (a1 : a ≤ 9223372036854775807) (b0 : -9223372036854775808 ≤ b) (b1 : b ≤ 9223372036854775807) (w : World) (h : Tab w) :
    Calls Tryd.prog 40 #[.agg #[.int .i64 a, .int .i64 b]] w fun e w' => e = .returned (.string (fracT a b)) ∧ Below w.heap.size w w' := by
  have hb1 := (Below.refl w.heap.size w).alloc (Nat.le_refl _) (.cells #[.int .i64 a, .int .i64 b] 36)
  have c0 := cells_new w #[.int .i64 a, .int .i64 b] 36 0 _ rfl
  have c1 := cells_new w #[.int .i64 a, .int .i64 b] 36 1 _ rfl
  have hT : Tab (w.alloc (.cells #[.int .i64 a, .int .i64 b] 36)) := h.below hb1
  go_enter Tryd.func40, Tryd.ntmps40
  go_upto_region 1 with fail
  generalize w.alloc (.cells #[.int .i64 a, .int .i64 b] 36) = w₁ at *
  have hgz := hb1.size
  generalize hg : w.heap.size = g at *
  have Hg := Lib.hid hg
  clear hg
  have l1 := numT_size a a0 a1
  have l2 := numT_size b b0 b1
  have l3 : ¬ 9223372036854775807 < (numT a).size + 1 := by omega
  have l4 : ¬ 9223372036854775807 < (numT a).size + 1 + (numT b).size := by omega
  clear l1 l2
  refine wp_region_mix none [(true, 0), (true, 1), (true, 4), (true, 5), (false, 2), (true, 3), (false, 6), (true, 7), (true, 8)] (by kernel_rfl) (by kernel_rfl) (by intro c a d v w h; cases d <;> exact h) ?_
  simp only [pickFlat, List.filterMap_cons, List.filterMap_nil, List.getElem?_cons_succ, List.getElem?_cons_zero, Option.map_some]
  have A0 := wof_at (w₁ := w₁.drew) (row := none) (a := ⟨g, 0, none⟩) c0 (by simp)
  have A1 := wof_at (w₁ := w₁.drew) (row := none) (a := ⟨g, 1, none⟩) c1 (by simp)
  refine flat_hide (fun W hH hC hN hE => ?_)
  iterate 4 (refine hH.out _ _ _ _ (fun K hK => ?_); go_simp; refine hK _ ?_; clear hK K)
  refine hC.out _ _ _ _ rfl (fun K hK => ?_)
  simp only [bare]
  go_wp2_with fail
  refine (itoa_any a a0 a1 w₁.drew hT).mono ?_
  rintro e w2 ⟨rfl, hb2⟩
  go_wp2_with fail
  refine hK.out _ _ (grown_of_below hb2) ?_
  clear hK K
  iterate 1 (refine hH.out _ _ _ _ (fun K hK => ?_); go_simp; refine hK _ ?_; clear hK K)
  refine hC.out _ _ _ _ rfl (fun K hK => ?_)
  simp only [bare]
  go_wp2_with fail
  refine (itoa_any b b0 b1 w2 (Tab.below (w := w₁.drew) hT hb2)).mono ?_
  rintro e w3 ⟨rfl, hb3⟩
  go_wp2_with fail
  refine hK.out _ _ (grown_of_below (hb2.trans (hb3.mono hb2.size))) ?_
  clear hK K
  iterate 2 (refine hH.out _ _ _ _ (fun K hK => ?_); go_simp; refine hK _ ?_; clear hK K)
  refine hE.out _ _ ?_
  clear hH hC hN hE W
  go_wp2_with fail
  go_ret
  exact ⟨rfl, by rw [Hg.out]; exact (hb1.trans (below_drewN (Below.refl _ _) 1)).trans ((hb2.trans (hb3.mono hb2.size)).mono hgz)⟩
end Go.Proofs.YtbidnbcclibigaaDoor
