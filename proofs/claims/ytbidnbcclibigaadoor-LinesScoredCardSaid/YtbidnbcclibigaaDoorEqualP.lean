/-
  slices.Equal at names with values: equal lists are told equal. Condition: fewer than 2^40 of them.
-/
import Derived.Test.YtbidnbcclibigaaDoorParts
import Derived.Laws.StructEq
namespace Go.Proofs.YtbidnbcclibigaaDoor
open Go.RowKit Go.Bw
set_option maxRecDepth 100000 in
set_option maxHeartbeats 1000000 in
theorem equal_pairL (v1 v2 : Value) (n : Nat) (l : List PairL) (b1 b2 : Nat) (w : World) (h1 : Row w b1 2 v1 n (cellsOf encPr l)) (h2 : Row w b2 2 v2 n (cellsOf encPr l)) (hn : n ≤ 1099511627776) :
    Calls Tryd.prog 18 #[v1, v2] w fun e w' => e = .returned (.bool true) ∧ Below w.heap.size w w' := by
  obtain ⟨hl1, hc1⟩ := h1.els encPr_length (by decide)
  obtain ⟨hl2, hc2⟩ := h2.els encPr_length (by decide)
  obtain ⟨a1, cap1, hv1⟩ := h1.shape
  obtain ⟨a2, cap2, hv2⟩ := h2.shape
  subst hv1
  subst hv2
  clear h1 h2 hl2 hl1
  have hbn : ((n : Int) != n) = false := by simp
  go_enter Tryd.func18, Tryd.ntmps18
  go_wp2
  go_loopw [13] (fun i wr => ∃ k : Int, 0 ≤ k ∧ k ≤ n ∧ i = .int .i64 k ∧ Below w.heap.size w wr) (fun i _ => n - (intOf i).toNat)
  case atStart => exact ⟨0, by omega, by omega, rfl, Below.refl _ _⟩
  case round =>
    obtain ⟨k, hk0, hk1, rfl, hb⟩ := hrel
    by_cases hlt : k < n
    · rcases hc1 with ⟨h, h0⟩ | ⟨bz1, off1, cap1', h, hbb1, hbs1, hnc1, hcm1, hcell1⟩
      · omega
      rcases hc2 with ⟨h', h0⟩ | ⟨bz2, off2, cap2', h', hbb2, hbs2, hnc2, hcm2, hcell2⟩
      · omega
      simp only [Value.slice.injEq] at h h'
      obtain ⟨rfl, _, rfl⟩ := h
      obtain ⟨rfl, _, rfl⟩ := h'
      have r1 := (hb.cell (p := ⟨bz1, off1 + k.toNat * 2 + 0, none⟩) hbs1).trans (hcell1 k hk0 hlt 0 _ rfl)
      have r2 := (hb.cell (p := ⟨bz1, off1 + k.toNat * 2 + 1, none⟩) hbs1).trans (hcell1 k hk0 hlt 1 _ rfl)
      have s1 := (hb.cell (p := ⟨bz2, off2 + k.toNat * 2 + 0, none⟩) hbs2).trans (hcell2 k hk0 hlt 0 _ rfl)
      have s2 := (hb.cell (p := ⟨bz2, off2 + k.toNat * 2 + 1, none⟩) hbs2).trans (hcell2 k hk0 hlt 1 _ rfl)
      rw [Nat.add_zero] at r1 s1
      generalize (geta l k).name = x at *
      generalize (geta l k).val = y at *
      clear hcell1 hcell2
      have hkn : k ≤ 1099511627776 := by omega
      go_wp2
      go_quiet (fail)
      go_wp2
      go_roundw
      case rel => exact ⟨k + 1, by omega, by omega, rfl, below_drewN hb _⟩
      case measure => simp [intOf]; omega
    · clear hc1 hc2
      go_wp2
      go_ret
      exact ⟨rfl, hb⟩
end Go.Proofs.YtbidnbcclibigaaDoor
