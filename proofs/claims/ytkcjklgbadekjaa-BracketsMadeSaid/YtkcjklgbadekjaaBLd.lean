/-
  The law BracketsMade: a winner that is none, a winner too many. No condition.
-/
import Derived.Test.YtkcjklgbadekjaaBLc
namespace Go.Proofs.Ytkcjklgbadekjaa
open Go.RowKit Go.Bw

def BK (n₀ : Nat) (w0 : World) (many a1 a2 : Int) (q : Bool) (a : Act) (w : World) : Prop :=
  ∃ (B : Nat) (s7 : Value) (l7 : List Int), l7.length ≤ 40 ∧ (q = true → 0 < l7.length) ∧ GenS n₀ B w0 w 101 s7 l7 ∧ Fr 242 ([(100, .bool q)] ++ BL n₀ many a1 a2 s7 (.slice none 0 0)) a

set_option maxRecDepth 100000 in
set_option maxHeartbeats 1000000 in
theorem bl20 (n₀ : Nat) (w0 : World) (many a1 a2 : Int) : Tri Try.prog (B2 n₀ w0 many a1 a2 100 40 []) (sel [1, 1, 1, 1, 1, 0, 0] bm) (fun a w => ∃ q, BK n₀ w0 many a1 a2 q a w) := by
  rintro Q J K hJ hK a w ⟨B, s7, l7, hl, hG, ⟨f, rfl, h3, h4, h5, h6, h7, h8, _⟩⟩
  rw [frame242, show f 3 = _ from h3, show f 4 = _ from h4, show f 5 = _ from h5, show f 6 = _ from h6, show f 7 = _ from h7, show f 8 = _ from h8]
  clear h3 h4 h5 h6 h7 h8
  conv => arg 2; whnf
  obtain ⟨p7, q7, rfl⟩ := hG.slice
  by_cases h3 : 0 < l7.length
  · go_wp2_with (go_at_call 10; refine (flip_small n₀ _ _ _ hG.str rfl (by decide)).mono ?_; rintro e w5 ⟨q, rfl, hS5, hg5⟩; replace hG := hG.drawn hS5 hg5)
    refine Met.intro (hJ _ _ ?_)
    exact ⟨q, _, _, l7, hl, fun _ => h3, hG, Fr.of _ rfl ⟨rfl, rfl, rfl, rfl, rfl, rfl, rfl, trivial⟩⟩
  · go_wp2
    refine Met.intro (hJ _ _ ?_)
    exact ⟨false, _, _, l7, hl, fun h => by simp at h, hG.mono (by decide), Fr.of _ rfl ⟨rfl, rfl, rfl, rfl, rfl, rfl, rfl, trivial⟩⟩

set_option maxRecDepth 100000 in
set_option maxHeartbeats 1000000 in
theorem bl21 (n₀ : Nat) (w0 : World) (many a1 a2 : Int) : Tri Try.prog (BK n₀ w0 many a1 a2 true) (sel [1, 1, 1, 1, 1, 0, 1, 2] bm) (B2 n₀ w0 many a1 a2 110 40 []) := by
  rintro Q J K hJ hK a w ⟨B, s7, l7, hl, hp, hG, ⟨f, rfl, h100, h3, h4, h5, h6, h7, h8, _⟩⟩
  rw [frame242, show f 100 = _ from h100, show f 3 = _ from h3, show f 4 = _ from h4, show f 5 = _ from h5, show f 6 = _ from h6, show f 7 = _ from h7, show f 8 = _ from h8]
  clear h100 h3 h4 h5 h6 h7 h8
  conv => arg 2; whnf
  replace hp := hp rfl
  obtain ⟨g, c, rfl⟩ := hG.blk hp
  obtain ⟨_, _, hnc, hcm⟩ := owns_sizes hG.row
  have hpi : (1 : Int) ≤ l7.length := by omega
  go_wp2_with first
    | (go_at_call 11; refine (next_small n₀ _ _ _ hG.str hpi (by omega) (by decide)).mono ?_; rintro e w5 ⟨r, rfl, hr0, hr1, hS5, hg5⟩; replace hG := hG.drawn hS5 hg5; clear hg5)
    | ((go_at_call 12; refine (odd_any n₀ _ _ _ _ (by decide) (by decide) (by decide) hG.str (by decide)).mono ?_; rintro e w6 ⟨x, rfl, hS6, hg6⟩; replace hG := hG.drawn hS6 hg6); clear hg6; obtain ⟨hc, hf⟩ := hG.cell r hr0 hr1)
  refine Met.intro (hJ _ _ ?_)
  exact ⟨B, _, l7.set r.toNat x, by rw [List.length_set]; exact hl, (hG.set r.toNat (by omega) x).mono (by decide), Fr.of _ rfl ⟨rfl, rfl, rfl, rfl, by rw [List.length_set]; rfl, rfl, trivial⟩⟩

set_option maxRecDepth 100000 in
set_option maxHeartbeats 1000000 in
theorem bl22 (n₀ : Nat) (w0 : World) (many a1 a2 : Int) : Tri Try.prog (B2 n₀ w0 many a1 a2 110 40 []) (sel [1, 1, 1, 1, 1, 1, 0, 0] bm) (fun a w => ∃ q, B2 n₀ w0 many a1 a2 111 40 [(110, .bool q)] a w) := by
  rintro Q J K hJ hK a w ⟨B, s7, l7, hl, hG, ⟨f, rfl, h3, h4, h5, h6, h7, h8, _⟩⟩
  rw [frame242, show f 3 = _ from h3, show f 4 = _ from h4, show f 5 = _ from h5, show f 6 = _ from h6, show f 7 = _ from h7, show f 8 = _ from h8]
  clear h3 h4 h5 h6 h7 h8
  conv => arg 2; whnf
  go_wp2_with (go_at_call 10; refine (flip_small n₀ _ _ _ hG.str rfl (by decide)).mono ?_; rintro e w5 ⟨q, rfl, hS5, hg5⟩; replace hG := hG.drawn hS5 hg5)
  refine Met.intro (hJ _ _ ?_)
  exact ⟨q, _, _, l7, hl, hG, Fr.of _ rfl ⟨rfl, rfl, rfl, rfl, rfl, rfl, rfl, trivial⟩⟩

set_option maxRecDepth 100000 in
set_option maxHeartbeats 1000000 in
theorem bl23 (n₀ : Nat) (w0 : World) (many a1 a2 : Int) : Tri Try.prog (B2 n₀ w0 many a1 a2 111 40 [(110, .bool true)]) (sel [1, 1, 1, 1, 1, 1, 0, 1, 2] bm) (B2 n₀ w0 many a1 a2 120 41 []) := by
  rintro Q J K hJ hK a w ⟨B, s7, l7, hl, hG, ⟨f, rfl, h110, h3, h4, h5, h6, h7, h8, _⟩⟩
  rw [frame242, show f 110 = _ from h110, show f 3 = _ from h3, show f 4 = _ from h4, show f 5 = _ from h5, show f 6 = _ from h6, show f 7 = _ from h7, show f 8 = _ from h8]
  clear h110 h3 h4 h5 h6 h7 h8
  conv => arg 2; whnf
  have hE := el_int
  obtain ⟨p7, q7, rfl⟩ := hG.slice
  go_wp2_with first
    | (go_at_call 7; refine (range_small n₀ _ _ _ _ hG.str rfl).mono ?_; rintro e w2 ⟨x, rfl, _, hS2, hg2⟩; replace hG := hG.drawn hS2 hg2; clear hg2)
    | (at_builtin; refine app_law rfl _ _ _ rfl hE (hG.row.alloc _) rfl [.int .i64 x] rfl rfl (cells_new _ #[_] _) (by simp [Value.oneCell']) (by omega) (by have := hG.hs; simp; omega) ?_; intro v' w2 hown3 hgr)
  refine Met.intro (hJ _ _ ?_)
  exact ⟨B, v', l7 ++ [x], by simp; omega, ((hG.alloc _).app hown3 hgr).mono (by decide), Fr.of _ rfl ⟨rfl, rfl, rfl, rfl, rfl, rfl, trivial⟩⟩
end Go.Proofs.Ytkcjklgbadekjaa
