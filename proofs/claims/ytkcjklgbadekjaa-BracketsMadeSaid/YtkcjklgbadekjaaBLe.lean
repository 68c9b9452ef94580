/-
  The law BracketsMade: who is left. No condition.
-/
import Derived.Test.YtkcjklgbadekjaaBLd
namespace Go.Proofs.Ytkcjklgbadekjaa
open Go.RowKit Go.Bw

/-- The winners are held in slot 7; who is left lies in slot 8. -/
def B3 (n₀ : Nat) (w0 : World) (many a1 a2 : Int) (s7 : Value) (l7 : List Int) (b m : Nat) (ex : List (Nat × Value)) (a : Act) (w : World) : Prop :=
  ∃ (B : Nat) (s8 : Value) (l8 : List Int), l8.length ≤ m ∧ GenS n₀ B w0 w b s8 l8 ∧ Held n₀ B w 1 l7.length s7 (l7.map (.int .i64)) ∧ Fr 242 (ex ++ BL n₀ many a1 a2 s7 s8) a

/-- Who is left, at the head of the loop: k of m were asked. -/
def BM (n₀ : Nat) (w0 : World) (many a1 a2 : Int) (s7 : Value) (l7 : List Int) (m k : Int) (a : Act) (w : World) : Prop :=
  0 ≤ k ∧ k ≤ m ∧ m ≤ 9 ∧ B3 n₀ w0 many a1 a2 s7 l7 (121 + k.toNat) k.toNat [(117, .int .i64 m), (118, .int .i64 k)] a w

set_option maxRecDepth 100000 in
set_option maxHeartbeats 1000000 in
theorem bl24 (n₀ : Nat) (w0 : World) (many a1 a2 : Int) : Tri Try.prog (B2 n₀ w0 many a1 a2 120 41 []) (sel [1, 1, 1, 1, 1, 1, 1, 0, 0] bm)
    (fun a w => ∃ s7 l7, l7.length ≤ 41 ∧ ∃ m, BM n₀ w0 many a1 a2 s7 l7 m 0 a w) := by
  rintro Q J K hJ hK a w ⟨B, s7, l7, hl, hG, ⟨f, rfl, h3, h4, h5, h6, h7, h8, _⟩⟩
  rw [frame242, show f 3 = _ from h3, show f 4 = _ from h4, show f 5 = _ from h5, show f 6 = _ from h6, show f 7 = _ from h7, show f 8 = _ from h8]
  clear h3 h4 h5 h6 h7 h8
  conv => arg 2; whnf
  have hH := hG.held
  replace hG := hG.again
  go_wp2_with (go_at_call 7; refine (range_small n₀ _ _ _ _ hG.str rfl).mono ?_; rintro e w2 ⟨x, rfl, ⟨hx0, hx1⟩, hS2, hg2⟩; replace hG := hG.drawn hS2 hg2; replace hH := hH.str hg2; clear hg2)
  refine Met.intro (hJ _ _ ?_)
  exact ⟨_, l7, hl, x, by omega, hx0, hx1, _, _, [], by simp, hG, hH, Fr.of _ rfl ⟨rfl, rfl, rfl, rfl, rfl, rfl, rfl, rfl, trivial⟩⟩

set_option maxRecDepth 100000 in
set_option maxHeartbeats 1000000 in
theorem blE_round (n₀ : Nat) (w0 : World) (many a1 a2 : Int) (s7 : Value) (l7 : List Int) (m : Int) :
    Rnd Try.prog (fun n a w => ∃ k : Int, (n : Int) = m - k ∧ BM n₀ w0 many a1 a2 s7 l7 m k a w) 4 (sel [1, 1, 1, 1, 1, 1, 1, 0, 1, 4, 4] bm) (BM n₀ w0 many a1 a2 s7 l7 m m) := by
  rintro n Q J J' K hJ hK hX hE a w ⟨k, hn, hk0, hk1, hm, B, s8, l8, hl, hG, hH, ⟨f, rfl, h117, h118, h3, h4, h5, h6, h7, h8, _⟩⟩
  rw [frame242, show f 117 = _ from h117, show f 118 = _ from h118, show f 3 = _ from h3, show f 4 = _ from h4, show f 5 = _ from h5, show f 6 = _ from h6, show f 7 = _ from h7, show f 8 = _ from h8]
  clear h117 h118 h3 h4 h5 h6 h7 h8
  conv => arg 2; whnf
  have hE := el_int
  have HJ := Lib.hid hJ
  have HX := Lib.hid hX
  clear hJ hX
  by_cases hlt : k < m
  · have hkl : (121 + k.toNat) ≤ 1000000 := by omega
    obtain ⟨p8, q8, rfl⟩ := hG.slice
    go_upto_if 123 with (go_at_call 10; refine (flip_small n₀ _ _ _ hG.str rfl hkl).mono ?_; rintro e w5 ⟨q, rfl, hS5, hg5⟩; replace hG := hG.drawn hS5 hg5; replace hH := hH.str hg5; clear hg5)
    cases q
    · go_wp2_with (at_builtin; refine app_law rfl _ _ _ rfl hE (hG.row.alloc _) rfl [.int .i64 (k + 1)] rfl rfl (cells_new _ #[_] _) (by simp [Value.oneCell']) (by omega) (by have := hG.hs; simp; omega) ?_; intro v' w2 hown3 hgr)
      refine Met.intro (HJ.out (n - 1) _ _ (by omega) ⟨k + 1, by omega, by omega, by omega, hm, B, v', l8 ++ [k + 1], by simp; omega, ((hG.alloc _).app hown3 hgr).mono (by omega), (hH.alloc _).app (hG.row.alloc _) hgr, Fr.of _ rfl ⟨rfl, rfl, rfl, rfl, rfl, rfl, rfl, rfl, trivial⟩⟩)
    · go_wp2
      refine Met.intro (HJ.out (n - 1) _ _ (by omega) ⟨k + 1, by omega, by omega, by omega, hm, B, _, l8, by omega, hG.mono (by omega), hH, Fr.of _ rfl ⟨rfl, rfl, rfl, rfl, rfl, rfl, rfl, rfl, trivial⟩⟩)
  · have hkk : k = m := by omega
    subst hkk
    go_wp2
    exact Met.intro (HX.out _ _ ⟨hk0, hk1, hm, B, s8, l8, hl, hG, hH, Fr.of _ rfl ⟨rfl, rfl, rfl, rfl, rfl, rfl, rfl, rfl, trivial⟩⟩)

set_option maxRecDepth 100000 in
set_option maxHeartbeats 1000000 in
theorem bl30 (n₀ : Nat) (w0 : World) (many a1 a2 : Int) (s7 : Value) (l7 : List Int) (m : Int) : Tri Try.prog (BM n₀ w0 many a1 a2 s7 l7 m m) (sel [1, 1, 1, 1, 1, 1, 1, 1, 0, 0] bm) (fun a w => ∃ q, B3 n₀ w0 many a1 a2 s7 l7 140 10 [(131, .bool q)] a w) := by
  rintro Q J K hJ hK a w ⟨hk0, hk1, hm, B, s8, l8, hl, hG, hH, ⟨f, rfl, h117, h118, h3, h4, h5, h6, h7, h8, _⟩⟩
  rw [frame242, show f 117 = _ from h117, show f 118 = _ from h118, show f 3 = _ from h3, show f 4 = _ from h4, show f 5 = _ from h5, show f 6 = _ from h6, show f 7 = _ from h7, show f 8 = _ from h8]
  clear h117 h118 h3 h4 h5 h6 h7 h8
  conv => arg 2; whnf
  replace hG := hG.mono (b' := 130) (by omega)
  go_wp2_with (go_at_call 10; refine (flip_small n₀ _ _ _ hG.str rfl (by decide)).mono ?_; rintro e w5 ⟨q, rfl, hS5, hg5⟩; replace hG := hG.drawn hS5 hg5; replace hH := hH.str hg5; clear hg5)
  refine Met.intro (hJ _ _ ?_)
  exact ⟨q, _, _, l8, by omega, hG.mono (by decide), hH, Fr.of _ rfl ⟨rfl, rfl, rfl, rfl, rfl, rfl, rfl, trivial⟩⟩

set_option maxRecDepth 100000 in
set_option maxHeartbeats 1000000 in
theorem bl31 (n₀ : Nat) (w0 : World) (many a1 a2 : Int) (s7 : Value) (l7 : List Int) : Tri Try.prog (B3 n₀ w0 many a1 a2 s7 l7 140 10 [(131, .bool true)]) (sel [1, 1, 1, 1, 1, 1, 1, 1, 0, 1, 2] bm) (B3 n₀ w0 many a1 a2 s7 l7 150 11 []) := by
  rintro Q J K hJ hK a w ⟨B, s8, l8, hl, hG, hH, ⟨f, rfl, h131, h3, h4, h5, h6, h7, h8, _⟩⟩
  rw [frame242, show f 131 = _ from h131, show f 3 = _ from h3, show f 4 = _ from h4, show f 5 = _ from h5, show f 6 = _ from h6, show f 7 = _ from h7, show f 8 = _ from h8]
  clear h131 h3 h4 h5 h6 h7 h8
  conv => arg 2; whnf
  have hE := el_int
  obtain ⟨p8, q8, rfl⟩ := hG.slice
  go_wp2_with first
    | ((go_at_call 12; refine (odd_any n₀ _ _ _ _ (by decide) (by decide) (by decide) hG.str (by decide)).mono ?_; rintro e w6 ⟨x, rfl, hS6, hg6⟩; replace hG := hG.drawn hS6 hg6); replace hH := hH.str hg6; clear hg6)
    | (at_builtin; refine app_law rfl _ _ _ rfl hE (hG.row.alloc _) rfl [.int .i64 x] rfl rfl (cells_new _ #[_] _) (by simp [Value.oneCell']) (by omega) (by have := hG.hs; simp; omega) ?_; intro v' w2 hown3 hgr)
  refine Met.intro (hJ _ _ ?_)
  exact ⟨B, v', l8 ++ [x], by simp; omega, ((hG.alloc _).app hown3 hgr).mono (by decide), (hH.alloc _).app (hG.row.alloc _) hgr, Fr.of _ rfl ⟨rfl, rfl, rfl, rfl, rfl, rfl, trivial⟩⟩
end Go.Proofs.Ytkcjklgbadekjaa
