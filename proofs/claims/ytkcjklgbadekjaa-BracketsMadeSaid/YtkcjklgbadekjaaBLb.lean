/-
  The law BracketsMade: the winners of the first games. No condition.
-/
import Derived.Test.YtkcjklgbadekjaaBLa
namespace Go.Proofs.Ytkcjklgbadekjaa
open Go.RowKit Go.Bw

def BN (n₀ : Nat) (w0 : World) (many a1 a2 : Int) (ex : List (Nat × Value)) (a : Act) (w : World) : Prop :=
  Str n₀ w 3 ∧ Below n₀ w0 w ∧ Fr 242 (ex ++ BL n₀ many a1 a2 (.slice none 0 0) (.slice none 0 0)) a

/-- k of the games gs have been looked at. -/
def BG (n₀ : Nat) (w0 : World) (many a1 a2 : Int) (gs : List (Int × Int)) (k : Int) (a : Act) (w : World) : Prop :=
  ∃ (B : Nat) (s7 : Value) (l7 : List Int) (v : Value), 0 ≤ k ∧ k ≤ gs.length ∧ (l7.length : Int) = k ∧ GenS n₀ B w0 w (3 + k.toNat) s7 l7 ∧ Held n₀ B w 2 gs.length v (cells2 gs) ∧
    Fr 242 ([(48, v), (49, .int .i64 gs.length), (50, .int .i64 k)] ++ BL n₀ many a1 a2 s7 (.slice none 0 0)) a

set_option maxRecDepth 100000 in
set_option maxHeartbeats 1000000 in
theorem bl3' (n₀ : Nat) (w0 : World) (many a1 a2 : Int) :
    Tri Try.prog (fun a w => Fr 242 [(3, .pointer (some ⟨n₀, 0, none⟩)), (4, .int .i64 many), (5, .int .i64 a1), (6, .int .i64 a2)] a ∧ Str n₀ w 3 ∧ Below n₀ w0 w) (sel [1, 1, 1, 0] bm) (BN n₀ w0 many a1 a2 []) := by
  rintro Q J K hJ hK a w ⟨⟨f, rfl, h3, h4, h5, h6, _⟩, hS, hb⟩
  rw [frame242, show f 3 = _ from h3, show f 4 = _ from h4, show f 5 = _ from h5, show f 6 = _ from h6]
  clear h3 h4 h5 h6
  conv => arg 2; whnf
  go_wp2
  refine Met.intro (hJ _ _ ?_)
  exact ⟨hS, hb, Fr.of _ rfl ⟨rfl, rfl, rfl, rfl, rfl, rfl, trivial⟩⟩

set_option maxRecDepth 100000 in
set_option maxHeartbeats 1000000 in
theorem bl4 (n₀ : Nat) (w0 : World) (many a1 a2 : Int) : Tri Try.prog (BN n₀ w0 many a1 a2 []) (sel [1, 1, 1, 1, 0, 0] bm) (BN n₀ w0 many a1 a2 [(46, .bool (!outB many 2 20))]) := by
  rintro Q J K hJ hK a w ⟨hS, hb, ⟨f, rfl, h3, h4, h5, h6, h7, h8, _⟩⟩
  rw [frame242, show f 3 = _ from h3, show f 4 = _ from h4, show f 5 = _ from h5, show f 6 = _ from h6, show f 7 = _ from h7, show f 8 = _ from h8]
  clear h3 h4 h5 h6 h7 h8
  conv => arg 2; whnf
  cases h : outB many 2 20
  · have hM := manyF_ok h
    have Hh := Lib.hid h
    clear h
    go_wp2_with (go_at_call 8; refine (manyFault_ref many _).mono ?_; rw [hM]; rintro e w4 ⟨rfl, rfl⟩)
    refine Met.intro (hJ _ _ ?_)
    exact ⟨hS, hb, Fr.of _ rfl ⟨by rw [Hh.out]; rfl, rfl, rfl, rfl, rfl, rfl, rfl, trivial⟩⟩
  · have hM := manyF_bad h
    have Hh := Lib.hid h
    clear h
    go_wp2_with (go_at_call 8; refine (manyFault_ref many _).mono ?_; rw [hM]; rintro e w4 ⟨rfl, rfl⟩)
    refine Met.intro (hJ _ _ ?_)
    exact ⟨hS, hb, Fr.of _ rfl ⟨by rw [Hh.out]; rfl, rfl, rfl, rfl, rfl, rfl, rfl, trivial⟩⟩

set_option maxRecDepth 100000 in
set_option maxHeartbeats 1000000 in
theorem bl5 (n₀ : Nat) (w0 : World) (many a1 a2 : Int) (h0 : 2 ≤ many) (h1 : many ≤ 20) : Tri Try.prog (BN n₀ w0 many a1 a2 []) (sel [1, 1, 1, 1, 0, 1, 2, 0, 0] bm) (BG n₀ w0 many a1 a2 (gms many (bracketL many) ((bracketL many).length / 2)) 0) := by
  rintro Q J K hJ hK a w ⟨hS, hb, ⟨f, rfl, h3, h4, h5, h6, h7, h8, _⟩⟩
  rw [frame242, show f 3 = _ from h3, show f 4 = _ from h4, show f 5 = _ from h5, show f 6 = _ from h6, show f 7 = _ from h7, show f 8 = _ from h8]
  clear h3 h4 h5 h6 h7 h8
  conv => arg 2; whnf
  have hlt := hS.lt
  have hle : (gms many (bracketL many) ((bracketL many).length / 2)).length = (bracketL many).length / 2 := by rw [gms_length]; omega
  go_wp2_with (go_at_call 9; refine (firstGames_any many _ h0 h1).mono ?_; rw [← hle]; generalize gms many (bracketL many) ((bracketL many).length / 2) = gs at *; rintro e w4 ⟨v, rfl, hown, hbel⟩; have hH := Held.of_owns (n₀ := n₀) hown hlt; obtain ⟨p, c, rfl⟩ := hH.slice; clear hle hown)
  refine Met.intro (hJ _ _ ?_)
  exact ⟨_, _, [], _, Int.le_refl _, by omega, rfl, GenS.nil (hb.trans (hbel.mono (Nat.le_of_lt hlt))) (hS.below hbel), hH, Fr.of _ rfl ⟨rfl, rfl, rfl, rfl, rfl, rfl, rfl, rfl, rfl, trivial⟩⟩

theorem flip_small (B b : Nat) (n : Int) (w : World) (hS : Str B w b) (hn : decide (n ≤ 1000) = true) (hb : b ≤ 1000000) :
    Calls Try.prog 10 #[.pointer (some ⟨B, 0, none⟩), .int .i64 n] w fun e w' => ∃ r : Bool, e = .returned (.bool r) ∧ Str B w' (b + 1) ∧ w.grownBy w' (some B) :=
  flip_any B b n w (by have := of_decide_eq_true hn; omega) hS (by omega)

set_option maxRecDepth 100000 in
set_option maxHeartbeats 1000000 in
theorem blA_round (n₀ : Nat) (w0 : World) (many a1 a2 : Int) (gs : List (Int × Int)) (hgs : gs.length ≤ 32) :
    Rnd Try.prog (fun n a w => ∃ k : Int, (n : Int) = gs.length - k ∧ BG n₀ w0 many a1 a2 gs k a w) 0 (sel [1, 1, 1, 1, 0, 1, 2, 0, 1, 4, 4] bm) (BG n₀ w0 many a1 a2 gs gs.length) := by
  rintro n Q J J' K hJ hK hX hE a w ⟨k, hn, B, s7, l7, v, hk0, hk1, hl, hG, hH, ⟨f, rfl, h48, h49, h50, h3, h4, h5, h6, h7, h8, _⟩⟩
  rw [frame242, show f 48 = _ from h48, show f 49 = _ from h49, show f 50 = _ from h50, show f 3 = _ from h3, show f 4 = _ from h4, show f 5 = _ from h5, show f 6 = _ from h6, show f 7 = _ from h7, show f 8 = _ from h8]
  clear h48 h49 h50 h3 h4 h5 h6 h7 h8
  conv => arg 2; whnf
  have hE := el_int
  have HJ := Lib.hid hJ
  have HX := Lib.hid hX
  clear hJ hX
  by_cases hlt : k < gs.length
  · obtain ⟨_, hc⟩ := row_pairs hH.row
    rcases hc with ⟨_, hc⟩ | ⟨b, off, cap, rfl, _, hbs, hnc, hcm, hcell⟩
    · omega
    obtain ⟨c1, c2⟩ := hcell k hk0 hlt
    generalize (getp gs k).1 = x at *
    generalize (getp gs k).2 = y at *
    clear hcell
    have hn0 := hG.str.lt
    have hkl : (3 + k.toNat) ≤ 1000000 := by omega
    obtain ⟨p7, q7, rfl⟩ := hG.slice
    go_upto_region 8 with fail
    have hG2 := hG.alloc (.cells #[.int .i64 x, .int .i64 y] 33)
    have hH2 := hH.alloc (.cells #[.int .i64 x, .int .i64 y] 33)
    have d1 := cells_new w #[.int .i64 x, .int .i64 y] 33 0 _ rfl
    have d2 := cells_new w #[.int .i64 x, .int .i64 y] 33 1 _ rfl
    have hg : w.heap.size < (w.alloc (.cells #[.int .i64 x, .int .i64 y] 33)).heap.size := by simp
    clear hG hH c1 c2 hbs
    generalize w.alloc (.cells #[.int .i64 x, .int .i64 y] 33) = W at *
    generalize w.heap.size = g at *
    have hgn : g ≠ n₀ := by omega
    by_cases hy : 0 < y
    · go_upto_region 11 with (go_at_call 10; refine (flip_small n₀ _ _ _ hG2.str rfl hkl).mono ?_; rintro e w5 ⟨q, rfl, hS5, hg5⟩; replace hG2 := hG2.drawn hS5 hg5; replace hH2 := hH2.str hg5; replace d1 := (World.cell?_of_block (a := ⟨g, 0, none⟩) (hg5.block g hg (by simpa using hgn))).trans d1; replace d2 := (World.cell?_of_block (a := ⟨g, 1, none⟩) (hg5.block g hg (by simpa using hgn))).trans d2; clear hg hg5; cases q)
      · go_wp2_with (at_builtin; refine app_law rfl _ _ _ rfl hE (hG2.row.alloc _) rfl [.int .i64 x] rfl rfl (cells_new _ #[_] _) (by simp [Value.oneCell']) (by omega) (by have := hG2.hs; simp; omega) ?_; intro v' w2 hown3 hgr)
        refine Met.intro (HJ.out (n - 1) _ _ (by omega) ⟨k + 1, by omega, B, v', l7 ++ [x], _, by omega, by omega, by simp; omega, ?_, (hH2.alloc _).app (hG2.row.alloc _) hgr, Fr.of _ rfl ⟨rfl, rfl, rfl, rfl, rfl, rfl, rfl, rfl, rfl, trivial⟩⟩)
        exact ((hG2.alloc _).app hown3 hgr).mono (by omega)
      · go_wp2_with (at_builtin; refine app_law rfl _ _ _ rfl hE (hG2.row.alloc _) rfl [.int .i64 y] rfl rfl (cells_new _ #[_] _) (by simp [Value.oneCell']) (by omega) (by have := hG2.hs; simp; omega) ?_; intro v' w2 hown3 hgr)
        refine Met.intro (HJ.out (n - 1) _ _ (by omega) ⟨k + 1, by omega, B, v', l7 ++ [y], _, by omega, by omega, by simp; omega, ?_, (hH2.alloc _).app (hG2.row.alloc _) hgr, Fr.of _ rfl ⟨rfl, rfl, rfl, rfl, rfl, rfl, rfl, rfl, rfl, trivial⟩⟩)
        exact ((hG2.alloc _).app hown3 hgr).mono (by omega)
    · go_upto_region 11 with fail
      go_wp2_with (at_builtin; refine app_law rfl _ _ _ rfl hE (hG2.row.alloc _) rfl [.int .i64 x] rfl rfl (cells_new _ #[_] _) (by simp [Value.oneCell']) (by omega) (by have := hG2.hs; simp; omega) ?_; intro v' w2 hown3 hgr)
      refine Met.intro (HJ.out (n - 1) _ _ (by omega) ⟨k + 1, by omega, B, v', l7 ++ [x], _, by omega, by omega, by simp; omega, ?_, (hH2.alloc _).app (hG2.row.alloc _) hgr, Fr.of _ rfl ⟨rfl, rfl, rfl, rfl, rfl, rfl, rfl, rfl, rfl, trivial⟩⟩)
      exact ((hG2.alloc _).app hown3 hgr).mono (by omega)
  · have hkk : k = gs.length := by omega
    subst hkk
    go_wp2
    exact Met.intro (HX.out _ _ ⟨B, s7, l7, v, hk0, hk1, hl, hG, hH, Fr.of _ rfl ⟨rfl, rfl, rfl, rfl, rfl, rfl, rfl, rfl, rfl, trivial⟩⟩)
end Go.Proofs.Ytkcjklgbadekjaa
