/-
  The law BracketsMade: the winners of a later round. No condition.
-/
import Derived.Test.YtkcjklgbadekjaaBLb
namespace Go.Proofs.Ytkcjklgbadekjaa
open Go.RowKit Go.Bw

/-- The winners, of whom there are an even number if there are more than three. -/
def BH (n₀ : Nat) (w0 : World) (many a1 a2 : Int) (ex : Nat → List (Nat × Value)) (a : Act) (w : World) : Prop :=
  ∃ (B : Nat) (s7 : Value) (l7 : List Int), l7.length ≤ 32 ∧ (3 < l7.length → l7.length % 2 = 0) ∧ GenS n₀ B w0 w 40 s7 l7 ∧ Fr 242 (ex l7.length ++ BL n₀ many a1 a2 s7 (.slice none 0 0)) a

def BQ (n₀ : Nat) (w0 : World) (many a1 a2 : Int) (q : Bool) (a : Act) (w : World) : Prop :=
  ∃ (B : Nat) (s7 : Value) (l7 : List Int), l7.length ≤ 32 ∧ (q = true → l7.length % 2 = 0) ∧ GenS n₀ B w0 w 41 s7 l7 ∧ Fr 242 ([(76, .bool q)] ++ BL n₀ many a1 a2 s7 (.slice none 0 0)) a

set_option maxRecDepth 100000 in
set_option maxHeartbeats 1000000 in
theorem bl13 (n₀ : Nat) (w0 : World) (many a1 a2 : Int) : Tri Try.prog (BH n₀ w0 many a1 a2 (fun _ => [])) (sel [1, 1, 1, 1, 0, 1, 2, 1, 0] bm) (fun a w => ∃ q, BQ n₀ w0 many a1 a2 q a w) := by
  rintro Q J K hJ hK a w ⟨B, s7, l7, hl, hp, hG, ⟨f, rfl, h3, h4, h5, h6, h7, h8, _⟩⟩
  rw [frame242, show f 3 = _ from h3, show f 4 = _ from h4, show f 5 = _ from h5, show f 6 = _ from h6, show f 7 = _ from h7, show f 8 = _ from h8]
  clear h3 h4 h5 h6 h7 h8
  conv => arg 2; whnf
  obtain ⟨p7, q7, rfl⟩ := hG.slice
  by_cases h3 : 3 < l7.length
  · have Hp := Lib.hid (hp h3)
    clear hp
    have h3i : (3 : Int) < l7.length := by omega
    go_wp2_with (go_at_call 10; refine (flip_small n₀ _ _ _ hG.str rfl (by decide)).mono ?_; rintro e w5 ⟨q, rfl, hS5, hg5⟩; replace hG := hG.drawn hS5 hg5)
    refine Met.intro (hJ _ _ ?_)
    exact ⟨q, _, _, l7, hl, fun _ => Hp.out, hG, Fr.of _ rfl ⟨rfl, rfl, rfl, rfl, rfl, rfl, rfl, trivial⟩⟩
  · clear hp
    go_wp2
    refine Met.intro (hJ _ _ ?_)
    exact ⟨false, _, _, l7, hl, fun h => by simp at h, hG.mono (by decide), Fr.of _ rfl ⟨rfl, rfl, rfl, rfl, rfl, rfl, rfl, trivial⟩⟩

/-- j of the winners have been looked at, two by two. -/
def BJ (n₀ : Nat) (w0 : World) (many a1 a2 : Int) (s7 : Value) (l7 : List Int) (j : Int) (a : Act) (w : World) : Prop :=
  ∃ (B : Nat) (s12 : Value) (l12 : List Int), 0 ≤ j ∧ j ≤ l7.length ∧ 2 * (l12.length : Int) = j ∧ GenS n₀ B w0 w (41 + j.toNat) s12 l12 ∧ Held n₀ B w 1 l7.length s7 (l7.map (.int .i64)) ∧
    Fr 242 ([(12, s12), (13, .int .i64 j)] ++ BL n₀ many a1 a2 s7 (.slice none 0 0)) a

set_option maxRecDepth 100000 in
set_option maxHeartbeats 1000000 in
theorem bl14 (n₀ : Nat) (w0 : World) (many a1 a2 : Int) : Tri Try.prog (BQ n₀ w0 many a1 a2 true) (sel [1, 1, 1, 1, 0, 1, 2, 1, 1, 2, 0] bm)
    (fun a w => ∃ (s7 : Value) (l7 : List Int), l7.length ≤ 32 ∧ l7.length % 2 = 0 ∧ ∃ B, GenS n₀ B w0 w 41 (.slice none 0 0) [] ∧ Held n₀ B w 1 l7.length s7 (l7.map (.int .i64)) ∧ Fr 242 ([(12, .slice none 0 0)] ++ BL n₀ many a1 a2 s7 (.slice none 0 0)) a) := by
  rintro Q J K hJ hK a w ⟨B, s7, l7, hl, hp, hG, ⟨f, rfl, h76, h3, h4, h5, h6, h7, h8, _⟩⟩
  rw [frame242, show f 76 = _ from h76, show f 3 = _ from h3, show f 4 = _ from h4, show f 5 = _ from h5, show f 6 = _ from h6, show f 7 = _ from h7, show f 8 = _ from h8]
  clear h76 h3 h4 h5 h6 h7 h8
  conv => arg 2; whnf
  have Hp := Lib.hid (hp rfl)
  clear hp
  have hH := hG.held
  replace hG := hG.again
  go_wp2
  refine Met.intro (hJ _ _ ?_)
  exact ⟨_, l7, hl, Hp.out, _, hG, hH, Fr.of _ rfl ⟨rfl, rfl, rfl, rfl, rfl, rfl, rfl, trivial⟩⟩

set_option maxRecDepth 100000 in
set_option maxHeartbeats 1000000 in
theorem bl15 (n₀ : Nat) (w0 : World) (many a1 a2 : Int) (s7 : Value) (l7 : List Int) : Tri Try.prog
    (fun a w => ∃ B, GenS n₀ B w0 w 41 (.slice none 0 0) [] ∧ Held n₀ B w 1 l7.length s7 (l7.map (.int .i64)) ∧ Fr 242 ([(12, .slice none 0 0)] ++ BL n₀ many a1 a2 s7 (.slice none 0 0)) a) (sel [1, 1, 1, 1, 0, 1, 2, 1, 1, 2, 1, 0, 0] bm) (BJ n₀ w0 many a1 a2 s7 l7 0) := by
  rintro Q J K hJ hK a w ⟨B, hG, hH, ⟨f, rfl, h12, h3, h4, h5, h6, h7, h8, _⟩⟩
  rw [frame242, show f 12 = _ from h12, show f 3 = _ from h3, show f 4 = _ from h4, show f 5 = _ from h5, show f 6 = _ from h6, show f 7 = _ from h7, show f 8 = _ from h8]
  clear h12 h3 h4 h5 h6 h7 h8
  conv => arg 2; whnf
  go_wp2
  refine Met.intro (hJ _ _ ?_)
  exact ⟨_, _, [], Int.le_refl _, by omega, rfl, hG, hH, Fr.of _ rfl ⟨rfl, rfl, rfl, rfl, rfl, rfl, rfl, rfl, trivial⟩⟩

theorem next_small (B b : Nat) (n : Int) (w : World) (hS : Str B w b) (hn : 1 ≤ n) (hn' : n ≤ 1000) (hb : b ≤ 1000000) :
    Calls Try.prog 11 #[.pointer (some ⟨B, 0, none⟩), .int .i64 n] w fun e w' => ∃ r : Int, e = .returned (.int .i64 r) ∧ 0 ≤ r ∧ r < n ∧ Str B w' (b + 1) ∧ w.grownBy w' (some B) := by
  refine (next_any B b n w (by omega) hS (by omega)).mono ?_
  rintro e w1 ⟨r, rfl, _, hr, h1, h2⟩
  exact ⟨r, rfl, (hr hn).1, (hr hn).2, h1, h2⟩

set_option maxRecDepth 100000 in
set_option maxHeartbeats 1000000 in
theorem blC_round (n₀ : Nat) (w0 : World) (many a1 a2 : Int) (s7 : Value) (l7 : List Int) (hl7 : l7.length ≤ 32) (hev : l7.length % 2 = 0) :
    Rnd Try.prog (fun n a w => ∃ j : Int, (n : Int) = l7.length - j ∧ BJ n₀ w0 many a1 a2 s7 l7 j a w) 2 (sel [1, 1, 1, 1, 0, 1, 2, 1, 1, 2, 1, 0, 1, 4, 4] bm) (BJ n₀ w0 many a1 a2 s7 l7 l7.length) := by
  rintro n Q J J' K hJ hK hX hE a w ⟨j, hn, B, s12, l12, hj0, hj1, hl, hG, hH, ⟨f, rfl, h12, h13, h3, h4, h5, h6, h7, h8, _⟩⟩
  rw [frame242, show f 12 = _ from h12, show f 13 = _ from h13, show f 3 = _ from h3, show f 4 = _ from h4, show f 5 = _ from h5, show f 6 = _ from h6, show f 7 = _ from h7, show f 8 = _ from h8]
  clear h12 h13 h3 h4 h5 h6 h7 h8
  conv => arg 2; whnf
  have hE := el_int
  have HJ := Lib.hid hJ
  have HX := Lib.hid hX
  clear hJ hX
  obtain ⟨p7, q7, rfl⟩ := hH.slice
  by_cases hlt : j < l7.length
  · have hlt1 : j + 1 < l7.length := by omega
    have hkl : (41 + j.toNat) ≤ 1000000 := by omega
    have hl12 : l12.length ≤ 32 := by omega
    have Hl := Lib.hid hl
    have Hv := Lib.hid hev
    clear hl hev
    obtain ⟨p12, q12, rfl⟩ := hG.slice
    go_wp2_with first
      | (go_at_call 11; refine (next_small n₀ _ 2 _ hG.str (by decide) (by decide) hkl).mono ?_; rintro e w5 ⟨r, rfl, hr0, hr1, hS5, hg5⟩; replace hG := hG.drawn hS5 hg5; replace hH := hH.str hg5; clear hg5; obtain ⟨_, hc⟩ := hH.row.ints; rcases hc with ⟨_, hc⟩ | ⟨b, off, cap, hv, _, hbs, hnc, hcm, hcell⟩; (omega); (simp only [Value.slice.injEq] at hv; obtain ⟨rfl, _, rfl⟩ := hv; have hc := hcell (j + r) (by omega) (by omega); clear hcell))
      | (at_builtin; refine app_law rfl _ _ _ rfl hE (hG.row.alloc _) rfl [.int .i64 (geti l7 (j + r))] rfl rfl (cells_new _ #[_] _) (by simp [Value.oneCell']) (by omega) (by have := hG.hs; simp; omega) ?_; intro v' w2 hown3 hgr)
    refine Met.intro (HJ.out (n - 2) _ _ (by omega) ⟨j + 2, by omega, B, v', l12 ++ [geti l7 (j + r)], by omega, by have := Hv.out; omega, by have := Hl.out; simp; omega, ?_, (hH.alloc _).app (hG.row.alloc _) hgr, Fr.of _ rfl ⟨rfl, rfl, rfl, rfl, rfl, rfl, rfl, rfl, trivial⟩⟩)
    exact ((hG.alloc _).app hown3 hgr).mono (by omega)
  · have hkk : j = l7.length := by omega
    subst hkk
    clear hev hl7
    go_wp2
    exact Met.intro (HX.out _ _ ⟨B, s12, l12, hj0, hj1, hl, hG, hH, Fr.of _ rfl ⟨rfl, rfl, rfl, rfl, rfl, rfl, rfl, rfl, trivial⟩⟩)

set_option maxRecDepth 100000 in
set_option maxHeartbeats 1000000 in
theorem bl19 (n₀ : Nat) (w0 : World) (many a1 a2 : Int) (s7 : Value) (l7 : List Int) (hl7 : l7.length ≤ 32) : Tri Try.prog (BJ n₀ w0 many a1 a2 s7 l7 l7.length) (sel [1, 1, 1, 1, 0, 1, 2, 1, 1, 2, 1, 1] bm) (B2 n₀ w0 many a1 a2 100 40 []) := by
  rintro Q J K hJ hK a w ⟨B, s12, l12, hj0, hj1, hl, hG, hH, ⟨f, rfl, h12, h13, h3, h4, h5, h6, h7, h8, _⟩⟩
  rw [frame242, show f 12 = _ from h12, show f 13 = _ from h13, show f 3 = _ from h3, show f 4 = _ from h4, show f 5 = _ from h5, show f 6 = _ from h6, show f 7 = _ from h7, show f 8 = _ from h8]
  clear h12 h13 h3 h4 h5 h6 h7 h8
  conv => arg 2; whnf
  have Hl := Lib.hid hl
  clear hl
  go_wp2
  refine Met.intro (hJ _ _ ?_)
  exact ⟨_, _, l12, by have := Hl.out; omega, hG.mono (by omega), Fr.of _ rfl ⟨rfl, rfl, rfl, rfl, rfl, rfl, trivial⟩⟩
end Go.Proofs.Ytkcjklgbadekjaa
