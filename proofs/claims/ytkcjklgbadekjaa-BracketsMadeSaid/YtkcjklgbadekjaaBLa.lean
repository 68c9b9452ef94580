/-
  The law BracketsMade: the numbers that are drawn first. No condition.
-/
import Derived.Test.YtkcjklgbadekjaaBL0
namespace Go.Proofs.Ytkcjklgbadekjaa
open Go.RowKit Go.Bw

theorem frozen_new (w : World) (cs : Array Value) (e : TypeId) (i : Nat) : (w.alloc (.cells cs e)).frozen? ⟨w.heap.size, i, none⟩ = false := by
  unfold World.frozen?
  rw [heap_alloc_new]
  simp

theorem str_init (w : World) (v : Value) (n : Nat) (zs : List Int) (e : TypeId) (h : SRow w v n zs w.heap.size) : Str w.heap.size (w.alloc (.cells #[v, .int .i64 0] e)) 0 := by
  refine ⟨v, n, zs, 0, ?_, ?_, ?_, by omega, by simp, h.swap (fun k hk => (World.grownBy_alloc w _ none).block k hk (by simp)) (by simp)⟩
  · rw [World.cell?_alloc_at _ _ _ _ rfl]; rfl
  · rw [World.cell?_alloc_at _ _ _ _ rfl]; rfl
  · exact frozen_new _ _ _ _

/-- How many may play. -/
def manyL : List Int := [2, 3, 4, 5, 6, 8, 9, 16, 20, 1, 21]
theorem manyL_le {m : Int} (h : m ∈ manyL) : 1 ≤ m ∧ m ≤ 21 := by
  simp [manyL] at h
  omega

theorem pick_many (B : Nat) (w : World) (e : TypeId) (hS : Str B w 0) :
    Calls Try.prog 6 #[.pointer (some ⟨B, 0, none⟩), .slice (some ⟨w.heap.size, 0, none⟩) 11 11]
      (w.alloc (.cells #[.int .i64 2, .int .i64 3, .int .i64 4, .int .i64 5, .int .i64 6, .int .i64 8, .int .i64 9, .int .i64 16, .int .i64 20, .int .i64 1, .int .i64 21] e)) fun e w' => ∃ r : Int, e = .returned (.int .i64 r) ∧ (1 ≤ r ∧ r ≤ 21) ∧ Str B w' 1 ∧ w.grownBy w' (some B) := by
  refine (pick_any B 0 _ 11 manyL _ (lit_row _ _ _ 11 (by decide) rfl _ rfl) (by decide) (by decide) (by intro k hk; have := hS.lt; simp [Value.ownBlock] at hk; omega) (hS.alloc _) (by decide)).mono ?_
  rintro e w1 ⟨r, rfl, hm, h1, h2⟩
  exact ⟨r, rfl, manyL_le hm, h1, grown_trans (World.grownBy_alloc _ _ _) h2⟩

/-- Small numbers of the stream. -/
theorem range_small (B b : Nat) (low high : Int) (w : World) (hS : Str B w b) (hl : decide (0 ≤ low ∧ low ≤ high ∧ high ≤ 1000 ∧ b ≤ 1000000) = true) :
    Calls Try.prog 7 #[.pointer (some ⟨B, 0, none⟩), .int .i64 low, .int .i64 high] w fun e w' => ∃ r : Int, e = .returned (.int .i64 r) ∧ (low ≤ r ∧ r ≤ high) ∧ Str B w' (b + 1) ∧ w.grownBy w' (some B) := by
  have hl := of_decide_eq_true hl
  refine (range_any B b low high w (by omega) (by omega) (by omega) (by omega) hS (by omega)).mono ?_
  rintro e w1 ⟨r, rfl, h1, h2, _, h4, h5⟩
  exact ⟨r, rfl, ⟨h1, h2 (by omega)⟩, h4, h5⟩

def BI (v : Value) (w0 : World) (a : Act) (w : World) : Prop := Fr 242 [(0, v)] a ∧ w = w0

set_option maxRecDepth 100000 in
set_option maxHeartbeats 1000000 in
theorem bl0 (v : Value) (w0 : World) : Tri Try.prog (BI v w0) (sel [0] bm) (BI v w0) := by
  rintro Q J K hJ hK a w ⟨⟨f, rfl, h0, _⟩, rfl⟩
  rw [frame242, show f 0 = v from h0]
  clear h0
  conv => arg 2; whnf
  go_wp2
  exact Met.intro (hJ _ _ ⟨Fr.of _ rfl ⟨rfl, trivial⟩, rfl⟩)

set_option maxRecDepth 100000 in
set_option maxHeartbeats 1000000 in
theorem bl1 (v : Value) (n : Nat) (zs : List Int) (w0 : World) (h : SRow w0 v n zs w0.heap.size) : Tri Try.prog (BI v w0) (sel [1, 0] bm) (B0 w0.heap.size w0) := by
  rintro Q J K hJ hK a w ⟨⟨f, rfl, h0, _⟩, rfl⟩
  have hS0 := str_init w v n zs 25 h
  obtain ⟨p, c, rfl⟩ : ∃ a c, v = .slice a n c := by
    rcases h with ⟨rfl, a, c, rfl⟩ | ⟨h, _⟩
    · exact ⟨_, _, rfl⟩
    · rcases h.2 with ⟨rfl, rfl⟩ | ⟨b, off, cap, rfl, _⟩
      · exact ⟨_, _, rfl⟩
      · exact ⟨_, _, rfl⟩
  clear h
  rw [frame242, show f 0 = _ from h0]
  clear h0
  conv => arg 2; whnf
  go_wp2
  exact Met.intro (hJ _ _ ⟨Fr.of _ rfl ⟨rfl, trivial⟩, hS0, (Below.refl _ _).alloc (Nat.le_refl _) _⟩)

set_option maxRecDepth 100000 in
set_option maxHeartbeats 1000000 in
theorem bl2 (n₀ : Nat) (w0 : World) : Tri Try.prog (B0 n₀ w0) (sel [1, 1, 0] bm) (B1 n₀ w0) := by
  rintro Q J K hJ hK a w ⟨⟨f, rfl, h3, _⟩, hS0, hb0⟩
  rw [frame242, show f 3 = _ from h3]
  clear h3
  conv => arg 2; whnf
  go_wp2_with first
    | (go_at_call 6; refine (pick_many n₀ _ _ hS0).mono ?_; rintro e w1 ⟨many, rfl, hmany, hS1, hg1⟩; replace hb0 := below_str hb0 hg1 (Nat.le_refl _) (Nat.le_of_lt hS0.lt); clear hS0 hg1)
    | (go_at_call 7; refine (range_small n₀ 1 _ _ _ hS1 rfl).mono ?_; rintro e w2 ⟨a1, rfl, _, hS2, hg2⟩; replace hb0 := below_str hb0 hg2 (Nat.le_refl _) (Nat.le_of_lt hS1.lt); clear hS1 hg2)
    | (go_at_call 7; refine (range_small n₀ 2 _ _ _ hS2 rfl).mono ?_; rintro e w3 ⟨a2, rfl, _, hS3, hg3⟩; replace hb0 := below_str hb0 hg3 (Nat.le_refl _) (Nat.le_of_lt hS2.lt); clear hS2 hg3)
  refine Met.intro (hJ _ _ ?_)
  exact ⟨many, a1, a2, Fr.of _ rfl ⟨rfl, rfl, rfl, rfl, trivial⟩, hmany, hS3, hb0⟩

set_option maxRecDepth 100000 in
set_option maxHeartbeats 1000000 in
theorem bl3 (n₀ : Nat) (w0 : World) (many a1 a2 : Int) :
    Tri Try.prog (fun a w => Fr 242 [(3, .pointer (some ⟨n₀, 0, none⟩)), (4, .int .i64 many), (5, .int .i64 a1), (6, .int .i64 a2)] a ∧ Str n₀ w 3 ∧ Below n₀ w0 w) (sel [1, 1, 1, 0] bm) (B2 n₀ w0 many a1 a2 3 0 []) := by
  rintro Q J K hJ hK a w ⟨⟨f, rfl, h3, h4, h5, h6, _⟩, hS, hb⟩
  rw [frame242, show f 3 = _ from h3, show f 4 = _ from h4, show f 5 = _ from h5, show f 6 = _ from h6]
  clear h3 h4 h5 h6
  conv => arg 2; whnf
  go_wp2
  refine Met.intro (hJ _ _ ?_)
  exact ⟨_, _, [], Nat.le_refl _, GenS.nil hb hS, Fr.of _ rfl ⟨rfl, rfl, rfl, rfl, rfl, rfl, trivial⟩⟩
end Go.Proofs.Ytkcjklgbadekjaa
