/-
  slices.Equal at pairs of seeds; the law's own look that the package makes brackets. Condition: fewer than 2^40 pairs.
-/
import Derived.Test.YtkcjklgbadekjaaGames
import Derived.Laws.StructEq
namespace Go.Proofs.Ytkcjklgbadekjaa
open Go.RowKit Go.Bw

def getp (l : List (Int × Int)) (i : Int) : Int × Int := l[i.toNat]?.getD (0, 0)

theorem cells2_get (l : List (Int × Int)) : ∀ (k : Nat), k < l.length → (cells2 l)[2 * k]? = some (.int .i64 (l[k]?.getD (0, 0)).1) ∧ (cells2 l)[2 * k + 1]? = some (.int .i64 (l[k]?.getD (0, 0)).2) := by
  induction l with
  | nil => intro k hk; simp at hk
  | cons p l ih =>
    intro k hk
    have e : cells2 (p :: l) = .int .i64 p.1 :: .int .i64 p.2 :: cells2 l := rfl
    cases k with
    | zero => simp [e]
    | succ k =>
      have := ih k (by simpa using hk)
      rw [e, show 2 * (k + 1) = 2 * k + 1 + 1 by omega, show 2 * k + 1 + 1 + 1 = (2 * k + 1) + 1 + 1 by omega]
      simpa using this

theorem row_pairs {w : World} {base n : Nat} {v : Value} {xs : List (Int × Int)} (h : Row w base 2 v n (cells2 xs)) :
    xs.length = n ∧ ((v = .slice none 0 0 ∧ n = 0) ∨ ∃ b off cap, v = .slice (some ⟨b, off, none⟩) n cap ∧ base ≤ b ∧ b < w.heap.size ∧ n ≤ cap ∧ cap ≤ maxLen ∧
      ∀ i : Int, 0 ≤ i → i < n → w.cell? ⟨b, off + i.toNat * 2, none⟩ = some (.int .i64 (getp xs i).1) ∧ w.cell? ⟨b, off + i.toNat * 2 + 1, none⟩ = some (.int .i64 (getp xs i).2)) := by
  obtain ⟨h1, h2⟩ := h
  have hl : xs.length = n := by have := cells2_length xs; omega
  refine ⟨hl, ?_⟩
  rcases h2 with h2 | ⟨b, off, cap, e, hb, hlt, hn, hc, hcell⟩
  · exact .inl h2
  · refine .inr ⟨b, off, cap, e, hb, hlt, hn, hc, fun i h0 hi => ?_⟩
    obtain ⟨g1, g2⟩ := cells2_get xs i.toNat (by omega)
    refine ⟨?_, ?_⟩
    · have := hcell _ _ g1
      rwa [show 2 * i.toNat = i.toNat * 2 by omega] at this
    · have := hcell _ _ g2
      rwa [show 2 * i.toNat + 1 = i.toNat * 2 + 1 by omega, ← Nat.add_assoc] at this

set_option maxRecDepth 100000 in
set_option maxHeartbeats 1000000 in
/-- Equal lists are told equal. -/
theorem equal_pairs (v1 v2 : Value) (n : Nat) (l : List (Int × Int)) (b1 b2 : Nat) (w : World) (h1 : Row w b1 2 v1 n (cells2 l)) (h2 : Row w b2 2 v2 n (cells2 l)) (hn : n ≤ 1099511627776) :
    Calls Try.prog 22 #[v1, v2] w fun e w' => e = .returned (.bool true) ∧ Below w.heap.size w w' := by
  obtain ⟨hl1, hc1⟩ := row_pairs h1
  obtain ⟨hl2, hc2⟩ := row_pairs h2
  clear h1 h2 hl2
  have hv1 : ∃ a cap, v1 = .slice a n cap := by
    rcases hc1 with ⟨rfl, rfl⟩ | ⟨bz, off, cap, rfl, _⟩ <;> exact ⟨_, _, rfl⟩
  have hv2 : ∃ a cap, v2 = .slice a n cap := by
    rcases hc2 with ⟨rfl, rfl⟩ | ⟨bz, off, cap, rfl, _⟩ <;> exact ⟨_, _, rfl⟩
  obtain ⟨a1, cap1, rfl⟩ := hv1
  obtain ⟨a2, cap2, rfl⟩ := hv2
  have hbn : ((n : Int) != n) = false := by simp
  go_enter Try.func22, Try.ntmps22
  go_wp2
  go_loopw [13] (fun i wr => ∃ k : Int, 0 ≤ k ∧ k ≤ n ∧ i = .int .i64 k ∧ Below w.heap.size w wr) (fun i _ => n - (intOf i).toNat)
  case atStart => exact ⟨0, by omega, by omega, rfl, Below.refl _ _⟩
  case round =>
    obtain ⟨k, hk0, hk1, rfl, hb⟩ := hrel
    by_cases hlt : k < n
    · rcases hc1 with ⟨h, h0⟩ | ⟨bz1, off1, cap1', h, hbb1, hbs1, hnc1, hcm1, hcell1⟩
      · omega
      rcases hc2 with ⟨h', h0⟩ | ⟨bz2, off2, cap2', h', hbb2, hbs2, hnc2, hcm2, hcell2⟩
      · omega
      simp only [Value.slice.injEq] at h h'
      obtain ⟨rfl, _, rfl⟩ := h
      obtain ⟨rfl, _, rfl⟩ := h'
      obtain ⟨p1, p2⟩ := hcell1 k hk0 hlt
      obtain ⟨q1, q2⟩ := hcell2 k hk0 hlt
      have r1 := (hb.cell (p := ⟨bz1, off1 + k.toNat * 2, none⟩) hbs1).trans p1
      have r2 := (hb.cell (p := ⟨bz1, off1 + k.toNat * 2 + 1, none⟩) hbs1).trans p2
      have s1 := (hb.cell (p := ⟨bz2, off2 + k.toNat * 2, none⟩) hbs2).trans q1
      have s2 := (hb.cell (p := ⟨bz2, off2 + k.toNat * 2 + 1, none⟩) hbs2).trans q2
      generalize (getp l k).1 = x at *
      generalize (getp l k).2 = y at *
      clear hcell1 hcell2 p1 p2 q1 q2
      have hkn : k ≤ 1099511627776 := by omega
      go_wp2
      go_quiet (fail)
      go_wp2
      go_roundw
      case rel => exact ⟨k + 1, by omega, by omega, rfl, below_drewN hb _⟩
      case measure => simp [intOf]; omega
    · clear hc1 hc2
      go_wp2
      go_ret
      exact ⟨rfl, hb⟩

theorem row_of (w : World) (base e sz n : Nat) (v : Value) (cs : List Value) (h : w.ownsRow base e sz v n cs) : Row w base sz v n cs := Row.of_owns h
end Go.Proofs.Ytkcjklgbadekjaa
