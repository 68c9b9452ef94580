/-
  The list of places of a bracket: the program's and the reference's. Condition: at most 64 seeds.
-/
import Derived.Test.YtkcjklgbadekjaaStream
namespace Go.Proofs.Ytkcjklgbadekjaa
open Go.RowKit Go.Bw

theorem el_int : Elem Try.prog 22 3 (.int .i64 0) 1 8 := ⟨by kernel_rfl, by kernel_rfl, by kernel_rfl, by decide, by decide⟩

def nextL (n : Int) (l : List Int) : List Int := l.flatMap fun p => [p, 2 * n + 1 - p]
def brk (many : Int) : Nat → List Int → List Int
  | 0, l => l
  | f + 1, l => if (l.length : Int) < many then brk many f (nextL l.length l) else l
def bracketL (many : Int) : List Int := brk many 6 [1]
/-- The list as it stands with f rounds left at most. -/
def BrkIs (many : Int) (f : Nat) (l : List Int) : Prop := brk many f l = bracketL many ∧ l.length * 2 ^ f = 64 ∧ ∀ p ∈ l, 1 ≤ p ∧ p ≤ l.length

theorem nextL_length (n : Int) (l : List Int) : (nextL n l).length = 2 * l.length := by
  unfold nextL
  induction l with
  | nil => rfl
  | cons x l ih => simp [List.flatMap_cons, ih]; omega

theorem nextL_snoc (n : Int) (l : List Int) (p : Int) : nextL n (l ++ [p]) = nextL n l ++ [p, 2 * n + 1 - p] := by simp [nextL]

theorem BrkIs.start (many : Int) : BrkIs many 6 [1] := ⟨rfl, by decide, by simp⟩

theorem BrkIs.le {many : Int} {f : Nat} {l : List Int} (h : BrkIs many f l) : 1 ≤ l.length ∧ l.length ≤ 64 := by
  obtain ⟨_, h, _⟩ := h
  have h2 : 1 ≤ 2 ^ f := Nat.one_le_two_pow
  constructor
  · rcases Nat.eq_zero_or_pos l.length with h0 | h0
    · rw [h0] at h; omega
    · exact h0
  · exact h ▸ Nat.le_mul_of_pos_right _ h2

theorem BrkIs.step {many : Int} {f : Nat} {l : List Int} (h : BrkIs many f l) (hm : many ≤ 64) (hlt : (l.length : Int) < many) :
    ∃ f', f = f' + 1 ∧ BrkIs many f' (nextL l.length l) := by
  cases f with
  | zero => obtain ⟨_, h2, _⟩ := h; omega
  | succ f =>
    refine ⟨f, rfl, ?_, ?_, ?_⟩
    · have := h.1
      rw [brk, if_pos hlt] at this
      exact this
    · rw [nextL_length, ← h.2.1, Nat.pow_succ, Nat.mul_comm 2 l.length, Nat.mul_assoc, Nat.mul_comm 2 (2 ^ f)]
    · intro p hp
      rw [nextL_length]
      unfold nextL at hp
      obtain ⟨q, hq, hp⟩ := List.mem_flatMap.1 hp
      have := h.2.2 q hq
      simp at hp
      rcases hp with rfl | rfl <;> constructor <;> push_cast <;> omega

theorem BrkIs.done {many : Int} {f : Nat} {l : List Int} (h : BrkIs many f l) (hlt : many ≤ (l.length : Int)) : l = bracketL many := by
  have := h.1
  cases f with
  | zero => exact this
  | succ f => rw [brk, if_neg (by omega)] at this; exact this

theorem geti_mem {l : List Int} {i : Int} (h0 : 0 ≤ i) (h1 : i < l.length) : geti l i ∈ l := by
  unfold geti
  rw [List.getElem?_eq_getElem (by omega)]
  simp

/-- take, at an Int. -/
def takei (l : List Int) (i : Int) : List Int := l.take i.toNat
theorem takei_succ (l : List Int) (i : Int) (h0 : 0 ≤ i) (h1 : i < l.length) : takei l (i + 1) = takei l i ++ [geti l i] := by
  unfold takei geti
  rw [show (i + 1).toNat = i.toNat + 1 by omega, List.take_succ_eq_append_getElem (by omega), List.getElem?_eq_getElem (by omega)]
  rfl

theorem takei_all (l : List Int) (i : Int) (h : (l.length : Int) ≤ i) : takei l i = l := by
  unfold takei
  exact List.take_of_length_le (by omega)

set_option maxRecDepth 100000 in
set_option maxHeartbeats 1000000 in
theorem bracket_any (many : Int) (w : World) (hm : many ≤ 64) :
    Calls Try.prog 49 #[.int .i64 many] w fun e w' => ∃ g cap, e = .returned (.slice (some ⟨g, 0, none⟩) (bracketL many).length cap) ∧
      w'.ownsRow w.heap.size 3 1 (.slice (some ⟨g, 0, none⟩) (bracketL many).length cap) (bracketL many).length ((bracketL many).map (.int .i64)) ∧ Below w.heap.size w w' := by
  have hE := el_int
  go_enter Try.func49, Try.ntmps49
  go_wp2
  go_loopw [3] (fun v wr => ∃ (l : List Int) (f g cap : Nat), v = .slice (some ⟨g, 0, none⟩) l.length cap ∧ BrkIs many f l ∧
      wr.ownsRow w.heap.size 3 1 (.slice (some ⟨g, 0, none⟩) l.length cap) l.length (l.map (.int .i64)) ∧ Below w.heap.size w wr) (fun v _ => 64 - lenOf v)
  case atStart => exact ⟨[1], 6, _, _, rfl, BrkIs.start many, owns_lit w _ _ _ 1 (by omega) rfl (Nat.le_refl _), (Below.refl _ _).alloc (Nat.le_refl _) _⟩
  case round =>
    obtain ⟨l, f, g, cap, rfl, hbr, hown, hbel⟩ := hrel
    obtain ⟨hl1, hl64⟩ := hbr.le
    by_cases hlt : (l.length : Int) < many
    · obtain ⟨f', hf, hbr'⟩ := hbr.step hm hlt
      obtain ⟨wo, hwo⟩ : ∃ wo, wo = wr := ⟨_, rfl⟩
      subst hwo
      have hcell := ints_of_owns hown
      have hmem := hbr.2.2
      have hg := (hown.lt g rfl).2
      clear hf
      go_wp2
      go_loopw [4, 14] (fun v i wr => ∃ j : Int, 0 ≤ j ∧ j ≤ l.length ∧ i = .int .i64 j ∧ wr.ownsRow wo.heap.size 3 1 v (nextL l.length (takei l j)).length ((nextL l.length (takei l j)).map (.int .i64)) ∧ Below wo.heap.size wo wr) (fun _ i _ => l.length - (intOf i).toNat)
      case atStart => exact ⟨0, by omega, by omega, rfl, World.ownsRow_nil _ _ _ _, Below.refl _ _⟩
      case round =>
        obtain ⟨j, hj0, hj1, rfl, hown2, hbel2⟩ := hrel
        by_cases hjl : j < l.length
        · have hc : wr.cell? ⟨g, j.toNat, none⟩ = some (.int .i64 (geti l j)) := (hbel2.cell (p := ⟨g, j.toNat, none⟩) hg).trans (hcell j hj0 hjl)
          obtain ⟨hp1, hp2⟩ := hmem _ (geti_mem hj0 hjl)
          have hlen2 : (nextL l.length (takei l j)).length ≤ 128 := by rw [nextL_length]; unfold takei; simp; omega
          have hR : Hid _ := takei_succ l j hj0 hjl
          have hsz := hbel2.size
          clear hcell hmem
          go_wp2_with (at_builtin; go_loud (refine app_law rfl _ _ _ rfl hE (hown2.alloc _) rfl [.int .i64 (geti l j), .int .i64 (2 * l.length + 1 - geti l j)] rfl rfl (cells_new _ #[_, _] _) (by simp [Value.oneCell']) (by omega) (by simp; omega) ?_); intro v' w1 hown3 hgr)
          have hb3 := below_app hbel2 hown2 hgr (Nat.le_refl _) hsz
          have hn3 : (nextL l.length (takei l (j + 1))) = nextL l.length (takei l j) ++ [geti l j, 2 * l.length + 1 - geti l j] := by rw [hR.out, nextL_snoc]
          go_roundw
          case rel => exact ⟨j + 1, by omega, by omega, rfl, by rw [hn3]; simpa using hown3, hb3⟩
          case measure => simp [intOf]; omega
        · have hall := takei_all l j (by omega)
          rw [hall] at hown2
          obtain ⟨g2, cap2, hv2, hg2, _, _, _⟩ := owns_shape hown2 (by rw [nextL_length]; omega)
          subst hv2
          have hown4 := owns_mono hown2 hbel.size
          have hb4 := hbel.trans (hbel2.mono hbel.size)
          clear hown2 hall hcell hmem
          go_wp2
          go_roundw
          case rel => exact ⟨_, f', _, _, rfl, hbr', hown4, hb4⟩
          case measure => simp [lenOf]; rw [nextL_length]; omega
    · go_wp2
      go_ret
      have hd := hbr.done (by omega)
      subst hd
      exact ⟨_, _, rfl, hown, hbel⟩
set_option maxRecDepth 100000 in
set_option maxHeartbeats 1000000 in
theorem places_any (many : Int) (w : World) (hm : many ≤ 64) :
    Calls Try.prog 53 #[.int .i64 many] w fun e w' => ∃ g cap, e = .returned (.slice (some ⟨g, 0, none⟩) (bracketL many).length cap) ∧
      w'.ownsRow w.heap.size 3 1 (.slice (some ⟨g, 0, none⟩) (bracketL many).length cap) (bracketL many).length ((bracketL many).map (.int .i64)) ∧ Below w.heap.size w w' := by
  have hE := el_int
  go_enter Try.func53, Try.ntmps53
  go_wp2
  go_loopw [3] (fun v wr => ∃ (l : List Int) (f g cap : Nat), v = .slice (some ⟨g, 0, none⟩) l.length cap ∧ BrkIs many f l ∧
      wr.ownsRow w.heap.size 3 1 (.slice (some ⟨g, 0, none⟩) l.length cap) l.length (l.map (.int .i64)) ∧ Below w.heap.size w wr) (fun v _ => 64 - lenOf v)
  case atStart => exact ⟨[1], 6, _, _, rfl, BrkIs.start many, owns_lit w _ _ _ 1 (by omega) rfl (Nat.le_refl _), (Below.refl _ _).alloc (Nat.le_refl _) _⟩
  case round =>
    obtain ⟨l, f, g, cap, rfl, hbr, hown, hbel⟩ := hrel
    obtain ⟨hl1, hl64⟩ := hbr.le
    by_cases hlt : (l.length : Int) < many
    · obtain ⟨f', hf, hbr'⟩ := hbr.step hm hlt
      obtain ⟨wo, hwo⟩ : ∃ wo, wo = wr := ⟨_, rfl⟩
      subst hwo
      have hcell := ints_of_owns hown
      have hmem := hbr.2.2
      have hg := (hown.lt g rfl).2
      clear hf
      go_wp2
      go_loopw [5, 18] (fun v i wr => ∃ j : Int, 0 ≤ j ∧ j ≤ l.length ∧ i = .int .i64 j ∧ wr.ownsRow wo.heap.size 3 1 v (nextL l.length (takei l j)).length ((nextL l.length (takei l j)).map (.int .i64)) ∧ Below wo.heap.size wo wr) (fun _ i _ => l.length - (intOf i).toNat)
      case atStart => exact ⟨0, by omega, by omega, rfl, World.ownsRow_nil _ _ _ _, Below.refl _ _⟩
      case round =>
        obtain ⟨j, hj0, hj1, rfl, hown2, hbel2⟩ := hrel
        by_cases hjl : j < l.length
        · have hc : wr.cell? ⟨g, j.toNat, none⟩ = some (.int .i64 (geti l j)) := (hbel2.cell (p := ⟨g, j.toNat, none⟩) hg).trans (hcell j hj0 hjl)
          obtain ⟨hp1, hp2⟩ := hmem _ (geti_mem hj0 hjl)
          have hlen2 : (nextL l.length (takei l j)).length ≤ 128 := by rw [nextL_length]; unfold takei; simp; omega
          have hR : Hid _ := takei_succ l j hj0 hjl
          have hsz := hbel2.size
          clear hcell hmem
          go_wp2_with (at_builtin; go_loud (refine app_law rfl _ _ _ rfl hE (hown2.alloc _) rfl [.int .i64 (geti l j), .int .i64 (2 * l.length + 1 - geti l j)] rfl rfl (cells_new _ #[_, _] _) (by simp [Value.oneCell']) (by omega) (by simp; omega) ?_); intro v' w1 hown3 hgr)
          have hb3 := below_app hbel2 hown2 hgr (Nat.le_refl _) hsz
          have hn3 : (nextL l.length (takei l (j + 1))) = nextL l.length (takei l j) ++ [geti l j, 2 * l.length + 1 - geti l j] := by rw [hR.out, nextL_snoc]
          go_roundw
          case rel => exact ⟨j + 1, by omega, by omega, rfl, by rw [hn3]; simpa using hown3, hb3⟩
          case measure => simp [intOf]; omega
        · have hall := takei_all l j (by omega)
          rw [hall] at hown2
          obtain ⟨g2, cap2, hv2, hg2, _, _, _⟩ := owns_shape hown2 (by rw [nextL_length]; omega)
          subst hv2
          have hown4 := owns_mono hown2 hbel.size
          have hb4 := hbel.trans (hbel2.mono hbel.size)
          clear hown2 hall hcell hmem
          go_wp2
          go_roundw
          case rel => exact ⟨_, f', _, _, rfl, hbr', hown4, hb4⟩
          case measure => simp [lenOf]; rw [nextL_length]; omega
    · go_wp2
      go_ret
      have hd := hbr.done (by omega)
      subst hd
      exact ⟨_, _, rfl, hown, hbel⟩
end Go.Proofs.Ytkcjklgbadekjaa
