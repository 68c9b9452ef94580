/-
  The games of the first round: the reference's. Condition: at most 20 seeds.
-/
import Derived.Test.YtkcjklgbadekjaaEarly
import Derived.Test.YtkcjklgbadekjaaBwReg
import Derived.Deep.RegionHeld3
import Derived.StillTactics
import Derived.Laws.Pointers
namespace Go.Proofs.Ytkcjklgbadekjaa
open Go.RowKit Go.Bw

theorem el_pair2 : Elem Try.prog 30 33 (.agg #[.int .i64 0, .int .i64 0]) 2 16 := ⟨by kernel_rfl, by kernel_rfl, by kernel_rfl, by decide, by decide⟩

def cells2 (l : List (Int × Int)) : List Value := l.flatMap fun p => [.int .i64 p.1, .int .i64 p.2]
theorem cells2_length (l : List (Int × Int)) : (cells2 l).length = l.length * 2 := by
  unfold cells2
  induction l with
  | nil => rfl
  | cons x l ih => simp [List.flatMap_cons, ih]; omega
theorem cells2_snoc (l : List (Int × Int)) (p : Int × Int) : cells2 (l ++ [p]) = cells2 l ++ [.int .i64 p.1, .int .i64 p.2] := by simp [cells2]

/-- The game of those at j and j + 1. -/
def gm (many : Int) (l : List Int) (j : Int) : Int × Int := (min (geti l j) (geti l (j + 1)), if many < max (geti l j) (geti l (j + 1)) then 0 else max (geti l j) (geti l (j + 1)))
def gms (many : Int) (l : List Int) (k : Int) : List (Int × Int) := (List.range k.toNat).map fun (j : Nat) => gm many l (2 * (j : Int))
theorem gms_succ (many : Int) (l : List Int) (k : Int) (h : 0 ≤ k) : gms many l (k + 1) = gms many l k ++ [gm many l (2 * k)] := by
  unfold gms
  rw [show (k + 1).toNat = k.toNat + 1 by omega, List.range_succ, List.map_append]
  simp [show ((k.toNat : Nat) : Int) = k by omega]
theorem gms_length (many : Int) (l : List Int) (k : Int) : (gms many l k).length = k.toNat := by simp [gms]

set_option maxRecDepth 100000 in
set_option maxHeartbeats 2000000 in
theorem firstGames_any (many : Int) (w : World) (hm : 2 ≤ many) (hm' : many ≤ 20) :
    Calls Try.prog 9 #[.int .i64 many] w fun e w' => ∃ v, e = .returned v ∧ w'.ownsRow w.heap.size 33 2 v ((bracketL many).length / 2) (cells2 (gms many (bracketL many) ((bracketL many).length / 2))) ∧ Below w.heap.size w w' := by
  have hE := el_pair2
  have hL := bracketL_length many hm hm'
  have hev : ((bracketL many).length : Int) % 2 = 0 := by
    rw [hL.2.1]
    have := roundsF_le many
    have h1 : 1 ≤ roundsF many := by unfold roundsF; repeat' split
                                     all_goals omega
    have h2 : roundsF many = 1 ∨ roundsF many = 2 ∨ roundsF many = 3 ∨ roundsF many = 4 ∨ roundsF many = 5 := by omega
    rcases h2 with h2 | h2 | h2 | h2 | h2 <;> rw [h2] <;> rfl
  have hL2 := hL.2.2
  clear hL
  go_enter Try.func9, Try.ntmps9
  go_wp2_with (go_at_call 49; refine (bracket_any _ _ (by omega)).mono ?_; rintro e w1 ⟨g, cap, rfl, hown, hbel⟩)
  generalize hl : bracketL many = l at *
  have HL := Lib.hid hl
  clear hl
  have hcell := ints_of_owns hown
  have hg := (hown.lt g rfl).2
  obtain ⟨_, _, hnc, hcm⟩ := owns_sizes hown
  go_loopw [4, 5] (fun v i wr => ∃ k : Int, 0 ≤ k ∧ 2 * k ≤ l.length ∧ i = .int .i64 (2 * k) ∧ wr.ownsRow w1.heap.size 33 2 v k.toNat (cells2 (gms many l k)) ∧ Below w1.heap.size w1 wr) (fun _ i _ => l.length - (intOf i).toNat)
  case atStart => exact ⟨0, by omega, by omega, rfl, World.ownsRow_nil _ _ _ _, Below.refl _ _⟩
  case round =>
    obtain ⟨k, hk0, hk1, rfl, hown2, hb2⟩ := hrel
    by_cases hlt : 2 * k < l.length
    · have hj1 : 2 * k + 1 < l.length := by omega
      have hc0 : wr.cell? ⟨g, (2 * k).toNat, none⟩ = some (.int .i64 (geti l (2 * k))) := (hb2.cell (p := ⟨g, (2 * k).toNat, none⟩) hg).trans (hcell _ (by omega) hlt)
      have hc1 : wr.cell? ⟨g, (2 * k + 1).toNat, none⟩ = some (.int .i64 (geti l (2 * k + 1))) := (hb2.cell (p := ⟨g, (2 * k + 1).toNat, none⟩) hg).trans (hcell _ (by omega) hj1)
      obtain ⟨x, hx⟩ : ∃ x, x = geti l (2 * k) := ⟨_, rfl⟩
      obtain ⟨y, hy⟩ : ∃ y, y = geti l (2 * k + 1) := ⟨_, rfl⟩
      rw [← hx] at hc0
      rw [← hy] at hc1
      have Hgm : Hid (gm many l (2 * k) = (min x y, if many < max x y then 0 else max x y)) := by rw [hx, hy]; rfl
      have hsz := hb2.size
      have hwr : IntKind.i64.wrap (2 * k + 1) = 2 * k + 1 := IntWalk.i64_in _ (by omega)
      have hjj : 0 ≤ 2 * k + 1 := by omega
      have hj0 : 0 ≤ 2 * k := by omega
      clear hcell hx hy
      by_cases hmx : many < max x y
      all_goals
        go_wp2
        have hA := @cell?_allocs
        refine wp_region_calm [0, 1, 2, 3, 4, 5, 6, 7, 8, 9, 10, 11, 12, 13, 14, 15, 16, 17, 18, 19, 20] [21, 22] (by kernel_rfl) (by kernel_rfl) (by intro c a d v w h; cases d <;> exact h) ?_
        simp only [pickOps, List.filterMap_cons, List.filterMap_nil, List.getElem?_cons_succ, List.getElem?_cons_zero]
        repeat (refine wpCalm_step (fun K hK => ?_); go_simp; refine hK _ ?_; clear hK K)
        refine wpCalm_nil ?_
        clear hA
      · go_wp2_with (at_builtin; refine app_law rfl _ _ _ rfl hE ((hown2.alloc _).alloc _) rfl [.int .i64 (min x y), .int .i64 0] rfl rfl (cells_at (wr.alloc _) #[_, _] _ _ (by simp)) (by simp [Value.oneCell']) (by omega) (by simp; omega) ?_; intro v' w2 hown3 hgr)
        have hb3 := below_grown (((hb2.alloc hsz _).alloc (by simp; omega) _).drew) ((hown2.alloc _).alloc _) hgr (Nat.le_refl _) (by simp; omega)
        have hn3 : cells2 (gms many l (k + 1)) = cells2 (gms many l k) ++ [.int .i64 (min x y), .int .i64 0] := by rw [gms_succ _ _ _ hk0, cells2_snoc, Hgm.out, if_pos hmx]
        go_roundw
        case rel => exact ⟨k + 1, by omega, by omega, by first | rfl | (congr 1; omega), by rw [hn3, show (k + 1).toNat = k.toNat + 1 by omega]; exact hown3, hb3⟩
        case measure => simp [intOf]; omega
      · go_wp2_with (at_builtin; refine app_law rfl _ _ _ rfl hE ((hown2.alloc _).alloc _) rfl [.int .i64 (min x y), .int .i64 (max x y)] rfl rfl (cells_at (wr.alloc _) #[_, _] _ _ (by simp)) (by simp [Value.oneCell']) (by omega) (by simp; omega) ?_; intro v' w2 hown3 hgr)
        have hb3 := below_grown (((hb2.alloc hsz _).alloc (by simp; omega) _).drew) ((hown2.alloc _).alloc _) hgr (Nat.le_refl _) (by simp; omega)
        have hn3 : cells2 (gms many l (k + 1)) = cells2 (gms many l k) ++ [.int .i64 (min x y), .int .i64 (max x y)] := by rw [gms_succ _ _ _ hk0, cells2_snoc, Hgm.out, if_neg (by omega)]
        go_roundw
        case rel => exact ⟨k + 1, by omega, by omega, by first | rfl | (congr 1; omega), by rw [hn3, show (k + 1).toNat = k.toNat + 1 by omega]; exact hown3, hb3⟩
        case measure => simp [intOf]; omega
    · have hk2 := Lib.hid (show k = (l.length : Int) / 2 by omega)
      have hk3 := Lib.hid (show k.toNat = l.length / 2 by omega)
      go_wp2
      go_ret
      exact ⟨_, rfl, by rw [HL.out, ← hk2.out, ← hk3.out]; exact owns_mono hown2 hbel.size, hbel.trans (hb2.mono hbel.size)⟩

end Go.Proofs.Ytkcjklgbadekjaa
