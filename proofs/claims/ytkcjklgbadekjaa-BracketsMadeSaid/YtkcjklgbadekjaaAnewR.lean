/-
  Anew: the reference's. Conditions: as the program's.
-/
import Derived.Test.YtkcjklgbadekjaaAnew
namespace Go.Proofs.Ytkcjklgbadekjaa
open Go.RowKit Go.Bw

set_option maxRecDepth 100000 in
set_option maxHeartbeats 4000000 in
theorem anew_ref (v : Value) (n : Nat) (l : List Int) (base : Nat) (w : World) (hn : n ≤ 1099511627776) (h : Row w base 1 v n (l.map (.int .i64))) :
    Calls Try.prog 20 #[v] w fun e w' => ∃ v', e = .returned (.tuple #[v', .int .i64 (anewE l)]) ∧ w'.ownsRow w.heap.size 33 2 v' (anewR l).length (cells2 (anewR l)) ∧ Below w.heap.size w w' := by
  have hE := el_pair2
  obtain ⟨hlen, hcase⟩ := h.ints
  subst hlen
  clear h
  by_cases hl2 : l.length < 2
  · have hv : ∃ a cap, v = .slice a l.length cap := by
      rcases hcase with ⟨rfl, e⟩ | ⟨bz, off, cap, rfl, _⟩
      · exact ⟨none, 0, by rw [e]⟩
      · exact ⟨_, _, rfl⟩
    obtain ⟨a, cap, rfl⟩ := hv
    obtain ⟨e1, e2⟩ := anewE_8 hl2
    have E1 := Lib.hid e1
    have E2 := Lib.hid e2
    clear e1 e2
    clear hcase
    go_enter Try.func20, Try.ntmps20
    go_wp2
    go_ret2
    exact ⟨_, ret_vi E1.out.symm, by rw [E2.out]; exact World.ownsRow_nil _ _ _ _, Below.refl _ _⟩
  · rcases hcase with ⟨rfl, e⟩ | ⟨b, off, cap, rfl, hbb, hbs, hnc, hcm, hcell⟩
    · omega
    by_cases hl20 : 20 < l.length
    · obtain ⟨e1, e2⟩ := anewE_2 hl20
      have E1 := Lib.hid e1
      have E2 := Lib.hid e2
      clear e1 e2
      clear hcell
      go_enter Try.func20, Try.ntmps20
      go_wp2
      go_ret2
      exact ⟨_, ret_vi E1.out.symm, by rw [E2.out]; exact World.ownsRow_nil _ _ _ _, Below.refl _ _⟩
    · unfold maxLen at hcm
      go_enter Try.func20, Try.ntmps20
      go_wp2
      go_loop [19] (fun i => ∃ k : Int, 0 ≤ k ∧ k ≤ l.length ∧ i = .int .i64 k ∧ NoErr (anewAt l) k) (fun i => l.length - (intOf i).toNat)
      case atStart => exact ⟨0, by omega, by omega, rfl, NoErr.zero _⟩
      case round =>
        obtain ⟨k, hk0, hk1, rfl, hne⟩ := hrel
        by_cases hlt : k < l.length
        · have hc := hcell k hk0 hlt
          cases ho : outB (geti l k) 1 20
          · by_cases hk : k = 0
            · subst hk
              have hst := hne.step (show anewAt l 0 = 0 by simp [anewAt, ho])
              have hc0 : w.cell? ⟨b, off, none⟩ = some (.int .i64 (geti l 0)) := by simpa using hc
              clear hne hcell
              go_wp2_with (go_at_call 48; refine (in_any _ _ _ _).mono ?_; rintro e w1 ⟨rfl, rfl⟩)
              go_round
              case rel => exact ⟨_, by omega, by omega, rfl, hst⟩
              case measure => simp [intOf]; omega
            · have hk' : 0 < k := by omega
              have hc2 := hcell (k - 1) (by omega) (by omega)
              rw [show (k - 1).toNat = k.toNat - 1 by omega] at hc2
              have hk1' : 0 ≤ k - 1 := by omega
              have hk1'' : 1 ≤ k := by omega
              by_cases hle : geti l k ≤ geti l (k - 1)
              · obtain ⟨e1, e2⟩ := anewE_hit hl2 hl20 hne hk0 hlt (show anewAt l k = 7 by simp [anewAt, ho, hk', hle]) (by decide)
                have E1 := Lib.hid e1
                have E2 := Lib.hid e2
                clear e1 e2
                clear hne hcell
                go_wp2_with (go_at_call 48; refine (in_any _ _ _ _).mono ?_; rintro e w1 ⟨rfl, rfl⟩)
                go_ret2
                exact ⟨_, ret_vi E1.out.symm, by rw [E2.out]; exact World.ownsRow_nil _ _ _ _, Below.refl _ _⟩
              · have hst := hne.step (show anewAt l k = 0 by simp [anewAt, ho, hle])
                clear hne hcell
                go_wp2_with (go_at_call 48; refine (in_any _ _ _ _).mono ?_; rintro e w1 ⟨rfl, rfl⟩)
                go_round
                case rel => exact ⟨_, by omega, by omega, rfl, hst⟩
                case measure => simp [intOf]; omega
          · obtain ⟨e1, e2⟩ := anewE_hit hl2 hl20 hne hk0 hlt (show anewAt l k = 1 by simp [anewAt, ho]) (by decide)
            have E1 := Lib.hid e1
            have E2 := Lib.hid e2
            clear e1 e2
            clear hne hcell
            go_wp2_with (go_at_call 48; refine (in_any _ _ _ _).mono ?_; rintro e w1 ⟨rfl, rfl⟩)
            go_ret2
            exact ⟨_, ret_vi E1.out.symm, by rw [E2.out]; exact World.ownsRow_nil _ _ _ _, Below.refl _ _⟩
        · obtain rfl : k = l.length := by omega
          obtain ⟨e1, e2⟩ := anewE_0 hl2 hl20 hne
          have E1 := Lib.hid e1
          have E2 := Lib.hid e2
          clear e1 e2
          clear hne
          by_cases hod : (l.length : Int) % 2 = 1
          · have hod' : ((l.length : Int) % 2 == 1) = true := by simp [hod]
            have HD := Lib.hid hod
            clear hod
            have hc0 := hcell 0 (by omega) (by omega)
            have hcap1 : ¬ cap = 1 := by omega
            have h1l : (1 : Int) ≤ l.length := by omega
            have h0l : 0 < l.length := by omega
            have hcz : w.cell? ⟨b, off, none⟩ = some (.int .i64 (geti l 0)) := by simpa using hc0
            clear hc0
            go_wp2_with (at_builtin; refine app_law rfl _ _ _ rfl hE (World.ownsRow_nil _ w.heap.size _ _) rfl [.int .i64 (geti l 0), .int .i64 0] rfl rfl (cells_at w #[_, _] _ _ (by simp)) (by simp [Value.oneCell']) (by omega) (by simp) ?_; intro v' w2 hown3 hgr)
            have hbw := below_grown ((Below.refl w.heap.size w).alloc (Nat.le_refl _) _) (World.ownsRow_nil _ w.heap.size 0 0) hgr (Nat.le_refl _) (by simp)
            clear hgr
            go_loopw [6, 7, 8] (fun v i1 i2 wr => ∃ k j m : Int, 0 ≤ k ∧ 2 * k + 1 ≤ l.length ∧ Hid (j = 1 + k) ∧ Hid (m = l.length - 1 - k) ∧ i1 = .int .i64 j ∧ i2 = .int .i64 m ∧ wr.ownsRow w.heap.size 33 2 v (anewP l 1 k).length (cells2 (anewP l 1 k)) ∧ Below w.heap.size w wr) (fun _ i _ _ => l.length - (intOf i).toNat)
            case atStart => exact ⟨0, 1, l.length - 1, by omega, by omega, rfl, (by show _ = _; omega), rfl, rfl, hown3, hbw⟩
            case round =>
              obtain ⟨k, j, m, hk0, hk1, hj, hm, rfl, rfl, hown2, hb2⟩ := hrel
              have hb2s := hb2.size
              have hpl := anewP_length l 1 k
              have hj' := hj.out
              have hm' := hm.out
              by_cases hlt : j < m
              · have hj0 : 0 ≤ j := by omega
                have hj1 : j < (l.length : Int) := by omega
                have hm0 : 0 ≤ m := by omega
                have hm1 : m < (l.length : Int) := by omega
                have hj2 : j ≤ 20 := by omega
                have hm2 : m ≤ 20 := by omega
                have hc0 : wr.cell? ⟨b, off + j.toNat, none⟩ = some (.int .i64 (geti l j)) := ((hb2.cell (p := ⟨b, off + j.toNat, none⟩) hbs)).trans (hcell j hj0 hj1)
                have hc1 : wr.cell? ⟨b, off + m.toNat, none⟩ = some (.int .i64 (geti l m)) := ((hb2.cell (p := ⟨b, off + m.toNat, none⟩) hbs)).trans (hcell m hm0 hm1)
                have Hs : Hid (anewP l 1 (k + 1) = anewP l 1 k ++ [(geti l j, geti l m)]) := by
                  show _ = _
                  rw [anewP_succ _ _ _ hk0, hj', hm']
                have hn1 : 2 * (k + 1) + 1 ≤ l.length := by omega
                have hn2 : j + 1 = 1 + (k + 1) := by omega
                have hn3 : m - 1 = l.length - 1 - (k + 1) := by omega
                have hn4 : k < 20 := by omega
                have Hn2 := Lib.hid hn2
                have Hn3 := Lib.hid hn3
                generalize geti l j = x at *
                generalize geti l m = y at *
                have hA := @cell?_allocs
                clear hcell hj' hm' hn2 hn3
                go_wp2
                refine wp_region_calm [0, 1, 2, 3, 4, 5, 6, 7, 8, 9] [10, 11, 12] (by kernel_rfl) (by kernel_rfl) (by intro c a d v w h; cases d <;> exact h) ?_
                simp only [pickOps, List.filterMap_cons, List.filterMap_nil, List.getElem?_cons_succ, List.getElem?_cons_zero]
                repeat (refine wpCalm_step (fun K hK => ?_); go_simp; refine hK _ ?_; clear hK K)
                refine wpCalm_nil ?_
                try dsimp only
                clear hA
                refine wpList_plain rfl fun K hK => ?_
                go_simp
                refine hK _ _ ?_
                clear hK K
                refine app_law rfl _ _ _ rfl hE (hown2.alloc _) rfl [.int .i64 x, .int .i64 y] rfl rfl (cells_at wr #[_, _] _ _ (by simp)) (by simp [Value.oneCell']) (by omega) (by simp; omega) ?_
                intro v' w2 hown3 hgr
                go_wp2
                have hb3 := below_grown (((hb2.alloc hb2s _)).drew) (hown2.alloc _) hgr (Nat.le_refl _) (by simp; omega)
                go_roundw
                case rel => exact ⟨k + 1, _, _, by omega, hn1, Hn2.out, Hn3.out, rfl, rfl, by rw [Hs.out, cells2_snoc, List.length_append]; exact hown3, hb3⟩
                case measure => simp [intOf]; omega
              · have hk2 := Lib.hid (show k = (l.length : Int) / 2 by have := HD.out; omega)
                clear hj' hm'
                go_wp2
                go_ret2
                exact ⟨_, ret_vi E1.out.symm, by rw [E2.out, HD.out, ← hk2.out]; exact hown2, hb2⟩
          · have hod' : ((l.length : Int) % 2 == 1) = false := by simp [hod]
            have hod2 : (l.length : Int) % 2 = 0 := by omega
            have HD := Lib.hid hod2
            clear hod hod2
            go_wp2
            go_loopw [6, 7, 8] (fun v i1 i2 wr => ∃ k j m : Int, 0 ≤ k ∧ 2 * k + 0 ≤ l.length ∧ Hid (j = 0 + k) ∧ Hid (m = l.length - 1 - k) ∧ i1 = .int .i64 j ∧ i2 = .int .i64 m ∧ wr.ownsRow w.heap.size 33 2 v (anewP l 0 k).length (cells2 (anewP l 0 k)) ∧ Below w.heap.size w wr) (fun _ i _ _ => l.length - (intOf i).toNat)
            case atStart => exact ⟨0, 0, l.length - 1, by omega, by omega, rfl, (by show _ = _; omega), rfl, rfl, World.ownsRow_nil _ _ _ _, Below.refl _ _⟩
            case round =>
              obtain ⟨k, j, m, hk0, hk1, hj, hm, rfl, rfl, hown2, hb2⟩ := hrel
              have hb2s := hb2.size
              have hpl := anewP_length l 0 k
              have hj' := hj.out
              have hm' := hm.out
              by_cases hlt : j < m
              · have hj0 : 0 ≤ j := by omega
                have hj1 : j < (l.length : Int) := by omega
                have hm0 : 0 ≤ m := by omega
                have hm1 : m < (l.length : Int) := by omega
                have hj2 : j ≤ 20 := by omega
                have hm2 : m ≤ 20 := by omega
                have hc0 : wr.cell? ⟨b, off + j.toNat, none⟩ = some (.int .i64 (geti l j)) := ((hb2.cell (p := ⟨b, off + j.toNat, none⟩) hbs)).trans (hcell j hj0 hj1)
                have hc1 : wr.cell? ⟨b, off + m.toNat, none⟩ = some (.int .i64 (geti l m)) := ((hb2.cell (p := ⟨b, off + m.toNat, none⟩) hbs)).trans (hcell m hm0 hm1)
                have Hs : Hid (anewP l 0 (k + 1) = anewP l 0 k ++ [(geti l j, geti l m)]) := by
                  show _ = _
                  rw [anewP_succ _ _ _ hk0, hj', hm']
                have hn1 : 2 * (k + 1) + 0 ≤ l.length := by omega
                have hn2 : j + 1 = 0 + (k + 1) := by omega
                have hn3 : m - 1 = l.length - 1 - (k + 1) := by omega
                have hn4 : k < 20 := by omega
                have Hn2 := Lib.hid hn2
                have Hn3 := Lib.hid hn3
                generalize geti l j = x at *
                generalize geti l m = y at *
                have hA := @cell?_allocs
                clear hcell hj' hm' hn2 hn3
                go_wp2
                refine wp_region_calm [0, 1, 2, 3, 4, 5, 6, 7, 8, 9] [10, 11, 12] (by kernel_rfl) (by kernel_rfl) (by intro c a d v w h; cases d <;> exact h) ?_
                simp only [pickOps, List.filterMap_cons, List.filterMap_nil, List.getElem?_cons_succ, List.getElem?_cons_zero]
                repeat (refine wpCalm_step (fun K hK => ?_); go_simp; refine hK _ ?_; clear hK K)
                refine wpCalm_nil ?_
                try dsimp only
                clear hA
                refine wpList_plain rfl fun K hK => ?_
                go_simp
                refine hK _ _ ?_
                clear hK K
                refine app_law rfl _ _ _ rfl hE (hown2.alloc _) rfl [.int .i64 x, .int .i64 y] rfl rfl (cells_at wr #[_, _] _ _ (by simp)) (by simp [Value.oneCell']) (by omega) (by simp; omega) ?_
                intro v' w2 hown3 hgr
                go_wp2
                have hb3 := below_grown (((hb2.alloc hb2s _)).drew) (hown2.alloc _) hgr (Nat.le_refl _) (by simp; omega)
                go_roundw
                case rel => exact ⟨k + 1, _, _, by omega, hn1, Hn2.out, Hn3.out, rfl, rfl, by rw [Hs.out, cells2_snoc, List.length_append]; exact hown3, hb3⟩
                case measure => simp [intOf]; omega
              · have hk2 := Lib.hid (show k = (l.length : Int) / 2 by have := HD.out; omega)
                clear hj' hm'
                go_wp2
                go_ret2
                exact ⟨_, ret_vi E1.out.symm, by rw [E2.out, HD.out, ← hk2.out]; exact hown2, hb2⟩

end Go.Proofs.Ytkcjklgbadekjaa
