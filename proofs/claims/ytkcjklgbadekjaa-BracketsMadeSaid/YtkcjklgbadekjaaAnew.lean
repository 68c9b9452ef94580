/-
  Anew: the program's and the reference's. Conditions: a list of fewer than 2^40 numbers, in a slice.
-/
import Derived.Test.YtkcjklgbadekjaaGames
import Derived.Test.YtkcjklgbadekjaaBwReg
namespace Go.Proofs.Ytkcjklgbadekjaa
open Go.RowKit Go.Bw

def anewAt (l : List Int) (i : Int) : Int := if outB (geti l i) 1 20 then 1 else if 0 < i ∧ geti l i ≤ geti l (i - 1) then 7 else 0
def anewE (l : List Int) : Int := if l.length < 2 then 8 else if 20 < l.length then 2 else firstErr (anewAt l) l.length
def anewP (l : List Int) (d k : Int) : List (Int × Int) := (if d = 1 then [(geti l 0, 0)] else []) ++ (List.range k.toNat).map fun (j : Nat) => (geti l (d + j), geti l (l.length - 1 - j))
def anewR (l : List Int) : List (Int × Int) := if anewE l = 0 then anewP l (l.length % 2) (l.length / 2) else []

theorem anewP_succ (l : List Int) (d k : Int) (h : 0 ≤ k) : anewP l d (k + 1) = anewP l d k ++ [(geti l (d + k), geti l (l.length - 1 - k))] := by
  unfold anewP
  rw [show (k + 1).toNat = k.toNat + 1 by omega, List.range_succ, List.map_append, List.append_assoc]
  simp [show ((k.toNat : Nat) : Int) = k by omega]
theorem anewP_length (l : List Int) (d k : Int) : (anewP l d k).length ≤ k.toNat + 1 := by
  unfold anewP; split <;> simp
theorem anewE_8 {l : List Int} (h : l.length < 2) : anewE l = 8 ∧ anewR l = [] := by
  have : anewE l = 8 := by simp [anewE, h]
  exact ⟨this, by simp [anewR, this]⟩
theorem anewE_2 {l : List Int} (h : 20 < l.length) : anewE l = 2 ∧ anewR l = [] := by
  have : anewE l = 2 := by simp [anewE, h, show ¬ l.length < 2 by omega]
  exact ⟨this, by simp [anewR, this]⟩
theorem anewE_f {l : List Int} (h : ¬ l.length < 2) (h' : ¬ 20 < l.length) : anewE l = firstErr (anewAt l) l.length := by simp [anewE, h, h']
theorem anewE_hit {l : List Int} (h : ¬ l.length < 2) (h' : ¬ 20 < l.length) {i c : Int} (hn : NoErr (anewAt l) i) (h0 : 0 ≤ i) (h1 : i < l.length) (hc : anewAt l i = c) (hne : c ≠ 0) : anewE l = c ∧ anewR l = [] := by
  have : anewE l = c := by rw [anewE_f h h', firstErr_hit hn h0 h1 (by rw [hc]; exact hne), hc]
  exact ⟨this, by simp [anewR, this, hne]⟩
theorem anewE_0 {l : List Int} (h : ¬ l.length < 2) (h' : ¬ 20 < l.length) (hn : NoErr (anewAt l) l.length) : anewE l = 0 ∧ anewR l = anewP l (l.length % 2) (l.length / 2) := by
  have : anewE l = 0 := by rw [anewE_f h h', firstErr_none hn]
  exact ⟨this, by simp [anewR, this]⟩

set_option maxRecDepth 100000 in
set_option maxHeartbeats 4000000 in
theorem anew_prog (v : Value) (n : Nat) (l : List Int) (base : Nat) (w : World) (hn : n ≤ 1099511627776) (h : Row w base 1 v n (l.map (.int .i64))) :
    Calls Try.prog 15 #[v] w fun e w' => ∃ v', e = .returned (.tuple #[v', .int .i64 (anewE l)]) ∧ w'.ownsRow w.heap.size 33 2 v' (anewR l).length (cells2 (anewR l)) ∧ Below w.heap.size w w' := by
  have hE := el_pair2
  obtain ⟨hlen, hcase⟩ := h.ints
  subst hlen
  clear h
  by_cases hl2 : l.length < 2
  · have hv : ∃ a cap, v = .slice a l.length cap := by
      rcases hcase with ⟨rfl, e⟩ | ⟨bz, off, cap, rfl, _⟩
      · exact ⟨none, 0, by rw [e]⟩
      · exact ⟨_, _, rfl⟩
    obtain ⟨a, cap, rfl⟩ := hv
    obtain ⟨e1, e2⟩ := anewE_8 hl2
    have E1 := Lib.hid e1
    have E2 := Lib.hid e2
    clear e1 e2
    clear hcase
    go_enter Try.func15, Try.ntmps15
    go_wp2
    go_ret2
    exact ⟨_, ret_vi E1.out.symm, by rw [E2.out]; exact World.ownsRow_nil _ _ _ _, Below.refl _ _⟩
  · rcases hcase with ⟨rfl, e⟩ | ⟨b, off, cap, rfl, hbb, hbs, hnc, hcm, hcell⟩
    · omega
    by_cases hl20 : 20 < l.length
    · obtain ⟨e1, e2⟩ := anewE_2 hl20
      have E1 := Lib.hid e1
      have E2 := Lib.hid e2
      clear e1 e2
      clear hcell
      go_enter Try.func15, Try.ntmps15
      go_wp2
      go_ret2
      exact ⟨_, ret_vi E1.out.symm, by rw [E2.out]; exact World.ownsRow_nil _ _ _ _, Below.refl _ _⟩
    · unfold maxLen at hcm
      go_enter Try.func15, Try.ntmps15
      go_wp2
      go_loop [18] (fun i => ∃ k : Int, 0 ≤ k ∧ k ≤ l.length ∧ i = .int .i64 k ∧ NoErr (anewAt l) k) (fun i => l.length - (intOf i).toNat)
      case atStart => exact ⟨0, by omega, by omega, rfl, NoErr.zero _⟩
      case round =>
        obtain ⟨k, hk0, hk1, rfl, hne⟩ := hrel
        by_cases hlt : k < l.length
        · have hc := hcell k hk0 hlt
          cases ho : outB (geti l k) 1 20
          · by_cases hk : k = 0
            · subst hk
              have hst := hne.step (show anewAt l 0 = 0 by simp [anewAt, ho])
              have hc0 : w.cell? ⟨b, off, none⟩ = some (.int .i64 (geti l 0)) := by simpa using hc
              clear hne hcell
              go_wp2_with (go_at_call 54; refine (out_any _ _ _ _).mono ?_; rintro e w1 ⟨rfl, rfl⟩)
              go_round
              case rel => exact ⟨_, by omega, by omega, rfl, hst⟩
              case measure => simp [intOf]; omega
            · have hk' : 0 < k := by omega
              have hc2 := hcell (k - 1) (by omega) (by omega)
              rw [show (k - 1).toNat = k.toNat - 1 by omega] at hc2
              have hk1' : 0 ≤ k - 1 := by omega
              have hk1'' : 1 ≤ k := by omega
              by_cases hle : geti l k ≤ geti l (k - 1)
              · obtain ⟨e1, e2⟩ := anewE_hit hl2 hl20 hne hk0 hlt (show anewAt l k = 7 by simp [anewAt, ho, hk', hle]) (by decide)
                have E1 := Lib.hid e1
                have E2 := Lib.hid e2
                clear e1 e2
                clear hne hcell
                go_wp2_with (go_at_call 54; refine (out_any _ _ _ _).mono ?_; rintro e w1 ⟨rfl, rfl⟩)
                go_ret2
                exact ⟨_, ret_vi E1.out.symm, by rw [E2.out]; exact World.ownsRow_nil _ _ _ _, Below.refl _ _⟩
              · have hst := hne.step (show anewAt l k = 0 by simp [anewAt, ho, hle])
                clear hne hcell
                go_wp2_with (go_at_call 54; refine (out_any _ _ _ _).mono ?_; rintro e w1 ⟨rfl, rfl⟩)
                go_round
                case rel => exact ⟨_, by omega, by omega, rfl, hst⟩
                case measure => simp [intOf]; omega
          · obtain ⟨e1, e2⟩ := anewE_hit hl2 hl20 hne hk0 hlt (show anewAt l k = 1 by simp [anewAt, ho]) (by decide)
            have E1 := Lib.hid e1
            have E2 := Lib.hid e2
            clear e1 e2
            clear hne hcell
            go_wp2_with (go_at_call 54; refine (out_any _ _ _ _).mono ?_; rintro e w1 ⟨rfl, rfl⟩)
            go_ret2
            exact ⟨_, ret_vi E1.out.symm, by rw [E2.out]; exact World.ownsRow_nil _ _ _ _, Below.refl _ _⟩
        · obtain rfl : k = l.length := by omega
          obtain ⟨e1, e2⟩ := anewE_0 hl2 hl20 hne
          have E1 := Lib.hid e1
          have E2 := Lib.hid e2
          clear e1 e2
          clear hne
          by_cases hod : (l.length : Int) % 2 = 1
          · have hod' : ((l.length : Int) % 2 == 1) = true := by simp [hod]
            have HD := Lib.hid hod
            clear hod
            have hc0 := hcell 0 (by omega) (by omega)
            have hcap1 : ¬ cap = 1 := by omega
            have h1l : (1 : Int) ≤ l.length := by omega
            have h0l : 0 < l.length := by omega
            have hA := @cell?_allocs
            have hcz : w.cell? ⟨b, off, none⟩ = some (.int .i64 (geti l 0)) := by simpa using hc0
            obtain ⟨n1, hn1⟩ : ∃ n1, l.length - 1 = n1 := ⟨_, rfl⟩
            have hn1' : (n1 : Int) = l.length - 1 := by omega
            have hn1l : n1 ≤ 20 := by omega
            have HN := Lib.hid hn1'
            have hcl : ∀ i : Int, 0 ≤ i → i < n1 → w.cell? ⟨b, off + 1 + i.toNat, none⟩ = some (.int .i64 (geti l (1 + i))) := by
              intro i h0 h1
              have := hcell (1 + i) (by omega) (by omega)
              rwa [show off + (1 + i).toNat = off + 1 + i.toNat by omega] at this
            clear hc0 hn1' hcell
            go_wp2
            refine wp_region_pure' [7, 8] [0, 1, 2, 3, 4] [5, 6, 9, 10] (by kernel_rfl) (by kernel_rfl) (by kernel_rfl) (by intro c a d v w h; cases d <;> exact h) ?_
            simp only [pickOps, List.filterMap_cons, List.filterMap_nil, List.getElem?_cons_succ, List.getElem?_cons_zero]
            repeat (refine wpPure_step (fun K hK => ?_); go_simp; refine hK _ ?_; clear hK K)
            refine wpPure_nil ?_
            repeat (refine wpCalm_step (fun K hK => ?_); go_simp; refine hK _ ?_; clear hK K)
            refine wpCalm_nil ?_
            try dsimp only
            clear hA
            refine wpList_plain rfl fun K hK => ?_
            go_simp
            refine hK _ _ ?_
            clear hK K
            refine app_law rfl _ _ _ rfl hE (World.ownsRow_nil _ w.heap.size _ _) rfl [.int .i64 (geti l 0), .int .i64 0] rfl rfl (cells_at w #[_, _] _ _ (by simp)) (by simp [Value.oneCell']) (by omega) (by simp) ?_
            intro v' w2 hown3 hgr
            go_wp2
            have hbw := below_grown (((Below.refl w.heap.size w).alloc (Nat.le_refl _) _).drew) (World.ownsRow_nil _ w.heap.size 0 0) hgr (Nat.le_refl _) (by simp)
            clear hgr
            go_loopw [6, 53] (fun v i wr => ∃ k : Int, 0 ≤ k ∧ k ≤ (n1 : Int) / 2 ∧ i = .int .i64 k ∧ wr.ownsRow w.heap.size 33 2 v (anewP l 1 k).length (cells2 (anewP l 1 k)) ∧ Below w.heap.size w wr) (fun _ i _ => l.length - (intOf i).toNat)
            case atStart => exact ⟨0, by omega, by omega, rfl, hown3, hbw⟩
            case round =>
              obtain ⟨k, hk0, hk1, rfl, hown2, hb2⟩ := hrel
              have hb2s := hb2.size
              have hpl := anewP_length l 1 k
              by_cases hlt : k < (n1 : Int) / 2
              · obtain ⟨m, hm⟩ : ∃ m, (n1 : Int) - 1 - k = m := ⟨_, rfl⟩
                have hm0 : 0 ≤ m := by omega
                have hm1 : m < (n1 : Int) := by omega
                have hkn : k < (n1 : Int) := by omega
                have hc0 : wr.cell? ⟨b, off + 1 + k.toNat, none⟩ = some (.int .i64 (geti l (1 + k))) := ((hb2.cell (p := ⟨b, off + 1 + k.toNat, none⟩) hbs)).trans (hcl k hk0 hkn)
                have hc1 : wr.cell? ⟨b, off + 1 + m.toNat, none⟩ = some (.int .i64 (geti l (1 + m))) := ((hb2.cell (p := ⟨b, off + 1 + m.toNat, none⟩) hbs)).trans (hcl m hm0 hm1)
                have Hs : Hid (anewP l 1 (k + 1) = anewP l 1 k ++ [(geti l (1 + k), geti l (1 + m))]) := by
                  show _ = _
                  rw [anewP_succ _ _ _ hk0, show (1 : Int) + m = l.length - 1 - k by have := HN.out; omega]
                generalize geti l (1 + k) = x at *
                generalize geti l (1 + m) = y at *
                have hA := @cell?_allocs
                have hw1 : IntKind.i64.wrap ((n1 : Int) - 1) = (n1 : Int) - 1 := IntWalk.i64_in _ (by omega)
                have hw2 : IntKind.i64.wrap ((n1 : Int) - 1 - k) = m := by rw [← hm]; exact IntWalk.i64_in _ (by omega)
                clear hcl hm
                go_wp2
                refine wp_region_calm [0, 1, 2, 3, 4, 5, 6, 7, 8, 9, 10, 11, 12, 13] [14, 15, 16] (by kernel_rfl) (by kernel_rfl) (by intro c a d v w h; cases d <;> exact h) ?_
                simp only [pickOps, List.filterMap_cons, List.filterMap_nil, List.getElem?_cons_succ, List.getElem?_cons_zero]
                repeat (refine wpCalm_step (fun K hK => ?_); go_simp; refine hK _ ?_; clear hK K)
                refine wpCalm_nil ?_
                try dsimp only
                clear hA
                clear hw1 hw2
                refine wpList_plain rfl fun K hK => ?_
                go_simp
                refine hK _ _ ?_
                clear hK K
                refine app_law rfl _ _ _ rfl hE (hown2.alloc _) rfl [.int .i64 x, .int .i64 y] rfl rfl (cells_at wr #[_, _] _ _ (by simp)) (by simp [Value.oneCell']) (by omega) (by simp; omega) ?_
                intro v' w2 hown3 hgr
                go_wp2
                have hb3 := below_grown (((hb2.alloc hb2s _)).drew) (hown2.alloc _) hgr (Nat.le_refl _) (by simp; omega)
                go_roundw
                case rel => exact ⟨k + 1, by omega, by omega, rfl, by rw [Hs.out, cells2_snoc, List.length_append]; exact hown3, hb3⟩
                case measure => simp [intOf]; omega
              · have hk2 := Lib.hid (show k = (l.length : Int) / 2 by have := HN.out; have := HD.out; omega)
                go_wp2
                go_ret2
                exact ⟨_, ret_vi E1.out.symm, by rw [E2.out, HD.out, ← hk2.out]; exact hown2, hb2⟩
          · have hod' : ((l.length : Int) % 2 == 1) = false := by simp [hod]
            have hod2 : (l.length : Int) % 2 = 0 := by omega
            have HD := Lib.hid hod2
            have hcl : ∀ i : Int, 0 ≤ i → i < l.length → w.cell? ⟨b, off + i.toNat, none⟩ = some (.int .i64 (geti l (0 + i))) := by
              intro i h0 h1
              rw [Int.zero_add]
              exact hcell i h0 h1
            have HN := Lib.hid (show True from trivial)
            have hll : l.length ≤ 20 := by omega
            clear hod hod2 hcell
            go_wp2
            go_loopw [6, 53] (fun v i wr => ∃ k : Int, 0 ≤ k ∧ k ≤ (l.length : Int) / 2 ∧ i = .int .i64 k ∧ wr.ownsRow w.heap.size 33 2 v (anewP l 0 k).length (cells2 (anewP l 0 k)) ∧ Below w.heap.size w wr) (fun _ i _ => l.length - (intOf i).toNat)
            case atStart => exact ⟨0, by omega, by omega, rfl, World.ownsRow_nil _ _ _ _, Below.refl _ _⟩
            case round =>
              obtain ⟨k, hk0, hk1, rfl, hown2, hb2⟩ := hrel
              have hb2s := hb2.size
              have hpl := anewP_length l 0 k
              by_cases hlt : k < (l.length : Int) / 2
              · obtain ⟨m, hm⟩ : ∃ m, (l.length : Int) - 1 - k = m := ⟨_, rfl⟩
                have hm0 : 0 ≤ m := by omega
                have hm1 : m < (l.length : Int) := by omega
                have hkn : k < (l.length : Int) := by omega
                have hc0 : wr.cell? ⟨b, off + k.toNat, none⟩ = some (.int .i64 (geti l (0 + k))) := ((hb2.cell (p := ⟨b, off + k.toNat, none⟩) hbs)).trans (hcl k hk0 hkn)
                have hc1 : wr.cell? ⟨b, off + m.toNat, none⟩ = some (.int .i64 (geti l (0 + m))) := ((hb2.cell (p := ⟨b, off + m.toNat, none⟩) hbs)).trans (hcl m hm0 hm1)
                have Hs : Hid (anewP l 0 (k + 1) = anewP l 0 k ++ [(geti l (0 + k), geti l (0 + m))]) := by
                  show _ = _
                  rw [anewP_succ _ _ _ hk0, show (0 : Int) + m = l.length - 1 - k by have := HN.out; omega]
                generalize geti l (0 + k) = x at *
                generalize geti l (0 + m) = y at *
                have hA := @cell?_allocs
                have hw1 : IntKind.i64.wrap ((l.length : Int) - 1) = (l.length : Int) - 1 := IntWalk.i64_in _ (by omega)
                have hw2 : IntKind.i64.wrap ((l.length : Int) - 1 - k) = m := by rw [← hm]; exact IntWalk.i64_in _ (by omega)
                clear hcl hm
                go_wp2
                refine wp_region_calm [0, 1, 2, 3, 4, 5, 6, 7, 8, 9, 10, 11, 12, 13] [14, 15, 16] (by kernel_rfl) (by kernel_rfl) (by intro c a d v w h; cases d <;> exact h) ?_
                simp only [pickOps, List.filterMap_cons, List.filterMap_nil, List.getElem?_cons_succ, List.getElem?_cons_zero]
                repeat (refine wpCalm_step (fun K hK => ?_); go_simp; refine hK _ ?_; clear hK K)
                refine wpCalm_nil ?_
                try dsimp only
                clear hA
                clear hw1 hw2
                refine wpList_plain rfl fun K hK => ?_
                go_simp
                refine hK _ _ ?_
                clear hK K
                refine app_law rfl _ _ _ rfl hE (hown2.alloc _) rfl [.int .i64 x, .int .i64 y] rfl rfl (cells_at wr #[_, _] _ _ (by simp)) (by simp [Value.oneCell']) (by omega) (by simp; omega) ?_
                intro v' w2 hown3 hgr
                go_wp2
                have hb3 := below_grown (((hb2.alloc hb2s _)).drew) (hown2.alloc _) hgr (Nat.le_refl _) (by simp; omega)
                go_roundw
                case rel => exact ⟨k + 1, by omega, by omega, rfl, by rw [Hs.out, cells2_snoc, List.length_append]; exact hown3, hb3⟩
                case measure => simp [intOf]; omega
              · have hk2 := Lib.hid (show k = (l.length : Int) / 2 by have := HN.out; have := HD.out; omega)
                go_wp2
                go_ret2
                exact ⟨_, ret_vi E1.out.symm, by rw [E2.out, HD.out, ← hk2.out]; exact hown2, hb2⟩

end Go.Proofs.Ytkcjklgbadekjaa
