/-
  Fixed: the reference's. Conditions: as the program's.
-/
import Derived.Test.YtkcjklgbadekjaaFixed
namespace Go.Proofs.Ytkcjklgbadekjaa
open Go.RowKit Go.Bw

set_option maxRecDepth 100000 in
set_option maxHeartbeats 4000000 in
theorem fixed_ref (many : Int) (v : Value) (n : Nat) (l : List Int) (base : Nat) (w : World) (hn : n ≤ 1099511627776) (h : Row w base 1 v n (l.map (.int .i64))) :
    Calls Try.prog 19 #[.int .i64 many, v] w fun e w' => ∃ v', e = .returned (.tuple #[v', .int .i64 (fixE many l)]) ∧ w'.ownsRow w.heap.size 33 2 v' (fixR many l).length (cells2 (fixR many l)) ∧ Below w.heap.size w w' := by
  have hE := el_pair2
  obtain ⟨hlen, hcase⟩ := h.ints
  subst hlen
  have hrow := h
  clear h
  have hv : ∃ a cap, v = .slice a l.length cap := by
    rcases hcase with ⟨rfl, e⟩ | ⟨bz, off, cap, rfl, _⟩
    · exact ⟨none, 0, by rw [e]⟩
    · exact ⟨_, _, rfl⟩
  cases h : outB many 2 20
  case true =>
    obtain ⟨a, cap, rfl⟩ := hv
    obtain ⟨e1, e2⟩ := fix_1 (ws := l) h
    have E1 := Lib.hid e1
    have E2 := Lib.hid e2
    clear e1 e2
    clear hcase hrow
    go_enter Try.func19, Try.ntmps19
    go_wp2_with (go_at_call 8; refine (manyFault_ref _ _).mono ?_; rw [manyF_bad h]; rintro e w1 ⟨rfl, rfl⟩)
    go_ret2
    exact ⟨_, ret_vi E1.out.symm, by rw [E2.out]; exact World.ownsRow_nil _ _ _ _, Below.refl _ _⟩
  case false =>
    have h2 := outB_false h
    obtain ⟨hLr, hLp, hL32⟩ := bracketL_length many h2.1 h2.2
    clear hLr hLp
    by_cases hl20 : 20 < l.length
    · obtain ⟨a, cap, rfl⟩ := hv
      obtain ⟨e1, e2⟩ := fix_2 h hl20
      have E1 := Lib.hid e1
      have E2 := Lib.hid e2
      clear e1 e2
      clear hcase hrow
      go_enter Try.func19, Try.ntmps19
      go_wp2_with (first | (go_at_call 8; refine (manyFault_ref _ _).mono ?_; rw [manyF_ok h]; rintro e w1 ⟨rfl, rfl⟩) | (go_at_call 49; refine (bracket_any _ _ (by omega)).mono ?_; rintro e w1 ⟨g, capg, rfl, hown, hbel⟩))
      go_ret2
      exact ⟨_, ret_vi E1.out.symm, by rw [E2.out]; exact World.ownsRow_nil _ _ _ _, hbel⟩
    by_cases hl2 : l.length < 2
    · obtain ⟨a, cap, rfl⟩ := hv
      obtain ⟨e1, e2⟩ := fix_3 h hl20 (.inl hl2)
      have E1 := Lib.hid e1
      have E2 := Lib.hid e2
      clear e1 e2
      clear hcase hrow
      go_enter Try.func19, Try.ntmps19
      go_wp2_with (first | (go_at_call 8; refine (manyFault_ref _ _).mono ?_; rw [manyF_ok h]; rintro e w1 ⟨rfl, rfl⟩) | (go_at_call 49; refine (bracket_any _ _ (by omega)).mono ?_; rintro e w1 ⟨g, capg, rfl, hown, hbel⟩))
      go_ret2
      exact ⟨_, ret_vi E1.out.symm, by rw [E2.out]; exact World.ownsRow_nil _ _ _ _, hbel⟩
    cases ho : oddB l.length
    case true =>
      obtain ⟨a, cap, rfl⟩ := hv
      obtain ⟨e1, e2⟩ := fix_3 h hl20 (.inr (.inl ho))
      have E1 := Lib.hid e1
      have E2 := Lib.hid e2
      clear e1 e2
      have ho' : (bits BinOp.and IntKind.i64 (l.length : Int) ((l.length : Int) - 1) != 0) = true := ho
      clear hcase hrow ho
      go_enter Try.func19, Try.ntmps19
      go_wp2_with (first | (go_at_call 8; refine (manyFault_ref _ _).mono ?_; rw [manyF_ok h]; rintro e w1 ⟨rfl, rfl⟩) | (go_at_call 49; refine (bracket_any _ _ (by omega)).mono ?_; rintro e w1 ⟨g, capg, rfl, hown, hbel⟩))
      go_ret2
      exact ⟨_, ret_vi E1.out.symm, by rw [E2.out]; exact World.ownsRow_nil _ _ _ _, hbel⟩
    case false =>
      have ho' : (bits BinOp.and IntKind.i64 (l.length : Int) ((l.length : Int) - 1) != 0) = false := ho
      have hev := even_of l.length (by omega) (by omega) ho
      by_cases hLn : (bracketL many).length < 2 * l.length
      · obtain ⟨a, cap, rfl⟩ := hv
        obtain ⟨e1, e2⟩ := fix_3 h hl20 (.inr (.inr hLn))
        have E1 := Lib.hid e1
        have E2 := Lib.hid e2
        clear e1 e2
        clear hcase hrow ho
        go_enter Try.func19, Try.ntmps19
        go_wp2_with (first | (go_at_call 8; refine (manyFault_ref _ _).mono ?_; rw [manyF_ok h]; rintro e w1 ⟨rfl, rfl⟩) | (go_at_call 49; refine (bracket_any _ _ (by omega)).mono ?_; rintro e w1 ⟨g, capg, rfl, hown, hbel⟩))
        go_ret2
        exact ⟨_, ret_vi E1.out.symm, by rw [E2.out]; exact World.ownsRow_nil _ _ _ _, hbel⟩
      rcases hcase with ⟨rfl, e⟩ | ⟨b, off, cap, rfl, hbb, hbs, hnc, hcm, hcell⟩
      · omega
      have h3 : ¬ (l.length < 2 ∨ oddB l.length = true ∨ (bracketL many).length < 2 * l.length) := by
        rintro (h3 | h3 | h3)
        · omega
        · rw [ho] at h3; cases h3
        · omega
      have H3 := Lib.hid h3
      have hLev := bracket_even many h2.1 h2.2
      unfold maxLen at hcm
      clear hv ho h3
      have hn0 : ((l.length : Int) == 0) = false := by rw [beq_eq_false_iff_ne]; omega
      obtain ⟨P, hP⟩ : ∃ P, ((bracketL many).length : Int) / l.length = P := ⟨_, rfl⟩
      have hpb := part_bounds (bracketL many).length l.length 0 (by omega) (by omega) (by omega) (by omega)
      rw [hP] at hpb
      have hP1 : 1 ≤ P := hpb.2.2.2.1
      have hP32 : P ≤ 32 := by omega
      have HP := Lib.hid hP
      clear hpb
      go_enter Try.func19, Try.ntmps19
      go_wp2_with (first | (go_at_call 8; refine (manyFault_ref _ _).mono ?_; rw [manyF_ok h]; rintro e w1 ⟨rfl, rfl⟩) | (go_at_call 49; refine (bracket_any _ _ (by omega)).mono ?_; rintro e w1 ⟨g, capg, rfl, hown, hbel⟩))
      clear hP
      have hrow1 := hrow.below hbel
      have hcell1 : ∀ i : Int, 0 ≤ i → i < l.length → w1.cell? ⟨b, off + i.toNat, none⟩ = some (.int .i64 (geti l i)) := fun i h0 h1 => (hbel.cell (p := ⟨b, off + i.toNat, none⟩) hbs).trans (hcell i h0 h1)
      have hsz := owns_sizes hown
      have hbs1 : b < w1.heap.size := Nat.lt_of_lt_of_le hbs hbel.size
      have hrowg := Row.of_owns hown
      clear hcell hrow
      go_loop [49] (fun i => ∃ k : Int, 0 ≤ k ∧ k ≤ l.length ∧ i = .int .i64 k ∧ NoErr (fixAt many (bracketL many) l P) k) (fun i => l.length - (intOf i).toNat)
      case atStart => exact ⟨0, by omega, by omega, rfl, NoErr.zero _⟩
      case round =>
        obtain ⟨k, hk0, hk1, rfl, hne⟩ := hrel
        by_cases hlt : k < l.length
        · have hc := hcell1 k hk0 hlt
          have hpb := part_bounds (bracketL many).length l.length k hk0 hlt (by omega) (by omega)
          rw [HP.out] at hpb
          obtain ⟨lo, hlo⟩ : ∃ lo, k * P = lo := ⟨_, rfl⟩
          obtain ⟨hi, hhi⟩ : ∃ hi, (k + 1) * P = hi := ⟨_, rfl⟩
          rw [hlo, hhi] at hpb
          obtain ⟨q1, q2, q3, _, _⟩ := hpb
          have q4 : hi ≤ 32 := by omega
          have q5 : lo ≤ 32 := by omega
          have q6 : ¬ capg = lo.toNat := by omega
          have q7 : lo ≤ hi := by omega
          have q8 : 0 ≤ hi := by omega
          have q9 : hi ≤ (capg : Int) := by omega
          have hk20 : k ≤ 20 := by omega
          have q10 : k ≤ (cap : Int) := by omega
          have hR2 : Row w1 w.heap.size 1 (.slice (some ⟨g, lo.toNat, none⟩) (hi.toNat - lo.toNat) (capg - lo.toNat)) (hi.toNat - lo.toNat) ((subl (bracketL many) lo hi).map (.int .i64)) := by
            have := hrowg.sub lo hi q1 q7 q3
            rwa [Nat.zero_add, show (hi - lo).toNat = hi.toNat - lo.toNat by omega] at this
          have hR1 : Row w1 base 1 (.slice (some ⟨b, off, none⟩) k.toNat cap) k.toNat ((subl l 0 k).map (.int .i64)) := by
            have := hrow1.sub 0 k (by omega) hk0 hk1
            simpa using this
          have HF : Hid (∀ c, fixAt many (bracketL many) l P k = c → (if outB (geti l k) 1 many then 1 else if hasI (subl l 0 k) (geti l k) then 6 else if hasI (subl (bracketL many) lo hi) (geti l k) then 0 else 13) = c) := by
            intro c hc
            rw [← hc, ← hlo, ← hhi]
            rfl
          have HF2 : fixAt many (bracketL many) l P k = (if outB (geti l k) 1 many then 1 else if hasI (subl l 0 k) (geti l k) then 6 else if hasI (subl (bracketL many) lo hi) (geti l k) then 0 else 13) := by
            rw [← hlo, ← hhi]; rfl
          clear HF
          cases c1 : outB (geti l k) 1 many
          · cases c2 : hasI (subl l 0 k) (geti l k)
            · cases c3 : hasI (subl (bracketL many) lo hi) (geti l k)
              · obtain ⟨e1, e2⟩ := fix_hit HP.out h hl20 H3.out hne hk0 hlt (show _ = 13 by rw [HF2]; simp [c1, c2, c3]) (by decide)
                have E1 := Lib.hid e1
                have E2 := Lib.hid e2
                clear e1 e2
                clear hne HF2
                go_wp2_with (first | (go_at_call 48; refine (in_any _ _ _ _).mono ?_; rintro e w2 ⟨rfl, rfl⟩) | (go_at_call_of 55 (Value.slice (some ⟨b, off, none⟩) k.toNat cap); refine (contains_int _ _ _ _ _ _ hR1).mono ?_; rintro e w3 ⟨rfl, rfl⟩) | (go_at_call 55; refine (contains_int _ _ _ _ _ _ hR2).mono ?_; rintro e w3 ⟨rfl, rfl⟩))
                go_ret2
                exact ⟨_, ret_vi E1.out.symm, by rw [E2.out]; exact World.ownsRow_nil _ _ _ _, hbel⟩
              · have hst := hne.step (show _ = (0 : Int) by rw [HF2]; simp [c1, c2, c3])
                clear hne HF2
                go_wp2_with (first | (go_at_call 48; refine (in_any _ _ _ _).mono ?_; rintro e w2 ⟨rfl, rfl⟩) | (go_at_call_of 55 (Value.slice (some ⟨b, off, none⟩) k.toNat cap); refine (contains_int _ _ _ _ _ _ hR1).mono ?_; rintro e w3 ⟨rfl, rfl⟩) | (go_at_call 55; refine (contains_int _ _ _ _ _ _ hR2).mono ?_; rintro e w3 ⟨rfl, rfl⟩))
                go_round
                case rel => exact ⟨_, by omega, by omega, rfl, hst⟩
                case measure => simp [intOf]; omega
            · obtain ⟨e1, e2⟩ := fix_hit HP.out h hl20 H3.out hne hk0 hlt (show _ = 6 by rw [HF2]; simp [c1, c2]) (by decide)
              have E1 := Lib.hid e1
              have E2 := Lib.hid e2
              clear e1 e2
              clear hne HF2
              go_wp2_with (first | (go_at_call 48; refine (in_any _ _ _ _).mono ?_; rintro e w2 ⟨rfl, rfl⟩) | (go_at_call_of 55 (Value.slice (some ⟨b, off, none⟩) k.toNat cap); refine (contains_int _ _ _ _ _ _ hR1).mono ?_; rintro e w3 ⟨rfl, rfl⟩) | (go_at_call 55; refine (contains_int _ _ _ _ _ _ hR2).mono ?_; rintro e w3 ⟨rfl, rfl⟩))
              go_ret2
              exact ⟨_, ret_vi E1.out.symm, by rw [E2.out]; exact World.ownsRow_nil _ _ _ _, hbel⟩
          · obtain ⟨e1, e2⟩ := fix_hit HP.out h hl20 H3.out hne hk0 hlt (show _ = 1 by rw [HF2]; simp [c1]) (by decide)
            have E1 := Lib.hid e1
            have E2 := Lib.hid e2
            clear e1 e2
            clear hne HF2
            go_wp2_with (first | (go_at_call 48; refine (in_any _ _ _ _).mono ?_; rintro e w2 ⟨rfl, rfl⟩) | (go_at_call_of 55 (Value.slice (some ⟨b, off, none⟩) k.toNat cap); refine (contains_int _ _ _ _ _ _ hR1).mono ?_; rintro e w3 ⟨rfl, rfl⟩) | (go_at_call 55; refine (contains_int _ _ _ _ _ _ hR2).mono ?_; rintro e w3 ⟨rfl, rfl⟩))
            go_ret2
            exact ⟨_, ret_vi E1.out.symm, by rw [E2.out]; exact World.ownsRow_nil _ _ _ _, hbel⟩
        · obtain rfl : k = l.length := by omega
          obtain ⟨e1, e2⟩ := fix_0 HP.out h hl20 H3.out hne
          have E1 := Lib.hid e1
          have E2 := Lib.hid e2
          clear e1 e2
          have hle : ∀ i : Int, 0 ≤ i → i < l.length → geti l i ≤ many := by
            intro i h0 h1
            have := hne i h0 h1
            unfold fixAt at this
            cases hob : outB (geti l i) 1 many
            · exact (outB_false hob).2
            · rw [hob] at this; simp at this
          clear hne
          go_wp2
          go_loopw [12, 13] (fun v i wr => ∃ k : Int, 0 ≤ k ∧ 2 * k ≤ l.length ∧ i = .int .i64 (2 * k) ∧ wr.ownsRow w1.heap.size 33 2 v k.toNat (cells2 (gms many l k)) ∧ Below w1.heap.size w1 wr) (fun _ i _ => l.length - (intOf i).toNat)
          case atStart => exact ⟨0, by omega, by omega, rfl, World.ownsRow_nil _ _ _ _, Below.refl _ _⟩
          case round =>
            obtain ⟨k, hk0, hk1, rfl, hown2, hb2⟩ := hrel
            by_cases hlt : 2 * k < l.length
            · have hj1 : 2 * k + 1 < l.length := by omega
              have hc0 : wr.cell? ⟨b, off + (2 * k).toNat, none⟩ = some (.int .i64 (geti l (2 * k))) := (hb2.cell (p := ⟨b, off + (2 * k).toNat, none⟩) hbs1).trans (hcell1 _ (by omega) hlt)
              have hc1 : wr.cell? ⟨b, off + (2 * k + 1).toNat, none⟩ = some (.int .i64 (geti l (2 * k + 1))) := (hb2.cell (p := ⟨b, off + (2 * k + 1).toNat, none⟩) hbs1).trans (hcell1 _ (by omega) hj1)
              have hl1 := hle (2 * k) (by omega) hlt
              have hl2' := hle (2 * k + 1) (by omega) hj1
              obtain ⟨x, hx⟩ : ∃ x, x = geti l (2 * k) := ⟨_, rfl⟩
              obtain ⟨y, hy⟩ : ∃ y, y = geti l (2 * k + 1) := ⟨_, rfl⟩
              rw [← hx] at hc0 hl1
              rw [← hy] at hc1 hl2'
              have Hgm : Hid (gm many l (2 * k) = (min x y, max x y)) := by
                show _ = _
                unfold gm
                rw [← hx, ← hy, if_neg (by omega)]
              have hszr := hb2.size
              have hwr : IntKind.i64.wrap (2 * k + 1) = 2 * k + 1 := IntWalk.i64_in _ (by omega)
              have hjj : 0 ≤ 2 * k + 1 := by omega
              have hj0 : 0 ≤ 2 * k := by omega
              have hA := @cell?_allocs
              clear hcell1 hx hy hle hl1 hl2'
              go_wp2
              refine wp_region_calm [0, 1, 2, 3, 4, 5, 6, 7, 8, 9, 10, 11, 12, 13, 14, 15, 16, 17, 18, 19, 20, 21] [22, 23, 24] (by kernel_rfl) (by kernel_rfl) (by intro c a d v w h; cases d <;> exact h) ?_
              simp only [pickOps, List.filterMap_cons, List.filterMap_nil, List.getElem?_cons_succ, List.getElem?_cons_zero]
              repeat (refine wpCalm_step (fun K hK => ?_); go_simp; refine hK _ ?_; clear hK K)
              refine wpCalm_nil ?_
              try dsimp only
              clear hA hwr
              refine wpList_plain rfl fun K hK => ?_
              go_simp
              refine hK _ _ ?_
              clear hK K
              refine app_law rfl _ _ _ rfl hE (hown2.alloc _) rfl [.int .i64 (min x y), .int .i64 (max x y)] rfl rfl (cells_at wr #[_, _] _ _ (by simp)) (by simp [Value.oneCell']) (by omega) (by simp; omega) ?_
              intro v' w2 hown3 hgr
              go_wp2
              have hb3 := below_grown (((hb2.alloc hszr _)).drew) (hown2.alloc _) hgr (Nat.le_refl _) (by simp; omega)
              have hn3 : cells2 (gms many l (k + 1)) = cells2 (gms many l k) ++ [.int .i64 (min x y), .int .i64 (max x y)] := by rw [gms_succ _ _ _ hk0, cells2_snoc, Hgm.out]
              go_roundw
              case rel => exact ⟨k + 1, by omega, by omega, by first | rfl | (congr 1; omega), by rw [hn3, show (k + 1).toNat = k.toNat + 1 by omega]; exact hown3, hb3⟩
              case measure => simp [intOf]; omega
            · have hk2 := Lib.hid (show k = (l.length : Int) / 2 by omega)
              clear hcell1 hle
              go_wp2
              go_ret2
              exact ⟨_, ret_vi E1.out.symm, by rw [E2.out, gms_length, ← hk2.out]; exact owns_mono hown2 hbel.size, hbel.trans (hb2.mono hbel.size)⟩


end Go.Proofs.Ytkcjklgbadekjaa
