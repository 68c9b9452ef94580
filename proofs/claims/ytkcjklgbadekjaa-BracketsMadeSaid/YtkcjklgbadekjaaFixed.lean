/-
  Fixed and First: the program's and the reference's. Conditions: a list of winners of fewer than 2^40 numbers.
-/
import Derived.Test.YtkcjklgbadekjaaPaired
namespace Go.Proofs.Ytkcjklgbadekjaa
open Go.RowKit Go.Bw

/-- What is wrong with winner i. -/
def fixAt (many : Int) (all ws : List Int) (part i : Int) : Int :=
  if outB (geti ws i) 1 many then 1 else if hasI (subl ws 0 i) (geti ws i) then 6 else if hasI (subl all (i * part) ((i + 1) * part)) (geti ws i) then 0 else 13
def oddB (n : Int) : Bool := bits BinOp.and IntKind.i64 n (n - 1) != 0
def fixE (many : Int) (ws : List Int) : Int :=
  if outB many 2 20 then 1 else if 20 < ws.length then 2 else if ws.length < 2 ∨ oddB ws.length = true ∨ (bracketL many).length < 2 * ws.length then 3
  else firstErr (fixAt many (bracketL many) ws ((bracketL many).length / ws.length)) ws.length
def fixR (many : Int) (ws : List Int) : List (Int × Int) := if fixE many ws = 0 then gms many ws (ws.length / 2) else []

theorem fix_1 {many : Int} {ws : List Int} (h : outB many 2 20 = true) : fixE many ws = 1 ∧ fixR many ws = [] := by
  have : fixE many ws = 1 := by simp [fixE, h]
  exact ⟨this, by simp [fixR, this]⟩
theorem fix_2 {many : Int} {ws : List Int} (h : outB many 2 20 = false) (h2 : 20 < ws.length) : fixE many ws = 2 ∧ fixR many ws = [] := by
  have : fixE many ws = 2 := by simp [fixE, h, h2]
  exact ⟨this, by simp [fixR, this]⟩
theorem fix_3 {many : Int} {ws : List Int} (h : outB many 2 20 = false) (h2 : ¬ 20 < ws.length) (h3 : ws.length < 2 ∨ oddB ws.length = true ∨ (bracketL many).length < 2 * ws.length) : fixE many ws = 3 ∧ fixR many ws = [] := by
  have : fixE many ws = 3 := by unfold fixE; rw [if_neg (by simp [h]), if_neg h2, if_pos h3]
  exact ⟨this, by simp [fixR, this]⟩
theorem fix_f {many : Int} {ws : List Int} (h : outB many 2 20 = false) (h2 : ¬ 20 < ws.length) (h3 : ¬ (ws.length < 2 ∨ oddB ws.length = true ∨ (bracketL many).length < 2 * ws.length)) :
    fixE many ws = firstErr (fixAt many (bracketL many) ws ((bracketL many).length / ws.length)) ws.length := by
  unfold fixE; rw [if_neg (by simp [h]), if_neg h2, if_neg h3]
theorem fix_hit {many : Int} {ws : List Int} {P : Int} (hP : ((bracketL many).length : Int) / ws.length = P) (h : outB many 2 20 = false) (h2 : ¬ 20 < ws.length) (h3 : ¬ (ws.length < 2 ∨ oddB ws.length = true ∨ (bracketL many).length < 2 * ws.length)) {i c : Int}
    (hn : NoErr (fixAt many (bracketL many) ws P) i) (h0 : 0 ≤ i) (h1 : i < ws.length) (hc : fixAt many (bracketL many) ws P i = c) (hne : c ≠ 0) : fixE many ws = c ∧ fixR many ws = [] := by
  subst hP
  have : fixE many ws = c := by rw [fix_f h h2 h3, firstErr_hit hn h0 h1 (by rw [hc]; exact hne), hc]
  exact ⟨this, by simp [fixR, this, hne]⟩
theorem fix_0 {many : Int} {ws : List Int} {P : Int} (hP : ((bracketL many).length : Int) / ws.length = P) (h : outB many 2 20 = false) (h2 : ¬ 20 < ws.length) (h3 : ¬ (ws.length < 2 ∨ oddB ws.length = true ∨ (bracketL many).length < 2 * ws.length))
    (hn : NoErr (fixAt many (bracketL many) ws P) ws.length) : fixE many ws = 0 ∧ fixR many ws = gms many ws (ws.length / 2) := by
  subst hP
  have : fixE many ws = 0 := by rw [fix_f h h2 h3, firstErr_none hn]
  exact ⟨this, by simp [fixR, this]⟩

theorem even_of (n : Nat) (h : 2 ≤ n) (h' : n ≤ 20) (ho : oddB n = false) : n % 2 = 0 := by
  have : n = 2 ∨ n = 3 ∨ n = 4 ∨ n = 5 ∨ n = 6 ∨ n = 7 ∨ n = 8 ∨ n = 9 ∨ n = 10 ∨ n = 11 ∨ n = 12 ∨ n = 13 ∨ n = 14 ∨ n = 15 ∨ n = 16 ∨ n = 17 ∨ n = 18 ∨ n = 19 ∨ n = 20 := by omega
  rcases this with rfl | rfl | rfl | rfl | rfl | rfl | rfl | rfl | rfl | rfl | rfl | rfl | rfl | rfl | rfl | rfl | rfl | rfl | rfl
  all_goals first | rfl | exact absurd ho (by decide +kernel)

/-- The part of winner k. -/
theorem part_bounds (L n : Nat) (k : Int) (h0 : 0 ≤ k) (h1 : k < n) (hL : L ≤ 64) (hn : 2 * n ≤ L) : 0 ≤ k * ((L : Int) / n) ∧ k * ((L : Int) / n) < (k + 1) * ((L : Int) / n) ∧ (k + 1) * ((L : Int) / n) ≤ L ∧ 1 ≤ (L : Int) / n ∧ (L : Int) / n ≤ L := by
  have hn0 : (0 : Int) < n := by omega
  have hp : 1 ≤ (L : Int) / n := by
    have : (1 : Int) * n ≤ L := by omega
    exact (Int.le_ediv_iff_mul_le hn0).2 this
  have hm : (n : Int) * ((L : Int) / n) ≤ L := Int.mul_ediv_self_le (by omega)
  have h2 : (k + 1) * ((L : Int) / n) ≤ n * ((L : Int) / n) := Int.mul_le_mul_of_nonneg_right (by omega) (by omega)
  have h3 : (k + 1) * ((L : Int) / n) = k * ((L : Int) / n) + (L : Int) / n := by rw [Int.add_mul, Int.one_mul]
  have h4 : 0 ≤ k * ((L : Int) / n) := Int.mul_nonneg h0 (by omega)
  have h5 : (L : Int) / n ≤ L := Int.ediv_le_self _ (by omega)
  omega

theorem paired_n (many : Int) (l : List Int) (b off cap n N : Nat) (w : World) (hn : n = 2 * N) (hN : N ≤ 32) (hl : l.length = n) (hcap : n ≤ cap) (hcm : cap ≤ 9223372036854775807) (hb : b < w.heap.size)
    (hcell : ∀ i : Int, 0 ≤ i → i < l.length → w.cell? ⟨b, off + i.toNat, none⟩ = some (.int .i64 (geti l i))) :
    Calls Try.prog 52 #[.slice (some ⟨b, off, none⟩) n cap, .int .i64 many] w fun e w' => ∃ v, e = .returned v ∧ w'.ownsRow w.heap.size 33 2 v N (cells2 (gms many l N)) ∧ Below w.heap.size w w' := by
  subst hn
  exact paired_any many l b off cap N w hN hl hcap hcm hb hcell

def firstR (many : Int) : List (Int × Int) := if outB many 2 20 then [] else gms many (bracketL many) ((bracketL many).length / 2)

theorem bracket_even (many : Int) (hm : 2 ≤ many) (hm' : many ≤ 20) : (bracketL many).length % 2 = 0 := by
  have hL := bracketL_length many hm hm'
  have h1 : 1 ≤ roundsF many := by
    unfold roundsF; repeat' split
    all_goals omega
  have h2 : roundsF many = 1 ∨ roundsF many = 2 ∨ roundsF many = 3 ∨ roundsF many = 4 ∨ roundsF many = 5 := by have := roundsF_le many; omega
  have := hL.2.1
  rcases h2 with h2 | h2 | h2 | h2 | h2 <;> rw [h2] at this <;> simp at this <;> omega

set_option maxRecDepth 100000 in
set_option maxHeartbeats 1000000 in
theorem first_prog (many : Int) (w : World) : Calls Try.prog 13 #[.int .i64 many] w fun e w' => ∃ v, e = .returned (.tuple #[v, .int .i64 (manyF many)]) ∧ w'.ownsRow w.heap.size 33 2 v (firstR many).length (cells2 (firstR many)) ∧ Below w.heap.size w w' := by
  cases h : outB many 2 20
  · have h2 := outB_false h
    have hL := (bracketL_length many h2.1 h2.2).2.2
    have hev := bracket_even many h2.1 h2.2
    have hR := Lib.hid (show firstR many = gms many (bracketL many) ((bracketL many).length / 2) by simp [firstR, h])
    rw [manyF_ok h]
    go_enter Try.func13, Try.ntmps13
    go_wp2_with (first | (go_at_call 51; refine (manyFault_prog _ _).mono ?_; rw [manyF_ok h]; rintro e w1 ⟨rfl, rfl⟩) | (go_at_call 53; refine (places_any _ _ (by omega)).mono ?_; rintro e w1 ⟨g, cap, rfl, hown, hbel⟩; have hsz := owns_sizes hown) | (go_at_call 52; refine (paired_n many (bracketL many) g 0 cap _ ((bracketL many).length / 2) _ (by omega) (by omega) rfl hsz.2.2.1 hsz.2.2.2 hsz.2.1 (by intro i h0 h1; rw [Nat.zero_add]; exact ints_of_owns hown i h0 h1)).mono ?_; rintro e w2 ⟨v2, rfl, hown2, hbel2⟩))
    go_ret2
    exact ⟨_, rfl, by rw [hR.out, gms_length, show (((bracketL many).length : Int) / 2).toNat = (bracketL many).length / 2 by omega]; exact owns_mono hown2 hbel.size, hbel.trans (hbel2.mono hbel.size)⟩
  · have hR := Lib.hid (show firstR many = [] by simp [firstR, h])
    rw [manyF_bad h]
    go_enter Try.func13, Try.ntmps13
    go_wp2_with (go_at_call 51; refine (manyFault_prog _ _).mono ?_; rw [manyF_bad h]; rintro e w1 ⟨rfl, rfl⟩)
    go_ret2
    exact ⟨_, rfl, by rw [hR.out]; exact World.ownsRow_nil _ _ _ _, Below.refl _ _⟩

set_option maxRecDepth 100000 in
set_option maxHeartbeats 4000000 in
theorem fixed_prog (many : Int) (v : Value) (n : Nat) (l : List Int) (base : Nat) (w : World) (hn : n ≤ 1099511627776) (h : Row w base 1 v n (l.map (.int .i64))) :
    Calls Try.prog 14 #[.int .i64 many, v] w fun e w' => ∃ v', e = .returned (.tuple #[v', .int .i64 (fixE many l)]) ∧ w'.ownsRow w.heap.size 33 2 v' (fixR many l).length (cells2 (fixR many l)) ∧ Below w.heap.size w w' := by
  have hE := el_pair2
  obtain ⟨hlen, hcase⟩ := h.ints
  subst hlen
  have hrow := h
  clear h
  have hv : ∃ a cap, v = .slice a l.length cap := by
    rcases hcase with ⟨rfl, e⟩ | ⟨bz, off, cap, rfl, _⟩
    · exact ⟨none, 0, by rw [e]⟩
    · exact ⟨_, _, rfl⟩
  cases h : outB many 2 20
  case true =>
    obtain ⟨a, cap, rfl⟩ := hv
    obtain ⟨e1, e2⟩ := fix_1 (ws := l) h
    have E1 := Lib.hid e1
    have E2 := Lib.hid e2
    clear e1 e2
    clear hcase hrow
    go_enter Try.func14, Try.ntmps14
    go_wp2_with (go_at_call 51; refine (manyFault_prog _ _).mono ?_; rw [manyF_bad h]; rintro e w1 ⟨rfl, rfl⟩)
    go_ret2
    exact ⟨_, ret_vi E1.out.symm, by rw [E2.out]; exact World.ownsRow_nil _ _ _ _, Below.refl _ _⟩
  case false =>
    have h2 := outB_false h
    obtain ⟨hLr, hLp, hL32⟩ := bracketL_length many h2.1 h2.2
    clear hLr hLp
    by_cases hl20 : 20 < l.length
    · obtain ⟨a, cap, rfl⟩ := hv
      obtain ⟨e1, e2⟩ := fix_2 h hl20
      have E1 := Lib.hid e1
      have E2 := Lib.hid e2
      clear e1 e2
      clear hcase hrow
      go_enter Try.func14, Try.ntmps14
      go_wp2_with (first | (go_at_call 51; refine (manyFault_prog _ _).mono ?_; rw [manyF_ok h]; rintro e w1 ⟨rfl, rfl⟩) | (go_at_call 53; refine (places_any _ _ (by omega)).mono ?_; rintro e w1 ⟨g, capg, rfl, hown, hbel⟩))
      go_ret2
      exact ⟨_, ret_vi E1.out.symm, by rw [E2.out]; exact World.ownsRow_nil _ _ _ _, hbel⟩
    by_cases hl2 : l.length < 2
    · obtain ⟨a, cap, rfl⟩ := hv
      obtain ⟨e1, e2⟩ := fix_3 h hl20 (.inl hl2)
      have E1 := Lib.hid e1
      have E2 := Lib.hid e2
      clear e1 e2
      clear hcase hrow
      go_enter Try.func14, Try.ntmps14
      go_wp2_with (first | (go_at_call 51; refine (manyFault_prog _ _).mono ?_; rw [manyF_ok h]; rintro e w1 ⟨rfl, rfl⟩) | (go_at_call 53; refine (places_any _ _ (by omega)).mono ?_; rintro e w1 ⟨g, capg, rfl, hown, hbel⟩))
      go_ret2
      exact ⟨_, ret_vi E1.out.symm, by rw [E2.out]; exact World.ownsRow_nil _ _ _ _, hbel⟩
    cases ho : oddB l.length
    case true =>
      obtain ⟨a, cap, rfl⟩ := hv
      obtain ⟨e1, e2⟩ := fix_3 h hl20 (.inr (.inl ho))
      have E1 := Lib.hid e1
      have E2 := Lib.hid e2
      clear e1 e2
      have ho' : (bits BinOp.and IntKind.i64 (l.length : Int) ((l.length : Int) - 1) != 0) = true := ho
      clear hcase hrow ho
      go_enter Try.func14, Try.ntmps14
      go_wp2_with (first | (go_at_call 51; refine (manyFault_prog _ _).mono ?_; rw [manyF_ok h]; rintro e w1 ⟨rfl, rfl⟩) | (go_at_call 53; refine (places_any _ _ (by omega)).mono ?_; rintro e w1 ⟨g, capg, rfl, hown, hbel⟩))
      go_ret2
      exact ⟨_, ret_vi E1.out.symm, by rw [E2.out]; exact World.ownsRow_nil _ _ _ _, hbel⟩
    case false =>
      have ho' : (bits BinOp.and IntKind.i64 (l.length : Int) ((l.length : Int) - 1) != 0) = false := ho
      have hev := even_of l.length (by omega) (by omega) ho
      by_cases hLn : (bracketL many).length < 2 * l.length
      · obtain ⟨a, cap, rfl⟩ := hv
        obtain ⟨e1, e2⟩ := fix_3 h hl20 (.inr (.inr hLn))
        have E1 := Lib.hid e1
        have E2 := Lib.hid e2
        clear e1 e2
        clear hcase hrow ho
        go_enter Try.func14, Try.ntmps14
        go_wp2_with (first | (go_at_call 51; refine (manyFault_prog _ _).mono ?_; rw [manyF_ok h]; rintro e w1 ⟨rfl, rfl⟩) | (go_at_call 53; refine (places_any _ _ (by omega)).mono ?_; rintro e w1 ⟨g, capg, rfl, hown, hbel⟩))
        go_ret2
        exact ⟨_, ret_vi E1.out.symm, by rw [E2.out]; exact World.ownsRow_nil _ _ _ _, hbel⟩
      rcases hcase with ⟨rfl, e⟩ | ⟨b, off, cap, rfl, hbb, hbs, hnc, hcm, hcell⟩
      · omega
      have h3 : ¬ (l.length < 2 ∨ oddB l.length = true ∨ (bracketL many).length < 2 * l.length) := by
        rintro (h3 | h3 | h3)
        · omega
        · rw [ho] at h3; cases h3
        · omega
      have H3 := Lib.hid h3
      have hLev := bracket_even many h2.1 h2.2
      unfold maxLen at hcm
      clear hv ho h3
      have hn0 : ((l.length : Int) == 0) = false := by rw [beq_eq_false_iff_ne]; omega
      obtain ⟨P, hP⟩ : ∃ P, ((bracketL many).length : Int) / l.length = P := ⟨_, rfl⟩
      have hpb := part_bounds (bracketL many).length l.length 0 (by omega) (by omega) (by omega) (by omega)
      rw [hP] at hpb
      have hP1 : 1 ≤ P := hpb.2.2.2.1
      have hP32 : P ≤ 32 := by omega
      have HP := Lib.hid hP
      clear hpb
      go_enter Try.func14, Try.ntmps14
      go_wp2_with (first | (go_at_call 51; refine (manyFault_prog _ _).mono ?_; rw [manyF_ok h]; rintro e w1 ⟨rfl, rfl⟩) | (go_at_call 53; refine (places_any _ _ (by omega)).mono ?_; rintro e w1 ⟨g, capg, rfl, hown, hbel⟩))
      clear hP
      have hrow1 := hrow.below hbel
      have hcell1 : ∀ i : Int, 0 ≤ i → i < l.length → w1.cell? ⟨b, off + i.toNat, none⟩ = some (.int .i64 (geti l i)) := fun i h0 h1 => (hbel.cell (p := ⟨b, off + i.toNat, none⟩) hbs).trans (hcell i h0 h1)
      have hsz := owns_sizes hown
      have hbs1 : b < w1.heap.size := Nat.lt_of_lt_of_le hbs hbel.size
      have hrowg := Row.of_owns hown
      clear hcell hrow
      go_loop [47] (fun i => ∃ k : Int, 0 ≤ k ∧ k ≤ l.length ∧ i = .int .i64 k ∧ NoErr (fixAt many (bracketL many) l P) k) (fun i => l.length - (intOf i).toNat)
      case atStart => exact ⟨0, by omega, by omega, rfl, NoErr.zero _⟩
      case round =>
        obtain ⟨k, hk0, hk1, rfl, hne⟩ := hrel
        by_cases hlt : k < l.length
        · have hc := hcell1 k hk0 hlt
          have hpb := part_bounds (bracketL many).length l.length k hk0 hlt (by omega) (by omega)
          rw [HP.out] at hpb
          obtain ⟨lo, hlo⟩ : ∃ lo, k * P = lo := ⟨_, rfl⟩
          obtain ⟨hi, hhi⟩ : ∃ hi, (k + 1) * P = hi := ⟨_, rfl⟩
          rw [hlo, hhi] at hpb
          obtain ⟨q1, q2, q3, _, _⟩ := hpb
          have q4 : hi ≤ 32 := by omega
          have q5 : lo ≤ 32 := by omega
          have q6 : ¬ capg = lo.toNat := by omega
          have q7 : lo ≤ hi := by omega
          have q8 : 0 ≤ hi := by omega
          have q9 : hi ≤ (capg : Int) := by omega
          have hk20 : k ≤ 20 := by omega
          have q10 : k ≤ (cap : Int) := by omega
          have hR2 : Row w1 w.heap.size 1 (.slice (some ⟨g, lo.toNat, none⟩) (hi.toNat - lo.toNat) (capg - lo.toNat)) (hi.toNat - lo.toNat) ((subl (bracketL many) lo hi).map (.int .i64)) := by
            have := hrowg.sub lo hi q1 q7 q3
            rwa [Nat.zero_add, show (hi - lo).toNat = hi.toNat - lo.toNat by omega] at this
          have hR1 : Row w1 base 1 (.slice (some ⟨b, off, none⟩) k.toNat cap) k.toNat ((subl l 0 k).map (.int .i64)) := by
            have := hrow1.sub 0 k (by omega) hk0 hk1
            simpa using this
          have HF : Hid (∀ c, fixAt many (bracketL many) l P k = c → (if outB (geti l k) 1 many then 1 else if hasI (subl l 0 k) (geti l k) then 6 else if hasI (subl (bracketL many) lo hi) (geti l k) then 0 else 13) = c) := by
            intro c hc
            rw [← hc, ← hlo, ← hhi]
            rfl
          have HF2 : fixAt many (bracketL many) l P k = (if outB (geti l k) 1 many then 1 else if hasI (subl l 0 k) (geti l k) then 6 else if hasI (subl (bracketL many) lo hi) (geti l k) then 0 else 13) := by
            rw [← hlo, ← hhi]; rfl
          clear HF
          cases c1 : outB (geti l k) 1 many
          · cases c2 : hasI (subl l 0 k) (geti l k)
            · cases c3 : hasI (subl (bracketL many) lo hi) (geti l k)
              · obtain ⟨e1, e2⟩ := fix_hit HP.out h hl20 H3.out hne hk0 hlt (show _ = 13 by rw [HF2]; simp [c1, c2, c3]) (by decide)
                have E1 := Lib.hid e1
                have E2 := Lib.hid e2
                clear e1 e2
                clear hne HF2
                go_wp2_with (first | (go_at_call 54; refine (out_any _ _ _ _).mono ?_; rintro e w2 ⟨rfl, rfl⟩) | (go_at_call_of 55 (Value.slice (some ⟨b, off, none⟩) k.toNat cap); refine (contains_int _ _ _ _ _ _ hR1).mono ?_; rintro e w3 ⟨rfl, rfl⟩) | (go_at_call 55; refine (contains_int _ _ _ _ _ _ hR2).mono ?_; rintro e w3 ⟨rfl, rfl⟩))
                go_ret2
                exact ⟨_, ret_vi E1.out.symm, by rw [E2.out]; exact World.ownsRow_nil _ _ _ _, hbel⟩
              · have hst := hne.step (show _ = (0 : Int) by rw [HF2]; simp [c1, c2, c3])
                clear hne HF2
                go_wp2_with (first | (go_at_call 54; refine (out_any _ _ _ _).mono ?_; rintro e w2 ⟨rfl, rfl⟩) | (go_at_call_of 55 (Value.slice (some ⟨b, off, none⟩) k.toNat cap); refine (contains_int _ _ _ _ _ _ hR1).mono ?_; rintro e w3 ⟨rfl, rfl⟩) | (go_at_call 55; refine (contains_int _ _ _ _ _ _ hR2).mono ?_; rintro e w3 ⟨rfl, rfl⟩))
                go_round
                case rel => exact ⟨_, by omega, by omega, rfl, hst⟩
                case measure => simp [intOf]; omega
            · obtain ⟨e1, e2⟩ := fix_hit HP.out h hl20 H3.out hne hk0 hlt (show _ = 6 by rw [HF2]; simp [c1, c2]) (by decide)
              have E1 := Lib.hid e1
              have E2 := Lib.hid e2
              clear e1 e2
              clear hne HF2
              go_wp2_with (first | (go_at_call 54; refine (out_any _ _ _ _).mono ?_; rintro e w2 ⟨rfl, rfl⟩) | (go_at_call_of 55 (Value.slice (some ⟨b, off, none⟩) k.toNat cap); refine (contains_int _ _ _ _ _ _ hR1).mono ?_; rintro e w3 ⟨rfl, rfl⟩) | (go_at_call 55; refine (contains_int _ _ _ _ _ _ hR2).mono ?_; rintro e w3 ⟨rfl, rfl⟩))
              go_ret2
              exact ⟨_, ret_vi E1.out.symm, by rw [E2.out]; exact World.ownsRow_nil _ _ _ _, hbel⟩
          · obtain ⟨e1, e2⟩ := fix_hit HP.out h hl20 H3.out hne hk0 hlt (show _ = 1 by rw [HF2]; simp [c1]) (by decide)
            have E1 := Lib.hid e1
            have E2 := Lib.hid e2
            clear e1 e2
            clear hne HF2
            go_wp2_with (first | (go_at_call 54; refine (out_any _ _ _ _).mono ?_; rintro e w2 ⟨rfl, rfl⟩) | (go_at_call_of 55 (Value.slice (some ⟨b, off, none⟩) k.toNat cap); refine (contains_int _ _ _ _ _ _ hR1).mono ?_; rintro e w3 ⟨rfl, rfl⟩) | (go_at_call 55; refine (contains_int _ _ _ _ _ _ hR2).mono ?_; rintro e w3 ⟨rfl, rfl⟩))
            go_ret2
            exact ⟨_, ret_vi E1.out.symm, by rw [E2.out]; exact World.ownsRow_nil _ _ _ _, hbel⟩
        · obtain rfl : k = l.length := by omega
          obtain ⟨e1, e2⟩ := fix_0 HP.out h hl20 H3.out hne
          have E1 := Lib.hid e1
          have E2 := Lib.hid e2
          clear e1 e2
          clear hne
          go_wp2_with (go_at_call 52; refine (paired_n many l b off cap l.length (l.length / 2) _ (by omega) (by omega) rfl hnc hcm hbs1 hcell1).mono ?_; rintro e w4 ⟨v4, rfl, hown4, hbel4⟩)
          go_ret2
          exact ⟨_, ret_vi E1.out.symm, by rw [E2.out, gms_length, show ((l.length : Int) / 2).toNat = l.length / 2 by omega]; exact owns_mono hown4 hbel.size, hbel.trans (hbel4.mono hbel.size)⟩


end Go.Proofs.Ytkcjklgbadekjaa
