/-
  The first of several errors. Condition: fewer than 2^40 of them.
-/
import Derived.Test.YtbidnbcclibigaaDoorSome
namespace Go.Proofs.YtbidnbcclibigaaDoor
open Go.RowKit Go.Bw
/-- The first that is not 0. -/
def errL : List Int → Int
  | [] => 0
  | a :: l => if a ≠ 0 then a else errL l
theorem errL_none : ∀ l : List Int, (∀ j : Int, 0 ≤ j → j < l.length → geti l j = 0) → errL l = 0
  | [], _ => rfl
  | a :: l, h => by
    have h0 : a = 0 := h 0 (by omega) (by simp <;> omega)
    rw [errL, if_neg (by simp [h0])]
    refine errL_none l fun j hj0 hj1 => ?_
    have := h (j + 1) (by omega) (by simp <;> omega)
    unfold geti at this ⊢
    rwa [show (j + 1).toNat = j.toNat + 1 by omega, List.getElem?_cons_succ] at this
theorem errL_at : ∀ (l : List Int) (k : Int), 0 ≤ k → k < l.length → (∀ j : Int, 0 ≤ j → j < k → geti l j = 0) → geti l k ≠ 0 → errL l = geti l k
  | [], k, h0, h1, _, _ => by simp at h1; omega
  | a :: l, k, h0, h1, h, hk => by
    by_cases hz : k = 0
    · subst hz
      have e : geti (a :: l) 0 = a := rfl
      rw [e] at hk ⊢
      rw [errL, if_pos hk]
    · have ha : a = 0 := h 0 (by omega) (by omega)
      have sh : ∀ j : Int, 0 ≤ j → geti (a :: l) (j + 1) = geti l j := fun j hj => by
        unfold geti
        rw [show (j + 1).toNat = j.toNat + 1 by omega, List.getElem?_cons_succ]
      have e := sh (k - 1) (by omega)
      rw [show k - 1 + 1 = k by omega] at e
      rw [errL, if_neg (by simp [ha]), e]
      refine errL_at l (k - 1) (by omega) (by simp at h1; omega) (fun j hj0 hj1 => ?_) (by rw [← e]; exact hk)
      rw [← sh j hj0]
      exact h (j + 1) (by omega) (by omega)
set_option maxRecDepth 100000 in
set_option maxHeartbeats 1000000 in
theorem errs_any (v : Value) (n : Nat) (l : List Int) (b0 : Nat) (w : World) (h : Row w b0 1 v n (l.map (.int .i64))) (hn : n ≤ 1099511627776) :
    Calls Tryd.prog 10 #[v] w fun e w' => e = .returned (.int .i64 (errL l)) ∧ w = w' := by
  obtain ⟨hl, hc⟩ := h.ints
  obtain ⟨p, c, hv⟩ := h.shape
  clear h
  have HL := Lib.hid hl
  subst hv
  go_enter Tryd.func10, Tryd.ntmps10
  clear hl
  go_wp2_with fail
  go_loop [7] (fun i => ∃ k : Int, 0 ≤ k ∧ k ≤ n ∧ i = .int .i64 k ∧ ∀ j : Int, 0 ≤ j → j < k → geti l j = 0) (fun i => n - (intOf i).toNat)
  case atStart => exact ⟨0, by omega, by omega, rfl, fun j h0 h1 => by omega⟩
  case round =>
    obtain ⟨k, hk0, hk1, rfl, hz⟩ := hrel
    by_cases hlt : k < n
    · rcases hc with ⟨hv, h0⟩ | ⟨b, off, cap, hv, _, hbs, hnc, hcm, hcell⟩
      · omega
      simp only [Value.slice.injEq] at hv
      obtain ⟨rfl, _, rfl⟩ := hv
      have c1 := hcell k hk0 hlt
      have HR := Lib.hid (fun hg : geti l k ≠ 0 => errL_at l k hk0 (by rw [HL.out]; exact hlt) hz hg)
      have HZ := Lib.hid hz
      clear hcell hz
      by_cases he : geti l k = 0
      · rw [he] at c1
        have HE := Lib.hid he
        clear he HR
        go_wp2_with fail
        go_round
        case rel => exact ⟨k + 1, by omega, by omega, rfl, fun j h0 h1 => by
          by_cases hj : j = k
          · rw [hj]; exact HE.out
          · exact HZ.out j h0 (by omega)⟩
        case measure => simp [intOf]; omega
      · have hr := HR.out he
        have HR2 := Lib.hid hr
        clear hr HR HZ
        generalize geti l k = x at *
        have hx : (x != 0) = true := by simp [he]
        clear he
        go_wp2_with fail
        go_ret
        exact ⟨ret_int HR2.out.symm, rfl⟩
    · have HE := Lib.hid (errL_none l fun j h0 h1 => hz j h0 (by have := HL.out; omega))
      clear hc hz
      go_wp2_with fail
      go_ret
      exact ⟨ret_int HE.out.symm, rfl⟩
/-- At a list that is written out. -/
theorem errs_lit (l : List Int) (n : Nat) (cs : Array Value) (e : TypeId) (w : World) (hcs : cs.toList = l.map (.int .i64)) (hl : l.length = n) (hn : n ≤ 1000) :
    Calls Tryd.prog 10 #[.slice (some ⟨w.heap.size, 0, none⟩) n n] (w.alloc (.cells cs e)) fun x w' => x = .returned (.int .i64 (errL l)) ∧ Below w.heap.size w w' := by
  refine (errs_any _ n l _ _ (lit_row w e l n (by omega) hl cs hcs) (by omega)).mono ?_
  rintro x w' ⟨rfl, rfl⟩
  exact ⟨rfl, (Below.refl _ _).alloc (Nat.le_refl _) _⟩
end Go.Proofs.YtbidnbcclibigaaDoor
