/-
  Positions that the stream hands out. Conditions: the bounds that each theorem names.
-/
import Derived.Test.YtbidnbcclibigaaDoorSome
import Derived.Deep.Cut
namespace Go.Bw
open Go.RowKit
/-- A row of strings that a call has made. -/
def SmAll (l : List ByteArray) : Prop := ∀ s ∈ l, Sm s
theorem SmAll.nil : SmAll [] := fun _ h => by cases h
theorem SmAll.snoc {l : List ByteArray} {s : ByteArray} (h : SmAll l) (hs : Sm s) : SmAll (l ++ [s]) := fun x hx => by
  rcases List.mem_append.1 hx with hx | hx
  · exact h x hx
  · rw [List.mem_singleton.1 hx]; exact hs
/-- What is held stays over a call of the stream. -/
theorem Held.drawn {n₀ B b sz n : Nat} {w w' : World} {v : Value} {cs : List Value} (h : Held n₀ B w sz n v cs) (d : Drawn n₀ w w' b) : Held n₀ B w' sz n v cs := h.str d.gr
theorem owns_drawn {w w' : World} {B b base e sz n : Nat} {v : Value} {xs : List Value} (h : w.ownsRow base e sz v n xs) (d : Drawn B w w' b) (hB : B < base) : w'.ownsRow base e sz v n xs := owns_str h d.gr hB
end Go.Bw
namespace Go.Proofs.YtbidnbcclibigaaDoor
open Go.RowKit Go.Bw

/-- Strings that a literal holds: the cells of a loop over it. -/
theorem lit_cell {w : World} {n₀ B n g c : Nat} {xs : List ByteArray} (h : Held n₀ B w 1 n (.slice (some ⟨g, 0, none⟩) n c) (cellsOf encS xs)) (k : Int) (h0 : 0 ≤ k) (h1 : k < n) : w.cell? ⟨g, k.toNat, none⟩ = some (.string (geta xs k)) := by
  obtain ⟨hl, hc⟩ := h.row.els encS_length (by decide)
  rcases hc with ⟨hv, _⟩ | ⟨b, off, cap, hv, _, _, _, _, hcell⟩
  · cases hv
  · simp only [Value.slice.injEq, Option.some.injEq, Addr.mk.injEq] at hv
    obtain ⟨⟨rfl, rfl, _⟩, _⟩ := hv
    have := hcell k h0 h1 0 _ rfl
    rwa [Nat.mul_one, Nat.add_zero, Nat.zero_add] at this

def spotL : List ByteArray := [⟨#[100, 102]⟩, ⟨#[102, 119]⟩, ⟨#[103, 107]⟩, ⟨#[109, 102]⟩]
def spotL3 : List ByteArray := [⟨#[100, 102]⟩, ⟨#[103, 107]⟩, ⟨#[109, 102]⟩]
theorem spotL_sm : SmAll spotL := by intro s hs; simp [spotL] at hs; rcases hs with rfl | rfl | rfl | rfl <;> decide
theorem spotL3_sm : SmAll spotL3 := by intro s hs; simp [spotL3] at hs; rcases hs with rfl | rfl | rfl <;> decide

theorem spotM_sm : SmAll [⟨#[]⟩, ⟨#[100, 102]⟩, ⟨#[97]⟩] := by intro s hs; simp at hs; rcases hs with rfl | rfl | rfl <;> decide

set_option maxRecDepth 100000 in
set_option maxHeartbeats 2000000 in
theorem spots_any (B b : Nat) (w : World) (hS : Str B w b) (hb : b ≤ 100000) :
    Calls Tryd.prog 26 #[.pointer (some ⟨B, 0, none⟩)] w fun e w' => ∃ (v : Value) (ps : List ByteArray), e = .returned v ∧ ps.length ≤ 4 ∧ SmAll ps ∧ w'.ownsRow w.heap.size 9 1 v ps.length (cellsOf encS ps) ∧ Drawn B w w' (b + 5) := by
  have hE := el_str
  have hlt := hS.lt
  have hL := owns_lit w w.heap.size 9 (cellsOf encS spotL).toArray 4 (by decide) rfl (Nat.le_refl _)
  have hH : Held B (w.heap.size + 1) (w.alloc (.cells (cellsOf encS spotL).toArray 9)) 1 4 (.slice (some ⟨w.heap.size, 0, none⟩) 4 4) (cellsOf encS spotL) := by
    have := Held.of_owns hL hlt
    rwa [show (w.alloc (.cells (cellsOf encS spotL).toArray 9)).heap.size = w.heap.size + 1 by simp] at this
  have hD := (Drawn.refl hS).alloc (.cells (cellsOf encS spotL).toArray 9)
  have hsz : w.heap.size + 1 ≤ (w.alloc (.cells (cellsOf encS spotL).toArray 9)).heap.size := by simp
  have hcs : (cellsOf encS spotL).toArray = #[.string ⟨#[100, 102]⟩, .string ⟨#[102, 119]⟩, .string ⟨#[103, 107]⟩, .string ⟨#[109, 102]⟩] := rfl
  rw [hcs] at hH hD hsz
  clear hL hcs
  go_enter Tryd.func26, Tryd.ntmps26
  go_wp2_with fail
  generalize w.alloc (.cells #[.string ⟨#[100, 102]⟩, .string ⟨#[102, 119]⟩, .string ⟨#[103, 107]⟩, .string ⟨#[109, 102]⟩] 9) = W at *
  go_loopw [8, 3] (fun i s wr => ∃ (k : Int) (ps : List ByteArray), 0 ≤ k ∧ k ≤ 4 ∧ i = .int .i64 k ∧ (ps.length : Int) ≤ k ∧ SmAll ps ∧ wr.ownsRow (w.heap.size + 1) 9 1 s ps.length (cellsOf encS ps) ∧ Drawn B w wr (b + k.toNat) ∧ Held B (w.heap.size + 1) wr 1 4 (.slice (some ⟨w.heap.size, 0, none⟩) 4 4) (cellsOf encS spotL) ∧ w.heap.size + 1 ≤ wr.heap.size) (fun i _ _ => 4 - (intOf i).toNat)
  case atStart => exact ⟨0, [], by omega, by omega, rfl, by simp, SmAll.nil, World.ownsRow_nil _ _ _ _, hD, hH, hsz⟩
  case round =>
    clear hD hH hsz
    obtain ⟨k, ps, hk0, hk1, rfl, hpl, hsm, hown, hD, hH, hsz⟩ := hrel
    by_cases hlt4 : k < 4
    · have hc := lit_cell hH k hk0 (by omega)
      have hs1 : Sm (geta spotL k) := spotL_sm _ (geta_mem hk0 (by show k < 4; omega))
      have hbk : b + k.toNat ≤ 1000000 := by omega
      obtain ⟨a3, c3, hv3⟩ := (Row.of_owns hown).shape
      generalize geta spotL k = s1 at *
      subst hv3
      go_upto_if 13 with (go_at_call 21; refine (flip_d B _ _ _ hD.str rfl hbk).mono ?_; rintro e w1 ⟨q, rfl, hd⟩; replace hD := hD.trans hd; replace hH := hH.drawn hd; replace hown := owns_drawn hown hd (by omega); have hsz1 := hd.size; clear hd hc)
      cases q
      · go_wp2_with fail
        go_roundw
        case rel => exact ⟨k + 1, ps, by omega, by omega, rfl, by omega, hsm, hown, hD.mono (by omega), hH, by omega⟩
        case measure => simp [intOf]; omega
      · go_wp2_with (at_builtin; refine app_law rfl _ _ _ rfl hE (hown.alloc _) rfl [.string s1] rfl rfl (cells_new _ #[_] _) (by simp [Value.oneCell']) (by omega) (by simp; omega) ?_; intro v' w2 hown3 hgr)
        have hD2 := (hD.alloc (.cells #[.string s1] 9)).app (hown.alloc _) (Nat.le_succ _) (by omega) hgr
        have hH2 := (hH.alloc (.cells #[.string s1] 9)).app (hown.alloc _) hgr
        have hz2 := hgr.size
        go_roundw
        case rel => exact ⟨k + 1, ps ++ [s1], by omega, by omega, rfl, by simp; omega, hsm.snoc hs1, by rw [cellsOf_snoc, List.length_append]; exact hown3, hD2.mono (by omega), hH2, by simp at hz2; omega⟩
        case measure => simp [intOf]; omega
    · obtain rfl : k = 4 := by omega
      clear hlt4 hk0 hk1 hH
      replace hD : Drawn B w wr (b + 4) := hD
      obtain ⟨a3, c3, hv3⟩ := (Row.of_owns hown).shape
      subst hv3
      by_cases h0 : ps.length = 0
      · have hlb : ((ps.length : Int) == 0) = true := by simp [h0]
        clear hown h0 hpl
        go_wp2_with (go_at_call 23; refine (some_lit B (b + 4) spotL3 3 _ _ _ rfl rfl (by decide) (by decide) hD.str (by omega)).mono ?_; rintro e w1 ⟨r, rfl, hm, hd⟩; replace hD := hD.trans hd; have hsz1 := hd.size; clear hd)
        go_ret
        refine ⟨_, [r], rfl, by simp, ?_, ?_, (hD.alloc _).mono (by omega)⟩
        · intro s hs
          rw [List.mem_singleton.1 hs]
          exact spotL3_sm _ hm
        · exact owns_lit w1 w.heap.size 9 #[.string r] 1 (by decide) rfl hD.size
      · have hlb : ((ps.length : Int) == 0) = false := beq_eq_false_iff_ne.2 (by omega)
        clear h0
        go_wp2_with fail
        go_ret
        exact ⟨_, ps, rfl, by omega, hsm, owns_mono hown (Nat.le_succ _), hD.mono (by omega)⟩

set_option maxRecDepth 100000 in
set_option maxHeartbeats 2000000 in
theorem positions_any (B b : Nat) (w : World) (hS : Str B w b) (hb : b ≤ 90000) :
    Calls Tryd.prog 5 #[.pointer (some ⟨B, 0, none⟩)] w fun e w' => ∃ (v : Value) (ps : List ByteArray), e = .returned v ∧ ps.length ≤ 5 ∧ SmAll ps ∧ w'.ownsRow w.heap.size 9 1 v ps.length (cellsOf encS ps) ∧ Drawn B w w' (b + 7) := by
  have hE := el_str
  have hlt := hS.lt
  go_enter Tryd.func5, Tryd.ntmps5
  go_upto_if 7 with first
    | (go_at_call 26; refine (spots_any B b _ hS (by omega)).mono ?_; rintro e w1 ⟨v, ps, rfl, hpl, hsm, hown, hD⟩; obtain ⟨a3, c3, hv3⟩ := (Row.of_owns hown).shape; subst hv3; have hz := hD.size)
    | (go_at_call 21; refine (flip_d B (b + 5) _ _ hD.str rfl (by omega)).mono ?_; rintro e w2 ⟨q, rfl, hd⟩; replace hD := hD.trans hd; replace hown := owns_drawn hown hd hlt; replace hz := hD.size; clear hd)
  cases q
  · go_wp2_with fail
    go_ret
    exact ⟨_, ps, rfl, by omega, hsm, hown, hD.mono (by omega)⟩
  · go_wp2_with first
      | (go_at_call 23; refine (some_lit B (b + 6) [⟨#[]⟩, ⟨#[100, 102]⟩, ⟨#[97]⟩] 3 _ _ _ rfl rfl (by decide) (by decide) hD.str (by omega)).mono ?_; rintro e w3 ⟨r, rfl, hm, hd⟩; replace hD := hD.trans hd; replace hown := owns_drawn hown hd hlt; replace hz := hD.size; clear hd; have hr := spotM_sm r hm)
      | (at_builtin; refine app_law rfl _ _ _ rfl hE (hown.alloc _) rfl [.string r] rfl rfl (cells_new _ #[_] _) (by simp [Value.oneCell']) (by omega) (by simp; omega) ?_; intro v' w4 hown3 hgr)
    go_ret
    exact ⟨_, ps ++ [r], rfl, by simp; omega, hsm.snoc hr, by rw [cellsOf_snoc, List.length_append]; exact hown3, ((hD.alloc (.cells #[.string r] 9)).app (hown.alloc _) (Nat.le_refl _) hlt hgr).mono (by omega)⟩
end Go.Proofs.YtbidnbcclibigaaDoor
