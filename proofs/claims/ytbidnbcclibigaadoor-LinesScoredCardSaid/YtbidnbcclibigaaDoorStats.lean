/-
  Lines that the stream hands out. Conditions: the bounds that each theorem names.
-/
import Derived.Test.YtbidnbcclibigaaDoorSpots
import Derived.Test.YtbidnbcclibigaaDoorAsked
namespace Go.Proofs.YtbidnbcclibigaaDoor
open Go.RowKit Go.Bw
theorem el_stat : Elem Tryd.prog 30 74 (.agg #[.string ByteArray.empty, .int .i64 0]) 2 24 := ⟨by kernel_rfl, by kernel_rfl, by kernel_rfl, by decide, by decide⟩
def statNames : List ByteArray := [⟨#[103, 111, 97, 108]⟩, ⟨#[112, 97, 115, 115]⟩, ⟨#[115, 97, 118, 101]⟩, ⟨#[121, 97, 114, 100]⟩]
theorem statNames_sm : SmAll statNames := by intro s hs; simp [statNames] at hs; rcases hs with rfl | rfl | rfl | rfl <;> decide
def oddNames : List ByteArray := [⟨#[]⟩, ⟨#[103, 111, 97, 108]⟩, ⟨#[122, 122]⟩]
theorem oddNames_sm : SmAll oddNames := by intro s hs; simp [oddNames] at hs; rcases hs with rfl | rfl | rfl <;> decide
def StSm (l : List StatL) : Prop := ∀ t ∈ l, Sm t.name
theorem StSm.nil : StSm [] := fun _ h => by cases h
theorem StSm.snoc {l : List StatL} {t : StatL} (h : StSm l) (ht : Sm t.name) : StSm (l ++ [t]) := fun x hx => by
  rcases List.mem_append.1 hx with hx | hx
  · exact h x hx
  · rw [List.mem_singleton.1 hx]; exact ht

set_option maxRecDepth 100000 in
set_option maxHeartbeats 4000000 in
theorem stats_any (B b : Nat) (w : World) (hS : Str B w b) (hb : b ≤ 100000) :
    Calls Tryd.prog 27 #[.pointer (some ⟨B, 0, none⟩)] w fun e w' => ∃ (v : Value) (ts : List StatL), e = .returned v ∧ ts.length ≤ 5 ∧ StSm ts ∧ w'.ownsRow w.heap.size 74 2 v ts.length (cellsOf encT ts) ∧ Drawn B w w' (b + 12) := by
  have hE := el_stat
  have hlt := hS.lt
  have hL := owns_lit w w.heap.size 9 (cellsOf encS statNames).toArray 4 (by decide) rfl (Nat.le_refl _)
  have hH : Held B (w.heap.size + 1) (w.alloc (.cells (cellsOf encS statNames).toArray 9)) 1 4 (.slice (some ⟨w.heap.size, 0, none⟩) 4 4) (cellsOf encS statNames) := by
    have := Held.of_owns hL hlt
    rwa [show (w.alloc (.cells (cellsOf encS statNames).toArray 9)).heap.size = w.heap.size + 1 by simp] at this
  have hD := (Drawn.refl hS).alloc (.cells (cellsOf encS statNames).toArray 9)
  have hsz : w.heap.size + 1 ≤ (w.alloc (.cells (cellsOf encS statNames).toArray 9)).heap.size := by simp
  have hcs : (cellsOf encS statNames).toArray = #[.string ⟨#[103, 111, 97, 108]⟩, .string ⟨#[112, 97, 115, 115]⟩, .string ⟨#[115, 97, 118, 101]⟩, .string ⟨#[121, 97, 114, 100]⟩] := rfl
  rw [hcs] at hH hD hsz
  clear hL hcs
  go_enter Tryd.func27, Tryd.ntmps27
  go_wp2_with fail
  generalize w.alloc (.cells #[.string ⟨#[103, 111, 97, 108]⟩, .string ⟨#[112, 97, 115, 115]⟩, .string ⟨#[115, 97, 118, 101]⟩, .string ⟨#[121, 97, 114, 100]⟩] 9) = W at *
  go_loopw [8, 3] (fun i s wr => ∃ (k : Int) (ts : List StatL), 0 ≤ k ∧ k ≤ 4 ∧ i = .int .i64 k ∧ (ts.length : Int) ≤ k ∧ StSm ts ∧ wr.ownsRow (w.heap.size + 1) 74 2 s ts.length (cellsOf encT ts) ∧ Drawn B w wr (b + 2 * k.toNat) ∧ Held B (w.heap.size + 1) wr 1 4 (.slice (some ⟨w.heap.size, 0, none⟩) 4 4) (cellsOf encS statNames) ∧ w.heap.size + 1 ≤ wr.heap.size) (fun i _ _ => 4 - (intOf i).toNat)
  case atStart => exact ⟨0, [], by omega, by omega, rfl, by simp, StSm.nil, World.ownsRow_nil _ _ _ _, hD, hH, hsz⟩
  case round =>
    clear hD hH hsz
    obtain ⟨k, ts, hk0, hk1, rfl, hpl, hsm, hown, hD, hH, hsz⟩ := hrel
    by_cases hlt4 : k < 4
    · have hc := lit_cell hH k hk0 (by omega)
      have hs1 : Sm (geta statNames k) := statNames_sm _ (geta_mem hk0 (by show k < 4; omega))
      have hbk : b + 2 * k.toNat ≤ 1000000 := by omega
      have hbk1 : b + 2 * k.toNat + 1 ≤ 1099511627776 := by omega
      obtain ⟨a3, c3, hv3⟩ := (Row.of_owns hown).shape
      generalize geta statNames k = s1 at *
      subst hv3
      go_upto_if 13 with (go_at_call 21; refine (flip_d B _ _ _ hD.str rfl hbk).mono ?_; rintro e w1 ⟨q, rfl, hd⟩; replace hD := hD.trans hd; replace hH := hH.drawn hd; replace hown := owns_drawn hown hd (by omega); have hsz1 := hd.size; clear hd hc)
      cases q
      · go_wp2_with fail
        go_roundw
        case rel => exact ⟨k + 1, ts, by omega, by omega, rfl, by omega, hsm, hown, hD.mono (by omega), hH, by omega⟩
        case measure => simp [intOf]; omega
      · go_wp2_with first
          | (go_at_call 45; refine (pick_lit B _ [0, 1, 2, 7, 110, -3] 6 _ _ _ rfl rfl (by decide) (by decide) hD.str hbk1).mono ?_; rintro e w2 ⟨n1, rfl, _, hd⟩; replace hD := hD.trans hd; replace hH := hH.drawn hd; replace hown := owns_drawn hown hd (by omega); have hsz2 := hd.size; clear hd)
          | (at_builtin; refine app_law rfl _ _ _ rfl hE (hown.alloc _) rfl [.string s1, .int .i64 n1] rfl rfl (cells_new _ #[_, _] _) (by simp [Value.oneCell']) (by omega) (by simp; omega) ?_; intro v' w3 hown3 hgr)
        have hD2 := (hD.alloc (.cells #[.string s1, .int .i64 n1] 74)).app (hown.alloc _) (Nat.le_succ _) (by omega) hgr
        have hH2 := (hH.alloc (.cells #[.string s1, .int .i64 n1] 74)).app (hown.alloc _) hgr
        have hz2 := hgr.size
        go_roundw
        case rel => exact ⟨k + 1, ts ++ [⟨s1, n1⟩], by omega, by omega, rfl, by simp; omega, hsm.snoc hs1, by rw [cellsOf_snoc, List.length_append]; exact hown3, hD2.mono (by omega), hH2, by simp at hz2; omega⟩
        case measure => simp [intOf]; omega
    · obtain rfl : k = 4 := by omega
      clear hlt4 hk0 hk1 hH
      replace hD : Drawn B w wr (b + 8) := hD
      obtain ⟨a3, c3, hv3⟩ := (Row.of_owns hown).shape
      subst hv3
      go_upto_if 24 with (go_at_call 21; refine (flip_d B _ _ _ hD.str rfl (by omega)).mono ?_; rintro e w1 ⟨q, rfl, hd⟩; replace hD := hD.trans hd; replace hown := owns_drawn hown hd (by omega); have hsz1 := hd.size; clear hd)
      cases q
      · go_wp2_with fail
        go_ret
        exact ⟨_, ts, rfl, by omega, hsm, owns_mono hown (Nat.le_succ _), hD.mono (by omega)⟩
      · go_wp2_with first
          | (go_at_call 23; refine (some_lit B _ oddNames 3 _ _ _ rfl rfl (by decide) (by decide) hD.str (by omega)).mono ?_; rintro e w2 ⟨r, rfl, hm, hd⟩; replace hD := hD.trans hd; replace hown := owns_drawn hown hd (by omega); have hsz2 := hd.size; clear hd)
          | (go_at_call 24; refine (odd_d B _ _ _ _ (by decide) (by decide) (by decide) hD.str (by omega)).mono ?_; rintro e w3 ⟨n1, rfl, _, hd⟩; replace hD := hD.trans hd; replace hown := owns_drawn hown hd (by omega); have hsz3 := hd.size; clear hd)
          | (at_builtin; refine app_law rfl _ _ _ rfl hE (hown.alloc _) rfl [.string r, .int .i64 n1] rfl rfl (cells_new _ #[_, _] _) (by simp [Value.oneCell']) (by omega) (by simp; omega) ?_; intro v' w4 hown3 hgr)
        go_ret
        exact ⟨_, ts ++ [⟨r, n1⟩], rfl, by simp; omega, hsm.snoc (oddNames_sm r hm), by rw [cellsOf_snoc, List.length_append]; exact owns_mono hown3 (Nat.le_succ _), ((hD.alloc (.cells #[.string r, .int .i64 n1] 74)).app (hown.alloc _) (Nat.le_succ _) (by omega) hgr).mono (by omega)⟩
end Go.Proofs.YtbidnbcclibigaaDoor
