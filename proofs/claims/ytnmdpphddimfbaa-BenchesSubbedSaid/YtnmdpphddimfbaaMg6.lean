/-
  Contracts and lemmas towards the statement, of several parts; each part says ahead of it what it holds and under which conditions.
-/
import Derived.Test.YtnmdpphddimfbaaMg4
import Derived.Test.YtnmdpphddimfbaaMg5
/-
  Line-ups: slots that the stream hands out, right or not. Conditions: the bounds that each theorem names.
-/
set_option linter.unusedVariables false
namespace Go.Proofs.Ytnmdpphddimfbaa
open Go.RowKit Go.Bw
theorem cells_putSl (s : ByteArray) (v : Value) (ps : List ByteArray) : ∀ (L : List SlD) (i : Nat), i < L.length →
    ((cellsOf encSl L).set (i * 2) (.string s)).set (i * 2 + 1) v = cellsOf encSl (L.modify i fun x => { x with key := s, pv := v, ps := ps })
  | [], i, h => by simp at h
  | x :: L, 0, h => by rw [cellsOf_cons]; simp [encSl, cellsOf_cons]
  | x :: L, i + 1, h => by
    have ih := cells_putSl s v ps L i (by simpa using h)
    rw [show (i + 1) * 2 = i * 2 + 2 by omega, show i * 2 + 2 + 1 = i * 2 + 1 + 2 by omega, cellsOf_cons]
    simp only [encSl, List.cons_append, List.nil_append, List.set_cons_succ, List.modify_succ_cons, cellsOf_cons]
    rw [ih]
theorem SlO.put {B b n c g : Nat} {w0 w : World} {S : List SlD} (h : SlO B b w0 (.slice (some ⟨g, 0, none⟩) n c) S w) (hn : n = S.length) (i : Nat) (hi : i < S.length) (s : ByteArray) (hs : Sm s) (v : Value) (ps : List ByteArray)
    (hp : PsO B w.heap.size w v ps) :
    SlO B b w0 (.slice (some ⟨g, 0, none⟩) n c) (S.modify i fun x => { x with key := s, pv := v, ps := ps }) ((w.setCell ⟨g, i * 2, none⟩ (.string s)).setCell ⟨g, i * 2 + 1, none⟩ v) := by
  subst hn
  have hlt := (h.o.lt g rfl).1
  have hB := h.hB
  have o1 := owns_setC h.o (i * 2) (by omega) (.string s)
  have o2 := owns_setC o1 (i * 2 + 1) (by omega) v
  rw [cells_putSl s v ps S i hi] at o2
  have g1 := grown_setCell w g (i * 2) (.string s)
  have g2 := grown_setCell (w.setCell ⟨g, i * 2, none⟩ (.string s)) g (i * 2 + 1) v
  have key : ∀ u us, PsO B w.heap.size w u us → PsO B ((w.setCell ⟨g, i * 2, none⟩ (.string s)).setCell ⟨g, i * 2 + 1, none⟩ v).heap.size ((w.setCell ⟨g, i * 2, none⟩ (.string s)).setCell ⟨g, i * 2 + 1, none⟩ v) u us := fun u us hx =>
    ((hx.other h.o (by decide) g1).other o1 (by decide) g2).mono (Nat.le_trans g1.size g2.size)
  refine ⟨(h.d.set _ hlt (by omega)).set _ hlt (by omega), h.hB, by rw [List.length_modify]; exact o2, fun x hx => ?_, fun x hx => ?_⟩
  · rcases mem_mod hx with hx | ⟨y, hy, rfl⟩
    · exact key _ _ (h.i x hx)
    · exact key _ _ hp
  · rcases mem_mod hx with hx | ⟨y, hy, rfl⟩
    · exact h.z x hx
    · exact hs
theorem smA {x s : ByteArray} (hx : Sm x) (h : s ∈ [⟨#[]⟩, ⟨#[115, 97]⟩, x]) : Sm s := by
  simp at h
  rcases h with rfl | rfl | rfl
  · decide
  · decide
  · exact hx
theorem smB {s : ByteArray} (h : s ∈ [(⟨#[122, 122]⟩ : ByteArray), ⟨#[]⟩, ⟨#[97]⟩]) : Sm s := by
  simp at h
  rcases h with rfl | rfl | rfl <;> decide
noncomputable def slM : Code := (Try.f4.body).getD .skip
set_option maxRecDepth 100000 in
theorem fr_slM (f : Nat → Value) : frame 41 f = ⟨#[f 0, f 1, f 2, f 3, f 4, f 5, f 6, f 7, f 8, f 9, f 10, f 11, f 12, f 13, f 14, f 15, f 16, f 17, f 18, f 19, f 20, f 21, f 22, f 23, f 24, f 25, f 26, f 27, f 28, f 29, f 30, f 31, f 32, f 33, f 34, f 35, f 36, f 37, f 38, f 39, f 40], []⟩ := by rfl
set_option maxRecDepth 100000 in
set_option maxHeartbeats 1000000 in
theorem st0 (B b : Nat) (w0 : World) (hb : b ≤ 40000) : T3 Try.prog (fun a w => (Str B w b ∧ IsW w0 w) ∧ Fr 41 [(0, .pointer (some ⟨B, 0, none⟩))] a) (sel [0] slM) (fun a w => (Str B w b ∧ IsW w0 w) ∧ Fr 41 [(0, .pointer (some ⟨B, 0, none⟩))] a) No 9 No := by
  refine T3.leaf ?_
  rintro Q JS JX JT K hS hK hX hE hT hR a w ⟨hW, ⟨fr, rfl, q0, _⟩⟩
  rw [fr_slM, show fr 0 = _ from q0]
  clear q0
  conv => arg 2; whnf
  go_wp2_with fail
  refine Met.intro (hS _ _ ?_)
  exact ⟨hW, Fr.of _ rfl ⟨rfl, trivial⟩⟩

set_option maxRecDepth 100000 in
set_option maxHeartbeats 1000000 in
theorem st1 (B b : Nat) (w0 : World) (hb : b ≤ 40000) : T3 Try.prog (fun a w => (Str B w b ∧ IsW w0 w) ∧ Fr 41 [(0, .pointer (some ⟨B, 0, none⟩))] a) (sel [1, 0] slM) (fun a w => ∃ (v3 : Value) (S : List SlD), (CntR S) ∧ (SlO B (b + 21) w0 v3 S w) ∧ Fr 41 [(0, .pointer (some ⟨B, 0, none⟩)), (3, v3)] a) No 9 No := by
  refine T3.leaf ?_
  rintro Q JS JX JT K hS hK hX hE hT hR a w ⟨⟨hS_, hW⟩, ⟨fr, rfl, q0, _⟩⟩
  obtain rfl : w = w0 := hW
  have HS := Lib.hid hS_
  rw [fr_slM, show fr 0 = _ from q0]
  clear q0
  conv => arg 2; whnf
  go_wp2_with fail
  refine (rightSlots_any B b w HS.out (by omega)).mono ?_
  rintro e w1 ⟨v3, S, rfl, hn, h1⟩
  have H1 := Lib.hid h1
  obtain ⟨p3, c3, hv3⟩ := (Row.of_owns h1.o).shape
  subst hv3
  clear h1
  go_wp2_with fail
  refine Met.intro (hS _ _ ?_)
  exact ⟨_, S, hn, H1.out, Fr.of _ rfl ⟨rfl, rfl, trivial⟩⟩

set_option maxRecDepth 100000 in
set_option maxHeartbeats 1000000 in
theorem st2 (B b : Nat) (w0 : World) (hb : b ≤ 40000) (v3 : Value) (S : List SlD) (hn : CntR S) : T3 Try.prog (fun a w => (SlO B (b + 21) w0 v3 S w) ∧ Fr 41 [(0, .pointer (some ⟨B, 0, none⟩)), (3, v3)] a) (sel [1, 1, 0, 0] slM) (fun a w => ∃ q, Fr 41 ((8, .bool q) :: [(0, .pointer (some ⟨B, 0, none⟩)), (3, v3)]) a ∧ (True ∧ SlO B (b + 22) w0 v3 S w)) No 9 No := by
  refine T3.leaf ?_
  rintro Q JS JX JT K hS hK hX hE hT hR a w ⟨hW, ⟨fr, rfl, q0, q3, _⟩⟩
  obtain ⟨p3, c3, hv3⟩ := (Row.of_owns hW.o).shape
  subst hv3
  rw [fr_slM, show fr 0 = _ from q0, show fr 3 = _ from q3]
  clear q0 q3
  conv => arg 2; whnf
  go_wp2_with fail
  refine (flip_d B (b + 21) _ w hW.d.str rfl (by omega)).mono ?_
  rintro e w1 ⟨q, rfl, hd⟩
  have HW := Lib.hid (hW.drawn hd)
  clear hd hW
  go_wp2_with fail
  refine Met.intro (hS _ _ ?_)
  exact ⟨_, Fr.of _ rfl ⟨rfl, rfl, rfl, trivial⟩, trivial, HW.out⟩

set_option maxRecDepth 100000 in
set_option maxHeartbeats 1000000 in
theorem st3 (B b : Nat) (w0 : World) (hb : b ≤ 40000) (v3 : Value) (S : List SlD) (hn : CntR S) (g : Nat) (c : Nat) : T3 Try.prog (fun a w => (SlO B (b + 22) w0 (.slice (some ⟨g, 0, none⟩) S.length c) S w) ∧ Fr 41 [(0, .pointer (some ⟨B, 0, none⟩)), (3, .slice (some ⟨g, 0, none⟩) S.length c)] a) (sel [1, 1, 0, 1, 2, 0] slM) (fun a w => ∃ (i : Int), (0 ≤ i ∧ i < S.length) ∧ (SlO B (b + 23) w0 (.slice (some ⟨g, 0, none⟩) S.length c) S w) ∧ Fr 41 [(0, .pointer (some ⟨B, 0, none⟩)), (3, .slice (some ⟨g, 0, none⟩) S.length c), (4, .pointer (some ⟨g, i.toNat * 2, none⟩))] a) No 9 No := by
  refine T3.leaf ?_
  rintro Q JS JX JT K hS hK hX hE hT hR a w ⟨hW, ⟨fr, rfl, q0, q3, _⟩⟩
  obtain ⟨hn1, hn2⟩ := hn.h
  rw [fr_slM, show fr 0 = _ from q0, show fr 3 = _ from q3]
  clear q0 q3
  conv => arg 2; whnf
  go_wp2_with fail
  refine (next_d B (b + 22) S.length w hW.d.str (by omega) (by omega) (by omega)).mono ?_
  rintro e w1 ⟨i, rfl, hi0, hi1, hd⟩
  have HW := Lib.hid (hW.drawn hd)
  clear hd hW
  go_wp2_with fail
  refine Met.intro (hS _ _ ?_)
  exact ⟨i, ⟨hi0, hi1⟩, HW.out, Fr.of _ rfl ⟨rfl, rfl, rfl, trivial⟩⟩

set_option maxRecDepth 100000 in
set_option maxHeartbeats 1000000 in
theorem st4 (B b : Nat) (w0 : World) (hb : b ≤ 40000) (v3 : Value) (S : List SlD) (hn : CntR S) (g : Nat) (c : Nat) (i : Int) (hi : 0 ≤ i ∧ i < S.length) : T3 Try.prog (fun a w => (SlO B (b + 23) w0 (.slice (some ⟨g, 0, none⟩) S.length c) S w) ∧ Fr 41 [(0, .pointer (some ⟨B, 0, none⟩)), (3, .slice (some ⟨g, 0, none⟩) S.length c), (4, .pointer (some ⟨g, i.toNat * 2, none⟩))] a) (sel [1, 1, 0, 1, 2, 1] slM) (fun a w => ∃ (S' : List SlD), (S'.length = S.length) ∧ (SlO B (b + 25) w0 (.slice (some ⟨g, 0, none⟩) S.length c) S' w) ∧ Fr 41 [(0, .pointer (some ⟨B, 0, none⟩)), (3, .slice (some ⟨g, 0, none⟩) S.length c)] a) No 9 No := by
  refine T3.leafN ?_
  rintro JS hS a w ⟨hW, ⟨fr, rfl, q0, q3, q4, _⟩⟩
  obtain ⟨hi0, hi1⟩ := hi
  obtain ⟨hn1, hn2⟩ := hn.h
  obtain ⟨g', c', hv3, _, _, hn3, hm3⟩ := owns_shape hW.o (by omega)
  simp only [Value.slice.injEq, Option.some.injEq, Addr.mk.injEq] at hv3
  obtain ⟨⟨rfl, _⟩, _, rfl⟩ := hv3
  simp only [maxLen] at hm3
  obtain ⟨bz, off, hp, _, _, hcell⟩ := Row.nonnil ((Row.of_owns hW.o).mono (Nat.zero_le _)) (by omega)
  simp only [Option.some.injEq, Addr.mk.injEq] at hp
  obtain ⟨rfl, rfl, _⟩ := hp
  have t0 := Row.elAt encSl_length hcell hi0 (by omega) 0 _ (by decide) rfl
  have t1 := Row.elAt encSl_length hcell hi0 (by omega) 1 _ (by decide) rfl
  rw [Nat.zero_add] at t0 t1
  rw [Nat.add_zero] at t0
  have hmm := geta_mem hi0 (show i < S.length by omega)
  have hz := hW.z _ hmm
  have hp := hW.i _ hmm
  have hq := hn.q _ hmm
  clear hcell hmm
  generalize geta S i = X at *
  have D0 : Drawn B w w.drew (b + 23) := (Drawn.refl hW.d.str).drewN 1
  have hlB := hW.d.str.lt
  have hgl := (hW.o.lt g rfl).2
  have hgB : g ≠ B := by have := (hW.o.lt g rfl).1; have := hW.hB; omega
  clear hn
  rw [fr_slM, show fr 0 = _ from q0, show fr 3 = _ from q3, show fr 4 = _ from q4]
  clear q0 q3 q4
  conv => arg 2; whnf
  refine wp_region_alt (fun _ => True) (.calm 0 (.calm 1 (.calm 2 (.calm 3 (.calm 4 (.calm 5 (.calm 9 (.calm 10 (.calm 11 (.calm 14 (.alt 6 (.alt 7 (.alt 8 (.alt 12 (.alt 13 (.one 15 (.one 16 (.one 17 (.one 18 (.calm 19 (.calm 20 (.one 21 (.calm 22 (.calm 23 (.one 24 .done)))))))))) (.one 15 (.one 13 (.one 16 (.one 17 (.one 18 (.calm 19 (.calm 20 (.one 21 (.calm 22 (.calm 23 (.one 24 .done)))))))))))) (.one 15 (.one 12 (.one 13 (.one 16 (.one 17 (.one 18 (.calm 19 (.calm 20 (.one 21 (.calm 22 (.calm 23 (.one 24 .done))))))))))))) (.alt 12 (.alt 8 (.alt 13 (.one 15 (.one 16 (.one 17 (.one 18 (.calm 19 (.calm 20 (.one 21 (.calm 22 (.calm 23 (.one 24 .done)))))))))) (.one 15 (.one 13 (.one 16 (.one 17 (.one 18 (.calm 19 (.calm 20 (.one 21 (.calm 22 (.calm 23 (.one 24 .done)))))))))))) (.one 15 (.one 8 (.one 13 (.one 16 (.one 17 (.one 18 (.calm 19 (.calm 20 (.one 21 (.calm 22 (.calm 23 (.one 24 .done))))))))))))) (.one 15 (.alt 8 (.one 12 (.one 13 (.one 16 (.one 17 (.one 18 (.calm 19 (.calm 20 (.one 21 (.calm 22 (.calm 23 (.one 24 .done))))))))))) (.one 12 (.one 8 (.one 13 (.one 16 (.one 17 (.one 18 (.calm 19 (.calm 20 (.one 21 (.calm 22 (.calm 23 (.one 24 .done)))))))))))))))) (.alt 12 (.alt 7 (.alt 8 (.alt 13 (.one 15 (.one 16 (.one 17 (.one 18 (.calm 19 (.calm 20 (.one 21 (.calm 22 (.calm 23 (.one 24 .done)))))))))) (.one 15 (.one 13 (.one 16 (.one 17 (.one 18 (.calm 19 (.calm 20 (.one 21 (.calm 22 (.calm 23 (.one 24 .done)))))))))))) (.one 15 (.one 8 (.one 13 (.one 16 (.one 17 (.one 18 (.calm 19 (.calm 20 (.one 21 (.calm 22 (.calm 23 (.one 24 .done))))))))))))) (.one 15 (.one 7 (.one 8 (.one 13 (.one 16 (.one 17 (.one 18 (.calm 19 (.calm 20 (.one 21 (.calm 22 (.calm 23 (.one 24 .done)))))))))))))) (.one 15 (.alt 7 (.alt 8 (.one 12 (.one 13 (.one 16 (.one 17 (.one 18 (.calm 19 (.calm 20 (.one 21 (.calm 22 (.calm 23 (.one 24 .done))))))))))) (.one 12 (.one 8 (.one 13 (.one 16 (.one 17 (.one 18 (.calm 19 (.calm 20 (.one 21 (.calm 22 (.calm 23 (.one 24 .done))))))))))))) (.one 12 (.one 7 (.one 8 (.one 13 (.one 16 (.one 17 (.one 18 (.calm 19 (.calm 20 (.one 21 (.calm 22 (.calm 23 (.one 24 .done))))))))))))))))) (.alt 12 (.alt 6 (.alt 7 (.alt 8 (.alt 13 (.one 15 (.one 16 (.one 17 (.one 18 (.calm 19 (.calm 20 (.one 21 (.calm 22 (.calm 23 (.one 24 .done)))))))))) (.one 15 (.one 13 (.one 16 (.one 17 (.one 18 (.calm 19 (.calm 20 (.one 21 (.calm 22 (.calm 23 (.one 24 .done)))))))))))) (.one 15 (.one 8 (.one 13 (.one 16 (.one 17 (.one 18 (.calm 19 (.calm 20 (.one 21 (.calm 22 (.calm 23 (.one 24 .done))))))))))))) (.one 15 (.one 7 (.one 8 (.one 13 (.one 16 (.one 17 (.one 18 (.calm 19 (.calm 20 (.one 21 (.calm 22 (.calm 23 (.one 24 .done)))))))))))))) (.one 15 (.one 6 (.one 7 (.one 8 (.one 13 (.one 16 (.one 17 (.one 18 (.calm 19 (.calm 20 (.one 21 (.calm 22 (.calm 23 (.one 24 .done))))))))))))))) (.one 15 (.alt 6 (.alt 7 (.alt 8 (.one 12 (.one 13 (.one 16 (.one 17 (.one 18 (.calm 19 (.calm 20 (.one 21 (.calm 22 (.calm 23 (.one 24 .done))))))))))) (.one 12 (.one 8 (.one 13 (.one 16 (.one 17 (.one 18 (.calm 19 (.calm 20 (.one 21 (.calm 22 (.calm 23 (.one 24 .done))))))))))))) (.one 12 (.one 7 (.one 8 (.one 13 (.one 16 (.one 17 (.one 18 (.calm 19 (.calm 20 (.one 21 (.calm 22 (.calm 23 (.one 24 .done)))))))))))))) (.one 12 (.one 6 (.one 7 (.one 8 (.one 13 (.one 16 (.one 17 (.one 18 (.calm 19 (.calm 20 (.one 21 (.calm 22 (.calm 23 (.one 24 .done)))))))))))))))))))))))))))) (by kernel_rfl) (by kernel_rfl) (by intro c a d v w h; cases d <;> exact h) (trivial) ?_
  generalize w.drew = x0 at *
  refine alt_hide (w₁ := x0) (fun W hH hC hA_ hE_ => ?_)
  refine hH.out _ _ _ _ _ rfl (fun K hK => ?_); go_simp; refine hK _ ?_; clear hK K
  refine hH.out _ _ _ _ _ rfl (fun K hK => ?_); go_simp; refine hK _ ?_; clear hK K
  refine hH.out _ _ _ _ _ rfl (fun K hK => ?_); go_simp; refine hK _ ?_; clear hK K
  refine hH.out _ _ _ _ _ rfl (fun K hK => ?_); go_simp; refine hK _ ?_; clear hK K
  refine hH.out _ _ _ _ _ rfl (fun K hK => ?_); go_simp; refine hK _ ?_; clear hK K
  refine hH.out _ _ _ _ _ rfl (fun K hK => ?_); go_simp; refine hK _ ?_; clear hK K
  refine hH.out _ _ _ _ _ rfl (fun K hK => ?_); go_simp; refine hK _ ?_; clear hK K
  refine hH.out _ _ _ _ _ rfl (fun K hK => ?_); go_simp; refine hK _ ?_; clear hK K
  refine hH.out _ _ _ _ _ rfl (fun K hK => ?_); go_simp; refine hK _ ?_; clear hK K
  refine hH.out _ _ _ _ _ rfl (fun K hK => ?_); go_simp; refine hK _ ?_; clear hK K
  refine hA_.out _ _ _ _ _ ?_ ?_
  · refine hC.out _ _ _ _ _ rfl (by first | rfl | go_simp) (fun K hK => ?_)
    simp only [bare]
    have u6 := (World.cell?_of_block (a := ⟨g, i.toNat * 2, none⟩) (D0.gr.block g hgl (by simpa using hgB))).trans t0
    go_wp2_with fail
    clear u6
    refine hK.out _ _ trivial ?_
    clear hK K
    refine hA_.out _ _ _ _ _ ?_ ?_
    · refine hC.out _ _ _ _ _ rfl (by first | rfl | go_simp) (fun K hK => ?_)
      simp only [bare]
      have O7 := owns_lit x0 x0.heap.size 9 #[.string ⟨#[]⟩, .string ⟨#[115, 97]⟩, .string X.key] 3 (by decide) rfl (Nat.le_refl _)
      have D7 : Drawn B w (x0.alloc (.cells #[.string ⟨#[]⟩, .string ⟨#[115, 97]⟩, .string X.key] 9)) (b + 23) := D0.alloc _
      have H7 : RHd 9 B (x0.alloc (.cells #[.string ⟨#[]⟩, .string ⟨#[115, 97]⟩, .string X.key] 9)).heap.size (x0.alloc (.cells #[.string ⟨#[]⟩, .string ⟨#[115, 97]⟩, .string X.key] 9)) 3 (.slice (some ⟨x0.heap.size, 0, none⟩) 3 3) (cellsOf encSt [⟨#[]⟩, ⟨#[115, 97]⟩, X.key]) := RHd.of_owns O7 D0.str.lt
      have z7 : x0.heap.size ≤ (x0.alloc (.cells #[.string ⟨#[]⟩, .string ⟨#[115, 97]⟩, .string X.key] 9)).heap.size := by simp
      clear O7
      go_wp2_with fail
      generalize x0.alloc (.cells #[.string ⟨#[]⟩, .string ⟨#[115, 97]⟩, .string X.key] 9) = x7 at *
      refine hK.out _ _ trivial ?_
      clear hK K
      refine hA_.out _ _ _ _ _ ?_ ?_
      · refine hC.out _ _ _ _ _ rfl (by first | rfl | go_simp) (fun K hK => ?_)
        simp only [bare]
        go_wp2_with fail
        refine (some_any B (b + 23) _ 3 [⟨#[]⟩, ⟨#[115, 97]⟩, X.key] x7 H7.row (by decide) (by decide) (by intro k hk; have := (H7.lt k hk).1; omega) D7.str (by omega)).mono ?_
        rintro e x8 ⟨s8, rfl, hs8, d8⟩
        have D8 := D7.trans d8
        have z8 := d8.size
        have m8 := smA hz hs8
        clear d8 hs8 H7
        go_wp2_with fail
        refine hK.out _ _ trivial ?_
        clear hK K
        refine hA_.out _ _ _ _ _ ?_ ?_
        · refine hC.out _ _ _ _ _ rfl (by first | rfl | go_simp) (fun K hK => ?_)
          simp only [bare]
          have u12 := (World.cell?_of_block (a := ⟨g, i.toNat * 2 + 1, none⟩) (D8.gr.block g hgl (by simpa using hgB))).trans t1
          go_wp2_with fail
          clear u12
          refine hK.out _ _ trivial ?_
          clear hK K
          refine hA_.out _ _ _ _ _ ?_ ?_
          · refine hC.out _ _ _ _ _ rfl (by first | rfl | go_simp) (fun K hK => ?_)
            simp only [bare]
            go_wp2_with fail
            refine (clone_s X.pv X.ps.length X.ps 0 x8 (hp.str D8.gr).r.row (by omega)).mono ?_
            rintro e x13 ⟨v13, rfl, o13, b13⟩
            have D13 := D8.below b13
            have hb13 : B < x8.heap.size := D8.str.lt
            have hc13 : w.heap.size ≤ x8.heap.size := D8.size
            have z13 := b13.size
            obtain ⟨p13, c13, e13⟩ := (Row.of_owns o13).shape
            subst e13
            clear b13
            go_wp2_with fail
            refine hK.out _ _ trivial ?_
            clear hK K
            refine hC.out _ _ _ _ _ rfl (by first | rfl | go_simp) (fun K hK => ?_)
            simp only [bare]
            have O15 := owns_lit x13 x13.heap.size 9 #[.string ⟨#[122, 122]⟩, .string ⟨#[]⟩, .string ⟨#[97]⟩] 3 (by decide) rfl (Nat.le_refl _)
            have D15 : Drawn B w (x13.alloc (.cells #[.string ⟨#[122, 122]⟩, .string ⟨#[]⟩, .string ⟨#[97]⟩] 9)) (b + 24) := D13.alloc _
            have H15 : RHd 9 B (x13.alloc (.cells #[.string ⟨#[122, 122]⟩, .string ⟨#[]⟩, .string ⟨#[97]⟩] 9)).heap.size (x13.alloc (.cells #[.string ⟨#[122, 122]⟩, .string ⟨#[]⟩, .string ⟨#[97]⟩] 9)) 3 (.slice (some ⟨x13.heap.size, 0, none⟩) 3 3) (cellsOf encSt [⟨#[122, 122]⟩, ⟨#[]⟩, ⟨#[97]⟩]) := RHd.of_owns O15 D13.str.lt
            have z15 : x13.heap.size ≤ (x13.alloc (.cells #[.string ⟨#[122, 122]⟩, .string ⟨#[]⟩, .string ⟨#[97]⟩] 9)).heap.size := by simp
            have o13 := o13.alloc (.cells #[.string ⟨#[122, 122]⟩, .string ⟨#[]⟩, .string ⟨#[97]⟩] 9)
            clear O15
            go_wp2_with fail
            generalize x13.alloc (.cells #[.string ⟨#[122, 122]⟩, .string ⟨#[]⟩, .string ⟨#[97]⟩] 9) = x15 at *
            refine hK.out _ _ trivial ?_
            clear hK K
            refine hC.out _ _ _ _ _ rfl (by first | rfl | go_simp) (fun K hK => ?_)
            simp only [bare]
            go_wp2_with fail
            refine (some_any B (b + 24) _ 3 [⟨#[122, 122]⟩, ⟨#[]⟩, ⟨#[97]⟩] x15 H15.row (by decide) (by decide) (by intro k hk; have := (H15.lt k hk).1; omega) D15.str (by omega)).mono ?_
            rintro e x16 ⟨s16, rfl, hs16, d16⟩
            have D16 := D15.trans d16
            have z16 := d16.size
            have m16 := smB hs16
            have o13 := owns_drawn o13 d16 hb13
            clear d16 hs16 H15
            go_wp2_with fail
            refine hK.out _ _ trivial ?_
            clear hK K
            refine hC.out _ _ _ _ _ rfl (by first | rfl | go_simp) (fun K hK => ?_)
            simp only [bare]
            have D17 := D16.alloc (.cells #[.string s16] 9)
            have o13 := o13.alloc (.cells #[.string s16] 9)
            go_wp2_with fail
            refine hK.out _ _ trivial ?_
            clear hK K
            refine hC.out _ _ _ _ _ rfl (by first | rfl | go_simp) (fun K hK => ?_)
            simp only [bare]
            go_wp2_with (at_builtin; refine app_law rfl _ _ _ rfl el_str o13 rfl [.string s16] rfl rfl (cells_new x16 #[_] _) (by simp [Value.oneCell']) (by omega) (by simp; omega) ?_; intro v18 x18 o18 g18)
            have D18 := D17.app o13 hc13 hb13 g18
            obtain ⟨p18, c18, e18⟩ := (Row.of_owns o18).shape
            subst e18
            refine hK.out _ _ trivial ?_
            clear hK K
            refine hH.out _ _ _ _ _ rfl (fun K hK => ?_); go_simp; refine hK _ ?_; clear hK K
            refine hH.out _ _ _ _ _ rfl (fun K hK => ?_); go_simp; refine hK _ ?_; clear hK K
            refine hC.out _ _ _ _ _ rfl (by first | rfl | go_simp) (fun K hK => ?_)
            simp only [bare]
            have h18 := hW.drawn D18
            have u21 := (World.cell?_of_block (a := ⟨g, i.toNat * 2, none⟩) (D18.gr.block g hgl (by simpa using hgB))).trans t0
            have f21 := owns_frozenC h18.o (i.toNat * 2)
            have u24 := (World.cell?_of_block (a := ⟨g, i.toNat * 2 + 1, none⟩) (D18.gr.block g hgl (by simpa using hgB))).trans t1
            have u24 := (World.cell?_setCell_other x18 ⟨g, i.toNat * 2, none⟩ ⟨g, i.toNat * 2 + 1, none⟩ (.string s8) (by simp)).trans u24
            have f24 := owns_frozenC (owns_setC h18.o (i.toNat * 2) (by omega) (.string s8)) (i.toNat * 2 + 1)
            have HF := Lib.hid (h18.put rfl i.toNat (by omega) s8 m8 (.slice p18 (X.ps.length + 1) c18) (X.ps ++ [s16]) ⟨RHd.of_owns (by rw [cellsOf_snoc, List.length_append]; exact o18) hb13, hp.z.snoc m16, by rw [List.length_append]; simp; omega⟩)
            clear h18 o18 g18 o13 D17 D16 D13 D8 D7 D15 D18
            go_wp2_with fail
            generalize x18.setCell ⟨g, i.toNat * 2, none⟩ (.string s8) = x21 at *
            refine hK.out _ _ trivial ?_
            clear hK K
            refine hH.out _ _ _ _ _ rfl (fun K hK => ?_); go_simp; refine hK _ ?_; clear hK K
            refine hH.out _ _ _ _ _ rfl (fun K hK => ?_); go_simp; refine hK _ ?_; clear hK K
            refine hC.out _ _ _ _ _ rfl (by first | rfl | go_simp) (fun K hK => ?_)
            simp only [bare]
            go_wp2_with fail
            refine hK.out _ _ trivial ?_
            clear hK K
            refine hE_.out _ _ ?_
            clear hH hC hA_ hE_ W
            show JS _ _
            refine hS _ _ ?_
            exact ⟨_, List.length_modify _ _ _, HF.out, Fr.of _ rfl ⟨rfl, rfl, trivial⟩⟩
          refine hC.out _ _ _ _ _ rfl (by first | rfl | go_simp) (fun K hK => ?_)
          simp only [bare]
          have O15 := owns_lit x8 x8.heap.size 9 #[.string ⟨#[122, 122]⟩, .string ⟨#[]⟩, .string ⟨#[97]⟩] 3 (by decide) rfl (Nat.le_refl _)
          have D15 : Drawn B w (x8.alloc (.cells #[.string ⟨#[122, 122]⟩, .string ⟨#[]⟩, .string ⟨#[97]⟩] 9)) (b + 24) := D8.alloc _
          have H15 : RHd 9 B (x8.alloc (.cells #[.string ⟨#[122, 122]⟩, .string ⟨#[]⟩, .string ⟨#[97]⟩] 9)).heap.size (x8.alloc (.cells #[.string ⟨#[122, 122]⟩, .string ⟨#[]⟩, .string ⟨#[97]⟩] 9)) 3 (.slice (some ⟨x8.heap.size, 0, none⟩) 3 3) (cellsOf encSt [⟨#[122, 122]⟩, ⟨#[]⟩, ⟨#[97]⟩]) := RHd.of_owns O15 D8.str.lt
          have z15 : x8.heap.size ≤ (x8.alloc (.cells #[.string ⟨#[122, 122]⟩, .string ⟨#[]⟩, .string ⟨#[97]⟩] 9)).heap.size := by simp
          clear O15
          go_wp2_with fail
          generalize x8.alloc (.cells #[.string ⟨#[122, 122]⟩, .string ⟨#[]⟩, .string ⟨#[97]⟩] 9) = x15 at *
          refine hK.out _ _ trivial ?_
          clear hK K
          refine hC.out _ _ _ _ _ rfl (by first | rfl | go_simp) (fun K hK => ?_)
          simp only [bare]
          go_wp2_with fail
          refine (clone_s X.pv X.ps.length X.ps 0 x15 (hp.str D15.gr).r.row (by omega)).mono ?_
          rintro e x13 ⟨v13, rfl, o13, b13⟩
          have D13 := D15.below b13
          have hb13 : B < x15.heap.size := D15.str.lt
          have hc13 : w.heap.size ≤ x15.heap.size := D15.size
          have z13 := b13.size
          have H15 := H15.under b13
          obtain ⟨p13, c13, e13⟩ := (Row.of_owns o13).shape
          subst e13
          clear b13
          go_wp2_with fail
          refine hK.out _ _ trivial ?_
          clear hK K
          refine hC.out _ _ _ _ _ rfl (by first | rfl | go_simp) (fun K hK => ?_)
          simp only [bare]
          go_wp2_with fail
          refine (some_any B (b + 24) _ 3 [⟨#[122, 122]⟩, ⟨#[]⟩, ⟨#[97]⟩] x13 H15.row (by decide) (by decide) (by intro k hk; have := (H15.lt k hk).1; omega) D13.str (by omega)).mono ?_
          rintro e x16 ⟨s16, rfl, hs16, d16⟩
          have D16 := D13.trans d16
          have z16 := d16.size
          have m16 := smB hs16
          have o13 := owns_drawn o13 d16 hb13
          clear d16 hs16 H15
          go_wp2_with fail
          refine hK.out _ _ trivial ?_
          clear hK K
          refine hC.out _ _ _ _ _ rfl (by first | rfl | go_simp) (fun K hK => ?_)
          simp only [bare]
          have D17 := D16.alloc (.cells #[.string s16] 9)
          have o13 := o13.alloc (.cells #[.string s16] 9)
          go_wp2_with fail
          refine hK.out _ _ trivial ?_
          clear hK K
          refine hC.out _ _ _ _ _ rfl (by first | rfl | go_simp) (fun K hK => ?_)
          simp only [bare]
          go_wp2_with (at_builtin; refine app_law rfl _ _ _ rfl el_str o13 rfl [.string s16] rfl rfl (cells_new x16 #[_] _) (by simp [Value.oneCell']) (by omega) (by simp; omega) ?_; intro v18 x18 o18 g18)
          have D18 := D17.app o13 hc13 hb13 g18
          obtain ⟨p18, c18, e18⟩ := (Row.of_owns o18).shape
          subst e18
          refine hK.out _ _ trivial ?_
          clear hK K
          refine hH.out _ _ _ _ _ rfl (fun K hK => ?_); go_simp; refine hK _ ?_; clear hK K
          refine hH.out _ _ _ _ _ rfl (fun K hK => ?_); go_simp; refine hK _ ?_; clear hK K
          refine hC.out _ _ _ _ _ rfl (by first | rfl | go_simp) (fun K hK => ?_)
          simp only [bare]
          have h18 := hW.drawn D18
          have u21 := (World.cell?_of_block (a := ⟨g, i.toNat * 2, none⟩) (D18.gr.block g hgl (by simpa using hgB))).trans t0
          have f21 := owns_frozenC h18.o (i.toNat * 2)
          have u24 := (World.cell?_of_block (a := ⟨g, i.toNat * 2 + 1, none⟩) (D18.gr.block g hgl (by simpa using hgB))).trans t1
          have u24 := (World.cell?_setCell_other x18 ⟨g, i.toNat * 2, none⟩ ⟨g, i.toNat * 2 + 1, none⟩ (.string s8) (by simp)).trans u24
          have f24 := owns_frozenC (owns_setC h18.o (i.toNat * 2) (by omega) (.string s8)) (i.toNat * 2 + 1)
          have HF := Lib.hid (h18.put rfl i.toNat (by omega) s8 m8 (.slice p18 (X.ps.length + 1) c18) (X.ps ++ [s16]) ⟨RHd.of_owns (by rw [cellsOf_snoc, List.length_append]; exact o18) hb13, hp.z.snoc m16, by rw [List.length_append]; simp; omega⟩)
          clear h18 o18 g18 o13 D17 D16 D13 D8 D7 D15 D18
          go_wp2_with fail
          generalize x18.setCell ⟨g, i.toNat * 2, none⟩ (.string s8) = x21 at *
          refine hK.out _ _ trivial ?_
          clear hK K
          refine hH.out _ _ _ _ _ rfl (fun K hK => ?_); go_simp; refine hK _ ?_; clear hK K
          refine hH.out _ _ _ _ _ rfl (fun K hK => ?_); go_simp; refine hK _ ?_; clear hK K
          refine hC.out _ _ _ _ _ rfl (by first | rfl | go_simp) (fun K hK => ?_)
          simp only [bare]
          go_wp2_with fail
          refine hK.out _ _ trivial ?_
          clear hK K
          refine hE_.out _ _ ?_
          clear hH hC hA_ hE_ W
          show JS _ _
          refine hS _ _ ?_
          exact ⟨_, List.length_modify _ _ _, HF.out, Fr.of _ rfl ⟨rfl, rfl, trivial⟩⟩
        refine hC.out _ _ _ _ _ rfl (by first | rfl | go_simp) (fun K hK => ?_)
        simp only [bare]
        have O15 := owns_lit x8 x8.heap.size 9 #[.string ⟨#[122, 122]⟩, .string ⟨#[]⟩, .string ⟨#[97]⟩] 3 (by decide) rfl (Nat.le_refl _)
        have D15 : Drawn B w (x8.alloc (.cells #[.string ⟨#[122, 122]⟩, .string ⟨#[]⟩, .string ⟨#[97]⟩] 9)) (b + 24) := D8.alloc _
        have H15 : RHd 9 B (x8.alloc (.cells #[.string ⟨#[122, 122]⟩, .string ⟨#[]⟩, .string ⟨#[97]⟩] 9)).heap.size (x8.alloc (.cells #[.string ⟨#[122, 122]⟩, .string ⟨#[]⟩, .string ⟨#[97]⟩] 9)) 3 (.slice (some ⟨x8.heap.size, 0, none⟩) 3 3) (cellsOf encSt [⟨#[122, 122]⟩, ⟨#[]⟩, ⟨#[97]⟩]) := RHd.of_owns O15 D8.str.lt
        have z15 : x8.heap.size ≤ (x8.alloc (.cells #[.string ⟨#[122, 122]⟩, .string ⟨#[]⟩, .string ⟨#[97]⟩] 9)).heap.size := by simp
        clear O15
        go_wp2_with fail
        generalize x8.alloc (.cells #[.string ⟨#[122, 122]⟩, .string ⟨#[]⟩, .string ⟨#[97]⟩] 9) = x15 at *
        refine hK.out _ _ trivial ?_
        clear hK K
        refine hC.out _ _ _ _ _ rfl (by first | rfl | go_simp) (fun K hK => ?_)
        simp only [bare]
        have u12 := (World.cell?_of_block (a := ⟨g, i.toNat * 2 + 1, none⟩) (D15.gr.block g hgl (by simpa using hgB))).trans t1
        go_wp2_with fail
        clear u12
        refine hK.out _ _ trivial ?_
        clear hK K
        refine hC.out _ _ _ _ _ rfl (by first | rfl | go_simp) (fun K hK => ?_)
        simp only [bare]
        go_wp2_with fail
        refine (clone_s X.pv X.ps.length X.ps 0 x15 (hp.str D15.gr).r.row (by omega)).mono ?_
        rintro e x13 ⟨v13, rfl, o13, b13⟩
        have D13 := D15.below b13
        have hb13 : B < x15.heap.size := D15.str.lt
        have hc13 : w.heap.size ≤ x15.heap.size := D15.size
        have z13 := b13.size
        have H15 := H15.under b13
        obtain ⟨p13, c13, e13⟩ := (Row.of_owns o13).shape
        subst e13
        clear b13
        go_wp2_with fail
        refine hK.out _ _ trivial ?_
        clear hK K
        refine hC.out _ _ _ _ _ rfl (by first | rfl | go_simp) (fun K hK => ?_)
        simp only [bare]
        go_wp2_with fail
        refine (some_any B (b + 24) _ 3 [⟨#[122, 122]⟩, ⟨#[]⟩, ⟨#[97]⟩] x13 H15.row (by decide) (by decide) (by intro k hk; have := (H15.lt k hk).1; omega) D13.str (by omega)).mono ?_
        rintro e x16 ⟨s16, rfl, hs16, d16⟩
        have D16 := D13.trans d16
        have z16 := d16.size
        have m16 := smB hs16
        have o13 := owns_drawn o13 d16 hb13
        clear d16 hs16 H15
        go_wp2_with fail
        refine hK.out _ _ trivial ?_
        clear hK K
        refine hC.out _ _ _ _ _ rfl (by first | rfl | go_simp) (fun K hK => ?_)
        simp only [bare]
        have D17 := D16.alloc (.cells #[.string s16] 9)
        have o13 := o13.alloc (.cells #[.string s16] 9)
        go_wp2_with fail
        refine hK.out _ _ trivial ?_
        clear hK K
        refine hC.out _ _ _ _ _ rfl (by first | rfl | go_simp) (fun K hK => ?_)
        simp only [bare]
        go_wp2_with (at_builtin; refine app_law rfl _ _ _ rfl el_str o13 rfl [.string s16] rfl rfl (cells_new x16 #[_] _) (by simp [Value.oneCell']) (by omega) (by simp; omega) ?_; intro v18 x18 o18 g18)
        have D18 := D17.app o13 hc13 hb13 g18
        obtain ⟨p18, c18, e18⟩ := (Row.of_owns o18).shape
        subst e18
        refine hK.out _ _ trivial ?_
        clear hK K
        refine hH.out _ _ _ _ _ rfl (fun K hK => ?_); go_simp; refine hK _ ?_; clear hK K
        refine hH.out _ _ _ _ _ rfl (fun K hK => ?_); go_simp; refine hK _ ?_; clear hK K
        refine hC.out _ _ _ _ _ rfl (by first | rfl | go_simp) (fun K hK => ?_)
        simp only [bare]
        have h18 := hW.drawn D18
        have u21 := (World.cell?_of_block (a := ⟨g, i.toNat * 2, none⟩) (D18.gr.block g hgl (by simpa using hgB))).trans t0
        have f21 := owns_frozenC h18.o (i.toNat * 2)
        have u24 := (World.cell?_of_block (a := ⟨g, i.toNat * 2 + 1, none⟩) (D18.gr.block g hgl (by simpa using hgB))).trans t1
        have u24 := (World.cell?_setCell_other x18 ⟨g, i.toNat * 2, none⟩ ⟨g, i.toNat * 2 + 1, none⟩ (.string s8) (by simp)).trans u24
        have f24 := owns_frozenC (owns_setC h18.o (i.toNat * 2) (by omega) (.string s8)) (i.toNat * 2 + 1)
        have HF := Lib.hid (h18.put rfl i.toNat (by omega) s8 m8 (.slice p18 (X.ps.length + 1) c18) (X.ps ++ [s16]) ⟨RHd.of_owns (by rw [cellsOf_snoc, List.length_append]; exact o18) hb13, hp.z.snoc m16, by rw [List.length_append]; simp; omega⟩)
        clear h18 o18 g18 o13 D17 D16 D13 D8 D7 D15 D18
        go_wp2_with fail
        generalize x18.setCell ⟨g, i.toNat * 2, none⟩ (.string s8) = x21 at *
        refine hK.out _ _ trivial ?_
        clear hK K
        refine hH.out _ _ _ _ _ rfl (fun K hK => ?_); go_simp; refine hK _ ?_; clear hK K
        refine hH.out _ _ _ _ _ rfl (fun K hK => ?_); go_simp; refine hK _ ?_; clear hK K
        refine hC.out _ _ _ _ _ rfl (by first | rfl | go_simp) (fun K hK => ?_)
        simp only [bare]
        go_wp2_with fail
        refine hK.out _ _ trivial ?_
        clear hK K
        refine hE_.out _ _ ?_
        clear hH hC hA_ hE_ W
        show JS _ _
        refine hS _ _ ?_
        exact ⟨_, List.length_modify _ _ _, HF.out, Fr.of _ rfl ⟨rfl, rfl, trivial⟩⟩
      refine hA_.out _ _ _ _ _ ?_ ?_
      · refine hC.out _ _ _ _ _ rfl (by first | rfl | go_simp) (fun K hK => ?_)
        simp only [bare]
        have u12 := (World.cell?_of_block (a := ⟨g, i.toNat * 2 + 1, none⟩) (D7.gr.block g hgl (by simpa using hgB))).trans t1
        go_wp2_with fail
        clear u12
        refine hK.out _ _ trivial ?_
        clear hK K
        refine hA_.out _ _ _ _ _ ?_ ?_
        · refine hC.out _ _ _ _ _ rfl (by first | rfl | go_simp) (fun K hK => ?_)
          simp only [bare]
          go_wp2_with fail
          refine (some_any B (b + 23) _ 3 [⟨#[]⟩, ⟨#[115, 97]⟩, X.key] x7 H7.row (by decide) (by decide) (by intro k hk; have := (H7.lt k hk).1; omega) D7.str (by omega)).mono ?_
          rintro e x8 ⟨s8, rfl, hs8, d8⟩
          have D8 := D7.trans d8
          have z8 := d8.size
          have m8 := smA hz hs8
          clear d8 hs8 H7
          go_wp2_with fail
          refine hK.out _ _ trivial ?_
          clear hK K
          refine hA_.out _ _ _ _ _ ?_ ?_
          · refine hC.out _ _ _ _ _ rfl (by first | rfl | go_simp) (fun K hK => ?_)
            simp only [bare]
            go_wp2_with fail
            refine (clone_s X.pv X.ps.length X.ps 0 x8 (hp.str D8.gr).r.row (by omega)).mono ?_
            rintro e x13 ⟨v13, rfl, o13, b13⟩
            have D13 := D8.below b13
            have hb13 : B < x8.heap.size := D8.str.lt
            have hc13 : w.heap.size ≤ x8.heap.size := D8.size
            have z13 := b13.size
            obtain ⟨p13, c13, e13⟩ := (Row.of_owns o13).shape
            subst e13
            clear b13
            go_wp2_with fail
            refine hK.out _ _ trivial ?_
            clear hK K
            refine hC.out _ _ _ _ _ rfl (by first | rfl | go_simp) (fun K hK => ?_)
            simp only [bare]
            have O15 := owns_lit x13 x13.heap.size 9 #[.string ⟨#[122, 122]⟩, .string ⟨#[]⟩, .string ⟨#[97]⟩] 3 (by decide) rfl (Nat.le_refl _)
            have D15 : Drawn B w (x13.alloc (.cells #[.string ⟨#[122, 122]⟩, .string ⟨#[]⟩, .string ⟨#[97]⟩] 9)) (b + 24) := D13.alloc _
            have H15 : RHd 9 B (x13.alloc (.cells #[.string ⟨#[122, 122]⟩, .string ⟨#[]⟩, .string ⟨#[97]⟩] 9)).heap.size (x13.alloc (.cells #[.string ⟨#[122, 122]⟩, .string ⟨#[]⟩, .string ⟨#[97]⟩] 9)) 3 (.slice (some ⟨x13.heap.size, 0, none⟩) 3 3) (cellsOf encSt [⟨#[122, 122]⟩, ⟨#[]⟩, ⟨#[97]⟩]) := RHd.of_owns O15 D13.str.lt
            have z15 : x13.heap.size ≤ (x13.alloc (.cells #[.string ⟨#[122, 122]⟩, .string ⟨#[]⟩, .string ⟨#[97]⟩] 9)).heap.size := by simp
            have o13 := o13.alloc (.cells #[.string ⟨#[122, 122]⟩, .string ⟨#[]⟩, .string ⟨#[97]⟩] 9)
            clear O15
            go_wp2_with fail
            generalize x13.alloc (.cells #[.string ⟨#[122, 122]⟩, .string ⟨#[]⟩, .string ⟨#[97]⟩] 9) = x15 at *
            refine hK.out _ _ trivial ?_
            clear hK K
            refine hC.out _ _ _ _ _ rfl (by first | rfl | go_simp) (fun K hK => ?_)
            simp only [bare]
            go_wp2_with fail
            refine (some_any B (b + 24) _ 3 [⟨#[122, 122]⟩, ⟨#[]⟩, ⟨#[97]⟩] x15 H15.row (by decide) (by decide) (by intro k hk; have := (H15.lt k hk).1; omega) D15.str (by omega)).mono ?_
            rintro e x16 ⟨s16, rfl, hs16, d16⟩
            have D16 := D15.trans d16
            have z16 := d16.size
            have m16 := smB hs16
            have o13 := owns_drawn o13 d16 hb13
            clear d16 hs16 H15
            go_wp2_with fail
            refine hK.out _ _ trivial ?_
            clear hK K
            refine hC.out _ _ _ _ _ rfl (by first | rfl | go_simp) (fun K hK => ?_)
            simp only [bare]
            have D17 := D16.alloc (.cells #[.string s16] 9)
            have o13 := o13.alloc (.cells #[.string s16] 9)
            go_wp2_with fail
            refine hK.out _ _ trivial ?_
            clear hK K
            refine hC.out _ _ _ _ _ rfl (by first | rfl | go_simp) (fun K hK => ?_)
            simp only [bare]
            go_wp2_with (at_builtin; refine app_law rfl _ _ _ rfl el_str o13 rfl [.string s16] rfl rfl (cells_new x16 #[_] _) (by simp [Value.oneCell']) (by omega) (by simp; omega) ?_; intro v18 x18 o18 g18)
            have D18 := D17.app o13 hc13 hb13 g18
            obtain ⟨p18, c18, e18⟩ := (Row.of_owns o18).shape
            subst e18
            refine hK.out _ _ trivial ?_
            clear hK K
            refine hH.out _ _ _ _ _ rfl (fun K hK => ?_); go_simp; refine hK _ ?_; clear hK K
            refine hH.out _ _ _ _ _ rfl (fun K hK => ?_); go_simp; refine hK _ ?_; clear hK K
            refine hC.out _ _ _ _ _ rfl (by first | rfl | go_simp) (fun K hK => ?_)
            simp only [bare]
            have h18 := hW.drawn D18
            have u21 := (World.cell?_of_block (a := ⟨g, i.toNat * 2, none⟩) (D18.gr.block g hgl (by simpa using hgB))).trans t0
            have f21 := owns_frozenC h18.o (i.toNat * 2)
            have u24 := (World.cell?_of_block (a := ⟨g, i.toNat * 2 + 1, none⟩) (D18.gr.block g hgl (by simpa using hgB))).trans t1
            have u24 := (World.cell?_setCell_other x18 ⟨g, i.toNat * 2, none⟩ ⟨g, i.toNat * 2 + 1, none⟩ (.string s8) (by simp)).trans u24
            have f24 := owns_frozenC (owns_setC h18.o (i.toNat * 2) (by omega) (.string s8)) (i.toNat * 2 + 1)
            have HF := Lib.hid (h18.put rfl i.toNat (by omega) s8 m8 (.slice p18 (X.ps.length + 1) c18) (X.ps ++ [s16]) ⟨RHd.of_owns (by rw [cellsOf_snoc, List.length_append]; exact o18) hb13, hp.z.snoc m16, by rw [List.length_append]; simp; omega⟩)
            clear h18 o18 g18 o13 D17 D16 D13 D8 D7 D15 D18
            go_wp2_with fail
            generalize x18.setCell ⟨g, i.toNat * 2, none⟩ (.string s8) = x21 at *
            refine hK.out _ _ trivial ?_
            clear hK K
            refine hH.out _ _ _ _ _ rfl (fun K hK => ?_); go_simp; refine hK _ ?_; clear hK K
            refine hH.out _ _ _ _ _ rfl (fun K hK => ?_); go_simp; refine hK _ ?_; clear hK K
            refine hC.out _ _ _ _ _ rfl (by first | rfl | go_simp) (fun K hK => ?_)
            simp only [bare]
            go_wp2_with fail
            refine hK.out _ _ trivial ?_
            clear hK K
            refine hE_.out _ _ ?_
            clear hH hC hA_ hE_ W
            show JS _ _
            refine hS _ _ ?_
            exact ⟨_, List.length_modify _ _ _, HF.out, Fr.of _ rfl ⟨rfl, rfl, trivial⟩⟩
          refine hC.out _ _ _ _ _ rfl (by first | rfl | go_simp) (fun K hK => ?_)
          simp only [bare]
          have O15 := owns_lit x8 x8.heap.size 9 #[.string ⟨#[122, 122]⟩, .string ⟨#[]⟩, .string ⟨#[97]⟩] 3 (by decide) rfl (Nat.le_refl _)
          have D15 : Drawn B w (x8.alloc (.cells #[.string ⟨#[122, 122]⟩, .string ⟨#[]⟩, .string ⟨#[97]⟩] 9)) (b + 24) := D8.alloc _
          have H15 : RHd 9 B (x8.alloc (.cells #[.string ⟨#[122, 122]⟩, .string ⟨#[]⟩, .string ⟨#[97]⟩] 9)).heap.size (x8.alloc (.cells #[.string ⟨#[122, 122]⟩, .string ⟨#[]⟩, .string ⟨#[97]⟩] 9)) 3 (.slice (some ⟨x8.heap.size, 0, none⟩) 3 3) (cellsOf encSt [⟨#[122, 122]⟩, ⟨#[]⟩, ⟨#[97]⟩]) := RHd.of_owns O15 D8.str.lt
          have z15 : x8.heap.size ≤ (x8.alloc (.cells #[.string ⟨#[122, 122]⟩, .string ⟨#[]⟩, .string ⟨#[97]⟩] 9)).heap.size := by simp
          clear O15
          go_wp2_with fail
          generalize x8.alloc (.cells #[.string ⟨#[122, 122]⟩, .string ⟨#[]⟩, .string ⟨#[97]⟩] 9) = x15 at *
          refine hK.out _ _ trivial ?_
          clear hK K
          refine hC.out _ _ _ _ _ rfl (by first | rfl | go_simp) (fun K hK => ?_)
          simp only [bare]
          go_wp2_with fail
          refine (clone_s X.pv X.ps.length X.ps 0 x15 (hp.str D15.gr).r.row (by omega)).mono ?_
          rintro e x13 ⟨v13, rfl, o13, b13⟩
          have D13 := D15.below b13
          have hb13 : B < x15.heap.size := D15.str.lt
          have hc13 : w.heap.size ≤ x15.heap.size := D15.size
          have z13 := b13.size
          have H15 := H15.under b13
          obtain ⟨p13, c13, e13⟩ := (Row.of_owns o13).shape
          subst e13
          clear b13
          go_wp2_with fail
          refine hK.out _ _ trivial ?_
          clear hK K
          refine hC.out _ _ _ _ _ rfl (by first | rfl | go_simp) (fun K hK => ?_)
          simp only [bare]
          go_wp2_with fail
          refine (some_any B (b + 24) _ 3 [⟨#[122, 122]⟩, ⟨#[]⟩, ⟨#[97]⟩] x13 H15.row (by decide) (by decide) (by intro k hk; have := (H15.lt k hk).1; omega) D13.str (by omega)).mono ?_
          rintro e x16 ⟨s16, rfl, hs16, d16⟩
          have D16 := D13.trans d16
          have z16 := d16.size
          have m16 := smB hs16
          have o13 := owns_drawn o13 d16 hb13
          clear d16 hs16 H15
          go_wp2_with fail
          refine hK.out _ _ trivial ?_
          clear hK K
          refine hC.out _ _ _ _ _ rfl (by first | rfl | go_simp) (fun K hK => ?_)
          simp only [bare]
          have D17 := D16.alloc (.cells #[.string s16] 9)
          have o13 := o13.alloc (.cells #[.string s16] 9)
          go_wp2_with fail
          refine hK.out _ _ trivial ?_
          clear hK K
          refine hC.out _ _ _ _ _ rfl (by first | rfl | go_simp) (fun K hK => ?_)
          simp only [bare]
          go_wp2_with (at_builtin; refine app_law rfl _ _ _ rfl el_str o13 rfl [.string s16] rfl rfl (cells_new x16 #[_] _) (by simp [Value.oneCell']) (by omega) (by simp; omega) ?_; intro v18 x18 o18 g18)
          have D18 := D17.app o13 hc13 hb13 g18
          obtain ⟨p18, c18, e18⟩ := (Row.of_owns o18).shape
          subst e18
          refine hK.out _ _ trivial ?_
          clear hK K
          refine hH.out _ _ _ _ _ rfl (fun K hK => ?_); go_simp; refine hK _ ?_; clear hK K
          refine hH.out _ _ _ _ _ rfl (fun K hK => ?_); go_simp; refine hK _ ?_; clear hK K
          refine hC.out _ _ _ _ _ rfl (by first | rfl | go_simp) (fun K hK => ?_)
          simp only [bare]
          have h18 := hW.drawn D18
          have u21 := (World.cell?_of_block (a := ⟨g, i.toNat * 2, none⟩) (D18.gr.block g hgl (by simpa using hgB))).trans t0
          have f21 := owns_frozenC h18.o (i.toNat * 2)
          have u24 := (World.cell?_of_block (a := ⟨g, i.toNat * 2 + 1, none⟩) (D18.gr.block g hgl (by simpa using hgB))).trans t1
          have u24 := (World.cell?_setCell_other x18 ⟨g, i.toNat * 2, none⟩ ⟨g, i.toNat * 2 + 1, none⟩ (.string s8) (by simp)).trans u24
          have f24 := owns_frozenC (owns_setC h18.o (i.toNat * 2) (by omega) (.string s8)) (i.toNat * 2 + 1)
          have HF := Lib.hid (h18.put rfl i.toNat (by omega) s8 m8 (.slice p18 (X.ps.length + 1) c18) (X.ps ++ [s16]) ⟨RHd.of_owns (by rw [cellsOf_snoc, List.length_append]; exact o18) hb13, hp.z.snoc m16, by rw [List.length_append]; simp; omega⟩)
          clear h18 o18 g18 o13 D17 D16 D13 D8 D7 D15 D18
          go_wp2_with fail
          generalize x18.setCell ⟨g, i.toNat * 2, none⟩ (.string s8) = x21 at *
          refine hK.out _ _ trivial ?_
          clear hK K
          refine hH.out _ _ _ _ _ rfl (fun K hK => ?_); go_simp; refine hK _ ?_; clear hK K
          refine hH.out _ _ _ _ _ rfl (fun K hK => ?_); go_simp; refine hK _ ?_; clear hK K
          refine hC.out _ _ _ _ _ rfl (by first | rfl | go_simp) (fun K hK => ?_)
          simp only [bare]
          go_wp2_with fail
          refine hK.out _ _ trivial ?_
          clear hK K
          refine hE_.out _ _ ?_
          clear hH hC hA_ hE_ W
          show JS _ _
          refine hS _ _ ?_
          exact ⟨_, List.length_modify _ _ _, HF.out, Fr.of _ rfl ⟨rfl, rfl, trivial⟩⟩
        refine hC.out _ _ _ _ _ rfl (by first | rfl | go_simp) (fun K hK => ?_)
        simp only [bare]
        have O15 := owns_lit x7 x7.heap.size 9 #[.string ⟨#[122, 122]⟩, .string ⟨#[]⟩, .string ⟨#[97]⟩] 3 (by decide) rfl (Nat.le_refl _)
        have D15 : Drawn B w (x7.alloc (.cells #[.string ⟨#[122, 122]⟩, .string ⟨#[]⟩, .string ⟨#[97]⟩] 9)) (b + 23) := D7.alloc _
        have H15 : RHd 9 B (x7.alloc (.cells #[.string ⟨#[122, 122]⟩, .string ⟨#[]⟩, .string ⟨#[97]⟩] 9)).heap.size (x7.alloc (.cells #[.string ⟨#[122, 122]⟩, .string ⟨#[]⟩, .string ⟨#[97]⟩] 9)) 3 (.slice (some ⟨x7.heap.size, 0, none⟩) 3 3) (cellsOf encSt [⟨#[122, 122]⟩, ⟨#[]⟩, ⟨#[97]⟩]) := RHd.of_owns O15 D7.str.lt
        have z15 : x7.heap.size ≤ (x7.alloc (.cells #[.string ⟨#[122, 122]⟩, .string ⟨#[]⟩, .string ⟨#[97]⟩] 9)).heap.size := by simp
        have H7 := H7.alloc (.cells #[.string ⟨#[122, 122]⟩, .string ⟨#[]⟩, .string ⟨#[97]⟩] 9)
        clear O15
        go_wp2_with fail
        generalize x7.alloc (.cells #[.string ⟨#[122, 122]⟩, .string ⟨#[]⟩, .string ⟨#[97]⟩] 9) = x15 at *
        refine hK.out _ _ trivial ?_
        clear hK K
        refine hC.out _ _ _ _ _ rfl (by first | rfl | go_simp) (fun K hK => ?_)
        simp only [bare]
        go_wp2_with fail
        refine (some_any B (b + 23) _ 3 [⟨#[]⟩, ⟨#[115, 97]⟩, X.key] x15 H7.row (by decide) (by decide) (by intro k hk; have := (H7.lt k hk).1; omega) D15.str (by omega)).mono ?_
        rintro e x8 ⟨s8, rfl, hs8, d8⟩
        have D8 := D15.trans d8
        have z8 := d8.size
        have m8 := smA hz hs8
        have H15 := H15.str d8.gr
        clear d8 hs8 H7
        go_wp2_with fail
        refine hK.out _ _ trivial ?_
        clear hK K
        refine hC.out _ _ _ _ _ rfl (by first | rfl | go_simp) (fun K hK => ?_)
        simp only [bare]
        go_wp2_with fail
        refine (clone_s X.pv X.ps.length X.ps 0 x8 (hp.str D8.gr).r.row (by omega)).mono ?_
        rintro e x13 ⟨v13, rfl, o13, b13⟩
        have D13 := D8.below b13
        have hb13 : B < x8.heap.size := D8.str.lt
        have hc13 : w.heap.size ≤ x8.heap.size := D8.size
        have z13 := b13.size
        have H15 := H15.under b13
        obtain ⟨p13, c13, e13⟩ := (Row.of_owns o13).shape
        subst e13
        clear b13
        go_wp2_with fail
        refine hK.out _ _ trivial ?_
        clear hK K
        refine hC.out _ _ _ _ _ rfl (by first | rfl | go_simp) (fun K hK => ?_)
        simp only [bare]
        go_wp2_with fail
        refine (some_any B (b + 24) _ 3 [⟨#[122, 122]⟩, ⟨#[]⟩, ⟨#[97]⟩] x13 H15.row (by decide) (by decide) (by intro k hk; have := (H15.lt k hk).1; omega) D13.str (by omega)).mono ?_
        rintro e x16 ⟨s16, rfl, hs16, d16⟩
        have D16 := D13.trans d16
        have z16 := d16.size
        have m16 := smB hs16
        have o13 := owns_drawn o13 d16 hb13
        clear d16 hs16 H15
        go_wp2_with fail
        refine hK.out _ _ trivial ?_
        clear hK K
        refine hC.out _ _ _ _ _ rfl (by first | rfl | go_simp) (fun K hK => ?_)
        simp only [bare]
        have D17 := D16.alloc (.cells #[.string s16] 9)
        have o13 := o13.alloc (.cells #[.string s16] 9)
        go_wp2_with fail
        refine hK.out _ _ trivial ?_
        clear hK K
        refine hC.out _ _ _ _ _ rfl (by first | rfl | go_simp) (fun K hK => ?_)
        simp only [bare]
        go_wp2_with (at_builtin; refine app_law rfl _ _ _ rfl el_str o13 rfl [.string s16] rfl rfl (cells_new x16 #[_] _) (by simp [Value.oneCell']) (by omega) (by simp; omega) ?_; intro v18 x18 o18 g18)
        have D18 := D17.app o13 hc13 hb13 g18
        obtain ⟨p18, c18, e18⟩ := (Row.of_owns o18).shape
        subst e18
        refine hK.out _ _ trivial ?_
        clear hK K
        refine hH.out _ _ _ _ _ rfl (fun K hK => ?_); go_simp; refine hK _ ?_; clear hK K
        refine hH.out _ _ _ _ _ rfl (fun K hK => ?_); go_simp; refine hK _ ?_; clear hK K
        refine hC.out _ _ _ _ _ rfl (by first | rfl | go_simp) (fun K hK => ?_)
        simp only [bare]
        have h18 := hW.drawn D18
        have u21 := (World.cell?_of_block (a := ⟨g, i.toNat * 2, none⟩) (D18.gr.block g hgl (by simpa using hgB))).trans t0
        have f21 := owns_frozenC h18.o (i.toNat * 2)
        have u24 := (World.cell?_of_block (a := ⟨g, i.toNat * 2 + 1, none⟩) (D18.gr.block g hgl (by simpa using hgB))).trans t1
        have u24 := (World.cell?_setCell_other x18 ⟨g, i.toNat * 2, none⟩ ⟨g, i.toNat * 2 + 1, none⟩ (.string s8) (by simp)).trans u24
        have f24 := owns_frozenC (owns_setC h18.o (i.toNat * 2) (by omega) (.string s8)) (i.toNat * 2 + 1)
        have HF := Lib.hid (h18.put rfl i.toNat (by omega) s8 m8 (.slice p18 (X.ps.length + 1) c18) (X.ps ++ [s16]) ⟨RHd.of_owns (by rw [cellsOf_snoc, List.length_append]; exact o18) hb13, hp.z.snoc m16, by rw [List.length_append]; simp; omega⟩)
        clear h18 o18 g18 o13 D17 D16 D13 D8 D7 D15 D18
        go_wp2_with fail
        generalize x18.setCell ⟨g, i.toNat * 2, none⟩ (.string s8) = x21 at *
        refine hK.out _ _ trivial ?_
        clear hK K
        refine hH.out _ _ _ _ _ rfl (fun K hK => ?_); go_simp; refine hK _ ?_; clear hK K
        refine hH.out _ _ _ _ _ rfl (fun K hK => ?_); go_simp; refine hK _ ?_; clear hK K
        refine hC.out _ _ _ _ _ rfl (by first | rfl | go_simp) (fun K hK => ?_)
        simp only [bare]
        go_wp2_with fail
        refine hK.out _ _ trivial ?_
        clear hK K
        refine hE_.out _ _ ?_
        clear hH hC hA_ hE_ W
        show JS _ _
        refine hS _ _ ?_
        exact ⟨_, List.length_modify _ _ _, HF.out, Fr.of _ rfl ⟨rfl, rfl, trivial⟩⟩
      refine hC.out _ _ _ _ _ rfl (by first | rfl | go_simp) (fun K hK => ?_)
      simp only [bare]
      have O15 := owns_lit x7 x7.heap.size 9 #[.string ⟨#[122, 122]⟩, .string ⟨#[]⟩, .string ⟨#[97]⟩] 3 (by decide) rfl (Nat.le_refl _)
      have D15 : Drawn B w (x7.alloc (.cells #[.string ⟨#[122, 122]⟩, .string ⟨#[]⟩, .string ⟨#[97]⟩] 9)) (b + 23) := D7.alloc _
      have H15 : RHd 9 B (x7.alloc (.cells #[.string ⟨#[122, 122]⟩, .string ⟨#[]⟩, .string ⟨#[97]⟩] 9)).heap.size (x7.alloc (.cells #[.string ⟨#[122, 122]⟩, .string ⟨#[]⟩, .string ⟨#[97]⟩] 9)) 3 (.slice (some ⟨x7.heap.size, 0, none⟩) 3 3) (cellsOf encSt [⟨#[122, 122]⟩, ⟨#[]⟩, ⟨#[97]⟩]) := RHd.of_owns O15 D7.str.lt
      have z15 : x7.heap.size ≤ (x7.alloc (.cells #[.string ⟨#[122, 122]⟩, .string ⟨#[]⟩, .string ⟨#[97]⟩] 9)).heap.size := by simp
      have H7 := H7.alloc (.cells #[.string ⟨#[122, 122]⟩, .string ⟨#[]⟩, .string ⟨#[97]⟩] 9)
      clear O15
      go_wp2_with fail
      generalize x7.alloc (.cells #[.string ⟨#[122, 122]⟩, .string ⟨#[]⟩, .string ⟨#[97]⟩] 9) = x15 at *
      refine hK.out _ _ trivial ?_
      clear hK K
      refine hA_.out _ _ _ _ _ ?_ ?_
      · refine hC.out _ _ _ _ _ rfl (by first | rfl | go_simp) (fun K hK => ?_)
        simp only [bare]
        go_wp2_with fail
        refine (some_any B (b + 23) _ 3 [⟨#[]⟩, ⟨#[115, 97]⟩, X.key] x15 H7.row (by decide) (by decide) (by intro k hk; have := (H7.lt k hk).1; omega) D15.str (by omega)).mono ?_
        rintro e x8 ⟨s8, rfl, hs8, d8⟩
        have D8 := D15.trans d8
        have z8 := d8.size
        have m8 := smA hz hs8
        have H15 := H15.str d8.gr
        clear d8 hs8 H7
        go_wp2_with fail
        refine hK.out _ _ trivial ?_
        clear hK K
        refine hC.out _ _ _ _ _ rfl (by first | rfl | go_simp) (fun K hK => ?_)
        simp only [bare]
        have u12 := (World.cell?_of_block (a := ⟨g, i.toNat * 2 + 1, none⟩) (D8.gr.block g hgl (by simpa using hgB))).trans t1
        go_wp2_with fail
        clear u12
        refine hK.out _ _ trivial ?_
        clear hK K
        refine hC.out _ _ _ _ _ rfl (by first | rfl | go_simp) (fun K hK => ?_)
        simp only [bare]
        go_wp2_with fail
        refine (clone_s X.pv X.ps.length X.ps 0 x8 (hp.str D8.gr).r.row (by omega)).mono ?_
        rintro e x13 ⟨v13, rfl, o13, b13⟩
        have D13 := D8.below b13
        have hb13 : B < x8.heap.size := D8.str.lt
        have hc13 : w.heap.size ≤ x8.heap.size := D8.size
        have z13 := b13.size
        have H15 := H15.under b13
        obtain ⟨p13, c13, e13⟩ := (Row.of_owns o13).shape
        subst e13
        clear b13
        go_wp2_with fail
        refine hK.out _ _ trivial ?_
        clear hK K
        refine hC.out _ _ _ _ _ rfl (by first | rfl | go_simp) (fun K hK => ?_)
        simp only [bare]
        go_wp2_with fail
        refine (some_any B (b + 24) _ 3 [⟨#[122, 122]⟩, ⟨#[]⟩, ⟨#[97]⟩] x13 H15.row (by decide) (by decide) (by intro k hk; have := (H15.lt k hk).1; omega) D13.str (by omega)).mono ?_
        rintro e x16 ⟨s16, rfl, hs16, d16⟩
        have D16 := D13.trans d16
        have z16 := d16.size
        have m16 := smB hs16
        have o13 := owns_drawn o13 d16 hb13
        clear d16 hs16 H15
        go_wp2_with fail
        refine hK.out _ _ trivial ?_
        clear hK K
        refine hC.out _ _ _ _ _ rfl (by first | rfl | go_simp) (fun K hK => ?_)
        simp only [bare]
        have D17 := D16.alloc (.cells #[.string s16] 9)
        have o13 := o13.alloc (.cells #[.string s16] 9)
        go_wp2_with fail
        refine hK.out _ _ trivial ?_
        clear hK K
        refine hC.out _ _ _ _ _ rfl (by first | rfl | go_simp) (fun K hK => ?_)
        simp only [bare]
        go_wp2_with (at_builtin; refine app_law rfl _ _ _ rfl el_str o13 rfl [.string s16] rfl rfl (cells_new x16 #[_] _) (by simp [Value.oneCell']) (by omega) (by simp; omega) ?_; intro v18 x18 o18 g18)
        have D18 := D17.app o13 hc13 hb13 g18
        obtain ⟨p18, c18, e18⟩ := (Row.of_owns o18).shape
        subst e18
        refine hK.out _ _ trivial ?_
        clear hK K
        refine hH.out _ _ _ _ _ rfl (fun K hK => ?_); go_simp; refine hK _ ?_; clear hK K
        refine hH.out _ _ _ _ _ rfl (fun K hK => ?_); go_simp; refine hK _ ?_; clear hK K
        refine hC.out _ _ _ _ _ rfl (by first | rfl | go_simp) (fun K hK => ?_)
        simp only [bare]
        have h18 := hW.drawn D18
        have u21 := (World.cell?_of_block (a := ⟨g, i.toNat * 2, none⟩) (D18.gr.block g hgl (by simpa using hgB))).trans t0
        have f21 := owns_frozenC h18.o (i.toNat * 2)
        have u24 := (World.cell?_of_block (a := ⟨g, i.toNat * 2 + 1, none⟩) (D18.gr.block g hgl (by simpa using hgB))).trans t1
        have u24 := (World.cell?_setCell_other x18 ⟨g, i.toNat * 2, none⟩ ⟨g, i.toNat * 2 + 1, none⟩ (.string s8) (by simp)).trans u24
        have f24 := owns_frozenC (owns_setC h18.o (i.toNat * 2) (by omega) (.string s8)) (i.toNat * 2 + 1)
        have HF := Lib.hid (h18.put rfl i.toNat (by omega) s8 m8 (.slice p18 (X.ps.length + 1) c18) (X.ps ++ [s16]) ⟨RHd.of_owns (by rw [cellsOf_snoc, List.length_append]; exact o18) hb13, hp.z.snoc m16, by rw [List.length_append]; simp; omega⟩)
        clear h18 o18 g18 o13 D17 D16 D13 D8 D7 D15 D18
        go_wp2_with fail
        generalize x18.setCell ⟨g, i.toNat * 2, none⟩ (.string s8) = x21 at *
        refine hK.out _ _ trivial ?_
        clear hK K
        refine hH.out _ _ _ _ _ rfl (fun K hK => ?_); go_simp; refine hK _ ?_; clear hK K
        refine hH.out _ _ _ _ _ rfl (fun K hK => ?_); go_simp; refine hK _ ?_; clear hK K
        refine hC.out _ _ _ _ _ rfl (by first | rfl | go_simp) (fun K hK => ?_)
        simp only [bare]
        go_wp2_with fail
        refine hK.out _ _ trivial ?_
        clear hK K
        refine hE_.out _ _ ?_
        clear hH hC hA_ hE_ W
        show JS _ _
        refine hS _ _ ?_
        exact ⟨_, List.length_modify _ _ _, HF.out, Fr.of _ rfl ⟨rfl, rfl, trivial⟩⟩
      refine hC.out _ _ _ _ _ rfl (by first | rfl | go_simp) (fun K hK => ?_)
      simp only [bare]
      have u12 := (World.cell?_of_block (a := ⟨g, i.toNat * 2 + 1, none⟩) (D15.gr.block g hgl (by simpa using hgB))).trans t1
      go_wp2_with fail
      clear u12
      refine hK.out _ _ trivial ?_
      clear hK K
      refine hC.out _ _ _ _ _ rfl (by first | rfl | go_simp) (fun K hK => ?_)
      simp only [bare]
      go_wp2_with fail
      refine (some_any B (b + 23) _ 3 [⟨#[]⟩, ⟨#[115, 97]⟩, X.key] x15 H7.row (by decide) (by decide) (by intro k hk; have := (H7.lt k hk).1; omega) D15.str (by omega)).mono ?_
      rintro e x8 ⟨s8, rfl, hs8, d8⟩
      have D8 := D15.trans d8
      have z8 := d8.size
      have m8 := smA hz hs8
      have H15 := H15.str d8.gr
      clear d8 hs8 H7
      go_wp2_with fail
      refine hK.out _ _ trivial ?_
      clear hK K
      refine hC.out _ _ _ _ _ rfl (by first | rfl | go_simp) (fun K hK => ?_)
      simp only [bare]
      go_wp2_with fail
      refine (clone_s X.pv X.ps.length X.ps 0 x8 (hp.str D8.gr).r.row (by omega)).mono ?_
      rintro e x13 ⟨v13, rfl, o13, b13⟩
      have D13 := D8.below b13
      have hb13 : B < x8.heap.size := D8.str.lt
      have hc13 : w.heap.size ≤ x8.heap.size := D8.size
      have z13 := b13.size
      have H15 := H15.under b13
      obtain ⟨p13, c13, e13⟩ := (Row.of_owns o13).shape
      subst e13
      clear b13
      go_wp2_with fail
      refine hK.out _ _ trivial ?_
      clear hK K
      refine hC.out _ _ _ _ _ rfl (by first | rfl | go_simp) (fun K hK => ?_)
      simp only [bare]
      go_wp2_with fail
      refine (some_any B (b + 24) _ 3 [⟨#[122, 122]⟩, ⟨#[]⟩, ⟨#[97]⟩] x13 H15.row (by decide) (by decide) (by intro k hk; have := (H15.lt k hk).1; omega) D13.str (by omega)).mono ?_
      rintro e x16 ⟨s16, rfl, hs16, d16⟩
      have D16 := D13.trans d16
      have z16 := d16.size
      have m16 := smB hs16
      have o13 := owns_drawn o13 d16 hb13
      clear d16 hs16 H15
      go_wp2_with fail
      refine hK.out _ _ trivial ?_
      clear hK K
      refine hC.out _ _ _ _ _ rfl (by first | rfl | go_simp) (fun K hK => ?_)
      simp only [bare]
      have D17 := D16.alloc (.cells #[.string s16] 9)
      have o13 := o13.alloc (.cells #[.string s16] 9)
      go_wp2_with fail
      refine hK.out _ _ trivial ?_
      clear hK K
      refine hC.out _ _ _ _ _ rfl (by first | rfl | go_simp) (fun K hK => ?_)
      simp only [bare]
      go_wp2_with (at_builtin; refine app_law rfl _ _ _ rfl el_str o13 rfl [.string s16] rfl rfl (cells_new x16 #[_] _) (by simp [Value.oneCell']) (by omega) (by simp; omega) ?_; intro v18 x18 o18 g18)
      have D18 := D17.app o13 hc13 hb13 g18
      obtain ⟨p18, c18, e18⟩ := (Row.of_owns o18).shape
      subst e18
      refine hK.out _ _ trivial ?_
      clear hK K
      refine hH.out _ _ _ _ _ rfl (fun K hK => ?_); go_simp; refine hK _ ?_; clear hK K
      refine hH.out _ _ _ _ _ rfl (fun K hK => ?_); go_simp; refine hK _ ?_; clear hK K
      refine hC.out _ _ _ _ _ rfl (by first | rfl | go_simp) (fun K hK => ?_)
      simp only [bare]
      have h18 := hW.drawn D18
      have u21 := (World.cell?_of_block (a := ⟨g, i.toNat * 2, none⟩) (D18.gr.block g hgl (by simpa using hgB))).trans t0
      have f21 := owns_frozenC h18.o (i.toNat * 2)
      have u24 := (World.cell?_of_block (a := ⟨g, i.toNat * 2 + 1, none⟩) (D18.gr.block g hgl (by simpa using hgB))).trans t1
      have u24 := (World.cell?_setCell_other x18 ⟨g, i.toNat * 2, none⟩ ⟨g, i.toNat * 2 + 1, none⟩ (.string s8) (by simp)).trans u24
      have f24 := owns_frozenC (owns_setC h18.o (i.toNat * 2) (by omega) (.string s8)) (i.toNat * 2 + 1)
      have HF := Lib.hid (h18.put rfl i.toNat (by omega) s8 m8 (.slice p18 (X.ps.length + 1) c18) (X.ps ++ [s16]) ⟨RHd.of_owns (by rw [cellsOf_snoc, List.length_append]; exact o18) hb13, hp.z.snoc m16, by rw [List.length_append]; simp; omega⟩)
      clear h18 o18 g18 o13 D17 D16 D13 D8 D7 D15 D18
      go_wp2_with fail
      generalize x18.setCell ⟨g, i.toNat * 2, none⟩ (.string s8) = x21 at *
      refine hK.out _ _ trivial ?_
      clear hK K
      refine hH.out _ _ _ _ _ rfl (fun K hK => ?_); go_simp; refine hK _ ?_; clear hK K
      refine hH.out _ _ _ _ _ rfl (fun K hK => ?_); go_simp; refine hK _ ?_; clear hK K
      refine hC.out _ _ _ _ _ rfl (by first | rfl | go_simp) (fun K hK => ?_)
      simp only [bare]
      go_wp2_with fail
      refine hK.out _ _ trivial ?_
      clear hK K
      refine hE_.out _ _ ?_
      clear hH hC hA_ hE_ W
      show JS _ _
      refine hS _ _ ?_
      exact ⟨_, List.length_modify _ _ _, HF.out, Fr.of _ rfl ⟨rfl, rfl, trivial⟩⟩
    refine hA_.out _ _ _ _ _ ?_ ?_
    · refine hC.out _ _ _ _ _ rfl (by first | rfl | go_simp) (fun K hK => ?_)
      simp only [bare]
      have u12 := (World.cell?_of_block (a := ⟨g, i.toNat * 2 + 1, none⟩) (D0.gr.block g hgl (by simpa using hgB))).trans t1
      go_wp2_with fail
      clear u12
      refine hK.out _ _ trivial ?_
      clear hK K
      refine hA_.out _ _ _ _ _ ?_ ?_
      · refine hC.out _ _ _ _ _ rfl (by first | rfl | go_simp) (fun K hK => ?_)
        simp only [bare]
        have O7 := owns_lit x0 x0.heap.size 9 #[.string ⟨#[]⟩, .string ⟨#[115, 97]⟩, .string X.key] 3 (by decide) rfl (Nat.le_refl _)
        have D7 : Drawn B w (x0.alloc (.cells #[.string ⟨#[]⟩, .string ⟨#[115, 97]⟩, .string X.key] 9)) (b + 23) := D0.alloc _
        have H7 : RHd 9 B (x0.alloc (.cells #[.string ⟨#[]⟩, .string ⟨#[115, 97]⟩, .string X.key] 9)).heap.size (x0.alloc (.cells #[.string ⟨#[]⟩, .string ⟨#[115, 97]⟩, .string X.key] 9)) 3 (.slice (some ⟨x0.heap.size, 0, none⟩) 3 3) (cellsOf encSt [⟨#[]⟩, ⟨#[115, 97]⟩, X.key]) := RHd.of_owns O7 D0.str.lt
        have z7 : x0.heap.size ≤ (x0.alloc (.cells #[.string ⟨#[]⟩, .string ⟨#[115, 97]⟩, .string X.key] 9)).heap.size := by simp
        clear O7
        go_wp2_with fail
        generalize x0.alloc (.cells #[.string ⟨#[]⟩, .string ⟨#[115, 97]⟩, .string X.key] 9) = x7 at *
        refine hK.out _ _ trivial ?_
        clear hK K
        refine hA_.out _ _ _ _ _ ?_ ?_
        · refine hC.out _ _ _ _ _ rfl (by first | rfl | go_simp) (fun K hK => ?_)
          simp only [bare]
          go_wp2_with fail
          refine (some_any B (b + 23) _ 3 [⟨#[]⟩, ⟨#[115, 97]⟩, X.key] x7 H7.row (by decide) (by decide) (by intro k hk; have := (H7.lt k hk).1; omega) D7.str (by omega)).mono ?_
          rintro e x8 ⟨s8, rfl, hs8, d8⟩
          have D8 := D7.trans d8
          have z8 := d8.size
          have m8 := smA hz hs8
          clear d8 hs8 H7
          go_wp2_with fail
          refine hK.out _ _ trivial ?_
          clear hK K
          refine hA_.out _ _ _ _ _ ?_ ?_
          · refine hC.out _ _ _ _ _ rfl (by first | rfl | go_simp) (fun K hK => ?_)
            simp only [bare]
            go_wp2_with fail
            refine (clone_s X.pv X.ps.length X.ps 0 x8 (hp.str D8.gr).r.row (by omega)).mono ?_
            rintro e x13 ⟨v13, rfl, o13, b13⟩
            have D13 := D8.below b13
            have hb13 : B < x8.heap.size := D8.str.lt
            have hc13 : w.heap.size ≤ x8.heap.size := D8.size
            have z13 := b13.size
            obtain ⟨p13, c13, e13⟩ := (Row.of_owns o13).shape
            subst e13
            clear b13
            go_wp2_with fail
            refine hK.out _ _ trivial ?_
            clear hK K
            refine hC.out _ _ _ _ _ rfl (by first | rfl | go_simp) (fun K hK => ?_)
            simp only [bare]
            have O15 := owns_lit x13 x13.heap.size 9 #[.string ⟨#[122, 122]⟩, .string ⟨#[]⟩, .string ⟨#[97]⟩] 3 (by decide) rfl (Nat.le_refl _)
            have D15 : Drawn B w (x13.alloc (.cells #[.string ⟨#[122, 122]⟩, .string ⟨#[]⟩, .string ⟨#[97]⟩] 9)) (b + 24) := D13.alloc _
            have H15 : RHd 9 B (x13.alloc (.cells #[.string ⟨#[122, 122]⟩, .string ⟨#[]⟩, .string ⟨#[97]⟩] 9)).heap.size (x13.alloc (.cells #[.string ⟨#[122, 122]⟩, .string ⟨#[]⟩, .string ⟨#[97]⟩] 9)) 3 (.slice (some ⟨x13.heap.size, 0, none⟩) 3 3) (cellsOf encSt [⟨#[122, 122]⟩, ⟨#[]⟩, ⟨#[97]⟩]) := RHd.of_owns O15 D13.str.lt
            have z15 : x13.heap.size ≤ (x13.alloc (.cells #[.string ⟨#[122, 122]⟩, .string ⟨#[]⟩, .string ⟨#[97]⟩] 9)).heap.size := by simp
            have o13 := o13.alloc (.cells #[.string ⟨#[122, 122]⟩, .string ⟨#[]⟩, .string ⟨#[97]⟩] 9)
            clear O15
            go_wp2_with fail
            generalize x13.alloc (.cells #[.string ⟨#[122, 122]⟩, .string ⟨#[]⟩, .string ⟨#[97]⟩] 9) = x15 at *
            refine hK.out _ _ trivial ?_
            clear hK K
            refine hC.out _ _ _ _ _ rfl (by first | rfl | go_simp) (fun K hK => ?_)
            simp only [bare]
            go_wp2_with fail
            refine (some_any B (b + 24) _ 3 [⟨#[122, 122]⟩, ⟨#[]⟩, ⟨#[97]⟩] x15 H15.row (by decide) (by decide) (by intro k hk; have := (H15.lt k hk).1; omega) D15.str (by omega)).mono ?_
            rintro e x16 ⟨s16, rfl, hs16, d16⟩
            have D16 := D15.trans d16
            have z16 := d16.size
            have m16 := smB hs16
            have o13 := owns_drawn o13 d16 hb13
            clear d16 hs16 H15
            go_wp2_with fail
            refine hK.out _ _ trivial ?_
            clear hK K
            refine hC.out _ _ _ _ _ rfl (by first | rfl | go_simp) (fun K hK => ?_)
            simp only [bare]
            have D17 := D16.alloc (.cells #[.string s16] 9)
            have o13 := o13.alloc (.cells #[.string s16] 9)
            go_wp2_with fail
            refine hK.out _ _ trivial ?_
            clear hK K
            refine hC.out _ _ _ _ _ rfl (by first | rfl | go_simp) (fun K hK => ?_)
            simp only [bare]
            go_wp2_with (at_builtin; refine app_law rfl _ _ _ rfl el_str o13 rfl [.string s16] rfl rfl (cells_new x16 #[_] _) (by simp [Value.oneCell']) (by omega) (by simp; omega) ?_; intro v18 x18 o18 g18)
            have D18 := D17.app o13 hc13 hb13 g18
            obtain ⟨p18, c18, e18⟩ := (Row.of_owns o18).shape
            subst e18
            refine hK.out _ _ trivial ?_
            clear hK K
            refine hH.out _ _ _ _ _ rfl (fun K hK => ?_); go_simp; refine hK _ ?_; clear hK K
            refine hH.out _ _ _ _ _ rfl (fun K hK => ?_); go_simp; refine hK _ ?_; clear hK K
            refine hC.out _ _ _ _ _ rfl (by first | rfl | go_simp) (fun K hK => ?_)
            simp only [bare]
            have h18 := hW.drawn D18
            have u21 := (World.cell?_of_block (a := ⟨g, i.toNat * 2, none⟩) (D18.gr.block g hgl (by simpa using hgB))).trans t0
            have f21 := owns_frozenC h18.o (i.toNat * 2)
            have u24 := (World.cell?_of_block (a := ⟨g, i.toNat * 2 + 1, none⟩) (D18.gr.block g hgl (by simpa using hgB))).trans t1
            have u24 := (World.cell?_setCell_other x18 ⟨g, i.toNat * 2, none⟩ ⟨g, i.toNat * 2 + 1, none⟩ (.string s8) (by simp)).trans u24
            have f24 := owns_frozenC (owns_setC h18.o (i.toNat * 2) (by omega) (.string s8)) (i.toNat * 2 + 1)
            have HF := Lib.hid (h18.put rfl i.toNat (by omega) s8 m8 (.slice p18 (X.ps.length + 1) c18) (X.ps ++ [s16]) ⟨RHd.of_owns (by rw [cellsOf_snoc, List.length_append]; exact o18) hb13, hp.z.snoc m16, by rw [List.length_append]; simp; omega⟩)
            clear h18 o18 g18 o13 D17 D16 D13 D8 D7 D15 D18
            go_wp2_with fail
            generalize x18.setCell ⟨g, i.toNat * 2, none⟩ (.string s8) = x21 at *
            refine hK.out _ _ trivial ?_
            clear hK K
            refine hH.out _ _ _ _ _ rfl (fun K hK => ?_); go_simp; refine hK _ ?_; clear hK K
            refine hH.out _ _ _ _ _ rfl (fun K hK => ?_); go_simp; refine hK _ ?_; clear hK K
            refine hC.out _ _ _ _ _ rfl (by first | rfl | go_simp) (fun K hK => ?_)
            simp only [bare]
            go_wp2_with fail
            refine hK.out _ _ trivial ?_
            clear hK K
            refine hE_.out _ _ ?_
            clear hH hC hA_ hE_ W
            show JS _ _
            refine hS _ _ ?_
            exact ⟨_, List.length_modify _ _ _, HF.out, Fr.of _ rfl ⟨rfl, rfl, trivial⟩⟩
          refine hC.out _ _ _ _ _ rfl (by first | rfl | go_simp) (fun K hK => ?_)
          simp only [bare]
          have O15 := owns_lit x8 x8.heap.size 9 #[.string ⟨#[122, 122]⟩, .string ⟨#[]⟩, .string ⟨#[97]⟩] 3 (by decide) rfl (Nat.le_refl _)
          have D15 : Drawn B w (x8.alloc (.cells #[.string ⟨#[122, 122]⟩, .string ⟨#[]⟩, .string ⟨#[97]⟩] 9)) (b + 24) := D8.alloc _
          have H15 : RHd 9 B (x8.alloc (.cells #[.string ⟨#[122, 122]⟩, .string ⟨#[]⟩, .string ⟨#[97]⟩] 9)).heap.size (x8.alloc (.cells #[.string ⟨#[122, 122]⟩, .string ⟨#[]⟩, .string ⟨#[97]⟩] 9)) 3 (.slice (some ⟨x8.heap.size, 0, none⟩) 3 3) (cellsOf encSt [⟨#[122, 122]⟩, ⟨#[]⟩, ⟨#[97]⟩]) := RHd.of_owns O15 D8.str.lt
          have z15 : x8.heap.size ≤ (x8.alloc (.cells #[.string ⟨#[122, 122]⟩, .string ⟨#[]⟩, .string ⟨#[97]⟩] 9)).heap.size := by simp
          clear O15
          go_wp2_with fail
          generalize x8.alloc (.cells #[.string ⟨#[122, 122]⟩, .string ⟨#[]⟩, .string ⟨#[97]⟩] 9) = x15 at *
          refine hK.out _ _ trivial ?_
          clear hK K
          refine hC.out _ _ _ _ _ rfl (by first | rfl | go_simp) (fun K hK => ?_)
          simp only [bare]
          go_wp2_with fail
          refine (clone_s X.pv X.ps.length X.ps 0 x15 (hp.str D15.gr).r.row (by omega)).mono ?_
          rintro e x13 ⟨v13, rfl, o13, b13⟩
          have D13 := D15.below b13
          have hb13 : B < x15.heap.size := D15.str.lt
          have hc13 : w.heap.size ≤ x15.heap.size := D15.size
          have z13 := b13.size
          have H15 := H15.under b13
          obtain ⟨p13, c13, e13⟩ := (Row.of_owns o13).shape
          subst e13
          clear b13
          go_wp2_with fail
          refine hK.out _ _ trivial ?_
          clear hK K
          refine hC.out _ _ _ _ _ rfl (by first | rfl | go_simp) (fun K hK => ?_)
          simp only [bare]
          go_wp2_with fail
          refine (some_any B (b + 24) _ 3 [⟨#[122, 122]⟩, ⟨#[]⟩, ⟨#[97]⟩] x13 H15.row (by decide) (by decide) (by intro k hk; have := (H15.lt k hk).1; omega) D13.str (by omega)).mono ?_
          rintro e x16 ⟨s16, rfl, hs16, d16⟩
          have D16 := D13.trans d16
          have z16 := d16.size
          have m16 := smB hs16
          have o13 := owns_drawn o13 d16 hb13
          clear d16 hs16 H15
          go_wp2_with fail
          refine hK.out _ _ trivial ?_
          clear hK K
          refine hC.out _ _ _ _ _ rfl (by first | rfl | go_simp) (fun K hK => ?_)
          simp only [bare]
          have D17 := D16.alloc (.cells #[.string s16] 9)
          have o13 := o13.alloc (.cells #[.string s16] 9)
          go_wp2_with fail
          refine hK.out _ _ trivial ?_
          clear hK K
          refine hC.out _ _ _ _ _ rfl (by first | rfl | go_simp) (fun K hK => ?_)
          simp only [bare]
          go_wp2_with (at_builtin; refine app_law rfl _ _ _ rfl el_str o13 rfl [.string s16] rfl rfl (cells_new x16 #[_] _) (by simp [Value.oneCell']) (by omega) (by simp; omega) ?_; intro v18 x18 o18 g18)
          have D18 := D17.app o13 hc13 hb13 g18
          obtain ⟨p18, c18, e18⟩ := (Row.of_owns o18).shape
          subst e18
          refine hK.out _ _ trivial ?_
          clear hK K
          refine hH.out _ _ _ _ _ rfl (fun K hK => ?_); go_simp; refine hK _ ?_; clear hK K
          refine hH.out _ _ _ _ _ rfl (fun K hK => ?_); go_simp; refine hK _ ?_; clear hK K
          refine hC.out _ _ _ _ _ rfl (by first | rfl | go_simp) (fun K hK => ?_)
          simp only [bare]
          have h18 := hW.drawn D18
          have u21 := (World.cell?_of_block (a := ⟨g, i.toNat * 2, none⟩) (D18.gr.block g hgl (by simpa using hgB))).trans t0
          have f21 := owns_frozenC h18.o (i.toNat * 2)
          have u24 := (World.cell?_of_block (a := ⟨g, i.toNat * 2 + 1, none⟩) (D18.gr.block g hgl (by simpa using hgB))).trans t1
          have u24 := (World.cell?_setCell_other x18 ⟨g, i.toNat * 2, none⟩ ⟨g, i.toNat * 2 + 1, none⟩ (.string s8) (by simp)).trans u24
          have f24 := owns_frozenC (owns_setC h18.o (i.toNat * 2) (by omega) (.string s8)) (i.toNat * 2 + 1)
          have HF := Lib.hid (h18.put rfl i.toNat (by omega) s8 m8 (.slice p18 (X.ps.length + 1) c18) (X.ps ++ [s16]) ⟨RHd.of_owns (by rw [cellsOf_snoc, List.length_append]; exact o18) hb13, hp.z.snoc m16, by rw [List.length_append]; simp; omega⟩)
          clear h18 o18 g18 o13 D17 D16 D13 D8 D7 D15 D18
          go_wp2_with fail
          generalize x18.setCell ⟨g, i.toNat * 2, none⟩ (.string s8) = x21 at *
          refine hK.out _ _ trivial ?_
          clear hK K
          refine hH.out _ _ _ _ _ rfl (fun K hK => ?_); go_simp; refine hK _ ?_; clear hK K
          refine hH.out _ _ _ _ _ rfl (fun K hK => ?_); go_simp; refine hK _ ?_; clear hK K
          refine hC.out _ _ _ _ _ rfl (by first | rfl | go_simp) (fun K hK => ?_)
          simp only [bare]
          go_wp2_with fail
          refine hK.out _ _ trivial ?_
          clear hK K
          refine hE_.out _ _ ?_
          clear hH hC hA_ hE_ W
          show JS _ _
          refine hS _ _ ?_
          exact ⟨_, List.length_modify _ _ _, HF.out, Fr.of _ rfl ⟨rfl, rfl, trivial⟩⟩
        refine hC.out _ _ _ _ _ rfl (by first | rfl | go_simp) (fun K hK => ?_)
        simp only [bare]
        have O15 := owns_lit x7 x7.heap.size 9 #[.string ⟨#[122, 122]⟩, .string ⟨#[]⟩, .string ⟨#[97]⟩] 3 (by decide) rfl (Nat.le_refl _)
        have D15 : Drawn B w (x7.alloc (.cells #[.string ⟨#[122, 122]⟩, .string ⟨#[]⟩, .string ⟨#[97]⟩] 9)) (b + 23) := D7.alloc _
        have H15 : RHd 9 B (x7.alloc (.cells #[.string ⟨#[122, 122]⟩, .string ⟨#[]⟩, .string ⟨#[97]⟩] 9)).heap.size (x7.alloc (.cells #[.string ⟨#[122, 122]⟩, .string ⟨#[]⟩, .string ⟨#[97]⟩] 9)) 3 (.slice (some ⟨x7.heap.size, 0, none⟩) 3 3) (cellsOf encSt [⟨#[122, 122]⟩, ⟨#[]⟩, ⟨#[97]⟩]) := RHd.of_owns O15 D7.str.lt
        have z15 : x7.heap.size ≤ (x7.alloc (.cells #[.string ⟨#[122, 122]⟩, .string ⟨#[]⟩, .string ⟨#[97]⟩] 9)).heap.size := by simp
        have H7 := H7.alloc (.cells #[.string ⟨#[122, 122]⟩, .string ⟨#[]⟩, .string ⟨#[97]⟩] 9)
        clear O15
        go_wp2_with fail
        generalize x7.alloc (.cells #[.string ⟨#[122, 122]⟩, .string ⟨#[]⟩, .string ⟨#[97]⟩] 9) = x15 at *
        refine hK.out _ _ trivial ?_
        clear hK K
        refine hC.out _ _ _ _ _ rfl (by first | rfl | go_simp) (fun K hK => ?_)
        simp only [bare]
        go_wp2_with fail
        refine (some_any B (b + 23) _ 3 [⟨#[]⟩, ⟨#[115, 97]⟩, X.key] x15 H7.row (by decide) (by decide) (by intro k hk; have := (H7.lt k hk).1; omega) D15.str (by omega)).mono ?_
        rintro e x8 ⟨s8, rfl, hs8, d8⟩
        have D8 := D15.trans d8
        have z8 := d8.size
        have m8 := smA hz hs8
        have H15 := H15.str d8.gr
        clear d8 hs8 H7
        go_wp2_with fail
        refine hK.out _ _ trivial ?_
        clear hK K
        refine hC.out _ _ _ _ _ rfl (by first | rfl | go_simp) (fun K hK => ?_)
        simp only [bare]
        go_wp2_with fail
        refine (clone_s X.pv X.ps.length X.ps 0 x8 (hp.str D8.gr).r.row (by omega)).mono ?_
        rintro e x13 ⟨v13, rfl, o13, b13⟩
        have D13 := D8.below b13
        have hb13 : B < x8.heap.size := D8.str.lt
        have hc13 : w.heap.size ≤ x8.heap.size := D8.size
        have z13 := b13.size
        have H15 := H15.under b13
        obtain ⟨p13, c13, e13⟩ := (Row.of_owns o13).shape
        subst e13
        clear b13
        go_wp2_with fail
        refine hK.out _ _ trivial ?_
        clear hK K
        refine hC.out _ _ _ _ _ rfl (by first | rfl | go_simp) (fun K hK => ?_)
        simp only [bare]
        go_wp2_with fail
        refine (some_any B (b + 24) _ 3 [⟨#[122, 122]⟩, ⟨#[]⟩, ⟨#[97]⟩] x13 H15.row (by decide) (by decide) (by intro k hk; have := (H15.lt k hk).1; omega) D13.str (by omega)).mono ?_
        rintro e x16 ⟨s16, rfl, hs16, d16⟩
        have D16 := D13.trans d16
        have z16 := d16.size
        have m16 := smB hs16
        have o13 := owns_drawn o13 d16 hb13
        clear d16 hs16 H15
        go_wp2_with fail
        refine hK.out _ _ trivial ?_
        clear hK K
        refine hC.out _ _ _ _ _ rfl (by first | rfl | go_simp) (fun K hK => ?_)
        simp only [bare]
        have D17 := D16.alloc (.cells #[.string s16] 9)
        have o13 := o13.alloc (.cells #[.string s16] 9)
        go_wp2_with fail
        refine hK.out _ _ trivial ?_
        clear hK K
        refine hC.out _ _ _ _ _ rfl (by first | rfl | go_simp) (fun K hK => ?_)
        simp only [bare]
        go_wp2_with (at_builtin; refine app_law rfl _ _ _ rfl el_str o13 rfl [.string s16] rfl rfl (cells_new x16 #[_] _) (by simp [Value.oneCell']) (by omega) (by simp; omega) ?_; intro v18 x18 o18 g18)
        have D18 := D17.app o13 hc13 hb13 g18
        obtain ⟨p18, c18, e18⟩ := (Row.of_owns o18).shape
        subst e18
        refine hK.out _ _ trivial ?_
        clear hK K
        refine hH.out _ _ _ _ _ rfl (fun K hK => ?_); go_simp; refine hK _ ?_; clear hK K
        refine hH.out _ _ _ _ _ rfl (fun K hK => ?_); go_simp; refine hK _ ?_; clear hK K
        refine hC.out _ _ _ _ _ rfl (by first | rfl | go_simp) (fun K hK => ?_)
        simp only [bare]
        have h18 := hW.drawn D18
        have u21 := (World.cell?_of_block (a := ⟨g, i.toNat * 2, none⟩) (D18.gr.block g hgl (by simpa using hgB))).trans t0
        have f21 := owns_frozenC h18.o (i.toNat * 2)
        have u24 := (World.cell?_of_block (a := ⟨g, i.toNat * 2 + 1, none⟩) (D18.gr.block g hgl (by simpa using hgB))).trans t1
        have u24 := (World.cell?_setCell_other x18 ⟨g, i.toNat * 2, none⟩ ⟨g, i.toNat * 2 + 1, none⟩ (.string s8) (by simp)).trans u24
        have f24 := owns_frozenC (owns_setC h18.o (i.toNat * 2) (by omega) (.string s8)) (i.toNat * 2 + 1)
        have HF := Lib.hid (h18.put rfl i.toNat (by omega) s8 m8 (.slice p18 (X.ps.length + 1) c18) (X.ps ++ [s16]) ⟨RHd.of_owns (by rw [cellsOf_snoc, List.length_append]; exact o18) hb13, hp.z.snoc m16, by rw [List.length_append]; simp; omega⟩)
        clear h18 o18 g18 o13 D17 D16 D13 D8 D7 D15 D18
        go_wp2_with fail
        generalize x18.setCell ⟨g, i.toNat * 2, none⟩ (.string s8) = x21 at *
        refine hK.out _ _ trivial ?_
        clear hK K
        refine hH.out _ _ _ _ _ rfl (fun K hK => ?_); go_simp; refine hK _ ?_; clear hK K
        refine hH.out _ _ _ _ _ rfl (fun K hK => ?_); go_simp; refine hK _ ?_; clear hK K
        refine hC.out _ _ _ _ _ rfl (by first | rfl | go_simp) (fun K hK => ?_)
        simp only [bare]
        go_wp2_with fail
        refine hK.out _ _ trivial ?_
        clear hK K
        refine hE_.out _ _ ?_
        clear hH hC hA_ hE_ W
        show JS _ _
        refine hS _ _ ?_
        exact ⟨_, List.length_modify _ _ _, HF.out, Fr.of _ rfl ⟨rfl, rfl, trivial⟩⟩
      refine hC.out _ _ _ _ _ rfl (by first | rfl | go_simp) (fun K hK => ?_)
      simp only [bare]
      have O15 := owns_lit x0 x0.heap.size 9 #[.string ⟨#[122, 122]⟩, .string ⟨#[]⟩, .string ⟨#[97]⟩] 3 (by decide) rfl (Nat.le_refl _)
      have D15 : Drawn B w (x0.alloc (.cells #[.string ⟨#[122, 122]⟩, .string ⟨#[]⟩, .string ⟨#[97]⟩] 9)) (b + 23) := D0.alloc _
      have H15 : RHd 9 B (x0.alloc (.cells #[.string ⟨#[122, 122]⟩, .string ⟨#[]⟩, .string ⟨#[97]⟩] 9)).heap.size (x0.alloc (.cells #[.string ⟨#[122, 122]⟩, .string ⟨#[]⟩, .string ⟨#[97]⟩] 9)) 3 (.slice (some ⟨x0.heap.size, 0, none⟩) 3 3) (cellsOf encSt [⟨#[122, 122]⟩, ⟨#[]⟩, ⟨#[97]⟩]) := RHd.of_owns O15 D0.str.lt
      have z15 : x0.heap.size ≤ (x0.alloc (.cells #[.string ⟨#[122, 122]⟩, .string ⟨#[]⟩, .string ⟨#[97]⟩] 9)).heap.size := by simp
      clear O15
      go_wp2_with fail
      generalize x0.alloc (.cells #[.string ⟨#[122, 122]⟩, .string ⟨#[]⟩, .string ⟨#[97]⟩] 9) = x15 at *
      refine hK.out _ _ trivial ?_
      clear hK K
      refine hC.out _ _ _ _ _ rfl (by first | rfl | go_simp) (fun K hK => ?_)
      simp only [bare]
      have O7 := owns_lit x15 x15.heap.size 9 #[.string ⟨#[]⟩, .string ⟨#[115, 97]⟩, .string X.key] 3 (by decide) rfl (Nat.le_refl _)
      have D7 : Drawn B w (x15.alloc (.cells #[.string ⟨#[]⟩, .string ⟨#[115, 97]⟩, .string X.key] 9)) (b + 23) := D15.alloc _
      have H7 : RHd 9 B (x15.alloc (.cells #[.string ⟨#[]⟩, .string ⟨#[115, 97]⟩, .string X.key] 9)).heap.size (x15.alloc (.cells #[.string ⟨#[]⟩, .string ⟨#[115, 97]⟩, .string X.key] 9)) 3 (.slice (some ⟨x15.heap.size, 0, none⟩) 3 3) (cellsOf encSt [⟨#[]⟩, ⟨#[115, 97]⟩, X.key]) := RHd.of_owns O7 D15.str.lt
      have z7 : x15.heap.size ≤ (x15.alloc (.cells #[.string ⟨#[]⟩, .string ⟨#[115, 97]⟩, .string X.key] 9)).heap.size := by simp
      have H15 := H15.alloc (.cells #[.string ⟨#[]⟩, .string ⟨#[115, 97]⟩, .string X.key] 9)
      clear O7
      go_wp2_with fail
      generalize x15.alloc (.cells #[.string ⟨#[]⟩, .string ⟨#[115, 97]⟩, .string X.key] 9) = x7 at *
      refine hK.out _ _ trivial ?_
      clear hK K
      refine hC.out _ _ _ _ _ rfl (by first | rfl | go_simp) (fun K hK => ?_)
      simp only [bare]
      go_wp2_with fail
      refine (some_any B (b + 23) _ 3 [⟨#[]⟩, ⟨#[115, 97]⟩, X.key] x7 H7.row (by decide) (by decide) (by intro k hk; have := (H7.lt k hk).1; omega) D7.str (by omega)).mono ?_
      rintro e x8 ⟨s8, rfl, hs8, d8⟩
      have D8 := D7.trans d8
      have z8 := d8.size
      have m8 := smA hz hs8
      have H15 := H15.str d8.gr
      clear d8 hs8 H7
      go_wp2_with fail
      refine hK.out _ _ trivial ?_
      clear hK K
      refine hC.out _ _ _ _ _ rfl (by first | rfl | go_simp) (fun K hK => ?_)
      simp only [bare]
      go_wp2_with fail
      refine (clone_s X.pv X.ps.length X.ps 0 x8 (hp.str D8.gr).r.row (by omega)).mono ?_
      rintro e x13 ⟨v13, rfl, o13, b13⟩
      have D13 := D8.below b13
      have hb13 : B < x8.heap.size := D8.str.lt
      have hc13 : w.heap.size ≤ x8.heap.size := D8.size
      have z13 := b13.size
      have H15 := H15.under b13
      obtain ⟨p13, c13, e13⟩ := (Row.of_owns o13).shape
      subst e13
      clear b13
      go_wp2_with fail
      refine hK.out _ _ trivial ?_
      clear hK K
      refine hC.out _ _ _ _ _ rfl (by first | rfl | go_simp) (fun K hK => ?_)
      simp only [bare]
      go_wp2_with fail
      refine (some_any B (b + 24) _ 3 [⟨#[122, 122]⟩, ⟨#[]⟩, ⟨#[97]⟩] x13 H15.row (by decide) (by decide) (by intro k hk; have := (H15.lt k hk).1; omega) D13.str (by omega)).mono ?_
      rintro e x16 ⟨s16, rfl, hs16, d16⟩
      have D16 := D13.trans d16
      have z16 := d16.size
      have m16 := smB hs16
      have o13 := owns_drawn o13 d16 hb13
      clear d16 hs16 H15
      go_wp2_with fail
      refine hK.out _ _ trivial ?_
      clear hK K
      refine hC.out _ _ _ _ _ rfl (by first | rfl | go_simp) (fun K hK => ?_)
      simp only [bare]
      have D17 := D16.alloc (.cells #[.string s16] 9)
      have o13 := o13.alloc (.cells #[.string s16] 9)
      go_wp2_with fail
      refine hK.out _ _ trivial ?_
      clear hK K
      refine hC.out _ _ _ _ _ rfl (by first | rfl | go_simp) (fun K hK => ?_)
      simp only [bare]
      go_wp2_with (at_builtin; refine app_law rfl _ _ _ rfl el_str o13 rfl [.string s16] rfl rfl (cells_new x16 #[_] _) (by simp [Value.oneCell']) (by omega) (by simp; omega) ?_; intro v18 x18 o18 g18)
      have D18 := D17.app o13 hc13 hb13 g18
      obtain ⟨p18, c18, e18⟩ := (Row.of_owns o18).shape
      subst e18
      refine hK.out _ _ trivial ?_
      clear hK K
      refine hH.out _ _ _ _ _ rfl (fun K hK => ?_); go_simp; refine hK _ ?_; clear hK K
      refine hH.out _ _ _ _ _ rfl (fun K hK => ?_); go_simp; refine hK _ ?_; clear hK K
      refine hC.out _ _ _ _ _ rfl (by first | rfl | go_simp) (fun K hK => ?_)
      simp only [bare]
      have h18 := hW.drawn D18
      have u21 := (World.cell?_of_block (a := ⟨g, i.toNat * 2, none⟩) (D18.gr.block g hgl (by simpa using hgB))).trans t0
      have f21 := owns_frozenC h18.o (i.toNat * 2)
      have u24 := (World.cell?_of_block (a := ⟨g, i.toNat * 2 + 1, none⟩) (D18.gr.block g hgl (by simpa using hgB))).trans t1
      have u24 := (World.cell?_setCell_other x18 ⟨g, i.toNat * 2, none⟩ ⟨g, i.toNat * 2 + 1, none⟩ (.string s8) (by simp)).trans u24
      have f24 := owns_frozenC (owns_setC h18.o (i.toNat * 2) (by omega) (.string s8)) (i.toNat * 2 + 1)
      have HF := Lib.hid (h18.put rfl i.toNat (by omega) s8 m8 (.slice p18 (X.ps.length + 1) c18) (X.ps ++ [s16]) ⟨RHd.of_owns (by rw [cellsOf_snoc, List.length_append]; exact o18) hb13, hp.z.snoc m16, by rw [List.length_append]; simp; omega⟩)
      clear h18 o18 g18 o13 D17 D16 D13 D8 D7 D15 D18
      go_wp2_with fail
      generalize x18.setCell ⟨g, i.toNat * 2, none⟩ (.string s8) = x21 at *
      refine hK.out _ _ trivial ?_
      clear hK K
      refine hH.out _ _ _ _ _ rfl (fun K hK => ?_); go_simp; refine hK _ ?_; clear hK K
      refine hH.out _ _ _ _ _ rfl (fun K hK => ?_); go_simp; refine hK _ ?_; clear hK K
      refine hC.out _ _ _ _ _ rfl (by first | rfl | go_simp) (fun K hK => ?_)
      simp only [bare]
      go_wp2_with fail
      refine hK.out _ _ trivial ?_
      clear hK K
      refine hE_.out _ _ ?_
      clear hH hC hA_ hE_ W
      show JS _ _
      refine hS _ _ ?_
      exact ⟨_, List.length_modify _ _ _, HF.out, Fr.of _ rfl ⟨rfl, rfl, trivial⟩⟩
    refine hC.out _ _ _ _ _ rfl (by first | rfl | go_simp) (fun K hK => ?_)
    simp only [bare]
    have O15 := owns_lit x0 x0.heap.size 9 #[.string ⟨#[122, 122]⟩, .string ⟨#[]⟩, .string ⟨#[97]⟩] 3 (by decide) rfl (Nat.le_refl _)
    have D15 : Drawn B w (x0.alloc (.cells #[.string ⟨#[122, 122]⟩, .string ⟨#[]⟩, .string ⟨#[97]⟩] 9)) (b + 23) := D0.alloc _
    have H15 : RHd 9 B (x0.alloc (.cells #[.string ⟨#[122, 122]⟩, .string ⟨#[]⟩, .string ⟨#[97]⟩] 9)).heap.size (x0.alloc (.cells #[.string ⟨#[122, 122]⟩, .string ⟨#[]⟩, .string ⟨#[97]⟩] 9)) 3 (.slice (some ⟨x0.heap.size, 0, none⟩) 3 3) (cellsOf encSt [⟨#[122, 122]⟩, ⟨#[]⟩, ⟨#[97]⟩]) := RHd.of_owns O15 D0.str.lt
    have z15 : x0.heap.size ≤ (x0.alloc (.cells #[.string ⟨#[122, 122]⟩, .string ⟨#[]⟩, .string ⟨#[97]⟩] 9)).heap.size := by simp
    clear O15
    go_wp2_with fail
    generalize x0.alloc (.cells #[.string ⟨#[122, 122]⟩, .string ⟨#[]⟩, .string ⟨#[97]⟩] 9) = x15 at *
    refine hK.out _ _ trivial ?_
    clear hK K
    refine hA_.out _ _ _ _ _ ?_ ?_
    · refine hC.out _ _ _ _ _ rfl (by first | rfl | go_simp) (fun K hK => ?_)
      simp only [bare]
      have O7 := owns_lit x15 x15.heap.size 9 #[.string ⟨#[]⟩, .string ⟨#[115, 97]⟩, .string X.key] 3 (by decide) rfl (Nat.le_refl _)
      have D7 : Drawn B w (x15.alloc (.cells #[.string ⟨#[]⟩, .string ⟨#[115, 97]⟩, .string X.key] 9)) (b + 23) := D15.alloc _
      have H7 : RHd 9 B (x15.alloc (.cells #[.string ⟨#[]⟩, .string ⟨#[115, 97]⟩, .string X.key] 9)).heap.size (x15.alloc (.cells #[.string ⟨#[]⟩, .string ⟨#[115, 97]⟩, .string X.key] 9)) 3 (.slice (some ⟨x15.heap.size, 0, none⟩) 3 3) (cellsOf encSt [⟨#[]⟩, ⟨#[115, 97]⟩, X.key]) := RHd.of_owns O7 D15.str.lt
      have z7 : x15.heap.size ≤ (x15.alloc (.cells #[.string ⟨#[]⟩, .string ⟨#[115, 97]⟩, .string X.key] 9)).heap.size := by simp
      have H15 := H15.alloc (.cells #[.string ⟨#[]⟩, .string ⟨#[115, 97]⟩, .string X.key] 9)
      clear O7
      go_wp2_with fail
      generalize x15.alloc (.cells #[.string ⟨#[]⟩, .string ⟨#[115, 97]⟩, .string X.key] 9) = x7 at *
      refine hK.out _ _ trivial ?_
      clear hK K
      refine hA_.out _ _ _ _ _ ?_ ?_
      · refine hC.out _ _ _ _ _ rfl (by first | rfl | go_simp) (fun K hK => ?_)
        simp only [bare]
        go_wp2_with fail
        refine (some_any B (b + 23) _ 3 [⟨#[]⟩, ⟨#[115, 97]⟩, X.key] x7 H7.row (by decide) (by decide) (by intro k hk; have := (H7.lt k hk).1; omega) D7.str (by omega)).mono ?_
        rintro e x8 ⟨s8, rfl, hs8, d8⟩
        have D8 := D7.trans d8
        have z8 := d8.size
        have m8 := smA hz hs8
        have H15 := H15.str d8.gr
        clear d8 hs8 H7
        go_wp2_with fail
        refine hK.out _ _ trivial ?_
        clear hK K
        refine hC.out _ _ _ _ _ rfl (by first | rfl | go_simp) (fun K hK => ?_)
        simp only [bare]
        have u12 := (World.cell?_of_block (a := ⟨g, i.toNat * 2 + 1, none⟩) (D8.gr.block g hgl (by simpa using hgB))).trans t1
        go_wp2_with fail
        clear u12
        refine hK.out _ _ trivial ?_
        clear hK K
        refine hC.out _ _ _ _ _ rfl (by first | rfl | go_simp) (fun K hK => ?_)
        simp only [bare]
        go_wp2_with fail
        refine (clone_s X.pv X.ps.length X.ps 0 x8 (hp.str D8.gr).r.row (by omega)).mono ?_
        rintro e x13 ⟨v13, rfl, o13, b13⟩
        have D13 := D8.below b13
        have hb13 : B < x8.heap.size := D8.str.lt
        have hc13 : w.heap.size ≤ x8.heap.size := D8.size
        have z13 := b13.size
        have H15 := H15.under b13
        obtain ⟨p13, c13, e13⟩ := (Row.of_owns o13).shape
        subst e13
        clear b13
        go_wp2_with fail
        refine hK.out _ _ trivial ?_
        clear hK K
        refine hC.out _ _ _ _ _ rfl (by first | rfl | go_simp) (fun K hK => ?_)
        simp only [bare]
        go_wp2_with fail
        refine (some_any B (b + 24) _ 3 [⟨#[122, 122]⟩, ⟨#[]⟩, ⟨#[97]⟩] x13 H15.row (by decide) (by decide) (by intro k hk; have := (H15.lt k hk).1; omega) D13.str (by omega)).mono ?_
        rintro e x16 ⟨s16, rfl, hs16, d16⟩
        have D16 := D13.trans d16
        have z16 := d16.size
        have m16 := smB hs16
        have o13 := owns_drawn o13 d16 hb13
        clear d16 hs16 H15
        go_wp2_with fail
        refine hK.out _ _ trivial ?_
        clear hK K
        refine hC.out _ _ _ _ _ rfl (by first | rfl | go_simp) (fun K hK => ?_)
        simp only [bare]
        have D17 := D16.alloc (.cells #[.string s16] 9)
        have o13 := o13.alloc (.cells #[.string s16] 9)
        go_wp2_with fail
        refine hK.out _ _ trivial ?_
        clear hK K
        refine hC.out _ _ _ _ _ rfl (by first | rfl | go_simp) (fun K hK => ?_)
        simp only [bare]
        go_wp2_with (at_builtin; refine app_law rfl _ _ _ rfl el_str o13 rfl [.string s16] rfl rfl (cells_new x16 #[_] _) (by simp [Value.oneCell']) (by omega) (by simp; omega) ?_; intro v18 x18 o18 g18)
        have D18 := D17.app o13 hc13 hb13 g18
        obtain ⟨p18, c18, e18⟩ := (Row.of_owns o18).shape
        subst e18
        refine hK.out _ _ trivial ?_
        clear hK K
        refine hH.out _ _ _ _ _ rfl (fun K hK => ?_); go_simp; refine hK _ ?_; clear hK K
        refine hH.out _ _ _ _ _ rfl (fun K hK => ?_); go_simp; refine hK _ ?_; clear hK K
        refine hC.out _ _ _ _ _ rfl (by first | rfl | go_simp) (fun K hK => ?_)
        simp only [bare]
        have h18 := hW.drawn D18
        have u21 := (World.cell?_of_block (a := ⟨g, i.toNat * 2, none⟩) (D18.gr.block g hgl (by simpa using hgB))).trans t0
        have f21 := owns_frozenC h18.o (i.toNat * 2)
        have u24 := (World.cell?_of_block (a := ⟨g, i.toNat * 2 + 1, none⟩) (D18.gr.block g hgl (by simpa using hgB))).trans t1
        have u24 := (World.cell?_setCell_other x18 ⟨g, i.toNat * 2, none⟩ ⟨g, i.toNat * 2 + 1, none⟩ (.string s8) (by simp)).trans u24
        have f24 := owns_frozenC (owns_setC h18.o (i.toNat * 2) (by omega) (.string s8)) (i.toNat * 2 + 1)
        have HF := Lib.hid (h18.put rfl i.toNat (by omega) s8 m8 (.slice p18 (X.ps.length + 1) c18) (X.ps ++ [s16]) ⟨RHd.of_owns (by rw [cellsOf_snoc, List.length_append]; exact o18) hb13, hp.z.snoc m16, by rw [List.length_append]; simp; omega⟩)
        clear h18 o18 g18 o13 D17 D16 D13 D8 D7 D15 D18
        go_wp2_with fail
        generalize x18.setCell ⟨g, i.toNat * 2, none⟩ (.string s8) = x21 at *
        refine hK.out _ _ trivial ?_
        clear hK K
        refine hH.out _ _ _ _ _ rfl (fun K hK => ?_); go_simp; refine hK _ ?_; clear hK K
        refine hH.out _ _ _ _ _ rfl (fun K hK => ?_); go_simp; refine hK _ ?_; clear hK K
        refine hC.out _ _ _ _ _ rfl (by first | rfl | go_simp) (fun K hK => ?_)
        simp only [bare]
        go_wp2_with fail
        refine hK.out _ _ trivial ?_
        clear hK K
        refine hE_.out _ _ ?_
        clear hH hC hA_ hE_ W
        show JS _ _
        refine hS _ _ ?_
        exact ⟨_, List.length_modify _ _ _, HF.out, Fr.of _ rfl ⟨rfl, rfl, trivial⟩⟩
      refine hC.out _ _ _ _ _ rfl (by first | rfl | go_simp) (fun K hK => ?_)
      simp only [bare]
      have u12 := (World.cell?_of_block (a := ⟨g, i.toNat * 2 + 1, none⟩) (D7.gr.block g hgl (by simpa using hgB))).trans t1
      go_wp2_with fail
      clear u12
      refine hK.out _ _ trivial ?_
      clear hK K
      refine hC.out _ _ _ _ _ rfl (by first | rfl | go_simp) (fun K hK => ?_)
      simp only [bare]
      go_wp2_with fail
      refine (some_any B (b + 23) _ 3 [⟨#[]⟩, ⟨#[115, 97]⟩, X.key] x7 H7.row (by decide) (by decide) (by intro k hk; have := (H7.lt k hk).1; omega) D7.str (by omega)).mono ?_
      rintro e x8 ⟨s8, rfl, hs8, d8⟩
      have D8 := D7.trans d8
      have z8 := d8.size
      have m8 := smA hz hs8
      have H15 := H15.str d8.gr
      clear d8 hs8 H7
      go_wp2_with fail
      refine hK.out _ _ trivial ?_
      clear hK K
      refine hC.out _ _ _ _ _ rfl (by first | rfl | go_simp) (fun K hK => ?_)
      simp only [bare]
      go_wp2_with fail
      refine (clone_s X.pv X.ps.length X.ps 0 x8 (hp.str D8.gr).r.row (by omega)).mono ?_
      rintro e x13 ⟨v13, rfl, o13, b13⟩
      have D13 := D8.below b13
      have hb13 : B < x8.heap.size := D8.str.lt
      have hc13 : w.heap.size ≤ x8.heap.size := D8.size
      have z13 := b13.size
      have H15 := H15.under b13
      obtain ⟨p13, c13, e13⟩ := (Row.of_owns o13).shape
      subst e13
      clear b13
      go_wp2_with fail
      refine hK.out _ _ trivial ?_
      clear hK K
      refine hC.out _ _ _ _ _ rfl (by first | rfl | go_simp) (fun K hK => ?_)
      simp only [bare]
      go_wp2_with fail
      refine (some_any B (b + 24) _ 3 [⟨#[122, 122]⟩, ⟨#[]⟩, ⟨#[97]⟩] x13 H15.row (by decide) (by decide) (by intro k hk; have := (H15.lt k hk).1; omega) D13.str (by omega)).mono ?_
      rintro e x16 ⟨s16, rfl, hs16, d16⟩
      have D16 := D13.trans d16
      have z16 := d16.size
      have m16 := smB hs16
      have o13 := owns_drawn o13 d16 hb13
      clear d16 hs16 H15
      go_wp2_with fail
      refine hK.out _ _ trivial ?_
      clear hK K
      refine hC.out _ _ _ _ _ rfl (by first | rfl | go_simp) (fun K hK => ?_)
      simp only [bare]
      have D17 := D16.alloc (.cells #[.string s16] 9)
      have o13 := o13.alloc (.cells #[.string s16] 9)
      go_wp2_with fail
      refine hK.out _ _ trivial ?_
      clear hK K
      refine hC.out _ _ _ _ _ rfl (by first | rfl | go_simp) (fun K hK => ?_)
      simp only [bare]
      go_wp2_with (at_builtin; refine app_law rfl _ _ _ rfl el_str o13 rfl [.string s16] rfl rfl (cells_new x16 #[_] _) (by simp [Value.oneCell']) (by omega) (by simp; omega) ?_; intro v18 x18 o18 g18)
      have D18 := D17.app o13 hc13 hb13 g18
      obtain ⟨p18, c18, e18⟩ := (Row.of_owns o18).shape
      subst e18
      refine hK.out _ _ trivial ?_
      clear hK K
      refine hH.out _ _ _ _ _ rfl (fun K hK => ?_); go_simp; refine hK _ ?_; clear hK K
      refine hH.out _ _ _ _ _ rfl (fun K hK => ?_); go_simp; refine hK _ ?_; clear hK K
      refine hC.out _ _ _ _ _ rfl (by first | rfl | go_simp) (fun K hK => ?_)
      simp only [bare]
      have h18 := hW.drawn D18
      have u21 := (World.cell?_of_block (a := ⟨g, i.toNat * 2, none⟩) (D18.gr.block g hgl (by simpa using hgB))).trans t0
      have f21 := owns_frozenC h18.o (i.toNat * 2)
      have u24 := (World.cell?_of_block (a := ⟨g, i.toNat * 2 + 1, none⟩) (D18.gr.block g hgl (by simpa using hgB))).trans t1
      have u24 := (World.cell?_setCell_other x18 ⟨g, i.toNat * 2, none⟩ ⟨g, i.toNat * 2 + 1, none⟩ (.string s8) (by simp)).trans u24
      have f24 := owns_frozenC (owns_setC h18.o (i.toNat * 2) (by omega) (.string s8)) (i.toNat * 2 + 1)
      have HF := Lib.hid (h18.put rfl i.toNat (by omega) s8 m8 (.slice p18 (X.ps.length + 1) c18) (X.ps ++ [s16]) ⟨RHd.of_owns (by rw [cellsOf_snoc, List.length_append]; exact o18) hb13, hp.z.snoc m16, by rw [List.length_append]; simp; omega⟩)
      clear h18 o18 g18 o13 D17 D16 D13 D8 D7 D15 D18
      go_wp2_with fail
      generalize x18.setCell ⟨g, i.toNat * 2, none⟩ (.string s8) = x21 at *
      refine hK.out _ _ trivial ?_
      clear hK K
      refine hH.out _ _ _ _ _ rfl (fun K hK => ?_); go_simp; refine hK _ ?_; clear hK K
      refine hH.out _ _ _ _ _ rfl (fun K hK => ?_); go_simp; refine hK _ ?_; clear hK K
      refine hC.out _ _ _ _ _ rfl (by first | rfl | go_simp) (fun K hK => ?_)
      simp only [bare]
      go_wp2_with fail
      refine hK.out _ _ trivial ?_
      clear hK K
      refine hE_.out _ _ ?_
      clear hH hC hA_ hE_ W
      show JS _ _
      refine hS _ _ ?_
      exact ⟨_, List.length_modify _ _ _, HF.out, Fr.of _ rfl ⟨rfl, rfl, trivial⟩⟩
    refine hC.out _ _ _ _ _ rfl (by first | rfl | go_simp) (fun K hK => ?_)
    simp only [bare]
    have u12 := (World.cell?_of_block (a := ⟨g, i.toNat * 2 + 1, none⟩) (D15.gr.block g hgl (by simpa using hgB))).trans t1
    go_wp2_with fail
    clear u12
    refine hK.out _ _ trivial ?_
    clear hK K
    refine hC.out _ _ _ _ _ rfl (by first | rfl | go_simp) (fun K hK => ?_)
    simp only [bare]
    have O7 := owns_lit x15 x15.heap.size 9 #[.string ⟨#[]⟩, .string ⟨#[115, 97]⟩, .string X.key] 3 (by decide) rfl (Nat.le_refl _)
    have D7 : Drawn B w (x15.alloc (.cells #[.string ⟨#[]⟩, .string ⟨#[115, 97]⟩, .string X.key] 9)) (b + 23) := D15.alloc _
    have H7 : RHd 9 B (x15.alloc (.cells #[.string ⟨#[]⟩, .string ⟨#[115, 97]⟩, .string X.key] 9)).heap.size (x15.alloc (.cells #[.string ⟨#[]⟩, .string ⟨#[115, 97]⟩, .string X.key] 9)) 3 (.slice (some ⟨x15.heap.size, 0, none⟩) 3 3) (cellsOf encSt [⟨#[]⟩, ⟨#[115, 97]⟩, X.key]) := RHd.of_owns O7 D15.str.lt
    have z7 : x15.heap.size ≤ (x15.alloc (.cells #[.string ⟨#[]⟩, .string ⟨#[115, 97]⟩, .string X.key] 9)).heap.size := by simp
    have H15 := H15.alloc (.cells #[.string ⟨#[]⟩, .string ⟨#[115, 97]⟩, .string X.key] 9)
    clear O7
    go_wp2_with fail
    generalize x15.alloc (.cells #[.string ⟨#[]⟩, .string ⟨#[115, 97]⟩, .string X.key] 9) = x7 at *
    refine hK.out _ _ trivial ?_
    clear hK K
    refine hC.out _ _ _ _ _ rfl (by first | rfl | go_simp) (fun K hK => ?_)
    simp only [bare]
    go_wp2_with fail
    refine (some_any B (b + 23) _ 3 [⟨#[]⟩, ⟨#[115, 97]⟩, X.key] x7 H7.row (by decide) (by decide) (by intro k hk; have := (H7.lt k hk).1; omega) D7.str (by omega)).mono ?_
    rintro e x8 ⟨s8, rfl, hs8, d8⟩
    have D8 := D7.trans d8
    have z8 := d8.size
    have m8 := smA hz hs8
    have H15 := H15.str d8.gr
    clear d8 hs8 H7
    go_wp2_with fail
    refine hK.out _ _ trivial ?_
    clear hK K
    refine hC.out _ _ _ _ _ rfl (by first | rfl | go_simp) (fun K hK => ?_)
    simp only [bare]
    go_wp2_with fail
    refine (clone_s X.pv X.ps.length X.ps 0 x8 (hp.str D8.gr).r.row (by omega)).mono ?_
    rintro e x13 ⟨v13, rfl, o13, b13⟩
    have D13 := D8.below b13
    have hb13 : B < x8.heap.size := D8.str.lt
    have hc13 : w.heap.size ≤ x8.heap.size := D8.size
    have z13 := b13.size
    have H15 := H15.under b13
    obtain ⟨p13, c13, e13⟩ := (Row.of_owns o13).shape
    subst e13
    clear b13
    go_wp2_with fail
    refine hK.out _ _ trivial ?_
    clear hK K
    refine hC.out _ _ _ _ _ rfl (by first | rfl | go_simp) (fun K hK => ?_)
    simp only [bare]
    go_wp2_with fail
    refine (some_any B (b + 24) _ 3 [⟨#[122, 122]⟩, ⟨#[]⟩, ⟨#[97]⟩] x13 H15.row (by decide) (by decide) (by intro k hk; have := (H15.lt k hk).1; omega) D13.str (by omega)).mono ?_
    rintro e x16 ⟨s16, rfl, hs16, d16⟩
    have D16 := D13.trans d16
    have z16 := d16.size
    have m16 := smB hs16
    have o13 := owns_drawn o13 d16 hb13
    clear d16 hs16 H15
    go_wp2_with fail
    refine hK.out _ _ trivial ?_
    clear hK K
    refine hC.out _ _ _ _ _ rfl (by first | rfl | go_simp) (fun K hK => ?_)
    simp only [bare]
    have D17 := D16.alloc (.cells #[.string s16] 9)
    have o13 := o13.alloc (.cells #[.string s16] 9)
    go_wp2_with fail
    refine hK.out _ _ trivial ?_
    clear hK K
    refine hC.out _ _ _ _ _ rfl (by first | rfl | go_simp) (fun K hK => ?_)
    simp only [bare]
    go_wp2_with (at_builtin; refine app_law rfl _ _ _ rfl el_str o13 rfl [.string s16] rfl rfl (cells_new x16 #[_] _) (by simp [Value.oneCell']) (by omega) (by simp; omega) ?_; intro v18 x18 o18 g18)
    have D18 := D17.app o13 hc13 hb13 g18
    obtain ⟨p18, c18, e18⟩ := (Row.of_owns o18).shape
    subst e18
    refine hK.out _ _ trivial ?_
    clear hK K
    refine hH.out _ _ _ _ _ rfl (fun K hK => ?_); go_simp; refine hK _ ?_; clear hK K
    refine hH.out _ _ _ _ _ rfl (fun K hK => ?_); go_simp; refine hK _ ?_; clear hK K
    refine hC.out _ _ _ _ _ rfl (by first | rfl | go_simp) (fun K hK => ?_)
    simp only [bare]
    have h18 := hW.drawn D18
    have u21 := (World.cell?_of_block (a := ⟨g, i.toNat * 2, none⟩) (D18.gr.block g hgl (by simpa using hgB))).trans t0
    have f21 := owns_frozenC h18.o (i.toNat * 2)
    have u24 := (World.cell?_of_block (a := ⟨g, i.toNat * 2 + 1, none⟩) (D18.gr.block g hgl (by simpa using hgB))).trans t1
    have u24 := (World.cell?_setCell_other x18 ⟨g, i.toNat * 2, none⟩ ⟨g, i.toNat * 2 + 1, none⟩ (.string s8) (by simp)).trans u24
    have f24 := owns_frozenC (owns_setC h18.o (i.toNat * 2) (by omega) (.string s8)) (i.toNat * 2 + 1)
    have HF := Lib.hid (h18.put rfl i.toNat (by omega) s8 m8 (.slice p18 (X.ps.length + 1) c18) (X.ps ++ [s16]) ⟨RHd.of_owns (by rw [cellsOf_snoc, List.length_append]; exact o18) hb13, hp.z.snoc m16, by rw [List.length_append]; simp; omega⟩)
    clear h18 o18 g18 o13 D17 D16 D13 D8 D7 D15 D18
    go_wp2_with fail
    generalize x18.setCell ⟨g, i.toNat * 2, none⟩ (.string s8) = x21 at *
    refine hK.out _ _ trivial ?_
    clear hK K
    refine hH.out _ _ _ _ _ rfl (fun K hK => ?_); go_simp; refine hK _ ?_; clear hK K
    refine hH.out _ _ _ _ _ rfl (fun K hK => ?_); go_simp; refine hK _ ?_; clear hK K
    refine hC.out _ _ _ _ _ rfl (by first | rfl | go_simp) (fun K hK => ?_)
    simp only [bare]
    go_wp2_with fail
    refine hK.out _ _ trivial ?_
    clear hK K
    refine hE_.out _ _ ?_
    clear hH hC hA_ hE_ W
    show JS _ _
    refine hS _ _ ?_
    exact ⟨_, List.length_modify _ _ _, HF.out, Fr.of _ rfl ⟨rfl, rfl, trivial⟩⟩
  refine hA_.out _ _ _ _ _ ?_ ?_
  · refine hC.out _ _ _ _ _ rfl (by first | rfl | go_simp) (fun K hK => ?_)
    simp only [bare]
    have u12 := (World.cell?_of_block (a := ⟨g, i.toNat * 2 + 1, none⟩) (D0.gr.block g hgl (by simpa using hgB))).trans t1
    go_wp2_with fail
    clear u12
    refine hK.out _ _ trivial ?_
    clear hK K
    refine hA_.out _ _ _ _ _ ?_ ?_
    · refine hC.out _ _ _ _ _ rfl (by first | rfl | go_simp) (fun K hK => ?_)
      simp only [bare]
      have u6 := (World.cell?_of_block (a := ⟨g, i.toNat * 2, none⟩) (D0.gr.block g hgl (by simpa using hgB))).trans t0
      go_wp2_with fail
      clear u6
      refine hK.out _ _ trivial ?_
      clear hK K
      refine hA_.out _ _ _ _ _ ?_ ?_
      · refine hC.out _ _ _ _ _ rfl (by first | rfl | go_simp) (fun K hK => ?_)
        simp only [bare]
        have O7 := owns_lit x0 x0.heap.size 9 #[.string ⟨#[]⟩, .string ⟨#[115, 97]⟩, .string X.key] 3 (by decide) rfl (Nat.le_refl _)
        have D7 : Drawn B w (x0.alloc (.cells #[.string ⟨#[]⟩, .string ⟨#[115, 97]⟩, .string X.key] 9)) (b + 23) := D0.alloc _
        have H7 : RHd 9 B (x0.alloc (.cells #[.string ⟨#[]⟩, .string ⟨#[115, 97]⟩, .string X.key] 9)).heap.size (x0.alloc (.cells #[.string ⟨#[]⟩, .string ⟨#[115, 97]⟩, .string X.key] 9)) 3 (.slice (some ⟨x0.heap.size, 0, none⟩) 3 3) (cellsOf encSt [⟨#[]⟩, ⟨#[115, 97]⟩, X.key]) := RHd.of_owns O7 D0.str.lt
        have z7 : x0.heap.size ≤ (x0.alloc (.cells #[.string ⟨#[]⟩, .string ⟨#[115, 97]⟩, .string X.key] 9)).heap.size := by simp
        clear O7
        go_wp2_with fail
        generalize x0.alloc (.cells #[.string ⟨#[]⟩, .string ⟨#[115, 97]⟩, .string X.key] 9) = x7 at *
        refine hK.out _ _ trivial ?_
        clear hK K
        refine hA_.out _ _ _ _ _ ?_ ?_
        · refine hC.out _ _ _ _ _ rfl (by first | rfl | go_simp) (fun K hK => ?_)
          simp only [bare]
          go_wp2_with fail
          refine (some_any B (b + 23) _ 3 [⟨#[]⟩, ⟨#[115, 97]⟩, X.key] x7 H7.row (by decide) (by decide) (by intro k hk; have := (H7.lt k hk).1; omega) D7.str (by omega)).mono ?_
          rintro e x8 ⟨s8, rfl, hs8, d8⟩
          have D8 := D7.trans d8
          have z8 := d8.size
          have m8 := smA hz hs8
          clear d8 hs8 H7
          go_wp2_with fail
          refine hK.out _ _ trivial ?_
          clear hK K
          refine hA_.out _ _ _ _ _ ?_ ?_
          · refine hC.out _ _ _ _ _ rfl (by first | rfl | go_simp) (fun K hK => ?_)
            simp only [bare]
            go_wp2_with fail
            refine (clone_s X.pv X.ps.length X.ps 0 x8 (hp.str D8.gr).r.row (by omega)).mono ?_
            rintro e x13 ⟨v13, rfl, o13, b13⟩
            have D13 := D8.below b13
            have hb13 : B < x8.heap.size := D8.str.lt
            have hc13 : w.heap.size ≤ x8.heap.size := D8.size
            have z13 := b13.size
            obtain ⟨p13, c13, e13⟩ := (Row.of_owns o13).shape
            subst e13
            clear b13
            go_wp2_with fail
            refine hK.out _ _ trivial ?_
            clear hK K
            refine hC.out _ _ _ _ _ rfl (by first | rfl | go_simp) (fun K hK => ?_)
            simp only [bare]
            have O15 := owns_lit x13 x13.heap.size 9 #[.string ⟨#[122, 122]⟩, .string ⟨#[]⟩, .string ⟨#[97]⟩] 3 (by decide) rfl (Nat.le_refl _)
            have D15 : Drawn B w (x13.alloc (.cells #[.string ⟨#[122, 122]⟩, .string ⟨#[]⟩, .string ⟨#[97]⟩] 9)) (b + 24) := D13.alloc _
            have H15 : RHd 9 B (x13.alloc (.cells #[.string ⟨#[122, 122]⟩, .string ⟨#[]⟩, .string ⟨#[97]⟩] 9)).heap.size (x13.alloc (.cells #[.string ⟨#[122, 122]⟩, .string ⟨#[]⟩, .string ⟨#[97]⟩] 9)) 3 (.slice (some ⟨x13.heap.size, 0, none⟩) 3 3) (cellsOf encSt [⟨#[122, 122]⟩, ⟨#[]⟩, ⟨#[97]⟩]) := RHd.of_owns O15 D13.str.lt
            have z15 : x13.heap.size ≤ (x13.alloc (.cells #[.string ⟨#[122, 122]⟩, .string ⟨#[]⟩, .string ⟨#[97]⟩] 9)).heap.size := by simp
            have o13 := o13.alloc (.cells #[.string ⟨#[122, 122]⟩, .string ⟨#[]⟩, .string ⟨#[97]⟩] 9)
            clear O15
            go_wp2_with fail
            generalize x13.alloc (.cells #[.string ⟨#[122, 122]⟩, .string ⟨#[]⟩, .string ⟨#[97]⟩] 9) = x15 at *
            refine hK.out _ _ trivial ?_
            clear hK K
            refine hC.out _ _ _ _ _ rfl (by first | rfl | go_simp) (fun K hK => ?_)
            simp only [bare]
            go_wp2_with fail
            refine (some_any B (b + 24) _ 3 [⟨#[122, 122]⟩, ⟨#[]⟩, ⟨#[97]⟩] x15 H15.row (by decide) (by decide) (by intro k hk; have := (H15.lt k hk).1; omega) D15.str (by omega)).mono ?_
            rintro e x16 ⟨s16, rfl, hs16, d16⟩
            have D16 := D15.trans d16
            have z16 := d16.size
            have m16 := smB hs16
            have o13 := owns_drawn o13 d16 hb13
            clear d16 hs16 H15
            go_wp2_with fail
            refine hK.out _ _ trivial ?_
            clear hK K
            refine hC.out _ _ _ _ _ rfl (by first | rfl | go_simp) (fun K hK => ?_)
            simp only [bare]
            have D17 := D16.alloc (.cells #[.string s16] 9)
            have o13 := o13.alloc (.cells #[.string s16] 9)
            go_wp2_with fail
            refine hK.out _ _ trivial ?_
            clear hK K
            refine hC.out _ _ _ _ _ rfl (by first | rfl | go_simp) (fun K hK => ?_)
            simp only [bare]
            go_wp2_with (at_builtin; refine app_law rfl _ _ _ rfl el_str o13 rfl [.string s16] rfl rfl (cells_new x16 #[_] _) (by simp [Value.oneCell']) (by omega) (by simp; omega) ?_; intro v18 x18 o18 g18)
            have D18 := D17.app o13 hc13 hb13 g18
            obtain ⟨p18, c18, e18⟩ := (Row.of_owns o18).shape
            subst e18
            refine hK.out _ _ trivial ?_
            clear hK K
            refine hH.out _ _ _ _ _ rfl (fun K hK => ?_); go_simp; refine hK _ ?_; clear hK K
            refine hH.out _ _ _ _ _ rfl (fun K hK => ?_); go_simp; refine hK _ ?_; clear hK K
            refine hC.out _ _ _ _ _ rfl (by first | rfl | go_simp) (fun K hK => ?_)
            simp only [bare]
            have h18 := hW.drawn D18
            have u21 := (World.cell?_of_block (a := ⟨g, i.toNat * 2, none⟩) (D18.gr.block g hgl (by simpa using hgB))).trans t0
            have f21 := owns_frozenC h18.o (i.toNat * 2)
            have u24 := (World.cell?_of_block (a := ⟨g, i.toNat * 2 + 1, none⟩) (D18.gr.block g hgl (by simpa using hgB))).trans t1
            have u24 := (World.cell?_setCell_other x18 ⟨g, i.toNat * 2, none⟩ ⟨g, i.toNat * 2 + 1, none⟩ (.string s8) (by simp)).trans u24
            have f24 := owns_frozenC (owns_setC h18.o (i.toNat * 2) (by omega) (.string s8)) (i.toNat * 2 + 1)
            have HF := Lib.hid (h18.put rfl i.toNat (by omega) s8 m8 (.slice p18 (X.ps.length + 1) c18) (X.ps ++ [s16]) ⟨RHd.of_owns (by rw [cellsOf_snoc, List.length_append]; exact o18) hb13, hp.z.snoc m16, by rw [List.length_append]; simp; omega⟩)
            clear h18 o18 g18 o13 D17 D16 D13 D8 D7 D15 D18
            go_wp2_with fail
            generalize x18.setCell ⟨g, i.toNat * 2, none⟩ (.string s8) = x21 at *
            refine hK.out _ _ trivial ?_
            clear hK K
            refine hH.out _ _ _ _ _ rfl (fun K hK => ?_); go_simp; refine hK _ ?_; clear hK K
            refine hH.out _ _ _ _ _ rfl (fun K hK => ?_); go_simp; refine hK _ ?_; clear hK K
            refine hC.out _ _ _ _ _ rfl (by first | rfl | go_simp) (fun K hK => ?_)
            simp only [bare]
            go_wp2_with fail
            refine hK.out _ _ trivial ?_
            clear hK K
            refine hE_.out _ _ ?_
            clear hH hC hA_ hE_ W
            show JS _ _
            refine hS _ _ ?_
            exact ⟨_, List.length_modify _ _ _, HF.out, Fr.of _ rfl ⟨rfl, rfl, trivial⟩⟩
          refine hC.out _ _ _ _ _ rfl (by first | rfl | go_simp) (fun K hK => ?_)
          simp only [bare]
          have O15 := owns_lit x8 x8.heap.size 9 #[.string ⟨#[122, 122]⟩, .string ⟨#[]⟩, .string ⟨#[97]⟩] 3 (by decide) rfl (Nat.le_refl _)
          have D15 : Drawn B w (x8.alloc (.cells #[.string ⟨#[122, 122]⟩, .string ⟨#[]⟩, .string ⟨#[97]⟩] 9)) (b + 24) := D8.alloc _
          have H15 : RHd 9 B (x8.alloc (.cells #[.string ⟨#[122, 122]⟩, .string ⟨#[]⟩, .string ⟨#[97]⟩] 9)).heap.size (x8.alloc (.cells #[.string ⟨#[122, 122]⟩, .string ⟨#[]⟩, .string ⟨#[97]⟩] 9)) 3 (.slice (some ⟨x8.heap.size, 0, none⟩) 3 3) (cellsOf encSt [⟨#[122, 122]⟩, ⟨#[]⟩, ⟨#[97]⟩]) := RHd.of_owns O15 D8.str.lt
          have z15 : x8.heap.size ≤ (x8.alloc (.cells #[.string ⟨#[122, 122]⟩, .string ⟨#[]⟩, .string ⟨#[97]⟩] 9)).heap.size := by simp
          clear O15
          go_wp2_with fail
          generalize x8.alloc (.cells #[.string ⟨#[122, 122]⟩, .string ⟨#[]⟩, .string ⟨#[97]⟩] 9) = x15 at *
          refine hK.out _ _ trivial ?_
          clear hK K
          refine hC.out _ _ _ _ _ rfl (by first | rfl | go_simp) (fun K hK => ?_)
          simp only [bare]
          go_wp2_with fail
          refine (clone_s X.pv X.ps.length X.ps 0 x15 (hp.str D15.gr).r.row (by omega)).mono ?_
          rintro e x13 ⟨v13, rfl, o13, b13⟩
          have D13 := D15.below b13
          have hb13 : B < x15.heap.size := D15.str.lt
          have hc13 : w.heap.size ≤ x15.heap.size := D15.size
          have z13 := b13.size
          have H15 := H15.under b13
          obtain ⟨p13, c13, e13⟩ := (Row.of_owns o13).shape
          subst e13
          clear b13
          go_wp2_with fail
          refine hK.out _ _ trivial ?_
          clear hK K
          refine hC.out _ _ _ _ _ rfl (by first | rfl | go_simp) (fun K hK => ?_)
          simp only [bare]
          go_wp2_with fail
          refine (some_any B (b + 24) _ 3 [⟨#[122, 122]⟩, ⟨#[]⟩, ⟨#[97]⟩] x13 H15.row (by decide) (by decide) (by intro k hk; have := (H15.lt k hk).1; omega) D13.str (by omega)).mono ?_
          rintro e x16 ⟨s16, rfl, hs16, d16⟩
          have D16 := D13.trans d16
          have z16 := d16.size
          have m16 := smB hs16
          have o13 := owns_drawn o13 d16 hb13
          clear d16 hs16 H15
          go_wp2_with fail
          refine hK.out _ _ trivial ?_
          clear hK K
          refine hC.out _ _ _ _ _ rfl (by first | rfl | go_simp) (fun K hK => ?_)
          simp only [bare]
          have D17 := D16.alloc (.cells #[.string s16] 9)
          have o13 := o13.alloc (.cells #[.string s16] 9)
          go_wp2_with fail
          refine hK.out _ _ trivial ?_
          clear hK K
          refine hC.out _ _ _ _ _ rfl (by first | rfl | go_simp) (fun K hK => ?_)
          simp only [bare]
          go_wp2_with (at_builtin; refine app_law rfl _ _ _ rfl el_str o13 rfl [.string s16] rfl rfl (cells_new x16 #[_] _) (by simp [Value.oneCell']) (by omega) (by simp; omega) ?_; intro v18 x18 o18 g18)
          have D18 := D17.app o13 hc13 hb13 g18
          obtain ⟨p18, c18, e18⟩ := (Row.of_owns o18).shape
          subst e18
          refine hK.out _ _ trivial ?_
          clear hK K
          refine hH.out _ _ _ _ _ rfl (fun K hK => ?_); go_simp; refine hK _ ?_; clear hK K
          refine hH.out _ _ _ _ _ rfl (fun K hK => ?_); go_simp; refine hK _ ?_; clear hK K
          refine hC.out _ _ _ _ _ rfl (by first | rfl | go_simp) (fun K hK => ?_)
          simp only [bare]
          have h18 := hW.drawn D18
          have u21 := (World.cell?_of_block (a := ⟨g, i.toNat * 2, none⟩) (D18.gr.block g hgl (by simpa using hgB))).trans t0
          have f21 := owns_frozenC h18.o (i.toNat * 2)
          have u24 := (World.cell?_of_block (a := ⟨g, i.toNat * 2 + 1, none⟩) (D18.gr.block g hgl (by simpa using hgB))).trans t1
          have u24 := (World.cell?_setCell_other x18 ⟨g, i.toNat * 2, none⟩ ⟨g, i.toNat * 2 + 1, none⟩ (.string s8) (by simp)).trans u24
          have f24 := owns_frozenC (owns_setC h18.o (i.toNat * 2) (by omega) (.string s8)) (i.toNat * 2 + 1)
          have HF := Lib.hid (h18.put rfl i.toNat (by omega) s8 m8 (.slice p18 (X.ps.length + 1) c18) (X.ps ++ [s16]) ⟨RHd.of_owns (by rw [cellsOf_snoc, List.length_append]; exact o18) hb13, hp.z.snoc m16, by rw [List.length_append]; simp; omega⟩)
          clear h18 o18 g18 o13 D17 D16 D13 D8 D7 D15 D18
          go_wp2_with fail
          generalize x18.setCell ⟨g, i.toNat * 2, none⟩ (.string s8) = x21 at *
          refine hK.out _ _ trivial ?_
          clear hK K
          refine hH.out _ _ _ _ _ rfl (fun K hK => ?_); go_simp; refine hK _ ?_; clear hK K
          refine hH.out _ _ _ _ _ rfl (fun K hK => ?_); go_simp; refine hK _ ?_; clear hK K
          refine hC.out _ _ _ _ _ rfl (by first | rfl | go_simp) (fun K hK => ?_)
          simp only [bare]
          go_wp2_with fail
          refine hK.out _ _ trivial ?_
          clear hK K
          refine hE_.out _ _ ?_
          clear hH hC hA_ hE_ W
          show JS _ _
          refine hS _ _ ?_
          exact ⟨_, List.length_modify _ _ _, HF.out, Fr.of _ rfl ⟨rfl, rfl, trivial⟩⟩
        refine hC.out _ _ _ _ _ rfl (by first | rfl | go_simp) (fun K hK => ?_)
        simp only [bare]
        have O15 := owns_lit x7 x7.heap.size 9 #[.string ⟨#[122, 122]⟩, .string ⟨#[]⟩, .string ⟨#[97]⟩] 3 (by decide) rfl (Nat.le_refl _)
        have D15 : Drawn B w (x7.alloc (.cells #[.string ⟨#[122, 122]⟩, .string ⟨#[]⟩, .string ⟨#[97]⟩] 9)) (b + 23) := D7.alloc _
        have H15 : RHd 9 B (x7.alloc (.cells #[.string ⟨#[122, 122]⟩, .string ⟨#[]⟩, .string ⟨#[97]⟩] 9)).heap.size (x7.alloc (.cells #[.string ⟨#[122, 122]⟩, .string ⟨#[]⟩, .string ⟨#[97]⟩] 9)) 3 (.slice (some ⟨x7.heap.size, 0, none⟩) 3 3) (cellsOf encSt [⟨#[122, 122]⟩, ⟨#[]⟩, ⟨#[97]⟩]) := RHd.of_owns O15 D7.str.lt
        have z15 : x7.heap.size ≤ (x7.alloc (.cells #[.string ⟨#[122, 122]⟩, .string ⟨#[]⟩, .string ⟨#[97]⟩] 9)).heap.size := by simp
        have H7 := H7.alloc (.cells #[.string ⟨#[122, 122]⟩, .string ⟨#[]⟩, .string ⟨#[97]⟩] 9)
        clear O15
        go_wp2_with fail
        generalize x7.alloc (.cells #[.string ⟨#[122, 122]⟩, .string ⟨#[]⟩, .string ⟨#[97]⟩] 9) = x15 at *
        refine hK.out _ _ trivial ?_
        clear hK K
        refine hC.out _ _ _ _ _ rfl (by first | rfl | go_simp) (fun K hK => ?_)
        simp only [bare]
        go_wp2_with fail
        refine (some_any B (b + 23) _ 3 [⟨#[]⟩, ⟨#[115, 97]⟩, X.key] x15 H7.row (by decide) (by decide) (by intro k hk; have := (H7.lt k hk).1; omega) D15.str (by omega)).mono ?_
        rintro e x8 ⟨s8, rfl, hs8, d8⟩
        have D8 := D15.trans d8
        have z8 := d8.size
        have m8 := smA hz hs8
        have H15 := H15.str d8.gr
        clear d8 hs8 H7
        go_wp2_with fail
        refine hK.out _ _ trivial ?_
        clear hK K
        refine hC.out _ _ _ _ _ rfl (by first | rfl | go_simp) (fun K hK => ?_)
        simp only [bare]
        go_wp2_with fail
        refine (clone_s X.pv X.ps.length X.ps 0 x8 (hp.str D8.gr).r.row (by omega)).mono ?_
        rintro e x13 ⟨v13, rfl, o13, b13⟩
        have D13 := D8.below b13
        have hb13 : B < x8.heap.size := D8.str.lt
        have hc13 : w.heap.size ≤ x8.heap.size := D8.size
        have z13 := b13.size
        have H15 := H15.under b13
        obtain ⟨p13, c13, e13⟩ := (Row.of_owns o13).shape
        subst e13
        clear b13
        go_wp2_with fail
        refine hK.out _ _ trivial ?_
        clear hK K
        refine hC.out _ _ _ _ _ rfl (by first | rfl | go_simp) (fun K hK => ?_)
        simp only [bare]
        go_wp2_with fail
        refine (some_any B (b + 24) _ 3 [⟨#[122, 122]⟩, ⟨#[]⟩, ⟨#[97]⟩] x13 H15.row (by decide) (by decide) (by intro k hk; have := (H15.lt k hk).1; omega) D13.str (by omega)).mono ?_
        rintro e x16 ⟨s16, rfl, hs16, d16⟩
        have D16 := D13.trans d16
        have z16 := d16.size
        have m16 := smB hs16
        have o13 := owns_drawn o13 d16 hb13
        clear d16 hs16 H15
        go_wp2_with fail
        refine hK.out _ _ trivial ?_
        clear hK K
        refine hC.out _ _ _ _ _ rfl (by first | rfl | go_simp) (fun K hK => ?_)
        simp only [bare]
        have D17 := D16.alloc (.cells #[.string s16] 9)
        have o13 := o13.alloc (.cells #[.string s16] 9)
        go_wp2_with fail
        refine hK.out _ _ trivial ?_
        clear hK K
        refine hC.out _ _ _ _ _ rfl (by first | rfl | go_simp) (fun K hK => ?_)
        simp only [bare]
        go_wp2_with (at_builtin; refine app_law rfl _ _ _ rfl el_str o13 rfl [.string s16] rfl rfl (cells_new x16 #[_] _) (by simp [Value.oneCell']) (by omega) (by simp; omega) ?_; intro v18 x18 o18 g18)
        have D18 := D17.app o13 hc13 hb13 g18
        obtain ⟨p18, c18, e18⟩ := (Row.of_owns o18).shape
        subst e18
        refine hK.out _ _ trivial ?_
        clear hK K
        refine hH.out _ _ _ _ _ rfl (fun K hK => ?_); go_simp; refine hK _ ?_; clear hK K
        refine hH.out _ _ _ _ _ rfl (fun K hK => ?_); go_simp; refine hK _ ?_; clear hK K
        refine hC.out _ _ _ _ _ rfl (by first | rfl | go_simp) (fun K hK => ?_)
        simp only [bare]
        have h18 := hW.drawn D18
        have u21 := (World.cell?_of_block (a := ⟨g, i.toNat * 2, none⟩) (D18.gr.block g hgl (by simpa using hgB))).trans t0
        have f21 := owns_frozenC h18.o (i.toNat * 2)
        have u24 := (World.cell?_of_block (a := ⟨g, i.toNat * 2 + 1, none⟩) (D18.gr.block g hgl (by simpa using hgB))).trans t1
        have u24 := (World.cell?_setCell_other x18 ⟨g, i.toNat * 2, none⟩ ⟨g, i.toNat * 2 + 1, none⟩ (.string s8) (by simp)).trans u24
        have f24 := owns_frozenC (owns_setC h18.o (i.toNat * 2) (by omega) (.string s8)) (i.toNat * 2 + 1)
        have HF := Lib.hid (h18.put rfl i.toNat (by omega) s8 m8 (.slice p18 (X.ps.length + 1) c18) (X.ps ++ [s16]) ⟨RHd.of_owns (by rw [cellsOf_snoc, List.length_append]; exact o18) hb13, hp.z.snoc m16, by rw [List.length_append]; simp; omega⟩)
        clear h18 o18 g18 o13 D17 D16 D13 D8 D7 D15 D18
        go_wp2_with fail
        generalize x18.setCell ⟨g, i.toNat * 2, none⟩ (.string s8) = x21 at *
        refine hK.out _ _ trivial ?_
        clear hK K
        refine hH.out _ _ _ _ _ rfl (fun K hK => ?_); go_simp; refine hK _ ?_; clear hK K
        refine hH.out _ _ _ _ _ rfl (fun K hK => ?_); go_simp; refine hK _ ?_; clear hK K
        refine hC.out _ _ _ _ _ rfl (by first | rfl | go_simp) (fun K hK => ?_)
        simp only [bare]
        go_wp2_with fail
        refine hK.out _ _ trivial ?_
        clear hK K
        refine hE_.out _ _ ?_
        clear hH hC hA_ hE_ W
        show JS _ _
        refine hS _ _ ?_
        exact ⟨_, List.length_modify _ _ _, HF.out, Fr.of _ rfl ⟨rfl, rfl, trivial⟩⟩
      refine hC.out _ _ _ _ _ rfl (by first | rfl | go_simp) (fun K hK => ?_)
      simp only [bare]
      have O15 := owns_lit x0 x0.heap.size 9 #[.string ⟨#[122, 122]⟩, .string ⟨#[]⟩, .string ⟨#[97]⟩] 3 (by decide) rfl (Nat.le_refl _)
      have D15 : Drawn B w (x0.alloc (.cells #[.string ⟨#[122, 122]⟩, .string ⟨#[]⟩, .string ⟨#[97]⟩] 9)) (b + 23) := D0.alloc _
      have H15 : RHd 9 B (x0.alloc (.cells #[.string ⟨#[122, 122]⟩, .string ⟨#[]⟩, .string ⟨#[97]⟩] 9)).heap.size (x0.alloc (.cells #[.string ⟨#[122, 122]⟩, .string ⟨#[]⟩, .string ⟨#[97]⟩] 9)) 3 (.slice (some ⟨x0.heap.size, 0, none⟩) 3 3) (cellsOf encSt [⟨#[122, 122]⟩, ⟨#[]⟩, ⟨#[97]⟩]) := RHd.of_owns O15 D0.str.lt
      have z15 : x0.heap.size ≤ (x0.alloc (.cells #[.string ⟨#[122, 122]⟩, .string ⟨#[]⟩, .string ⟨#[97]⟩] 9)).heap.size := by simp
      clear O15
      go_wp2_with fail
      generalize x0.alloc (.cells #[.string ⟨#[122, 122]⟩, .string ⟨#[]⟩, .string ⟨#[97]⟩] 9) = x15 at *
      refine hK.out _ _ trivial ?_
      clear hK K
      refine hC.out _ _ _ _ _ rfl (by first | rfl | go_simp) (fun K hK => ?_)
      simp only [bare]
      have O7 := owns_lit x15 x15.heap.size 9 #[.string ⟨#[]⟩, .string ⟨#[115, 97]⟩, .string X.key] 3 (by decide) rfl (Nat.le_refl _)
      have D7 : Drawn B w (x15.alloc (.cells #[.string ⟨#[]⟩, .string ⟨#[115, 97]⟩, .string X.key] 9)) (b + 23) := D15.alloc _
      have H7 : RHd 9 B (x15.alloc (.cells #[.string ⟨#[]⟩, .string ⟨#[115, 97]⟩, .string X.key] 9)).heap.size (x15.alloc (.cells #[.string ⟨#[]⟩, .string ⟨#[115, 97]⟩, .string X.key] 9)) 3 (.slice (some ⟨x15.heap.size, 0, none⟩) 3 3) (cellsOf encSt [⟨#[]⟩, ⟨#[115, 97]⟩, X.key]) := RHd.of_owns O7 D15.str.lt
      have z7 : x15.heap.size ≤ (x15.alloc (.cells #[.string ⟨#[]⟩, .string ⟨#[115, 97]⟩, .string X.key] 9)).heap.size := by simp
      have H15 := H15.alloc (.cells #[.string ⟨#[]⟩, .string ⟨#[115, 97]⟩, .string X.key] 9)
      clear O7
      go_wp2_with fail
      generalize x15.alloc (.cells #[.string ⟨#[]⟩, .string ⟨#[115, 97]⟩, .string X.key] 9) = x7 at *
      refine hK.out _ _ trivial ?_
      clear hK K
      refine hC.out _ _ _ _ _ rfl (by first | rfl | go_simp) (fun K hK => ?_)
      simp only [bare]
      go_wp2_with fail
      refine (some_any B (b + 23) _ 3 [⟨#[]⟩, ⟨#[115, 97]⟩, X.key] x7 H7.row (by decide) (by decide) (by intro k hk; have := (H7.lt k hk).1; omega) D7.str (by omega)).mono ?_
      rintro e x8 ⟨s8, rfl, hs8, d8⟩
      have D8 := D7.trans d8
      have z8 := d8.size
      have m8 := smA hz hs8
      have H15 := H15.str d8.gr
      clear d8 hs8 H7
      go_wp2_with fail
      refine hK.out _ _ trivial ?_
      clear hK K
      refine hC.out _ _ _ _ _ rfl (by first | rfl | go_simp) (fun K hK => ?_)
      simp only [bare]
      go_wp2_with fail
      refine (clone_s X.pv X.ps.length X.ps 0 x8 (hp.str D8.gr).r.row (by omega)).mono ?_
      rintro e x13 ⟨v13, rfl, o13, b13⟩
      have D13 := D8.below b13
      have hb13 : B < x8.heap.size := D8.str.lt
      have hc13 : w.heap.size ≤ x8.heap.size := D8.size
      have z13 := b13.size
      have H15 := H15.under b13
      obtain ⟨p13, c13, e13⟩ := (Row.of_owns o13).shape
      subst e13
      clear b13
      go_wp2_with fail
      refine hK.out _ _ trivial ?_
      clear hK K
      refine hC.out _ _ _ _ _ rfl (by first | rfl | go_simp) (fun K hK => ?_)
      simp only [bare]
      go_wp2_with fail
      refine (some_any B (b + 24) _ 3 [⟨#[122, 122]⟩, ⟨#[]⟩, ⟨#[97]⟩] x13 H15.row (by decide) (by decide) (by intro k hk; have := (H15.lt k hk).1; omega) D13.str (by omega)).mono ?_
      rintro e x16 ⟨s16, rfl, hs16, d16⟩
      have D16 := D13.trans d16
      have z16 := d16.size
      have m16 := smB hs16
      have o13 := owns_drawn o13 d16 hb13
      clear d16 hs16 H15
      go_wp2_with fail
      refine hK.out _ _ trivial ?_
      clear hK K
      refine hC.out _ _ _ _ _ rfl (by first | rfl | go_simp) (fun K hK => ?_)
      simp only [bare]
      have D17 := D16.alloc (.cells #[.string s16] 9)
      have o13 := o13.alloc (.cells #[.string s16] 9)
      go_wp2_with fail
      refine hK.out _ _ trivial ?_
      clear hK K
      refine hC.out _ _ _ _ _ rfl (by first | rfl | go_simp) (fun K hK => ?_)
      simp only [bare]
      go_wp2_with (at_builtin; refine app_law rfl _ _ _ rfl el_str o13 rfl [.string s16] rfl rfl (cells_new x16 #[_] _) (by simp [Value.oneCell']) (by omega) (by simp; omega) ?_; intro v18 x18 o18 g18)
      have D18 := D17.app o13 hc13 hb13 g18
      obtain ⟨p18, c18, e18⟩ := (Row.of_owns o18).shape
      subst e18
      refine hK.out _ _ trivial ?_
      clear hK K
      refine hH.out _ _ _ _ _ rfl (fun K hK => ?_); go_simp; refine hK _ ?_; clear hK K
      refine hH.out _ _ _ _ _ rfl (fun K hK => ?_); go_simp; refine hK _ ?_; clear hK K
      refine hC.out _ _ _ _ _ rfl (by first | rfl | go_simp) (fun K hK => ?_)
      simp only [bare]
      have h18 := hW.drawn D18
      have u21 := (World.cell?_of_block (a := ⟨g, i.toNat * 2, none⟩) (D18.gr.block g hgl (by simpa using hgB))).trans t0
      have f21 := owns_frozenC h18.o (i.toNat * 2)
      have u24 := (World.cell?_of_block (a := ⟨g, i.toNat * 2 + 1, none⟩) (D18.gr.block g hgl (by simpa using hgB))).trans t1
      have u24 := (World.cell?_setCell_other x18 ⟨g, i.toNat * 2, none⟩ ⟨g, i.toNat * 2 + 1, none⟩ (.string s8) (by simp)).trans u24
      have f24 := owns_frozenC (owns_setC h18.o (i.toNat * 2) (by omega) (.string s8)) (i.toNat * 2 + 1)
      have HF := Lib.hid (h18.put rfl i.toNat (by omega) s8 m8 (.slice p18 (X.ps.length + 1) c18) (X.ps ++ [s16]) ⟨RHd.of_owns (by rw [cellsOf_snoc, List.length_append]; exact o18) hb13, hp.z.snoc m16, by rw [List.length_append]; simp; omega⟩)
      clear h18 o18 g18 o13 D17 D16 D13 D8 D7 D15 D18
      go_wp2_with fail
      generalize x18.setCell ⟨g, i.toNat * 2, none⟩ (.string s8) = x21 at *
      refine hK.out _ _ trivial ?_
      clear hK K
      refine hH.out _ _ _ _ _ rfl (fun K hK => ?_); go_simp; refine hK _ ?_; clear hK K
      refine hH.out _ _ _ _ _ rfl (fun K hK => ?_); go_simp; refine hK _ ?_; clear hK K
      refine hC.out _ _ _ _ _ rfl (by first | rfl | go_simp) (fun K hK => ?_)
      simp only [bare]
      go_wp2_with fail
      refine hK.out _ _ trivial ?_
      clear hK K
      refine hE_.out _ _ ?_
      clear hH hC hA_ hE_ W
      show JS _ _
      refine hS _ _ ?_
      exact ⟨_, List.length_modify _ _ _, HF.out, Fr.of _ rfl ⟨rfl, rfl, trivial⟩⟩
    refine hC.out _ _ _ _ _ rfl (by first | rfl | go_simp) (fun K hK => ?_)
    simp only [bare]
    have O15 := owns_lit x0 x0.heap.size 9 #[.string ⟨#[122, 122]⟩, .string ⟨#[]⟩, .string ⟨#[97]⟩] 3 (by decide) rfl (Nat.le_refl _)
    have D15 : Drawn B w (x0.alloc (.cells #[.string ⟨#[122, 122]⟩, .string ⟨#[]⟩, .string ⟨#[97]⟩] 9)) (b + 23) := D0.alloc _
    have H15 : RHd 9 B (x0.alloc (.cells #[.string ⟨#[122, 122]⟩, .string ⟨#[]⟩, .string ⟨#[97]⟩] 9)).heap.size (x0.alloc (.cells #[.string ⟨#[122, 122]⟩, .string ⟨#[]⟩, .string ⟨#[97]⟩] 9)) 3 (.slice (some ⟨x0.heap.size, 0, none⟩) 3 3) (cellsOf encSt [⟨#[122, 122]⟩, ⟨#[]⟩, ⟨#[97]⟩]) := RHd.of_owns O15 D0.str.lt
    have z15 : x0.heap.size ≤ (x0.alloc (.cells #[.string ⟨#[122, 122]⟩, .string ⟨#[]⟩, .string ⟨#[97]⟩] 9)).heap.size := by simp
    clear O15
    go_wp2_with fail
    generalize x0.alloc (.cells #[.string ⟨#[122, 122]⟩, .string ⟨#[]⟩, .string ⟨#[97]⟩] 9) = x15 at *
    refine hK.out _ _ trivial ?_
    clear hK K
    refine hC.out _ _ _ _ _ rfl (by first | rfl | go_simp) (fun K hK => ?_)
    simp only [bare]
    have u6 := (World.cell?_of_block (a := ⟨g, i.toNat * 2, none⟩) (D15.gr.block g hgl (by simpa using hgB))).trans t0
    go_wp2_with fail
    clear u6
    refine hK.out _ _ trivial ?_
    clear hK K
    refine hC.out _ _ _ _ _ rfl (by first | rfl | go_simp) (fun K hK => ?_)
    simp only [bare]
    have O7 := owns_lit x15 x15.heap.size 9 #[.string ⟨#[]⟩, .string ⟨#[115, 97]⟩, .string X.key] 3 (by decide) rfl (Nat.le_refl _)
    have D7 : Drawn B w (x15.alloc (.cells #[.string ⟨#[]⟩, .string ⟨#[115, 97]⟩, .string X.key] 9)) (b + 23) := D15.alloc _
    have H7 : RHd 9 B (x15.alloc (.cells #[.string ⟨#[]⟩, .string ⟨#[115, 97]⟩, .string X.key] 9)).heap.size (x15.alloc (.cells #[.string ⟨#[]⟩, .string ⟨#[115, 97]⟩, .string X.key] 9)) 3 (.slice (some ⟨x15.heap.size, 0, none⟩) 3 3) (cellsOf encSt [⟨#[]⟩, ⟨#[115, 97]⟩, X.key]) := RHd.of_owns O7 D15.str.lt
    have z7 : x15.heap.size ≤ (x15.alloc (.cells #[.string ⟨#[]⟩, .string ⟨#[115, 97]⟩, .string X.key] 9)).heap.size := by simp
    have H15 := H15.alloc (.cells #[.string ⟨#[]⟩, .string ⟨#[115, 97]⟩, .string X.key] 9)
    clear O7
    go_wp2_with fail
    generalize x15.alloc (.cells #[.string ⟨#[]⟩, .string ⟨#[115, 97]⟩, .string X.key] 9) = x7 at *
    refine hK.out _ _ trivial ?_
    clear hK K
    refine hC.out _ _ _ _ _ rfl (by first | rfl | go_simp) (fun K hK => ?_)
    simp only [bare]
    go_wp2_with fail
    refine (some_any B (b + 23) _ 3 [⟨#[]⟩, ⟨#[115, 97]⟩, X.key] x7 H7.row (by decide) (by decide) (by intro k hk; have := (H7.lt k hk).1; omega) D7.str (by omega)).mono ?_
    rintro e x8 ⟨s8, rfl, hs8, d8⟩
    have D8 := D7.trans d8
    have z8 := d8.size
    have m8 := smA hz hs8
    have H15 := H15.str d8.gr
    clear d8 hs8 H7
    go_wp2_with fail
    refine hK.out _ _ trivial ?_
    clear hK K
    refine hC.out _ _ _ _ _ rfl (by first | rfl | go_simp) (fun K hK => ?_)
    simp only [bare]
    go_wp2_with fail
    refine (clone_s X.pv X.ps.length X.ps 0 x8 (hp.str D8.gr).r.row (by omega)).mono ?_
    rintro e x13 ⟨v13, rfl, o13, b13⟩
    have D13 := D8.below b13
    have hb13 : B < x8.heap.size := D8.str.lt
    have hc13 : w.heap.size ≤ x8.heap.size := D8.size
    have z13 := b13.size
    have H15 := H15.under b13
    obtain ⟨p13, c13, e13⟩ := (Row.of_owns o13).shape
    subst e13
    clear b13
    go_wp2_with fail
    refine hK.out _ _ trivial ?_
    clear hK K
    refine hC.out _ _ _ _ _ rfl (by first | rfl | go_simp) (fun K hK => ?_)
    simp only [bare]
    go_wp2_with fail
    refine (some_any B (b + 24) _ 3 [⟨#[122, 122]⟩, ⟨#[]⟩, ⟨#[97]⟩] x13 H15.row (by decide) (by decide) (by intro k hk; have := (H15.lt k hk).1; omega) D13.str (by omega)).mono ?_
    rintro e x16 ⟨s16, rfl, hs16, d16⟩
    have D16 := D13.trans d16
    have z16 := d16.size
    have m16 := smB hs16
    have o13 := owns_drawn o13 d16 hb13
    clear d16 hs16 H15
    go_wp2_with fail
    refine hK.out _ _ trivial ?_
    clear hK K
    refine hC.out _ _ _ _ _ rfl (by first | rfl | go_simp) (fun K hK => ?_)
    simp only [bare]
    have D17 := D16.alloc (.cells #[.string s16] 9)
    have o13 := o13.alloc (.cells #[.string s16] 9)
    go_wp2_with fail
    refine hK.out _ _ trivial ?_
    clear hK K
    refine hC.out _ _ _ _ _ rfl (by first | rfl | go_simp) (fun K hK => ?_)
    simp only [bare]
    go_wp2_with (at_builtin; refine app_law rfl _ _ _ rfl el_str o13 rfl [.string s16] rfl rfl (cells_new x16 #[_] _) (by simp [Value.oneCell']) (by omega) (by simp; omega) ?_; intro v18 x18 o18 g18)
    have D18 := D17.app o13 hc13 hb13 g18
    obtain ⟨p18, c18, e18⟩ := (Row.of_owns o18).shape
    subst e18
    refine hK.out _ _ trivial ?_
    clear hK K
    refine hH.out _ _ _ _ _ rfl (fun K hK => ?_); go_simp; refine hK _ ?_; clear hK K
    refine hH.out _ _ _ _ _ rfl (fun K hK => ?_); go_simp; refine hK _ ?_; clear hK K
    refine hC.out _ _ _ _ _ rfl (by first | rfl | go_simp) (fun K hK => ?_)
    simp only [bare]
    have h18 := hW.drawn D18
    have u21 := (World.cell?_of_block (a := ⟨g, i.toNat * 2, none⟩) (D18.gr.block g hgl (by simpa using hgB))).trans t0
    have f21 := owns_frozenC h18.o (i.toNat * 2)
    have u24 := (World.cell?_of_block (a := ⟨g, i.toNat * 2 + 1, none⟩) (D18.gr.block g hgl (by simpa using hgB))).trans t1
    have u24 := (World.cell?_setCell_other x18 ⟨g, i.toNat * 2, none⟩ ⟨g, i.toNat * 2 + 1, none⟩ (.string s8) (by simp)).trans u24
    have f24 := owns_frozenC (owns_setC h18.o (i.toNat * 2) (by omega) (.string s8)) (i.toNat * 2 + 1)
    have HF := Lib.hid (h18.put rfl i.toNat (by omega) s8 m8 (.slice p18 (X.ps.length + 1) c18) (X.ps ++ [s16]) ⟨RHd.of_owns (by rw [cellsOf_snoc, List.length_append]; exact o18) hb13, hp.z.snoc m16, by rw [List.length_append]; simp; omega⟩)
    clear h18 o18 g18 o13 D17 D16 D13 D8 D7 D15 D18
    go_wp2_with fail
    generalize x18.setCell ⟨g, i.toNat * 2, none⟩ (.string s8) = x21 at *
    refine hK.out _ _ trivial ?_
    clear hK K
    refine hH.out _ _ _ _ _ rfl (fun K hK => ?_); go_simp; refine hK _ ?_; clear hK K
    refine hH.out _ _ _ _ _ rfl (fun K hK => ?_); go_simp; refine hK _ ?_; clear hK K
    refine hC.out _ _ _ _ _ rfl (by first | rfl | go_simp) (fun K hK => ?_)
    simp only [bare]
    go_wp2_with fail
    refine hK.out _ _ trivial ?_
    clear hK K
    refine hE_.out _ _ ?_
    clear hH hC hA_ hE_ W
    show JS _ _
    refine hS _ _ ?_
    exact ⟨_, List.length_modify _ _ _, HF.out, Fr.of _ rfl ⟨rfl, rfl, trivial⟩⟩
  refine hC.out _ _ _ _ _ rfl (by first | rfl | go_simp) (fun K hK => ?_)
  simp only [bare]
  have O15 := owns_lit x0 x0.heap.size 9 #[.string ⟨#[122, 122]⟩, .string ⟨#[]⟩, .string ⟨#[97]⟩] 3 (by decide) rfl (Nat.le_refl _)
  have D15 : Drawn B w (x0.alloc (.cells #[.string ⟨#[122, 122]⟩, .string ⟨#[]⟩, .string ⟨#[97]⟩] 9)) (b + 23) := D0.alloc _
  have H15 : RHd 9 B (x0.alloc (.cells #[.string ⟨#[122, 122]⟩, .string ⟨#[]⟩, .string ⟨#[97]⟩] 9)).heap.size (x0.alloc (.cells #[.string ⟨#[122, 122]⟩, .string ⟨#[]⟩, .string ⟨#[97]⟩] 9)) 3 (.slice (some ⟨x0.heap.size, 0, none⟩) 3 3) (cellsOf encSt [⟨#[122, 122]⟩, ⟨#[]⟩, ⟨#[97]⟩]) := RHd.of_owns O15 D0.str.lt
  have z15 : x0.heap.size ≤ (x0.alloc (.cells #[.string ⟨#[122, 122]⟩, .string ⟨#[]⟩, .string ⟨#[97]⟩] 9)).heap.size := by simp
  clear O15
  go_wp2_with fail
  generalize x0.alloc (.cells #[.string ⟨#[122, 122]⟩, .string ⟨#[]⟩, .string ⟨#[97]⟩] 9) = x15 at *
  refine hK.out _ _ trivial ?_
  clear hK K
  refine hA_.out _ _ _ _ _ ?_ ?_
  · refine hC.out _ _ _ _ _ rfl (by first | rfl | go_simp) (fun K hK => ?_)
    simp only [bare]
    have u6 := (World.cell?_of_block (a := ⟨g, i.toNat * 2, none⟩) (D15.gr.block g hgl (by simpa using hgB))).trans t0
    go_wp2_with fail
    clear u6
    refine hK.out _ _ trivial ?_
    clear hK K
    refine hA_.out _ _ _ _ _ ?_ ?_
    · refine hC.out _ _ _ _ _ rfl (by first | rfl | go_simp) (fun K hK => ?_)
      simp only [bare]
      have O7 := owns_lit x15 x15.heap.size 9 #[.string ⟨#[]⟩, .string ⟨#[115, 97]⟩, .string X.key] 3 (by decide) rfl (Nat.le_refl _)
      have D7 : Drawn B w (x15.alloc (.cells #[.string ⟨#[]⟩, .string ⟨#[115, 97]⟩, .string X.key] 9)) (b + 23) := D15.alloc _
      have H7 : RHd 9 B (x15.alloc (.cells #[.string ⟨#[]⟩, .string ⟨#[115, 97]⟩, .string X.key] 9)).heap.size (x15.alloc (.cells #[.string ⟨#[]⟩, .string ⟨#[115, 97]⟩, .string X.key] 9)) 3 (.slice (some ⟨x15.heap.size, 0, none⟩) 3 3) (cellsOf encSt [⟨#[]⟩, ⟨#[115, 97]⟩, X.key]) := RHd.of_owns O7 D15.str.lt
      have z7 : x15.heap.size ≤ (x15.alloc (.cells #[.string ⟨#[]⟩, .string ⟨#[115, 97]⟩, .string X.key] 9)).heap.size := by simp
      have H15 := H15.alloc (.cells #[.string ⟨#[]⟩, .string ⟨#[115, 97]⟩, .string X.key] 9)
      clear O7
      go_wp2_with fail
      generalize x15.alloc (.cells #[.string ⟨#[]⟩, .string ⟨#[115, 97]⟩, .string X.key] 9) = x7 at *
      refine hK.out _ _ trivial ?_
      clear hK K
      refine hA_.out _ _ _ _ _ ?_ ?_
      · refine hC.out _ _ _ _ _ rfl (by first | rfl | go_simp) (fun K hK => ?_)
        simp only [bare]
        go_wp2_with fail
        refine (some_any B (b + 23) _ 3 [⟨#[]⟩, ⟨#[115, 97]⟩, X.key] x7 H7.row (by decide) (by decide) (by intro k hk; have := (H7.lt k hk).1; omega) D7.str (by omega)).mono ?_
        rintro e x8 ⟨s8, rfl, hs8, d8⟩
        have D8 := D7.trans d8
        have z8 := d8.size
        have m8 := smA hz hs8
        have H15 := H15.str d8.gr
        clear d8 hs8 H7
        go_wp2_with fail
        refine hK.out _ _ trivial ?_
        clear hK K
        refine hC.out _ _ _ _ _ rfl (by first | rfl | go_simp) (fun K hK => ?_)
        simp only [bare]
        have u12 := (World.cell?_of_block (a := ⟨g, i.toNat * 2 + 1, none⟩) (D8.gr.block g hgl (by simpa using hgB))).trans t1
        go_wp2_with fail
        clear u12
        refine hK.out _ _ trivial ?_
        clear hK K
        refine hC.out _ _ _ _ _ rfl (by first | rfl | go_simp) (fun K hK => ?_)
        simp only [bare]
        go_wp2_with fail
        refine (clone_s X.pv X.ps.length X.ps 0 x8 (hp.str D8.gr).r.row (by omega)).mono ?_
        rintro e x13 ⟨v13, rfl, o13, b13⟩
        have D13 := D8.below b13
        have hb13 : B < x8.heap.size := D8.str.lt
        have hc13 : w.heap.size ≤ x8.heap.size := D8.size
        have z13 := b13.size
        have H15 := H15.under b13
        obtain ⟨p13, c13, e13⟩ := (Row.of_owns o13).shape
        subst e13
        clear b13
        go_wp2_with fail
        refine hK.out _ _ trivial ?_
        clear hK K
        refine hC.out _ _ _ _ _ rfl (by first | rfl | go_simp) (fun K hK => ?_)
        simp only [bare]
        go_wp2_with fail
        refine (some_any B (b + 24) _ 3 [⟨#[122, 122]⟩, ⟨#[]⟩, ⟨#[97]⟩] x13 H15.row (by decide) (by decide) (by intro k hk; have := (H15.lt k hk).1; omega) D13.str (by omega)).mono ?_
        rintro e x16 ⟨s16, rfl, hs16, d16⟩
        have D16 := D13.trans d16
        have z16 := d16.size
        have m16 := smB hs16
        have o13 := owns_drawn o13 d16 hb13
        clear d16 hs16 H15
        go_wp2_with fail
        refine hK.out _ _ trivial ?_
        clear hK K
        refine hC.out _ _ _ _ _ rfl (by first | rfl | go_simp) (fun K hK => ?_)
        simp only [bare]
        have D17 := D16.alloc (.cells #[.string s16] 9)
        have o13 := o13.alloc (.cells #[.string s16] 9)
        go_wp2_with fail
        refine hK.out _ _ trivial ?_
        clear hK K
        refine hC.out _ _ _ _ _ rfl (by first | rfl | go_simp) (fun K hK => ?_)
        simp only [bare]
        go_wp2_with (at_builtin; refine app_law rfl _ _ _ rfl el_str o13 rfl [.string s16] rfl rfl (cells_new x16 #[_] _) (by simp [Value.oneCell']) (by omega) (by simp; omega) ?_; intro v18 x18 o18 g18)
        have D18 := D17.app o13 hc13 hb13 g18
        obtain ⟨p18, c18, e18⟩ := (Row.of_owns o18).shape
        subst e18
        refine hK.out _ _ trivial ?_
        clear hK K
        refine hH.out _ _ _ _ _ rfl (fun K hK => ?_); go_simp; refine hK _ ?_; clear hK K
        refine hH.out _ _ _ _ _ rfl (fun K hK => ?_); go_simp; refine hK _ ?_; clear hK K
        refine hC.out _ _ _ _ _ rfl (by first | rfl | go_simp) (fun K hK => ?_)
        simp only [bare]
        have h18 := hW.drawn D18
        have u21 := (World.cell?_of_block (a := ⟨g, i.toNat * 2, none⟩) (D18.gr.block g hgl (by simpa using hgB))).trans t0
        have f21 := owns_frozenC h18.o (i.toNat * 2)
        have u24 := (World.cell?_of_block (a := ⟨g, i.toNat * 2 + 1, none⟩) (D18.gr.block g hgl (by simpa using hgB))).trans t1
        have u24 := (World.cell?_setCell_other x18 ⟨g, i.toNat * 2, none⟩ ⟨g, i.toNat * 2 + 1, none⟩ (.string s8) (by simp)).trans u24
        have f24 := owns_frozenC (owns_setC h18.o (i.toNat * 2) (by omega) (.string s8)) (i.toNat * 2 + 1)
        have HF := Lib.hid (h18.put rfl i.toNat (by omega) s8 m8 (.slice p18 (X.ps.length + 1) c18) (X.ps ++ [s16]) ⟨RHd.of_owns (by rw [cellsOf_snoc, List.length_append]; exact o18) hb13, hp.z.snoc m16, by rw [List.length_append]; simp; omega⟩)
        clear h18 o18 g18 o13 D17 D16 D13 D8 D7 D15 D18
        go_wp2_with fail
        generalize x18.setCell ⟨g, i.toNat * 2, none⟩ (.string s8) = x21 at *
        refine hK.out _ _ trivial ?_
        clear hK K
        refine hH.out _ _ _ _ _ rfl (fun K hK => ?_); go_simp; refine hK _ ?_; clear hK K
        refine hH.out _ _ _ _ _ rfl (fun K hK => ?_); go_simp; refine hK _ ?_; clear hK K
        refine hC.out _ _ _ _ _ rfl (by first | rfl | go_simp) (fun K hK => ?_)
        simp only [bare]
        go_wp2_with fail
        refine hK.out _ _ trivial ?_
        clear hK K
        refine hE_.out _ _ ?_
        clear hH hC hA_ hE_ W
        show JS _ _
        refine hS _ _ ?_
        exact ⟨_, List.length_modify _ _ _, HF.out, Fr.of _ rfl ⟨rfl, rfl, trivial⟩⟩
      refine hC.out _ _ _ _ _ rfl (by first | rfl | go_simp) (fun K hK => ?_)
      simp only [bare]
      have u12 := (World.cell?_of_block (a := ⟨g, i.toNat * 2 + 1, none⟩) (D7.gr.block g hgl (by simpa using hgB))).trans t1
      go_wp2_with fail
      clear u12
      refine hK.out _ _ trivial ?_
      clear hK K
      refine hC.out _ _ _ _ _ rfl (by first | rfl | go_simp) (fun K hK => ?_)
      simp only [bare]
      go_wp2_with fail
      refine (some_any B (b + 23) _ 3 [⟨#[]⟩, ⟨#[115, 97]⟩, X.key] x7 H7.row (by decide) (by decide) (by intro k hk; have := (H7.lt k hk).1; omega) D7.str (by omega)).mono ?_
      rintro e x8 ⟨s8, rfl, hs8, d8⟩
      have D8 := D7.trans d8
      have z8 := d8.size
      have m8 := smA hz hs8
      have H15 := H15.str d8.gr
      clear d8 hs8 H7
      go_wp2_with fail
      refine hK.out _ _ trivial ?_
      clear hK K
      refine hC.out _ _ _ _ _ rfl (by first | rfl | go_simp) (fun K hK => ?_)
      simp only [bare]
      go_wp2_with fail
      refine (clone_s X.pv X.ps.length X.ps 0 x8 (hp.str D8.gr).r.row (by omega)).mono ?_
      rintro e x13 ⟨v13, rfl, o13, b13⟩
      have D13 := D8.below b13
      have hb13 : B < x8.heap.size := D8.str.lt
      have hc13 : w.heap.size ≤ x8.heap.size := D8.size
      have z13 := b13.size
      have H15 := H15.under b13
      obtain ⟨p13, c13, e13⟩ := (Row.of_owns o13).shape
      subst e13
      clear b13
      go_wp2_with fail
      refine hK.out _ _ trivial ?_
      clear hK K
      refine hC.out _ _ _ _ _ rfl (by first | rfl | go_simp) (fun K hK => ?_)
      simp only [bare]
      go_wp2_with fail
      refine (some_any B (b + 24) _ 3 [⟨#[122, 122]⟩, ⟨#[]⟩, ⟨#[97]⟩] x13 H15.row (by decide) (by decide) (by intro k hk; have := (H15.lt k hk).1; omega) D13.str (by omega)).mono ?_
      rintro e x16 ⟨s16, rfl, hs16, d16⟩
      have D16 := D13.trans d16
      have z16 := d16.size
      have m16 := smB hs16
      have o13 := owns_drawn o13 d16 hb13
      clear d16 hs16 H15
      go_wp2_with fail
      refine hK.out _ _ trivial ?_
      clear hK K
      refine hC.out _ _ _ _ _ rfl (by first | rfl | go_simp) (fun K hK => ?_)
      simp only [bare]
      have D17 := D16.alloc (.cells #[.string s16] 9)
      have o13 := o13.alloc (.cells #[.string s16] 9)
      go_wp2_with fail
      refine hK.out _ _ trivial ?_
      clear hK K
      refine hC.out _ _ _ _ _ rfl (by first | rfl | go_simp) (fun K hK => ?_)
      simp only [bare]
      go_wp2_with (at_builtin; refine app_law rfl _ _ _ rfl el_str o13 rfl [.string s16] rfl rfl (cells_new x16 #[_] _) (by simp [Value.oneCell']) (by omega) (by simp; omega) ?_; intro v18 x18 o18 g18)
      have D18 := D17.app o13 hc13 hb13 g18
      obtain ⟨p18, c18, e18⟩ := (Row.of_owns o18).shape
      subst e18
      refine hK.out _ _ trivial ?_
      clear hK K
      refine hH.out _ _ _ _ _ rfl (fun K hK => ?_); go_simp; refine hK _ ?_; clear hK K
      refine hH.out _ _ _ _ _ rfl (fun K hK => ?_); go_simp; refine hK _ ?_; clear hK K
      refine hC.out _ _ _ _ _ rfl (by first | rfl | go_simp) (fun K hK => ?_)
      simp only [bare]
      have h18 := hW.drawn D18
      have u21 := (World.cell?_of_block (a := ⟨g, i.toNat * 2, none⟩) (D18.gr.block g hgl (by simpa using hgB))).trans t0
      have f21 := owns_frozenC h18.o (i.toNat * 2)
      have u24 := (World.cell?_of_block (a := ⟨g, i.toNat * 2 + 1, none⟩) (D18.gr.block g hgl (by simpa using hgB))).trans t1
      have u24 := (World.cell?_setCell_other x18 ⟨g, i.toNat * 2, none⟩ ⟨g, i.toNat * 2 + 1, none⟩ (.string s8) (by simp)).trans u24
      have f24 := owns_frozenC (owns_setC h18.o (i.toNat * 2) (by omega) (.string s8)) (i.toNat * 2 + 1)
      have HF := Lib.hid (h18.put rfl i.toNat (by omega) s8 m8 (.slice p18 (X.ps.length + 1) c18) (X.ps ++ [s16]) ⟨RHd.of_owns (by rw [cellsOf_snoc, List.length_append]; exact o18) hb13, hp.z.snoc m16, by rw [List.length_append]; simp; omega⟩)
      clear h18 o18 g18 o13 D17 D16 D13 D8 D7 D15 D18
      go_wp2_with fail
      generalize x18.setCell ⟨g, i.toNat * 2, none⟩ (.string s8) = x21 at *
      refine hK.out _ _ trivial ?_
      clear hK K
      refine hH.out _ _ _ _ _ rfl (fun K hK => ?_); go_simp; refine hK _ ?_; clear hK K
      refine hH.out _ _ _ _ _ rfl (fun K hK => ?_); go_simp; refine hK _ ?_; clear hK K
      refine hC.out _ _ _ _ _ rfl (by first | rfl | go_simp) (fun K hK => ?_)
      simp only [bare]
      go_wp2_with fail
      refine hK.out _ _ trivial ?_
      clear hK K
      refine hE_.out _ _ ?_
      clear hH hC hA_ hE_ W
      show JS _ _
      refine hS _ _ ?_
      exact ⟨_, List.length_modify _ _ _, HF.out, Fr.of _ rfl ⟨rfl, rfl, trivial⟩⟩
    refine hC.out _ _ _ _ _ rfl (by first | rfl | go_simp) (fun K hK => ?_)
    simp only [bare]
    have u12 := (World.cell?_of_block (a := ⟨g, i.toNat * 2 + 1, none⟩) (D15.gr.block g hgl (by simpa using hgB))).trans t1
    go_wp2_with fail
    clear u12
    refine hK.out _ _ trivial ?_
    clear hK K
    refine hC.out _ _ _ _ _ rfl (by first | rfl | go_simp) (fun K hK => ?_)
    simp only [bare]
    have O7 := owns_lit x15 x15.heap.size 9 #[.string ⟨#[]⟩, .string ⟨#[115, 97]⟩, .string X.key] 3 (by decide) rfl (Nat.le_refl _)
    have D7 : Drawn B w (x15.alloc (.cells #[.string ⟨#[]⟩, .string ⟨#[115, 97]⟩, .string X.key] 9)) (b + 23) := D15.alloc _
    have H7 : RHd 9 B (x15.alloc (.cells #[.string ⟨#[]⟩, .string ⟨#[115, 97]⟩, .string X.key] 9)).heap.size (x15.alloc (.cells #[.string ⟨#[]⟩, .string ⟨#[115, 97]⟩, .string X.key] 9)) 3 (.slice (some ⟨x15.heap.size, 0, none⟩) 3 3) (cellsOf encSt [⟨#[]⟩, ⟨#[115, 97]⟩, X.key]) := RHd.of_owns O7 D15.str.lt
    have z7 : x15.heap.size ≤ (x15.alloc (.cells #[.string ⟨#[]⟩, .string ⟨#[115, 97]⟩, .string X.key] 9)).heap.size := by simp
    have H15 := H15.alloc (.cells #[.string ⟨#[]⟩, .string ⟨#[115, 97]⟩, .string X.key] 9)
    clear O7
    go_wp2_with fail
    generalize x15.alloc (.cells #[.string ⟨#[]⟩, .string ⟨#[115, 97]⟩, .string X.key] 9) = x7 at *
    refine hK.out _ _ trivial ?_
    clear hK K
    refine hC.out _ _ _ _ _ rfl (by first | rfl | go_simp) (fun K hK => ?_)
    simp only [bare]
    go_wp2_with fail
    refine (some_any B (b + 23) _ 3 [⟨#[]⟩, ⟨#[115, 97]⟩, X.key] x7 H7.row (by decide) (by decide) (by intro k hk; have := (H7.lt k hk).1; omega) D7.str (by omega)).mono ?_
    rintro e x8 ⟨s8, rfl, hs8, d8⟩
    have D8 := D7.trans d8
    have z8 := d8.size
    have m8 := smA hz hs8
    have H15 := H15.str d8.gr
    clear d8 hs8 H7
    go_wp2_with fail
    refine hK.out _ _ trivial ?_
    clear hK K
    refine hC.out _ _ _ _ _ rfl (by first | rfl | go_simp) (fun K hK => ?_)
    simp only [bare]
    go_wp2_with fail
    refine (clone_s X.pv X.ps.length X.ps 0 x8 (hp.str D8.gr).r.row (by omega)).mono ?_
    rintro e x13 ⟨v13, rfl, o13, b13⟩
    have D13 := D8.below b13
    have hb13 : B < x8.heap.size := D8.str.lt
    have hc13 : w.heap.size ≤ x8.heap.size := D8.size
    have z13 := b13.size
    have H15 := H15.under b13
    obtain ⟨p13, c13, e13⟩ := (Row.of_owns o13).shape
    subst e13
    clear b13
    go_wp2_with fail
    refine hK.out _ _ trivial ?_
    clear hK K
    refine hC.out _ _ _ _ _ rfl (by first | rfl | go_simp) (fun K hK => ?_)
    simp only [bare]
    go_wp2_with fail
    refine (some_any B (b + 24) _ 3 [⟨#[122, 122]⟩, ⟨#[]⟩, ⟨#[97]⟩] x13 H15.row (by decide) (by decide) (by intro k hk; have := (H15.lt k hk).1; omega) D13.str (by omega)).mono ?_
    rintro e x16 ⟨s16, rfl, hs16, d16⟩
    have D16 := D13.trans d16
    have z16 := d16.size
    have m16 := smB hs16
    have o13 := owns_drawn o13 d16 hb13
    clear d16 hs16 H15
    go_wp2_with fail
    refine hK.out _ _ trivial ?_
    clear hK K
    refine hC.out _ _ _ _ _ rfl (by first | rfl | go_simp) (fun K hK => ?_)
    simp only [bare]
    have D17 := D16.alloc (.cells #[.string s16] 9)
    have o13 := o13.alloc (.cells #[.string s16] 9)
    go_wp2_with fail
    refine hK.out _ _ trivial ?_
    clear hK K
    refine hC.out _ _ _ _ _ rfl (by first | rfl | go_simp) (fun K hK => ?_)
    simp only [bare]
    go_wp2_with (at_builtin; refine app_law rfl _ _ _ rfl el_str o13 rfl [.string s16] rfl rfl (cells_new x16 #[_] _) (by simp [Value.oneCell']) (by omega) (by simp; omega) ?_; intro v18 x18 o18 g18)
    have D18 := D17.app o13 hc13 hb13 g18
    obtain ⟨p18, c18, e18⟩ := (Row.of_owns o18).shape
    subst e18
    refine hK.out _ _ trivial ?_
    clear hK K
    refine hH.out _ _ _ _ _ rfl (fun K hK => ?_); go_simp; refine hK _ ?_; clear hK K
    refine hH.out _ _ _ _ _ rfl (fun K hK => ?_); go_simp; refine hK _ ?_; clear hK K
    refine hC.out _ _ _ _ _ rfl (by first | rfl | go_simp) (fun K hK => ?_)
    simp only [bare]
    have h18 := hW.drawn D18
    have u21 := (World.cell?_of_block (a := ⟨g, i.toNat * 2, none⟩) (D18.gr.block g hgl (by simpa using hgB))).trans t0
    have f21 := owns_frozenC h18.o (i.toNat * 2)
    have u24 := (World.cell?_of_block (a := ⟨g, i.toNat * 2 + 1, none⟩) (D18.gr.block g hgl (by simpa using hgB))).trans t1
    have u24 := (World.cell?_setCell_other x18 ⟨g, i.toNat * 2, none⟩ ⟨g, i.toNat * 2 + 1, none⟩ (.string s8) (by simp)).trans u24
    have f24 := owns_frozenC (owns_setC h18.o (i.toNat * 2) (by omega) (.string s8)) (i.toNat * 2 + 1)
    have HF := Lib.hid (h18.put rfl i.toNat (by omega) s8 m8 (.slice p18 (X.ps.length + 1) c18) (X.ps ++ [s16]) ⟨RHd.of_owns (by rw [cellsOf_snoc, List.length_append]; exact o18) hb13, hp.z.snoc m16, by rw [List.length_append]; simp; omega⟩)
    clear h18 o18 g18 o13 D17 D16 D13 D8 D7 D15 D18
    go_wp2_with fail
    generalize x18.setCell ⟨g, i.toNat * 2, none⟩ (.string s8) = x21 at *
    refine hK.out _ _ trivial ?_
    clear hK K
    refine hH.out _ _ _ _ _ rfl (fun K hK => ?_); go_simp; refine hK _ ?_; clear hK K
    refine hH.out _ _ _ _ _ rfl (fun K hK => ?_); go_simp; refine hK _ ?_; clear hK K
    refine hC.out _ _ _ _ _ rfl (by first | rfl | go_simp) (fun K hK => ?_)
    simp only [bare]
    go_wp2_with fail
    refine hK.out _ _ trivial ?_
    clear hK K
    refine hE_.out _ _ ?_
    clear hH hC hA_ hE_ W
    show JS _ _
    refine hS _ _ ?_
    exact ⟨_, List.length_modify _ _ _, HF.out, Fr.of _ rfl ⟨rfl, rfl, trivial⟩⟩
  refine hC.out _ _ _ _ _ rfl (by first | rfl | go_simp) (fun K hK => ?_)
  simp only [bare]
  have u12 := (World.cell?_of_block (a := ⟨g, i.toNat * 2 + 1, none⟩) (D15.gr.block g hgl (by simpa using hgB))).trans t1
  go_wp2_with fail
  clear u12
  refine hK.out _ _ trivial ?_
  clear hK K
  refine hC.out _ _ _ _ _ rfl (by first | rfl | go_simp) (fun K hK => ?_)
  simp only [bare]
  have u6 := (World.cell?_of_block (a := ⟨g, i.toNat * 2, none⟩) (D15.gr.block g hgl (by simpa using hgB))).trans t0
  go_wp2_with fail
  clear u6
  refine hK.out _ _ trivial ?_
  clear hK K
  refine hC.out _ _ _ _ _ rfl (by first | rfl | go_simp) (fun K hK => ?_)
  simp only [bare]
  have O7 := owns_lit x15 x15.heap.size 9 #[.string ⟨#[]⟩, .string ⟨#[115, 97]⟩, .string X.key] 3 (by decide) rfl (Nat.le_refl _)
  have D7 : Drawn B w (x15.alloc (.cells #[.string ⟨#[]⟩, .string ⟨#[115, 97]⟩, .string X.key] 9)) (b + 23) := D15.alloc _
  have H7 : RHd 9 B (x15.alloc (.cells #[.string ⟨#[]⟩, .string ⟨#[115, 97]⟩, .string X.key] 9)).heap.size (x15.alloc (.cells #[.string ⟨#[]⟩, .string ⟨#[115, 97]⟩, .string X.key] 9)) 3 (.slice (some ⟨x15.heap.size, 0, none⟩) 3 3) (cellsOf encSt [⟨#[]⟩, ⟨#[115, 97]⟩, X.key]) := RHd.of_owns O7 D15.str.lt
  have z7 : x15.heap.size ≤ (x15.alloc (.cells #[.string ⟨#[]⟩, .string ⟨#[115, 97]⟩, .string X.key] 9)).heap.size := by simp
  have H15 := H15.alloc (.cells #[.string ⟨#[]⟩, .string ⟨#[115, 97]⟩, .string X.key] 9)
  clear O7
  go_wp2_with fail
  generalize x15.alloc (.cells #[.string ⟨#[]⟩, .string ⟨#[115, 97]⟩, .string X.key] 9) = x7 at *
  refine hK.out _ _ trivial ?_
  clear hK K
  refine hC.out _ _ _ _ _ rfl (by first | rfl | go_simp) (fun K hK => ?_)
  simp only [bare]
  go_wp2_with fail
  refine (some_any B (b + 23) _ 3 [⟨#[]⟩, ⟨#[115, 97]⟩, X.key] x7 H7.row (by decide) (by decide) (by intro k hk; have := (H7.lt k hk).1; omega) D7.str (by omega)).mono ?_
  rintro e x8 ⟨s8, rfl, hs8, d8⟩
  have D8 := D7.trans d8
  have z8 := d8.size
  have m8 := smA hz hs8
  have H15 := H15.str d8.gr
  clear d8 hs8 H7
  go_wp2_with fail
  refine hK.out _ _ trivial ?_
  clear hK K
  refine hC.out _ _ _ _ _ rfl (by first | rfl | go_simp) (fun K hK => ?_)
  simp only [bare]
  go_wp2_with fail
  refine (clone_s X.pv X.ps.length X.ps 0 x8 (hp.str D8.gr).r.row (by omega)).mono ?_
  rintro e x13 ⟨v13, rfl, o13, b13⟩
  have D13 := D8.below b13
  have hb13 : B < x8.heap.size := D8.str.lt
  have hc13 : w.heap.size ≤ x8.heap.size := D8.size
  have z13 := b13.size
  have H15 := H15.under b13
  obtain ⟨p13, c13, e13⟩ := (Row.of_owns o13).shape
  subst e13
  clear b13
  go_wp2_with fail
  refine hK.out _ _ trivial ?_
  clear hK K
  refine hC.out _ _ _ _ _ rfl (by first | rfl | go_simp) (fun K hK => ?_)
  simp only [bare]
  go_wp2_with fail
  refine (some_any B (b + 24) _ 3 [⟨#[122, 122]⟩, ⟨#[]⟩, ⟨#[97]⟩] x13 H15.row (by decide) (by decide) (by intro k hk; have := (H15.lt k hk).1; omega) D13.str (by omega)).mono ?_
  rintro e x16 ⟨s16, rfl, hs16, d16⟩
  have D16 := D13.trans d16
  have z16 := d16.size
  have m16 := smB hs16
  have o13 := owns_drawn o13 d16 hb13
  clear d16 hs16 H15
  go_wp2_with fail
  refine hK.out _ _ trivial ?_
  clear hK K
  refine hC.out _ _ _ _ _ rfl (by first | rfl | go_simp) (fun K hK => ?_)
  simp only [bare]
  have D17 := D16.alloc (.cells #[.string s16] 9)
  have o13 := o13.alloc (.cells #[.string s16] 9)
  go_wp2_with fail
  refine hK.out _ _ trivial ?_
  clear hK K
  refine hC.out _ _ _ _ _ rfl (by first | rfl | go_simp) (fun K hK => ?_)
  simp only [bare]
  go_wp2_with (at_builtin; refine app_law rfl _ _ _ rfl el_str o13 rfl [.string s16] rfl rfl (cells_new x16 #[_] _) (by simp [Value.oneCell']) (by omega) (by simp; omega) ?_; intro v18 x18 o18 g18)
  have D18 := D17.app o13 hc13 hb13 g18
  obtain ⟨p18, c18, e18⟩ := (Row.of_owns o18).shape
  subst e18
  refine hK.out _ _ trivial ?_
  clear hK K
  refine hH.out _ _ _ _ _ rfl (fun K hK => ?_); go_simp; refine hK _ ?_; clear hK K
  refine hH.out _ _ _ _ _ rfl (fun K hK => ?_); go_simp; refine hK _ ?_; clear hK K
  refine hC.out _ _ _ _ _ rfl (by first | rfl | go_simp) (fun K hK => ?_)
  simp only [bare]
  have h18 := hW.drawn D18
  have u21 := (World.cell?_of_block (a := ⟨g, i.toNat * 2, none⟩) (D18.gr.block g hgl (by simpa using hgB))).trans t0
  have f21 := owns_frozenC h18.o (i.toNat * 2)
  have u24 := (World.cell?_of_block (a := ⟨g, i.toNat * 2 + 1, none⟩) (D18.gr.block g hgl (by simpa using hgB))).trans t1
  have u24 := (World.cell?_setCell_other x18 ⟨g, i.toNat * 2, none⟩ ⟨g, i.toNat * 2 + 1, none⟩ (.string s8) (by simp)).trans u24
  have f24 := owns_frozenC (owns_setC h18.o (i.toNat * 2) (by omega) (.string s8)) (i.toNat * 2 + 1)
  have HF := Lib.hid (h18.put rfl i.toNat (by omega) s8 m8 (.slice p18 (X.ps.length + 1) c18) (X.ps ++ [s16]) ⟨RHd.of_owns (by rw [cellsOf_snoc, List.length_append]; exact o18) hb13, hp.z.snoc m16, by rw [List.length_append]; simp; omega⟩)
  clear h18 o18 g18 o13 D17 D16 D13 D8 D7 D15 D18
  go_wp2_with fail
  generalize x18.setCell ⟨g, i.toNat * 2, none⟩ (.string s8) = x21 at *
  refine hK.out _ _ trivial ?_
  clear hK K
  refine hH.out _ _ _ _ _ rfl (fun K hK => ?_); go_simp; refine hK _ ?_; clear hK K
  refine hH.out _ _ _ _ _ rfl (fun K hK => ?_); go_simp; refine hK _ ?_; clear hK K
  refine hC.out _ _ _ _ _ rfl (by first | rfl | go_simp) (fun K hK => ?_)
  simp only [bare]
  go_wp2_with fail
  refine hK.out _ _ trivial ?_
  clear hK K
  refine hE_.out _ _ ?_
  clear hH hC hA_ hE_ W
  show JS _ _
  refine hS _ _ ?_
  exact ⟨_, List.length_modify _ _ _, HF.out, Fr.of _ rfl ⟨rfl, rfl, trivial⟩⟩

end Go.Proofs.Ytnmdpphddimfbaa
