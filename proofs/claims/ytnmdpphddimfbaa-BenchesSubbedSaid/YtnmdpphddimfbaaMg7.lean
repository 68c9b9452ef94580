/-
  Contracts and lemmas towards the statement, of several parts; each part says ahead of it what it holds and under which conditions.
-/
import Derived.Test.YtnmdpphddimfbaaMg5
import Derived.Test.YtnmdpphddimfbaaMg6
import Derived.Laws.StructEq
import Derived.Lib.SliceRun
import Derived.Test.YtnmdpphddimfbaaMg4
import Derived.Test.YtnmdpphddimfbaaMg1
/-
  Line-ups: fills that the stream hands out, whole. Conditions: the bounds that each theorem names.
-/
set_option linter.unusedVariables false
namespace Go.Proofs.Ytnmdpphddimfbaa
open Go.RowKit Go.Bw Go.Maps
theorem cells_putFl (s p : ByteArray) : ∀ (L : List FlD) (i : Nat), i < L.length →
    ((cellsOf encFl L).set (i * 2) (.string s)).set (i * 2 + 1) (.string p) = cellsOf encFl (L.modify i fun _ => ⟨s, p⟩)
  | [], i, h => by simp at h
  | x :: L, 0, h => by rw [cellsOf_cons]; simp [encFl, cellsOf_cons]
  | x :: L, i + 1, h => by
    have ih := cells_putFl s p L i (by simpa using h)
    rw [show (i + 1) * 2 = i * 2 + 2 by omega, show i * 2 + 2 + 1 = i * 2 + 1 + 2 by omega, cellsOf_cons]
    simp only [encFl, List.cons_append, List.nil_append, List.set_cons_succ, List.modify_succ_cons, cellsOf_cons]
    rw [ih]
theorem FlO.put {B b n c g : Nat} {w0 w : World} {S : List FlD} (h : FlO B b w0 (.slice (some ⟨g, 0, none⟩) n c) S w) (hn : n = S.length) (i : Nat) (hi : i < S.length) (s p : ByteArray) (hs : Sm s) (hp : Sm p) :
    FlO B b w0 (.slice (some ⟨g, 0, none⟩) n c) (S.modify i fun _ => ⟨s, p⟩) ((w.setCell ⟨g, i * 2, none⟩ (.string s)).setCell ⟨g, i * 2 + 1, none⟩ (.string p)) := by
  subst hn
  have hlt := (h.o.lt g rfl).1
  have hB := h.hB
  have o1 := owns_setC h.o (i * 2) (by omega) (.string s)
  have o2 := owns_setC o1 (i * 2 + 1) (by omega) (.string p)
  rw [cells_putFl s p S i hi] at o2
  refine ⟨(h.d.set _ hlt (by omega)).set _ hlt (by omega), h.hB, by rw [List.length_modify]; exact o2, fun x hx => ?_⟩
  rcases mem_mod hx with hx | ⟨y, hy, rfl⟩
  · exact h.z x hx
  · exact ⟨hs, hp⟩
theorem smFa {x s : ByteArray} (hx : Sm x) (h : s ∈ [x, x, (⟨#[122, 122]⟩ : ByteArray)]) : Sm s := by
  simp at h
  rcases h with rfl | rfl
  · exact hx
  · decide
theorem smFb {s : ByteArray} (h : s ∈ [(⟨#[97, 110, 110]⟩ : ByteArray), ⟨#[98, 101, 97]⟩, ⟨#[122, 101, 100]⟩, ⟨#[]⟩]) : Sm s := by
  simp at h
  rcases h with rfl | rfl | rfl | rfl <;> decide
set_option maxRecDepth 100000 in
set_option maxHeartbeats 1000000 in
theorem fl17 (B b : Nat) (w0 : World) (hb : b ≤ 20000) (v7 : Value) (Fs : List FlD) (hn : Fs.length ≤ 4) : T3 Try.prog (fun a w => (FlO B (b + 48) w0 v7 Fs w) ∧ Fr 105 [(0, .pointer (some ⟨B, 0, none⟩)), (7, v7)] a) (sel [1, 1, 1, 1, 0, 0] fjM) (fun a w => ∃ q, Fr 105 ((77, .bool q) :: [(0, .pointer (some ⟨B, 0, none⟩)), (7, v7)]) a ∧ ((q = true → 0 < Fs.length) ∧ FlO B (b + 49) w0 v7 Fs w)) No 9 No := by
  refine T3.leaf ?_
  rintro Q JS JX JT K hS hK hX hE hT hR a w ⟨hW, ⟨fr, rfl, q0, q7, _⟩⟩
  obtain ⟨p3, c3, hv3⟩ := (Row.of_owns hW.o).shape
  subst hv3
  by_cases hp : (0 : Int) < Fs.length
  · have hpb : decide ((0 : Int) < Fs.length) = true := by simp; omega
    rw [fr_fjM, show fr 0 = _ from q0, show fr 7 = _ from q7]
    clear q0 q7
    conv => arg 2; whnf
    go_wp2_with fail
    refine (flip_d B (b + 48) _ w hW.d.str rfl (by omega)).mono ?_
    rintro e w1 ⟨q, rfl, hd⟩
    have HW := Lib.hid (hW.drawn hd)
    clear hd hW
    go_wp2_with fail
    refine Met.intro (hS _ _ ?_)
    exact ⟨_, Fr.of _ rfl ⟨rfl, rfl, rfl, trivial⟩, fun _ => by omega, HW.out⟩
  · have hpb : decide ((0 : Int) < Fs.length) = false := decide_eq_false hp
    have HW := Lib.hid (hW.mono (Nat.add_le_add_left (by decide : 48 ≤ 49) b))
    clear hW
    rw [fr_fjM, show fr 0 = _ from q0, show fr 7 = _ from q7]
    clear q0 q7
    conv => arg 2; whnf
    go_wp2_with fail
    refine Met.intro (hS _ _ ?_)
    exact ⟨_, Fr.of _ rfl ⟨rfl, rfl, rfl, trivial⟩, (fun h => by cases h), HW.out⟩

set_option maxRecDepth 100000 in
set_option maxHeartbeats 1000000 in
theorem fl18 (B b : Nat) (w0 : World) (hb : b ≤ 20000) (v7 : Value) (Fs : List FlD) (hn : Fs.length ≤ 4) (hpos : 0 < Fs.length) (g : Nat) (c : Nat) : T3 Try.prog (fun a w => (FlO B (b + 49) w0 (.slice (some ⟨g, 0, none⟩) Fs.length c) Fs w) ∧ Fr 105 [(0, .pointer (some ⟨B, 0, none⟩)), (7, .slice (some ⟨g, 0, none⟩) Fs.length c)] a) (sel [1, 1, 1, 1, 0, 1, 2, 0] fjM) (fun a w => ∃ (i : Int), (0 ≤ i ∧ i < Fs.length) ∧ (FlO B (b + 50) w0 (.slice (some ⟨g, 0, none⟩) Fs.length c) Fs w) ∧ Fr 105 [(0, .pointer (some ⟨B, 0, none⟩)), (7, .slice (some ⟨g, 0, none⟩) Fs.length c), (15, .pointer (some ⟨g, i.toNat * 2, none⟩))] a) No 9 No := by
  refine T3.leaf ?_
  rintro Q JS JX JT K hS hK hX hE hT hR a w ⟨hW, ⟨fr, rfl, q0, q7, _⟩⟩
  rw [fr_fjM, show fr 0 = _ from q0, show fr 7 = _ from q7]
  clear q0 q7
  conv => arg 2; whnf
  go_wp2_with fail
  refine (next_d B (b + 49) Fs.length w hW.d.str (by omega) (by omega) (by omega)).mono ?_
  rintro e w1 ⟨i, rfl, hi0, hi1, hd⟩
  have HW := Lib.hid (hW.drawn hd)
  clear hd hW
  go_wp2_with fail
  refine Met.intro (hS _ _ ?_)
  exact ⟨i, ⟨hi0, hi1⟩, HW.out, Fr.of _ rfl ⟨rfl, rfl, rfl, trivial⟩⟩

set_option maxRecDepth 100000 in
set_option maxHeartbeats 1000000 in
theorem fl19 (B b : Nat) (w0 : World) (hb : b ≤ 20000) (v7 : Value) (Fs : List FlD) (hn : Fs.length ≤ 4) (hpos : 0 < Fs.length) (g : Nat) (c : Nat) (i : Int) (hi : 0 ≤ i ∧ i < Fs.length) : T3 Try.prog (fun a w => (FlO B (b + 50) w0 (.slice (some ⟨g, 0, none⟩) Fs.length c) Fs w) ∧ Fr 105 [(0, .pointer (some ⟨B, 0, none⟩)), (7, .slice (some ⟨g, 0, none⟩) Fs.length c), (15, .pointer (some ⟨g, i.toNat * 2, none⟩))] a) (sel [1, 1, 1, 1, 0, 1, 2, 1] fjM) (fun a w => ∃ (Fs' : List FlD), (Fs'.length = Fs.length) ∧ (FlO B (b + 52) w0 (.slice (some ⟨g, 0, none⟩) Fs.length c) Fs' w) ∧ Fr 105 [(7, .slice (some ⟨g, 0, none⟩) Fs.length c)] a) No 9 No := by
  refine T3.leafN ?_
  rintro JS hS a w ⟨hW, ⟨fr, rfl, q0, q7, q15, _⟩⟩
  obtain ⟨hi0, hi1⟩ := hi
  obtain ⟨g', c', hv3, _, _, hn3, hm3⟩ := owns_shape hW.o (by omega)
  simp only [Value.slice.injEq, Option.some.injEq, Addr.mk.injEq] at hv3
  obtain ⟨⟨rfl, _⟩, _, rfl⟩ := hv3
  simp only [maxLen] at hm3
  obtain ⟨bz, off, hp, _, _, hcell⟩ := Row.nonnil ((Row.of_owns hW.o).mono (Nat.zero_le _)) (by omega)
  simp only [Option.some.injEq, Addr.mk.injEq] at hp
  obtain ⟨rfl, rfl, _⟩ := hp
  have t0 := Row.elAt encFl_length hcell hi0 (by omega) 0 _ (by decide) rfl
  have t1 := Row.elAt encFl_length hcell hi0 (by omega) 1 _ (by decide) rfl
  rw [Nat.zero_add] at t0 t1
  rw [Nat.add_zero] at t0
  have hz := hW.z _ (geta_mem hi0 (show i < Fs.length by omega))
  clear hcell
  generalize geta Fs i = X at *
  have D0 : Drawn B w w.drew (b + 50) := (Drawn.refl hW.d.str).drewN 1
  have hlB := hW.d.str.lt
  have hgl := (hW.o.lt g rfl).2
  have hgB : g ≠ B := by have := (hW.o.lt g rfl).1; have := hW.hB; omega
  clear hn
  rw [fr_fjM, show fr 0 = _ from q0, show fr 7 = _ from q7, show fr 15 = _ from q15]
  clear q0 q7 q15
  conv => arg 2; whnf
  refine wp_region_alt (fun _ => True) (.calm 0 (.calm 1 (.calm 2 (.calm 3 (.calm 4 (.calm 5 (.calm 7 (.calm 8 (.calm 9 (.calm 13 (.alt 6 (.alt 10 (.alt 11 (.alt 12 (.one 14 (.one 15 (.calm 16 (.calm 17 (.one 18 (.calm 19 (.calm 20 (.one 21 .done)))))))) (.one 14 (.one 12 (.one 15 (.calm 16 (.calm 17 (.one 18 (.calm 19 (.calm 20 (.one 21 .done)))))))))) (.one 14 (.one 11 (.one 12 (.one 15 (.calm 16 (.calm 17 (.one 18 (.calm 19 (.calm 20 (.one 21 .done))))))))))) (.one 14 (.one 10 (.one 11 (.one 12 (.one 15 (.calm 16 (.calm 17 (.one 18 (.calm 19 (.calm 20 (.one 21 .done)))))))))))) (.alt 10 (.alt 6 (.alt 11 (.alt 12 (.one 14 (.one 15 (.calm 16 (.calm 17 (.one 18 (.calm 19 (.calm 20 (.one 21 .done)))))))) (.one 14 (.one 12 (.one 15 (.calm 16 (.calm 17 (.one 18 (.calm 19 (.calm 20 (.one 21 .done)))))))))) (.one 14 (.one 11 (.one 12 (.one 15 (.calm 16 (.calm 17 (.one 18 (.calm 19 (.calm 20 (.one 21 .done))))))))))) (.one 14 (.one 6 (.one 11 (.one 12 (.one 15 (.calm 16 (.calm 17 (.one 18 (.calm 19 (.calm 20 (.one 21 .done)))))))))))) (.one 14 (.alt 6 (.one 10 (.one 11 (.one 12 (.one 15 (.calm 16 (.calm 17 (.one 18 (.calm 19 (.calm 20 (.one 21 .done)))))))))) (.one 10 (.one 6 (.one 11 (.one 12 (.one 15 (.calm 16 (.calm 17 (.one 18 (.calm 19 (.calm 20 (.one 21 .done))))))))))))))))))))))))) (by kernel_rfl) (by kernel_rfl) (by intro c a d v w h; cases d <;> exact h) (trivial) ?_
  generalize w.drew = x0 at *
  refine alt_hide (w₁ := x0) (fun W hH hC hA_ hE_ => ?_)
  refine hH.out _ _ _ _ _ rfl (fun K hK => ?_); go_simp; refine hK _ ?_; clear hK K
  refine hH.out _ _ _ _ _ rfl (fun K hK => ?_); go_simp; refine hK _ ?_; clear hK K
  refine hH.out _ _ _ _ _ rfl (fun K hK => ?_); go_simp; refine hK _ ?_; clear hK K
  refine hH.out _ _ _ _ _ rfl (fun K hK => ?_); go_simp; refine hK _ ?_; clear hK K
  refine hH.out _ _ _ _ _ rfl (fun K hK => ?_); go_simp; refine hK _ ?_; clear hK K
  refine hH.out _ _ _ _ _ rfl (fun K hK => ?_); go_simp; refine hK _ ?_; clear hK K
  refine hH.out _ _ _ _ _ rfl (fun K hK => ?_); go_simp; refine hK _ ?_; clear hK K
  refine hH.out _ _ _ _ _ rfl (fun K hK => ?_); go_simp; refine hK _ ?_; clear hK K
  refine hH.out _ _ _ _ _ rfl (fun K hK => ?_); go_simp; refine hK _ ?_; clear hK K
  refine hH.out _ _ _ _ _ rfl (fun K hK => ?_); go_simp; refine hK _ ?_; clear hK K
  refine hA_.out _ _ _ _ _ ?_ ?_
  · refine hC.out _ _ _ _ _ rfl (by first | rfl | go_simp) (fun K hK => ?_)
    simp only [bare]
    have u6 := (World.cell?_of_block (a := ⟨g, i.toNat * 2, none⟩) (D0.gr.block g hgl (by simpa using hgB))).trans t0
    go_wp2_with fail
    clear u6
    refine hK.out _ _ trivial ?_
    clear hK K
    refine hA_.out _ _ _ _ _ ?_ ?_
    · refine hC.out _ _ _ _ _ rfl (by first | rfl | go_simp) (fun K hK => ?_)
      simp only [bare]
      have u10 := (World.cell?_of_block (a := ⟨g, i.toNat * 2, none⟩) (D0.gr.block g hgl (by simpa using hgB))).trans t0
      go_wp2_with fail
      clear u10
      refine hK.out _ _ trivial ?_
      clear hK K
      refine hA_.out _ _ _ _ _ ?_ ?_
      · refine hC.out _ _ _ _ _ rfl (by first | rfl | go_simp) (fun K hK => ?_)
        simp only [bare]
        have O11 := owns_lit x0 x0.heap.size 9 #[.string X.sl, .string X.sl, .string ⟨#[122, 122]⟩] 3 (by decide) rfl (Nat.le_refl _)
        have D11 : Drawn B w (x0.alloc (.cells #[.string X.sl, .string X.sl, .string ⟨#[122, 122]⟩] 9)) (b + 50) := D0.alloc _
        have H11 : RHd 9 B (x0.alloc (.cells #[.string X.sl, .string X.sl, .string ⟨#[122, 122]⟩] 9)).heap.size (x0.alloc (.cells #[.string X.sl, .string X.sl, .string ⟨#[122, 122]⟩] 9)) 3 (.slice (some ⟨x0.heap.size, 0, none⟩) 3 3) (cellsOf encSt [X.sl, X.sl, ⟨#[122, 122]⟩]) := RHd.of_owns O11 D0.str.lt
        have z11 : x0.heap.size ≤ (x0.alloc (.cells #[.string X.sl, .string X.sl, .string ⟨#[122, 122]⟩] 9)).heap.size := by simp
        clear O11
        go_wp2_with fail
        generalize x0.alloc (.cells #[.string X.sl, .string X.sl, .string ⟨#[122, 122]⟩] 9) = x11 at *
        refine hK.out _ _ trivial ?_
        clear hK K
        refine hA_.out _ _ _ _ _ ?_ ?_
        · refine hC.out _ _ _ _ _ rfl (by first | rfl | go_simp) (fun K hK => ?_)
          simp only [bare]
          go_wp2_with fail
          refine (some_any B (b + 50) _ 3 [X.sl, X.sl, ⟨#[122, 122]⟩] x11 H11.row (by decide) (by decide) (by intro k hk; have := (H11.lt k hk).1; omega) D11.str (by omega)).mono ?_
          rintro e x12 ⟨s12, rfl, hs12, d12⟩
          have D12 := D11.trans d12
          have z12 := d12.size
          have m12 := smFa hz.1 hs12
          clear d12 hs12 H11
          go_wp2_with fail
          refine hK.out _ _ trivial ?_
          clear hK K
          refine hC.out _ _ _ _ _ rfl (by first | rfl | go_simp) (fun K hK => ?_)
          simp only [bare]
          have O14 := owns_lit x12 x12.heap.size 9 #[.string ⟨#[97, 110, 110]⟩, .string ⟨#[98, 101, 97]⟩, .string ⟨#[122, 101, 100]⟩, .string ⟨#[]⟩] 4 (by decide) rfl (Nat.le_refl _)
          have D14 : Drawn B w (x12.alloc (.cells #[.string ⟨#[97, 110, 110]⟩, .string ⟨#[98, 101, 97]⟩, .string ⟨#[122, 101, 100]⟩, .string ⟨#[]⟩] 9)) (b + 51) := D12.alloc _
          have H14 : RHd 9 B (x12.alloc (.cells #[.string ⟨#[97, 110, 110]⟩, .string ⟨#[98, 101, 97]⟩, .string ⟨#[122, 101, 100]⟩, .string ⟨#[]⟩] 9)).heap.size (x12.alloc (.cells #[.string ⟨#[97, 110, 110]⟩, .string ⟨#[98, 101, 97]⟩, .string ⟨#[122, 101, 100]⟩, .string ⟨#[]⟩] 9)) 4 (.slice (some ⟨x12.heap.size, 0, none⟩) 4 4) (cellsOf encSt [⟨#[97, 110, 110]⟩, ⟨#[98, 101, 97]⟩, ⟨#[122, 101, 100]⟩, ⟨#[]⟩]) := RHd.of_owns O14 D12.str.lt
          have z14 : x12.heap.size ≤ (x12.alloc (.cells #[.string ⟨#[97, 110, 110]⟩, .string ⟨#[98, 101, 97]⟩, .string ⟨#[122, 101, 100]⟩, .string ⟨#[]⟩] 9)).heap.size := by simp
          clear O14
          go_wp2_with fail
          generalize x12.alloc (.cells #[.string ⟨#[97, 110, 110]⟩, .string ⟨#[98, 101, 97]⟩, .string ⟨#[122, 101, 100]⟩, .string ⟨#[]⟩] 9) = x14 at *
          refine hK.out _ _ trivial ?_
          clear hK K
          refine hC.out _ _ _ _ _ rfl (by first | rfl | go_simp) (fun K hK => ?_)
          simp only [bare]
          go_wp2_with fail
          refine (some_any B (b + 51) _ 4 [⟨#[97, 110, 110]⟩, ⟨#[98, 101, 97]⟩, ⟨#[122, 101, 100]⟩, ⟨#[]⟩] x14 H14.row (by decide) (by decide) (by intro k hk; have := (H14.lt k hk).1; omega) D14.str (by omega)).mono ?_
          rintro e x15 ⟨s15, rfl, hs15, d15⟩
          have D15 := D14.trans d15
          have z15 := d15.size
          have m15 := smFb hs15
          clear d15 hs15 H14
          go_wp2_with fail
          refine hK.out _ _ trivial ?_
          clear hK K
          refine hH.out _ _ _ _ _ rfl (fun K hK => ?_); go_simp; refine hK _ ?_; clear hK K
          refine hH.out _ _ _ _ _ rfl (fun K hK => ?_); go_simp; refine hK _ ?_; clear hK K
          refine hC.out _ _ _ _ _ rfl (by first | rfl | go_simp) (fun K hK => ?_)
          simp only [bare]
          have h15 := hW.drawn D15
          have u18 := (World.cell?_of_block (a := ⟨g, i.toNat * 2, none⟩) (D15.gr.block g hgl (by simpa using hgB))).trans t0
          have f18 := owns_frozenC h15.o (i.toNat * 2)
          have u21 := (World.cell?_of_block (a := ⟨g, i.toNat * 2 + 1, none⟩) (D15.gr.block g hgl (by simpa using hgB))).trans t1
          have u21 := (World.cell?_setCell_other x15 ⟨g, i.toNat * 2, none⟩ ⟨g, i.toNat * 2 + 1, none⟩ (.string s12) (by simp)).trans u21
          have f21 := owns_frozenC (owns_setC h15.o (i.toNat * 2) (by omega) (.string s12)) (i.toNat * 2 + 1)
          have HF := Lib.hid (h15.put rfl i.toNat (by omega) s12 s15 m12 m15)
          clear h15 D15 D14 D12 D11
          go_wp2_with fail
          generalize x15.setCell ⟨g, i.toNat * 2, none⟩ (.string s12) = x18 at *
          refine hK.out _ _ trivial ?_
          clear hK K
          refine hH.out _ _ _ _ _ rfl (fun K hK => ?_); go_simp; refine hK _ ?_; clear hK K
          refine hH.out _ _ _ _ _ rfl (fun K hK => ?_); go_simp; refine hK _ ?_; clear hK K
          refine hC.out _ _ _ _ _ rfl (by first | rfl | go_simp) (fun K hK => ?_)
          simp only [bare]
          go_wp2_with fail
          refine hK.out _ _ trivial ?_
          clear hK K
          refine hE_.out _ _ ?_
          clear hH hC hA_ hE_ W
          show JS _ _
          refine hS _ _ ?_
          exact ⟨_, List.length_modify _ _ _, HF.out, Fr.of _ rfl ⟨rfl, trivial⟩⟩
        refine hC.out _ _ _ _ _ rfl (by first | rfl | go_simp) (fun K hK => ?_)
        simp only [bare]
        have O14 := owns_lit x11 x11.heap.size 9 #[.string ⟨#[97, 110, 110]⟩, .string ⟨#[98, 101, 97]⟩, .string ⟨#[122, 101, 100]⟩, .string ⟨#[]⟩] 4 (by decide) rfl (Nat.le_refl _)
        have D14 : Drawn B w (x11.alloc (.cells #[.string ⟨#[97, 110, 110]⟩, .string ⟨#[98, 101, 97]⟩, .string ⟨#[122, 101, 100]⟩, .string ⟨#[]⟩] 9)) (b + 50) := D11.alloc _
        have H14 : RHd 9 B (x11.alloc (.cells #[.string ⟨#[97, 110, 110]⟩, .string ⟨#[98, 101, 97]⟩, .string ⟨#[122, 101, 100]⟩, .string ⟨#[]⟩] 9)).heap.size (x11.alloc (.cells #[.string ⟨#[97, 110, 110]⟩, .string ⟨#[98, 101, 97]⟩, .string ⟨#[122, 101, 100]⟩, .string ⟨#[]⟩] 9)) 4 (.slice (some ⟨x11.heap.size, 0, none⟩) 4 4) (cellsOf encSt [⟨#[97, 110, 110]⟩, ⟨#[98, 101, 97]⟩, ⟨#[122, 101, 100]⟩, ⟨#[]⟩]) := RHd.of_owns O14 D11.str.lt
        have z14 : x11.heap.size ≤ (x11.alloc (.cells #[.string ⟨#[97, 110, 110]⟩, .string ⟨#[98, 101, 97]⟩, .string ⟨#[122, 101, 100]⟩, .string ⟨#[]⟩] 9)).heap.size := by simp
        have H11 := H11.alloc (.cells #[.string ⟨#[97, 110, 110]⟩, .string ⟨#[98, 101, 97]⟩, .string ⟨#[122, 101, 100]⟩, .string ⟨#[]⟩] 9)
        clear O14
        go_wp2_with fail
        generalize x11.alloc (.cells #[.string ⟨#[97, 110, 110]⟩, .string ⟨#[98, 101, 97]⟩, .string ⟨#[122, 101, 100]⟩, .string ⟨#[]⟩] 9) = x14 at *
        refine hK.out _ _ trivial ?_
        clear hK K
        refine hC.out _ _ _ _ _ rfl (by first | rfl | go_simp) (fun K hK => ?_)
        simp only [bare]
        go_wp2_with fail
        refine (some_any B (b + 50) _ 3 [X.sl, X.sl, ⟨#[122, 122]⟩] x14 H11.row (by decide) (by decide) (by intro k hk; have := (H11.lt k hk).1; omega) D14.str (by omega)).mono ?_
        rintro e x12 ⟨s12, rfl, hs12, d12⟩
        have D12 := D14.trans d12
        have z12 := d12.size
        have m12 := smFa hz.1 hs12
        have H14 := H14.str d12.gr
        clear d12 hs12 H11
        go_wp2_with fail
        refine hK.out _ _ trivial ?_
        clear hK K
        refine hC.out _ _ _ _ _ rfl (by first | rfl | go_simp) (fun K hK => ?_)
        simp only [bare]
        go_wp2_with fail
        refine (some_any B (b + 51) _ 4 [⟨#[97, 110, 110]⟩, ⟨#[98, 101, 97]⟩, ⟨#[122, 101, 100]⟩, ⟨#[]⟩] x12 H14.row (by decide) (by decide) (by intro k hk; have := (H14.lt k hk).1; omega) D12.str (by omega)).mono ?_
        rintro e x15 ⟨s15, rfl, hs15, d15⟩
        have D15 := D12.trans d15
        have z15 := d15.size
        have m15 := smFb hs15
        clear d15 hs15 H14
        go_wp2_with fail
        refine hK.out _ _ trivial ?_
        clear hK K
        refine hH.out _ _ _ _ _ rfl (fun K hK => ?_); go_simp; refine hK _ ?_; clear hK K
        refine hH.out _ _ _ _ _ rfl (fun K hK => ?_); go_simp; refine hK _ ?_; clear hK K
        refine hC.out _ _ _ _ _ rfl (by first | rfl | go_simp) (fun K hK => ?_)
        simp only [bare]
        have h15 := hW.drawn D15
        have u18 := (World.cell?_of_block (a := ⟨g, i.toNat * 2, none⟩) (D15.gr.block g hgl (by simpa using hgB))).trans t0
        have f18 := owns_frozenC h15.o (i.toNat * 2)
        have u21 := (World.cell?_of_block (a := ⟨g, i.toNat * 2 + 1, none⟩) (D15.gr.block g hgl (by simpa using hgB))).trans t1
        have u21 := (World.cell?_setCell_other x15 ⟨g, i.toNat * 2, none⟩ ⟨g, i.toNat * 2 + 1, none⟩ (.string s12) (by simp)).trans u21
        have f21 := owns_frozenC (owns_setC h15.o (i.toNat * 2) (by omega) (.string s12)) (i.toNat * 2 + 1)
        have HF := Lib.hid (h15.put rfl i.toNat (by omega) s12 s15 m12 m15)
        clear h15 D15 D14 D12 D11
        go_wp2_with fail
        generalize x15.setCell ⟨g, i.toNat * 2, none⟩ (.string s12) = x18 at *
        refine hK.out _ _ trivial ?_
        clear hK K
        refine hH.out _ _ _ _ _ rfl (fun K hK => ?_); go_simp; refine hK _ ?_; clear hK K
        refine hH.out _ _ _ _ _ rfl (fun K hK => ?_); go_simp; refine hK _ ?_; clear hK K
        refine hC.out _ _ _ _ _ rfl (by first | rfl | go_simp) (fun K hK => ?_)
        simp only [bare]
        go_wp2_with fail
        refine hK.out _ _ trivial ?_
        clear hK K
        refine hE_.out _ _ ?_
        clear hH hC hA_ hE_ W
        show JS _ _
        refine hS _ _ ?_
        exact ⟨_, List.length_modify _ _ _, HF.out, Fr.of _ rfl ⟨rfl, trivial⟩⟩
      refine hC.out _ _ _ _ _ rfl (by first | rfl | go_simp) (fun K hK => ?_)
      simp only [bare]
      have O14 := owns_lit x0 x0.heap.size 9 #[.string ⟨#[97, 110, 110]⟩, .string ⟨#[98, 101, 97]⟩, .string ⟨#[122, 101, 100]⟩, .string ⟨#[]⟩] 4 (by decide) rfl (Nat.le_refl _)
      have D14 : Drawn B w (x0.alloc (.cells #[.string ⟨#[97, 110, 110]⟩, .string ⟨#[98, 101, 97]⟩, .string ⟨#[122, 101, 100]⟩, .string ⟨#[]⟩] 9)) (b + 50) := D0.alloc _
      have H14 : RHd 9 B (x0.alloc (.cells #[.string ⟨#[97, 110, 110]⟩, .string ⟨#[98, 101, 97]⟩, .string ⟨#[122, 101, 100]⟩, .string ⟨#[]⟩] 9)).heap.size (x0.alloc (.cells #[.string ⟨#[97, 110, 110]⟩, .string ⟨#[98, 101, 97]⟩, .string ⟨#[122, 101, 100]⟩, .string ⟨#[]⟩] 9)) 4 (.slice (some ⟨x0.heap.size, 0, none⟩) 4 4) (cellsOf encSt [⟨#[97, 110, 110]⟩, ⟨#[98, 101, 97]⟩, ⟨#[122, 101, 100]⟩, ⟨#[]⟩]) := RHd.of_owns O14 D0.str.lt
      have z14 : x0.heap.size ≤ (x0.alloc (.cells #[.string ⟨#[97, 110, 110]⟩, .string ⟨#[98, 101, 97]⟩, .string ⟨#[122, 101, 100]⟩, .string ⟨#[]⟩] 9)).heap.size := by simp
      clear O14
      go_wp2_with fail
      generalize x0.alloc (.cells #[.string ⟨#[97, 110, 110]⟩, .string ⟨#[98, 101, 97]⟩, .string ⟨#[122, 101, 100]⟩, .string ⟨#[]⟩] 9) = x14 at *
      refine hK.out _ _ trivial ?_
      clear hK K
      refine hC.out _ _ _ _ _ rfl (by first | rfl | go_simp) (fun K hK => ?_)
      simp only [bare]
      have O11 := owns_lit x14 x14.heap.size 9 #[.string X.sl, .string X.sl, .string ⟨#[122, 122]⟩] 3 (by decide) rfl (Nat.le_refl _)
      have D11 : Drawn B w (x14.alloc (.cells #[.string X.sl, .string X.sl, .string ⟨#[122, 122]⟩] 9)) (b + 50) := D14.alloc _
      have H11 : RHd 9 B (x14.alloc (.cells #[.string X.sl, .string X.sl, .string ⟨#[122, 122]⟩] 9)).heap.size (x14.alloc (.cells #[.string X.sl, .string X.sl, .string ⟨#[122, 122]⟩] 9)) 3 (.slice (some ⟨x14.heap.size, 0, none⟩) 3 3) (cellsOf encSt [X.sl, X.sl, ⟨#[122, 122]⟩]) := RHd.of_owns O11 D14.str.lt
      have z11 : x14.heap.size ≤ (x14.alloc (.cells #[.string X.sl, .string X.sl, .string ⟨#[122, 122]⟩] 9)).heap.size := by simp
      have H14 := H14.alloc (.cells #[.string X.sl, .string X.sl, .string ⟨#[122, 122]⟩] 9)
      clear O11
      go_wp2_with fail
      generalize x14.alloc (.cells #[.string X.sl, .string X.sl, .string ⟨#[122, 122]⟩] 9) = x11 at *
      refine hK.out _ _ trivial ?_
      clear hK K
      refine hC.out _ _ _ _ _ rfl (by first | rfl | go_simp) (fun K hK => ?_)
      simp only [bare]
      go_wp2_with fail
      refine (some_any B (b + 50) _ 3 [X.sl, X.sl, ⟨#[122, 122]⟩] x11 H11.row (by decide) (by decide) (by intro k hk; have := (H11.lt k hk).1; omega) D11.str (by omega)).mono ?_
      rintro e x12 ⟨s12, rfl, hs12, d12⟩
      have D12 := D11.trans d12
      have z12 := d12.size
      have m12 := smFa hz.1 hs12
      have H14 := H14.str d12.gr
      clear d12 hs12 H11
      go_wp2_with fail
      refine hK.out _ _ trivial ?_
      clear hK K
      refine hC.out _ _ _ _ _ rfl (by first | rfl | go_simp) (fun K hK => ?_)
      simp only [bare]
      go_wp2_with fail
      refine (some_any B (b + 51) _ 4 [⟨#[97, 110, 110]⟩, ⟨#[98, 101, 97]⟩, ⟨#[122, 101, 100]⟩, ⟨#[]⟩] x12 H14.row (by decide) (by decide) (by intro k hk; have := (H14.lt k hk).1; omega) D12.str (by omega)).mono ?_
      rintro e x15 ⟨s15, rfl, hs15, d15⟩
      have D15 := D12.trans d15
      have z15 := d15.size
      have m15 := smFb hs15
      clear d15 hs15 H14
      go_wp2_with fail
      refine hK.out _ _ trivial ?_
      clear hK K
      refine hH.out _ _ _ _ _ rfl (fun K hK => ?_); go_simp; refine hK _ ?_; clear hK K
      refine hH.out _ _ _ _ _ rfl (fun K hK => ?_); go_simp; refine hK _ ?_; clear hK K
      refine hC.out _ _ _ _ _ rfl (by first | rfl | go_simp) (fun K hK => ?_)
      simp only [bare]
      have h15 := hW.drawn D15
      have u18 := (World.cell?_of_block (a := ⟨g, i.toNat * 2, none⟩) (D15.gr.block g hgl (by simpa using hgB))).trans t0
      have f18 := owns_frozenC h15.o (i.toNat * 2)
      have u21 := (World.cell?_of_block (a := ⟨g, i.toNat * 2 + 1, none⟩) (D15.gr.block g hgl (by simpa using hgB))).trans t1
      have u21 := (World.cell?_setCell_other x15 ⟨g, i.toNat * 2, none⟩ ⟨g, i.toNat * 2 + 1, none⟩ (.string s12) (by simp)).trans u21
      have f21 := owns_frozenC (owns_setC h15.o (i.toNat * 2) (by omega) (.string s12)) (i.toNat * 2 + 1)
      have HF := Lib.hid (h15.put rfl i.toNat (by omega) s12 s15 m12 m15)
      clear h15 D15 D14 D12 D11
      go_wp2_with fail
      generalize x15.setCell ⟨g, i.toNat * 2, none⟩ (.string s12) = x18 at *
      refine hK.out _ _ trivial ?_
      clear hK K
      refine hH.out _ _ _ _ _ rfl (fun K hK => ?_); go_simp; refine hK _ ?_; clear hK K
      refine hH.out _ _ _ _ _ rfl (fun K hK => ?_); go_simp; refine hK _ ?_; clear hK K
      refine hC.out _ _ _ _ _ rfl (by first | rfl | go_simp) (fun K hK => ?_)
      simp only [bare]
      go_wp2_with fail
      refine hK.out _ _ trivial ?_
      clear hK K
      refine hE_.out _ _ ?_
      clear hH hC hA_ hE_ W
      show JS _ _
      refine hS _ _ ?_
      exact ⟨_, List.length_modify _ _ _, HF.out, Fr.of _ rfl ⟨rfl, trivial⟩⟩
    refine hC.out _ _ _ _ _ rfl (by first | rfl | go_simp) (fun K hK => ?_)
    simp only [bare]
    have O14 := owns_lit x0 x0.heap.size 9 #[.string ⟨#[97, 110, 110]⟩, .string ⟨#[98, 101, 97]⟩, .string ⟨#[122, 101, 100]⟩, .string ⟨#[]⟩] 4 (by decide) rfl (Nat.le_refl _)
    have D14 : Drawn B w (x0.alloc (.cells #[.string ⟨#[97, 110, 110]⟩, .string ⟨#[98, 101, 97]⟩, .string ⟨#[122, 101, 100]⟩, .string ⟨#[]⟩] 9)) (b + 50) := D0.alloc _
    have H14 : RHd 9 B (x0.alloc (.cells #[.string ⟨#[97, 110, 110]⟩, .string ⟨#[98, 101, 97]⟩, .string ⟨#[122, 101, 100]⟩, .string ⟨#[]⟩] 9)).heap.size (x0.alloc (.cells #[.string ⟨#[97, 110, 110]⟩, .string ⟨#[98, 101, 97]⟩, .string ⟨#[122, 101, 100]⟩, .string ⟨#[]⟩] 9)) 4 (.slice (some ⟨x0.heap.size, 0, none⟩) 4 4) (cellsOf encSt [⟨#[97, 110, 110]⟩, ⟨#[98, 101, 97]⟩, ⟨#[122, 101, 100]⟩, ⟨#[]⟩]) := RHd.of_owns O14 D0.str.lt
    have z14 : x0.heap.size ≤ (x0.alloc (.cells #[.string ⟨#[97, 110, 110]⟩, .string ⟨#[98, 101, 97]⟩, .string ⟨#[122, 101, 100]⟩, .string ⟨#[]⟩] 9)).heap.size := by simp
    clear O14
    go_wp2_with fail
    generalize x0.alloc (.cells #[.string ⟨#[97, 110, 110]⟩, .string ⟨#[98, 101, 97]⟩, .string ⟨#[122, 101, 100]⟩, .string ⟨#[]⟩] 9) = x14 at *
    refine hK.out _ _ trivial ?_
    clear hK K
    refine hC.out _ _ _ _ _ rfl (by first | rfl | go_simp) (fun K hK => ?_)
    simp only [bare]
    have u10 := (World.cell?_of_block (a := ⟨g, i.toNat * 2, none⟩) (D14.gr.block g hgl (by simpa using hgB))).trans t0
    go_wp2_with fail
    clear u10
    refine hK.out _ _ trivial ?_
    clear hK K
    refine hC.out _ _ _ _ _ rfl (by first | rfl | go_simp) (fun K hK => ?_)
    simp only [bare]
    have O11 := owns_lit x14 x14.heap.size 9 #[.string X.sl, .string X.sl, .string ⟨#[122, 122]⟩] 3 (by decide) rfl (Nat.le_refl _)
    have D11 : Drawn B w (x14.alloc (.cells #[.string X.sl, .string X.sl, .string ⟨#[122, 122]⟩] 9)) (b + 50) := D14.alloc _
    have H11 : RHd 9 B (x14.alloc (.cells #[.string X.sl, .string X.sl, .string ⟨#[122, 122]⟩] 9)).heap.size (x14.alloc (.cells #[.string X.sl, .string X.sl, .string ⟨#[122, 122]⟩] 9)) 3 (.slice (some ⟨x14.heap.size, 0, none⟩) 3 3) (cellsOf encSt [X.sl, X.sl, ⟨#[122, 122]⟩]) := RHd.of_owns O11 D14.str.lt
    have z11 : x14.heap.size ≤ (x14.alloc (.cells #[.string X.sl, .string X.sl, .string ⟨#[122, 122]⟩] 9)).heap.size := by simp
    have H14 := H14.alloc (.cells #[.string X.sl, .string X.sl, .string ⟨#[122, 122]⟩] 9)
    clear O11
    go_wp2_with fail
    generalize x14.alloc (.cells #[.string X.sl, .string X.sl, .string ⟨#[122, 122]⟩] 9) = x11 at *
    refine hK.out _ _ trivial ?_
    clear hK K
    refine hC.out _ _ _ _ _ rfl (by first | rfl | go_simp) (fun K hK => ?_)
    simp only [bare]
    go_wp2_with fail
    refine (some_any B (b + 50) _ 3 [X.sl, X.sl, ⟨#[122, 122]⟩] x11 H11.row (by decide) (by decide) (by intro k hk; have := (H11.lt k hk).1; omega) D11.str (by omega)).mono ?_
    rintro e x12 ⟨s12, rfl, hs12, d12⟩
    have D12 := D11.trans d12
    have z12 := d12.size
    have m12 := smFa hz.1 hs12
    have H14 := H14.str d12.gr
    clear d12 hs12 H11
    go_wp2_with fail
    refine hK.out _ _ trivial ?_
    clear hK K
    refine hC.out _ _ _ _ _ rfl (by first | rfl | go_simp) (fun K hK => ?_)
    simp only [bare]
    go_wp2_with fail
    refine (some_any B (b + 51) _ 4 [⟨#[97, 110, 110]⟩, ⟨#[98, 101, 97]⟩, ⟨#[122, 101, 100]⟩, ⟨#[]⟩] x12 H14.row (by decide) (by decide) (by intro k hk; have := (H14.lt k hk).1; omega) D12.str (by omega)).mono ?_
    rintro e x15 ⟨s15, rfl, hs15, d15⟩
    have D15 := D12.trans d15
    have z15 := d15.size
    have m15 := smFb hs15
    clear d15 hs15 H14
    go_wp2_with fail
    refine hK.out _ _ trivial ?_
    clear hK K
    refine hH.out _ _ _ _ _ rfl (fun K hK => ?_); go_simp; refine hK _ ?_; clear hK K
    refine hH.out _ _ _ _ _ rfl (fun K hK => ?_); go_simp; refine hK _ ?_; clear hK K
    refine hC.out _ _ _ _ _ rfl (by first | rfl | go_simp) (fun K hK => ?_)
    simp only [bare]
    have h15 := hW.drawn D15
    have u18 := (World.cell?_of_block (a := ⟨g, i.toNat * 2, none⟩) (D15.gr.block g hgl (by simpa using hgB))).trans t0
    have f18 := owns_frozenC h15.o (i.toNat * 2)
    have u21 := (World.cell?_of_block (a := ⟨g, i.toNat * 2 + 1, none⟩) (D15.gr.block g hgl (by simpa using hgB))).trans t1
    have u21 := (World.cell?_setCell_other x15 ⟨g, i.toNat * 2, none⟩ ⟨g, i.toNat * 2 + 1, none⟩ (.string s12) (by simp)).trans u21
    have f21 := owns_frozenC (owns_setC h15.o (i.toNat * 2) (by omega) (.string s12)) (i.toNat * 2 + 1)
    have HF := Lib.hid (h15.put rfl i.toNat (by omega) s12 s15 m12 m15)
    clear h15 D15 D14 D12 D11
    go_wp2_with fail
    generalize x15.setCell ⟨g, i.toNat * 2, none⟩ (.string s12) = x18 at *
    refine hK.out _ _ trivial ?_
    clear hK K
    refine hH.out _ _ _ _ _ rfl (fun K hK => ?_); go_simp; refine hK _ ?_; clear hK K
    refine hH.out _ _ _ _ _ rfl (fun K hK => ?_); go_simp; refine hK _ ?_; clear hK K
    refine hC.out _ _ _ _ _ rfl (by first | rfl | go_simp) (fun K hK => ?_)
    simp only [bare]
    go_wp2_with fail
    refine hK.out _ _ trivial ?_
    clear hK K
    refine hE_.out _ _ ?_
    clear hH hC hA_ hE_ W
    show JS _ _
    refine hS _ _ ?_
    exact ⟨_, List.length_modify _ _ _, HF.out, Fr.of _ rfl ⟨rfl, trivial⟩⟩
  refine hA_.out _ _ _ _ _ ?_ ?_
  · refine hC.out _ _ _ _ _ rfl (by first | rfl | go_simp) (fun K hK => ?_)
    simp only [bare]
    have u10 := (World.cell?_of_block (a := ⟨g, i.toNat * 2, none⟩) (D0.gr.block g hgl (by simpa using hgB))).trans t0
    go_wp2_with fail
    clear u10
    refine hK.out _ _ trivial ?_
    clear hK K
    refine hA_.out _ _ _ _ _ ?_ ?_
    · refine hC.out _ _ _ _ _ rfl (by first | rfl | go_simp) (fun K hK => ?_)
      simp only [bare]
      have u6 := (World.cell?_of_block (a := ⟨g, i.toNat * 2, none⟩) (D0.gr.block g hgl (by simpa using hgB))).trans t0
      go_wp2_with fail
      clear u6
      refine hK.out _ _ trivial ?_
      clear hK K
      refine hA_.out _ _ _ _ _ ?_ ?_
      · refine hC.out _ _ _ _ _ rfl (by first | rfl | go_simp) (fun K hK => ?_)
        simp only [bare]
        have O11 := owns_lit x0 x0.heap.size 9 #[.string X.sl, .string X.sl, .string ⟨#[122, 122]⟩] 3 (by decide) rfl (Nat.le_refl _)
        have D11 : Drawn B w (x0.alloc (.cells #[.string X.sl, .string X.sl, .string ⟨#[122, 122]⟩] 9)) (b + 50) := D0.alloc _
        have H11 : RHd 9 B (x0.alloc (.cells #[.string X.sl, .string X.sl, .string ⟨#[122, 122]⟩] 9)).heap.size (x0.alloc (.cells #[.string X.sl, .string X.sl, .string ⟨#[122, 122]⟩] 9)) 3 (.slice (some ⟨x0.heap.size, 0, none⟩) 3 3) (cellsOf encSt [X.sl, X.sl, ⟨#[122, 122]⟩]) := RHd.of_owns O11 D0.str.lt
        have z11 : x0.heap.size ≤ (x0.alloc (.cells #[.string X.sl, .string X.sl, .string ⟨#[122, 122]⟩] 9)).heap.size := by simp
        clear O11
        go_wp2_with fail
        generalize x0.alloc (.cells #[.string X.sl, .string X.sl, .string ⟨#[122, 122]⟩] 9) = x11 at *
        refine hK.out _ _ trivial ?_
        clear hK K
        refine hA_.out _ _ _ _ _ ?_ ?_
        · refine hC.out _ _ _ _ _ rfl (by first | rfl | go_simp) (fun K hK => ?_)
          simp only [bare]
          go_wp2_with fail
          refine (some_any B (b + 50) _ 3 [X.sl, X.sl, ⟨#[122, 122]⟩] x11 H11.row (by decide) (by decide) (by intro k hk; have := (H11.lt k hk).1; omega) D11.str (by omega)).mono ?_
          rintro e x12 ⟨s12, rfl, hs12, d12⟩
          have D12 := D11.trans d12
          have z12 := d12.size
          have m12 := smFa hz.1 hs12
          clear d12 hs12 H11
          go_wp2_with fail
          refine hK.out _ _ trivial ?_
          clear hK K
          refine hC.out _ _ _ _ _ rfl (by first | rfl | go_simp) (fun K hK => ?_)
          simp only [bare]
          have O14 := owns_lit x12 x12.heap.size 9 #[.string ⟨#[97, 110, 110]⟩, .string ⟨#[98, 101, 97]⟩, .string ⟨#[122, 101, 100]⟩, .string ⟨#[]⟩] 4 (by decide) rfl (Nat.le_refl _)
          have D14 : Drawn B w (x12.alloc (.cells #[.string ⟨#[97, 110, 110]⟩, .string ⟨#[98, 101, 97]⟩, .string ⟨#[122, 101, 100]⟩, .string ⟨#[]⟩] 9)) (b + 51) := D12.alloc _
          have H14 : RHd 9 B (x12.alloc (.cells #[.string ⟨#[97, 110, 110]⟩, .string ⟨#[98, 101, 97]⟩, .string ⟨#[122, 101, 100]⟩, .string ⟨#[]⟩] 9)).heap.size (x12.alloc (.cells #[.string ⟨#[97, 110, 110]⟩, .string ⟨#[98, 101, 97]⟩, .string ⟨#[122, 101, 100]⟩, .string ⟨#[]⟩] 9)) 4 (.slice (some ⟨x12.heap.size, 0, none⟩) 4 4) (cellsOf encSt [⟨#[97, 110, 110]⟩, ⟨#[98, 101, 97]⟩, ⟨#[122, 101, 100]⟩, ⟨#[]⟩]) := RHd.of_owns O14 D12.str.lt
          have z14 : x12.heap.size ≤ (x12.alloc (.cells #[.string ⟨#[97, 110, 110]⟩, .string ⟨#[98, 101, 97]⟩, .string ⟨#[122, 101, 100]⟩, .string ⟨#[]⟩] 9)).heap.size := by simp
          clear O14
          go_wp2_with fail
          generalize x12.alloc (.cells #[.string ⟨#[97, 110, 110]⟩, .string ⟨#[98, 101, 97]⟩, .string ⟨#[122, 101, 100]⟩, .string ⟨#[]⟩] 9) = x14 at *
          refine hK.out _ _ trivial ?_
          clear hK K
          refine hC.out _ _ _ _ _ rfl (by first | rfl | go_simp) (fun K hK => ?_)
          simp only [bare]
          go_wp2_with fail
          refine (some_any B (b + 51) _ 4 [⟨#[97, 110, 110]⟩, ⟨#[98, 101, 97]⟩, ⟨#[122, 101, 100]⟩, ⟨#[]⟩] x14 H14.row (by decide) (by decide) (by intro k hk; have := (H14.lt k hk).1; omega) D14.str (by omega)).mono ?_
          rintro e x15 ⟨s15, rfl, hs15, d15⟩
          have D15 := D14.trans d15
          have z15 := d15.size
          have m15 := smFb hs15
          clear d15 hs15 H14
          go_wp2_with fail
          refine hK.out _ _ trivial ?_
          clear hK K
          refine hH.out _ _ _ _ _ rfl (fun K hK => ?_); go_simp; refine hK _ ?_; clear hK K
          refine hH.out _ _ _ _ _ rfl (fun K hK => ?_); go_simp; refine hK _ ?_; clear hK K
          refine hC.out _ _ _ _ _ rfl (by first | rfl | go_simp) (fun K hK => ?_)
          simp only [bare]
          have h15 := hW.drawn D15
          have u18 := (World.cell?_of_block (a := ⟨g, i.toNat * 2, none⟩) (D15.gr.block g hgl (by simpa using hgB))).trans t0
          have f18 := owns_frozenC h15.o (i.toNat * 2)
          have u21 := (World.cell?_of_block (a := ⟨g, i.toNat * 2 + 1, none⟩) (D15.gr.block g hgl (by simpa using hgB))).trans t1
          have u21 := (World.cell?_setCell_other x15 ⟨g, i.toNat * 2, none⟩ ⟨g, i.toNat * 2 + 1, none⟩ (.string s12) (by simp)).trans u21
          have f21 := owns_frozenC (owns_setC h15.o (i.toNat * 2) (by omega) (.string s12)) (i.toNat * 2 + 1)
          have HF := Lib.hid (h15.put rfl i.toNat (by omega) s12 s15 m12 m15)
          clear h15 D15 D14 D12 D11
          go_wp2_with fail
          generalize x15.setCell ⟨g, i.toNat * 2, none⟩ (.string s12) = x18 at *
          refine hK.out _ _ trivial ?_
          clear hK K
          refine hH.out _ _ _ _ _ rfl (fun K hK => ?_); go_simp; refine hK _ ?_; clear hK K
          refine hH.out _ _ _ _ _ rfl (fun K hK => ?_); go_simp; refine hK _ ?_; clear hK K
          refine hC.out _ _ _ _ _ rfl (by first | rfl | go_simp) (fun K hK => ?_)
          simp only [bare]
          go_wp2_with fail
          refine hK.out _ _ trivial ?_
          clear hK K
          refine hE_.out _ _ ?_
          clear hH hC hA_ hE_ W
          show JS _ _
          refine hS _ _ ?_
          exact ⟨_, List.length_modify _ _ _, HF.out, Fr.of _ rfl ⟨rfl, trivial⟩⟩
        refine hC.out _ _ _ _ _ rfl (by first | rfl | go_simp) (fun K hK => ?_)
        simp only [bare]
        have O14 := owns_lit x11 x11.heap.size 9 #[.string ⟨#[97, 110, 110]⟩, .string ⟨#[98, 101, 97]⟩, .string ⟨#[122, 101, 100]⟩, .string ⟨#[]⟩] 4 (by decide) rfl (Nat.le_refl _)
        have D14 : Drawn B w (x11.alloc (.cells #[.string ⟨#[97, 110, 110]⟩, .string ⟨#[98, 101, 97]⟩, .string ⟨#[122, 101, 100]⟩, .string ⟨#[]⟩] 9)) (b + 50) := D11.alloc _
        have H14 : RHd 9 B (x11.alloc (.cells #[.string ⟨#[97, 110, 110]⟩, .string ⟨#[98, 101, 97]⟩, .string ⟨#[122, 101, 100]⟩, .string ⟨#[]⟩] 9)).heap.size (x11.alloc (.cells #[.string ⟨#[97, 110, 110]⟩, .string ⟨#[98, 101, 97]⟩, .string ⟨#[122, 101, 100]⟩, .string ⟨#[]⟩] 9)) 4 (.slice (some ⟨x11.heap.size, 0, none⟩) 4 4) (cellsOf encSt [⟨#[97, 110, 110]⟩, ⟨#[98, 101, 97]⟩, ⟨#[122, 101, 100]⟩, ⟨#[]⟩]) := RHd.of_owns O14 D11.str.lt
        have z14 : x11.heap.size ≤ (x11.alloc (.cells #[.string ⟨#[97, 110, 110]⟩, .string ⟨#[98, 101, 97]⟩, .string ⟨#[122, 101, 100]⟩, .string ⟨#[]⟩] 9)).heap.size := by simp
        have H11 := H11.alloc (.cells #[.string ⟨#[97, 110, 110]⟩, .string ⟨#[98, 101, 97]⟩, .string ⟨#[122, 101, 100]⟩, .string ⟨#[]⟩] 9)
        clear O14
        go_wp2_with fail
        generalize x11.alloc (.cells #[.string ⟨#[97, 110, 110]⟩, .string ⟨#[98, 101, 97]⟩, .string ⟨#[122, 101, 100]⟩, .string ⟨#[]⟩] 9) = x14 at *
        refine hK.out _ _ trivial ?_
        clear hK K
        refine hC.out _ _ _ _ _ rfl (by first | rfl | go_simp) (fun K hK => ?_)
        simp only [bare]
        go_wp2_with fail
        refine (some_any B (b + 50) _ 3 [X.sl, X.sl, ⟨#[122, 122]⟩] x14 H11.row (by decide) (by decide) (by intro k hk; have := (H11.lt k hk).1; omega) D14.str (by omega)).mono ?_
        rintro e x12 ⟨s12, rfl, hs12, d12⟩
        have D12 := D14.trans d12
        have z12 := d12.size
        have m12 := smFa hz.1 hs12
        have H14 := H14.str d12.gr
        clear d12 hs12 H11
        go_wp2_with fail
        refine hK.out _ _ trivial ?_
        clear hK K
        refine hC.out _ _ _ _ _ rfl (by first | rfl | go_simp) (fun K hK => ?_)
        simp only [bare]
        go_wp2_with fail
        refine (some_any B (b + 51) _ 4 [⟨#[97, 110, 110]⟩, ⟨#[98, 101, 97]⟩, ⟨#[122, 101, 100]⟩, ⟨#[]⟩] x12 H14.row (by decide) (by decide) (by intro k hk; have := (H14.lt k hk).1; omega) D12.str (by omega)).mono ?_
        rintro e x15 ⟨s15, rfl, hs15, d15⟩
        have D15 := D12.trans d15
        have z15 := d15.size
        have m15 := smFb hs15
        clear d15 hs15 H14
        go_wp2_with fail
        refine hK.out _ _ trivial ?_
        clear hK K
        refine hH.out _ _ _ _ _ rfl (fun K hK => ?_); go_simp; refine hK _ ?_; clear hK K
        refine hH.out _ _ _ _ _ rfl (fun K hK => ?_); go_simp; refine hK _ ?_; clear hK K
        refine hC.out _ _ _ _ _ rfl (by first | rfl | go_simp) (fun K hK => ?_)
        simp only [bare]
        have h15 := hW.drawn D15
        have u18 := (World.cell?_of_block (a := ⟨g, i.toNat * 2, none⟩) (D15.gr.block g hgl (by simpa using hgB))).trans t0
        have f18 := owns_frozenC h15.o (i.toNat * 2)
        have u21 := (World.cell?_of_block (a := ⟨g, i.toNat * 2 + 1, none⟩) (D15.gr.block g hgl (by simpa using hgB))).trans t1
        have u21 := (World.cell?_setCell_other x15 ⟨g, i.toNat * 2, none⟩ ⟨g, i.toNat * 2 + 1, none⟩ (.string s12) (by simp)).trans u21
        have f21 := owns_frozenC (owns_setC h15.o (i.toNat * 2) (by omega) (.string s12)) (i.toNat * 2 + 1)
        have HF := Lib.hid (h15.put rfl i.toNat (by omega) s12 s15 m12 m15)
        clear h15 D15 D14 D12 D11
        go_wp2_with fail
        generalize x15.setCell ⟨g, i.toNat * 2, none⟩ (.string s12) = x18 at *
        refine hK.out _ _ trivial ?_
        clear hK K
        refine hH.out _ _ _ _ _ rfl (fun K hK => ?_); go_simp; refine hK _ ?_; clear hK K
        refine hH.out _ _ _ _ _ rfl (fun K hK => ?_); go_simp; refine hK _ ?_; clear hK K
        refine hC.out _ _ _ _ _ rfl (by first | rfl | go_simp) (fun K hK => ?_)
        simp only [bare]
        go_wp2_with fail
        refine hK.out _ _ trivial ?_
        clear hK K
        refine hE_.out _ _ ?_
        clear hH hC hA_ hE_ W
        show JS _ _
        refine hS _ _ ?_
        exact ⟨_, List.length_modify _ _ _, HF.out, Fr.of _ rfl ⟨rfl, trivial⟩⟩
      refine hC.out _ _ _ _ _ rfl (by first | rfl | go_simp) (fun K hK => ?_)
      simp only [bare]
      have O14 := owns_lit x0 x0.heap.size 9 #[.string ⟨#[97, 110, 110]⟩, .string ⟨#[98, 101, 97]⟩, .string ⟨#[122, 101, 100]⟩, .string ⟨#[]⟩] 4 (by decide) rfl (Nat.le_refl _)
      have D14 : Drawn B w (x0.alloc (.cells #[.string ⟨#[97, 110, 110]⟩, .string ⟨#[98, 101, 97]⟩, .string ⟨#[122, 101, 100]⟩, .string ⟨#[]⟩] 9)) (b + 50) := D0.alloc _
      have H14 : RHd 9 B (x0.alloc (.cells #[.string ⟨#[97, 110, 110]⟩, .string ⟨#[98, 101, 97]⟩, .string ⟨#[122, 101, 100]⟩, .string ⟨#[]⟩] 9)).heap.size (x0.alloc (.cells #[.string ⟨#[97, 110, 110]⟩, .string ⟨#[98, 101, 97]⟩, .string ⟨#[122, 101, 100]⟩, .string ⟨#[]⟩] 9)) 4 (.slice (some ⟨x0.heap.size, 0, none⟩) 4 4) (cellsOf encSt [⟨#[97, 110, 110]⟩, ⟨#[98, 101, 97]⟩, ⟨#[122, 101, 100]⟩, ⟨#[]⟩]) := RHd.of_owns O14 D0.str.lt
      have z14 : x0.heap.size ≤ (x0.alloc (.cells #[.string ⟨#[97, 110, 110]⟩, .string ⟨#[98, 101, 97]⟩, .string ⟨#[122, 101, 100]⟩, .string ⟨#[]⟩] 9)).heap.size := by simp
      clear O14
      go_wp2_with fail
      generalize x0.alloc (.cells #[.string ⟨#[97, 110, 110]⟩, .string ⟨#[98, 101, 97]⟩, .string ⟨#[122, 101, 100]⟩, .string ⟨#[]⟩] 9) = x14 at *
      refine hK.out _ _ trivial ?_
      clear hK K
      refine hC.out _ _ _ _ _ rfl (by first | rfl | go_simp) (fun K hK => ?_)
      simp only [bare]
      have O11 := owns_lit x14 x14.heap.size 9 #[.string X.sl, .string X.sl, .string ⟨#[122, 122]⟩] 3 (by decide) rfl (Nat.le_refl _)
      have D11 : Drawn B w (x14.alloc (.cells #[.string X.sl, .string X.sl, .string ⟨#[122, 122]⟩] 9)) (b + 50) := D14.alloc _
      have H11 : RHd 9 B (x14.alloc (.cells #[.string X.sl, .string X.sl, .string ⟨#[122, 122]⟩] 9)).heap.size (x14.alloc (.cells #[.string X.sl, .string X.sl, .string ⟨#[122, 122]⟩] 9)) 3 (.slice (some ⟨x14.heap.size, 0, none⟩) 3 3) (cellsOf encSt [X.sl, X.sl, ⟨#[122, 122]⟩]) := RHd.of_owns O11 D14.str.lt
      have z11 : x14.heap.size ≤ (x14.alloc (.cells #[.string X.sl, .string X.sl, .string ⟨#[122, 122]⟩] 9)).heap.size := by simp
      have H14 := H14.alloc (.cells #[.string X.sl, .string X.sl, .string ⟨#[122, 122]⟩] 9)
      clear O11
      go_wp2_with fail
      generalize x14.alloc (.cells #[.string X.sl, .string X.sl, .string ⟨#[122, 122]⟩] 9) = x11 at *
      refine hK.out _ _ trivial ?_
      clear hK K
      refine hC.out _ _ _ _ _ rfl (by first | rfl | go_simp) (fun K hK => ?_)
      simp only [bare]
      go_wp2_with fail
      refine (some_any B (b + 50) _ 3 [X.sl, X.sl, ⟨#[122, 122]⟩] x11 H11.row (by decide) (by decide) (by intro k hk; have := (H11.lt k hk).1; omega) D11.str (by omega)).mono ?_
      rintro e x12 ⟨s12, rfl, hs12, d12⟩
      have D12 := D11.trans d12
      have z12 := d12.size
      have m12 := smFa hz.1 hs12
      have H14 := H14.str d12.gr
      clear d12 hs12 H11
      go_wp2_with fail
      refine hK.out _ _ trivial ?_
      clear hK K
      refine hC.out _ _ _ _ _ rfl (by first | rfl | go_simp) (fun K hK => ?_)
      simp only [bare]
      go_wp2_with fail
      refine (some_any B (b + 51) _ 4 [⟨#[97, 110, 110]⟩, ⟨#[98, 101, 97]⟩, ⟨#[122, 101, 100]⟩, ⟨#[]⟩] x12 H14.row (by decide) (by decide) (by intro k hk; have := (H14.lt k hk).1; omega) D12.str (by omega)).mono ?_
      rintro e x15 ⟨s15, rfl, hs15, d15⟩
      have D15 := D12.trans d15
      have z15 := d15.size
      have m15 := smFb hs15
      clear d15 hs15 H14
      go_wp2_with fail
      refine hK.out _ _ trivial ?_
      clear hK K
      refine hH.out _ _ _ _ _ rfl (fun K hK => ?_); go_simp; refine hK _ ?_; clear hK K
      refine hH.out _ _ _ _ _ rfl (fun K hK => ?_); go_simp; refine hK _ ?_; clear hK K
      refine hC.out _ _ _ _ _ rfl (by first | rfl | go_simp) (fun K hK => ?_)
      simp only [bare]
      have h15 := hW.drawn D15
      have u18 := (World.cell?_of_block (a := ⟨g, i.toNat * 2, none⟩) (D15.gr.block g hgl (by simpa using hgB))).trans t0
      have f18 := owns_frozenC h15.o (i.toNat * 2)
      have u21 := (World.cell?_of_block (a := ⟨g, i.toNat * 2 + 1, none⟩) (D15.gr.block g hgl (by simpa using hgB))).trans t1
      have u21 := (World.cell?_setCell_other x15 ⟨g, i.toNat * 2, none⟩ ⟨g, i.toNat * 2 + 1, none⟩ (.string s12) (by simp)).trans u21
      have f21 := owns_frozenC (owns_setC h15.o (i.toNat * 2) (by omega) (.string s12)) (i.toNat * 2 + 1)
      have HF := Lib.hid (h15.put rfl i.toNat (by omega) s12 s15 m12 m15)
      clear h15 D15 D14 D12 D11
      go_wp2_with fail
      generalize x15.setCell ⟨g, i.toNat * 2, none⟩ (.string s12) = x18 at *
      refine hK.out _ _ trivial ?_
      clear hK K
      refine hH.out _ _ _ _ _ rfl (fun K hK => ?_); go_simp; refine hK _ ?_; clear hK K
      refine hH.out _ _ _ _ _ rfl (fun K hK => ?_); go_simp; refine hK _ ?_; clear hK K
      refine hC.out _ _ _ _ _ rfl (by first | rfl | go_simp) (fun K hK => ?_)
      simp only [bare]
      go_wp2_with fail
      refine hK.out _ _ trivial ?_
      clear hK K
      refine hE_.out _ _ ?_
      clear hH hC hA_ hE_ W
      show JS _ _
      refine hS _ _ ?_
      exact ⟨_, List.length_modify _ _ _, HF.out, Fr.of _ rfl ⟨rfl, trivial⟩⟩
    refine hC.out _ _ _ _ _ rfl (by first | rfl | go_simp) (fun K hK => ?_)
    simp only [bare]
    have O14 := owns_lit x0 x0.heap.size 9 #[.string ⟨#[97, 110, 110]⟩, .string ⟨#[98, 101, 97]⟩, .string ⟨#[122, 101, 100]⟩, .string ⟨#[]⟩] 4 (by decide) rfl (Nat.le_refl _)
    have D14 : Drawn B w (x0.alloc (.cells #[.string ⟨#[97, 110, 110]⟩, .string ⟨#[98, 101, 97]⟩, .string ⟨#[122, 101, 100]⟩, .string ⟨#[]⟩] 9)) (b + 50) := D0.alloc _
    have H14 : RHd 9 B (x0.alloc (.cells #[.string ⟨#[97, 110, 110]⟩, .string ⟨#[98, 101, 97]⟩, .string ⟨#[122, 101, 100]⟩, .string ⟨#[]⟩] 9)).heap.size (x0.alloc (.cells #[.string ⟨#[97, 110, 110]⟩, .string ⟨#[98, 101, 97]⟩, .string ⟨#[122, 101, 100]⟩, .string ⟨#[]⟩] 9)) 4 (.slice (some ⟨x0.heap.size, 0, none⟩) 4 4) (cellsOf encSt [⟨#[97, 110, 110]⟩, ⟨#[98, 101, 97]⟩, ⟨#[122, 101, 100]⟩, ⟨#[]⟩]) := RHd.of_owns O14 D0.str.lt
    have z14 : x0.heap.size ≤ (x0.alloc (.cells #[.string ⟨#[97, 110, 110]⟩, .string ⟨#[98, 101, 97]⟩, .string ⟨#[122, 101, 100]⟩, .string ⟨#[]⟩] 9)).heap.size := by simp
    clear O14
    go_wp2_with fail
    generalize x0.alloc (.cells #[.string ⟨#[97, 110, 110]⟩, .string ⟨#[98, 101, 97]⟩, .string ⟨#[122, 101, 100]⟩, .string ⟨#[]⟩] 9) = x14 at *
    refine hK.out _ _ trivial ?_
    clear hK K
    refine hC.out _ _ _ _ _ rfl (by first | rfl | go_simp) (fun K hK => ?_)
    simp only [bare]
    have u6 := (World.cell?_of_block (a := ⟨g, i.toNat * 2, none⟩) (D14.gr.block g hgl (by simpa using hgB))).trans t0
    go_wp2_with fail
    clear u6
    refine hK.out _ _ trivial ?_
    clear hK K
    refine hC.out _ _ _ _ _ rfl (by first | rfl | go_simp) (fun K hK => ?_)
    simp only [bare]
    have O11 := owns_lit x14 x14.heap.size 9 #[.string X.sl, .string X.sl, .string ⟨#[122, 122]⟩] 3 (by decide) rfl (Nat.le_refl _)
    have D11 : Drawn B w (x14.alloc (.cells #[.string X.sl, .string X.sl, .string ⟨#[122, 122]⟩] 9)) (b + 50) := D14.alloc _
    have H11 : RHd 9 B (x14.alloc (.cells #[.string X.sl, .string X.sl, .string ⟨#[122, 122]⟩] 9)).heap.size (x14.alloc (.cells #[.string X.sl, .string X.sl, .string ⟨#[122, 122]⟩] 9)) 3 (.slice (some ⟨x14.heap.size, 0, none⟩) 3 3) (cellsOf encSt [X.sl, X.sl, ⟨#[122, 122]⟩]) := RHd.of_owns O11 D14.str.lt
    have z11 : x14.heap.size ≤ (x14.alloc (.cells #[.string X.sl, .string X.sl, .string ⟨#[122, 122]⟩] 9)).heap.size := by simp
    have H14 := H14.alloc (.cells #[.string X.sl, .string X.sl, .string ⟨#[122, 122]⟩] 9)
    clear O11
    go_wp2_with fail
    generalize x14.alloc (.cells #[.string X.sl, .string X.sl, .string ⟨#[122, 122]⟩] 9) = x11 at *
    refine hK.out _ _ trivial ?_
    clear hK K
    refine hC.out _ _ _ _ _ rfl (by first | rfl | go_simp) (fun K hK => ?_)
    simp only [bare]
    go_wp2_with fail
    refine (some_any B (b + 50) _ 3 [X.sl, X.sl, ⟨#[122, 122]⟩] x11 H11.row (by decide) (by decide) (by intro k hk; have := (H11.lt k hk).1; omega) D11.str (by omega)).mono ?_
    rintro e x12 ⟨s12, rfl, hs12, d12⟩
    have D12 := D11.trans d12
    have z12 := d12.size
    have m12 := smFa hz.1 hs12
    have H14 := H14.str d12.gr
    clear d12 hs12 H11
    go_wp2_with fail
    refine hK.out _ _ trivial ?_
    clear hK K
    refine hC.out _ _ _ _ _ rfl (by first | rfl | go_simp) (fun K hK => ?_)
    simp only [bare]
    go_wp2_with fail
    refine (some_any B (b + 51) _ 4 [⟨#[97, 110, 110]⟩, ⟨#[98, 101, 97]⟩, ⟨#[122, 101, 100]⟩, ⟨#[]⟩] x12 H14.row (by decide) (by decide) (by intro k hk; have := (H14.lt k hk).1; omega) D12.str (by omega)).mono ?_
    rintro e x15 ⟨s15, rfl, hs15, d15⟩
    have D15 := D12.trans d15
    have z15 := d15.size
    have m15 := smFb hs15
    clear d15 hs15 H14
    go_wp2_with fail
    refine hK.out _ _ trivial ?_
    clear hK K
    refine hH.out _ _ _ _ _ rfl (fun K hK => ?_); go_simp; refine hK _ ?_; clear hK K
    refine hH.out _ _ _ _ _ rfl (fun K hK => ?_); go_simp; refine hK _ ?_; clear hK K
    refine hC.out _ _ _ _ _ rfl (by first | rfl | go_simp) (fun K hK => ?_)
    simp only [bare]
    have h15 := hW.drawn D15
    have u18 := (World.cell?_of_block (a := ⟨g, i.toNat * 2, none⟩) (D15.gr.block g hgl (by simpa using hgB))).trans t0
    have f18 := owns_frozenC h15.o (i.toNat * 2)
    have u21 := (World.cell?_of_block (a := ⟨g, i.toNat * 2 + 1, none⟩) (D15.gr.block g hgl (by simpa using hgB))).trans t1
    have u21 := (World.cell?_setCell_other x15 ⟨g, i.toNat * 2, none⟩ ⟨g, i.toNat * 2 + 1, none⟩ (.string s12) (by simp)).trans u21
    have f21 := owns_frozenC (owns_setC h15.o (i.toNat * 2) (by omega) (.string s12)) (i.toNat * 2 + 1)
    have HF := Lib.hid (h15.put rfl i.toNat (by omega) s12 s15 m12 m15)
    clear h15 D15 D14 D12 D11
    go_wp2_with fail
    generalize x15.setCell ⟨g, i.toNat * 2, none⟩ (.string s12) = x18 at *
    refine hK.out _ _ trivial ?_
    clear hK K
    refine hH.out _ _ _ _ _ rfl (fun K hK => ?_); go_simp; refine hK _ ?_; clear hK K
    refine hH.out _ _ _ _ _ rfl (fun K hK => ?_); go_simp; refine hK _ ?_; clear hK K
    refine hC.out _ _ _ _ _ rfl (by first | rfl | go_simp) (fun K hK => ?_)
    simp only [bare]
    go_wp2_with fail
    refine hK.out _ _ trivial ?_
    clear hK K
    refine hE_.out _ _ ?_
    clear hH hC hA_ hE_ W
    show JS _ _
    refine hS _ _ ?_
    exact ⟨_, List.length_modify _ _ _, HF.out, Fr.of _ rfl ⟨rfl, trivial⟩⟩
  refine hC.out _ _ _ _ _ rfl (by first | rfl | go_simp) (fun K hK => ?_)
  simp only [bare]
  have O14 := owns_lit x0 x0.heap.size 9 #[.string ⟨#[97, 110, 110]⟩, .string ⟨#[98, 101, 97]⟩, .string ⟨#[122, 101, 100]⟩, .string ⟨#[]⟩] 4 (by decide) rfl (Nat.le_refl _)
  have D14 : Drawn B w (x0.alloc (.cells #[.string ⟨#[97, 110, 110]⟩, .string ⟨#[98, 101, 97]⟩, .string ⟨#[122, 101, 100]⟩, .string ⟨#[]⟩] 9)) (b + 50) := D0.alloc _
  have H14 : RHd 9 B (x0.alloc (.cells #[.string ⟨#[97, 110, 110]⟩, .string ⟨#[98, 101, 97]⟩, .string ⟨#[122, 101, 100]⟩, .string ⟨#[]⟩] 9)).heap.size (x0.alloc (.cells #[.string ⟨#[97, 110, 110]⟩, .string ⟨#[98, 101, 97]⟩, .string ⟨#[122, 101, 100]⟩, .string ⟨#[]⟩] 9)) 4 (.slice (some ⟨x0.heap.size, 0, none⟩) 4 4) (cellsOf encSt [⟨#[97, 110, 110]⟩, ⟨#[98, 101, 97]⟩, ⟨#[122, 101, 100]⟩, ⟨#[]⟩]) := RHd.of_owns O14 D0.str.lt
  have z14 : x0.heap.size ≤ (x0.alloc (.cells #[.string ⟨#[97, 110, 110]⟩, .string ⟨#[98, 101, 97]⟩, .string ⟨#[122, 101, 100]⟩, .string ⟨#[]⟩] 9)).heap.size := by simp
  clear O14
  go_wp2_with fail
  generalize x0.alloc (.cells #[.string ⟨#[97, 110, 110]⟩, .string ⟨#[98, 101, 97]⟩, .string ⟨#[122, 101, 100]⟩, .string ⟨#[]⟩] 9) = x14 at *
  refine hK.out _ _ trivial ?_
  clear hK K
  refine hA_.out _ _ _ _ _ ?_ ?_
  · refine hC.out _ _ _ _ _ rfl (by first | rfl | go_simp) (fun K hK => ?_)
    simp only [bare]
    have u6 := (World.cell?_of_block (a := ⟨g, i.toNat * 2, none⟩) (D14.gr.block g hgl (by simpa using hgB))).trans t0
    go_wp2_with fail
    clear u6
    refine hK.out _ _ trivial ?_
    clear hK K
    refine hC.out _ _ _ _ _ rfl (by first | rfl | go_simp) (fun K hK => ?_)
    simp only [bare]
    have u10 := (World.cell?_of_block (a := ⟨g, i.toNat * 2, none⟩) (D14.gr.block g hgl (by simpa using hgB))).trans t0
    go_wp2_with fail
    clear u10
    refine hK.out _ _ trivial ?_
    clear hK K
    refine hC.out _ _ _ _ _ rfl (by first | rfl | go_simp) (fun K hK => ?_)
    simp only [bare]
    have O11 := owns_lit x14 x14.heap.size 9 #[.string X.sl, .string X.sl, .string ⟨#[122, 122]⟩] 3 (by decide) rfl (Nat.le_refl _)
    have D11 : Drawn B w (x14.alloc (.cells #[.string X.sl, .string X.sl, .string ⟨#[122, 122]⟩] 9)) (b + 50) := D14.alloc _
    have H11 : RHd 9 B (x14.alloc (.cells #[.string X.sl, .string X.sl, .string ⟨#[122, 122]⟩] 9)).heap.size (x14.alloc (.cells #[.string X.sl, .string X.sl, .string ⟨#[122, 122]⟩] 9)) 3 (.slice (some ⟨x14.heap.size, 0, none⟩) 3 3) (cellsOf encSt [X.sl, X.sl, ⟨#[122, 122]⟩]) := RHd.of_owns O11 D14.str.lt
    have z11 : x14.heap.size ≤ (x14.alloc (.cells #[.string X.sl, .string X.sl, .string ⟨#[122, 122]⟩] 9)).heap.size := by simp
    have H14 := H14.alloc (.cells #[.string X.sl, .string X.sl, .string ⟨#[122, 122]⟩] 9)
    clear O11
    go_wp2_with fail
    generalize x14.alloc (.cells #[.string X.sl, .string X.sl, .string ⟨#[122, 122]⟩] 9) = x11 at *
    refine hK.out _ _ trivial ?_
    clear hK K
    refine hC.out _ _ _ _ _ rfl (by first | rfl | go_simp) (fun K hK => ?_)
    simp only [bare]
    go_wp2_with fail
    refine (some_any B (b + 50) _ 3 [X.sl, X.sl, ⟨#[122, 122]⟩] x11 H11.row (by decide) (by decide) (by intro k hk; have := (H11.lt k hk).1; omega) D11.str (by omega)).mono ?_
    rintro e x12 ⟨s12, rfl, hs12, d12⟩
    have D12 := D11.trans d12
    have z12 := d12.size
    have m12 := smFa hz.1 hs12
    have H14 := H14.str d12.gr
    clear d12 hs12 H11
    go_wp2_with fail
    refine hK.out _ _ trivial ?_
    clear hK K
    refine hC.out _ _ _ _ _ rfl (by first | rfl | go_simp) (fun K hK => ?_)
    simp only [bare]
    go_wp2_with fail
    refine (some_any B (b + 51) _ 4 [⟨#[97, 110, 110]⟩, ⟨#[98, 101, 97]⟩, ⟨#[122, 101, 100]⟩, ⟨#[]⟩] x12 H14.row (by decide) (by decide) (by intro k hk; have := (H14.lt k hk).1; omega) D12.str (by omega)).mono ?_
    rintro e x15 ⟨s15, rfl, hs15, d15⟩
    have D15 := D12.trans d15
    have z15 := d15.size
    have m15 := smFb hs15
    clear d15 hs15 H14
    go_wp2_with fail
    refine hK.out _ _ trivial ?_
    clear hK K
    refine hH.out _ _ _ _ _ rfl (fun K hK => ?_); go_simp; refine hK _ ?_; clear hK K
    refine hH.out _ _ _ _ _ rfl (fun K hK => ?_); go_simp; refine hK _ ?_; clear hK K
    refine hC.out _ _ _ _ _ rfl (by first | rfl | go_simp) (fun K hK => ?_)
    simp only [bare]
    have h15 := hW.drawn D15
    have u18 := (World.cell?_of_block (a := ⟨g, i.toNat * 2, none⟩) (D15.gr.block g hgl (by simpa using hgB))).trans t0
    have f18 := owns_frozenC h15.o (i.toNat * 2)
    have u21 := (World.cell?_of_block (a := ⟨g, i.toNat * 2 + 1, none⟩) (D15.gr.block g hgl (by simpa using hgB))).trans t1
    have u21 := (World.cell?_setCell_other x15 ⟨g, i.toNat * 2, none⟩ ⟨g, i.toNat * 2 + 1, none⟩ (.string s12) (by simp)).trans u21
    have f21 := owns_frozenC (owns_setC h15.o (i.toNat * 2) (by omega) (.string s12)) (i.toNat * 2 + 1)
    have HF := Lib.hid (h15.put rfl i.toNat (by omega) s12 s15 m12 m15)
    clear h15 D15 D14 D12 D11
    go_wp2_with fail
    generalize x15.setCell ⟨g, i.toNat * 2, none⟩ (.string s12) = x18 at *
    refine hK.out _ _ trivial ?_
    clear hK K
    refine hH.out _ _ _ _ _ rfl (fun K hK => ?_); go_simp; refine hK _ ?_; clear hK K
    refine hH.out _ _ _ _ _ rfl (fun K hK => ?_); go_simp; refine hK _ ?_; clear hK K
    refine hC.out _ _ _ _ _ rfl (by first | rfl | go_simp) (fun K hK => ?_)
    simp only [bare]
    go_wp2_with fail
    refine hK.out _ _ trivial ?_
    clear hK K
    refine hE_.out _ _ ?_
    clear hH hC hA_ hE_ W
    show JS _ _
    refine hS _ _ ?_
    exact ⟨_, List.length_modify _ _ _, HF.out, Fr.of _ rfl ⟨rfl, trivial⟩⟩
  refine hC.out _ _ _ _ _ rfl (by first | rfl | go_simp) (fun K hK => ?_)
  simp only [bare]
  have u10 := (World.cell?_of_block (a := ⟨g, i.toNat * 2, none⟩) (D14.gr.block g hgl (by simpa using hgB))).trans t0
  go_wp2_with fail
  clear u10
  refine hK.out _ _ trivial ?_
  clear hK K
  refine hC.out _ _ _ _ _ rfl (by first | rfl | go_simp) (fun K hK => ?_)
  simp only [bare]
  have u6 := (World.cell?_of_block (a := ⟨g, i.toNat * 2, none⟩) (D14.gr.block g hgl (by simpa using hgB))).trans t0
  go_wp2_with fail
  clear u6
  refine hK.out _ _ trivial ?_
  clear hK K
  refine hC.out _ _ _ _ _ rfl (by first | rfl | go_simp) (fun K hK => ?_)
  simp only [bare]
  have O11 := owns_lit x14 x14.heap.size 9 #[.string X.sl, .string X.sl, .string ⟨#[122, 122]⟩] 3 (by decide) rfl (Nat.le_refl _)
  have D11 : Drawn B w (x14.alloc (.cells #[.string X.sl, .string X.sl, .string ⟨#[122, 122]⟩] 9)) (b + 50) := D14.alloc _
  have H11 : RHd 9 B (x14.alloc (.cells #[.string X.sl, .string X.sl, .string ⟨#[122, 122]⟩] 9)).heap.size (x14.alloc (.cells #[.string X.sl, .string X.sl, .string ⟨#[122, 122]⟩] 9)) 3 (.slice (some ⟨x14.heap.size, 0, none⟩) 3 3) (cellsOf encSt [X.sl, X.sl, ⟨#[122, 122]⟩]) := RHd.of_owns O11 D14.str.lt
  have z11 : x14.heap.size ≤ (x14.alloc (.cells #[.string X.sl, .string X.sl, .string ⟨#[122, 122]⟩] 9)).heap.size := by simp
  have H14 := H14.alloc (.cells #[.string X.sl, .string X.sl, .string ⟨#[122, 122]⟩] 9)
  clear O11
  go_wp2_with fail
  generalize x14.alloc (.cells #[.string X.sl, .string X.sl, .string ⟨#[122, 122]⟩] 9) = x11 at *
  refine hK.out _ _ trivial ?_
  clear hK K
  refine hC.out _ _ _ _ _ rfl (by first | rfl | go_simp) (fun K hK => ?_)
  simp only [bare]
  go_wp2_with fail
  refine (some_any B (b + 50) _ 3 [X.sl, X.sl, ⟨#[122, 122]⟩] x11 H11.row (by decide) (by decide) (by intro k hk; have := (H11.lt k hk).1; omega) D11.str (by omega)).mono ?_
  rintro e x12 ⟨s12, rfl, hs12, d12⟩
  have D12 := D11.trans d12
  have z12 := d12.size
  have m12 := smFa hz.1 hs12
  have H14 := H14.str d12.gr
  clear d12 hs12 H11
  go_wp2_with fail
  refine hK.out _ _ trivial ?_
  clear hK K
  refine hC.out _ _ _ _ _ rfl (by first | rfl | go_simp) (fun K hK => ?_)
  simp only [bare]
  go_wp2_with fail
  refine (some_any B (b + 51) _ 4 [⟨#[97, 110, 110]⟩, ⟨#[98, 101, 97]⟩, ⟨#[122, 101, 100]⟩, ⟨#[]⟩] x12 H14.row (by decide) (by decide) (by intro k hk; have := (H14.lt k hk).1; omega) D12.str (by omega)).mono ?_
  rintro e x15 ⟨s15, rfl, hs15, d15⟩
  have D15 := D12.trans d15
  have z15 := d15.size
  have m15 := smFb hs15
  clear d15 hs15 H14
  go_wp2_with fail
  refine hK.out _ _ trivial ?_
  clear hK K
  refine hH.out _ _ _ _ _ rfl (fun K hK => ?_); go_simp; refine hK _ ?_; clear hK K
  refine hH.out _ _ _ _ _ rfl (fun K hK => ?_); go_simp; refine hK _ ?_; clear hK K
  refine hC.out _ _ _ _ _ rfl (by first | rfl | go_simp) (fun K hK => ?_)
  simp only [bare]
  have h15 := hW.drawn D15
  have u18 := (World.cell?_of_block (a := ⟨g, i.toNat * 2, none⟩) (D15.gr.block g hgl (by simpa using hgB))).trans t0
  have f18 := owns_frozenC h15.o (i.toNat * 2)
  have u21 := (World.cell?_of_block (a := ⟨g, i.toNat * 2 + 1, none⟩) (D15.gr.block g hgl (by simpa using hgB))).trans t1
  have u21 := (World.cell?_setCell_other x15 ⟨g, i.toNat * 2, none⟩ ⟨g, i.toNat * 2 + 1, none⟩ (.string s12) (by simp)).trans u21
  have f21 := owns_frozenC (owns_setC h15.o (i.toNat * 2) (by omega) (.string s12)) (i.toNat * 2 + 1)
  have HF := Lib.hid (h15.put rfl i.toNat (by omega) s12 s15 m12 m15)
  clear h15 D15 D14 D12 D11
  go_wp2_with fail
  generalize x15.setCell ⟨g, i.toNat * 2, none⟩ (.string s12) = x18 at *
  refine hK.out _ _ trivial ?_
  clear hK K
  refine hH.out _ _ _ _ _ rfl (fun K hK => ?_); go_simp; refine hK _ ?_; clear hK K
  refine hH.out _ _ _ _ _ rfl (fun K hK => ?_); go_simp; refine hK _ ?_; clear hK K
  refine hC.out _ _ _ _ _ rfl (by first | rfl | go_simp) (fun K hK => ?_)
  simp only [bare]
  go_wp2_with fail
  refine hK.out _ _ trivial ?_
  clear hK K
  refine hE_.out _ _ ?_
  clear hH hC hA_ hE_ W
  show JS _ _
  refine hS _ _ ?_
  exact ⟨_, List.length_modify _ _ _, HF.out, Fr.of _ rfl ⟨rfl, trivial⟩⟩

set_option maxRecDepth 100000 in
set_option maxHeartbeats 1000000 in
theorem fl20 (B b : Nat) (w0 : World) (hb : b ≤ 20000) (v7 : Value) (Fs : List FlD) (hn : Fs.length ≤ 4) : T3 Try.prog (fun a w => (FlO B (b + 52) w0 v7 Fs w) ∧ Fr 105 [(7, v7)] a) (sel [1, 1, 1, 1, 1, 0] fjM) (fun a w => (FlO B (b + 52) w0 v7 Fs w) ∧ Fr 105 [(6, v7)] a) No 9 No := by
  refine T3.leaf ?_
  rintro Q JS JX JT K hS hK hX hE hT hR a w ⟨hW, ⟨fr, rfl, q7, _⟩⟩
  have HW := Lib.hid hW
  obtain ⟨p3, c3, hv3⟩ := (Row.of_owns hW.o).shape
  subst hv3
  clear hW
  rw [fr_fjM, show fr 7 = _ from q7]
  clear q7
  conv => arg 2; whnf
  go_wp2_with fail
  refine Met.intro (hS _ _ ?_)
  exact ⟨HW.out, Fr.of _ rfl ⟨rfl, trivial⟩⟩

set_option maxRecDepth 100000 in
set_option maxHeartbeats 1000000 in
theorem fl_all (B b bs bx : Nat) (w0 ws w1 : World) (c1 c : Nat) (p1 pL : Option Addr) (S : List SlD) (L : List ScD) (hSl : SlO B bs ws (.slice p1 S.length c1) S w0) (hL : ScO B bx w1 (.slice pL L.length c) L w0) (hS4 : S.length ≤ 4) (hL6 : L.length ≤ 6) (hb : b ≤ 20000) : T3 Try.prog (fun a w => (Str B w b ∧ IsW w0 w) ∧ Fr 105 [(0, .pointer (some ⟨B, 0, none⟩)), (1, .slice p1 S.length c1), (2, .slice pL L.length c)] a) fjM No No 9 (fun a w => ∃ (v7 : Value) (Fs : List FlD), (Fs.length ≤ 4) ∧ (FlO B (b + 52) w0 v7 Fs w) ∧ Fr 105 [(6, v7)] a) := by
  refine T3.seq (s := (sel [0] fjM)) (c := (sel [1] fjM)) (T3.noT (fj0 B b w0 c1 c p1 pL S L hb)) ?_
  refine T3.ex fun A1 => ?_
  refine T3.seq (s := (sel [1, 0] fjM)) (c := (sel [1, 1] fjM)) (T3.noT (fj1 B b w0 c1 c p1 pL S L hb A1)) ?_
  refine T3.seq (s := (sel [1, 1, 0] fjM)) (c := (sel [1, 1, 1] fjM)) (T3.noT (fj2 B b w0 c1 c p1 pL S L hb A1)) ?_
  refine T3.ex fun m => ?_
  refine T3.seq (s := (sel [1, 1, 1, 0] fjM)) (c := (sel [1, 1, 1, 1] fjM)) (T3.noT (T3.seq (s := (sel [1, 1, 1, 0, 0] fjM)) (c := (sel [1, 1, 1, 0, 1] fjM)) (fj3 B b bs bx w0 ws w1 c1 c p1 pL S L hSl hL hS4 hL6 hb A1 m) (fjAloop B b bs bx w0 ws w1 c1 c p1 pL S L hSl hL hS4 hL6 hb A1 m))) ?_
  refine T3.ex fun v7 => T3.ex fun Fs => T3.pure fun hn => ?_
  refine T3.seq (s := (sel [1, 1, 1, 1, 0] fjM)) (c := (sel [1, 1, 1, 1, 1] fjM)) (S := (fun a w => ∃ (v7 : Value) (Fs : List FlD), (Fs.length ≤ 4) ∧ (FlO B (b + 52) w0 v7 Fs w) ∧ Fr 105 [(7, v7)] a)) ?_ (T3.ex fun v7 => T3.ex fun Fs => T3.pure fun hn => ?_)
  · refine T3.test (s := (sel [1, 1, 1, 1, 0, 0] fjM)) (x := (sel [1, 1, 1, 1, 0, 1, 2] fjM)) (y := .skip) (C := fun q => (q = true → 0 < Fs.length)) (W := fun w => FlO B (b + 49) w0 v7 Fs w) (by decide) (T3.noT (fl17 B b w0 hb v7 Fs hn)) ?_ (T3.skip ?_)
    · refine T3.pre (R := fun a w => (0 < Fs.length) ∧ ∃ (g : Nat) (c : Nat), (FlO B (b + 49) w0 (.slice (some ⟨g, 0, none⟩) Fs.length c) Fs w) ∧ Fr 105 [(0, .pointer (some ⟨B, 0, none⟩)), (7, .slice (some ⟨g, 0, none⟩) Fs.length c)] a) (T3.pure fun hpos => T3.ex fun g => T3.ex fun c => ?_) ?_
      · refine T3.seq (s := (sel [1, 1, 1, 1, 0, 1, 2, 0] fjM)) (c := (sel [1, 1, 1, 1, 0, 1, 2, 1] fjM)) (T3.noT (fl18 B b w0 hb v7 Fs hn hpos g c)) (T3.ex fun i => T3.pure fun hi => ?_)
        refine T3.post (T3.noT (fl19 B b w0 hb v7 Fs hn hpos g c i hi)) ?_
        rintro a w ⟨S', hl, hW, hF⟩
        exact ⟨_, S', by omega, hW, hF⟩
      · rintro a w ⟨hF, hq, hW⟩
        obtain ⟨g, c, hv, _⟩ := owns_shape hW.o (by have := hq rfl; omega)
        subst hv
        exact ⟨hq rfl, g, c, hW, hF.sub (by simp)⟩
    · rintro a w ⟨hq, hW, hF⟩
      exact ⟨v7, Fs, hn, hW.mono (Nat.add_le_add_left (by decide : 49 ≤ 52) b), hF.sub (by simp)⟩
  exact T3.seq (s := (sel [1, 1, 1, 1, 1, 0] fjM)) (c := .ret) (T3.noT (fl20 B b w0 hb v7 Fs hn)) (T3.ret fun a w q => ⟨v7, Fs, hn, q⟩)

set_option maxRecDepth 100000 in
set_option maxHeartbeats 1000000 in
theorem fills_any (B b bs bx : Nat) (w0 ws w1 : World) (c1 c : Nat) (p1 pL : Option Addr) (S : List SlD) (L : List ScD) (hSl : SlO B bs ws (.slice p1 S.length c1) S w0) (hL : ScO B bx w1 (.slice pL L.length c) L w0) (hS4 : S.length ≤ 4) (hL6 : L.length ≤ 6) (hb : b ≤ 20000) (hStr : Str B w0 b) : Calls Try.prog 6 #[.pointer (some ⟨B, 0, none⟩), .slice p1 S.length c1, .slice pL L.length c] w0 fun e w' => ∃ (v7 : Value) (Fs : List FlD), e = .returned v7 ∧ Fs.length ≤ 4 ∧ FlO B (b + 52) w0 v7 Fs w' := by
  have hall := fl_all B b bs bx w0 ws w1 c1 c p1 pL S L hSl hL hS4 hL6 hb
  go_enter Try.func6, Try.ntmps6
  refine T3.done (s := fjM) hall ⟨⟨hStr, rfl⟩, Fr.of _ rfl ⟨rfl, rfl, rfl, trivial⟩⟩ ?_
  rintro a w ⟨v7, L, hn, hW, fr, rfl, q2, _⟩
  rw [fr_fjM, show fr 6 = _ from q2]
  go_ret
  exact ⟨v7, L, rfl, hn, hW⟩
end Go.Proofs.Ytnmdpphddimfbaa
/-
  slices.DeleteFunc at strings with any function; the functions that BenchesSubbed gives it; equal fills are told equal. Conditions: the bounds that each theorem names.
-/
set_option linter.unusedVariables false
namespace Go.Bw
open Go.RowKit
end Go.Bw
namespace Go.Proofs.Ytnmdpphddimfbaa
open Go.RowKit Go.Bw
set_option maxRecDepth 100000 in
set_option maxHeartbeats 1000000 in
theorem cl_dl1 (s a : ByteArray) (x : ByteArray) (B : Nat) (w : World) (hB : w.cell? ⟨B, 0, none⟩ = some (.string x)) :
    Calls Try.prog 15 #[.agg #[.string s, .string a], .pointer (some ⟨B, 0, none⟩)] w fun e w' => e = .returned (.bool (decide (a = x))) ∧ Below w.heap.size w w' := by
  have hlt := World.block_lt_of_cell? w _ hB
  have hw0 := (Below.refl w.heap.size w).alloc (Nat.le_refl _) (.cells #[.string s, .string a] 42)
  have c1 := (hw0.cell (p := ⟨B, 0, none⟩) hlt).trans hB
  have d0 := cells_new w #[.string s, .string a] 42 0 _ rfl
  have d1 := cells_new w #[.string s, .string a] 42 1 _ rfl
  have HW := Lib.hid hw0
  clear hw0 hB
  by_cases hx : a = x
  · subst hx
    go_enter Try.func15, Try.ntmps15
    go_wp2_with fail
    go_ret
    exact ⟨ret_bool (by simp), HW.out⟩
  · have hx1 := toList_ne hx
    have HX := Lib.hid (show false = decide (a = x) by simp [hx])
    clear hx
    go_enter Try.func15, Try.ntmps15
    go_wp2_with fail
    go_ret
    exact ⟨ret_bool HX.out, HW.out⟩
set_option maxRecDepth 100000 in
set_option maxHeartbeats 1000000 in
/-- Somebody of these fills. -/
theorem cl_del (A6 : Nat) (v : Value) (F : List FlD) (x : ByteArray) (w : World) (h : FlH w v F) (h6 : w.cell? ⟨A6, 0, none⟩ = some v) :
    Calls Try.prog 13 #[.string x, .pointer (some ⟨A6, 0, none⟩)] w fun e w' => e = .returned (.bool (F.any fun y => decide (y.pl = x))) ∧ Below w.heap.size w w' := by
  have hlt := World.block_lt_of_cell? w _ h6
  have hw0 := (Below.refl w.heap.size w).alloc (Nat.le_refl _) (.cells #[.string x] 9)
  have c0 := cells_new w #[.string x] 9 0 _ rfl
  have c6 := (hw0.cell (p := ⟨A6, 0, none⟩) hlt).trans h6
  have H1 := Lib.hid (any_fl 15 Try.call15 (.pointer (some ⟨w.heap.size, 0, none⟩)) v F (fun y => decide (y.pl = x)) 0 _ (h.r.below hw0) (by have := h.n; omega) (fun y _ w1 hb => cl_dl1 y.sl y.pl x _ w1 ((hb.cell (p := ⟨w.heap.size, 0, none⟩) (by simp)).trans c0)))
  obtain ⟨q, d, hv⟩ := h.r.shape
  clear h h6
  subst hv
  have HW := Lib.hid hw0
  clear hw0 c0
  generalize F.any (fun y => decide (y.pl = x)) = r at *
  go_enter Try.func13, Try.ntmps13
  go_wp2_with fail
  refine H1.out.mono ?_
  rintro e w1 ⟨rfl, hb⟩
  have HB := Lib.hid (HW.out.trans (hb.mono HW.out.size))
  clear hb
  go_wp2_with fail
  go_ret
  exact ⟨rfl, HB.out⟩
/-- Strings that the call may store into. -/
structure DfW (M g n cap : Nat) (w0 : World) (xs : List ByteArray) (w : World) : Prop where
  b : w0.grownBy w (some g)
  hM : M ≤ w0.heap.size
  o : w.ownsRow M 9 1 (.slice (some ⟨g, 0, none⟩) n cap) n (cellsOf encSt xs)
  z : SmAll xs
  l : xs.length = n
theorem DfW.below {M g n cap : Nat} {w0 w w' : World} {xs : List ByteArray} (h : DfW M g n cap w0 xs w) (b : Below w.heap.size w w') : DfW M g n cap w0 xs w' :=
  ⟨grown_trans h.b (grown_of_below b), h.hM, owns_below h.o b (Nat.le_refl _), h.z, h.l⟩
theorem cellsSt_set (xs : List ByteArray) (i : Nat) (x : ByteArray) : (cellsOf encSt xs).set i (.string x) = cellsOf encSt (xs.set i x) := by rw [cells_map, cells_map, List.map_set]
theorem DfW.put {M g n cap : Nat} {w0 w : World} {xs : List ByteArray} (h : DfW M g n cap w0 xs w) (i : Nat) (hi : i < n) (x : ByteArray) (hx : Sm x) : DfW M g n cap w0 (xs.set i x) (w.setCell ⟨g, i, none⟩ (.string x)) := by
  refine ⟨grown_trans h.b (grown_setCell w g i _), h.hM, ?_, fun s hs => ?_, by rw [List.length_set]; exact h.l⟩
  · have := owns_setC h.o i (by omega) (.string x)
    rwa [cellsSt_set] at this
  · rcases List.mem_or_eq_of_mem_set hs with hs | rfl
    · exact h.z s hs
    · exact hx
theorem DfW.clear {M g n cap : Nat} {w0 : World} : ∀ (k i : Nat) (w : World) (xs : List ByteArray), DfW M g n cap w0 xs w → i + k ≤ n → ∃ ys, DfW M g n cap w0 ys (w.setCells g i (List.replicate k (.string ⟨#[]⟩)))
  | 0, i, w, xs, h, _ => ⟨xs, h⟩
  | k + 1, i, w, xs, h, hk => DfW.clear k (i + 1) _ _ (h.put i (by omega) ⟨#[]⟩ (by decide)) (by omega)
theorem DfW.cell {M g n cap : Nat} {w0 w : World} {xs : List ByteArray} (h : DfW M g n cap w0 xs w) {j : Int} (h0 : 0 ≤ j) (h1 : j < n) : w.cell? ⟨g, j.toNat, none⟩ = some (.string (geta xs j)) ∧ Sm (geta xs j) ∧ w.frozen? ⟨g, j.toNat, none⟩ = false := by
  have hl := h.l
  refine ⟨?_, h.z _ (geta_mem h0 (by omega)), owns_frozenC h.o _⟩
  subst hl
  obtain ⟨bz, off, hp, _, _, hcell⟩ := Row.nonnil ((Row.of_owns h.o).mono (Nat.zero_le _)) (by omega)
  simp only [Option.some.injEq, Addr.mk.injEq] at hp
  obtain ⟨rfl, rfl, _⟩ := hp
  have t0 := Row.elAt encSt_length hcell h0 (by omega) 0 _ (by decide) rfl
  rw [Nat.zero_add, Nat.mul_one, Nat.add_zero] at t0
  exact t0
noncomputable def deF : Code := (Try.f12.body).getD .skip
set_option maxRecDepth 100000 in
theorem fr_deF (f : Nat → Value) : frame 42 f = ⟨#[f 0, f 1, f 2, f 3, f 4, f 5, f 6, f 7, f 8, f 9, f 10, f 11, f 12, f 13, f 14, f 15, f 16, f 17, f 18, f 19, f 20, f 21, f 22, f 23, f 24, f 25, f 26, f 27, f 28, f 29, f 30, f 31, f 32, f 33, f 34, f 35, f 36, f 37, f 38, f 39, f 40, f 41], []⟩ := by rfl
set_option maxRecDepth 100000 in
set_option maxHeartbeats 1000000 in
theorem de0 (Fn : Nat) (hF : ∀ args w, (callFunc Fn args).run Try.prog w = .ok (.enter Fn args) w) (cc : Value) (M g n cap : Nat) (p : ByteArray → Bool) (w0 : World) (hcp : n ≤ 1000000) (hp : ∀ x, Sm x → ∀ w1, w0.grownBy w1 (some g) → Calls Try.prog Fn #[.string x, cc] w1 fun e w2 => e = .returned (.bool (p x)) ∧ Below w1.heap.size w1 w2) (xs : List ByteArray) : T3 Try.prog (fun a w => (DfW M g n cap w0 xs w) ∧ Fr 42 [(0, .slice (some ⟨g, 0, none⟩) n cap), (1, .func (.func Fn) #[] #[cc])] a) (sel [0] deF) (fun a w => (DfW M g n cap w0 xs w) ∧ Fr 42 [(0, .slice (some ⟨g, 0, none⟩) n cap), (1, .func (.func Fn) #[] #[cc])] a) No 9 No := by
  refine T3.leaf ?_
  rintro Q JS JX JT K hS hK hX hE hT hR a w ⟨hW, ⟨fr, rfl, q0, q1, _⟩⟩
  have HW := Lib.hid hW
  clear hW
  rw [fr_deF, show fr 0 = _ from q0, show fr 1 = _ from q1]
  clear q0 q1
  conv => arg 2; whnf
  go_wp2_with fail
  refine Met.intro (hS _ _ ?_)
  exact ⟨HW.out, Fr.of _ rfl ⟨rfl, rfl, trivial⟩⟩

set_option maxRecDepth 100000 in
set_option maxHeartbeats 1000000 in
theorem de1 (Fn : Nat) (hF : ∀ args w, (callFunc Fn args).run Try.prog w = .ok (.enter Fn args) w) (cc : Value) (M g n cap : Nat) (p : ByteArray → Bool) (w0 : World) (hcp : n ≤ 1000000) (hp : ∀ x, Sm x → ∀ w1, w0.grownBy w1 (some g) → Calls Try.prog Fn #[.string x, cc] w1 fun e w2 => e = .returned (.bool (p x)) ∧ Below w1.heap.size w1 w2) (xs : List ByteArray) : T3 Try.prog (fun a w => (DfW M g n cap w0 xs w) ∧ Fr 42 [(0, .slice (some ⟨g, 0, none⟩) n cap), (1, .func (.func Fn) #[] #[cc])] a) (sel [1, 0] deF) (fun a w => ∃ (r : Int), (r = -1 ∨ (0 ≤ r ∧ r < n)) ∧ (DfW M g n cap w0 xs w) ∧ Fr 42 [(0, .slice (some ⟨g, 0, none⟩) n cap), (1, .func (.func Fn) #[] #[cc]), (5, .int .i64 r)] a) No 9 No := by
  refine T3.leaf ?_
  rintro Q JS JX JT K hS hK hX hE hT hR a w ⟨hW, ⟨fr, rfl, q0, q1, _⟩⟩
  have hl := hW.l
  have HC := Lib.hid (idx_st Fn hF cc (.slice (some ⟨g, 0, none⟩) n cap) xs p 0 w (by rw [hl]; exact (Row.of_owns hW.o).mono (Nat.zero_le _)) (by omega) (fun x hx w1 hb => hp x (hW.z x hx) w1 (grown_trans hW.b (grown_of_below hb))))
  have hr : idxI xs p = -1 ∨ (0 ≤ idxI xs p ∧ idxI xs p < n) := by
    by_cases h : 0 ≤ idxI xs p
    · exact .inr ⟨h, by have := (idxI_lt h).1; omega⟩
    · exact .inl (idxI_neg (by omega)).1
  have HW := Lib.hid hW
  have HR := Lib.hid hr
  clear hW hr hl hp
  generalize idxI xs p = r at *
  rw [fr_deF, show fr 0 = _ from q0, show fr 1 = _ from q1]
  clear q0 q1
  conv => arg 2; whnf
  go_wp2_with fail
  refine HC.out.mono ?_
  rintro e w1 ⟨rfl, hb⟩
  have H1 := Lib.hid (HW.out.below hb)
  clear hb
  go_wp2_with fail
  refine Met.intro (hS _ _ ?_)
  exact ⟨r, HR.out, H1.out, Fr.of _ rfl ⟨rfl, rfl, rfl, trivial⟩⟩

set_option maxRecDepth 100000 in
set_option maxHeartbeats 1000000 in
theorem de2 (Fn : Nat) (hF : ∀ args w, (callFunc Fn args).run Try.prog w = .ok (.enter Fn args) w) (cc : Value) (M g n cap : Nat) (p : ByteArray → Bool) (w0 : World) (hcp : n ≤ 1000000) (hp : ∀ x, Sm x → ∀ w1, w0.grownBy w1 (some g) → Calls Try.prog Fn #[.string x, cc] w1 fun e w2 => e = .returned (.bool (p x)) ∧ Below w1.heap.size w1 w2) (xs : List ByteArray) (r : Int) : T3 Try.prog (fun a w => (DfW M g n cap w0 xs w) ∧ Fr 42 [(0, .slice (some ⟨g, 0, none⟩) n cap), (1, .func (.func Fn) #[] #[cc]), (5, .int .i64 r)] a) (sel [1, 1, 0, 0] deF) (fun a w => ∃ q, Fr 42 ((12, .bool q) :: [(0, .slice (some ⟨g, 0, none⟩) n cap), (1, .func (.func Fn) #[] #[cc]), (5, .int .i64 r)]) a ∧ ((q = (r == -1)) ∧ DfW M g n cap w0 xs w)) No 9 No := by
  refine T3.leaf ?_
  rintro Q JS JX JT K hS hK hX hE hT hR a w ⟨hW, ⟨fr, rfl, q0, q1, q5, _⟩⟩
  have HW := Lib.hid hW
  clear hW
  rw [fr_deF, show fr 0 = _ from q0, show fr 1 = _ from q1, show fr 5 = _ from q5]
  clear q0 q1 q5
  conv => arg 2; whnf
  go_wp2_with fail
  refine Met.intro (hS _ _ ?_)
  exact ⟨_, Fr.of _ rfl ⟨rfl, rfl, rfl, rfl, trivial⟩, rfl, HW.out⟩

set_option maxRecDepth 100000 in
set_option maxHeartbeats 1000000 in
theorem de3 (Fn : Nat) (hF : ∀ args w, (callFunc Fn args).run Try.prog w = .ok (.enter Fn args) w) (cc : Value) (M g n cap : Nat) (p : ByteArray → Bool) (w0 : World) (hcp : n ≤ 1000000) (hp : ∀ x, Sm x → ∀ w1, w0.grownBy w1 (some g) → Calls Try.prog Fn #[.string x, cc] w1 fun e w2 => e = .returned (.bool (p x)) ∧ Below w1.heap.size w1 w2) (xs : List ByteArray) : T3 Try.prog (fun a w => (DfW M g n cap w0 xs w) ∧ Fr 42 [(0, .slice (some ⟨g, 0, none⟩) n cap), (1, .func (.func Fn) #[] #[cc])] a) (sel [1, 1, 0, 1, 2, 0] deF) (fun a w => (DfW M g n cap w0 xs w) ∧ Fr 42 [(4, .slice (some ⟨g, 0, none⟩) n cap)] a) No 9 No := by
  refine T3.leaf ?_
  rintro Q JS JX JT K hS hK hX hE hT hR a w ⟨hW, ⟨fr, rfl, q0, q1, _⟩⟩
  have HW := Lib.hid hW
  clear hW
  rw [fr_deF, show fr 0 = _ from q0, show fr 1 = _ from q1]
  clear q0 q1
  conv => arg 2; whnf
  go_wp2_with fail
  refine Met.intro (hS _ _ ?_)
  exact ⟨HW.out, Fr.of _ rfl ⟨rfl, trivial⟩⟩

set_option maxRecDepth 100000 in
set_option maxHeartbeats 1000000 in
theorem de4 (Fn : Nat) (hF : ∀ args w, (callFunc Fn args).run Try.prog w = .ok (.enter Fn args) w) (cc : Value) (M g n cap : Nat) (p : ByteArray → Bool) (w0 : World) (hcp : n ≤ 1000000) (hp : ∀ x, Sm x → ∀ w1, w0.grownBy w1 (some g) → Calls Try.prog Fn #[.string x, cc] w1 fun e w2 => e = .returned (.bool (p x)) ∧ Below w1.heap.size w1 w2) (xs : List ByteArray) (r : Int) (hr : 0 ≤ r ∧ r < n) : T3 Try.prog (fun a w => (DfW M g n cap w0 xs w) ∧ Fr 42 [(0, .slice (some ⟨g, 0, none⟩) n cap), (1, .func (.func Fn) #[] #[cc]), (5, .int .i64 r)] a) (sel [1, 1, 1, 0, 0] deF) (fun a w => (DfW M g n cap w0 xs w) ∧ Fr 42 [(0, .slice (some ⟨g, 0, none⟩) n cap), (1, .func (.func Fn) #[] #[cc]), (5, .int .i64 r), (6, .int .i64 (r + 1))] a) No 9 No := by
  refine T3.leaf ?_
  rintro Q JS JX JT K hS hK hX hE hT hR a w ⟨hW, ⟨fr, rfl, q0, q1, q5, _⟩⟩
  obtain ⟨hr0, hr1⟩ := hr
  have HW := Lib.hid hW
  clear hW
  rw [fr_deF, show fr 0 = _ from q0, show fr 1 = _ from q1, show fr 5 = _ from q5]
  clear q0 q1 q5
  conv => arg 2; whnf
  go_wp2_with fail
  refine Met.intro (hS _ _ ?_)
  exact ⟨HW.out, Fr.of _ rfl ⟨rfl, rfl, rfl, rfl, trivial⟩⟩

set_option maxRecDepth 100000 in
set_option maxHeartbeats 1000000 in
theorem de5 (Fn : Nat) (hF : ∀ args w, (callFunc Fn args).run Try.prog w = .ok (.enter Fn args) w) (cc : Value) (M g n cap : Nat) (p : ByteArray → Bool) (w0 : World) (hcp : n ≤ 1000000) (hp : ∀ x, Sm x → ∀ w1, w0.grownBy w1 (some g) → Calls Try.prog Fn #[.string x, cc] w1 fun e w2 => e = .returned (.bool (p x)) ∧ Below w1.heap.size w1 w2) (xs : List ByteArray) (i j : Int) (hij : 0 ≤ i ∧ i < j ∧ j ≤ n) : T3 Try.prog (fun a w => (DfW M g n cap w0 xs w) ∧ Fr 42 [(0, .slice (some ⟨g, 0, none⟩) n cap), (1, .func (.func Fn) #[] #[cc]), (5, .int .i64 i), (6, .int .i64 j)] a) (sel [1, 1, 1, 0, 1, 4, 4, 0, 0] deF) (fun a w => ∃ q, Fr 42 ((19, .bool q) :: [(0, .slice (some ⟨g, 0, none⟩) n cap), (1, .func (.func Fn) #[] #[cc]), (5, .int .i64 i), (6, .int .i64 j)]) a ∧ ((q = decide (j < (n : Int))) ∧ DfW M g n cap w0 xs w)) No 9 No := by
  refine T3.leaf ?_
  rintro Q JS JX JT K hS hK hX hE hT hR a w ⟨hW, ⟨fr, rfl, q0, q1, q5, q6, _⟩⟩
  obtain ⟨h1, h2, h3⟩ := hij
  have HW := Lib.hid hW
  clear hW
  rw [fr_deF, show fr 0 = _ from q0, show fr 1 = _ from q1, show fr 5 = _ from q5, show fr 6 = _ from q6]
  clear q0 q1 q5 q6
  conv => arg 2; whnf
  go_wp2_with fail
  refine Met.intro (hS _ _ ?_)
  exact ⟨_, Fr.of _ rfl ⟨rfl, rfl, rfl, rfl, rfl, trivial⟩, rfl, HW.out⟩

set_option maxRecDepth 100000 in
set_option maxHeartbeats 1000000 in
theorem de7 (Fn : Nat) (hF : ∀ args w, (callFunc Fn args).run Try.prog w = .ok (.enter Fn args) w) (cc : Value) (M g n cap : Nat) (p : ByteArray → Bool) (w0 : World) (hcp : n ≤ 1000000) (hp : ∀ x, Sm x → ∀ w1, w0.grownBy w1 (some g) → Calls Try.prog Fn #[.string x, cc] w1 fun e w2 => e = .returned (.bool (p x)) ∧ Below w1.heap.size w1 w2) (xs : List ByteArray) (i j : Int) (hij : 0 ≤ i ∧ i < j ∧ j < n) : T3 Try.prog (fun a w => (DfW M g n cap w0 xs w) ∧ Fr 42 [(0, .slice (some ⟨g, 0, none⟩) n cap), (1, .func (.func Fn) #[] #[cc]), (5, .int .i64 i), (6, .int .i64 j)] a) (sel [1, 1, 1, 0, 1, 4, 4, 1, 0, 4, 0] deF) (fun a w => ∃ (x : ByteArray), (Sm x) ∧ (DfW M g n cap w0 xs w) ∧ Fr 42 [(0, .slice (some ⟨g, 0, none⟩) n cap), (1, .func (.func Fn) #[] #[cc]), (5, .int .i64 i), (6, .int .i64 j), (7, .string x)] a) No 9 No := by
  refine T3.leaf ?_
  rintro Q JS JX JT K hS hK hX hE hT hR a w ⟨hW, ⟨fr, rfl, q0, q1, q5, q6, _⟩⟩
  obtain ⟨h1, h2, h3⟩ := hij
  obtain ⟨t0, hx, _⟩ := hW.cell (j := j) (by omega) h3
  have HW := Lib.hid hW
  clear hW
  generalize geta xs j = x at *
  have HX := Lib.hid hx
  clear hx
  rw [fr_deF, show fr 0 = _ from q0, show fr 1 = _ from q1, show fr 5 = _ from q5, show fr 6 = _ from q6]
  clear q0 q1 q5 q6
  conv => arg 2; whnf
  go_wp2_with fail
  refine Met.intro (hS _ _ ?_)
  exact ⟨x, HX.out, HW.out, Fr.of _ rfl ⟨rfl, rfl, rfl, rfl, rfl, trivial⟩⟩

set_option maxRecDepth 100000 in
set_option maxHeartbeats 1000000 in
theorem de8 (Fn : Nat) (hF : ∀ args w, (callFunc Fn args).run Try.prog w = .ok (.enter Fn args) w) (cc : Value) (M g n cap : Nat) (p : ByteArray → Bool) (w0 : World) (hcp : n ≤ 1000000) (hp : ∀ x, Sm x → ∀ w1, w0.grownBy w1 (some g) → Calls Try.prog Fn #[.string x, cc] w1 fun e w2 => e = .returned (.bool (p x)) ∧ Below w1.heap.size w1 w2) (xs : List ByteArray) (i j : Int) (hij : 0 ≤ i ∧ i < j ∧ j < n) (x : ByteArray) (hx : Sm x) : T3 Try.prog (fun a w => (DfW M g n cap w0 xs w) ∧ Fr 42 [(0, .slice (some ⟨g, 0, none⟩) n cap), (1, .func (.func Fn) #[] #[cc]), (5, .int .i64 i), (6, .int .i64 j), (7, .string x)] a) (sel [1, 1, 1, 0, 1, 4, 4, 1, 0, 4, 1, 0] deF) (fun a w => ∃ q, Fr 42 ((29, .bool q) :: [(0, .slice (some ⟨g, 0, none⟩) n cap), (1, .func (.func Fn) #[] #[cc]), (5, .int .i64 i), (6, .int .i64 j), (7, .string x)]) a ∧ (True ∧ DfW M g n cap w0 xs w)) No 9 No := by
  refine T3.leaf ?_
  rintro Q JS JX JT K hS hK hX hE hT hR a w ⟨hW, ⟨fr, rfl, q0, q1, q5, q6, q7, _⟩⟩
  have HC := Lib.hid (hp x hx w hW.b)
  clear hp
  have HW := Lib.hid hW
  clear hW
  generalize p x = px at *
  clear hx hij
  rw [fr_deF, show fr 0 = _ from q0, show fr 1 = _ from q1, show fr 5 = _ from q5, show fr 6 = _ from q6, show fr 7 = _ from q7]
  clear q0 q1 q5 q6 q7
  conv => arg 2; whnf
  go_wp2_with fail
  refine HC.out.mono ?_
  rintro e w1 ⟨rfl, hb⟩
  have H1 := Lib.hid (HW.out.below hb)
  clear hb
  go_wp2_with fail
  refine Met.intro (hS _ _ ?_)
  exact ⟨_, Fr.of _ rfl ⟨rfl, rfl, rfl, rfl, rfl, rfl, trivial⟩, trivial, H1.out⟩

set_option maxRecDepth 100000 in
set_option maxHeartbeats 1000000 in
theorem de9 (Fn : Nat) (hF : ∀ args w, (callFunc Fn args).run Try.prog w = .ok (.enter Fn args) w) (cc : Value) (M g n cap : Nat) (p : ByteArray → Bool) (w0 : World) (hcp : n ≤ 1000000) (hp : ∀ x, Sm x → ∀ w1, w0.grownBy w1 (some g) → Calls Try.prog Fn #[.string x, cc] w1 fun e w2 => e = .returned (.bool (p x)) ∧ Below w1.heap.size w1 w2) (xs : List ByteArray) (i j : Int) (hij : 0 ≤ i ∧ i < j ∧ j < n) (x : ByteArray) (hx : Sm x) : T3 Try.prog (fun a w => (DfW M g n cap w0 xs w) ∧ Fr 42 [(0, .slice (some ⟨g, 0, none⟩) n cap), (1, .func (.func Fn) #[] #[cc]), (5, .int .i64 i), (6, .int .i64 j), (7, .string x)] a) (sel [1, 1, 1, 0, 1, 4, 4, 1, 0, 4, 1, 1, 2, 0] deF) (fun a w => ∃ (xs : List ByteArray), (DfW M g n cap w0 xs w) ∧ Fr 42 [(0, .slice (some ⟨g, 0, none⟩) n cap), (1, .func (.func Fn) #[] #[cc]), (5, .int .i64 i), (6, .int .i64 j)] a) No 9 No := by
  refine T3.leaf ?_
  rintro Q JS JX JT K hS hK hX hE hT hR a w ⟨hW, ⟨fr, rfl, q0, q1, q5, q6, q7, _⟩⟩
  obtain ⟨h1, h2, h3⟩ := hij
  obtain ⟨t0, _, f0⟩ := hW.cell (j := i) (by omega) (by omega)
  have H1 := Lib.hid (hW.put i.toNat (by omega) x hx)
  generalize geta xs i = y at *
  clear hW hp hx
  rw [fr_deF, show fr 0 = _ from q0, show fr 1 = _ from q1, show fr 5 = _ from q5, show fr 6 = _ from q6, show fr 7 = _ from q7]
  clear q0 q1 q5 q6 q7
  conv => arg 2; whnf
  go_wp2_with fail
  refine Met.intro (hS _ _ ?_)
  exact ⟨_, H1.out, Fr.of _ rfl ⟨rfl, rfl, rfl, rfl, trivial⟩⟩

set_option maxRecDepth 100000 in
set_option maxHeartbeats 1000000 in
theorem de10 (Fn : Nat) (hF : ∀ args w, (callFunc Fn args).run Try.prog w = .ok (.enter Fn args) w) (cc : Value) (M g n cap : Nat) (p : ByteArray → Bool) (w0 : World) (hcp : n ≤ 1000000) (hp : ∀ x, Sm x → ∀ w1, w0.grownBy w1 (some g) → Calls Try.prog Fn #[.string x, cc] w1 fun e w2 => e = .returned (.bool (p x)) ∧ Below w1.heap.size w1 w2) (xs : List ByteArray) (i j : Int) (hij : 0 ≤ i ∧ i < j ∧ j < n) : T3 Try.prog (fun a w => (DfW M g n cap w0 xs w) ∧ Fr 42 [(0, .slice (some ⟨g, 0, none⟩) n cap), (1, .func (.func Fn) #[] #[cc]), (5, .int .i64 i), (6, .int .i64 j)] a) (sel [1, 1, 1, 0, 1, 4, 4, 1, 0, 4, 1, 1, 2, 1] deF) (fun a w => (DfW M g n cap w0 xs w) ∧ Fr 42 [(0, .slice (some ⟨g, 0, none⟩) n cap), (1, .func (.func Fn) #[] #[cc]), (5, .int .i64 (i + 1)), (6, .int .i64 j)] a) No 9 No := by
  refine T3.leaf ?_
  rintro Q JS JX JT K hS hK hX hE hT hR a w ⟨hW, ⟨fr, rfl, q0, q1, q5, q6, _⟩⟩
  obtain ⟨h1, h2, h3⟩ := hij
  have HW := Lib.hid hW
  clear hW
  rw [fr_deF, show fr 0 = _ from q0, show fr 1 = _ from q1, show fr 5 = _ from q5, show fr 6 = _ from q6]
  clear q0 q1 q5 q6
  conv => arg 2; whnf
  go_wp2_with fail
  refine Met.intro (hS _ _ ?_)
  exact ⟨HW.out, Fr.of _ rfl ⟨rfl, rfl, rfl, rfl, trivial⟩⟩

set_option maxRecDepth 100000 in
set_option maxHeartbeats 1000000 in
theorem de6 (Fn : Nat) (hF : ∀ args w, (callFunc Fn args).run Try.prog w = .ok (.enter Fn args) w) (cc : Value) (M g n cap : Nat) (p : ByteArray → Bool) (w0 : World) (hcp : n ≤ 1000000) (hp : ∀ x, Sm x → ∀ w1, w0.grownBy w1 (some g) → Calls Try.prog Fn #[.string x, cc] w1 fun e w2 => e = .returned (.bool (p x)) ∧ Below w1.heap.size w1 w2) (xs : List ByteArray) (i j : Int) (hij : 0 ≤ i ∧ i ≤ j ∧ j < n) : T3 Try.prog (fun a w => (DfW M g n cap w0 xs w) ∧ Fr 42 [(0, .slice (some ⟨g, 0, none⟩) n cap), (1, .func (.func Fn) #[] #[cc]), (5, .int .i64 i), (6, .int .i64 j)] a) (sel [1, 1, 1, 0, 1, 4, 4, 1, 1] deF) (fun a w => (DfW M g n cap w0 xs w) ∧ Fr 42 [(0, .slice (some ⟨g, 0, none⟩) n cap), (1, .func (.func Fn) #[] #[cc]), (5, .int .i64 i), (6, .int .i64 (j + 1))] a) No 9 No := by
  refine T3.leaf ?_
  rintro Q JS JX JT K hS hK hX hE hT hR a w ⟨hW, ⟨fr, rfl, q0, q1, q5, q6, _⟩⟩
  obtain ⟨h1, h2, h3⟩ := hij
  have HW := Lib.hid hW
  clear hW
  rw [fr_deF, show fr 0 = _ from q0, show fr 1 = _ from q1, show fr 5 = _ from q5, show fr 6 = _ from q6]
  clear q0 q1 q5 q6
  conv => arg 2; whnf
  go_wp2_with fail
  refine Met.intro (hS _ _ ?_)
  exact ⟨HW.out, Fr.of _ rfl ⟨rfl, rfl, rfl, rfl, trivial⟩⟩

set_option maxRecDepth 100000 in
set_option maxHeartbeats 1000000 in
theorem de11 (Fn : Nat) (hF : ∀ args w, (callFunc Fn args).run Try.prog w = .ok (.enter Fn args) w) (cc : Value) (M g n cap : Nat) (p : ByteArray → Bool) (w0 : World) (hcp : n ≤ 1000000) (hp : ∀ x, Sm x → ∀ w1, w0.grownBy w1 (some g) → Calls Try.prog Fn #[.string x, cc] w1 fun e w2 => e = .returned (.bool (p x)) ∧ Below w1.heap.size w1 w2) (xs : List ByteArray) (i : Int) (hi : 0 ≤ i ∧ i < n) : T3 Try.prog (fun a w => (DfW M g n cap w0 xs w) ∧ Fr 42 [(0, .slice (some ⟨g, 0, none⟩) n cap), (1, .func (.func Fn) #[] #[cc]), (5, .int .i64 i)] a) (sel [1, 1, 1, 1, 0] deF) (fun a w => ∃ (xs : List ByteArray), (DfW M g n cap w0 xs w) ∧ Fr 42 [(0, .slice (some ⟨g, 0, none⟩) n cap), (1, .func (.func Fn) #[] #[cc]), (5, .int .i64 i)] a) No 9 No := by
  refine T3.leaf ?_
  rintro Q JS JX JT K hS hK hX hE hT hR a w ⟨hW, ⟨fr, rfl, q0, q1, q5, _⟩⟩
  obtain ⟨h1, h2⟩ := hi
  obtain ⟨ys, hy⟩ := DfW.clear (n - i.toNat) i.toNat w xs hW (by omega)
  have HY := Lib.hid hy
  obtain ⟨g', c', hv3, _, _, hn3, hm3⟩ := owns_shape hW.o (by omega)
  simp only [Value.slice.injEq, Option.some.injEq, Addr.mk.injEq] at hv3
  obtain ⟨⟨rfl, _⟩, _, rfl⟩ := hv3
  simp only [maxLen] at hm3
  have hz : ∀ w, (zeroValue 9).run Try.prog w = .ok (.string ⟨#[]⟩) w := fun w => by kernel_rfl
  have hcl : ∀ ty, (Builtin.clear_ #[32] ty #[.slice (some ⟨g, i.toNat, none⟩) (n - i.toNat) (cap - i.toNat)]).run Try.prog w = .ok (.tuple #[]) (w.setCells g i.toNat (List.replicate (n - i.toNat) (.string ⟨#[]⟩))) :=
    fun ty => Lib.run_clear_slice w _ _ ty _ (by kernel_rfl) hz rfl rfl g i.toNat _ _ (by omega) (fun t ht => by
      have := (hW.cell (j := ((i.toNat + t : Nat) : Int)) (by omega) (by omega)).1
      rw [Int.toNat_natCast] at this
      rw [this]; rfl) (fun t ht => owns_frozenC hW.o _)
  clear hW hy
  rw [fr_deF, show fr 0 = _ from q0, show fr 1 = _ from q1, show fr 5 = _ from q5]
  clear q0 q1 q5
  conv => arg 2; whnf
  go_wp2_with fail
  refine Met.intro (hS _ _ ?_)
  exact ⟨ys, HY.out, Fr.of _ rfl ⟨rfl, rfl, rfl, trivial⟩⟩

set_option maxRecDepth 100000 in
set_option maxHeartbeats 1000000 in
theorem de12 (Fn : Nat) (hF : ∀ args w, (callFunc Fn args).run Try.prog w = .ok (.enter Fn args) w) (cc : Value) (M g n cap : Nat) (p : ByteArray → Bool) (w0 : World) (hcp : n ≤ 1000000) (hp : ∀ x, Sm x → ∀ w1, w0.grownBy w1 (some g) → Calls Try.prog Fn #[.string x, cc] w1 fun e w2 => e = .returned (.bool (p x)) ∧ Below w1.heap.size w1 w2) (xs : List ByteArray) (i : Int) (hi : 0 ≤ i ∧ i < n) : T3 Try.prog (fun a w => (DfW M g n cap w0 xs w) ∧ Fr 42 [(0, .slice (some ⟨g, 0, none⟩) n cap), (1, .func (.func Fn) #[] #[cc]), (5, .int .i64 i)] a) (sel [1, 1, 1, 1, 1, 0] deF) (fun a w => (DfW M g n cap w0 xs w) ∧ Fr 42 [(4, .slice (some ⟨g, 0, none⟩) i.toNat cap)] a) No 9 No := by
  refine T3.leaf ?_
  rintro Q JS JX JT K hS hK hX hE hT hR a w ⟨hW, ⟨fr, rfl, q0, q1, q5, _⟩⟩
  obtain ⟨h1, h2⟩ := hi
  obtain ⟨g', c', hv3, _, _, hn3, hm3⟩ := owns_shape hW.o (by omega)
  simp only [Value.slice.injEq, Option.some.injEq, Addr.mk.injEq] at hv3
  obtain ⟨⟨rfl, _⟩, _, rfl⟩ := hv3
  simp only [maxLen] at hm3
  have HW := Lib.hid hW
  clear hW
  rw [fr_deF, show fr 0 = _ from q0, show fr 1 = _ from q1, show fr 5 = _ from q5]
  clear q0 q1 q5
  conv => arg 2; whnf
  go_wp2_with fail
  refine Met.intro (hS _ _ ?_)
  exact ⟨HW.out, Fr.of _ rfl ⟨rfl, trivial⟩⟩

set_option maxRecDepth 100000 in
set_option maxHeartbeats 1000000 in
theorem deL (Fn : Nat) (hF : ∀ args w, (callFunc Fn args).run Try.prog w = .ok (.enter Fn args) w) (cc : Value) (M g n cap : Nat) (p : ByteArray → Bool) (w0 : World) (hcp : n ≤ 1000000) (hp : ∀ x, Sm x → ∀ w1, w0.grownBy w1 (some g) → Calls Try.prog Fn #[.string x, cc] w1 fun e w2 => e = .returned (.bool (p x)) ∧ Below w1.heap.size w1 w2) (xs : List ByteArray) (r : Int) (hr : 0 ≤ r ∧ r < n) : T3 Try.prog (fun a w => (DfW M g n cap w0 xs w) ∧ Fr 42 [(0, .slice (some ⟨g, 0, none⟩) n cap), (1, .func (.func Fn) #[] #[cc]), (5, .int .i64 r), (6, .int .i64 (r + 1))] a) (sel [1, 1, 1, 0, 1] deF) (fun a w => ∃ (i : Int) (xs : List ByteArray), (0 ≤ i ∧ i < n) ∧ (DfW M g n cap w0 xs w) ∧ Fr 42 [(0, .slice (some ⟨g, 0, none⟩) n cap), (1, .func (.func Fn) #[] #[cc]), (5, .int .i64 i)] a) No 9 No := by
  refine T3.loop (c := (sel [1, 1, 1, 0, 1, 4, 4] deF)) (fun ng_ a w => ∃ (i j : Int) (xs : List ByteArray), (ng_ : Int) = n - j ∧ (0 ≤ i ∧ i < j ∧ j ≤ n) ∧ (DfW M g n cap w0 xs w) ∧ Fr 42 [(0, .slice (some ⟨g, 0, none⟩) n cap), (1, .func (.func Fn) #[] #[cc]), (5, .int .i64 i), (6, .int .i64 j)] a) (fun a w h => ⟨(n - (r + 1)).toNat, r, r + 1, xs, by omega, ⟨by omega, by omega, by omega⟩, h⟩) (fun ng_ => T3.ex fun i => T3.ex fun j => T3.ex fun xs => T3.pure fun hng_ => T3.pure fun hij => ?_)
  refine T3.seq (s := (sel [1, 1, 1, 0, 1, 4, 4, 0] deF)) (c := (sel [1, 1, 1, 0, 1, 4, 4, 1] deF)) (S := fun a w => (j < n) ∧ (DfW M g n cap w0 xs w) ∧ Fr 42 [(0, .slice (some ⟨g, 0, none⟩) n cap), (1, .func (.func Fn) #[] #[cc]), (5, .int .i64 i), (6, .int .i64 j)] a) ?_ (T3.pure fun hj => ?_)
  · refine T3.test (s := (sel [1, 1, 1, 0, 1, 4, 4, 0, 0] deF)) (x := .skip) (y := .exit 0) (C := fun q => (q = decide (j < (n : Int)))) (W := fun w => DfW M g n cap w0 xs w) (by decide) ((de5 Fn hF cc M g n cap p w0 hcp hp xs i j hij).noX) (T3.skip ?_) (T3.exit ?_)
    · rintro a w ⟨hF_, hq, hW⟩
      exact ⟨of_decide_eq_true hq.symm, hW, hF_.tail⟩
    · rintro a w ⟨hq, hW, hF_⟩
      exact ⟨i, xs, ⟨hij.1, by omega⟩, hW, hF_.sub (by simp)⟩
  have hij2 : 0 ≤ i ∧ i < j ∧ j < n := ⟨hij.1, hij.2.1, hj⟩
  refine T3.seq (s := (sel [1, 1, 1, 0, 1, 4, 4, 1, 0] deF)) (c := (sel [1, 1, 1, 0, 1, 4, 4, 1, 1] deF)) (S := fun a w => ∃ (i : Int) (xs : List ByteArray), (0 ≤ i ∧ i ≤ j ∧ j < n) ∧ (DfW M g n cap w0 xs w) ∧ Fr 42 [(0, .slice (some ⟨g, 0, none⟩) n cap), (1, .func (.func Fn) #[] #[cc]), (5, .int .i64 i), (6, .int .i64 j)] a) (T3.block (id' := 1) (c := (sel [1, 1, 1, 0, 1, 4, 4, 1, 0, 4] deF)) (by decide) ?_) (T3.ex fun i' => T3.ex fun xs' => T3.pure fun h' => ?_)
  · refine T3.seq (s := (sel [1, 1, 1, 0, 1, 4, 4, 1, 0, 4, 0] deF)) (c := (sel [1, 1, 1, 0, 1, 4, 4, 1, 0, 4, 1] deF)) ((de7 Fn hF cc M g n cap p w0 hcp hp xs i j hij2).noX) (T3.ex fun x => T3.pure fun hx => ?_)
    refine T3.test (s := (sel [1, 1, 1, 0, 1, 4, 4, 1, 0, 4, 1, 0] deF)) (x := (sel [1, 1, 1, 0, 1, 4, 4, 1, 0, 4, 1, 1, 2] deF)) (y := .skip) (C := fun _ => True) (W := fun w => DfW M g n cap w0 xs w) (by decide) ((de8 Fn hF cc M g n cap p w0 hcp hp xs i j hij2 x hx).noX) ?_ (T3.skip ?_)
    · refine T3.seq (s := (sel [1, 1, 1, 0, 1, 4, 4, 1, 0, 4, 1, 1, 2, 0] deF)) (c := (sel [1, 1, 1, 0, 1, 4, 4, 1, 0, 4, 1, 1, 2, 1] deF)) (T3.pre ((de9 Fn hF cc M g n cap p w0 hcp hp xs i j hij2 x hx).noX) (fun a w q => ⟨q.2.2, q.1.tail⟩)) (T3.ex fun xs' => ?_)
      exact ((de10 Fn hF cc M g n cap p w0 hcp hp xs' i j hij2).noX).post (fun a w q => ⟨i + 1, xs', ⟨by omega, by omega, hj⟩, q⟩)
    · rintro a w ⟨_, hW, hF_⟩
      exact ⟨i, xs, ⟨hij.1, by omega, hj⟩, hW, hF_.sub (by simp)⟩
  · exact ((de6 Fn hF cc M g n cap p w0 hcp hp xs' i' j h').noX).post (fun a w q => ⟨ng_ - 1, by omega, i', j + 1, xs', by omega, ⟨by omega, by omega, by omega⟩, q⟩)

set_option maxRecDepth 100000 in
set_option maxHeartbeats 1000000 in
theorem de_all (Fn : Nat) (hF : ∀ args w, (callFunc Fn args).run Try.prog w = .ok (.enter Fn args) w) (cc : Value) (M g n cap : Nat) (p : ByteArray → Bool) (w0 : World) (hcp : n ≤ 1000000) (hp : ∀ x, Sm x → ∀ w1, w0.grownBy w1 (some g) → Calls Try.prog Fn #[.string x, cc] w1 fun e w2 => e = .returned (.bool (p x)) ∧ Below w1.heap.size w1 w2) (xs : List ByteArray) : T3 Try.prog (fun a w => (DfW M g n cap w0 xs w) ∧ Fr 42 [(0, .slice (some ⟨g, 0, none⟩) n cap), (1, .func (.func Fn) #[] #[cc])] a) deF No No 9 (fun a w => ∃ (m : Nat) (xs : List ByteArray), (m ≤ n) ∧ (DfW M g n cap w0 xs w) ∧ Fr 42 [(4, .slice (some ⟨g, 0, none⟩) m cap)] a) := by
  refine T3.seq (s := (sel [0] deF)) (c := (sel [1] deF)) (T3.noT (de0 Fn hF cc M g n cap p w0 hcp hp xs)) ?_
  refine T3.seq (s := (sel [1, 0] deF)) (c := (sel [1, 1] deF)) (T3.noT (de1 Fn hF cc M g n cap p w0 hcp hp xs)) ?_
  refine T3.ex fun r => T3.pure fun hr => ?_
  refine T3.seq (s := (sel [1, 1, 0] deF)) (c := (sel [1, 1, 1] deF)) (S := fun a w => (0 ≤ r ∧ r < n) ∧ (DfW M g n cap w0 xs w) ∧ Fr 42 [(0, .slice (some ⟨g, 0, none⟩) n cap), (1, .func (.func Fn) #[] #[cc]), (5, .int .i64 r)] a) ?_ (T3.pure fun hr2 => ?_)
  · refine T3.test (s := (sel [1, 1, 0, 0] deF)) (x := (sel [1, 1, 0, 1, 2] deF)) (y := .skip) (C := fun q => (q = (r == -1))) (W := fun w => DfW M g n cap w0 xs w) (by decide) (T3.noT (de2 Fn hF cc M g n cap p w0 hcp hp xs r)) ?_ (T3.skip ?_)
    · refine T3.seq (s := (sel [1, 1, 0, 1, 2, 0] deF)) (c := .ret) (T3.pre (T3.noT (de3 Fn hF cc M g n cap p w0 hcp hp xs)) (fun a w q => ⟨q.2.2, q.1.sub (by simp)⟩)) (T3.ret fun a w q => ⟨n, xs, Nat.le_refl _, q⟩)
    · rintro a w ⟨hq, hW, hF_⟩
      exact ⟨by rcases hr with rfl | hr; exact absurd hq (by decide); exact hr, hW, hF_⟩
  refine T3.seq (s := (sel [1, 1, 1, 0] deF)) (c := (sel [1, 1, 1, 1] deF)) (T3.noT (T3.seq (s := (sel [1, 1, 1, 0, 0] deF)) (c := (sel [1, 1, 1, 0, 1] deF)) (de4 Fn hF cc M g n cap p w0 hcp hp xs r hr2) (deL Fn hF cc M g n cap p w0 hcp hp xs r hr2))) (T3.ex fun i => T3.ex fun xs => T3.pure fun hi => ?_)
  refine T3.seq (s := (sel [1, 1, 1, 1, 0] deF)) (c := (sel [1, 1, 1, 1, 1] deF)) (T3.noT (de11 Fn hF cc M g n cap p w0 hcp hp xs i hi)) (T3.ex fun xs => ?_)
  exact T3.seq (s := (sel [1, 1, 1, 1, 1, 0] deF)) (c := .ret) (T3.noT (de12 Fn hF cc M g n cap p w0 hcp hp xs i hi)) (T3.ret fun a w q => ⟨i.toNat, xs, by omega, q⟩)

theorem owns_part {w : World} {base e n g cap k : Nat} {xs : List Value} (h : w.ownsRow base e 1 (.slice (some ⟨g, 0, none⟩) n cap) n xs) (hk : k ≤ n) : w.ownsRow base e 1 (.slice (some ⟨g, 0, none⟩) k cap) k (xs.take k) := by
  refine ⟨by have := h.1; rw [List.length_take]; omega, ?_⟩
  rcases h.2 with ⟨h0, _⟩ | ⟨g', cap', cur, hv, hb, hg, hn, hc, hs, ht⟩
  · cases h0
  · simp only [Value.slice.injEq, Option.some.injEq, Addr.mk.injEq] at hv
    obtain ⟨⟨rfl, _⟩, _, rfl⟩ := hv
    refine .inr ⟨g, cap, cur, rfl, hb, hg, by omega, hc, hs, ?_⟩
    rw [← ht, List.take_take]
    congr 1
    omega
set_option maxRecDepth 100000 in
set_option maxHeartbeats 1000000 in
theorem del_st (Fn : Nat) (hF : ∀ args w, (callFunc Fn args).run Try.prog w = .ok (.enter Fn args) w) (cc : Value) (M : Nat) (p : ByteArray → Bool) (w0 : World) (v : Value) (l : List ByteArray) (ho : w0.ownsRow M 9 1 v l.length (cellsOf encSt l)) (hz : SmAll l) (hM : M ≤ w0.heap.size) (hcp : l.length ≤ 1000000) (hp : ∀ x, Sm x → ∀ w1, w0.grownBy w1 v.ownBlock → Calls Try.prog Fn #[.string x, cc] w1 fun e w2 => e = .returned (.bool (p x)) ∧ Below w1.heap.size w1 w2) :
    Calls Try.prog 12 #[v, .func (.func Fn) #[] #[cc]] w0 fun e w' => ∃ (v4 : Value) (ks : List ByteArray), e = .returned v4 ∧ Row w' 0 1 v4 ks.length (cellsOf encSt ks) ∧ SmAll ks ∧ ks.length ≤ l.length ∧ w0.grownBy w' v.ownBlock := by
  by_cases hl : l.length = 0
  · obtain rfl : l = [] := List.length_eq_zero_iff.1 hl
    have HC := Lib.hid (idx_st Fn hF cc v [] p 0 w0 ((Row.of_owns ho).mono (Nat.zero_le _)) (by decide) (fun x hx => by cases hx))
    have HO := Lib.hid (fun w' (b : Below w0.heap.size w0 w') => And.intro ((Row.of_owns (owns_below ho b (Nat.le_refl _))).mono (Nat.zero_le _)) (grown_of_below b (row := v.ownBlock)))
    obtain ⟨q, d, hv⟩ := (Row.of_owns ho).shape
    subst hv
    clear ho hp hz hl
    rw [show idxI ([] : List ByteArray) p = -1 from rfl] at HC
    go_enter Try.func12, Try.ntmps12
    go_wp2_with fail
    refine HC.out.mono ?_
    rintro e w1 ⟨rfl, hb⟩
    obtain ⟨h1, h2⟩ := HO.out w1 hb
    have H1 := Lib.hid h1
    have H2 := Lib.hid h2
    clear hb h1 h2
    go_wp2_with fail
    go_ret
    exact ⟨_, [], rfl, H1.out, (fun s hs => by cases hs), Nat.le_refl _, H2.out⟩
  · obtain ⟨g, c, hv, _, _, _, _⟩ := owns_shape ho (by omega)
    subst hv
    have hall := de_all Fn hF cc M g l.length c p w0 hcp hp l
    go_enter Try.func12, Try.ntmps12
    refine T3.done (s := deF) hall ⟨⟨grown_refl _ _, hM, ho, hz, rfl⟩, Fr.of _ rfl ⟨rfl, rfl, trivial⟩⟩ ?_
    rintro a w ⟨m, xs, hm, hW, fr, rfl, q4, _⟩
    rw [fr_deF, show fr 4 = _ from q4]
    go_ret
    have hmx : (xs.take m).length = m := by rw [List.length_take]; have := hW.l; omega
    refine ⟨_, xs.take m, rfl, ?_, fun s hs => hW.z s (List.mem_of_mem_take hs), by omega, hW.b⟩
    have := (Row.of_owns (owns_part hW.o hm)).mono (Nat.zero_le _)
    rw [hmx, cells_map, List.map_take, ← cells_map]
    exact this
set_option maxRecDepth 100000 in
set_option maxHeartbeats 1000000 in
theorem equal_fills (v1 v2 : Value) (n : Nat) (l : List FlD) (b1 b2 : Nat) (w : World) (h1 : Row w b1 2 v1 n (cellsOf encFl l)) (h2 : Row w b2 2 v2 n (cellsOf encFl l)) (hn : n ≤ 1099511627776) :
    Calls Try.prog 20 #[v1, v2] w fun e w' => e = .returned (.bool true) ∧ Below w.heap.size w w' := by
  obtain ⟨hl1, hc1⟩ := h1.els encFl_length (by decide)
  obtain ⟨hl2, hc2⟩ := h2.els encFl_length (by decide)
  obtain ⟨a1, cap1, hv1⟩ := h1.shape
  obtain ⟨a2, cap2, hv2⟩ := h2.shape
  subst hv1
  subst hv2
  clear h1 h2 hl2 hl1
  have hbn : ((n : Int) != n) = false := by simp
  go_enter Try.func20, Try.ntmps20
  go_wp2
  go_loopw [13] (fun i wr => ∃ k : Int, 0 ≤ k ∧ k ≤ n ∧ i = .int .i64 k ∧ Below w.heap.size w wr) (fun i _ => n - (intOf i).toNat)
  case atStart => exact ⟨0, by omega, by omega, rfl, Below.refl _ _⟩
  case round =>
    obtain ⟨k, hk0, hk1, rfl, hb⟩ := hrel
    by_cases hlt : k < n
    · rcases hc1 with ⟨h, h0⟩ | ⟨bz1, off1, cap1', h, hbb1, hbs1, hnc1, hcm1, hcell1⟩
      · omega
      rcases hc2 with ⟨h', h0⟩ | ⟨bz2, off2, cap2', h', hbb2, hbs2, hnc2, hcm2, hcell2⟩
      · omega
      simp only [Value.slice.injEq] at h h'
      obtain ⟨rfl, _, rfl⟩ := h
      obtain ⟨rfl, _, rfl⟩ := h'
      have r1 := (hb.cell (p := ⟨bz1, off1 + k.toNat * 2 + 0, none⟩) hbs1).trans (hcell1 k hk0 hlt 0 _ rfl)
      have r2 := (hb.cell (p := ⟨bz1, off1 + k.toNat * 2 + 1, none⟩) hbs1).trans (hcell1 k hk0 hlt 1 _ rfl)
      have s1 := (hb.cell (p := ⟨bz2, off2 + k.toNat * 2 + 0, none⟩) hbs2).trans (hcell2 k hk0 hlt 0 _ rfl)
      have s2 := (hb.cell (p := ⟨bz2, off2 + k.toNat * 2 + 1, none⟩) hbs2).trans (hcell2 k hk0 hlt 1 _ rfl)
      rw [Nat.add_zero] at r1 s1
      generalize (geta l k).sl = x at *
      generalize (geta l k).pl = y at *
      clear hcell1 hcell2
      have hkn : k ≤ 1099511627776 := by omega
      go_wp2
      go_quiet (fail)
      go_wp2
      go_roundw
      case rel => exact ⟨k + 1, by omega, by omega, rfl, below_drewN hb _⟩
      case measure => simp [intOf]; omega
    · clear hc1 hc2
      go_wp2
      go_ret
      exact ⟨rfl, hb⟩
end Go.Proofs.Ytnmdpphddimfbaa
/-
  Line-ups: slots that the stream hands out, whole. Conditions: the bounds that each theorem names.
-/
set_option linter.unusedVariables false
namespace Go.Proofs.Ytnmdpphddimfbaa
open Go.RowKit Go.Bw
set_option maxRecDepth 100000 in
set_option maxHeartbeats 1000000 in
theorem st5 (B b : Nat) (w0 : World) (hb : b ≤ 40000) (v3 : Value) (S : List SlD) : T3 Try.prog (fun a w => (SlO B (b + 25) w0 v3 S w) ∧ Fr 41 [(0, .pointer (some ⟨B, 0, none⟩)), (3, v3)] a) (sel [1, 1, 1, 0, 0] slM) (fun a w => ∃ q, Fr 41 ((39, .bool q) :: [(0, .pointer (some ⟨B, 0, none⟩)), (3, v3)]) a ∧ (True ∧ SlO B (b + 26) w0 v3 S w)) No 9 No := by
  refine T3.leaf ?_
  rintro Q JS JX JT K hS hK hX hE hT hR a w ⟨hW, ⟨fr, rfl, q0, q3, _⟩⟩
  obtain ⟨p3, c3, hv3⟩ := (Row.of_owns hW.o).shape
  subst hv3
  rw [fr_slM, show fr 0 = _ from q0, show fr 3 = _ from q3]
  clear q0 q3
  conv => arg 2; whnf
  go_wp2_with fail
  refine (flip_d B (b + 25) _ w hW.d.str rfl (by omega)).mono ?_
  rintro e w1 ⟨q, rfl, hd⟩
  have HW := Lib.hid (hW.drawn hd)
  clear hd hW
  go_wp2_with fail
  refine Met.intro (hS _ _ ?_)
  exact ⟨_, Fr.of _ rfl ⟨rfl, rfl, rfl, trivial⟩, trivial, HW.out⟩

set_option maxRecDepth 100000 in
set_option maxHeartbeats 1000000 in
theorem st6 (B b : Nat) (w0 : World) (hb : b ≤ 40000) (v3 : Value) (S : List SlD) : T3 Try.prog (fun a w => (SlO B (b + 26) w0 v3 S w) ∧ Fr 41 [(0, .pointer (some ⟨B, 0, none⟩)), (3, v3)] a) (sel [1, 1, 1, 0, 1, 2, 0] slM) (fun a w => (SlO B (b + 26) w0 (.slice none 0 0) [] w) ∧ Fr 41 [(2, .slice none 0 0)] a) No 9 No := by
  refine T3.leaf ?_
  rintro Q JS JX JT K hS hK hX hE hT hR a w ⟨hW, ⟨fr, rfl, q0, q3, _⟩⟩
  have HW := Lib.hid (SlO.nil hW.d hW.hB)
  obtain ⟨p3, c3, hv3⟩ := (Row.of_owns hW.o).shape
  subst hv3
  clear hW
  rw [fr_slM, show fr 0 = _ from q0, show fr 3 = _ from q3]
  clear q0 q3
  conv => arg 2; whnf
  go_wp2_with fail
  refine Met.intro (hS _ _ ?_)
  exact ⟨HW.out, Fr.of _ rfl ⟨rfl, trivial⟩⟩

set_option maxRecDepth 100000 in
set_option maxHeartbeats 1000000 in
theorem st7 (B b : Nat) (w0 : World) (hb : b ≤ 40000) (v3 : Value) (S : List SlD) : T3 Try.prog (fun a w => (SlO B (b + 26) w0 v3 S w) ∧ Fr 41 [(0, .pointer (some ⟨B, 0, none⟩)), (3, v3)] a) (sel [1, 1, 1, 1, 0] slM) (fun a w => (SlO B (b + 26) w0 v3 S w) ∧ Fr 41 [(2, v3)] a) No 9 No := by
  refine T3.leaf ?_
  rintro Q JS JX JT K hS hK hX hE hT hR a w ⟨hW, ⟨fr, rfl, q0, q3, _⟩⟩
  have HW := Lib.hid hW
  obtain ⟨p3, c3, hv3⟩ := (Row.of_owns hW.o).shape
  subst hv3
  clear hW
  rw [fr_slM, show fr 0 = _ from q0, show fr 3 = _ from q3]
  clear q0 q3
  conv => arg 2; whnf
  go_wp2_with fail
  refine Met.intro (hS _ _ ?_)
  exact ⟨HW.out, Fr.of _ rfl ⟨rfl, trivial⟩⟩

set_option maxRecDepth 100000 in
set_option maxHeartbeats 1000000 in
theorem st_all (B b : Nat) (w0 : World) (hb : b ≤ 40000) : T3 Try.prog (fun a w => (Str B w b ∧ IsW w0 w) ∧ Fr 41 [(0, .pointer (some ⟨B, 0, none⟩))] a) slM No No 9 (fun a w => ∃ (v3 : Value) (S : List SlD), (S.length ≤ 4) ∧ (SlO B (b + 26) w0 v3 S w) ∧ Fr 41 [(2, v3)] a) := by
  refine T3.seq (s := (sel [0] slM)) (c := (sel [1] slM)) (T3.noT (st0 B b w0 hb)) ?_
  refine T3.seq (s := (sel [1, 0] slM)) (c := (sel [1, 1] slM)) (T3.noT (st1 B b w0 hb)) ?_
  refine T3.ex fun v3 => T3.ex fun S => T3.pure fun hn => ?_
  refine T3.seq (s := (sel [1, 1, 0] slM)) (c := (sel [1, 1, 1] slM)) (S := (fun a w => ∃ (v3 : Value) (S : List SlD), (S.length ≤ 4) ∧ (SlO B (b + 25) w0 v3 S w) ∧ Fr 41 [(0, .pointer (some ⟨B, 0, none⟩)), (3, v3)] a)) ?_ (T3.ex fun v3 => T3.ex fun S => T3.pure fun hn => ?_)
  · refine T3.test (s := (sel [1, 1, 0, 0] slM)) (x := (sel [1, 1, 0, 1, 2] slM)) (y := .skip) (C := fun _ => True) (W := fun w => SlO B (b + 22) w0 v3 S w) (by decide) (T3.noT (st2 B b w0 hb v3 S hn)) ?_ (T3.skip ?_)
    · refine T3.pre (R := fun a w => ∃ (g : Nat) (c : Nat), (SlO B (b + 22) w0 (.slice (some ⟨g, 0, none⟩) S.length c) S w) ∧ Fr 41 [(0, .pointer (some ⟨B, 0, none⟩)), (3, .slice (some ⟨g, 0, none⟩) S.length c)] a) (T3.ex fun g => T3.ex fun c => ?_) ?_
      · refine T3.seq (s := (sel [1, 1, 0, 1, 2, 0] slM)) (c := (sel [1, 1, 0, 1, 2, 1] slM)) (T3.noT (st3 B b w0 hb v3 S hn g c)) (T3.ex fun i => T3.pure fun hi => ?_)
        refine T3.post (T3.noT (st4 B b w0 hb v3 S hn g c i hi)) ?_
        rintro a w ⟨S', hl, hW, hF⟩
        exact ⟨_, S', by have := hn.h; omega, hW, hF⟩
      · rintro a w ⟨hF, hq, hW⟩
        obtain ⟨g, c, hv, _⟩ := owns_shape hW.o (by have := hn.h; omega)
        subst hv
        exact ⟨g, c, hW, hF.sub (by simp)⟩
    · rintro a w ⟨hq, hW, hF⟩
      exact ⟨v3, S, hn.h.2, hW.mono (Nat.add_le_add_left (by decide : 22 ≤ 25) b), hF.sub (by simp)⟩
  refine T3.seq (s := (sel [1, 1, 1, 0] slM)) (c := (sel [1, 1, 1, 1] slM)) (S := (fun a w => (SlO B (b + 26) w0 v3 S w) ∧ Fr 41 [(0, .pointer (some ⟨B, 0, none⟩)), (3, v3)] a)) ?_ ?_
  · refine T3.test (s := (sel [1, 1, 1, 0, 0] slM)) (x := (sel [1, 1, 1, 0, 1, 2] slM)) (y := .skip) (C := fun _ => True) (W := fun w => SlO B (b + 26) w0 v3 S w) (by decide) (T3.noT (st5 B b w0 hb v3 S)) ?_ (T3.skip ?_)
    · refine T3.pre (R := (fun a w => (SlO B (b + 26) w0 v3 S w) ∧ Fr 41 [(0, .pointer (some ⟨B, 0, none⟩)), (3, v3)] a)) ?_ (fun a w q => ⟨q.2.2, q.1.tail⟩)
      exact T3.seq (s := (sel [1, 1, 1, 0, 1, 2, 0] slM)) (c := .ret) (T3.noT (st6 B b w0 hb v3 S)) (T3.ret fun a w q => ⟨_, [], Nat.zero_le _, q⟩)
    · rintro a w ⟨hq, hW, hF⟩
      exact ⟨hW, hF⟩
  exact T3.seq (s := (sel [1, 1, 1, 1, 0] slM)) (c := .ret) (T3.noT (st7 B b w0 hb v3 S)) (T3.ret fun a w q => ⟨v3, S, hn, q⟩)

set_option maxRecDepth 100000 in
set_option maxHeartbeats 1000000 in
theorem slotsS_any (B b : Nat) (w0 : World) (hS : Str B w0 b) (hb : b ≤ 40000) : Calls Try.prog 4 #[.pointer (some ⟨B, 0, none⟩)] w0 fun e w' => ∃ (v3 : Value) (S : List SlD), e = .returned v3 ∧ S.length ≤ 4 ∧ SlO B (b + 26) w0 v3 S w' := by
  have hall := st_all B b w0 hb
  go_enter Try.func4, Try.ntmps4
  refine T3.done (s := slM) hall ⟨⟨hS, rfl⟩, Fr.of _ rfl ⟨rfl, trivial⟩⟩ ?_
  rintro a w ⟨v3, L, hn, hW, fr, rfl, q2, _⟩
  rw [fr_slM, show fr 2 = _ from q2]
  go_ret
  exact ⟨v3, L, rfl, hn, hW⟩
end Go.Proofs.Ytnmdpphddimfbaa
/-
  Line-ups: who comes in (Subbed). Conditions: at most 1000 of each; strings of at most 1000 bytes; whole numbers are Go's.
-/
set_option linter.unusedVariables false
namespace Go.Proofs.Ytnmdpphddimfbaa
open Go.RowKit Go.Bw
theorem el_flI : Elem Try.prog 30 42 (.agg #[.string ByteArray.empty, .string ByteArray.empty]) 2 32 := ⟨by kernel_rfl, by kernel_rfl, by kernel_rfl, by decide, by decide⟩
theorem cellsFl_one (l : List FlD) : ∀ u ∈ cellsOf encFl l, u.oneCell' = true := by
  intro u hu
  simp only [cellsOf, List.mem_flatMap] at hu
  obtain ⟨p, _, hp⟩ := hu
  simp [encFl] at hp
  rcases hp with rfl | rfl <;> rfl
set_option maxRecDepth 100000 in
set_option maxHeartbeats 1000000 in
theorem clone_fl (v : Value) (l : List FlD) (w : World) (h : FlH w v l) :
    Calls Try.prog 44 #[v] w fun e w' => ∃ v', e = .returned v' ∧ w'.ownsRow w.heap.size 42 2 v' l.length (cellsOf encFl l) ∧ Below w.heap.size w w' := by
  have hn := h.n
  have hone := cellsFl_one l
  have hE := el_flI
  have q24 : ∀ (w : World) (a : Option Addr) (n c n' c' : Nat), (binOp .eql 30 (.slice a n c) (.slice none n' c')).run Try.prog w = .ok (.bool a.isNone) w := fun w a n c n' c' => Lib.run_eql_slice_nil w 30 42 a n c n' c' (by kernel_rfl)
  have hR := h.r
  rcases hR.2 with ⟨rfl, h0⟩ | ⟨b, off, cap, rfl, _, hbs, hnc, hcm, hcell⟩
  · obtain rfl : l = [] := List.length_eq_zero_iff.1 h0
    clear h hR hn hone
    go_enter Try.func44, Try.ntmps44
    go_wp2_with fail
    go_ret
    exact ⟨_, rfl, World.ownsRow_nil _ _ _ _, Below.refl _ _⟩
  · have hown : (w.alloc (.cells #[] 42)).ownsRow w.heap.size 42 2 (.slice (some ⟨w.heap.size, 0, none⟩) 0 0) 0 [] := World.ownsRow_lit w #[] 0 (Nat.le_refl _) (by decide) rfl
    have hR2 := hR.below ((Below.refl w.heap.size w).alloc (Nat.le_refl _) (.cells #[] 42))
    have HB := Lib.hid ((Below.refl w.heap.size w).alloc (Nat.le_refl _) (.cells #[] 42))
    have hsz : w.heap.size ≤ (w.alloc (.cells #[] 42)).heap.size := by simp
    clear hcell hR h
    go_enter Try.func44, Try.ntmps44
    go_wp2_with (at_builtin; refine app_rowR rfl _ _ _ rfl hE hown rfl hR2 rfl hone (by omega) hsz ?_; intro v' w3 hown3 hgr)
    have HR := Lib.hid (HB.out.grown hgr HB.out.size (fun j hj => (hown.lt j hj).1))
    have HO := Lib.hid hown3
    clear hown3 hgr hown hR2
    go_ret
    refine ⟨v', rfl, ?_, HR.out⟩
    have := HO.out
    rwa [Nat.zero_add, List.nil_append] at this
theorem cellsFl_set : ∀ (l : List FlD) (i : Nat) (p : ByteArray), i < l.length → (cellsOf encFl l).set (i * 2 + 1) (.string p) = cellsOf encFl (l.set i ⟨(geta l (i : Int)).sl, p⟩)
  | [], _, _, h => by simp at h
  | x :: l, 0, p, _ => rfl
  | x :: l, i + 1, p, h => by
    have ih := cellsFl_set l i p (by simpa using h)
    rw [List.set_cons_succ, cellsOf_cons, cellsOf_cons]
    show ([Value.string x.sl, Value.string x.pl] ++ cellsOf encFl l).set ((i + 1) * 2 + 1) (.string p) = [Value.string x.sl, Value.string x.pl] ++ _
    rw [show (i + 1) * 2 + 1 = (i * 2 + 1) + 1 + 1 by omega]
    show Value.string x.sl :: Value.string x.pl :: (cellsOf encFl l).set (i * 2 + 1) (.string p) = _
    rw [ih]
    have e : geta (x :: l) ((i + 1 : Nat) : Int) = geta l (i : Int) := by
      unfold geta
      rw [show (((i + 1 : Nat) : Int)).toNat = i + 1 by omega, show ((i : Nat) : Int).toNat = i by omega, List.getElem?_cons_succ]
    rw [e]; rfl
def subE (S : List SlD) (L : List ScD) (F : List FlD) (K : List ByteArray) : Int := if allE S L F ≠ 0 then allE S L F else benchE L F K
def subR (S : List SlD) (L : List ScD) (F : List FlD) (K : List ByteArray) : List FlD := if subE S L F K = 0 then subL S L F K else []
/-- All is right. -/
structure SuG (S : List SlD) (L : List ScD) (F : List FlD) (K : List ByteArray) : Prop where
  a : allE S L F = 0
  b : benchE L F K = 0
section
variable {S : List SlD} {L : List ScD} {F : List FlD} {K : List ByteArray}
theorem SuG.e (h : SuG S L F K) : subE S L F K = 0 := by unfold subE; rw [if_neg (by simp [h.a])]; exact h.b
theorem SuG.r (h : SuG S L F K) : subR S L F K = subL S L F K := by unfold subR; rw [if_pos h.e]
theorem SuG.ss (h : SuG S L F K) : ssE S L = 0 := by
  by_cases e : ssE S L = 0
  · exact e
  · have := allE_ss (F := F) e
    rw [h.a] at this
    exact absurd this.symm e
theorem SuG.f (h : SuG S L F K) : fillsE S L F = 0 := by rw [← allE_fills (F := F) h.ss]; exact h.a
theorem SuG.len (h : SuG S L F K) : F.length = S.length := by
  have := h.f
  unfold fillsE at this
  split at this
  · cases this
  · rename_i e; omega
theorem SuG.fill (h : SuG S L F K) {k : Int} (h0 : 0 ≤ k) (h1 : k < F.length) : fillAt S L F k = 0 := by
  have := h.f
  unfold fillsE at this
  split at this
  · cases this
  · exact firstErr_zero this k h0 h1
theorem SuG.bench (h : SuG S L F K) {k : Int} (h0 : 0 ≤ k) (h1 : k < K.length) : ¬ scIdx L (geta K k) < 0 := by
  have := h.b
  unfold benchE at this
  split at this
  · cases this
  · have := firstErr_zero this k h0 h1
    unfold benchAt at this
    split at this
    · cases this
    · assumption
theorem SuG.idx (h : SuG S L F K) {k : Int} (h0 : 0 ≤ k) (h1 : k < F.length) (hne : (geta F k).pl ≠ ByteArray.empty) : ¬ scIdx L (geta F k).pl < 0 := by
  have := h.fill h0 h1
  unfold fillAt at this
  split at this
  · cases this
  · split at this
    · cases this
    · assumption
theorem no_empty (h : scorersE L = 0) : scIdx L ByteArray.empty < 0 := by
  by_cases e : scIdx L ByteArray.empty < 0
  · exact e
  · have h0 : 0 ≤ scIdx L ByteArray.empty := by omega
    obtain ⟨h1, h2⟩ := idxI_lt (l := L) (p := fun y => decide (y.pl = ByteArray.empty)) h0
    have h2 : (geta L (scIdx L ByteArray.empty)).pl = ByteArray.empty := of_decide_eq_true h2
    unfold scorersE at h
    split at h
    · cases h
    · have := firstErr_zero h _ h0 h1
      unfold scorerAt at this
      rw [h2, keyB_empty rfl] at this
      simp at this
theorem SuG.sc (h : SuG S L F K) : scorersE L = 0 := by
  have := h.ss
  unfold ssE at this
  split at this
  · rename_i e; exact absurd this e
  · exact this
theorem stays_empty (h : SuG S L F K) : stays L ByteArray.empty = false := by
  have := no_empty h.sc
  unfold stays
  rw [show decide (0 ≤ scIdx L ByteArray.empty) = false by simp; omega]
  rfl
theorem subK_stay {i : Nat} (h : stays L (geta F i).pl = true) : subK S L F K (i + 1) = subK S L F K i := by
  show subOne S L K i (subK S L F K i) = _
  unfold subOne
  rw [subK_at, if_pos h]
theorem subK_none {i : Nat} (h : stays L (geta F i).pl = false) (hn : ∀ j : Int, 0 ≤ j → j < K.length → okSub S L (subK S L F K i) i (geta K j) = false) : subK S L F K (i + 1) = subK S L F K i := by
  show subOne S L K i (subK S L F K i) = _
  unfold subOne
  rw [subK_at, if_neg (by rw [h]; decide)]
  have e : K.find? (okSub S L (subK S L F K i) i) = none := by
    rw [List.find?_eq_none]
    intro x hx
    obtain ⟨j, hj, rfl⟩ := List.getElem_of_mem hx
    have := hn j (by omega) (by omega)
    rw [geta_eq K j (by omega) (by omega)] at this
    simpa using this
  rw [e]
theorem subK_put {i : Nat} {j : Int} (h : stays L (geta F i).pl = false) (h0 : 0 ≤ j) (h1 : j < K.length) (hn : ∀ j' : Int, 0 ≤ j' → j' < j → okSub S L (subK S L F K i) i (geta K j') = false) (ho : okSub S L (subK S L F K i) i (geta K j) = true) :
    subK S L F K (i + 1) = (subK S L F K i).set i ⟨(geta (subK S L F K i) (i : Int)).sl, geta K j⟩ := by
  show subOne S L K i (subK S L F K i) = _
  unfold subOne
  have hst : ¬ stays L (geta (subK S L F K i) (i : Int)).pl = true := by rw [subK_at, h]; decide
  rw [if_neg hst]
  have e : K.find? (okSub S L (subK S L F K i) i) = some (geta K j) := by
    rw [List.find?_eq_some_iff_getElem]
    refine ⟨ho, j.toNat, by omega, (geta_eq K j h0 h1).symm, fun j' hj' => ?_⟩
    have := hn j' (by omega) (by omega)
    rw [geta_eq K j' (by omega) (by omega)] at this
    simpa using this
  rw [e]
end
/-- The fills so far, the call's own. -/
structure SuW (w0 : World) (S : List SlD) (L : List ScD) (F : List FlD) (K : List ByteArray) (v12 : Value) (k : Nat) (w : World) : Prop where
  bel : Below w0.heap.size w0 w
  own : w.ownsRow w0.heap.size 42 2 v12 F.length (cellsOf encFl (subK S L F K k))
theorem SuW.below {w0 w w' : World} {S : List SlD} {L : List ScD} {F : List FlD} {K : List ByteArray} {v12 : Value} {k : Nat} (h : SuW w0 S L F K v12 k w) (b : Below w.heap.size w w') : SuW w0 S L F K v12 k w' := ⟨h.bel.trans (b.mono h.bel.size), owns_below h.own b (Nat.le_refl _)⟩
theorem SuW.step {w0 w : World} {S : List SlD} {L : List ScD} {F : List FlD} {K : List ByteArray} {v12 : Value} {k : Nat} (h : SuW w0 S L F K v12 k w) (e : subK S L F K (k + 1) = subK S L F K k) : SuW w0 S L F K v12 (k + 1) w := ⟨h.bel, by rw [e]; exact h.own⟩
theorem SuW.fl {w0 w : World} {S : List SlD} {L : List ScD} {F : List FlD} {K : List ByteArray} {v12 : Value} {k : Nat} (h : SuW w0 S L F K v12 k w) : Row w 0 2 v12 (subK S L F K k).length (cellsOf encFl (subK S L F K k)) := by
  rw [subK_length]
  exact (Row.of_owns h.own).mono (Nat.zero_le _)
theorem SuW.put {w0 w : World} {S : List SlD} {L : List ScD} {F : List FlD} {K : List ByteArray} {g c : Nat} {k : Nat} (h : SuW w0 S L F K (.slice (some ⟨g, 0, none⟩) F.length c) k w) (hk : k < F.length) {p : ByteArray} (e : subK S L F K (k + 1) = (subK S L F K k).set k ⟨(geta (subK S L F K k) (k : Int)).sl, p⟩) :
    SuW w0 S L F K (.slice (some ⟨g, 0, none⟩) F.length c) (k + 1) (w.setCell ⟨g, k * 2 + 1, none⟩ (.string p)) := by
  refine ⟨h.bel.grown (grown_setCell w g _ _) h.bel.size (fun j hj => by cases hj; exact (h.own.lt g rfl).1), ?_⟩
  rw [e, ← cellsFl_set _ _ _ (by rw [subK_length]; exact hk)]
  exact owns_setC h.own _ (by omega) _
/-- Names on the bench and in fills are short. -/
theorem subK_z {S : List SlD} {L : List ScD} {F : List FlD} {K : List ByteArray} (hF : ∀ x ∈ F, x.sl.size ≤ 1000 ∧ x.pl.size ≤ 1000) (hK : ∀ s ∈ K, s.size ≤ 1000) : ∀ k, ∀ x ∈ subK S L F K k, x.sl.size ≤ 1000 ∧ x.pl.size ≤ 1000
  | 0 => hF
  | k + 1 => by
    have ih := subK_z (S := S) (L := L) hF hK k
    show ∀ x ∈ subOne S L K k (subK S L F K k), _
    unfold subOne
    split
    · exact ih
    · split
      · exact ih
      · rename_i p hp
        intro x hx
        rcases List.mem_or_eq_of_mem_set hx with h | rfl
        · exact ih x h
        · refine ⟨?_, hK p (List.mem_of_find?_eq_some hp)⟩
          unfold geta
          cases hg : (subK S L F K k)[(k : Int).toNat]? with
          | none => show (default : FlD).sl.size ≤ 1000; decide
          | some y => exact (ih y (List.mem_of_getElem? hg)).1
noncomputable def suP : Code := (Try.f16.body).getD .skip
set_option maxRecDepth 100000 in
theorem fr_suP (f : Nat → Value) : frame 95 f = ⟨#[f 0, f 1, f 2, f 3, f 4, f 5, f 6, f 7, f 8, f 9, f 10, f 11, f 12, f 13, f 14, f 15, f 16, f 17, f 18, f 19, f 20, f 21, f 22, f 23, f 24, f 25, f 26, f 27, f 28, f 29, f 30, f 31, f 32, f 33, f 34, f 35, f 36, f 37, f 38, f 39, f 40, f 41, f 42, f 43, f 44, f 45, f 46, f 47, f 48, f 49, f 50, f 51, f 52, f 53, f 54, f 55, f 56, f 57, f 58, f 59, f 60, f 61, f 62, f 63, f 64, f 65, f 66, f 67, f 68, f 69, f 70, f 71, f 72, f 73, f 74, f 75, f 76, f 77, f 78, f 79, f 80, f 81, f 82, f 83, f 84, f 85, f 86, f 87, f 88, f 89, f 90, f 91, f 92, f 93, f 94], []⟩ := by rfl
set_option maxRecDepth 100000 in
set_option maxHeartbeats 1000000 in
theorem su0 (w0 : World) (vs vl vf vk : Value) (S : List SlD) (L : List ScD) (Fs : List FlD) (K : List ByteArray) (hs : SlH w0 vs S) (hl : ScH w0 vl L) (hf : FlH w0 vf Fs) (hb : BnH w0 vk K) : T3 Try.prog (fun a w => (Below w0.heap.size w0 w) ∧ Fr 95 [(0, vs), (1, vl), (2, vf), (3, vk)] a) (sel [0] suP) (fun a w => (Below w0.heap.size w0 w) ∧ Fr 95 [(0, vs), (1, vl), (2, vf), (3, vk)] a) No 9 No := by
  refine T3.leaf ?_
  rintro Q JS JX JT K_ hS hK hX hE hT hR a w ⟨hW, ⟨fr, rfl, q0, q1, q2, q3, _⟩⟩
  have HW := Lib.hid hW
  obtain ⟨p1, c1, hv1⟩ := hs.r.shape
  subst hv1
  obtain ⟨p2, c2, hv2⟩ := hl.r.shape
  subst hv2
  obtain ⟨p3, c3, hv3⟩ := hf.r.shape
  subst hv3
  obtain ⟨p4, c4, hv4⟩ := hb.r.shape
  subst hv4
  clear hW
  rw [fr_suP, show fr 0 = _ from q0, show fr 1 = _ from q1, show fr 2 = _ from q2, show fr 3 = _ from q3]
  clear q0 q1 q2 q3
  conv => arg 2; whnf
  go_wp2_with fail
  refine Met.intro (hS _ _ ?_)
  exact ⟨HW.out, Fr.of _ rfl ⟨rfl, rfl, rfl, rfl, trivial⟩⟩

set_option maxRecDepth 100000 in
set_option maxHeartbeats 1000000 in
theorem su1 (w0 : World) (vs vl vf vk : Value) (S : List SlD) (L : List ScD) (Fs : List FlD) (K : List ByteArray) (hs : SlH w0 vs S) (hl : ScH w0 vl L) (hf : FlH w0 vf Fs) (hb : BnH w0 vk K) : T3 Try.prog (fun a w => (Below w0.heap.size w0 w) ∧ Fr 95 [(0, vs), (1, vl), (2, vf), (3, vk)] a) (sel [1, 0, 0] suP) (fun a w => (Below w0.heap.size w0 w) ∧ Fr 95 [(0, vs), (1, vl), (2, vf), (3, vk), (10, .int .i64 (allE S L Fs))] a) No 9 No := by
  refine T3.leaf ?_
  rintro Q JS JX JT K_ hS hK hX hE hT hR a w ⟨hW, ⟨fr, rfl, q0, q1, q2, q3, _⟩⟩
  have HC := Lib.hid (fills_prog w vs vl vf S L Fs (hs.below hW) (hl.below hW) (hf.below hW))
  have HW := Lib.hid hW
  obtain ⟨p1, c1, hv1⟩ := hs.r.shape
  subst hv1
  obtain ⟨p2, c2, hv2⟩ := hl.r.shape
  subst hv2
  obtain ⟨p3, c3, hv3⟩ := hf.r.shape
  subst hv3
  obtain ⟨p4, c4, hv4⟩ := hb.r.shape
  subst hv4
  clear hW
  generalize allE S L Fs = e0 at *
  rw [fr_suP, show fr 0 = _ from q0, show fr 1 = _ from q1, show fr 2 = _ from q2, show fr 3 = _ from q3]
  clear q0 q1 q2 q3
  conv => arg 2; whnf
  go_wp2_with fail
  refine HC.out.mono ?_
  rintro e w1 ⟨rfl, hb1⟩
  have HR := Lib.hid (HW.out.trans (hb1.mono HW.out.size))
  clear hb1
  go_wp2_with fail
  refine Met.intro (hS _ _ ?_)
  exact ⟨HR.out, Fr.of _ rfl ⟨rfl, rfl, rfl, rfl, rfl, trivial⟩⟩

set_option maxRecDepth 100000 in
set_option maxHeartbeats 1000000 in
theorem su2 (w0 : World) (vs vl vf vk : Value) (S : List SlD) (L : List ScD) (Fs : List FlD) (K : List ByteArray) (hs : SlH w0 vs S) (hl : ScH w0 vl L) (hf : FlH w0 vf Fs) (hb : BnH w0 vk K) : T3 Try.prog (fun a w => (Below w0.heap.size w0 w) ∧ Fr 95 [(0, vs), (1, vl), (2, vf), (3, vk), (10, .int .i64 (allE S L Fs))] a) (sel [1, 0, 1, 0] suP) (fun a w => ∃ q, Fr 95 ((23, .bool q) :: [(0, vs), (1, vl), (2, vf), (3, vk), (10, .int .i64 (allE S L Fs))]) a ∧ ((q = (allE S L Fs != 0)) ∧ Below w0.heap.size w0 w)) No 9 No := by
  refine T3.leaf ?_
  rintro Q JS JX JT K_ hS hK hX hE hT hR a w ⟨hW, ⟨fr, rfl, q0, q1, q2, q3, q10, _⟩⟩
  have HW := Lib.hid hW
  obtain ⟨p1, c1, hv1⟩ := hs.r.shape
  subst hv1
  obtain ⟨p2, c2, hv2⟩ := hl.r.shape
  subst hv2
  obtain ⟨p3, c3, hv3⟩ := hf.r.shape
  subst hv3
  obtain ⟨p4, c4, hv4⟩ := hb.r.shape
  subst hv4
  clear hW
  generalize allE S L Fs = e0 at *
  generalize hqq : (e0 != 0) = qq at *
  rw [fr_suP, show fr 0 = _ from q0, show fr 1 = _ from q1, show fr 2 = _ from q2, show fr 3 = _ from q3, show fr 10 = _ from q10]
  clear q0 q1 q2 q3 q10
  conv => arg 2; whnf
  go_wp2_with fail
  refine Met.intro (hS _ _ ?_)
  exact ⟨_, Fr.of _ rfl ⟨rfl, rfl, rfl, rfl, rfl, rfl, trivial⟩, rfl, HW.out⟩

set_option maxRecDepth 100000 in
set_option maxHeartbeats 1000000 in
theorem su3 (w0 : World) (vs vl vf vk : Value) (S : List SlD) (L : List ScD) (Fs : List FlD) (K : List ByteArray) (hs : SlH w0 vs S) (hl : ScH w0 vl L) (hf : FlH w0 vf Fs) (hb : BnH w0 vk K) : T3 Try.prog (fun a w => (Below w0.heap.size w0 w) ∧ Fr 95 [(0, vs), (1, vl), (2, vf), (3, vk), (10, .int .i64 (allE S L Fs))] a) (sel [1, 0, 1, 1, 2, 0] suP) (fun a w => (Below w0.heap.size w0 w) ∧ Fr 95 [(8, .slice none 0 0), (9, .int .i64 (allE S L Fs))] a) No 9 No := by
  refine T3.leaf ?_
  rintro Q JS JX JT K_ hS hK hX hE hT hR a w ⟨hW, ⟨fr, rfl, q0, q1, q2, q3, q10, _⟩⟩
  have HW := Lib.hid hW
  obtain ⟨p1, c1, hv1⟩ := hs.r.shape
  subst hv1
  obtain ⟨p2, c2, hv2⟩ := hl.r.shape
  subst hv2
  obtain ⟨p3, c3, hv3⟩ := hf.r.shape
  subst hv3
  obtain ⟨p4, c4, hv4⟩ := hb.r.shape
  subst hv4
  clear hW
  generalize allE S L Fs = e0 at *
  rw [fr_suP, show fr 0 = _ from q0, show fr 1 = _ from q1, show fr 2 = _ from q2, show fr 3 = _ from q3, show fr 10 = _ from q10]
  clear q0 q1 q2 q3 q10
  conv => arg 2; whnf
  go_wp2_with fail
  refine Met.intro (hS _ _ ?_)
  exact ⟨HW.out, Fr.of _ rfl ⟨rfl, rfl, trivial⟩⟩

set_option maxRecDepth 100000 in
set_option maxHeartbeats 1000000 in
theorem su4 (w0 : World) (vs vl vf vk : Value) (S : List SlD) (L : List ScD) (Fs : List FlD) (K : List ByteArray) (hs : SlH w0 vs S) (hl : ScH w0 vl L) (hf : FlH w0 vf Fs) (hb : BnH w0 vk K) (r : ScRise L) : T3 Try.prog (fun a w => (Below w0.heap.size w0 w) ∧ Fr 95 [(0, vs), (1, vl), (2, vf), (3, vk)] a) (sel [1, 1, 0, 0] suP) (fun a w => (Below w0.heap.size w0 w) ∧ Fr 95 [(0, vs), (1, vl), (2, vf), (3, vk), (11, .int .i64 (benchE L Fs K))] a) No 9 No := by
  refine T3.leaf ?_
  rintro Q JS JX JT K_ hS hK hX hE hT hR a w ⟨hW, ⟨fr, rfl, q0, q1, q2, q3, _⟩⟩
  have HC := Lib.hid (subs_prog w vl vf vk L Fs K (hl.below hW) (hf.below hW) (hb.below hW) r)
  have HW := Lib.hid hW
  obtain ⟨p1, c1, hv1⟩ := hs.r.shape
  subst hv1
  obtain ⟨p2, c2, hv2⟩ := hl.r.shape
  subst hv2
  obtain ⟨p3, c3, hv3⟩ := hf.r.shape
  subst hv3
  obtain ⟨p4, c4, hv4⟩ := hb.r.shape
  subst hv4
  clear hW
  generalize benchE L Fs K = e0 at *
  rw [fr_suP, show fr 0 = _ from q0, show fr 1 = _ from q1, show fr 2 = _ from q2, show fr 3 = _ from q3]
  clear q0 q1 q2 q3
  conv => arg 2; whnf
  go_wp2_with fail
  refine HC.out.mono ?_
  rintro e w1 ⟨rfl, hb1⟩
  have HR := Lib.hid (HW.out.trans (hb1.mono HW.out.size))
  clear hb1
  go_wp2_with fail
  refine Met.intro (hS _ _ ?_)
  exact ⟨HR.out, Fr.of _ rfl ⟨rfl, rfl, rfl, rfl, rfl, trivial⟩⟩

set_option maxRecDepth 100000 in
set_option maxHeartbeats 1000000 in
theorem su5 (w0 : World) (vs vl vf vk : Value) (S : List SlD) (L : List ScD) (Fs : List FlD) (K : List ByteArray) (hs : SlH w0 vs S) (hl : ScH w0 vl L) (hf : FlH w0 vf Fs) (hb : BnH w0 vk K) : T3 Try.prog (fun a w => (Below w0.heap.size w0 w) ∧ Fr 95 [(0, vs), (1, vl), (2, vf), (3, vk), (11, .int .i64 (benchE L Fs K))] a) (sel [1, 1, 0, 1, 0] suP) (fun a w => ∃ q, Fr 95 ((30, .bool q) :: [(0, vs), (1, vl), (2, vf), (3, vk), (11, .int .i64 (benchE L Fs K))]) a ∧ ((q = (benchE L Fs K != 0)) ∧ Below w0.heap.size w0 w)) No 9 No := by
  refine T3.leaf ?_
  rintro Q JS JX JT K_ hS hK hX hE hT hR a w ⟨hW, ⟨fr, rfl, q0, q1, q2, q3, q11, _⟩⟩
  have HW := Lib.hid hW
  obtain ⟨p1, c1, hv1⟩ := hs.r.shape
  subst hv1
  obtain ⟨p2, c2, hv2⟩ := hl.r.shape
  subst hv2
  obtain ⟨p3, c3, hv3⟩ := hf.r.shape
  subst hv3
  obtain ⟨p4, c4, hv4⟩ := hb.r.shape
  subst hv4
  clear hW
  generalize benchE L Fs K = e0 at *
  generalize hqq : (e0 != 0) = qq at *
  rw [fr_suP, show fr 0 = _ from q0, show fr 1 = _ from q1, show fr 2 = _ from q2, show fr 3 = _ from q3, show fr 11 = _ from q11]
  clear q0 q1 q2 q3 q11
  conv => arg 2; whnf
  go_wp2_with fail
  refine Met.intro (hS _ _ ?_)
  exact ⟨_, Fr.of _ rfl ⟨rfl, rfl, rfl, rfl, rfl, rfl, trivial⟩, rfl, HW.out⟩

set_option maxRecDepth 100000 in
set_option maxHeartbeats 1000000 in
theorem su6 (w0 : World) (vs vl vf vk : Value) (S : List SlD) (L : List ScD) (Fs : List FlD) (K : List ByteArray) (hs : SlH w0 vs S) (hl : ScH w0 vl L) (hf : FlH w0 vf Fs) (hb : BnH w0 vk K) : T3 Try.prog (fun a w => (Below w0.heap.size w0 w) ∧ Fr 95 [(0, vs), (1, vl), (2, vf), (3, vk), (11, .int .i64 (benchE L Fs K))] a) (sel [1, 1, 0, 1, 1, 2, 0] suP) (fun a w => (Below w0.heap.size w0 w) ∧ Fr 95 [(8, .slice none 0 0), (9, .int .i64 (benchE L Fs K))] a) No 9 No := by
  refine T3.leaf ?_
  rintro Q JS JX JT K_ hS hK hX hE hT hR a w ⟨hW, ⟨fr, rfl, q0, q1, q2, q3, q11, _⟩⟩
  have HW := Lib.hid hW
  obtain ⟨p1, c1, hv1⟩ := hs.r.shape
  subst hv1
  obtain ⟨p2, c2, hv2⟩ := hl.r.shape
  subst hv2
  obtain ⟨p3, c3, hv3⟩ := hf.r.shape
  subst hv3
  obtain ⟨p4, c4, hv4⟩ := hb.r.shape
  subst hv4
  clear hW
  generalize benchE L Fs K = e0 at *
  rw [fr_suP, show fr 0 = _ from q0, show fr 1 = _ from q1, show fr 2 = _ from q2, show fr 3 = _ from q3, show fr 11 = _ from q11]
  clear q0 q1 q2 q3 q11
  conv => arg 2; whnf
  go_wp2_with fail
  refine Met.intro (hS _ _ ?_)
  exact ⟨HW.out, Fr.of _ rfl ⟨rfl, rfl, trivial⟩⟩

set_option maxRecDepth 100000 in
set_option maxHeartbeats 1000000 in
theorem su7 (w0 : World) (vs vl vf vk : Value) (S : List SlD) (L : List ScD) (Fs : List FlD) (K : List ByteArray) (hs : SlH w0 vs S) (hl : ScH w0 vl L) (hf : FlH w0 vf Fs) (hb : BnH w0 vk K) : T3 Try.prog (fun a w => (Below w0.heap.size w0 w) ∧ Fr 95 [(0, vs), (1, vl), (2, vf), (3, vk)] a) (sel [1, 1, 1, 0] suP) (fun a w => ∃ (v12 : Value), (SuW w0 S L Fs K v12 (0) w) ∧ Fr 95 [(0, vs), (1, vl), (2, vf), (3, vk), (12, v12)] a) No 9 No := by
  refine T3.leaf ?_
  rintro Q JS JX JT K_ hS hK hX hE hT hR a w ⟨hW, ⟨fr, rfl, q0, q1, q2, q3, _⟩⟩
  have HC := Lib.hid (clone_fl vf Fs w (hf.below hW))
  have HW := Lib.hid hW
  obtain ⟨p1, c1, hv1⟩ := hs.r.shape
  subst hv1
  obtain ⟨p2, c2, hv2⟩ := hl.r.shape
  subst hv2
  obtain ⟨p3, c3, hv3⟩ := hf.r.shape
  subst hv3
  obtain ⟨p4, c4, hv4⟩ := hb.r.shape
  subst hv4
  clear hW
  rw [fr_suP, show fr 0 = _ from q0, show fr 1 = _ from q1, show fr 2 = _ from q2, show fr 3 = _ from q3]
  clear q0 q1 q2 q3
  conv => arg 2; whnf
  go_wp2_with fail
  refine HC.out.mono ?_
  rintro e w1 ⟨v12, rfl, ho, hb1⟩
  have HR := Lib.hid (show SuW w0 S L Fs K v12 0 w1 from ⟨HW.out.trans (hb1.mono HW.out.size), owns_mono ho HW.out.size⟩)
  obtain ⟨p5, c5, hv5⟩ := (Row.of_owns ho).shape
  subst hv5
  clear ho hb1
  go_wp2_with fail
  refine Met.intro (hS _ _ ?_)
  exact ⟨_, HR.out, Fr.of _ rfl ⟨rfl, rfl, rfl, rfl, rfl, trivial⟩⟩

set_option maxRecDepth 100000 in
set_option maxHeartbeats 1000000 in
theorem su8 (w0 : World) (vs vl vf vk : Value) (S : List SlD) (L : List ScD) (Fs : List FlD) (K : List ByteArray) (hs : SlH w0 vs S) (hl : ScH w0 vl L) (hf : FlH w0 vf Fs) (hb : BnH w0 vk K) (g : SuG S L Fs K) (v12 : Value) : T3 Try.prog (fun a w => (SuW w0 S L Fs K v12 (0) w) ∧ Fr 95 [(0, vs), (1, vl), (2, vf), (3, vk), (12, v12)] a) (sel [1, 1, 1, 1, 0, 0] suP) (fun a w => (0 ≤ (0 : Int) ∧ (0 : Int) ≤ Fs.length) ∧ (SuW w0 S L Fs K v12 ((0 : Int).toNat) w) ∧ Fr 95 [(0, vs), (1, vl), (2, vf), (3, vk), (12, v12), (34, vf), (35, .int .i64 Fs.length), (36, .int .i64 0)] a) No 9 No := by
  refine T3.leaf ?_
  rintro Q JS JX JT K_ hS hK hX hE hT hR a w ⟨hW, ⟨fr, rfl, q0, q1, q2, q3, q12, _⟩⟩
  have hfn := hf.n
  obtain ⟨p5, c5, hv5⟩ := (Row.of_owns hW.own).shape
  subst hv5
  have HW := Lib.hid hW
  obtain ⟨p1, c1, hv1⟩ := hs.r.shape
  subst hv1
  obtain ⟨p2, c2, hv2⟩ := hl.r.shape
  subst hv2
  obtain ⟨p3, c3, hv3⟩ := hf.r.shape
  subst hv3
  obtain ⟨p4, c4, hv4⟩ := hb.r.shape
  subst hv4
  clear hW
  rw [fr_suP, show fr 0 = _ from q0, show fr 1 = _ from q1, show fr 2 = _ from q2, show fr 3 = _ from q3, show fr 12 = _ from q12]
  clear q0 q1 q2 q3 q12
  conv => arg 2; whnf
  go_wp2_with fail
  refine Met.intro (hS _ _ ?_)
  exact ⟨⟨by omega, by omega⟩, HW.out, Fr.of _ rfl ⟨rfl, rfl, rfl, rfl, rfl, rfl, rfl, rfl, trivial⟩⟩

set_option maxRecDepth 100000 in
set_option maxHeartbeats 1000000 in
theorem su10 (w0 : World) (vs vl vf vk : Value) (S : List SlD) (L : List ScD) (Fs : List FlD) (K : List ByteArray) (hs : SlH w0 vs S) (hl : ScH w0 vl L) (hf : FlH w0 vf Fs) (hb : BnH w0 vk K) (g : SuG S L Fs K) (v12 : Value) (k : Int) : T3 Try.prog (fun a w => (0 ≤ k ∧ k < Fs.length) ∧ (SuW w0 S L Fs K v12 ((k : Int).toNat) w) ∧ Fr 95 [(0, vs), (1, vl), (2, vf), (3, vk), (12, v12), (34, vf), (35, .int .i64 Fs.length), (36, .int .i64 k)] a) (sel [1, 1, 1, 1, 0, 1, 4, 4, 1, 1, 0, 4, 0] suP) (fun a w => ∃ (g14 : Nat), (0 ≤ k ∧ k < Fs.length) ∧ (SuW w0 S L Fs K v12 (k.toNat) w ∧ FlB w g14 (geta Fs k)) ∧ Fr 95 [(0, vs), (1, vl), (2, vf), (3, vk), (12, v12), (13, .int .i64 k), (14, .pointer (some ⟨g14, 0, none⟩)), (34, vf), (35, .int .i64 Fs.length), (36, .int .i64 k)] a) No 9 No := by
  refine T3.leaf ?_
  rintro Q JS JX JT K_ hS hK hX hE hT hR a w ⟨hpre, hW, ⟨fr, rfl, q0, q1, q2, q3, q12, q34, q35, q36, _⟩⟩
  have hpp := Lib.hid hpre
  obtain ⟨hk0, hk1⟩ := hpre
  have hfn := hf.n
  have hHW := Lib.hid hW
  have hR := (hf.below hW.bel).r
  obtain ⟨p5, c5, hv5⟩ := (Row.of_owns hW.own).shape
  subst hv5
  obtain ⟨p1, c1, hv1⟩ := hs.r.shape
  subst hv1
  obtain ⟨p2, c2, hv2⟩ := hl.r.shape
  subst hv2
  obtain ⟨p3, c3, hv3⟩ := hf.r.shape
  subst hv3
  obtain ⟨p4, c4, hv4⟩ := hb.r.shape
  subst hv4
  obtain ⟨bz, off, rfl, hnc, hcm, hcell⟩ := Row.nonnil hR (by omega)
  have t0 := Row.elAt encFl_length hcell hk0 hk1 0 _ (by decide) rfl
  have t1 := Row.elAt encFl_length hcell hk0 hk1 1 _ (by decide) rfl
  rw [Nat.add_zero] at t0
  have HB := Lib.hid (FlB.new w (geta Fs k) 42)
  have HA := Lib.hid (fun o => (Below.refl w.heap.size w).alloc (Nat.le_refl _) o)
  clear hcell hR hW hs hl hf hb
  generalize geta Fs k = x at *
  rw [fr_suP, show fr 0 = _ from q0, show fr 1 = _ from q1, show fr 2 = _ from q2, show fr 3 = _ from q3, show fr 12 = _ from q12, show fr 34 = _ from q34, show fr 35 = _ from q35, show fr 36 = _ from q36]
  clear q0 q1 q2 q3 q12 q34 q35 q36
  conv => arg 2; whnf
  go_wp2_with fail
  refine Met.intro (hS _ _ ?_)
  exact ⟨_, hpp.out, ⟨hHW.out.below (HA.out _), HB.out⟩, Fr.of _ rfl ⟨rfl, rfl, rfl, rfl, rfl, rfl, rfl, rfl, rfl, rfl, trivial⟩⟩

set_option maxRecDepth 100000 in
set_option maxHeartbeats 1000000 in
theorem su11 (w0 : World) (vs vl vf vk : Value) (S : List SlD) (L : List ScD) (Fs : List FlD) (K : List ByteArray) (hs : SlH w0 vs S) (hl : ScH w0 vl L) (hf : FlH w0 vf Fs) (hb : BnH w0 vk K) (g : SuG S L Fs K) (v12 : Value) (k : Int) (g14 : Nat) : T3 Try.prog (fun a w => (0 ≤ k ∧ k < Fs.length) ∧ (SuW w0 S L Fs K v12 (k.toNat) w ∧ FlB w g14 (geta Fs k)) ∧ Fr 95 [(0, vs), (1, vl), (2, vf), (3, vk), (12, v12), (13, .int .i64 k), (14, .pointer (some ⟨g14, 0, none⟩)), (34, vf), (35, .int .i64 Fs.length), (36, .int .i64 k)] a) (sel [1, 1, 1, 1, 0, 1, 4, 4, 1, 1, 0, 4, 1, 0, 0] suP) (fun a w => ∃ q, Fr 95 ((53, .bool q) :: [(0, vs), (1, vl), (2, vf), (3, vk), (12, v12), (13, .int .i64 k), (14, .pointer (some ⟨g14, 0, none⟩)), (34, vf), (35, .int .i64 Fs.length), (36, .int .i64 k)]) a ∧ (((0 ≤ k ∧ k < Fs.length) ∧ q = stays L (geta Fs k).pl) ∧ SuW w0 S L Fs K v12 (k.toNat) w ∧ FlB w g14 (geta Fs k))) No 9 No := by
  refine T3.leaf ?_
  rintro Q JS JX JT K_ hS hK hX hE hT hR a w ⟨hpre, hW, ⟨fr, rfl, q0, q1, q2, q3, q12, q13, q14, q34, q35, q36, _⟩⟩
  have hpp := Lib.hid hpre
  obtain ⟨hk0, hk1⟩ := hpre
  have HW := Lib.hid hW
  have t1 := hW.2.c1
  have hfn := hf.n
  by_cases hx : (geta Fs k).pl = ByteArray.empty
  · have HX := Lib.hid (show false = stays L (geta Fs k).pl by rw [hx, stays_empty g])
    rw [hx] at t1
    clear hx
    obtain ⟨p5, c5, hv5⟩ := (Row.of_owns hW.1.own).shape
    subst hv5
    obtain ⟨p1, c1, hv1⟩ := hs.r.shape
    subst hv1
    obtain ⟨p2, c2, hv2⟩ := hl.r.shape
    subst hv2
    obtain ⟨p3, c3, hv3⟩ := hf.r.shape
    subst hv3
    obtain ⟨p4, c4, hv4⟩ := hb.r.shape
    subst hv4
    clear hW hs hl hf hb
    rw [fr_suP, show fr 0 = _ from q0, show fr 1 = _ from q1, show fr 2 = _ from q2, show fr 3 = _ from q3, show fr 12 = _ from q12, show fr 13 = _ from q13, show fr 14 = _ from q14, show fr 34 = _ from q34, show fr 35 = _ from q35, show fr 36 = _ from q36]
    clear q0 q1 q2 q3 q12 q13 q14 q34 q35 q36
    conv => arg 2; whnf
    go_wp2_with fail
    refine Met.intro (hS _ _ ?_)
    exact ⟨_, Fr.of _ rfl ⟨rfl, rfl, rfl, rfl, rfl, rfl, rfl, rfl, rfl, rfl, rfl, trivial⟩, ⟨hpp.out, HX.out⟩, HW.out⟩
  · have hix := g.idx hk0 hk1 hx
    have hiL := sc_mem hix
    have hi0 : 0 ≤ scIdx L (geta Fs k).pl := by omega
    have HX := Lib.hid (show (geta L (scIdx L (geta Fs k).pl)).pd = stays L (geta Fs k).pl by unfold stays; rw [show decide (0 ≤ scIdx L (geta Fs k).pl) = true by simp [hi0]]; rfl)
    have HC := Lib.hid (find_prog w vl L (geta Fs k).pl (hl.below hW.1.bel) (rise_of g.sc))
    have hx1 := toList_ne hx
    have hx2 : (geta Fs k).pl.toList.isEmpty = false := by
      have hh := hx1
      rw [show ByteArray.empty.toList = [] by rw [ByteArray.toList_eq]; rfl] at hh
      cases hl : (geta Fs k).pl.toList with
      | nil => rw [hl] at hh; exact absurd hh (by decide)
      | cons a b => rfl
    have HR0 := Lib.hid (fun w' (b : Below w.heap.size w w') => ((hl.below hW.1.bel).below b).r)
    clear hx hix
    obtain ⟨p5, c5, hv5⟩ := (Row.of_owns hW.1.own).shape
    subst hv5
    obtain ⟨p1, c1, hv1⟩ := hs.r.shape
    subst hv1
    obtain ⟨p2, c2, hv2⟩ := hl.r.shape
    subst hv2
    obtain ⟨p3, c3, hv3⟩ := hf.r.shape
    subst hv3
    obtain ⟨p4, c4, hv4⟩ := hb.r.shape
    subst hv4
    clear hW hs hl hf hb
    generalize hixx : scIdx L (geta Fs k).pl = ix at *
    generalize hxx : (geta Fs k).pl = x at *
    rw [fr_suP, show fr 0 = _ from q0, show fr 1 = _ from q1, show fr 2 = _ from q2, show fr 3 = _ from q3, show fr 12 = _ from q12, show fr 13 = _ from q13, show fr 14 = _ from q14, show fr 34 = _ from q34, show fr 35 = _ from q35, show fr 36 = _ from q36]
    clear q0 q1 q2 q3 q12 q13 q14 q34 q35 q36
    conv => arg 2; whnf
    go_wp2_with fail
    refine HC.out.mono ?_
    rintro e w1 ⟨rfl, hb1⟩
    have HR := Lib.hid (show SuW w0 S L Fs K _ k.toNat w1 ∧ FlB w1 g14 (geta Fs k) from ⟨HW.out.1.below hb1, HW.out.2.below hb1⟩)
    have hRl := HR0.out w1 hb1
    obtain ⟨b2, o2, rfl, hn2, hm2, hcl⟩ := Row.nonnil hRl (by omega)
    have u4 := Row.elAt encSc_length hcl hi0 hiL 4 _ (by decide) rfl
    clear hb1 hRl hcl
    generalize (geta L ix).pd = pd at *
    go_wp2_with fail
    refine Met.intro (hS _ _ ?_)
    exact ⟨_, Fr.of _ rfl ⟨rfl, rfl, rfl, rfl, rfl, rfl, rfl, rfl, rfl, rfl, rfl, trivial⟩, ⟨hpp.out, HX.out⟩, HR.out⟩

set_option maxRecDepth 100000 in
set_option maxHeartbeats 1000000 in
theorem su12 (w0 : World) (vs vl vf vk : Value) (S : List SlD) (L : List ScD) (Fs : List FlD) (K : List ByteArray) (hs : SlH w0 vs S) (hl : ScH w0 vl L) (hf : FlH w0 vf Fs) (hb : BnH w0 vk K) (g : SuG S L Fs K) (v12 : Value) (k : Int) (g14 : Nat) (hst : stays L (geta Fs k).pl = false) (hk : 0 ≤ k ∧ k < Fs.length) : T3 Try.prog (fun a w => (SuW w0 S L Fs K v12 (k.toNat) w ∧ FlB w g14 (geta Fs k)) ∧ Fr 95 [(0, vs), (1, vl), (2, vf), (3, vk), (12, v12), (13, .int .i64 k), (14, .pointer (some ⟨g14, 0, none⟩)), (34, vf), (35, .int .i64 Fs.length), (36, .int .i64 k)] a) (sel [1, 1, 1, 1, 0, 1, 4, 4, 1, 1, 0, 4, 1, 1, 0] suP) (fun a w => (SuW w0 S L Fs K v12 (k.toNat) w) ∧ Fr 95 [(0, vs), (1, vl), (2, vf), (3, vk), (12, v12), (13, .int .i64 k), (34, vf), (35, .int .i64 Fs.length), (36, .int .i64 k), (54, vk), (55, .int .i64 K.length), (56, .int .i64 0)] a) No 9 No := by
  refine T3.leaf ?_
  rintro Q JS JX JT K_ hS hK hX hE hT hR a w ⟨hW, ⟨fr, rfl, q0, q1, q2, q3, q12, q13, q14, q34, q35, q36, _⟩⟩
  have HW := Lib.hid hW.1
  have hbn := hb.n
  obtain ⟨p5, c5, hv5⟩ := (Row.of_owns hW.1.own).shape
  subst hv5
  obtain ⟨p1, c1, hv1⟩ := hs.r.shape
  subst hv1
  obtain ⟨p2, c2, hv2⟩ := hl.r.shape
  subst hv2
  obtain ⟨p3, c3, hv3⟩ := hf.r.shape
  subst hv3
  obtain ⟨p4, c4, hv4⟩ := hb.r.shape
  subst hv4
  clear hW hs hl hf hb
  rw [fr_suP, show fr 0 = _ from q0, show fr 1 = _ from q1, show fr 2 = _ from q2, show fr 3 = _ from q3, show fr 12 = _ from q12, show fr 13 = _ from q13, show fr 14 = _ from q14, show fr 34 = _ from q34, show fr 35 = _ from q35, show fr 36 = _ from q36]
  clear q0 q1 q2 q3 q12 q13 q14 q34 q35 q36
  conv => arg 2; whnf
  go_wp2_with fail
  refine Met.intro (hS _ _ ?_)
  exact ⟨HW.out, Fr.of _ rfl ⟨rfl, rfl, rfl, rfl, rfl, rfl, rfl, rfl, rfl, rfl, rfl, rfl, trivial⟩⟩

set_option maxRecDepth 100000 in
set_option maxHeartbeats 1000000 in
theorem su13 (w0 : World) (vs vl vf vk : Value) (S : List SlD) (L : List ScD) (Fs : List FlD) (K : List ByteArray) (hs : SlH w0 vs S) (hl : ScH w0 vl L) (hf : FlH w0 vf Fs) (hb : BnH w0 vk K) (g : SuG S L Fs K) (v12 : Value) (k : Int) (g14 : Nat) (hst : stays L (geta Fs k).pl = false) (hk : 0 ≤ k ∧ k < Fs.length) (j : Int) (hj : 0 ≤ j ∧ j ≤ K.length) : T3 Try.prog (fun a w => (SuW w0 S L Fs K v12 (k.toNat) w) ∧ Fr 95 [(0, vs), (1, vl), (2, vf), (3, vk), (12, v12), (13, .int .i64 k), (34, vf), (35, .int .i64 Fs.length), (36, .int .i64 k), (54, vk), (55, .int .i64 K.length), (56, .int .i64 j)] a) (sel [1, 1, 1, 1, 0, 1, 4, 4, 1, 1, 0, 4, 1, 1, 1, 4, 4, 0] suP) (fun a w => ∃ q, Fr 95 ((57, .bool q) :: [(0, vs), (1, vl), (2, vf), (3, vk), (12, v12), (13, .int .i64 k), (34, vf), (35, .int .i64 Fs.length), (36, .int .i64 k), (54, vk), (55, .int .i64 K.length), (56, .int .i64 j)]) a ∧ (q = decide (j < (K.length : Int)) ∧ SuW w0 S L Fs K v12 (k.toNat) w)) No 9 No := by
  refine T3.leaf ?_
  rintro Q JS JX JT K_ hS hK hX hE hT hR a w ⟨hW, ⟨fr, rfl, q0, q1, q2, q3, q12, q13, q34, q35, q36, q54, q55, q56, _⟩⟩
  have HW := Lib.hid hW
  obtain ⟨p5, c5, hv5⟩ := (Row.of_owns hW.own).shape
  subst hv5
  obtain ⟨p1, c1, hv1⟩ := hs.r.shape
  subst hv1
  obtain ⟨p2, c2, hv2⟩ := hl.r.shape
  subst hv2
  obtain ⟨p3, c3, hv3⟩ := hf.r.shape
  subst hv3
  obtain ⟨p4, c4, hv4⟩ := hb.r.shape
  subst hv4
  clear hW hs hl hf hb
  rw [fr_suP, show fr 0 = _ from q0, show fr 1 = _ from q1, show fr 2 = _ from q2, show fr 3 = _ from q3, show fr 12 = _ from q12, show fr 13 = _ from q13, show fr 34 = _ from q34, show fr 35 = _ from q35, show fr 36 = _ from q36, show fr 54 = _ from q54, show fr 55 = _ from q55, show fr 56 = _ from q56]
  clear q0 q1 q2 q3 q12 q13 q34 q35 q36 q54 q55 q56
  conv => arg 2; whnf
  go_wp2_with fail
  refine Met.intro (hS _ _ ?_)
  exact ⟨_, Fr.of _ rfl ⟨rfl, rfl, rfl, rfl, rfl, rfl, rfl, rfl, rfl, rfl, rfl, rfl, rfl, trivial⟩, rfl, HW.out⟩

set_option maxRecDepth 100000 in
set_option maxHeartbeats 1000000 in
theorem su14 (w0 : World) (vs vl vf vk : Value) (S : List SlD) (L : List ScD) (Fs : List FlD) (K : List ByteArray) (hs : SlH w0 vs S) (hl : ScH w0 vl L) (hf : FlH w0 vf Fs) (hb : BnH w0 vk K) (g : SuG S L Fs K) (v12 : Value) (k : Int) (g14 : Nat) (hst : stays L (geta Fs k).pl = false) (hk : 0 ≤ k ∧ k < Fs.length) (j : Int) (hj : 0 ≤ j ∧ j < K.length) : T3 Try.prog (fun a w => (SuW w0 S L Fs K v12 (k.toNat) w) ∧ Fr 95 [(0, vs), (1, vl), (2, vf), (3, vk), (12, v12), (13, .int .i64 k), (34, vf), (35, .int .i64 Fs.length), (36, .int .i64 k), (54, vk), (55, .int .i64 K.length), (56, .int .i64 j)] a) (sel [1, 1, 1, 1, 0, 1, 4, 4, 1, 1, 0, 4, 1, 1, 1, 4, 4, 1, 1, 0, 4, 0] suP) (fun a w => (SuW w0 S L Fs K v12 (k.toNat) w) ∧ Fr 95 [(0, vs), (1, vl), (2, vf), (3, vk), (12, v12), (13, .int .i64 k), (16, .string (geta K j)), (34, vf), (35, .int .i64 Fs.length), (36, .int .i64 k), (54, vk), (55, .int .i64 K.length), (56, .int .i64 j)] a) No 9 No := by
  refine T3.leaf ?_
  rintro Q JS JX JT K_ hS hK hX hE hT hR a w ⟨hW, ⟨fr, rfl, q0, q1, q2, q3, q12, q13, q34, q35, q36, q54, q55, q56, _⟩⟩
  obtain ⟨hj0, hj1⟩ := hj
  have HW := Lib.hid hW
  have hbn := hb.n
  have hR := (hb.below hW.bel).r
  obtain ⟨p5, c5, hv5⟩ := (Row.of_owns hW.own).shape
  subst hv5
  obtain ⟨p1, c1, hv1⟩ := hs.r.shape
  subst hv1
  obtain ⟨p2, c2, hv2⟩ := hl.r.shape
  subst hv2
  obtain ⟨p3, c3, hv3⟩ := hf.r.shape
  subst hv3
  obtain ⟨p4, c4, hv4⟩ := hb.r.shape
  subst hv4
  obtain ⟨bz, off, rfl, hnc, hcm, hcell⟩ := Row.nonnil hR (by omega)
  have t0 := Row.elAt encSt_length hcell hj0 hj1 0 _ (by decide) rfl
  rw [Nat.mul_one, Nat.add_zero] at t0
  clear hcell hR hW hs hl hf hb
  generalize geta K j = x at *
  rw [fr_suP, show fr 0 = _ from q0, show fr 1 = _ from q1, show fr 2 = _ from q2, show fr 3 = _ from q3, show fr 12 = _ from q12, show fr 13 = _ from q13, show fr 34 = _ from q34, show fr 35 = _ from q35, show fr 36 = _ from q36, show fr 54 = _ from q54, show fr 55 = _ from q55, show fr 56 = _ from q56]
  clear q0 q1 q2 q3 q12 q13 q34 q35 q36 q54 q55 q56
  conv => arg 2; whnf
  go_wp2_with fail
  refine Met.intro (hS _ _ ?_)
  exact ⟨HW.out, Fr.of _ rfl ⟨rfl, rfl, rfl, rfl, rfl, rfl, rfl, rfl, rfl, rfl, rfl, rfl, rfl, trivial⟩⟩

set_option maxRecDepth 100000 in
set_option maxHeartbeats 1000000 in
theorem su15 (w0 : World) (vs vl vf vk : Value) (S : List SlD) (L : List ScD) (Fs : List FlD) (K : List ByteArray) (hs : SlH w0 vs S) (hl : ScH w0 vl L) (hf : FlH w0 vf Fs) (hb : BnH w0 vk K) (g : SuG S L Fs K) (v12 : Value) (k : Int) (g14 : Nat) (hst : stays L (geta Fs k).pl = false) (hk : 0 ≤ k ∧ k < Fs.length) (j : Int) (hj : 0 ≤ j ∧ j < K.length) : T3 Try.prog (fun a w => (SuW w0 S L Fs K v12 (k.toNat) w) ∧ Fr 95 [(0, vs), (1, vl), (2, vf), (3, vk), (12, v12), (13, .int .i64 k), (16, .string (geta K j)), (34, vf), (35, .int .i64 Fs.length), (36, .int .i64 k), (54, vk), (55, .int .i64 K.length), (56, .int .i64 j)] a) (sel [1, 1, 1, 1, 0, 1, 4, 4, 1, 1, 0, 4, 1, 1, 1, 4, 4, 1, 1, 0, 4, 1, 0] suP) (fun a w => (SuW w0 S L Fs K v12 (k.toNat) w) ∧ Fr 95 [(0, vs), (1, vl), (2, vf), (3, vk), (12, v12), (13, .int .i64 k), (16, .string (geta K j)), (17, .int .i64 (scIdx L (geta K j))), (34, vf), (35, .int .i64 Fs.length), (36, .int .i64 k), (54, vk), (55, .int .i64 K.length), (56, .int .i64 j)] a) No 9 No := by
  refine T3.leaf ?_
  rintro Q JS JX JT K_ hS hK hX hE hT hR a w ⟨hW, ⟨fr, rfl, q0, q1, q2, q3, q12, q13, q16, q34, q35, q36, q54, q55, q56, _⟩⟩
  have HW := Lib.hid hW
  have HC := Lib.hid (find_prog w vl L (geta K j) (hl.below hW.bel) (rise_of g.sc))
  obtain ⟨p5, c5, hv5⟩ := (Row.of_owns hW.own).shape
  subst hv5
  obtain ⟨p1, c1, hv1⟩ := hs.r.shape
  subst hv1
  obtain ⟨p2, c2, hv2⟩ := hl.r.shape
  subst hv2
  obtain ⟨p3, c3, hv3⟩ := hf.r.shape
  subst hv3
  obtain ⟨p4, c4, hv4⟩ := hb.r.shape
  subst hv4
  clear hW hs hl hf hb
  generalize scIdx L (geta K j) = ix at *
  generalize geta K j = x at *
  rw [fr_suP, show fr 0 = _ from q0, show fr 1 = _ from q1, show fr 2 = _ from q2, show fr 3 = _ from q3, show fr 12 = _ from q12, show fr 13 = _ from q13, show fr 16 = _ from q16, show fr 34 = _ from q34, show fr 35 = _ from q35, show fr 36 = _ from q36, show fr 54 = _ from q54, show fr 55 = _ from q55, show fr 56 = _ from q56]
  clear q0 q1 q2 q3 q12 q13 q16 q34 q35 q36 q54 q55 q56
  conv => arg 2; whnf
  go_wp2_with fail
  refine HC.out.mono ?_
  rintro e w1 ⟨rfl, hb1⟩
  have HR := Lib.hid (HW.out.below hb1)
  clear hb1
  go_wp2_with fail
  refine Met.intro (hS _ _ ?_)
  exact ⟨HR.out, Fr.of _ rfl ⟨rfl, rfl, rfl, rfl, rfl, rfl, rfl, rfl, rfl, rfl, rfl, rfl, rfl, rfl, trivial⟩⟩

set_option maxRecDepth 100000 in
set_option maxHeartbeats 1000000 in
theorem su16 (w0 : World) (vs vl vf vk : Value) (S : List SlD) (L : List ScD) (Fs : List FlD) (K : List ByteArray) (hs : SlH w0 vs S) (hl : ScH w0 vl L) (hf : FlH w0 vf Fs) (hb : BnH w0 vk K) (g : SuG S L Fs K) (v12 : Value) (k : Int) (g14 : Nat) (hst : stays L (geta Fs k).pl = false) (hk : 0 ≤ k ∧ k < Fs.length) (j : Int) (hj : 0 ≤ j ∧ j < K.length) : T3 Try.prog (fun a w => (SuW w0 S L Fs K v12 (k.toNat) w) ∧ Fr 95 [(0, vs), (1, vl), (2, vf), (3, vk), (12, v12), (13, .int .i64 k), (16, .string (geta K j)), (17, .int .i64 (scIdx L (geta K j))), (34, vf), (35, .int .i64 Fs.length), (36, .int .i64 k), (54, vk), (55, .int .i64 K.length), (56, .int .i64 j)] a) (sel [1, 1, 1, 1, 0, 1, 4, 4, 1, 1, 0, 4, 1, 1, 1, 4, 4, 1, 1, 0, 4, 1, 1, 0] suP) (fun a w => ∃ q, Fr 95 ((86, .bool q) :: [(0, vs), (1, vl), (2, vf), (3, vk), (12, v12), (13, .int .i64 k), (16, .string (geta K j)), (17, .int .i64 (scIdx L (geta K j))), (34, vf), (35, .int .i64 Fs.length), (36, .int .i64 k), (54, vk), (55, .int .i64 K.length), (56, .int .i64 j)]) a ∧ ((q = okSub S L (subK S L Fs K k.toNat) k.toNat (geta K j)) ∧ SuW w0 S L Fs K v12 (k.toNat) w)) No 9 No := by
  refine T3.leafN ?_
  rintro JS hS a w ⟨hW, ⟨fr, rfl, q0, q1, q2, q3, q12, q13, q16, q17, q34, q35, q36, q54, q55, q56, _⟩⟩
  have hks : k < S.length := by have := g.len; omega
  have hix := g.bench hj.1 hj.2
  have hiL := sc_mem hix
  have hi0 : 0 ≤ scIdx L (geta K j) := by omega
  have hbd : Below w.heap.size w w.drew := below_drewN (Below.refl _ _) 1
  have HW1 := Lib.hid (hW.below hbd)
  have hbe := HW1.out.bel
  have hRs := (hs.below hbe).r
  have hRl := (hl.below hbe).r
  have hpl := (hl.below hbe).p _ (geta_mem hi0 hiL)
  have hps := (hs.below hbe).p _ (geta_mem hk.1 hks)
  have HI := Lib.hid (fun w' (b : Below w.drew.heap.size w.drew w') => isIn_prog v12 (subK S L Fs K k.toNat) (geta K j) w' ⟨(HW1.out.below b).fl, subK_z hf.z hb.z k.toNat, by rw [subK_length]; exact hf.n⟩)
  have HE := Lib.hid (show ((geta L (scIdx L (geta K j))).pd && (commonB (geta L (scIdx L (geta K j))).ps (geta S k).ps && !isInB (subK S L Fs K k.toNat) (geta K j))) = okSub S L (subK S L Fs K k.toNat) k.toNat (geta K j) by unfold okSub; rw [Int.toNat_of_nonneg hk.1])
  have hk0 := hk.1
  obtain ⟨p5, c5, hv5⟩ := (Row.of_owns hW.own).shape
  subst hv5
  obtain ⟨p1, c1, hv1⟩ := hs.r.shape
  subst hv1
  obtain ⟨p2, c2, hv2⟩ := hl.r.shape
  subst hv2
  obtain ⟨p3, c3, hv3⟩ := hf.r.shape
  subst hv3
  obtain ⟨p4, c4, hv4⟩ := hb.r.shape
  subst hv4
  obtain ⟨b1, o1, rfl, hn1, hm1, hcs⟩ := Row.nonnil hRs (by omega)
  obtain ⟨b2, o2, rfl, hn2, hm2, hcl⟩ := Row.nonnil hRl (by omega)
  have t0 := Row.elAt encSl_length hcs hk0 hks 1 _ (by decide) rfl
  have t1 := Row.elAt encSc_length hcl hi0 hiL 1 _ (by decide) rfl
  have t4 := Row.elAt encSc_length hcl hi0 hiL 4 _ (by decide) rfl
  have HC := Lib.hid (common_two _ _ _ _ w.drew hpl hps)
  obtain ⟨aa1, d1, hq1⟩ := hpl.r.shape
  obtain ⟨aa2, d2, hq2⟩ := hps.r.shape
  rw [hq1] at t1 HC
  rw [hq2] at t0 HC
  clear hcs hcl hRs hRl hs hl hf hb hW hbd hbe hpl hps hq1 hq2 hix
  generalize hcq : commonB (geta L (scIdx L (geta K j))).ps (geta S k).ps = cq at *
  generalize (geta L (scIdx L (geta K j))).ps.length = m1 at *
  generalize (geta S k).ps.length = m2 at *
  generalize hpd : (geta L (scIdx L (geta K j))).pd = pd at *
  generalize hin : isInB (subK S L Fs K k.toNat) (geta K j) = iq at *
  generalize hixx : scIdx L (geta K j) = ix at *
  generalize hxx : geta K j = x at *
  cases pd
  · rw [fr_suP, show fr 0 = _ from q0, show fr 1 = _ from q1, show fr 2 = _ from q2, show fr 3 = _ from q3, show fr 12 = _ from q12, show fr 13 = _ from q13, show fr 16 = _ from q16, show fr 17 = _ from q17, show fr 34 = _ from q34, show fr 35 = _ from q35, show fr 36 = _ from q36, show fr 54 = _ from q54, show fr 55 = _ from q55, show fr 56 = _ from q56]
    clear q0 q1 q2 q3 q12 q13 q16 q17 q34 q35 q36 q54 q55 q56
    conv => arg 2; whnf
    refine wp_region_mix (none) [(true, 0), (true, 1), (true, 2), (true, 3), (true, 4), (true, 5), (true, 6), (true, 7), (true, 11), (true, 12), (true, 8), (true, 13), (true, 9), (true, 14), (true, 10), (true, 15), (false, 16), (true, 17), (true, 18), (true, 19), (true, 20), (false, 21), (true, 22), (true, 23)] (by kernel_rfl) (by kernel_rfl) (by intro c a d v w h; cases d <;> exact h) ?_
    simp only [pickFlat, List.filterMap_cons, List.filterMap_nil, List.getElem?_cons_succ, List.getElem?_cons_zero, Option.map_some]
    have A0 := wof_at (w₁ := w.drew) (row := none) (a := ⟨b1, o1 + k.toNat * 2 + 1, none⟩) t0 (by simp)
    have A1 := wof_at (w₁ := w.drew) (row := none) (a := ⟨b2, o2 + ix.toNat * 5 + 1, none⟩) t1 (by simp)
    have A4 := wof_at (w₁ := w.drew) (row := none) (a := ⟨b2, o2 + ix.toNat * 5 + 4, none⟩) t4 (by simp)
    refine flat_hide (fun W hH hC hN hE => ?_)
    iterate 16 (refine hH.out _ _ _ _ (fun K hK => ?_); go_simp; refine hK _ ?_; clear hK K)
    refine hN.out _ _ _ _ (grown_refl _ _) (by first | rfl | go_simp) ?_
    iterate 4 (refine hH.out _ _ _ _ (fun K hK => ?_); go_simp; refine hK _ ?_; clear hK K)
    refine hN.out _ _ _ _ (grown_refl _ _) (by first | rfl | go_simp) ?_
    iterate 2 (refine hH.out _ _ _ _ (fun K hK => ?_); go_simp; refine hK _ ?_; clear hK K)
    refine hE.out _ _ ?_
    clear hH hC hN hE W
    show JS _ _
    refine hS _ _ ?_
    exact ⟨_, Fr.of _ rfl ⟨rfl, rfl, rfl, rfl, rfl, rfl, rfl, rfl, rfl, rfl, rfl, rfl, rfl, rfl, rfl, trivial⟩, HE.out, HW1.out⟩
  cases cq
  · rw [fr_suP, show fr 0 = _ from q0, show fr 1 = _ from q1, show fr 2 = _ from q2, show fr 3 = _ from q3, show fr 12 = _ from q12, show fr 13 = _ from q13, show fr 16 = _ from q16, show fr 17 = _ from q17, show fr 34 = _ from q34, show fr 35 = _ from q35, show fr 36 = _ from q36, show fr 54 = _ from q54, show fr 55 = _ from q55, show fr 56 = _ from q56]
    clear q0 q1 q2 q3 q12 q13 q16 q17 q34 q35 q36 q54 q55 q56
    conv => arg 2; whnf
    refine wp_region_mix (none) [(true, 0), (true, 1), (true, 2), (true, 3), (true, 4), (true, 5), (true, 6), (true, 7), (true, 11), (true, 12), (true, 8), (true, 13), (true, 9), (true, 14), (true, 10), (true, 15), (false, 16), (true, 17), (true, 18), (true, 19), (true, 20), (false, 21), (true, 22), (true, 23)] (by kernel_rfl) (by kernel_rfl) (by intro c a d v w h; cases d <;> exact h) ?_
    simp only [pickFlat, List.filterMap_cons, List.filterMap_nil, List.getElem?_cons_succ, List.getElem?_cons_zero, Option.map_some]
    have A0 := wof_at (w₁ := w.drew) (row := none) (a := ⟨b1, o1 + k.toNat * 2 + 1, none⟩) t0 (by simp)
    have A1 := wof_at (w₁ := w.drew) (row := none) (a := ⟨b2, o2 + ix.toNat * 5 + 1, none⟩) t1 (by simp)
    have A4 := wof_at (w₁ := w.drew) (row := none) (a := ⟨b2, o2 + ix.toNat * 5 + 4, none⟩) t4 (by simp)
    refine flat_hide (fun W hH hC hN hE => ?_)
    iterate 16 (refine hH.out _ _ _ _ (fun K hK => ?_); go_simp; refine hK _ ?_; clear hK K)
    refine hC.out _ _ _ _ (by first | rfl | go_simp) (fun K hK => ?_)
    simp only [bare]
    go_wp2_with fail
    refine HC.out.mono ?_
    rintro e w2 ⟨rfl, hb1⟩
    have HB1 := Lib.hid hb1
    clear hb1
    go_wp2_with fail
    refine hK.out _ _ (grown_of_below HB1.out) ?_
    clear hK K
    iterate 4 (refine hH.out _ _ _ _ (fun K hK => ?_); go_simp; refine hK _ ?_; clear hK K)
    refine hN.out _ _ _ _ (grown_of_below HB1.out) (by first | rfl | go_simp) ?_
    iterate 2 (refine hH.out _ _ _ _ (fun K hK => ?_); go_simp; refine hK _ ?_; clear hK K)
    refine hE.out _ _ ?_
    clear hH hC hN hE W
    show JS _ _
    refine hS _ _ ?_
    exact ⟨_, Fr.of _ rfl ⟨rfl, rfl, rfl, rfl, rfl, rfl, rfl, rfl, rfl, rfl, rfl, rfl, rfl, rfl, rfl, trivial⟩, HE.out, HW1.out.below HB1.out⟩
  · rw [fr_suP, show fr 0 = _ from q0, show fr 1 = _ from q1, show fr 2 = _ from q2, show fr 3 = _ from q3, show fr 12 = _ from q12, show fr 13 = _ from q13, show fr 16 = _ from q16, show fr 17 = _ from q17, show fr 34 = _ from q34, show fr 35 = _ from q35, show fr 36 = _ from q36, show fr 54 = _ from q54, show fr 55 = _ from q55, show fr 56 = _ from q56]
    clear q0 q1 q2 q3 q12 q13 q16 q17 q34 q35 q36 q54 q55 q56
    conv => arg 2; whnf
    refine wp_region_mix (none) [(true, 0), (true, 1), (true, 2), (true, 3), (true, 4), (true, 5), (true, 6), (true, 7), (true, 11), (true, 12), (true, 8), (true, 13), (true, 9), (true, 14), (true, 10), (true, 15), (false, 16), (true, 17), (true, 18), (true, 19), (true, 20), (false, 21), (true, 22), (true, 23)] (by kernel_rfl) (by kernel_rfl) (by intro c a d v w h; cases d <;> exact h) ?_
    simp only [pickFlat, List.filterMap_cons, List.filterMap_nil, List.getElem?_cons_succ, List.getElem?_cons_zero, Option.map_some]
    have A0 := wof_at (w₁ := w.drew) (row := none) (a := ⟨b1, o1 + k.toNat * 2 + 1, none⟩) t0 (by simp)
    have A1 := wof_at (w₁ := w.drew) (row := none) (a := ⟨b2, o2 + ix.toNat * 5 + 1, none⟩) t1 (by simp)
    have A4 := wof_at (w₁ := w.drew) (row := none) (a := ⟨b2, o2 + ix.toNat * 5 + 4, none⟩) t4 (by simp)
    refine flat_hide (fun W hH hC hN hE => ?_)
    iterate 16 (refine hH.out _ _ _ _ (fun K hK => ?_); go_simp; refine hK _ ?_; clear hK K)
    refine hC.out _ _ _ _ (by first | rfl | go_simp) (fun K hK => ?_)
    simp only [bare]
    go_wp2_with fail
    refine HC.out.mono ?_
    rintro e w2 ⟨rfl, hb1⟩
    have HB1 := Lib.hid hb1
    clear hb1
    go_wp2_with fail
    refine hK.out _ _ (grown_of_below HB1.out) ?_
    clear hK K
    iterate 4 (refine hH.out _ _ _ _ (fun K hK => ?_); go_simp; refine hK _ ?_; clear hK K)
    refine hC.out _ _ _ _ (by first | rfl | go_simp) (fun K hK => ?_)
    simp only [bare]
    go_wp2_with fail
    refine (HI.out w2 HB1.out).mono ?_
    rintro e w3 ⟨rfl, hb1⟩
    have HB2 := Lib.hid (HB1.out.trans (hb1.mono HB1.out.size))
    clear hb1
    go_wp2_with fail
    refine hK.out _ _ (grown_of_below HB2.out) ?_
    clear hK K
    iterate 2 (refine hH.out _ _ _ _ (fun K hK => ?_); go_simp; refine hK _ ?_; clear hK K)
    refine hE.out _ _ ?_
    clear hH hC hN hE W
    show JS _ _
    refine hS _ _ ?_
    exact ⟨_, Fr.of _ rfl ⟨rfl, rfl, rfl, rfl, rfl, rfl, rfl, rfl, rfl, rfl, rfl, rfl, rfl, rfl, rfl, trivial⟩, HE.out, HW1.out.below HB2.out⟩

set_option maxRecDepth 100000 in
set_option maxHeartbeats 1000000 in
theorem su17 (w0 : World) (vs vl vf vk : Value) (S : List SlD) (L : List ScD) (Fs : List FlD) (K : List ByteArray) (hs : SlH w0 vs S) (hl : ScH w0 vl L) (hf : FlH w0 vf Fs) (hb : BnH w0 vk K) (g : SuG S L Fs K) (v12 : Value) (k : Int) (g14 : Nat) (hst : stays L (geta Fs k).pl = false) (hk : 0 ≤ k ∧ k < Fs.length) (j : Int) (hj : 0 ≤ j ∧ j < K.length) (hn : ∀ j' : Int, 0 ≤ j' → j' < j → okSub S L (subK S L Fs K k.toNat) k.toNat (geta K j') = false) (ho : okSub S L (subK S L Fs K k.toNat) k.toNat (geta K j) = true) : T3 Try.prog (fun a w => (SuW w0 S L Fs K v12 (k.toNat) w) ∧ Fr 95 [(0, vs), (1, vl), (2, vf), (3, vk), (12, v12), (13, .int .i64 k), (16, .string (geta K j)), (17, .int .i64 (scIdx L (geta K j))), (34, vf), (35, .int .i64 Fs.length), (36, .int .i64 k), (54, vk), (55, .int .i64 K.length), (56, .int .i64 j)] a) (sel [1, 1, 1, 1, 0, 1, 4, 4, 1, 1, 0, 4, 1, 1, 1, 4, 4, 1, 1, 0, 4, 1, 1, 1, 2, 0] suP) (fun a w => (SuW w0 S L Fs K v12 ((k + 1).toNat) w) ∧ Fr 95 [(0, vs), (1, vl), (2, vf), (3, vk), (12, v12), (34, vf), (35, .int .i64 Fs.length), (36, .int .i64 k)] a) No 9 No := by
  refine T3.leaf ?_
  rintro Q JS JX JT K_ hS hK hX hE hT hR a w ⟨hW, ⟨fr, rfl, q0, q1, q2, q3, q12, q13, q16, q17, q34, q35, q36, q54, q55, q56, _⟩⟩
  have hk0 := hk.1
  have hk1 := hk.2
  have hfn := hf.n
  obtain ⟨g12, c12, hv12, _, _, hn12, hm12⟩ := owns_shape hW.own (by omega)
  subst hv12
  simp only [maxLen] at hm12
  have e1 : (k + 1).toNat = k.toNat + 1 := by omega
  have ek : ((k.toNat : Nat) : Int) = k := Int.toNat_of_nonneg hk0
  have hput := hW.put (p := geta K j) (by omega) (subK_put (by rw [ek]; exact hst) hj.1 hj.2 hn ho)
  rw [← e1] at hput
  have HR := Lib.hid hput
  have t0 : ∃ u, w.cell? ⟨g12, k.toNat * 2 + 1, none⟩ = some u := by
    obtain ⟨bz, off, hp, _, _, hcell⟩ := Row.nonnil ((Row.of_owns hW.own).mono (Nat.zero_le _)) (by omega)
    simp only [Option.some.injEq, Addr.mk.injEq] at hp
    obtain ⟨rfl, rfl, _⟩ := hp
    have := Row.elAt encFl_length hcell hk0 (by rw [subK_length]; omega) 1 _ (by decide) rfl
    rw [Nat.zero_add] at this
    exact ⟨_, this⟩
  obtain ⟨u0, t0⟩ := t0
  have f0 := owns_frozenC hW.own (k.toNat * 2 + 1)
  clear hput hW e1 ek hst hn ho g
  obtain ⟨p1, c1, hv1⟩ := hs.r.shape
  subst hv1
  obtain ⟨p2, c2, hv2⟩ := hl.r.shape
  subst hv2
  obtain ⟨p3, c3, hv3⟩ := hf.r.shape
  subst hv3
  obtain ⟨p4, c4, hv4⟩ := hb.r.shape
  subst hv4
  clear hs hl hf hb
  generalize scIdx L (geta K j) = ix at *
  generalize geta K j = x at *
  rw [fr_suP, show fr 0 = _ from q0, show fr 1 = _ from q1, show fr 2 = _ from q2, show fr 3 = _ from q3, show fr 12 = _ from q12, show fr 13 = _ from q13, show fr 16 = _ from q16, show fr 17 = _ from q17, show fr 34 = _ from q34, show fr 35 = _ from q35, show fr 36 = _ from q36, show fr 54 = _ from q54, show fr 55 = _ from q55, show fr 56 = _ from q56]
  clear q0 q1 q2 q3 q12 q13 q16 q17 q34 q35 q36 q54 q55 q56
  conv => arg 2; whnf
  go_wp2_with fail
  refine Met.intro (hS _ _ ?_)
  exact ⟨HR.out, Fr.of _ rfl ⟨rfl, rfl, rfl, rfl, rfl, rfl, rfl, rfl, trivial⟩⟩

set_option maxRecDepth 100000 in
set_option maxHeartbeats 1000000 in
theorem su18 (w0 : World) (vs vl vf vk : Value) (S : List SlD) (L : List ScD) (Fs : List FlD) (K : List ByteArray) (hs : SlH w0 vs S) (hl : ScH w0 vl L) (hf : FlH w0 vf Fs) (hb : BnH w0 vk K) (g : SuG S L Fs K) (v12 : Value) (k : Int) (g14 : Nat) (hst : stays L (geta Fs k).pl = false) (hk : 0 ≤ k ∧ k < Fs.length) (j : Int) (hj : 0 ≤ j ∧ j < K.length) : T3 Try.prog (fun a w => (SuW w0 S L Fs K v12 (k.toNat) w) ∧ Fr 95 [(0, vs), (1, vl), (2, vf), (3, vk), (12, v12), (13, .int .i64 k), (34, vf), (35, .int .i64 Fs.length), (36, .int .i64 k), (54, vk), (55, .int .i64 K.length), (56, .int .i64 j)] a) (sel [1, 1, 1, 1, 0, 1, 4, 4, 1, 1, 0, 4, 1, 1, 1, 4, 4, 1, 1, 1] suP) (fun a w => (SuW w0 S L Fs K v12 (k.toNat) w) ∧ Fr 95 [(0, vs), (1, vl), (2, vf), (3, vk), (12, v12), (13, .int .i64 k), (34, vf), (35, .int .i64 Fs.length), (36, .int .i64 k), (54, vk), (55, .int .i64 K.length), (56, .int .i64 (j + 1))] a) No 9 No := by
  refine T3.leaf ?_
  rintro Q JS JX JT K_ hS hK hX hE hT hR a w ⟨hW, ⟨fr, rfl, q0, q1, q2, q3, q12, q13, q34, q35, q36, q54, q55, q56, _⟩⟩
  have HW := Lib.hid hW
  have hbn := hb.n
  obtain ⟨p5, c5, hv5⟩ := (Row.of_owns hW.own).shape
  subst hv5
  obtain ⟨p1, c1, hv1⟩ := hs.r.shape
  subst hv1
  obtain ⟨p2, c2, hv2⟩ := hl.r.shape
  subst hv2
  obtain ⟨p3, c3, hv3⟩ := hf.r.shape
  subst hv3
  obtain ⟨p4, c4, hv4⟩ := hb.r.shape
  subst hv4
  clear hW hs hl hf hb
  rw [fr_suP, show fr 0 = _ from q0, show fr 1 = _ from q1, show fr 2 = _ from q2, show fr 3 = _ from q3, show fr 12 = _ from q12, show fr 13 = _ from q13, show fr 34 = _ from q34, show fr 35 = _ from q35, show fr 36 = _ from q36, show fr 54 = _ from q54, show fr 55 = _ from q55, show fr 56 = _ from q56]
  clear q0 q1 q2 q3 q12 q13 q34 q35 q36 q54 q55 q56
  conv => arg 2; whnf
  go_wp2_with fail
  refine Met.intro (hS _ _ ?_)
  exact ⟨HW.out, Fr.of _ rfl ⟨rfl, rfl, rfl, rfl, rfl, rfl, rfl, rfl, rfl, rfl, rfl, rfl, trivial⟩⟩

set_option maxRecDepth 100000 in
set_option maxHeartbeats 1000000 in
theorem suin (w0 : World) (vs vl vf vk : Value) (S : List SlD) (L : List ScD) (Fs : List FlD) (K : List ByteArray) (hs : SlH w0 vs S) (hl : ScH w0 vl L) (hf : FlH w0 vf Fs) (hb : BnH w0 vk K) (g : SuG S L Fs K) (v12 : Value) (k : Int) (g14 : Nat) (hst : stays L (geta Fs k).pl = false) (hk : 0 ≤ k ∧ k < Fs.length) : T3 Try.prog (fun a w => (SuW w0 S L Fs K v12 (k.toNat) w) ∧ Fr 95 [(0, vs), (1, vl), (2, vf), (3, vk), (12, v12), (13, .int .i64 k), (34, vf), (35, .int .i64 Fs.length), (36, .int .i64 k), (54, vk), (55, .int .i64 K.length), (56, .int .i64 0)] a) (sel [1, 1, 1, 1, 0, 1, 4, 4, 1, 1, 0, 4, 1, 1, 1] suP) (fun a w => (SuW w0 S L Fs K v12 ((k + 1).toNat) w) ∧ Fr 95 [(0, vs), (1, vl), (2, vf), (3, vk), (12, v12), (34, vf), (35, .int .i64 Fs.length), (36, .int .i64 k)] a) No 9 No := by
  have ek : ((k.toNat : Nat) : Int) = k := Int.toNat_of_nonneg hk.1
  have e1 : (k + 1).toNat = k.toNat + 1 := by have := hk.1; omega
  refine T3.loop (c := (sel [1, 1, 1, 1, 0, 1, 4, 4, 1, 1, 0, 4, 1, 1, 1, 4, 4] suP)) (fun ng => (fun a w => ∃ j : Int, ((ng : Int) = K.length - j ∧ (0 ≤ j ∧ j ≤ K.length) ∧ ∀ j' : Int, 0 ≤ j' → j' < j → okSub S L (subK S L Fs K k.toNat) k.toNat (geta K j') = false) ∧ (SuW w0 S L Fs K v12 (k.toNat) w) ∧ Fr 95 [(0, vs), (1, vl), (2, vf), (3, vk), (12, v12), (13, .int .i64 k), (34, vf), (35, .int .i64 Fs.length), (36, .int .i64 k), (54, vk), (55, .int .i64 K.length), (56, .int .i64 j)] a)) (fun a w q => ⟨K.length, 0, ⟨by omega, ⟨by omega, by omega⟩, fun j h0 h1 => by omega⟩, q⟩) (fun ng => T3.ex fun j => T3.pure fun hj3 => ?_)
  obtain ⟨hng, hj, hn⟩ := hj3
  refine T3.seq (s := (sel [1, 1, 1, 1, 0, 1, 4, 4, 1, 1, 0, 4, 1, 1, 1, 4, 4, 0] suP)) (c := (sel [1, 1, 1, 1, 0, 1, 4, 4, 1, 1, 0, 4, 1, 1, 1, 4, 4, 1] suP)) ((su13 w0 vs vl vf vk S L Fs K hs hl hf hb g v12 k g14 hst hk j hj).noX) ?_
  refine T3.seq (s := (sel [1, 1, 1, 1, 0, 1, 4, 4, 1, 1, 0, 4, 1, 1, 1, 4, 4, 1, 0] suP)) (c := (sel [1, 1, 1, 1, 0, 1, 4, 4, 1, 1, 0, 4, 1, 1, 1, 4, 4, 1, 1] suP)) (S := fun a w => (j < K.length) ∧ (SuW w0 S L Fs K v12 (k.toNat) w) ∧ Fr 95 [(0, vs), (1, vl), (2, vf), (3, vk), (12, v12), (13, .int .i64 k), (34, vf), (35, .int .i64 Fs.length), (36, .int .i64 k), (54, vk), (55, .int .i64 K.length), (56, .int .i64 j)] a) ?_ (T3.pure fun hlt => ?_)
  · refine T3.iff (x := .skip) (y := .exit 2) (M := fun q w => q = decide (j < (K.length : Int)) ∧ SuW w0 S L Fs K v12 (k.toNat) w) (by decide) (T3.skip fun a w q => ⟨of_decide_eq_true q.2.1.symm, q.2.2, q.1.tail⟩) (T3.exit fun a w q => ?_)
    have he := of_decide_eq_false q.2.1.symm
    refine ⟨?_, q.1.sub (by simp)⟩
    rw [e1]
    exact q.2.2.step (subK_none (by rw [ek]; exact hst) (fun j' h0 h1 => hn j' h0 (by omega)))
  have hj2 : 0 ≤ j ∧ j < K.length := ⟨hj.1, hlt⟩
  refine T3.seq (s := (sel [1, 1, 1, 1, 0, 1, 4, 4, 1, 1, 0, 4, 1, 1, 1, 4, 4, 1, 1, 0] suP)) (c := (sel [1, 1, 1, 1, 0, 1, 4, 4, 1, 1, 0, 4, 1, 1, 1, 4, 4, 1, 1, 1] suP)) (S := fun a w => (okSub S L (subK S L Fs K k.toNat) k.toNat (geta K j) = false) ∧ (SuW w0 S L Fs K v12 (k.toNat) w) ∧ Fr 95 [(0, vs), (1, vl), (2, vf), (3, vk), (12, v12), (13, .int .i64 k), (34, vf), (35, .int .i64 Fs.length), (36, .int .i64 k), (54, vk), (55, .int .i64 K.length), (56, .int .i64 j)] a) ?_ (T3.pure fun hno => ?_)
  · refine T3.block (id' := 3) (c := (sel [1, 1, 1, 1, 0, 1, 4, 4, 1, 1, 0, 4, 1, 1, 1, 4, 4, 1, 1, 0, 4] suP)) (by decide) ?_
    refine T3.seq (s := (sel [1, 1, 1, 1, 0, 1, 4, 4, 1, 1, 0, 4, 1, 1, 1, 4, 4, 1, 1, 0, 4, 0] suP)) (c := (sel [1, 1, 1, 1, 0, 1, 4, 4, 1, 1, 0, 4, 1, 1, 1, 4, 4, 1, 1, 0, 4, 1] suP)) ((su14 w0 vs vl vf vk S L Fs K hs hl hf hb g v12 k g14 hst hk j hj2).noX) ?_
    refine T3.seq (s := (sel [1, 1, 1, 1, 0, 1, 4, 4, 1, 1, 0, 4, 1, 1, 1, 4, 4, 1, 1, 0, 4, 1, 0] suP)) (c := (sel [1, 1, 1, 1, 0, 1, 4, 4, 1, 1, 0, 4, 1, 1, 1, 4, 4, 1, 1, 0, 4, 1, 1] suP)) ((su15 w0 vs vl vf vk S L Fs K hs hl hf hb g v12 k g14 hst hk j hj2).noX) ?_
    refine T3.test (s := (sel [1, 1, 1, 1, 0, 1, 4, 4, 1, 1, 0, 4, 1, 1, 1, 4, 4, 1, 1, 0, 4, 1, 1, 0] suP)) (x := (sel [1, 1, 1, 1, 0, 1, 4, 4, 1, 1, 0, 4, 1, 1, 1, 4, 4, 1, 1, 0, 4, 1, 1, 1, 2] suP)) (y := .skip) (C := fun q => (q = okSub S L (subK S L Fs K k.toNat) k.toNat (geta K j))) (W := fun w => SuW w0 S L Fs K v12 (k.toNat) w) (by decide) ((su16 w0 vs vl vf vk S L Fs K hs hl hf hb g v12 k g14 hst hk j hj2).noX) ?_ (T3.skip ?_)
    · refine T3.pre (R := fun a w => (okSub S L (subK S L Fs K k.toNat) k.toNat (geta K j) = true) ∧ (SuW w0 S L Fs K v12 (k.toNat) w) ∧ Fr 95 [(0, vs), (1, vl), (2, vf), (3, vk), (12, v12), (13, .int .i64 k), (16, .string (geta K j)), (17, .int .i64 (scIdx L (geta K j))), (34, vf), (35, .int .i64 Fs.length), (36, .int .i64 k), (54, vk), (55, .int .i64 K.length), (56, .int .i64 j)] a) (T3.pure fun ho => ?_) (fun a w q => ⟨q.2.1.symm, q.2.2, q.1.tail⟩)
      exact T3.seq (s := (sel [1, 1, 1, 1, 0, 1, 4, 4, 1, 1, 0, 4, 1, 1, 1, 4, 4, 1, 1, 0, 4, 1, 1, 1, 2, 0] suP)) (c := .exit 2) ((su17 w0 vs vl vf vk S L Fs K hs hl hf hb g v12 k g14 hst hk j hj2 hn ho).noX) (T3.exit fun a w q => q)
    · rintro a w ⟨hq, hW, hF⟩
      exact ⟨hq.symm, hW, hF.sub (by simp)⟩
  exact ((su18 w0 vs vl vf vk S L Fs K hs hl hf hb g v12 k g14 hst hk j hj2).noX).post (fun a w q => ⟨ng - 1, by omega, j + 1, ⟨by omega, ⟨by omega, by omega⟩, fun j' h0 h1 => by
    by_cases e : j' = j
    · rw [e]; exact hno
    · exact hn j' h0 (by omega)⟩, q⟩)

set_option maxRecDepth 100000 in
set_option maxHeartbeats 1000000 in
theorem sub_b (w0 : World) (vs vl vf vk : Value) (S : List SlD) (L : List ScD) (Fs : List FlD) (K : List ByteArray) (hs : SlH w0 vs S) (hl : ScH w0 vl L) (hf : FlH w0 vf Fs) (hb : BnH w0 vk K) (g : SuG S L Fs K) (v12 : Value) (k : Int) : T3 Try.prog (fun a w => (0 ≤ k ∧ k < Fs.length) ∧ (SuW w0 S L Fs K v12 ((k : Int).toNat) w) ∧ Fr 95 [(0, vs), (1, vl), (2, vf), (3, vk), (12, v12), (34, vf), (35, .int .i64 Fs.length), (36, .int .i64 k)] a) (sel [1, 1, 1, 1, 0, 1, 4, 4, 1, 1, 0] suP) (fun a w => (0 ≤ k ∧ k < Fs.length) ∧ (SuW w0 S L Fs K v12 (((k + 1) : Int).toNat) w) ∧ Fr 95 [(0, vs), (1, vl), (2, vf), (3, vk), (12, v12), (34, vf), (35, .int .i64 Fs.length), (36, .int .i64 k)] a) No 100 No := by
  refine T3.blockX (c := (sel [1, 1, 1, 1, 0, 1, 4, 4, 1, 1, 0, 4] suP)) ?_
  refine T3.seq (s := (sel [1, 1, 1, 1, 0, 1, 4, 4, 1, 1, 0, 4, 0] suP)) (c := (sel [1, 1, 1, 1, 0, 1, 4, 4, 1, 1, 0, 4, 1] suP)) ((su10 w0 vs vl vf vk S L Fs K hs hl hf hb g v12 k).noX) (T3.ex fun g14 => ?_)
  refine T3.seq (s := (sel [1, 1, 1, 1, 0, 1, 4, 4, 1, 1, 0, 4, 1, 0] suP)) (c := (sel [1, 1, 1, 1, 0, 1, 4, 4, 1, 1, 0, 4, 1, 1] suP)) (S := fun a w => (0 ≤ k ∧ k < Fs.length) ∧ (stays L (geta Fs k).pl = false) ∧ (SuW w0 S L Fs K v12 (k.toNat) w ∧ FlB w g14 (geta Fs k)) ∧ Fr 95 [(0, vs), (1, vl), (2, vf), (3, vk), (12, v12), (13, .int .i64 k), (14, .pointer (some ⟨g14, 0, none⟩)), (34, vf), (35, .int .i64 Fs.length), (36, .int .i64 k)] a) ?_ (T3.pure fun hk => T3.pure fun hst => ?_)
  · refine T3.test (s := (sel [1, 1, 1, 1, 0, 1, 4, 4, 1, 1, 0, 4, 1, 0, 0] suP)) (x := .exit 1) (y := .skip) (C := fun q => ((0 ≤ k ∧ k < Fs.length) ∧ q = stays L (geta Fs k).pl)) (W := fun w => SuW w0 S L Fs K v12 (k.toNat) w ∧ FlB w g14 (geta Fs k)) (by decide) ((su11 w0 vs vl vf vk S L Fs K hs hl hf hb g v12 k g14).noX) (T3.exit ?_) (T3.skip ?_)
    · rintro a w ⟨hF, ⟨hk, hq⟩, hW⟩
      refine ⟨hk, ?_, hF.sub (by simp)⟩
      rw [show (k + 1).toNat = k.toNat + 1 by omega]
      exact hW.1.step (subK_stay (by rw [Int.toNat_of_nonneg hk.1]; exact hq.symm))
    · rintro a w ⟨⟨hk, hq⟩, hW, hF⟩
      exact ⟨hk, hq.symm, hW, hF⟩
  exact (T3.seq (s := (sel [1, 1, 1, 1, 0, 1, 4, 4, 1, 1, 0, 4, 1, 1, 0] suP)) (c := (sel [1, 1, 1, 1, 0, 1, 4, 4, 1, 1, 0, 4, 1, 1, 1] suP)) ((su12 w0 vs vl vf vk S L Fs K hs hl hf hb g v12 k g14 hst hk).noX (id' := 1)) ((suin w0 vs vl vf vk S L Fs K hs hl hf hb g v12 k g14 hst hk).noX)).post (fun a w q => ⟨hk, q⟩)

def suLI (w0 : World) (vs vl vf vk : Value) (S : List SlD) (L : List ScD) (Fs : List FlD) (K : List ByteArray) (hs : SlH w0 vs S) (hl : ScH w0 vl L) (hf : FlH w0 vf Fs) (hb : BnH w0 vk K) (g : SuG S L Fs K) (v12 : Value) (k : Int) (a : Act) (w : World) : Prop := (0 ≤ k ∧ k ≤ Fs.length) ∧ (SuW w0 S L Fs K v12 ((k : Int).toNat) w) ∧ Fr 95 [(0, vs), (1, vl), (2, vf), (3, vk), (12, v12), (34, vf), (35, .int .i64 Fs.length), (36, .int .i64 k)] a
set_option maxRecDepth 100000 in
set_option maxHeartbeats 1000000 in
theorem suLt (w0 : World) (vs vl vf vk : Value) (S : List SlD) (L : List ScD) (Fs : List FlD) (K : List ByteArray) (hs : SlH w0 vs S) (hl : ScH w0 vl L) (hf : FlH w0 vf Fs) (hb : BnH w0 vk K) (g : SuG S L Fs K) (v12 : Value) (k : Int) : T3 Try.prog (fun a w => suLI w0 vs vl vf vk S L Fs K hs hl hf hb g v12 k a w) (sel [1, 1, 1, 1, 0, 1, 4, 4, 0] suP) (fun a w => ∃ q, Fr 95 ((37, .bool q) :: [(36, .int .i64 k)]) a ∧ ((q = true ↔ k < Fs.length) ∧ suLI w0 vs vl vf vk S L Fs K hs hl hf hb g v12 k a w)) No 9 No := by
  refine T3.leaf ?_
  rintro Q JS JX JT K_ hS hK hX hE hT hR a w ⟨hk, hW, ⟨fr, rfl, q0, q1, q2, q3, q12, q34, q35, q36, _⟩⟩
  have hln := hf.n
  rw [fr_suP, show fr 0 = _ from q0, show fr 1 = _ from q1, show fr 2 = _ from q2, show fr 3 = _ from q3, show fr 12 = _ from q12, show fr 34 = _ from q34, show fr 35 = _ from q35, show fr 36 = _ from q36]
  clear q0 q1 q2 q3 q12 q34 q35 q36
  conv => arg 2; whnf
  by_cases hlt : k < Fs.length
  · go_wp2_with fail
    refine Met.intro (hS _ _ ?_)
    exact ⟨true, Fr.of _ rfl ⟨rfl, rfl, trivial⟩, ⟨fun _ => hlt, fun _ => rfl⟩, hk, hW, Fr.of _ rfl ⟨rfl, rfl, rfl, rfl, rfl, rfl, rfl, rfl, trivial⟩⟩
  · have hpb : decide (k < (Fs.length : Int)) = false := by simp; omega
    go_wp2_with fail
    refine Met.intro (hS _ _ ?_)
    exact ⟨false, Fr.of _ rfl ⟨rfl, rfl, trivial⟩, ⟨(fun h => by cases h), fun h => absurd h (by omega)⟩, hk, hW, Fr.of _ rfl ⟨rfl, rfl, rfl, rfl, rfl, rfl, rfl, rfl, trivial⟩⟩

set_option maxRecDepth 100000 in
set_option maxHeartbeats 1000000 in
theorem suLn (w0 : World) (vs vl vf vk : Value) (S : List SlD) (L : List ScD) (Fs : List FlD) (K : List ByteArray) (hs : SlH w0 vs S) (hl : ScH w0 vl L) (hf : FlH w0 vf Fs) (hb : BnH w0 vk K) (g : SuG S L Fs K) (v12 : Value) (k : Int) : T3 Try.prog (fun a w => (0 ≤ k ∧ k < Fs.length) ∧ (SuW w0 S L Fs K v12 (((k + 1) : Int).toNat) w) ∧ Fr 95 [(0, vs), (1, vl), (2, vf), (3, vk), (12, v12), (34, vf), (35, .int .i64 Fs.length), (36, .int .i64 k)] a) (sel [1, 1, 1, 1, 0, 1, 4, 4, 1, 1, 1] suP) (fun a w => suLI w0 vs vl vf vk S L Fs K hs hl hf hb g v12 (k + 1) a w) No 9 No := by
  refine T3.leaf ?_
  rintro Q JS JX JT K_ hS hK hX hE hT hR a w ⟨hk, hW, ⟨fr, rfl, q0, q1, q2, q3, q12, q34, q35, q36, _⟩⟩
  obtain ⟨hk0, hk1⟩ := hk
  have hln := hf.n
  rw [fr_suP, show fr 0 = _ from q0, show fr 1 = _ from q1, show fr 2 = _ from q2, show fr 3 = _ from q3, show fr 12 = _ from q12, show fr 34 = _ from q34, show fr 35 = _ from q35, show fr 36 = _ from q36]
  clear q0 q1 q2 q3 q12 q34 q35 q36
  conv => arg 2; whnf
  go_wp2_with fail
  refine Met.intro (hS _ _ ?_)
  exact ⟨⟨by omega, by omega⟩, hW, Fr.of _ rfl ⟨rfl, rfl, rfl, rfl, rfl, rfl, rfl, rfl, trivial⟩⟩

set_option maxRecDepth 100000 in
set_option maxHeartbeats 1000000 in
theorem suLloop (w0 : World) (vs vl vf vk : Value) (S : List SlD) (L : List ScD) (Fs : List FlD) (K : List ByteArray) (hs : SlH w0 vs S) (hl : ScH w0 vl L) (hf : FlH w0 vf Fs) (hb : BnH w0 vk K) (g : SuG S L Fs K) (v12 : Value) : T3 Try.prog (fun a w => suLI w0 vs vl vf vk S L Fs K hs hl hf hb g v12 0 a w) (sel [1, 1, 1, 1, 0, 1] suP) (fun a w => (SuW w0 S L Fs K v12 (Fs.length) w) ∧ Fr 95 [(12, v12)] a) No 9 No := by
  refine T3.loop (c := (sel [1, 1, 1, 1, 0, 1, 4, 4] suP)) (fun ng_ a w => ∃ k : Int, (ng_ : Int) = Fs.length - k ∧ suLI w0 vs vl vf vk S L Fs K hs hl hf hb g v12 k a w) (fun a w h => ⟨(Fs.length : Int).toNat, 0, by have := h.1.2; omega, h⟩) (fun ng_ => T3.ex fun k => T3.pure fun hng_ => ?_)
  refine T3.seq (s := (sel [1, 1, 1, 1, 0, 1, 4, 4, 0] suP)) (c := (sel [1, 1, 1, 1, 0, 1, 4, 4, 1] suP)) ((suLt w0 vs vl vf vk S L Fs K hs hl hf hb g v12 k).noX) ?_
  refine T3.seq (s := (sel [1, 1, 1, 1, 0, 1, 4, 4, 1, 0] suP)) (c := (sel [1, 1, 1, 1, 0, 1, 4, 4, 1, 1] suP)) (S := fun a w => (0 ≤ k ∧ k < Fs.length) ∧ (SuW w0 S L Fs K v12 ((k : Int).toNat) w) ∧ Fr 95 [(0, vs), (1, vl), (2, vf), (3, vk), (12, v12), (34, vf), (35, .int .i64 Fs.length), (36, .int .i64 k)] a) ?_ (T3.seq (s := (sel [1, 1, 1, 1, 0, 1, 4, 4, 1, 1, 0] suP)) (c := (sel [1, 1, 1, 1, 0, 1, 4, 4, 1, 1, 1] suP)) (S := fun a w => (0 ≤ k ∧ k < Fs.length) ∧ (SuW w0 S L Fs K v12 (((k + 1) : Int).toNat) w) ∧ Fr 95 [(0, vs), (1, vl), (2, vf), (3, vk), (12, v12), (34, vf), (35, .int .i64 Fs.length), (36, .int .i64 k)] a) (T3.noX (sub_b w0 vs vl vf vk S L Fs K hs hl hf hb g v12 k)) ?_)
  · refine T3.cond (o := .tmp 37) (x := .skip) (y := .exit 0) (fun a w => k < Fs.length ∧ suLI w0 vs vl vf vk S L Fs K hs hl hf hb g v12 k a w) (fun a w => ¬ k < Fs.length ∧ suLI w0 vs vl vf vk S L Fs K hs hl hf hb g v12 k a w) ?_ (T3.skip ?_) (T3.exit ?_)
    · rintro a w ⟨q, hF, hq, hI⟩
      have he := hF.eval 37 (by decide) (v := .bool q) (by simp)
      cases q
      · exact .inr ⟨he, (fun h => by have := hq.2 h; cases this), hI⟩
      · exact .inl ⟨he, hq.1 rfl, hI⟩
    · rintro a w ⟨hlt, hk, hI⟩
      exact ⟨⟨hk.1, hlt⟩, hI⟩
    · rintro a w ⟨hlt, hk, hI⟩
      obtain rfl : k = Fs.length := by omega
      obtain ⟨hW, hF⟩ := hI
      rw [show ((Fs.length : Nat) : Int).toNat = Fs.length by omega] at hW
      exact ⟨hW, hF.sub (by simp)⟩
  · intro a w hx
    have hk := hx.1
    exact (((suLn w0 vs vl vf vk S L Fs K hs hl hf hb g v12 k).noX).post (fun a w q => ⟨ng_ - 1, by omega, k + 1, by omega, q⟩)) a w hx
set_option maxRecDepth 100000 in
set_option maxHeartbeats 1000000 in
theorem su20 (w0 : World) (vs vl vf vk : Value) (S : List SlD) (L : List ScD) (Fs : List FlD) (K : List ByteArray) (hs : SlH w0 vs S) (hl : ScH w0 vl L) (hf : FlH w0 vf Fs) (hb : BnH w0 vk K) (g : SuG S L Fs K) (v12 : Value) : T3 Try.prog (fun a w => (SuW w0 S L Fs K v12 (Fs.length) w) ∧ Fr 95 [(12, v12)] a) (sel [1, 1, 1, 1, 1, 0] suP) (fun a w => (SuW w0 S L Fs K v12 (Fs.length) w) ∧ Fr 95 [(8, v12), (9, .int .i64 0)] a) No 9 No := by
  refine T3.leaf ?_
  rintro Q JS JX JT K_ hS hK hX hE hT hR a w ⟨hW, ⟨fr, rfl, q12, _⟩⟩
  have HW := Lib.hid hW
  obtain ⟨p5, c5, hv5⟩ := (Row.of_owns hW.own).shape
  subst hv5
  clear hW
  rw [fr_suP, show fr 12 = _ from q12]
  clear q12
  conv => arg 2; whnf
  go_wp2_with fail
  refine Met.intro (hS _ _ ?_)
  exact ⟨HW.out, Fr.of _ rfl ⟨rfl, rfl, trivial⟩⟩

theorem subR_bad {S : List SlD} {L : List ScD} {F : List FlD} {K : List ByteArray} (h : subE S L F K ≠ 0) : subR S L F K = [] := by unfold subR; rw [if_neg h]
theorem subE_all {S : List SlD} {L : List ScD} {F : List FlD} {K : List ByteArray} (h : allE S L F ≠ 0) : subE S L F K = allE S L F := by unfold subE; rw [if_pos h]
theorem subE_bench {S : List SlD} {L : List ScD} {F : List FlD} {K : List ByteArray} (h : allE S L F = 0) : subE S L F K = benchE L F K := by unfold subE; rw [if_neg (by simp [h])]
set_option maxRecDepth 100000 in
set_option maxHeartbeats 1000000 in
theorem su_all (w0 : World) (vs vl vf vk : Value) (S : List SlD) (L : List ScD) (Fs : List FlD) (K : List ByteArray) (hs : SlH w0 vs S) (hl : ScH w0 vl L) (hf : FlH w0 vf Fs) (hb : BnH w0 vk K) : T3 Try.prog (fun a w => (Below w0.heap.size w0 w) ∧ Fr 95 [(0, vs), (1, vl), (2, vf), (3, vk)] a) suP No No 9 (fun a w => ∃ v8 : Value, Fr 95 [(8, v8), (9, .int .i64 (subE S L Fs K))] a ∧ w.ownsRow w0.heap.size 42 2 v8 (subR S L Fs K).length (cellsOf encFl (subR S L Fs K)) ∧ Below w0.heap.size w0 w) := by
  refine T3.seq (s := (sel [0] suP)) (c := (sel [1] suP)) (T3.noT (su0 w0 vs vl vf vk S L Fs K hs hl hf hb)) ?_
  refine T3.seq (s := (sel [1, 0] suP)) (c := (sel [1, 1] suP)) (S := fun a w => (allE S L Fs = 0) ∧ (Below w0.heap.size w0 w) ∧ Fr 95 [(0, vs), (1, vl), (2, vf), (3, vk)] a) ?_ (T3.pure fun ha => ?_)
  · refine T3.seq (s := (sel [1, 0, 0] suP)) (c := (sel [1, 0, 1] suP)) (T3.noT (su1 w0 vs vl vf vk S L Fs K hs hl hf hb)) ?_
    refine T3.test (s := (sel [1, 0, 1, 0] suP)) (x := (sel [1, 0, 1, 1, 2] suP)) (y := .skip) (C := fun q => (q = (allE S L Fs != 0))) (W := fun w => Below w0.heap.size w0 w) (by decide) (T3.noT (su2 w0 vs vl vf vk S L Fs K hs hl hf hb)) ?_ (T3.skip ?_)
    · refine T3.seq (s := (sel [1, 0, 1, 1, 2, 0] suP)) (c := .ret) (t3_seqx (p := allE S L Fs ≠ 0) (T3.noT (su3 w0 vs vl vf vk S L Fs K hs hl hf hb)) ?_) (T3.ret ?_)
      · rintro a w ⟨hF, hq, hW⟩
        exact ⟨by have := hq.symm; simpa using this, hW, hF.tail⟩
      · rintro a w ⟨hp, hW, hF⟩
        have hd : subE S L Fs K = allE S L Fs := subE_all hp
        refine ⟨_, by rw [hd]; exact hF, ?_, hW⟩
        rw [subR_bad (by rw [hd]; exact hp)]
        exact World.ownsRow_nil _ _ _ _
    · rintro a w ⟨hq, hW, hF⟩
      exact ⟨by have := hq.symm; simpa using this, hW, hF.sub (by simp)⟩
  have hss : ssE S L = 0 := by
    by_cases e : ssE S L = 0
    · exact e
    · have := allE_ss (F := Fs) e
      rw [ha] at this
      exact absurd this.symm e
  refine T3.seq (s := (sel [1, 1, 0] suP)) (c := (sel [1, 1, 1] suP)) (S := fun a w => (benchE L Fs K = 0) ∧ (Below w0.heap.size w0 w) ∧ Fr 95 [(0, vs), (1, vl), (2, vf), (3, vk)] a) ?_ (T3.pure fun hbe => ?_)
  · refine T3.seq (s := (sel [1, 1, 0, 0] suP)) (c := (sel [1, 1, 0, 1] suP)) (T3.noT (su4 w0 vs vl vf vk S L Fs K hs hl hf hb (ss_rise hss))) ?_
    refine T3.test (s := (sel [1, 1, 0, 1, 0] suP)) (x := (sel [1, 1, 0, 1, 1, 2] suP)) (y := .skip) (C := fun q => (q = (benchE L Fs K != 0))) (W := fun w => Below w0.heap.size w0 w) (by decide) (T3.noT (su5 w0 vs vl vf vk S L Fs K hs hl hf hb)) ?_ (T3.skip ?_)
    · refine T3.seq (s := (sel [1, 1, 0, 1, 1, 2, 0] suP)) (c := .ret) (t3_seqx (p := benchE L Fs K ≠ 0) (T3.noT (su6 w0 vs vl vf vk S L Fs K hs hl hf hb)) ?_) (T3.ret ?_)
      · rintro a w ⟨hF, hq, hW⟩
        exact ⟨by have := hq.symm; simpa using this, hW, hF.tail⟩
      · rintro a w ⟨hp, hW, hF⟩
        have hd : subE S L Fs K = benchE L Fs K := subE_bench ha
        refine ⟨_, by rw [hd]; exact hF, ?_, hW⟩
        rw [subR_bad (by rw [hd]; exact hp)]
        exact World.ownsRow_nil _ _ _ _
    · rintro a w ⟨hq, hW, hF⟩
      exact ⟨by have := hq.symm; simpa using this, hW, hF.sub (by simp)⟩
  have g : SuG S L Fs K := ⟨ha, hbe⟩
  refine T3.seq (s := (sel [1, 1, 1, 0] suP)) (c := (sel [1, 1, 1, 1] suP)) (T3.noT (su7 w0 vs vl vf vk S L Fs K hs hl hf hb)) ?_
  refine T3.ex fun v12 => ?_
  refine T3.seq (s := (sel [1, 1, 1, 1, 0] suP)) (c := (sel [1, 1, 1, 1, 1] suP)) (T3.noT (T3.seq (s := (sel [1, 1, 1, 1, 0, 0] suP)) (c := (sel [1, 1, 1, 1, 0, 1] suP)) (su8 w0 vs vl vf vk S L Fs K hs hl hf hb g v12) (suLloop w0 vs vl vf vk S L Fs K hs hl hf hb g v12))) ?_
  refine T3.seq (s := (sel [1, 1, 1, 1, 1, 0] suP)) (c := .ret) (T3.noT (su20 w0 vs vl vf vk S L Fs K hs hl hf hb g v12)) (T3.ret ?_)
  rintro a w ⟨hW, hF⟩
  refine ⟨v12, by rw [g.e]; exact hF, ?_, hW.bel⟩
  rw [g.r]
  unfold subL
  rw [subK_length]
  exact hW.own

set_option maxRecDepth 100000 in
set_option maxHeartbeats 1000000 in
theorem subbed_prog (w0 : World) (vs vl vf vk : Value) (S : List SlD) (L : List ScD) (Fs : List FlD) (K : List ByteArray) (hs : SlH w0 vs S) (hl : ScH w0 vl L) (hf : FlH w0 vf Fs) (hb : BnH w0 vk K) : Calls Try.prog 16 #[vs, vl, vf, vk] w0 fun e w' => ∃ v8 : Value, e = .returned (.tuple #[v8, .int .i64 (subE S L Fs K)]) ∧ w'.ownsRow w0.heap.size 42 2 v8 (subR S L Fs K).length (cellsOf encFl (subR S L Fs K)) ∧ Below w0.heap.size w0 w' := by
  have hall := su_all w0 vs vl vf vk S L Fs K hs hl hf hb
  go_enter Try.func16, Try.ntmps16
  refine T3.done (s := suP) hall ⟨Below.refl _ _, Fr.of _ rfl ⟨rfl, rfl, rfl, rfl, trivial⟩⟩ ?_
  rintro a w ⟨v8, ⟨fr, rfl, q8, q9, _⟩, ho, hb⟩
  rw [fr_suP, show fr 8 = _ from q8, show fr 9 = _ from q9]
  go_ret2
  exact ⟨v8, rfl, ho, hb⟩
end Go.Proofs.Ytnmdpphddimfbaa
