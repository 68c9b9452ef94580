/-
  Contracts and lemmas towards the statement, of several parts; each part says ahead of it what it holds and under which conditions.
-/
import Derived.Test.YtnmdpphddimfbaaMg4
import Derived.Test.YtnmdpphddimfbaaMg2
import Derived.Maps.Own
/-
  Line-ups: some of the scorers, as the stream hands them out. Conditions: the bounds that each theorem names.
-/
set_option linter.unusedVariables false
namespace Go.Proofs.Ytnmdpphddimfbaa
open Go.RowKit Go.Bw
/-- Names that the stream handed out. -/
structure StO (B b : Nat) (w0 : World) (v : Value) (ks : List ByteArray) (w : World) : Prop where
  d : Drawn B w0 w b
  hB : B < w0.heap.size
  o : w.ownsRow w0.heap.size 9 1 v ks.length (cellsOf encSt ks)
  z : SmAll ks
section
variable {B b b' : Nat} {w0 w w' : World} {v v' : Value} {ks : List ByteArray}
theorem StO.drawn (h : StO B b w0 v ks w) (d : Drawn B w w' b') : StO B b' w0 v ks w' := ⟨h.d.trans d, h.hB, owns_drawn h.o d h.hB, h.z⟩
theorem StO.mono (h : StO B b w0 v ks w) (hb : b ≤ b') : StO B b' w0 v ks w := ⟨h.d.mono hb, h.hB, h.o, h.z⟩
theorem StO.alloc (h : StO B b w0 v ks w) (ob : Obj) : StO B b w0 v ks (w.alloc ob) := h.drawn ((Drawn.refl h.d.str).alloc ob)
theorem StO.app (h : StO B b w0 v ks w) {s : ByteArray} (hs : Sm s) (ho : w'.ownsRow w0.heap.size 9 1 v' (ks.length + 1) (cellsOf encSt ks ++ [.string s])) (g : w.grownBy w' v.ownBlock) : StO B b w0 v' (ks ++ [s]) w' :=
  ⟨h.d.app h.o (Nat.le_refl _) h.hB g, h.hB, by rw [cellsOf_snoc, List.length_append]; exact ho, h.z.snoc hs⟩
theorem StO.nil (h : Drawn B w0 w b) (hB : B < w0.heap.size) : StO B b w0 (.slice none 0 0) [] w := ⟨h, hB, World.ownsRow_nil _ _ _ _, .nil⟩
end
theorem smC {s : ByteArray} (h : s ∈ [(⟨#[97, 110, 110]⟩ : ByteArray), ⟨#[122, 101, 100]⟩]) : Sm s := by
  simp at h
  rcases h with rfl | rfl <;> decide
theorem map_at {l : List Int} {k : Int} (h : k.toNat < l.length) : (l.map (Value.int .i64))[k.toNat]? = some (.int .i64 (geti l k)) := by
  rw [List.getElem?_map, List.getElem?_eq_getElem h]
  unfold geti
  rw [List.getElem?_eq_getElem h]
  rfl
noncomputable def soM : Code := (Try.f7.body).getD .skip
set_option maxRecDepth 100000 in
theorem fr_soM (f : Nat → Value) : frame 37 f = ⟨#[f 0, f 1, f 2, f 3, f 4, f 5, f 6, f 7, f 8, f 9, f 10, f 11, f 12, f 13, f 14, f 15, f 16, f 17, f 18, f 19, f 20, f 21, f 22, f 23, f 24, f 25, f 26, f 27, f 28, f 29, f 30, f 31, f 32, f 33, f 34, f 35, f 36], []⟩ := by rfl
set_option maxRecDepth 100000 in
set_option maxHeartbeats 1000000 in
theorem so0 (B b bx : Nat) (w0 w1 : World) (g c : Nat) (pL : Option Addr) (L : List ScD) (hL : ScO B bx w1 (.slice pL L.length c) L w0) (hm : L.length ≤ 1000) (hb : b ≤ 40000) : T3 Try.prog (fun a w => (Str B w b ∧ IsW w0 w) ∧ Fr 37 [(0, .pointer (some ⟨B, 0, none⟩)), (1, .slice pL L.length c)] a) (sel [0] soM) (fun a w => (Str B w b ∧ IsW w0 w) ∧ Fr 37 [(0, .pointer (some ⟨B, 0, none⟩)), (1, .slice pL L.length c)] a) No 9 No := by
  refine T3.leaf ?_
  rintro Q JS JX JT K hS hK hX hE hT hR a w ⟨hW, ⟨fr, rfl, q0, q1, _⟩⟩
  rw [fr_soM, show fr 0 = _ from q0, show fr 1 = _ from q1]
  clear q0 q1
  conv => arg 2; whnf
  go_wp2_with fail
  refine Met.intro (hS _ _ ?_)
  exact ⟨hW, Fr.of _ rfl ⟨rfl, rfl, trivial⟩⟩

set_option maxRecDepth 100000 in
set_option maxHeartbeats 1000000 in
theorem so1 (B b bx : Nat) (w0 w1 : World) (g c : Nat) (pL : Option Addr) (L : List ScD) (hL : ScO B bx w1 (.slice pL L.length c) L w0) (hm : L.length ≤ 1000) (hb : b ≤ 40000) : T3 Try.prog (fun a w => (Str B w b ∧ IsW w0 w) ∧ Fr 37 [(0, .pointer (some ⟨B, 0, none⟩)), (1, .slice pL L.length c)] a) (sel [1, 0] soM) (fun a w => (Str B w b ∧ IsW w0 w) ∧ Fr 37 [(0, .pointer (some ⟨B, 0, none⟩)), (1, .slice pL L.length c), (5, .slice none 0 0)] a) No 9 No := by
  refine T3.leaf ?_
  rintro Q JS JX JT K hS hK hX hE hT hR a w ⟨hW, ⟨fr, rfl, q0, q1, _⟩⟩
  rw [fr_soM, show fr 0 = _ from q0, show fr 1 = _ from q1]
  clear q0 q1
  conv => arg 2; whnf
  go_wp2_with fail
  refine Met.intro (hS _ _ ?_)
  exact ⟨hW, Fr.of _ rfl ⟨rfl, rfl, rfl, trivial⟩⟩

set_option maxRecDepth 100000 in
set_option maxHeartbeats 1000000 in
theorem so2 (B b bx : Nat) (w0 w1 : World) (g c : Nat) (pL : Option Addr) (L : List ScD) (hL : ScO B bx w1 (.slice pL L.length c) L w0) (hm : L.length ≤ 1000) (hb : b ≤ 40000) : T3 Try.prog (fun a w => (Str B w b ∧ IsW w0 w) ∧ Fr 37 [(0, .pointer (some ⟨B, 0, none⟩)), (1, .slice pL L.length c), (5, .slice none 0 0)] a) (sel [1, 1, 0, 0] soM) (fun a w => ∃ (l : List Int) (v11 : Value), (CntI L.length l.length ∧ InN L.length l) ∧ ((0 ≤ (0 : Int) ∧ (0 : Int) ≤ l.length) ∧ ∃ (v5 : Value) (ks : List ByteArray), (LeI 0 ks.length) ∧ (StO B (b + L.length + (0 : Int).toNat) w0 v5 ks w ∧ RHd 3 B w.heap.size w l.length v11 (l.map (.int .i64))) ∧ Fr 37 [(0, .pointer (some ⟨B, 0, none⟩)), (1, .slice pL L.length c), (5, v5), (11, v11), (12, .int .i64 l.length), (13, .int .i64 0)] a)) No 9 No := by
  refine T3.leaf ?_
  rintro Q JS JX JT K hS hK hX hE hT hR a w ⟨⟨hS_, hW⟩, ⟨fr, rfl, q0, q1, q5, _⟩⟩
  obtain rfl : w = w0 := hW
  have hlt := hS_.lt
  have HS := Lib.hid hS_
  rw [fr_soM, show fr 0 = _ from q0, show fr 1 = _ from q1, show fr 5 = _ from q5]
  clear q0 q1 q5
  conv => arg 2; whnf
  go_wp2_with fail
  refine (order_any B b w L.length HS.out hm (by omega)).mono ?_
  rintro e w2 ⟨v11, l, rfl, ⟨hc, hi⟩, hO⟩
  have HF := Lib.hid (show StO B (b + L.length + (0 : Int).toNat) w (.slice none 0 0) [] w2 ∧ RHd 3 B w2.heap.size w2 l.length v11 (l.map (.int .i64)) from ⟨StO.nil hO.d hlt, RHd.of_owns hO.o hlt⟩)
  obtain ⟨p11, c11, e11⟩ := (Row.of_owns hO.o).shape
  subst e11
  clear hO
  go_wp2_with fail
  refine Met.intro (hS _ _ ?_)
  exact ⟨l, _, ⟨hc, hi⟩, ⟨by omega, by omega⟩, _, [], ⟨by simp⟩, HF.out, Fr.of _ rfl ⟨rfl, rfl, rfl, rfl, rfl, rfl, trivial⟩⟩

set_option maxRecDepth 100000 in
set_option maxHeartbeats 1000000 in
theorem so4 (B b bx : Nat) (w0 w1 : World) (g c : Nat) (pL : Option Addr) (L : List ScD) (hL : ScO B bx w1 (.slice pL L.length c) L w0) (hm : L.length ≤ 1000) (hb : b ≤ 40000) (l : List Int) (v11 : Value) (hlc : CntI L.length l.length ∧ InN L.length l) (k : Int) : T3 Try.prog (fun a w => ∃ (v5 : Value) (ks : List ByteArray), ((0 ≤ k ∧ k < l.length) ∧ LeI k ks.length) ∧ (StO B (b + L.length + (k : Int).toNat) w0 v5 ks w ∧ RHd 3 B w.heap.size w l.length v11 (l.map (.int .i64))) ∧ Fr 37 [(0, .pointer (some ⟨B, 0, none⟩)), (1, .slice pL L.length c), (5, v5), (11, v11), (12, .int .i64 l.length), (13, .int .i64 k)] a) (sel [1, 1, 0, 1, 4, 4, 1, 1, 0, 4, 0] soM) (fun a w => ∃ (v5 : Value) (ks : List ByteArray), ((0 ≤ k ∧ k < l.length) ∧ LeI k ks.length) ∧ (StO B (b + L.length + (k : Int).toNat) w0 v5 ks w ∧ RHd 3 B w.heap.size w l.length v11 (l.map (.int .i64))) ∧ Fr 37 [(0, .pointer (some ⟨B, 0, none⟩)), (1, .slice pL L.length c), (5, v5), (7, .int .i64 (geti l k)), (11, v11), (12, .int .i64 l.length), (13, .int .i64 k)] a) No 9 No := by
  refine T3.leaf ?_
  rintro Q JS JX JT K hS hK hX hE hT hR a w ⟨v5, ks, hpre, hW, ⟨fr, rfl, q0, q1, q5, q11, q12, q13, _⟩⟩
  have hpp := Lib.hid hpre
  obtain ⟨⟨hk0, hk1⟩, hl⟩ := hpre
  have HW := Lib.hid hW
  have hrow := hW.2.row.2
  obtain ⟨p5, c5, hv5⟩ := (Row.of_owns hW.1.o).shape
  subst hv5
  clear hW hl
  rcases hrow with ⟨h9, h0⟩ | ⟨bz, off, cap, hv, _, hbz, hnc, hcm, hcell⟩
  · omega
  subst hv
  have t0 := hcell k.toNat _ (map_at (by omega))
  clear hcell
  generalize geti l k = x at *
  rw [fr_soM, show fr 0 = _ from q0, show fr 1 = _ from q1, show fr 5 = _ from q5, show fr 11 = _ from q11, show fr 12 = _ from q12, show fr 13 = _ from q13]
  clear q0 q1 q5 q11 q12 q13
  conv => arg 2; whnf
  go_wp2_with fail
  refine Met.intro (hS _ _ ?_)
  exact ⟨_, ks, hpp.out, HW.out, Fr.of _ rfl ⟨rfl, rfl, rfl, rfl, rfl, rfl, rfl, trivial⟩⟩

set_option maxRecDepth 100000 in
set_option maxHeartbeats 1000000 in
theorem so5 (B b bx : Nat) (w0 w1 : World) (g c : Nat) (pL : Option Addr) (L : List ScD) (hL : ScO B bx w1 (.slice pL L.length c) L w0) (hm : L.length ≤ 1000) (hb : b ≤ 40000) (l : List Int) (v11 : Value) (hlc : CntI L.length l.length ∧ InN L.length l) (k : Int) (v5 : Value) (ks : List ByteArray) : T3 Try.prog (fun a w => ((0 ≤ k ∧ k < l.length) ∧ LeI k ks.length) ∧ (StO B (b + L.length + (k : Int).toNat) w0 v5 ks w ∧ RHd 3 B w.heap.size w l.length v11 (l.map (.int .i64))) ∧ Fr 37 [(0, .pointer (some ⟨B, 0, none⟩)), (1, .slice pL L.length c), (5, v5), (7, .int .i64 (geti l k)), (11, v11), (12, .int .i64 l.length), (13, .int .i64 k)] a) (sel [1, 1, 0, 1, 4, 4, 1, 1, 0, 4, 1, 0] soM) (fun a w => ∃ q, Fr 37 ((18, .bool q) :: [(0, .pointer (some ⟨B, 0, none⟩)), (1, .slice pL L.length c), (5, v5), (7, .int .i64 (geti l k)), (11, v11), (12, .int .i64 l.length), (13, .int .i64 k)]) a ∧ (((0 ≤ k ∧ k < l.length) ∧ LeI k ks.length) ∧ (StO B (b + L.length + k.toNat + 1) w0 v5 ks w ∧ RHd 3 B w.heap.size w l.length v11 (l.map (.int .i64))))) No 9 No := by
  refine T3.leaf ?_
  rintro Q JS JX JT K hS hK hX hE hT hR a w ⟨hpre, hW, ⟨fr, rfl, q0, q1, q5, q7, q11, q12, q13, _⟩⟩
  have hpp := Lib.hid hpre
  have hk1 := hpre.1
  have hlc1 := hlc.1.h
  clear hpre
  obtain ⟨p5, c5, hv5⟩ := (Row.of_owns hW.1.o).shape
  subst hv5
  obtain ⟨p11, c11, hv11⟩ := hW.2.row.shape
  subst hv11
  have hbb : b + L.length + k.toNat ≤ 50000 := by omega
  clear hlc1
  rw [fr_soM, show fr 0 = _ from q0, show fr 1 = _ from q1, show fr 5 = _ from q5, show fr 7 = _ from q7, show fr 11 = _ from q11, show fr 12 = _ from q12, show fr 13 = _ from q13]
  clear q0 q1 q5 q7 q11 q12 q13
  conv => arg 2; whnf
  go_wp2_with fail
  refine (flip_d B (b + L.length + k.toNat) _ w hW.1.d.str rfl (by omega)).mono ?_
  rintro e w2 ⟨q, rfl, hd⟩
  have HW := Lib.hid (And.intro (hW.1.drawn hd) ((hW.2.str hd.gr).mono hd.size))
  clear hd hW
  go_wp2_with fail
  refine Met.intro (hS _ _ ?_)
  exact ⟨_, Fr.of _ rfl ⟨rfl, rfl, rfl, rfl, rfl, rfl, rfl, rfl, trivial⟩, hpp.out, HW.out⟩

set_option maxRecDepth 100000 in
set_option maxHeartbeats 1000000 in
theorem so6 (B b bx : Nat) (w0 w1 : World) (g c : Nat) (pL : Option Addr) (L : List ScD) (hL : ScO B bx w1 (.slice pL L.length c) L w0) (hm : L.length ≤ 1000) (hb : b ≤ 40000) (l : List Int) (v11 : Value) (hlc : CntI L.length l.length ∧ InN L.length l) (k : Int) (v5 : Value) (ks : List ByteArray) : T3 Try.prog (fun a w => ((0 ≤ k ∧ k < l.length) ∧ LeI k ks.length) ∧ (StO B (b + L.length + k.toNat + 1) w0 v5 ks w ∧ RHd 3 B w.heap.size w l.length v11 (l.map (.int .i64))) ∧ Fr 37 [(0, .pointer (some ⟨B, 0, none⟩)), (1, .slice pL L.length c), (5, v5), (7, .int .i64 (geti l k)), (11, v11), (12, .int .i64 l.length), (13, .int .i64 k)] a) (sel [1, 1, 0, 1, 4, 4, 1, 1, 0, 4, 1, 1, 2] soM) (fun a w => ∃ (v5 : Value) (ks : List ByteArray), ((0 ≤ k ∧ k < l.length) ∧ LeI (k + 1) ks.length) ∧ (StO B (b + L.length + ((k + 1) : Int).toNat) w0 v5 ks w ∧ RHd 3 B w.heap.size w l.length v11 (l.map (.int .i64))) ∧ Fr 37 [(0, .pointer (some ⟨B, 0, none⟩)), (1, .slice pL L.length c), (5, v5), (11, v11), (12, .int .i64 l.length), (13, .int .i64 k)] a) No 9 No := by
  refine T3.leaf ?_
  rintro Q JS JX JT K hS hK hX hE hT hR a w ⟨hpre, hW, ⟨fr, rfl, q0, q1, q5, q7, q11, q12, q13, _⟩⟩
  have hpp := Lib.hid hpre
  obtain ⟨⟨hk0, hk1⟩, hl⟩ := hpre
  have hlc1 := hlc.1.h
  have hl4 : ks.length ≤ 1000 := by have := hl.h; omega
  clear hl
  have hE := el_str
  obtain ⟨hj0, hj1⟩ := geti_in hlc.2 hk0 hk1
  have hLw := hL.drawn hW.1.d
  obtain ⟨g', c', hv, _, _, hn3, hm3⟩ := owns_shape hLw.o (by omega)
  simp only [Value.slice.injEq] at hv
  obtain ⟨rfl, _, rfl⟩ := hv
  obtain ⟨bz, off, hp, _, _, hcell⟩ := Row.nonnil ((Row.of_owns hLw.o).mono (Nat.zero_le _)) (by omega)
  simp only [Option.some.injEq, Addr.mk.injEq] at hp
  obtain ⟨rfl, rfl, _⟩ := hp
  have t0 := Row.elAt encSc_length hcell hj0 (by omega) 0 _ (by decide) rfl
  rw [Nat.zero_add, Nat.add_zero] at t0
  have hz := hLw.z _ (geta_mem hj0 (by omega))
  have hW1 := hW.1
  have hW2 := hW.2
  obtain ⟨p5, c5, hv5⟩ := (Row.of_owns hW.1.o).shape
  subst hv5
  obtain ⟨p11, c11, hv11⟩ := hW.2.row.shape
  subst hv11
  clear hW hcell hLw hL hlc hlc1
  generalize (geta L (geti l k)).pl = s at *
  generalize geti l k = j at *
  simp only [maxLen] at hm3
  rw [fr_soM, show fr 0 = _ from q0, show fr 1 = _ from q1, show fr 5 = _ from q5, show fr 7 = _ from q7, show fr 11 = _ from q11, show fr 12 = _ from q12, show fr 13 = _ from q13]
  clear q0 q1 q5 q7 q11 q12 q13
  conv => arg 2; whnf
  go_wp2_with (at_builtin; refine app_law rfl _ _ _ rfl hE (hW1.o.alloc _) rfl [.string s] rfl rfl (cells_new w #[_] _) (by simp [Value.oneCell']) (by omega) (by simp; have := hW1.d.size; omega) ?_; intro v' w2 hown2 hgr2)
  have h2 := (hW1.alloc _).app hz hown2 hgr2
  have hH2 := ((hW2.alloc (.cells #[.string s] 9)).other (hW1.alloc (.cells #[.string s] 9)).o (by decide) hgr2).mono (show w.heap.size ≤ w2.heap.size by have := hgr2.size; simp at this; omega)
  refine Met.intro (hS _ _ ?_)
  exact ⟨_, _, ⟨hpp.out.1, ⟨by have := hpp.out.2.h; simp; omega⟩⟩, ⟨h2.mono (by omega), hH2⟩, Fr.of _ rfl ⟨rfl, rfl, rfl, rfl, rfl, rfl, trivial⟩⟩

set_option maxRecDepth 100000 in
set_option maxHeartbeats 1000000 in
theorem sob (B b bx : Nat) (w0 w1 : World) (g c : Nat) (pL : Option Addr) (L : List ScD) (hL : ScO B bx w1 (.slice pL L.length c) L w0) (hm : L.length ≤ 1000) (hb : b ≤ 40000) (l : List Int) (v11 : Value) (hlc : CntI L.length l.length ∧ InN L.length l) (k : Int) : T3 Try.prog (fun a w => ∃ (v5 : Value) (ks : List ByteArray), ((0 ≤ k ∧ k < l.length) ∧ LeI k ks.length) ∧ (StO B (b + L.length + (k : Int).toNat) w0 v5 ks w ∧ RHd 3 B w.heap.size w l.length v11 (l.map (.int .i64))) ∧ Fr 37 [(0, .pointer (some ⟨B, 0, none⟩)), (1, .slice pL L.length c), (5, v5), (11, v11), (12, .int .i64 l.length), (13, .int .i64 k)] a) (sel [1, 1, 0, 1, 4, 4, 1, 1, 0] soM) (fun a w => ∃ (v5 : Value) (ks : List ByteArray), ((0 ≤ k ∧ k < l.length) ∧ LeI (k + 1) ks.length) ∧ (StO B (b + L.length + ((k + 1) : Int).toNat) w0 v5 ks w ∧ RHd 3 B w.heap.size w l.length v11 (l.map (.int .i64))) ∧ Fr 37 [(0, .pointer (some ⟨B, 0, none⟩)), (1, .slice pL L.length c), (5, v5), (11, v11), (12, .int .i64 l.length), (13, .int .i64 k)] a) No 9 No := by
  refine T3.block (id' := 1) (c := (sel [1, 1, 0, 1, 4, 4, 1, 1, 0, 4] soM)) (by decide) (T3.seq (s := (sel [1, 1, 0, 1, 4, 4, 1, 1, 0, 4, 0] soM)) (c := (sel [1, 1, 0, 1, 4, 4, 1, 1, 0, 4, 1] soM)) (so4 B b bx w0 w1 g c pL L hL hm hb l v11 hlc k) (T3.ex fun v5 => T3.ex fun ks => ?_))
  refine T3.test (s := (sel [1, 1, 0, 1, 4, 4, 1, 1, 0, 4, 1, 0] soM)) (x := (sel [1, 1, 0, 1, 4, 4, 1, 1, 0, 4, 1, 1, 2] soM)) (y := .skip) (C := fun _ => (0 ≤ k ∧ k < l.length) ∧ LeI k ks.length) (W := fun w => StO B (b + L.length + k.toNat + 1) w0 v5 ks w ∧ RHd 3 B w.heap.size w l.length v11 (l.map (.int .i64))) (by decide) (so5 B b bx w0 w1 g c pL L hL hm hb l v11 hlc k v5 ks) ?_ (T3.skip ?_)
  · exact T3.pre (so6 B b bx w0 w1 g c pL L hL hm hb l v11 hlc k v5 ks) (fun a w q => ⟨q.2.1, q.2.2, q.1.tail⟩)
  · rintro a w ⟨hp, hW, hF⟩
    exact ⟨v5, ks, ⟨hp.1, ⟨by have := hp.2.h; omega⟩⟩, ⟨hW.1.mono (by omega), hW.2⟩, hF.sub (by simp)⟩

def soAI (B b bx : Nat) (w0 w1 : World) (g c : Nat) (pL : Option Addr) (L : List ScD) (hL : ScO B bx w1 (.slice pL L.length c) L w0) (hm : L.length ≤ 1000) (hb : b ≤ 40000) (l : List Int) (v11 : Value) (hlc : CntI L.length l.length ∧ InN L.length l) (k : Int) (a : Act) (w : World) : Prop := (0 ≤ k ∧ k ≤ l.length) ∧ ∃ (v5 : Value) (ks : List ByteArray), (LeI k ks.length) ∧ (StO B (b + L.length + (k : Int).toNat) w0 v5 ks w ∧ RHd 3 B w.heap.size w l.length v11 (l.map (.int .i64))) ∧ Fr 37 [(0, .pointer (some ⟨B, 0, none⟩)), (1, .slice pL L.length c), (5, v5), (11, v11), (12, .int .i64 l.length), (13, .int .i64 k)] a
set_option maxRecDepth 100000 in
set_option maxHeartbeats 1000000 in
theorem soAt (B b bx : Nat) (w0 w1 : World) (g c : Nat) (pL : Option Addr) (L : List ScD) (hL : ScO B bx w1 (.slice pL L.length c) L w0) (hm : L.length ≤ 1000) (hb : b ≤ 40000) (l : List Int) (v11 : Value) (hlc : CntI L.length l.length ∧ InN L.length l) (k : Int) : T3 Try.prog (fun a w => soAI B b bx w0 w1 g c pL L hL hm hb l v11 hlc k a w) (sel [1, 1, 0, 1, 4, 4, 0] soM) (fun a w => ∃ q, Fr 37 ((14, .bool q) :: [(13, .int .i64 k)]) a ∧ ((q = true ↔ k < l.length) ∧ soAI B b bx w0 w1 g c pL L hL hm hb l v11 hlc k a w)) No 9 No := by
  refine T3.leaf ?_
  rintro Q JS JX JT K hS hK hX hE hT hR a w ⟨hk, v5, ks, hpre, hW, ⟨fr, rfl, q0, q1, q5, q11, q12, q13, _⟩⟩
  have hln : l.length ≤ 1000 := by have := hlc.1.h; omega
  rw [fr_soM, show fr 0 = _ from q0, show fr 1 = _ from q1, show fr 5 = _ from q5, show fr 11 = _ from q11, show fr 12 = _ from q12, show fr 13 = _ from q13]
  clear q0 q1 q5 q11 q12 q13
  conv => arg 2; whnf
  by_cases hlt : k < l.length
  · go_wp2_with fail
    refine Met.intro (hS _ _ ?_)
    exact ⟨true, Fr.of _ rfl ⟨rfl, rfl, trivial⟩, ⟨fun _ => hlt, fun _ => rfl⟩, hk, v5, ks, hpre, hW, Fr.of _ rfl ⟨rfl, rfl, rfl, rfl, rfl, rfl, trivial⟩⟩
  · have hpb : decide (k < (l.length : Int)) = false := by simp; omega
    go_wp2_with fail
    refine Met.intro (hS _ _ ?_)
    exact ⟨false, Fr.of _ rfl ⟨rfl, rfl, trivial⟩, ⟨(fun h => by cases h), fun h => absurd h (by omega)⟩, hk, v5, ks, hpre, hW, Fr.of _ rfl ⟨rfl, rfl, rfl, rfl, rfl, rfl, trivial⟩⟩

set_option maxRecDepth 100000 in
set_option maxHeartbeats 1000000 in
theorem soAn (B b bx : Nat) (w0 w1 : World) (g c : Nat) (pL : Option Addr) (L : List ScD) (hL : ScO B bx w1 (.slice pL L.length c) L w0) (hm : L.length ≤ 1000) (hb : b ≤ 40000) (l : List Int) (v11 : Value) (hlc : CntI L.length l.length ∧ InN L.length l) (k : Int) : T3 Try.prog (fun a w => (0 ≤ k ∧ k < l.length) ∧ ∃ (v5 : Value) (ks : List ByteArray), (LeI (k + 1) ks.length) ∧ (StO B (b + L.length + ((k + 1) : Int).toNat) w0 v5 ks w ∧ RHd 3 B w.heap.size w l.length v11 (l.map (.int .i64))) ∧ Fr 37 [(0, .pointer (some ⟨B, 0, none⟩)), (1, .slice pL L.length c), (5, v5), (11, v11), (12, .int .i64 l.length), (13, .int .i64 k)] a) (sel [1, 1, 0, 1, 4, 4, 1, 1, 1] soM) (fun a w => soAI B b bx w0 w1 g c pL L hL hm hb l v11 hlc (k + 1) a w) No 9 No := by
  refine T3.leaf ?_
  rintro Q JS JX JT K hS hK hX hE hT hR a w ⟨hk, v5, ks, hpre, hW, ⟨fr, rfl, q0, q1, q5, q11, q12, q13, _⟩⟩
  obtain ⟨hk0, hk1⟩ := hk
  have hln : l.length ≤ 1000 := by have := hlc.1.h; omega
  rw [fr_soM, show fr 0 = _ from q0, show fr 1 = _ from q1, show fr 5 = _ from q5, show fr 11 = _ from q11, show fr 12 = _ from q12, show fr 13 = _ from q13]
  clear q0 q1 q5 q11 q12 q13
  conv => arg 2; whnf
  go_wp2_with fail
  refine Met.intro (hS _ _ ?_)
  exact ⟨⟨by omega, by omega⟩, v5, ks, hpre, hW, Fr.of _ rfl ⟨rfl, rfl, rfl, rfl, rfl, rfl, trivial⟩⟩

set_option maxRecDepth 100000 in
set_option maxHeartbeats 1000000 in
theorem soAloop (B b bx : Nat) (w0 w1 : World) (g c : Nat) (pL : Option Addr) (L : List ScD) (hL : ScO B bx w1 (.slice pL L.length c) L w0) (hm : L.length ≤ 1000) (hb : b ≤ 40000) (l : List Int) (v11 : Value) (hlc : CntI L.length l.length ∧ InN L.length l) : T3 Try.prog (fun a w => soAI B b bx w0 w1 g c pL L hL hm hb l v11 hlc 0 a w) (sel [1, 1, 0, 1] soM) (fun a w => ∃ (v5 : Value) (ks : List ByteArray), (ks.length ≤ L.length) ∧ (StO B (b + 2 * L.length) w0 v5 ks w) ∧ Fr 37 [(0, .pointer (some ⟨B, 0, none⟩)), (5, v5)] a) No 9 No := by
  refine T3.loop (c := (sel [1, 1, 0, 1, 4, 4] soM)) (fun ng_ a w => ∃ k : Int, (ng_ : Int) = l.length - k ∧ soAI B b bx w0 w1 g c pL L hL hm hb l v11 hlc k a w) (fun a w h => ⟨(l.length : Int).toNat, 0, by have := h.1.2; omega, h⟩) (fun ng_ => T3.ex fun k => T3.pure fun hng_ => ?_)
  refine T3.seq (s := (sel [1, 1, 0, 1, 4, 4, 0] soM)) (c := (sel [1, 1, 0, 1, 4, 4, 1] soM)) ((soAt B b bx w0 w1 g c pL L hL hm hb l v11 hlc k).noX) ?_
  refine T3.seq (s := (sel [1, 1, 0, 1, 4, 4, 1, 0] soM)) (c := (sel [1, 1, 0, 1, 4, 4, 1, 1] soM)) (S := fun a w => (0 ≤ k ∧ k < l.length) ∧ ∃ (v5 : Value) (ks : List ByteArray), (LeI k ks.length) ∧ (StO B (b + L.length + (k : Int).toNat) w0 v5 ks w ∧ RHd 3 B w.heap.size w l.length v11 (l.map (.int .i64))) ∧ Fr 37 [(0, .pointer (some ⟨B, 0, none⟩)), (1, .slice pL L.length c), (5, v5), (11, v11), (12, .int .i64 l.length), (13, .int .i64 k)] a) ?_ (T3.seq (s := (sel [1, 1, 0, 1, 4, 4, 1, 1, 0] soM)) (c := (sel [1, 1, 0, 1, 4, 4, 1, 1, 1] soM)) (S := fun a w => (0 ≤ k ∧ k < l.length) ∧ ∃ (v5 : Value) (ks : List ByteArray), (LeI (k + 1) ks.length) ∧ (StO B (b + L.length + ((k + 1) : Int).toNat) w0 v5 ks w ∧ RHd 3 B w.heap.size w l.length v11 (l.map (.int .i64))) ∧ Fr 37 [(0, .pointer (some ⟨B, 0, none⟩)), (1, .slice pL L.length c), (5, v5), (11, v11), (12, .int .i64 l.length), (13, .int .i64 k)] a) (T3.noX (T3.mono (R' := fun a w => (0 ≤ k ∧ k < l.length) ∧ ∃ (v5 : Value) (ks : List ByteArray), (LeI k ks.length) ∧ (StO B (b + L.length + (k : Int).toNat) w0 v5 ks w ∧ RHd 3 B w.heap.size w l.length v11 (l.map (.int .i64))) ∧ Fr 37 [(0, .pointer (some ⟨B, 0, none⟩)), (1, .slice pL L.length c), (5, v5), (11, v11), (12, .int .i64 l.length), (13, .int .i64 k)] a) (S' := fun a w => (0 ≤ k ∧ k < l.length) ∧ ∃ (v5 : Value) (ks : List ByteArray), (LeI (k + 1) ks.length) ∧ (StO B (b + L.length + ((k + 1) : Int).toNat) w0 v5 ks w ∧ RHd 3 B w.heap.size w l.length v11 (l.map (.int .i64))) ∧ Fr 37 [(0, .pointer (some ⟨B, 0, none⟩)), (1, .slice pL L.length c), (5, v5), (11, v11), (12, .int .i64 l.length), (13, .int .i64 k)] a) (sob B b bx w0 w1 g c pL L hL hm hb l v11 hlc k) (fun a w ⟨hk, v5, ks, hp, hI⟩ => ⟨v5, ks, ⟨hk, hp⟩, hI⟩) (fun a w ⟨v5, ks, ⟨hk, hp⟩, hI⟩ => ⟨hk, v5, ks, hp, hI⟩) (fun _ _ q => q) (fun _ _ q => q))) ?_)
  · refine T3.cond (o := .tmp 14) (x := .skip) (y := .exit 0) (fun a w => k < l.length ∧ soAI B b bx w0 w1 g c pL L hL hm hb l v11 hlc k a w) (fun a w => ¬ k < l.length ∧ soAI B b bx w0 w1 g c pL L hL hm hb l v11 hlc k a w) ?_ (T3.skip ?_) (T3.exit ?_)
    · rintro a w ⟨q, hF, hq, hI⟩
      have he := hF.eval 14 (by decide) (v := .bool q) (by simp)
      cases q
      · exact .inr ⟨he, (fun h => by have := hq.2 h; cases this), hI⟩
      · exact .inl ⟨he, hq.1 rfl, hI⟩
    · rintro a w ⟨hlt, hk, hI⟩
      exact ⟨⟨hk.1, hlt⟩, hI⟩
    · rintro a w ⟨hlt, hk, hI⟩
      obtain rfl : k = l.length := by omega
      obtain ⟨v5, ks, hl, hW, hF⟩ := hI
      have hlc1 := hlc.1.h
      exact ⟨v5, ks, by have := hl.h; omega, hW.1.mono (by omega), hF.sub (by simp)⟩
  · intro a w hx
    have hk := hx.1
    exact (((soAn B b bx w0 w1 g c pL L hL hm hb l v11 hlc k).noX).post (fun a w q => ⟨ng_ - 1, by omega, k + 1, by omega, q⟩)) a w hx
set_option maxRecDepth 100000 in
set_option maxHeartbeats 1000000 in
theorem so8 (B b bx : Nat) (w0 w1 : World) (g c : Nat) (pL : Option Addr) (L : List ScD) (hL : ScO B bx w1 (.slice pL L.length c) L w0) (hm : L.length ≤ 1000) (hb : b ≤ 40000) (v5 : Value) (ks : List ByteArray) (hk : ks.length ≤ L.length) : T3 Try.prog (fun a w => (StO B (b + 2 * L.length) w0 v5 ks w) ∧ Fr 37 [(0, .pointer (some ⟨B, 0, none⟩)), (5, v5)] a) (sel [1, 1, 1, 0, 0] soM) (fun a w => ∃ q, Fr 37 ((29, .bool q) :: [(0, .pointer (some ⟨B, 0, none⟩)), (5, v5)]) a ∧ (True ∧ StO B (b + 2 * L.length + 1) w0 v5 ks w)) No 9 No := by
  refine T3.leaf ?_
  rintro Q JS JX JT K hS hK hX hE hT hR a w ⟨hW, ⟨fr, rfl, q0, q5, _⟩⟩
  obtain ⟨p5, c5, hv5⟩ := (Row.of_owns hW.o).shape
  subst hv5
  rw [fr_soM, show fr 0 = _ from q0, show fr 5 = _ from q5]
  clear q0 q5
  conv => arg 2; whnf
  go_wp2_with fail
  refine (flip_d B (b + 2 * L.length) _ w hW.d.str rfl (by omega)).mono ?_
  rintro e w2 ⟨q, rfl, hd⟩
  have HW := Lib.hid (hW.drawn hd)
  clear hd hW
  go_wp2_with fail
  refine Met.intro (hS _ _ ?_)
  exact ⟨_, Fr.of _ rfl ⟨rfl, rfl, rfl, trivial⟩, trivial, HW.out⟩

set_option maxRecDepth 100000 in
set_option maxHeartbeats 1000000 in
theorem so9 (B b bx : Nat) (w0 w1 : World) (g c : Nat) (pL : Option Addr) (L : List ScD) (hL : ScO B bx w1 (.slice pL L.length c) L w0) (hm : L.length ≤ 1000) (hb : b ≤ 40000) (v5 : Value) (ks : List ByteArray) (hk : ks.length ≤ L.length) : T3 Try.prog (fun a w => (StO B (b + 2 * L.length + 1) w0 v5 ks w) ∧ Fr 37 [(0, .pointer (some ⟨B, 0, none⟩)), (5, v5)] a) (sel [1, 1, 1, 0, 1, 2] soM) (fun a w => ∃ (v5 : Value) (ks : List ByteArray), (ks.length ≤ L.length + 1) ∧ (StO B (b + 2 * L.length + 2) w0 v5 ks w) ∧ Fr 37 [(0, .pointer (some ⟨B, 0, none⟩)), (5, v5)] a) No 9 No := by
  refine T3.leaf ?_
  rintro Q JS JX JT K hS hK hX hE hT hR a w ⟨hW, ⟨fr, rfl, q0, q5, _⟩⟩
  have hE := el_str
  obtain ⟨p5, c5, hv5⟩ := (Row.of_owns hW.o).shape
  subst hv5
  rw [fr_soM, show fr 0 = _ from q0, show fr 5 = _ from q5]
  clear q0 q5
  conv => arg 2; whnf
  go_wp2_with fail
  refine (some_lit B (b + 2 * L.length + 1) [⟨#[97, 110, 110]⟩, ⟨#[122, 101, 100]⟩] 2 _ _ _ rfl rfl (by decide) (by decide) hW.d.str (by omega)).mono ?_
  rintro e w2 ⟨s, rfl, hs, hd⟩
  have hsz := smC hs
  have h1 := hW.drawn hd
  clear hd hW hs
  go_wp2_with (at_builtin; refine app_law rfl _ _ _ rfl hE (h1.o.alloc _) rfl [.string s] rfl rfl (cells_new w2 #[_] _) (by simp [Value.oneCell']) (by omega) (by simp; have := h1.d.size; omega) ?_; intro v' w3 hown2 hgr2)
  have h2 := (h1.alloc _).app hsz hown2 hgr2
  refine Met.intro (hS _ _ ?_)
  exact ⟨_, _, by simp; omega, h2.mono (by omega), Fr.of _ rfl ⟨rfl, rfl, trivial⟩⟩

set_option maxRecDepth 100000 in
set_option maxHeartbeats 1000000 in
theorem so10 (B b : Nat) (w0 : World) (L : List ScD) (v5 : Value) (ks : List ByteArray) : T3 Try.prog (fun a w => (StO B (b + 2 * L.length + 2) w0 v5 ks w) ∧ Fr 37 [(0, .pointer (some ⟨B, 0, none⟩)), (5, v5)] a) (sel [1, 1, 1, 1, 0] soM) (fun a w => (StO B (b + 2 * L.length + 2) w0 v5 ks w) ∧ Fr 37 [(4, v5)] a) No 9 No := by
  refine T3.leaf ?_
  rintro Q JS JX JT K hS hK hX hE hT hR a w ⟨hW, ⟨fr, rfl, q0, q5, _⟩⟩
  have HW := Lib.hid hW
  obtain ⟨p5, c5, hv5⟩ := (Row.of_owns hW.o).shape
  subst hv5
  clear hW
  rw [fr_soM, show fr 0 = _ from q0, show fr 5 = _ from q5]
  clear q0 q5
  conv => arg 2; whnf
  go_wp2_with fail
  refine Met.intro (hS _ _ ?_)
  exact ⟨HW.out, Fr.of _ rfl ⟨rfl, trivial⟩⟩

set_option maxRecDepth 100000 in
set_option maxHeartbeats 1000000 in
theorem so_all (B b bx : Nat) (w0 w1 : World) (g c : Nat) (pL : Option Addr) (L : List ScD) (hL : ScO B bx w1 (.slice pL L.length c) L w0) (hm : L.length ≤ 1000) (hb : b ≤ 40000) : T3 Try.prog (fun a w => (Str B w b ∧ IsW w0 w) ∧ Fr 37 [(0, .pointer (some ⟨B, 0, none⟩)), (1, .slice pL L.length c)] a) soM No No 9 (fun a w => ∃ (v5 : Value) (ks : List ByteArray), (ks.length ≤ L.length + 1) ∧ (StO B (b + 2 * L.length + 2) w0 v5 ks w) ∧ Fr 37 [(4, v5)] a) := by
  refine T3.seq (s := (sel [0] soM)) (c := (sel [1] soM)) (T3.noT (so0 B b bx w0 w1 g c pL L hL hm hb)) ?_
  refine T3.seq (s := (sel [1, 0] soM)) (c := (sel [1, 1] soM)) (T3.noT (so1 B b bx w0 w1 g c pL L hL hm hb)) ?_
  refine T3.seq (s := (sel [1, 1, 0] soM)) (c := (sel [1, 1, 1] soM)) (T3.noT (T3.seq (s := (sel [1, 1, 0, 0] soM)) (c := (sel [1, 1, 0, 1] soM)) (so2 B b bx w0 w1 g c pL L hL hm hb) (T3.ex fun l => T3.ex fun v11 => T3.pure fun hlc => soAloop B b bx w0 w1 g c pL L hL hm hb l v11 hlc))) ?_
  refine T3.ex fun v5 => T3.ex fun ks => T3.pure fun hk => ?_
  refine T3.seq (s := (sel [1, 1, 1, 0] soM)) (c := (sel [1, 1, 1, 1] soM)) (S := (fun a w => ∃ (v5 : Value) (ks : List ByteArray), (ks.length ≤ L.length + 1) ∧ (StO B (b + 2 * L.length + 2) w0 v5 ks w) ∧ Fr 37 [(0, .pointer (some ⟨B, 0, none⟩)), (5, v5)] a)) ?_ (T3.ex fun v5 => T3.ex fun ks => T3.pure fun hk => ?_)
  · refine T3.test (s := (sel [1, 1, 1, 0, 0] soM)) (x := (sel [1, 1, 1, 0, 1, 2] soM)) (y := .skip) (C := fun _ => True) (W := fun w => StO B (b + 2 * L.length + 1) w0 v5 ks w) (by decide) (T3.noT (so8 B b bx w0 w1 g c pL L hL hm hb v5 ks hk)) ?_ (T3.skip ?_)
    · exact T3.pre (T3.noT (so9 B b bx w0 w1 g c pL L hL hm hb v5 ks hk)) (fun a w q => ⟨q.2.2, q.1.tail⟩)
    · rintro a w ⟨hq, hW, hF⟩
      exact ⟨v5, ks, by omega, hW.mono (by omega), hF⟩
  exact T3.seq (s := (sel [1, 1, 1, 1, 0] soM)) (c := .ret) (T3.noT (so10 B b w0 L v5 ks)) (T3.ret fun a w q => ⟨v5, ks, hk, q⟩)

set_option maxRecDepth 100000 in
set_option maxHeartbeats 1000000 in
theorem someOf_any (B b bx : Nat) (w0 w1 : World) (vL : Value) (L : List ScD) (hL : ScO B bx w1 vL L w0) (hS : Str B w0 b) (hm : L.length ≤ 1000) (hb : b ≤ 40000) : Calls Try.prog 7 #[.pointer (some ⟨B, 0, none⟩), vL] w0 fun e w' => ∃ (v : Value) (ks : List ByteArray), e = .returned v ∧ ks.length ≤ L.length + 1 ∧ StO B (b + 2 * L.length + 2) w0 v ks w' := by
  obtain ⟨pL, c, rfl⟩ := (Row.of_owns hL.o).shape
  have hall := so_all B b bx w0 w1 0 c pL L hL hm hb
  clear hL
  go_enter Try.func7, Try.ntmps7
  refine T3.done (s := soM) hall ⟨⟨hS, rfl⟩, Fr.of _ rfl ⟨rfl, rfl, trivial⟩⟩ ?_
  rintro a w ⟨v, ks, hn, hW, fr, rfl, q4, _⟩
  rw [fr_soM, show fr 4 = _ from q4]
  go_ret
  exact ⟨v, ks, rfl, hn, hW⟩
end Go.Proofs.Ytnmdpphddimfbaa
/-
  Line-ups: may a scorer stand here (the closure of the stream's Fills, and ContainsFunc of it). Conditions: the bounds that each theorem names.
-/
set_option linter.unusedVariables false
namespace Go.Proofs.Ytnmdpphddimfbaa
open Go.RowKit Go.Bw
/-- What the closure of Fills sees: the box of the scorers and the box of a place. -/
structure FcH (w : World) (A1 A2 : Nat) (pL : Option Addr) (c : Nat) (L : List ScD) (j : Int) : Prop where
  a1 : w.cell? ⟨A1, 0, none⟩ = some (.slice pL L.length c)
  a2 : w.cell? ⟨A2, 0, none⟩ = some (.int .i64 j)
  r : Row w 0 5 (.slice pL L.length c) L.length (cellsOf encSc L)
  j0 : 0 ≤ j
  j1 : j < L.length
  p : PsH w (geta L j).pv (geta L j).ps
theorem FcH.below {w w' : World} {A1 A2 c : Nat} {pL : Option Addr} {L : List ScD} {j : Int} (h : FcH w A1 A2 pL c L j) (b : Below w.heap.size w w') : FcH w' A1 A2 pL c L j :=
  ⟨(b.cell (p := ⟨A1, 0, none⟩) (World.block_lt_of_cell? w _ h.a1)).trans h.a1, (b.cell (p := ⟨A2, 0, none⟩) (World.block_lt_of_cell? w _ h.a2)).trans h.a2, h.r.below b, h.j0, h.j1, h.p.below b⟩
set_option maxRecDepth 100000 in
set_option maxHeartbeats 1000000 in
theorem cl_fil (x : ByteArray) (A1 A2 c : Nat) (pL : Option Addr) (L : List ScD) (j : Int) (w : World) (h : FcH w A1 A2 pL c L j) :
    Calls Try.prog 30 #[.string x, .pointer (some ⟨A1, 0, none⟩), .pointer (some ⟨A2, 0, none⟩)] w fun e w' => e = .returned (.bool (hasS (geta L j).ps x)) ∧ Below w.heap.size w w' := by
  have hj0 := h.j0
  have hj1 := h.j1
  have t1 := h.a1
  have t2 := h.a2
  obtain ⟨bz, off, hp, hn1, hn2, hcell⟩ := Row.nonnil h.r (by omega)
  subst hp
  have t0 := Row.elAt encSc_length hcell hj0 hj1 1 _ (by decide) rfl
  have HC := Lib.hid (contains_str (geta L j).pv (geta L j).ps.length (geta L j).ps x 0 w h.p.r)
  obtain ⟨q, d, hv⟩ := h.p.r.shape
  rw [hv] at HC t0
  clear hcell h hv
  have HB := Lib.hid (Below.refl w.heap.size w)
  generalize hasS (geta L j).ps x = r at *
  generalize (geta L j).ps.length = m at *
  go_enter Try.func30, Try.ntmps30
  go_wp2_with fail
  refine HC.out.mono ?_
  rintro e w2 ⟨rfl, rfl⟩
  go_wp2_with fail
  go_ret
  exact ⟨rfl, HB.out⟩
theorem may_stand (A1 A2 c : Nat) (pL : Option Addr) (L : List ScD) (j : Int) (v : Value) (l : List ByteArray) (w : World) (h : FcH w A1 A2 pL c L j) (hr : Row w 0 1 v l.length (cellsOf encSt l)) (hn : l.length ≤ 1000000) :
    Calls Try.prog 29 #[v, .func (.func 30) #[] #[.pointer (some ⟨A1, 0, none⟩), .pointer (some ⟨A2, 0, none⟩)]] w fun e w' => e = .returned (.bool (l.any (hasS (geta L j).ps))) ∧ Below w.heap.size w w' :=
  any_st2 _ Try.call30 _ _ v l (hasS (geta L j).ps) 0 w hr hn (fun x _ w1 b1 => cl_fil x A1 A2 c pL L j w1 (h.below b1))
end Go.Proofs.Ytnmdpphddimfbaa
/-
  Line-ups: the world while the stream hands out fills. Conditions: the bounds that each theorem names.
-/
set_option linter.unusedVariables false
namespace Go.Bw
open Go.RowKit
/-- Growth of one newer block. -/
theorem Drawn.newer {n₀ b g : Nat} {w w' w'' : World} (h : Drawn n₀ w w' b) (gr : w'.grownBy w'' (some g)) (hg : w.heap.size ≤ g) (hn : n₀ < g) : Drawn n₀ w w'' b := by
  refine ⟨h.str.kept gr (fun k hk => by cases hk; exact hn), ⟨gr.os.trans h.gr.os, gr.tape.trans h.gr.tape, gr.output.trans h.gr.output, Nat.le_trans h.gr.size gr.size, fun k hk hne => ?_⟩⟩
  rw [gr.block k (Nat.lt_of_lt_of_le hk h.gr.size) (fun e => by cases e; omega), h.gr.block k hk hne]
end Go.Bw
namespace Go.Proofs.Ytnmdpphddimfbaa
open Go.RowKit Go.Bw
theorem el_flL : Elem Try.prog 30 42 (.agg #[.string ByteArray.empty, .string ByteArray.empty]) 2 32 := ⟨by kernel_rfl, by kernel_rfl, by kernel_rfl, by decide, by decide⟩
/-- A map from names to Booleans that the call made; what it holds does not matter. -/
def MapB (w : World) (m n : Nat) : Prop := ∃ D : DataW Unit, w.ownsMap Try.prog 9 (plainElem Try.prog 4) m n D
theorem MapB.kept {w w' : World} {m n : Nat} {row : Option Nat} (h : MapB w m n) (g : w.grownBy w' row) (hne : some m ≠ row) : MapB w' m n := by
  obtain ⟨D, h⟩ := h
  exact ⟨D, h.kept g hne⟩
theorem MapB.row {w : World} {m n base e sz k : Nat} {v : Value} {xs : List Value} (h : MapB w m n) (ho : w.ownsRow base e sz v k xs) : some m ≠ v.ownBlock := by
  obtain ⟨D, es, clock, hb, _⟩ := h
  intro e
  rcases ho.2 with ⟨rfl, _⟩ | ⟨g', cap', cur', rfl, _, hg', _⟩
  · simp [Value.ownBlock] at e
  · simp [Value.ownBlock] at e
    subst e
    rw [hb] at hg'
    simp at hg'
/-- The world while fills are handed out: the box of the scorers, the map of who is taken, the fills so far. -/
structure FiO (B b : Nat) (w0 : World) (A1 m n : Nat) (vL : Value) (v : Value) (Fs : List FlD) (w : World) : Prop where
  d : Drawn B w0 w b
  hB : B < w0.heap.size
  hA : w0.heap.size ≤ A1
  hm : w0.heap.size ≤ m
  a : RHd 28 B w.heap.size w 1 (.slice (some ⟨A1, 0, none⟩) 1 1) [vL]
  mp : MapB w m n
  o : w.ownsRow w0.heap.size 42 2 v Fs.length (cellsOf encFl Fs)
  z : ∀ x ∈ Fs, Sm x.sl ∧ Sm x.pl
section
variable {B b b' A1 m n n' : Nat} {w0 w w' : World} {vL v v' : Value} {Fs : List FlD}
theorem FiO.drawn (h : FiO B b w0 A1 m n vL v Fs w) (d : Drawn B w w' b') : FiO B b' w0 A1 m n vL v Fs w' :=
  ⟨h.d.trans d, h.hB, h.hA, h.hm, (h.a.str d.gr).mono d.size, h.mp.kept d.gr (by have := h.hm; have := h.hB; simp; omega), owns_drawn h.o d h.hB, h.z⟩
theorem FiO.mono (h : FiO B b w0 A1 m n vL v Fs w) (hb : b ≤ b') : FiO B b' w0 A1 m n vL v Fs w := ⟨h.d.mono hb, h.hB, h.hA, h.hm, h.a, h.mp, h.o, h.z⟩
theorem FiO.alloc (h : FiO B b w0 A1 m n vL v Fs w) (ob : Obj) : FiO B b w0 A1 m n vL v Fs (w.alloc ob) := h.drawn ((Drawn.refl h.d.str).alloc ob)
theorem FiO.below (h : FiO B b w0 A1 m n vL v Fs w) (g : Below w.heap.size w w') : FiO B b w0 A1 m n vL v Fs w' := h.drawn ((Drawn.refl h.d.str).below g)
theorem FiO.box (h : FiO B b w0 A1 m n vL v Fs w) : w.cell? ⟨A1, 0, none⟩ = some vL := by
  rcases h.a.row.2 with ⟨h0, _⟩ | ⟨g, off, cap, hv, _, _, _, _, hc⟩
  · cases h0
  · simp only [Value.slice.injEq, Option.some.injEq, Addr.mk.injEq] at hv
    obtain ⟨⟨rfl, rfl, _⟩, _, _⟩ := hv
    exact hc 0 vL rfl
theorem FiO.app (h : FiO B b w0 A1 m n vL v Fs w) {x : FlD} (hx : Sm x.sl ∧ Sm x.pl) (ho : w'.ownsRow w0.heap.size 42 2 v' (Fs.length + 1) (cellsOf encFl Fs ++ [.string x.sl, .string x.pl])) (g : w.grownBy w' v.ownBlock) : FiO B b w0 A1 m n vL v' (Fs ++ [x]) w' :=
  ⟨h.d.app h.o (Nat.le_refl _) h.hB g, h.hB, h.hA, h.hm, (h.a.other h.o (by decide) g).mono g.size, h.mp.kept g (h.mp.row h.o), by rw [cellsOf_snoc, List.length_append]; exact ho,
    fun y hy => by
      rcases List.mem_append.1 hy with hy | hy
      · exact h.z y hy
      · simp at hy; subst hy; exact hx⟩
/-- A store into a newer block that is neither the map's nor the row's. -/
theorem FiO.put (h : FiO B b w0 A1 m n vL v Fs w) (g : Nat) (gr : w.grownBy w' (some g)) (h0 : w0.heap.size ≤ g) (h1 : A1 ≠ g) (h2 : m ≠ g) (h3 : v.ownBlock ≠ some g) : FiO B b w0 A1 m n vL v Fs w' :=
  ⟨h.d.newer gr h0 (by have := h.hB; omega), h.hB, h.hA, h.hm, (h.a.grow gr (fun k hk => by cases hk; simp [Value.ownBlock]; exact h1)).mono gr.size, h.mp.kept gr (by simpa using h2), h.o.kept gr (.inr (fun e => h3 e)), h.z⟩
end
end Go.Proofs.Ytnmdpphddimfbaa
/-
  Line-ups: the stream's Fills, up to its loops. Conditions: the bounds that each theorem names.
-/
set_option linter.unusedVariables false
namespace Go.Bw
open Go.RowKit Go.Maps
end Go.Bw
namespace Go.Proofs.Ytnmdpphddimfbaa
open Go.RowKit Go.Bw Go.Maps
theorem und_str : Try.prog.underlying 9 = some .string := by kernel_rfl
theorem und_bool : Try.prog.underlying 4 = some .bool := by kernel_rfl
theorem und_map : Try.prog.underlying 65 = some (.map 9 4) := by kernel_rfl
noncomputable def fjM : Code := (Try.f6.body).getD .skip
set_option maxRecDepth 100000 in
theorem fr_fjM (f : Nat → Value) : frame 105 f = ⟨#[f 0, f 1, f 2, f 3, f 4, f 5, f 6, f 7, f 8, f 9, f 10, f 11, f 12, f 13, f 14, f 15, f 16, f 17, f 18, f 19, f 20, f 21, f 22, f 23, f 24, f 25, f 26, f 27, f 28, f 29, f 30, f 31, f 32, f 33, f 34, f 35, f 36, f 37, f 38, f 39, f 40, f 41, f 42, f 43, f 44, f 45, f 46, f 47, f 48, f 49, f 50, f 51, f 52, f 53, f 54, f 55, f 56, f 57, f 58, f 59, f 60, f 61, f 62, f 63, f 64, f 65, f 66, f 67, f 68, f 69, f 70, f 71, f 72, f 73, f 74, f 75, f 76, f 77, f 78, f 79, f 80, f 81, f 82, f 83, f 84, f 85, f 86, f 87, f 88, f 89, f 90, f 91, f 92, f 93, f 94, f 95, f 96, f 97, f 98, f 99, f 100, f 101, f 102, f 103, f 104], []⟩ := by rfl
set_option maxRecDepth 100000 in
set_option maxHeartbeats 1000000 in
theorem fj0 (B b : Nat) (w0 : World) (c1 c : Nat) (p1 pL : Option Addr) (S : List SlD) (L : List ScD) (hb : b ≤ 20000) : T3 Try.prog (fun a w => (Str B w b ∧ IsW w0 w) ∧ Fr 105 [(0, .pointer (some ⟨B, 0, none⟩)), (1, .slice p1 S.length c1), (2, .slice pL L.length c)] a) (sel [0] fjM) (fun a w => ∃ (A1 : Nat), ((Drawn B w0 w b ∧ B < w0.heap.size) ∧ w0.heap.size ≤ A1 ∧ RHd 28 B w.heap.size w 1 (.slice (some ⟨A1, 0, none⟩) 1 1) [.slice pL L.length c]) ∧ Fr 105 [(0, .pointer (some ⟨B, 0, none⟩)), (1, .slice p1 S.length c1), (5, .pointer (some ⟨A1, 0, none⟩))] a) No 9 No := by
  refine T3.leaf ?_
  rintro Q JS JX JT K hS hK hX hE hT hR a w ⟨⟨hS_, hW⟩, ⟨fr, rfl, q0, q1, q2, _⟩⟩
  obtain rfl : w = w0 := hW
  have hlt := hS_.lt
  have HO := Lib.hid (show (Drawn B w (w.alloc (.cells #[.slice pL L.length c] 28)) b ∧ B < w.heap.size) ∧ w.heap.size ≤ w.heap.size ∧ RHd 28 B (w.alloc (.cells #[.slice pL L.length c] 28)).heap.size (w.alloc (.cells #[.slice pL L.length c] 28)) 1 (.slice (some ⟨w.heap.size, 0, none⟩) 1 1) [.slice pL L.length c] from
    ⟨⟨(Drawn.refl hS_).alloc _, hlt⟩, Nat.le_refl _, RHd.of_owns (owns_lit w w.heap.size 28 #[.slice pL L.length c] 1 (by decide) rfl (Nat.le_refl _)) hlt⟩)
  rw [fr_fjM, show fr 0 = _ from q0, show fr 1 = _ from q1, show fr 2 = _ from q2]
  clear q0 q1 q2
  conv => arg 2; whnf
  go_wp2_with fail
  refine Met.intro (hS _ _ ?_)
  exact ⟨_, HO.out, Fr.of _ rfl ⟨rfl, rfl, rfl, trivial⟩⟩

set_option maxRecDepth 100000 in
set_option maxHeartbeats 1000000 in
theorem fj1 (B b : Nat) (w0 : World) (c1 c : Nat) (p1 pL : Option Addr) (S : List SlD) (L : List ScD) (hb : b ≤ 20000) (A1 : Nat) : T3 Try.prog (fun a w => ((Drawn B w0 w b ∧ B < w0.heap.size) ∧ w0.heap.size ≤ A1 ∧ RHd 28 B w.heap.size w 1 (.slice (some ⟨A1, 0, none⟩) 1 1) [.slice pL L.length c]) ∧ Fr 105 [(0, .pointer (some ⟨B, 0, none⟩)), (1, .slice p1 S.length c1), (5, .pointer (some ⟨A1, 0, none⟩))] a) (sel [1, 0] fjM) (fun a w => ((Drawn B w0 w b ∧ B < w0.heap.size) ∧ w0.heap.size ≤ A1 ∧ RHd 28 B w.heap.size w 1 (.slice (some ⟨A1, 0, none⟩) 1 1) [.slice pL L.length c]) ∧ Fr 105 [(0, .pointer (some ⟨B, 0, none⟩)), (1, .slice p1 S.length c1), (5, .pointer (some ⟨A1, 0, none⟩)), (7, .slice none 0 0)] a) No 9 No := by
  refine T3.leaf ?_
  rintro Q JS JX JT K hS hK hX hE hT hR a w ⟨hW, ⟨fr, rfl, q0, q1, q5, _⟩⟩
  have HW := Lib.hid hW
  clear hW
  rw [fr_fjM, show fr 0 = _ from q0, show fr 1 = _ from q1, show fr 5 = _ from q5]
  clear q0 q1 q5
  conv => arg 2; whnf
  go_wp2_with fail
  refine Met.intro (hS _ _ ?_)
  exact ⟨HW.out, Fr.of _ rfl ⟨rfl, rfl, rfl, rfl, trivial⟩⟩

set_option maxRecDepth 100000 in
set_option maxHeartbeats 1000000 in
theorem fj2 (B b : Nat) (w0 : World) (c1 c : Nat) (p1 pL : Option Addr) (S : List SlD) (L : List ScD) (hb : b ≤ 20000) (A1 : Nat) : T3 Try.prog (fun a w => ((Drawn B w0 w b ∧ B < w0.heap.size) ∧ w0.heap.size ≤ A1 ∧ RHd 28 B w.heap.size w 1 (.slice (some ⟨A1, 0, none⟩) 1 1) [.slice pL L.length c]) ∧ Fr 105 [(0, .pointer (some ⟨B, 0, none⟩)), (1, .slice p1 S.length c1), (5, .pointer (some ⟨A1, 0, none⟩)), (7, .slice none 0 0)] a) (sel [1, 1, 0] fjM) (fun a w => ∃ (m : Nat), (FiO B b w0 A1 m 1 (.slice pL L.length c) (.slice none 0 0) [] w) ∧ Fr 105 [(0, .pointer (some ⟨B, 0, none⟩)), (1, .slice p1 S.length c1), (5, .pointer (some ⟨A1, 0, none⟩)), (7, .slice none 0 0), (8, .map (some m))] a) No 9 No := by
  refine T3.leaf ?_
  rintro Q JS JX JT K hS hK hX hE hT hR a w ⟨hW, ⟨fr, rfl, q0, q1, q5, q7, _⟩⟩
  obtain ⟨⟨hd, hB⟩, hA, hbx⟩ := hW
  have hmm := @run_makeMap Try.prog
  have hs := hd.size
  have hM := World.ownsMap_made (H := Unit) w Try.prog 9 (plainElem Try.prog 4)
  have hd2 := hd.alloc (.map #[] 0)
  have hbx2 := hbx.alloc (.map #[] 0)
  have hne : A1 ≠ w.heap.size := by have := (hbx.lt A1 rfl).2.1; omega
  obtain ⟨w2, hrun, hm2, hg2⟩ := hM.update (t := 65) (key := .string ⟨#[]⟩) (val := .bool true) (string_keyed und_str) und_map (by unfold maxLen; omega) (Go.WideMaps.keyOf_string_mk und_str (by decide)) (plainElem_bool und_bool true)
  rw [fr_fjM, show fr 0 = _ from q0, show fr 1 = _ from q1, show fr 5 = _ from q5, show fr 7 = _ from q7]
  clear q0 q1 q5 q7
  conv => arg 2; whnf
  go_wp2_with fail
  refine Met.intro (hS _ _ ?_)
  exact ⟨w.heap.size, ⟨hd2.newer hg2 hs (by omega), hB, hA, hs, (hbx2.grow hg2 (fun k hk => by cases hk; simpa [Value.ownBlock] using hne)).mono (Nat.le_trans (by simp) hg2.size), ⟨_, hm2⟩, World.ownsRow_nil _ _ _ _, fun x hx => by cases hx⟩, Fr.of _ rfl ⟨rfl, rfl, rfl, rfl, rfl, trivial⟩⟩

end Go.Proofs.Ytnmdpphddimfbaa
/-
  Line-ups: the stream's Fills, its rounds. Conditions: the bounds that each theorem names.
-/
set_option linter.unusedVariables false
namespace Go.Proofs.Ytnmdpphddimfbaa
open Go.RowKit Go.Bw Go.Maps
set_option maxRecDepth 100000 in
set_option maxHeartbeats 1000000 in
theorem fj3 (B b bs bx : Nat) (w0 ws w1 : World) (c1 c : Nat) (p1 pL : Option Addr) (S : List SlD) (L : List ScD) (hSl : SlO B bs ws (.slice p1 S.length c1) S w0) (hL : ScO B bx w1 (.slice pL L.length c) L w0) (hS4 : S.length ≤ 4) (hL6 : L.length ≤ 6) (hb : b ≤ 20000) (A1 m : Nat) : T3 Try.prog (fun a w => (FiO B b w0 A1 m 1 (.slice pL L.length c) (.slice none 0 0) [] w) ∧ Fr 105 [(0, .pointer (some ⟨B, 0, none⟩)), (1, .slice p1 S.length c1), (5, .pointer (some ⟨A1, 0, none⟩)), (7, .slice none 0 0), (8, .map (some m))] a) (sel [1, 1, 1, 0, 0] fjM) (fun a w => (0 ≤ (0 : Int) ∧ (0 : Int) ≤ S.length) ∧ ∃ (v7 : Value) (Fs : List FlD), (CntI 0 Fs.length) ∧ (FiO B (b + 12 * (0 : Int).toNat) w0 A1 m (1 + (0 : Int).toNat) (.slice pL L.length c) v7 Fs w) ∧ Fr 105 [(0, .pointer (some ⟨B, 0, none⟩)), (5, .pointer (some ⟨A1, 0, none⟩)), (7, v7), (8, .map (some m)), (18, .slice p1 S.length c1), (19, .int .i64 S.length), (20, .int .i64 0)] a) No 9 No := by
  refine T3.leaf ?_
  rintro Q JS JX JT K hS hK hX hE hT hR a w ⟨hW, ⟨fr, rfl, q0, q1, q5, q7, q8, _⟩⟩
  have HW := Lib.hid hW
  clear hW hSl hL
  rw [fr_fjM, show fr 0 = _ from q0, show fr 1 = _ from q1, show fr 5 = _ from q5, show fr 7 = _ from q7, show fr 8 = _ from q8]
  clear q0 q1 q5 q7 q8
  conv => arg 2; whnf
  go_wp2_with fail
  refine Met.intro (hS _ _ ?_)
  exact ⟨⟨by omega, by omega⟩, _, [], ⟨by simp⟩, HW.out, Fr.of _ rfl ⟨rfl, rfl, rfl, rfl, rfl, rfl, rfl, trivial⟩⟩

theorem FiO.apart {B b A1 m n : Nat} {w0 w : World} {vL v : Value} {Fs : List FlD} (h : FiO B b w0 A1 m n vL v Fs w) : w0.heap.size ≤ w.heap.size ∧ w.heap.size ≠ A1 ∧ w.heap.size ≠ m ∧ v.ownBlock ≠ some w.heap.size := by
  refine ⟨h.d.size, ?_, ?_, fun e => ?_⟩
  · have := (h.a.lt A1 rfl).2.1
    omega
  · obtain ⟨D, hD⟩ := h.mp
    have := hD.lt
    omega
  · have := (h.o.lt _ e).2
    omega
set_option maxRecDepth 100000 in
set_option maxHeartbeats 1000000 in
theorem fj5 (B b bs bx : Nat) (w0 ws w1 : World) (c1 c : Nat) (p1 pL : Option Addr) (S : List SlD) (L : List ScD) (hSl : SlO B bs ws (.slice p1 S.length c1) S w0) (hL : ScO B bx w1 (.slice pL L.length c) L w0) (hS4 : S.length ≤ 4) (hL6 : L.length ≤ 6) (hb : b ≤ 20000) (A1 m : Nat) (k : Int) : T3 Try.prog (fun a w => ∃ (v7 : Value) (Fs : List FlD), ((0 ≤ k ∧ k < S.length) ∧ CntI k Fs.length) ∧ (FiO B (b + 12 * (k : Int).toNat) w0 A1 m (1 + (k : Int).toNat) (.slice pL L.length c) v7 Fs w) ∧ Fr 105 [(0, .pointer (some ⟨B, 0, none⟩)), (5, .pointer (some ⟨A1, 0, none⟩)), (7, v7), (8, .map (some m)), (18, .slice p1 S.length c1), (19, .int .i64 S.length), (20, .int .i64 k)] a) (sel [1, 1, 1, 0, 1, 4, 4, 1, 1, 0, 4, 0] fjM) (fun a w => ∃ (v7 : Value) (Fs : List FlD) (A2 : Nat), ((0 ≤ k ∧ k < S.length) ∧ CntI k Fs.length) ∧ (FiO B (b + 12 * (k : Int).toNat) w0 A1 m (1 + (k : Int).toNat) (.slice pL L.length c) v7 Fs w ∧ RHd 55 B w.heap.size w 2 (.slice (some ⟨A2, 0, none⟩) 2 2) [.string (geta S k).key, (geta S k).pv] ∧ (w0.heap.size ≤ A2 ∧ A2 ≠ A1 ∧ A2 ≠ m ∧ v7.ownBlock ≠ some A2)) ∧ Fr 105 [(0, .pointer (some ⟨B, 0, none⟩)), (5, .pointer (some ⟨A1, 0, none⟩)), (7, v7), (8, .map (some m)), (10, .pointer (some ⟨A2, 0, none⟩)), (18, .slice p1 S.length c1), (19, .int .i64 S.length), (20, .int .i64 k)] a) No 9 No := by
  refine T3.leaf ?_
  rintro Q JS JX JT K hS hK hX hE hT hR a w ⟨v7, Fs, hpre, hW, ⟨fr, rfl, q0, q5, q7, q8, q18, q19, q20, _⟩⟩
  have hpp := Lib.hid hpre
  obtain ⟨⟨hk0, hk1⟩, hl⟩ := hpre
  have hSw := hSl.drawn hW.d
  obtain ⟨bz, off, hp, _, _, hcell⟩ := Row.nonnil ((Row.of_owns hSw.o).mono (Nat.zero_le _)) (by omega)
  subst hp
  have t0 := Row.elAt encSl_length hcell hk0 hk1 0 _ (by decide) rfl
  have t1 := Row.elAt encSl_length hcell hk0 hk1 1 _ (by decide) rfl
  rw [Nat.add_zero] at t0
  obtain ⟨q, d, hq⟩ := (hSw.i _ (geta_mem hk0 hk1)).r.row.shape
  have hlB := hW.d.str.lt
  have HF := Lib.hid (And.intro (hW.alloc (.cells #[.string (geta S k).key, (geta S k).pv] 55)) (And.intro (RHd.of_owns (owns_lit w w.heap.size 55 #[.string (geta S k).key, (geta S k).pv] 2 (by decide) rfl (Nat.le_refl _)) hlB) hW.apart))
  obtain ⟨p7, c7, hv7⟩ := (Row.of_owns hW.o).shape
  subst hv7
  clear hcell hSw hSl hL hW hl
  generalize geta S k = x at *
  obtain ⟨xk, xv, xps⟩ := x
  simp only at t0 t1 hq
  subst hq
  rw [fr_fjM, show fr 0 = _ from q0, show fr 5 = _ from q5, show fr 7 = _ from q7, show fr 8 = _ from q8, show fr 18 = _ from q18, show fr 19 = _ from q19, show fr 20 = _ from q20]
  clear q0 q5 q7 q8 q18 q19 q20
  conv => arg 2; whnf
  go_wp2_with fail
  refine Met.intro (hS _ _ ?_)
  exact ⟨_, Fs, w.heap.size, hpp.out, HF.out, Fr.of _ rfl ⟨rfl, rfl, rfl, rfl, rfl, rfl, rfl, rfl, trivial⟩⟩

end Go.Proofs.Ytnmdpphddimfbaa
/-
  Line-ups: the world within a round of the stream's Fills. Conditions: the bounds that each theorem names.
-/
set_option linter.unusedVariables false
namespace Go.Proofs.Ytnmdpphddimfbaa
open Go.RowKit Go.Bw Go.Maps
/-- A round of Fills: the box of its slot and the box of its fill. -/
structure FiR (B b : Nat) (w0 : World) (A1 m n : Nat) (vL v : Value) (Fs : List FlD) (A2 A3 : Nat) (x : SlD) (pl : ByteArray) (w : World) : Prop where
  f : FiO B b w0 A1 m n vL v Fs w
  b2 : RHd 55 B w.heap.size w 2 (.slice (some ⟨A2, 0, none⟩) 2 2) [.string x.key, x.pv]
  b3 : w.ownsRow w0.heap.size 42 2 (.slice (some ⟨A3, 0, none⟩) 1 1) 1 [.string x.key, .string pl]
  n1 : A1 ≠ A3
  n2 : m ≠ A3
  n3 : v.ownBlock ≠ some A3
  z : Sm x.key ∧ Sm pl
section
variable {B b b' A1 m n A2 A3 : Nat} {w0 w w' : World} {vL v : Value} {Fs : List FlD} {x : SlD} {pl : ByteArray}
theorem FiR.drawn (h : FiR B b w0 A1 m n vL v Fs A2 A3 x pl w) (d : Drawn B w w' b') : FiR B b' w0 A1 m n vL v Fs A2 A3 x pl w' :=
  ⟨h.f.drawn d, (h.b2.str d.gr).mono d.size, owns_drawn h.b3 d h.f.hB, h.n1, h.n2, h.n3, h.z⟩
theorem FiR.mono (h : FiR B b w0 A1 m n vL v Fs A2 A3 x pl w) (hb : b ≤ b') : FiR B b' w0 A1 m n vL v Fs A2 A3 x pl w := ⟨h.f.mono hb, h.b2, h.b3, h.n1, h.n2, h.n3, h.z⟩
theorem FiR.alloc (h : FiR B b w0 A1 m n vL v Fs A2 A3 x pl w) (ob : Obj) : FiR B b w0 A1 m n vL v Fs A2 A3 x pl (w.alloc ob) := h.drawn ((Drawn.refl h.f.d.str).alloc ob)
theorem FiR.below (h : FiR B b w0 A1 m n vL v Fs A2 A3 x pl w) (g : Below w.heap.size w w') : FiR B b w0 A1 m n vL v Fs A2 A3 x pl w' := h.drawn ((Drawn.refl h.f.d.str).below g)
theorem FiR.slot (h : FiR B b w0 A1 m n vL v Fs A2 A3 x pl w) : w.cell? ⟨A2, 0, none⟩ = some (.string x.key) ∧ w.cell? ⟨A2, 1, none⟩ = some x.pv := by
  rcases h.b2.row.2 with ⟨h0, _⟩ | ⟨g, off, cap, hv, _, _, _, _, hc⟩
  · cases h0
  · simp only [Value.slice.injEq, Option.some.injEq, Addr.mk.injEq] at hv
    obtain ⟨⟨rfl, rfl, _⟩, _, _⟩ := hv
    exact ⟨hc 0 _ rfl, hc 1 _ rfl⟩
theorem FiR.fill (h : FiR B b w0 A1 m n vL v Fs A2 A3 x pl w) : w.cell? ⟨A3, 0, none⟩ = some (.string x.key) ∧ w.cell? ⟨A3, 1, none⟩ = some (.string pl) := by
  rcases (Row.of_owns h.b3).2 with ⟨h0, _⟩ | ⟨g, off, cap, hv, _, _, _, _, hc⟩
  · cases h0
  · simp only [Value.slice.injEq, Option.some.injEq, Addr.mk.injEq] at hv
    obtain ⟨⟨rfl, rfl, _⟩, _, _⟩ := hv
    exact ⟨hc 0 _ rfl, hc 1 _ rfl⟩
theorem FiR.put (h : FiR B b w0 A1 m n vL v Fs A2 A3 x pl w) (q : ByteArray) (hq : Sm q) : FiR B b w0 A1 m n vL v Fs A2 A3 x q (w.setCell ⟨A3, 1, none⟩ (.string q)) := by
  have g1 := grown_setCell w A3 1 (.string q)
  refine ⟨h.f.put A3 g1 (h.b3.lt A3 rfl).1 h.n1 h.n2 h.n3, (h.b2.other h.b3 (by decide) g1).mono g1.size, ?_, h.n1, h.n2, h.n3, ⟨h.z.1, hq⟩⟩
  exact owns_setC h.b3 1 (by omega) (.string q)
end
end Go.Proofs.Ytnmdpphddimfbaa
/-
  Line-ups: the stream's Fills, within a round. Conditions: the bounds that each theorem names.
-/
set_option linter.unusedVariables false
namespace Go.Bw
open Go.RowKit
/-- A row of elements of several cells, just made. -/
theorem owns_litZ (w : World) (base e : TypeId) (cs : Array Value) (n sz : Nat) (hn : n ≤ 1099511627776) (hs : cs.size = n * sz) (hb : base ≤ w.heap.size) :
    (w.alloc (.cells cs e)).ownsRow base e sz (.slice (some ⟨w.heap.size, 0, none⟩) n n) n cs.toList :=
  ⟨by simp [hs], .inr ⟨w.heap.size, n, cs, rfl, hb, heap_alloc_new w _, Nat.le_refl _, by unfold maxLen; omega, by simp [hs], by rw [List.take_of_length_le (by simp [hs])]⟩⟩
end Go.Bw
namespace Go.Proofs.Ytnmdpphddimfbaa
open Go.RowKit Go.Bw Go.Maps
set_option maxRecDepth 100000 in
set_option maxHeartbeats 1000000 in
theorem fj6 (B b bs bx : Nat) (w0 ws w1 : World) (c1 c : Nat) (p1 pL : Option Addr) (S : List SlD) (L : List ScD) (hSl : SlO B bs ws (.slice p1 S.length c1) S w0) (hL : ScO B bx w1 (.slice pL L.length c) L w0) (hS4 : S.length ≤ 4) (hL6 : L.length ≤ 6) (hb : b ≤ 20000) (A1 m : Nat) (k : Int) (hk : 0 ≤ k ∧ k < S.length) (v7 : Value) (Fs : List FlD) (hc : CntI k Fs.length) (A2 : Nat) : T3 Try.prog (fun a w => (FiO B (b + 12 * (k : Int).toNat) w0 A1 m (1 + (k : Int).toNat) (.slice pL L.length c) v7 Fs w ∧ RHd 55 B w.heap.size w 2 (.slice (some ⟨A2, 0, none⟩) 2 2) [.string (geta S k).key, (geta S k).pv] ∧ (w0.heap.size ≤ A2 ∧ A2 ≠ A1 ∧ A2 ≠ m ∧ v7.ownBlock ≠ some A2)) ∧ Fr 105 [(0, .pointer (some ⟨B, 0, none⟩)), (5, .pointer (some ⟨A1, 0, none⟩)), (7, v7), (8, .map (some m)), (10, .pointer (some ⟨A2, 0, none⟩)), (18, .slice p1 S.length c1), (19, .int .i64 S.length), (20, .int .i64 k)] a) (sel [1, 1, 1, 0, 1, 4, 4, 1, 1, 0, 4, 1, 0] fjM) (fun a w => ∃ (A3 : Nat), (FiR B (b + 12 * k.toNat) w0 A1 m (1 + k.toNat) (.slice pL L.length c) v7 Fs A2 A3 (geta S k) ⟨#[]⟩ w) ∧ Fr 105 [(0, .pointer (some ⟨B, 0, none⟩)), (5, .pointer (some ⟨A1, 0, none⟩)), (7, v7), (8, .map (some m)), (10, .pointer (some ⟨A2, 0, none⟩)), (11, .pointer (some ⟨A3, 0, none⟩)), (18, .slice p1 S.length c1), (19, .int .i64 S.length), (20, .int .i64 k)] a) No 9 No := by
  refine T3.leaf ?_
  rintro Q JS JX JT K hS hK hX hE hT hR a w ⟨⟨hW, hB2, hne⟩, ⟨fr, rfl, q0, q5, q7, q8, q10, q18, q19, q20, _⟩⟩
  have hz := hSl.z _ (geta_mem hk.1 hk.2)
  have hap := hW.apart
  have hR : FiR B (b + 12 * k.toNat) w0 A1 m (1 + k.toNat) (.slice pL L.length c) v7 Fs A2 w.heap.size (geta S k) ⟨#[]⟩ (w.alloc (.cells #[.string (geta S k).key, .string ⟨#[]⟩] 42)) :=
    ⟨hW.alloc _, (hB2.alloc _).mono (by simp), owns_litZ w w0.heap.size 42 #[.string (geta S k).key, .string ⟨#[]⟩] 1 2 (by decide) rfl hap.1, fun e => hap.2.1 e.symm, fun e => hap.2.2.1 e.symm, hap.2.2.2, hz, by decide⟩
  have HR := Lib.hid hR
  have t0 : w.cell? ⟨A2, 0, none⟩ = some (.string (geta S k).key) := by
    rcases hB2.row.2 with ⟨h0, _⟩ | ⟨g, off, cap, hv, _, _, _, _, hcl⟩
    · cases h0
    · simp only [Value.slice.injEq, Option.some.injEq, Addr.mk.injEq] at hv
      obtain ⟨⟨rfl, rfl, _⟩, _, _⟩ := hv
      exact hcl 0 _ rfl
  obtain ⟨p7, c7, hv7⟩ := (Row.of_owns hW.o).shape
  subst hv7
  clear hR hW hB2 hSl hL hne hap hz hc
  rw [fr_fjM, show fr 0 = _ from q0, show fr 5 = _ from q5, show fr 7 = _ from q7, show fr 8 = _ from q8, show fr 10 = _ from q10, show fr 18 = _ from q18, show fr 19 = _ from q19, show fr 20 = _ from q20]
  clear q0 q5 q7 q8 q10 q18 q19 q20
  conv => arg 2; whnf
  go_wp2_with fail
  refine Met.intro (hS _ _ ?_)
  exact ⟨w.heap.size, HR.out, Fr.of _ rfl ⟨rfl, rfl, rfl, rfl, rfl, rfl, rfl, rfl, rfl, trivial⟩⟩

end Go.Proofs.Ytnmdpphddimfbaa
/-
  Line-ups: the stream's Fills, who stands in a slot. Conditions: the bounds that each theorem names.
-/
set_option linter.unusedVariables false
namespace Go.Proofs.Ytnmdpphddimfbaa
open Go.RowKit Go.Bw Go.Maps
set_option maxRecDepth 100000 in
set_option maxHeartbeats 1000000 in
theorem fj7 (B b bs bx : Nat) (w0 ws w1 : World) (c1 c : Nat) (p1 pL : Option Addr) (S : List SlD) (L : List ScD) (hSl : SlO B bs ws (.slice p1 S.length c1) S w0) (hL : ScO B bx w1 (.slice pL L.length c) L w0) (hS4 : S.length ≤ 4) (hL6 : L.length ≤ 6) (hb : b ≤ 20000) (A1 m : Nat) (k : Int) (hk : 0 ≤ k ∧ k < S.length) (v7 : Value) (Fs : List FlD) (hc : CntI k Fs.length) (A2 A3 : Nat) : T3 Try.prog (fun a w => (FiR B (b + 12 * k.toNat) w0 A1 m (1 + k.toNat) (.slice pL L.length c) v7 Fs A2 A3 (geta S k) ⟨#[]⟩ w) ∧ Fr 105 [(0, .pointer (some ⟨B, 0, none⟩)), (5, .pointer (some ⟨A1, 0, none⟩)), (7, v7), (8, .map (some m)), (10, .pointer (some ⟨A2, 0, none⟩)), (11, .pointer (some ⟨A3, 0, none⟩)), (18, .slice p1 S.length c1), (19, .int .i64 S.length), (20, .int .i64 k)] a) (sel [1, 1, 1, 0, 1, 4, 4, 1, 1, 0, 4, 1, 1, 0, 0] fjM) (fun a w => ∃ (l : List Int) (v30 : Value), (CntI L.length l.length ∧ InN L.length l) ∧ (FiR B (b + 12 * k.toNat + L.length) w0 A1 m (1 + k.toNat) (.slice pL L.length c) v7 Fs A2 A3 (geta S k) ⟨#[]⟩ w ∧ RHd 3 B w.heap.size w l.length v30 (l.map (.int .i64))) ∧ Fr 105 [(0, .pointer (some ⟨B, 0, none⟩)), (5, .pointer (some ⟨A1, 0, none⟩)), (7, v7), (8, .map (some m)), (10, .pointer (some ⟨A2, 0, none⟩)), (11, .pointer (some ⟨A3, 0, none⟩)), (18, .slice p1 S.length c1), (19, .int .i64 S.length), (20, .int .i64 k), (30, v30), (31, .int .i64 l.length), (32, .int .i64 0)] a) No 9 No := by
  refine T3.leaf ?_
  rintro Q JS JX JT K hS hK hX hE hT hR a w ⟨hW, ⟨fr, rfl, q0, q5, q7, q8, q10, q11, q18, q19, q20, _⟩⟩
  have hbx := hW.f.box
  have hlt := hW.f.d.str.lt
  have HW := Lib.hid hW
  have HL := Lib.hid (show b + 12 * k.toNat ≤ 50000 by omega)
  obtain ⟨p7, c7, hv7⟩ := (Row.of_owns hW.f.o).shape
  subst hv7
  clear hW hSl hL hc
  rw [fr_fjM, show fr 0 = _ from q0, show fr 5 = _ from q5, show fr 7 = _ from q7, show fr 8 = _ from q8, show fr 10 = _ from q10, show fr 11 = _ from q11, show fr 18 = _ from q18, show fr 19 = _ from q19, show fr 20 = _ from q20]
  clear q0 q5 q7 q8 q10 q11 q18 q19 q20
  conv => arg 2; whnf
  go_wp2_with fail
  refine (order_any B (b + 12 * k.toNat) w L.length HW.out.f.d.str (by omega) HL.out).mono ?_
  rintro e w2 ⟨v30, l, rfl, hci, hO⟩
  have HR := Lib.hid (And.intro (HW.out.drawn hO.d) (RHd.of_owns hO.o hlt))
  obtain ⟨p30, c30, e30⟩ := (Row.of_owns hO.o).shape
  subst e30
  clear hO
  go_wp2_with fail
  refine Met.intro (hS _ _ ?_)
  exact ⟨l, _, hci, HR.out, Fr.of _ rfl ⟨rfl, rfl, rfl, rfl, rfl, rfl, rfl, rfl, rfl, rfl, rfl, rfl, trivial⟩⟩

set_option maxRecDepth 100000 in
set_option maxHeartbeats 1000000 in
theorem fj8 (B b bs bx : Nat) (w0 ws w1 : World) (c1 c : Nat) (p1 pL : Option Addr) (S : List SlD) (L : List ScD) (hSl : SlO B bs ws (.slice p1 S.length c1) S w0) (hL : ScO B bx w1 (.slice pL L.length c) L w0) (hS4 : S.length ≤ 4) (hL6 : L.length ≤ 6) (hb : b ≤ 20000) (A1 m : Nat) (k : Int) (hk : 0 ≤ k ∧ k < S.length) (v7 : Value) (Fs : List FlD) (hc : CntI k Fs.length) (A2 A3 : Nat) (l : List Int) (v30 : Value) (hci : CntI L.length l.length ∧ InN L.length l) (j : Int) (hj0 : 0 ≤ j) (hjl : j ≤ l.length) : T3 Try.prog (fun a w => (FiR B (b + 12 * k.toNat + L.length + j.toNat) w0 A1 m (1 + k.toNat) (.slice pL L.length c) v7 Fs A2 A3 (geta S k) ⟨#[]⟩ w ∧ RHd 3 B w.heap.size w l.length v30 (l.map (.int .i64))) ∧ Fr 105 [(0, .pointer (some ⟨B, 0, none⟩)), (5, .pointer (some ⟨A1, 0, none⟩)), (7, v7), (8, .map (some m)), (10, .pointer (some ⟨A2, 0, none⟩)), (11, .pointer (some ⟨A3, 0, none⟩)), (18, .slice p1 S.length c1), (19, .int .i64 S.length), (20, .int .i64 k), (30, v30), (31, .int .i64 l.length), (32, .int .i64 j)] a) (sel [1, 1, 1, 0, 1, 4, 4, 1, 1, 0, 4, 1, 1, 0, 1, 4, 4, 0] fjM) (fun a w => ∃ q, Fr 105 ((33, .bool q) :: [(0, .pointer (some ⟨B, 0, none⟩)), (5, .pointer (some ⟨A1, 0, none⟩)), (7, v7), (8, .map (some m)), (10, .pointer (some ⟨A2, 0, none⟩)), (11, .pointer (some ⟨A3, 0, none⟩)), (18, .slice p1 S.length c1), (19, .int .i64 S.length), (20, .int .i64 k), (30, v30), (31, .int .i64 l.length), (32, .int .i64 j)]) a ∧ ((q = decide (j < (l.length : Int))) ∧ FiR B (b + 12 * k.toNat + L.length + j.toNat) w0 A1 m (1 + k.toNat) (.slice pL L.length c) v7 Fs A2 A3 (geta S k) ⟨#[]⟩ w ∧ RHd 3 B w.heap.size w l.length v30 (l.map (.int .i64)))) No 9 No := by
  refine T3.leaf ?_
  rintro Q JS JX JT K hS hK hX hE hT hR a w ⟨hW, ⟨fr, rfl, q0, q5, q7, q8, q10, q11, q18, q19, q20, q30, q31, q32, _⟩⟩
  have HW := Lib.hid hW
  obtain ⟨p7, c7, hv7⟩ := (Row.of_owns hW.1.f.o).shape
  subst hv7
  obtain ⟨p30, c30, hv30⟩ := hW.2.row.shape
  subst hv30
  clear hW hSl hL hc hci
  rw [fr_fjM, show fr 0 = _ from q0, show fr 5 = _ from q5, show fr 7 = _ from q7, show fr 8 = _ from q8, show fr 10 = _ from q10, show fr 11 = _ from q11, show fr 18 = _ from q18, show fr 19 = _ from q19, show fr 20 = _ from q20, show fr 30 = _ from q30, show fr 31 = _ from q31, show fr 32 = _ from q32]
  clear q0 q5 q7 q8 q10 q11 q18 q19 q20 q30 q31 q32
  conv => arg 2; whnf
  go_wp2_with fail
  refine Met.intro (hS _ _ ?_)
  exact ⟨_, Fr.of _ rfl ⟨rfl, rfl, rfl, rfl, rfl, rfl, rfl, rfl, rfl, rfl, rfl, rfl, rfl, trivial⟩, rfl, HW.out⟩

set_option maxRecDepth 100000 in
set_option maxHeartbeats 1000000 in
theorem fj9 (B b bs bx : Nat) (w0 ws w1 : World) (c1 c : Nat) (p1 pL : Option Addr) (S : List SlD) (L : List ScD) (hSl : SlO B bs ws (.slice p1 S.length c1) S w0) (hL : ScO B bx w1 (.slice pL L.length c) L w0) (hS4 : S.length ≤ 4) (hL6 : L.length ≤ 6) (hb : b ≤ 20000) (A1 m : Nat) (k : Int) (hk : 0 ≤ k ∧ k < S.length) (v7 : Value) (Fs : List FlD) (hc : CntI k Fs.length) (A2 A3 : Nat) (l : List Int) (v30 : Value) (hci : CntI L.length l.length ∧ InN L.length l) (j : Int) (hj0 : 0 ≤ j) (hj1 : j < l.length) : T3 Try.prog (fun a w => (FiR B (b + 12 * k.toNat + L.length + j.toNat) w0 A1 m (1 + k.toNat) (.slice pL L.length c) v7 Fs A2 A3 (geta S k) ⟨#[]⟩ w ∧ RHd 3 B w.heap.size w l.length v30 (l.map (.int .i64))) ∧ Fr 105 [(0, .pointer (some ⟨B, 0, none⟩)), (5, .pointer (some ⟨A1, 0, none⟩)), (7, v7), (8, .map (some m)), (10, .pointer (some ⟨A2, 0, none⟩)), (11, .pointer (some ⟨A3, 0, none⟩)), (18, .slice p1 S.length c1), (19, .int .i64 S.length), (20, .int .i64 k), (30, v30), (31, .int .i64 l.length), (32, .int .i64 j)] a) (sel [1, 1, 1, 0, 1, 4, 4, 1, 1, 0, 4, 1, 1, 0, 1, 4, 4, 1, 1, 0, 4, 0] fjM) (fun a w => ∃ (A4 : Nat), ((FiR B (b + 12 * k.toNat + L.length + j.toNat) w0 A1 m (1 + k.toNat) (.slice pL L.length c) v7 Fs A2 A3 (geta S k) ⟨#[]⟩ w ∧ RHd 3 B w.heap.size w l.length v30 (l.map (.int .i64))) ∧ RHd 3 B w.heap.size w 1 (.slice (some ⟨A4, 0, none⟩) 1 1) [.int .i64 (geti l j)]) ∧ Fr 105 [(0, .pointer (some ⟨B, 0, none⟩)), (5, .pointer (some ⟨A1, 0, none⟩)), (7, v7), (8, .map (some m)), (10, .pointer (some ⟨A2, 0, none⟩)), (11, .pointer (some ⟨A3, 0, none⟩)), (13, .pointer (some ⟨A4, 0, none⟩)), (18, .slice p1 S.length c1), (19, .int .i64 S.length), (20, .int .i64 k), (30, v30), (31, .int .i64 l.length), (32, .int .i64 j)] a) No 9 No := by
  refine T3.leaf ?_
  rintro Q JS JX JT K hS hK hX hE hT hR a w ⟨hW, ⟨fr, rfl, q0, q5, q7, q8, q10, q11, q18, q19, q20, q30, q31, q32, _⟩⟩
  have hlt := hW.1.f.d.str.lt
  rcases hW.2.row.2 with ⟨h9, h0⟩ | ⟨bz, off, cap, hv, _, hbz, hnc, hcm, hcell⟩
  · omega
  have t0 := hcell j.toNat _ (map_at (by omega))
  have HW := Lib.hid (show ((FiR B (b + 12 * k.toNat + L.length + j.toNat) w0 A1 m (1 + k.toNat) (.slice pL L.length c) v7 Fs A2 A3 (geta S k) ⟨#[]⟩ (w.alloc (.cells #[.int .i64 (geti l j)] 3))) ∧ RHd 3 B (w.alloc (.cells #[.int .i64 (geti l j)] 3)).heap.size (w.alloc (.cells #[.int .i64 (geti l j)] 3)) l.length v30 (l.map (.int .i64))) ∧ RHd 3 B (w.alloc (.cells #[.int .i64 (geti l j)] 3)).heap.size (w.alloc (.cells #[.int .i64 (geti l j)] 3)) 1 (.slice (some ⟨w.heap.size, 0, none⟩) 1 1) [.int .i64 (geti l j)] from ⟨⟨hW.1.alloc _, (hW.2.alloc _).mono (by simp)⟩, RHd.of_owns (owns_lit w w.heap.size 3 #[.int .i64 (geti l j)] 1 (by decide) rfl (Nat.le_refl _)) hlt⟩)
  obtain ⟨p7, c7, hv7⟩ := (Row.of_owns hW.1.f.o).shape
  subst hv7
  subst hv
  clear hW hSl hL hc hci hcell
  generalize geti l j = x at *
  rw [fr_fjM, show fr 0 = _ from q0, show fr 5 = _ from q5, show fr 7 = _ from q7, show fr 8 = _ from q8, show fr 10 = _ from q10, show fr 11 = _ from q11, show fr 18 = _ from q18, show fr 19 = _ from q19, show fr 20 = _ from q20, show fr 30 = _ from q30, show fr 31 = _ from q31, show fr 32 = _ from q32]
  clear q0 q5 q7 q8 q10 q11 q18 q19 q20 q30 q31 q32
  conv => arg 2; whnf
  go_wp2_with fail
  refine Met.intro (hS _ _ ?_)
  exact ⟨w.heap.size, HW.out, Fr.of _ rfl ⟨rfl, rfl, rfl, rfl, rfl, rfl, rfl, rfl, rfl, rfl, rfl, rfl, rfl, trivial⟩⟩

end Go.Proofs.Ytnmdpphddimfbaa
/-
  Line-ups: the stream's Fills, whether one may stand in a slot. Conditions: the bounds that each theorem names.
-/
set_option linter.unusedVariables false
namespace Go.Proofs.Ytnmdpphddimfbaa
open Go.RowKit Go.Bw Go.Maps
set_option maxRecDepth 100000 in
set_option maxHeartbeats 1000000 in
theorem fk10 (B b bs bx : Nat) (w0 ws w1 : World) (c1 c : Nat) (p1 pL : Option Addr) (S : List SlD) (L : List ScD) (hSl : SlO B bs ws (.slice p1 S.length c1) S w0) (hL : ScO B bx w1 (.slice pL L.length c) L w0) (hS4 : S.length ≤ 4) (hL6 : L.length ≤ 6) (hb : b ≤ 20000) (A1 m : Nat) (k : Int) (hk : 0 ≤ k ∧ k < S.length) (v7 : Value) (Fs : List FlD) (hc : CntI k Fs.length) (A2 A3 : Nat) (l : List Int) (v30 : Value) (hci : CntI L.length l.length ∧ InN L.length l) (j : Int) (hj0 : 0 ≤ j) (hj1 : j < l.length) (A4 : Nat) : T3 Try.prog (fun a w => ((FiR B (b + 12 * k.toNat + L.length + j.toNat) w0 A1 m (1 + k.toNat) (.slice pL L.length c) v7 Fs A2 A3 (geta S k) ⟨#[]⟩ w ∧ RHd 3 B w.heap.size w l.length v30 (l.map (.int .i64))) ∧ RHd 3 B w.heap.size w 1 (.slice (some ⟨A4, 0, none⟩) 1 1) [.int .i64 (geti l j)]) ∧ Fr 105 [(0, .pointer (some ⟨B, 0, none⟩)), (5, .pointer (some ⟨A1, 0, none⟩)), (7, v7), (8, .map (some m)), (10, .pointer (some ⟨A2, 0, none⟩)), (11, .pointer (some ⟨A3, 0, none⟩)), (13, .pointer (some ⟨A4, 0, none⟩)), (18, .slice p1 S.length c1), (19, .int .i64 S.length), (20, .int .i64 k), (30, v30), (31, .int .i64 l.length), (32, .int .i64 j)] a) (sel [1, 1, 1, 0, 1, 4, 4, 1, 1, 0, 4, 1, 1, 0, 1, 4, 4, 1, 1, 0, 4, 1, 0] fjM) (fun a w => ∃ (q : Bool), ((FiR B (b + 12 * k.toNat + L.length + j.toNat) w0 A1 m (1 + k.toNat) (.slice pL L.length c) v7 Fs A2 A3 (geta S k) ⟨#[]⟩ w ∧ RHd 3 B w.heap.size w l.length v30 (l.map (.int .i64))) ∧ RHd 3 B w.heap.size w 1 (.slice (some ⟨A4, 0, none⟩) 1 1) [.int .i64 (geti l j)]) ∧ Fr 105 [(0, .pointer (some ⟨B, 0, none⟩)), (5, .pointer (some ⟨A1, 0, none⟩)), (7, v7), (8, .map (some m)), (10, .pointer (some ⟨A2, 0, none⟩)), (11, .pointer (some ⟨A3, 0, none⟩)), (13, .pointer (some ⟨A4, 0, none⟩)), (14, .bool q), (18, .slice p1 S.length c1), (19, .int .i64 S.length), (20, .int .i64 k), (30, v30), (31, .int .i64 l.length), (32, .int .i64 j)] a) No 9 No := by
  refine T3.leaf ?_
  rintro Q JS JX JT K hS hK hX hE hT hR a w ⟨hW, ⟨fr, rfl, q0, q5, q7, q8, q10, q11, q13, q18, q19, q20, q30, q31, q32, _⟩⟩
  obtain ⟨t0, t1⟩ := hW.1.1.slot
  obtain ⟨hx0, hx1⟩ := geti_in hci.2 hj0 hj1
  have hSw := (hSl.drawn hW.1.1.f.d).i _ (geta_mem hk.1 hk.2)
  have hLw := hL.drawn hW.1.1.f.d
  have hp := (hLw.i _ (geta_mem (i := geti l j) hx0 (by omega))).h
  have a4 : w.cell? ⟨A4, 0, none⟩ = some (.int .i64 (geti l j)) := by
    rcases hW.2.row.2 with ⟨h0, _⟩ | ⟨g, off, cap, hv, _, _, _, _, hcl⟩
    · cases h0
    · simp only [Value.slice.injEq, Option.some.injEq, Addr.mk.injEq] at hv
      obtain ⟨⟨rfl, rfl, _⟩, _, _⟩ := hv
      exact hcl 0 _ rfl
  have HM := Lib.hid (may_stand A1 A4 c pL L (geti l j) (geta S k).pv (geta S k).ps w ⟨hW.1.1.f.box, a4, (Row.of_owns hLw.o).mono (Nat.zero_le _), hx0, by omega, hp⟩ hSw.r.row (by have := hSw.n; omega))
  obtain ⟨q1, d1, hpv⟩ := hSw.r.row.shape
  rw [hpv] at HM t1
  have HW := Lib.hid hW
  obtain ⟨p7, c7, hv7⟩ := (Row.of_owns hW.1.1.f.o).shape
  subst hv7
  obtain ⟨p30, c30, hv30⟩ := hW.1.2.row.shape
  subst hv30
  clear hW hSl hL hc hci hSw hLw hp a4 hpv t0
  generalize (geta S k).ps.any (hasS (geta L (geti l j)).ps) = q at *
  generalize (geta S k).ps.length = m1 at *
  rw [fr_fjM, show fr 0 = _ from q0, show fr 5 = _ from q5, show fr 7 = _ from q7, show fr 8 = _ from q8, show fr 10 = _ from q10, show fr 11 = _ from q11, show fr 13 = _ from q13, show fr 18 = _ from q18, show fr 19 = _ from q19, show fr 20 = _ from q20, show fr 30 = _ from q30, show fr 31 = _ from q31, show fr 32 = _ from q32]
  clear q0 q5 q7 q8 q10 q11 q13 q18 q19 q20 q30 q31 q32
  conv => arg 2; whnf
  go_wp2_with fail
  refine HM.out.mono ?_
  rintro e w2 ⟨rfl, hb2⟩
  have H2 := Lib.hid (show _ ∧ _ from And.intro (And.intro (HW.out.1.1.below hb2) ((HW.out.1.2.under hb2).mono hb2.size)) ((HW.out.2.under hb2).mono hb2.size))
  clear hb2
  go_wp2_with fail
  refine Met.intro (hS _ _ ?_)
  exact ⟨_, H2.out, Fr.of _ rfl ⟨rfl, rfl, rfl, rfl, rfl, rfl, rfl, rfl, rfl, rfl, rfl, rfl, rfl, rfl, trivial⟩⟩

end Go.Proofs.Ytnmdpphddimfbaa
/-
  Line-ups: a look into the map of Fills, and a store into it. Conditions: the bounds that each theorem names.
-/
set_option linter.unusedVariables false
namespace Go.Proofs.Ytnmdpphddimfbaa
open Go.RowKit Go.Bw Go.Maps
theorem plain_bool_inv {H : Type} {P : Program} {e : TypeId} (he : P.underlying e = some .bool) {v : Value} {z : DataW H × List MemPlace} (h : plainElem P e v = some z) : ∃ x, v = .bool x := by
  unfold plainElem at h
  cases v <;> simp [he] at h
  exact ⟨_, rfl⟩
theorem MapB.look {w : World} {m n : Nat} (h : MapB w m n) (s : ByteArray) (hs : Sm s) : ∃ q, (Instr.lookup 65 (.map (some m)) (.string s) false).run Try.prog w = .ok (.bool q) w := by
  obtain ⟨D, h⟩ := h
  have hz : (zeroValue 4).run Try.prog w = .ok (.bool false) w := by kernel_rfl
  obtain ⟨v, ps, hrun, hv⟩ := h.lookup (t := 65) (string_keyed und_str) und_map hz (plainElem_bool und_bool false) (Go.WideMaps.keyOf_string_mk und_str (s := s) (Nat.le_trans hs (by decide)))
  obtain ⟨x, rfl⟩ := plain_bool_inv und_bool hv
  exact ⟨x, hrun⟩
theorem MapB.store {w : World} {m n : Nat} (h : MapB w m n) (s : ByteArray) (hs : Sm s) (hn : n ≤ 1000000) : ∃ w', (Instr.mapUpdate 65 (.map (some m)) (.string s) (.bool true)).run Try.prog w = .ok () w' ∧ MapB w' m (n + 1) ∧ w.grownBy w' (some m) := by
  obtain ⟨D, h⟩ := h
  obtain ⟨w', hrun, h1, h2⟩ := h.update (t := 65) (string_keyed und_str) und_map (by unfold maxLen; omega) (Go.WideMaps.keyOf_string_mk und_str (s := s) (Nat.le_trans hs (by decide))) (plainElem_bool und_bool true)
  exact ⟨w', hrun, ⟨_, h1⟩, h2⟩
end Go.Proofs.Ytnmdpphddimfbaa
/-
  Line-ups: the stream's Fills, whether one is taken to a slot. Conditions: the bounds that each theorem names.
-/
set_option linter.unusedVariables false
namespace Go.Proofs.Ytnmdpphddimfbaa
open Go.RowKit Go.Bw Go.Maps
set_option maxRecDepth 100000 in
set_option maxHeartbeats 1000000 in
theorem fk11 (B b bs bx : Nat) (w0 ws w1 : World) (c1 c : Nat) (p1 pL : Option Addr) (S : List SlD) (L : List ScD) (hSl : SlO B bs ws (.slice p1 S.length c1) S w0) (hL : ScO B bx w1 (.slice pL L.length c) L w0) (hS4 : S.length ≤ 4) (hL6 : L.length ≤ 6) (hb : b ≤ 20000) (A1 m : Nat) (k : Int) (hk : 0 ≤ k ∧ k < S.length) (v7 : Value) (Fs : List FlD) (hc : CntI k Fs.length) (A2 A3 : Nat) (l : List Int) (v30 : Value) (hci : CntI L.length l.length ∧ InN L.length l) (j : Int) (hj0 : 0 ≤ j) (hj1 : j < l.length) (A4 : Nat) (q : Bool) : T3 Try.prog (fun a w => ((FiR B (b + 12 * k.toNat + L.length + j.toNat) w0 A1 m (1 + k.toNat) (.slice pL L.length c) v7 Fs A2 A3 (geta S k) ⟨#[]⟩ w ∧ RHd 3 B w.heap.size w l.length v30 (l.map (.int .i64))) ∧ RHd 3 B w.heap.size w 1 (.slice (some ⟨A4, 0, none⟩) 1 1) [.int .i64 (geti l j)]) ∧ Fr 105 [(0, .pointer (some ⟨B, 0, none⟩)), (5, .pointer (some ⟨A1, 0, none⟩)), (7, v7), (8, .map (some m)), (10, .pointer (some ⟨A2, 0, none⟩)), (11, .pointer (some ⟨A3, 0, none⟩)), (13, .pointer (some ⟨A4, 0, none⟩)), (14, .bool q), (18, .slice p1 S.length c1), (19, .int .i64 S.length), (20, .int .i64 k), (30, v30), (31, .int .i64 l.length), (32, .int .i64 j)] a) (sel [1, 1, 1, 0, 1, 4, 4, 1, 1, 0, 4, 1, 1, 0, 1, 4, 4, 1, 1, 0, 4, 1, 1, 0] fjM) (fun a w => ∃ r, Fr 105 ((55, .bool r) :: [(0, .pointer (some ⟨B, 0, none⟩)), (5, .pointer (some ⟨A1, 0, none⟩)), (7, v7), (8, .map (some m)), (10, .pointer (some ⟨A2, 0, none⟩)), (11, .pointer (some ⟨A3, 0, none⟩)), (13, .pointer (some ⟨A4, 0, none⟩)), (14, .bool q), (18, .slice p1 S.length c1), (19, .int .i64 S.length), (20, .int .i64 k), (30, v30), (31, .int .i64 l.length), (32, .int .i64 j)]) a ∧ (True ∧ (FiR B (b + 12 * k.toNat + L.length + j.toNat + 1) w0 A1 m (1 + k.toNat) (.slice pL L.length c) v7 Fs A2 A3 (geta S k) ⟨#[]⟩ w ∧ RHd 3 B w.heap.size w l.length v30 (l.map (.int .i64))) ∧ RHd 3 B w.heap.size w 1 (.slice (some ⟨A4, 0, none⟩) 1 1) [.int .i64 (geti l j)])) No 9 No := by
  refine T3.leaf ?_
  rintro Q JS JX JT K hS hK hX hE hT hR a w ⟨hW, ⟨fr, rfl, q0, q5, q7, q8, q10, q11, q13, q14, q18, q19, q20, q30, q31, q32, _⟩⟩
  have hl1 := hci.1.h
  have hbb : b + 12 * k.toNat + L.length + j.toNat ≤ 60000 := by omega
  obtain ⟨hx0, hx1⟩ := geti_in hci.2 hj0 hj1
  have hLw := hL.drawn hW.1.1.f.d
  obtain ⟨bz, off, hp, _, _, hcell⟩ := Row.nonnil ((Row.of_owns hLw.o).mono (Nat.zero_le _)) (by omega)
  have t0 := Row.elAt encSc_length hcell hx0 (by omega) 0 _ (by decide) rfl
  rw [Nat.add_zero] at t0
  have hz := hLw.z _ (geta_mem (i := geti l j) hx0 (by omega))
  have a1 := hW.1.1.f.box
  have a4 : w.cell? ⟨A4, 0, none⟩ = some (.int .i64 (geti l j)) := by
    rcases hW.2.row.2 with ⟨h0, _⟩ | ⟨g, off, cap, hv, _, _, _, _, hcl⟩
    · cases h0
    · simp only [Value.slice.injEq, Option.some.injEq, Addr.mk.injEq] at hv
      obtain ⟨⟨rfl, rfl, _⟩, _, _⟩ := hv
      exact hcl 0 _ rfl
  obtain ⟨u, hu⟩ := hW.1.1.f.mp.look _ hz
  have HD := Lib.hid (flip_d B (b + 12 * k.toNat + L.length + j.toNat) 4 w hW.1.1.f.d.str rfl (by omega))
  have HW := Lib.hid (fun (w' : World) (d : Drawn B w w' (b + 12 * k.toNat + L.length + j.toNat + 1)) => And.intro (And.intro (hW.1.1.drawn d) ((hW.1.2.str d.gr).mono d.size)) ((hW.2.str d.gr).mono d.size))
  have H0 := Lib.hid ((Drawn.refl hW.1.1.f.d.str).mono (show b + 12 * k.toNat + L.length + j.toNat ≤ b + 12 * k.toNat + L.length + j.toNat + 1 by omega))
  obtain ⟨p7, c7, hv7⟩ := (Row.of_owns hW.1.1.f.o).shape
  subst hv7
  obtain ⟨p30, c30, hv30⟩ := hW.1.2.row.shape
  subst hv30
  subst hp
  clear hW hSl hL hc hci hLw hcell hl1 hbb hz
  generalize (geta L (geti l j)).pl = s at *
  generalize geti l j = x at *
  rw [fr_fjM, show fr 0 = _ from q0, show fr 5 = _ from q5, show fr 7 = _ from q7, show fr 8 = _ from q8, show fr 10 = _ from q10, show fr 11 = _ from q11, show fr 13 = _ from q13, show fr 14 = _ from q14, show fr 18 = _ from q18, show fr 19 = _ from q19, show fr 20 = _ from q20, show fr 30 = _ from q30, show fr 31 = _ from q31, show fr 32 = _ from q32]
  clear q0 q5 q7 q8 q10 q11 q13 q14 q18 q19 q20 q30 q31 q32
  conv => arg 2; whnf
  cases q
  · go_wp2_with fail
    refine Met.intro (hS _ _ ?_)
    exact ⟨_, Fr.of _ rfl ⟨rfl, rfl, rfl, rfl, rfl, rfl, rfl, rfl, rfl, rfl, rfl, rfl, rfl, rfl, rfl, trivial⟩, trivial, HW.out _ H0.out⟩
  · cases u
    · go_wp2_with fail
      refine HD.out.mono ?_
      rintro e w2 ⟨r, rfl, hd⟩
      have H2 := Lib.hid (HW.out _ hd)
      clear hd
      go_wp2_with fail
      refine Met.intro (hS _ _ ?_)
      exact ⟨_, Fr.of _ rfl ⟨rfl, rfl, rfl, rfl, rfl, rfl, rfl, rfl, rfl, rfl, rfl, rfl, rfl, rfl, rfl, trivial⟩, trivial, H2.out⟩
    · go_wp2_with fail
      refine Met.intro (hS _ _ ?_)
      exact ⟨_, Fr.of _ rfl ⟨rfl, rfl, rfl, rfl, rfl, rfl, rfl, rfl, rfl, rfl, rfl, rfl, rfl, rfl, rfl, trivial⟩, trivial, HW.out _ H0.out⟩

end Go.Proofs.Ytnmdpphddimfbaa
/-
  Line-ups: the stream's Fills, one is taken to a slot. Conditions: the bounds that each theorem names.
-/
set_option linter.unusedVariables false
namespace Go.Proofs.Ytnmdpphddimfbaa
open Go.RowKit Go.Bw Go.Maps
set_option maxRecDepth 100000 in
set_option maxHeartbeats 1000000 in
theorem fk12 (B b bs bx : Nat) (w0 ws w1 : World) (c1 c : Nat) (p1 pL : Option Addr) (S : List SlD) (L : List ScD) (hSl : SlO B bs ws (.slice p1 S.length c1) S w0) (hL : ScO B bx w1 (.slice pL L.length c) L w0) (hS4 : S.length ≤ 4) (hL6 : L.length ≤ 6) (hb : b ≤ 20000) (A1 m : Nat) (k : Int) (hk : 0 ≤ k ∧ k < S.length) (v7 : Value) (Fs : List FlD) (hc : CntI k Fs.length) (A2 A3 : Nat) (l : List Int) (v30 : Value) (hci : CntI L.length l.length ∧ InN L.length l) (j : Int) (hj0 : 0 ≤ j) (hj1 : j < l.length) (A4 : Nat) (q : Bool) : T3 Try.prog (fun a w => ((FiR B (b + 12 * k.toNat + L.length + j.toNat + 1) w0 A1 m (1 + k.toNat) (.slice pL L.length c) v7 Fs A2 A3 (geta S k) ⟨#[]⟩ w ∧ RHd 3 B w.heap.size w l.length v30 (l.map (.int .i64))) ∧ RHd 3 B w.heap.size w 1 (.slice (some ⟨A4, 0, none⟩) 1 1) [.int .i64 (geti l j)]) ∧ Fr 105 [(0, .pointer (some ⟨B, 0, none⟩)), (5, .pointer (some ⟨A1, 0, none⟩)), (7, v7), (8, .map (some m)), (10, .pointer (some ⟨A2, 0, none⟩)), (11, .pointer (some ⟨A3, 0, none⟩)), (13, .pointer (some ⟨A4, 0, none⟩)), (14, .bool q), (18, .slice p1 S.length c1), (19, .int .i64 S.length), (20, .int .i64 k), (30, v30), (31, .int .i64 l.length), (32, .int .i64 j)] a) (sel [1, 1, 1, 0, 1, 4, 4, 1, 1, 0, 4, 1, 1, 0, 1, 4, 4, 1, 1, 0, 4, 1, 1, 1, 2, 0] fjM) (fun a w => ∃ (pl : ByteArray), (FiR B (b + 12 * k.toNat + 12) w0 A1 m (1 + k.toNat) (.slice pL L.length c) v7 Fs A2 A3 (geta S k) pl w) ∧ Fr 105 [(0, .pointer (some ⟨B, 0, none⟩)), (5, .pointer (some ⟨A1, 0, none⟩)), (7, v7), (8, .map (some m)), (10, .pointer (some ⟨A2, 0, none⟩)), (11, .pointer (some ⟨A3, 0, none⟩)), (18, .slice p1 S.length c1), (19, .int .i64 S.length), (20, .int .i64 k)] a) No 9 No := by
  refine T3.leaf ?_
  rintro Q JS JX JT K hS hK hX hE hT hR a w ⟨hW, ⟨fr, rfl, q0, q5, q7, q8, q10, q11, q13, q14, q18, q19, q20, q30, q31, q32, _⟩⟩
  have hl1 := hci.1.h
  obtain ⟨hx0, hx1⟩ := geti_in hci.2 hj0 hj1
  have hLw := hL.drawn hW.1.1.f.d
  obtain ⟨bz, off, hp, _, _, hcell⟩ := Row.nonnil ((Row.of_owns hLw.o).mono (Nat.zero_le _)) (by omega)
  have t0 := Row.elAt encSc_length hcell hx0 (by omega) 0 _ (by decide) rfl
  rw [Nat.add_zero] at t0
  have hz := hLw.z _ (geta_mem (i := geti l j) hx0 (by omega))
  have a1 := hW.1.1.f.box
  have a3 := hW.1.1.fill.2
  have f3 := owns_frozenC hW.1.1.b3 1
  have a4 : w.cell? ⟨A4, 0, none⟩ = some (.int .i64 (geti l j)) := by
    rcases hW.2.row.2 with ⟨h0, _⟩ | ⟨g, off, cap, hv, _, _, _, _, hcl⟩
    · cases h0
    · simp only [Value.slice.injEq, Option.some.injEq, Addr.mk.injEq] at hv
      obtain ⟨⟨rfl, rfl, _⟩, _, _⟩ := hv
      exact hcl 0 _ rfl
  have H2 := Lib.hid ((hW.1.1.put _ hz).mono (show b + 12 * k.toNat + L.length + j.toNat + 1 ≤ b + (12 * k.toNat + 12) by omega))
  obtain ⟨p7, c7, hv7⟩ := (Row.of_owns hW.1.1.f.o).shape
  subst hv7
  obtain ⟨p30, c30, hv30⟩ := hW.1.2.row.shape
  subst hv30
  subst hp
  clear hW hSl hL hc hci hLw hcell hl1 hz
  generalize (geta L (geti l j)).pl = s at *
  generalize geti l j = x at *
  rw [fr_fjM, show fr 0 = _ from q0, show fr 5 = _ from q5, show fr 7 = _ from q7, show fr 8 = _ from q8, show fr 10 = _ from q10, show fr 11 = _ from q11, show fr 13 = _ from q13, show fr 14 = _ from q14, show fr 18 = _ from q18, show fr 19 = _ from q19, show fr 20 = _ from q20, show fr 30 = _ from q30, show fr 31 = _ from q31, show fr 32 = _ from q32]
  clear q0 q5 q7 q8 q10 q11 q13 q14 q18 q19 q20 q30 q31 q32
  conv => arg 2; whnf
  go_wp2_with fail
  refine Met.intro (hS _ _ ?_)
  exact ⟨s, H2.out, Fr.of _ rfl ⟨rfl, rfl, rfl, rfl, rfl, rfl, rfl, rfl, rfl, trivial⟩⟩

end Go.Proofs.Ytnmdpphddimfbaa
/-
  Line-ups: the stream's Fills, its inner loop. Conditions: the bounds that each theorem names.
-/
set_option linter.unusedVariables false
namespace Go.Proofs.Ytnmdpphddimfbaa
open Go.RowKit Go.Bw Go.Maps
set_option maxRecDepth 100000 in
set_option maxHeartbeats 1000000 in
theorem fk13 (B b bs bx : Nat) (w0 ws w1 : World) (c1 c : Nat) (p1 pL : Option Addr) (S : List SlD) (L : List ScD) (hSl : SlO B bs ws (.slice p1 S.length c1) S w0) (hL : ScO B bx w1 (.slice pL L.length c) L w0) (hS4 : S.length ≤ 4) (hL6 : L.length ≤ 6) (hb : b ≤ 20000) (A1 m : Nat) (k : Int) (hk : 0 ≤ k ∧ k < S.length) (v7 : Value) (Fs : List FlD) (hc : CntI k Fs.length) (A2 A3 : Nat) (l : List Int) (v30 : Value) (hci : CntI L.length l.length ∧ InN L.length l) (j : Int) (hj0 : 0 ≤ j) (hj1 : j < l.length) : T3 Try.prog (fun a w => (FiR B (b + 12 * k.toNat + L.length + j.toNat + 1) w0 A1 m (1 + k.toNat) (.slice pL L.length c) v7 Fs A2 A3 (geta S k) ⟨#[]⟩ w ∧ RHd 3 B w.heap.size w l.length v30 (l.map (.int .i64))) ∧ Fr 105 [(0, .pointer (some ⟨B, 0, none⟩)), (5, .pointer (some ⟨A1, 0, none⟩)), (7, v7), (8, .map (some m)), (10, .pointer (some ⟨A2, 0, none⟩)), (11, .pointer (some ⟨A3, 0, none⟩)), (18, .slice p1 S.length c1), (19, .int .i64 S.length), (20, .int .i64 k), (30, v30), (31, .int .i64 l.length), (32, .int .i64 j)] a) (sel [1, 1, 1, 0, 1, 4, 4, 1, 1, 0, 4, 1, 1, 0, 1, 4, 4, 1, 1, 1] fjM) (fun a w => (FiR B (b + 12 * k.toNat + L.length + (j + 1).toNat) w0 A1 m (1 + k.toNat) (.slice pL L.length c) v7 Fs A2 A3 (geta S k) ⟨#[]⟩ w ∧ RHd 3 B w.heap.size w l.length v30 (l.map (.int .i64))) ∧ Fr 105 [(0, .pointer (some ⟨B, 0, none⟩)), (5, .pointer (some ⟨A1, 0, none⟩)), (7, v7), (8, .map (some m)), (10, .pointer (some ⟨A2, 0, none⟩)), (11, .pointer (some ⟨A3, 0, none⟩)), (18, .slice p1 S.length c1), (19, .int .i64 S.length), (20, .int .i64 k), (30, v30), (31, .int .i64 l.length), (32, .int .i64 (j + 1))] a) No 9 No := by
  refine T3.leaf ?_
  rintro Q JS JX JT K hS hK hX hE hT hR a w ⟨hW, ⟨fr, rfl, q0, q5, q7, q8, q10, q11, q18, q19, q20, q30, q31, q32, _⟩⟩
  have hl1 := hci.1.h
  have hj9 : j < 1000 := by omega
  clear hl1
  have HW := Lib.hid hW
  have e1 : (j + 1).toNat = j.toNat + 1 := by omega
  obtain ⟨p7, c7, hv7⟩ := (Row.of_owns hW.1.f.o).shape
  subst hv7
  obtain ⟨p30, c30, hv30⟩ := hW.2.row.shape
  subst hv30
  clear hW hSl hL hc hci
  rw [fr_fjM, show fr 0 = _ from q0, show fr 5 = _ from q5, show fr 7 = _ from q7, show fr 8 = _ from q8, show fr 10 = _ from q10, show fr 11 = _ from q11, show fr 18 = _ from q18, show fr 19 = _ from q19, show fr 20 = _ from q20, show fr 30 = _ from q30, show fr 31 = _ from q31, show fr 32 = _ from q32]
  clear q0 q5 q7 q8 q10 q11 q18 q19 q20 q30 q31 q32
  conv => arg 2; whnf
  go_wp2_with fail
  refine Met.intro (hS _ _ ?_)
  exact ⟨by rw [e1]; exact HW.out, Fr.of _ rfl ⟨rfl, rfl, rfl, rfl, rfl, rfl, rfl, rfl, rfl, rfl, rfl, rfl, trivial⟩⟩

set_option maxRecDepth 100000 in
set_option maxHeartbeats 1000000 in
theorem fkI (B b bs bx : Nat) (w0 ws w1 : World) (c1 c : Nat) (p1 pL : Option Addr) (S : List SlD) (L : List ScD) (hSl : SlO B bs ws (.slice p1 S.length c1) S w0) (hL : ScO B bx w1 (.slice pL L.length c) L w0) (hS4 : S.length ≤ 4) (hL6 : L.length ≤ 6) (hb : b ≤ 20000) (A1 m : Nat) (k : Int) (hk : 0 ≤ k ∧ k < S.length) (v7 : Value) (Fs : List FlD) (hc : CntI k Fs.length) (A2 A3 : Nat) (l : List Int) (v30 : Value) (hci : CntI L.length l.length ∧ InN L.length l) (j : Int) (hj0 : 0 ≤ j) (hj1 : j < l.length) : T3 Try.prog (fun a w => (FiR B (b + 12 * k.toNat + L.length + j.toNat) w0 A1 m (1 + k.toNat) (.slice pL L.length c) v7 Fs A2 A3 (geta S k) ⟨#[]⟩ w ∧ RHd 3 B w.heap.size w l.length v30 (l.map (.int .i64))) ∧ Fr 105 [(0, .pointer (some ⟨B, 0, none⟩)), (5, .pointer (some ⟨A1, 0, none⟩)), (7, v7), (8, .map (some m)), (10, .pointer (some ⟨A2, 0, none⟩)), (11, .pointer (some ⟨A3, 0, none⟩)), (18, .slice p1 S.length c1), (19, .int .i64 S.length), (20, .int .i64 k), (30, v30), (31, .int .i64 l.length), (32, .int .i64 j)] a) (sel [1, 1, 1, 0, 1, 4, 4, 1, 1, 0, 4, 1, 1, 0, 1, 4, 4, 1, 1, 0, 4] fjM) (fun a w => (FiR B (b + 12 * k.toNat + L.length + j.toNat + 1) w0 A1 m (1 + k.toNat) (.slice pL L.length c) v7 Fs A2 A3 (geta S k) ⟨#[]⟩ w ∧ RHd 3 B w.heap.size w l.length v30 (l.map (.int .i64))) ∧ Fr 105 [(0, .pointer (some ⟨B, 0, none⟩)), (5, .pointer (some ⟨A1, 0, none⟩)), (7, v7), (8, .map (some m)), (10, .pointer (some ⟨A2, 0, none⟩)), (11, .pointer (some ⟨A3, 0, none⟩)), (18, .slice p1 S.length c1), (19, .int .i64 S.length), (20, .int .i64 k), (30, v30), (31, .int .i64 l.length), (32, .int .i64 j)] a) (fun a w => ∃ (pl : ByteArray), (FiR B (b + 12 * k.toNat + 12) w0 A1 m (1 + k.toNat) (.slice pL L.length c) v7 Fs A2 A3 (geta S k) pl w) ∧ Fr 105 [(0, .pointer (some ⟨B, 0, none⟩)), (5, .pointer (some ⟨A1, 0, none⟩)), (7, v7), (8, .map (some m)), (10, .pointer (some ⟨A2, 0, none⟩)), (11, .pointer (some ⟨A3, 0, none⟩)), (18, .slice p1 S.length c1), (19, .int .i64 S.length), (20, .int .i64 k)] a) 2 No := by
  refine T3.seq (s := (sel [1, 1, 1, 0, 1, 4, 4, 1, 1, 0, 4, 1, 1, 0, 1, 4, 4, 1, 1, 0, 4, 0] fjM)) (c := (sel [1, 1, 1, 0, 1, 4, 4, 1, 1, 0, 4, 1, 1, 0, 1, 4, 4, 1, 1, 0, 4, 1] fjM)) ((fj9 B b bs bx w0 ws w1 c1 c p1 pL S L hSl hL hS4 hL6 hb A1 m k hk v7 Fs hc A2 A3 l v30 hci j hj0 hj1).noX) (T3.ex fun A4 => ?_)
  refine T3.seq (s := (sel [1, 1, 1, 0, 1, 4, 4, 1, 1, 0, 4, 1, 1, 0, 1, 4, 4, 1, 1, 0, 4, 1, 0] fjM)) (c := (sel [1, 1, 1, 0, 1, 4, 4, 1, 1, 0, 4, 1, 1, 0, 1, 4, 4, 1, 1, 0, 4, 1, 1] fjM)) ((fk10 B b bs bx w0 ws w1 c1 c p1 pL S L hSl hL hS4 hL6 hb A1 m k hk v7 Fs hc A2 A3 l v30 hci j hj0 hj1 A4).noX) (T3.ex fun q => ?_)
  refine T3.test (s := (sel [1, 1, 1, 0, 1, 4, 4, 1, 1, 0, 4, 1, 1, 0, 1, 4, 4, 1, 1, 0, 4, 1, 1, 0] fjM)) (x := (sel [1, 1, 1, 0, 1, 4, 4, 1, 1, 0, 4, 1, 1, 0, 1, 4, 4, 1, 1, 0, 4, 1, 1, 1, 2] fjM)) (y := .skip) (C := fun _ => True) (W := fun w => (FiR B (b + 12 * k.toNat + L.length + j.toNat + 1) w0 A1 m (1 + k.toNat) (.slice pL L.length c) v7 Fs A2 A3 (geta S k) ⟨#[]⟩ w ∧ RHd 3 B w.heap.size w l.length v30 (l.map (.int .i64))) ∧ RHd 3 B w.heap.size w 1 (.slice (some ⟨A4, 0, none⟩) 1 1) [.int .i64 (geti l j)]) (by decide) ((fk11 B b bs bx w0 ws w1 c1 c p1 pL S L hSl hL hS4 hL6 hb A1 m k hk v7 Fs hc A2 A3 l v30 hci j hj0 hj1 A4 q).noX) ?_ (T3.skip ?_)
  · refine T3.seq (s := (sel [1, 1, 1, 0, 1, 4, 4, 1, 1, 0, 4, 1, 1, 0, 1, 4, 4, 1, 1, 0, 4, 1, 1, 1, 2, 0] fjM)) (c := .exit 2) (T3.pre ((fk12 B b bs bx w0 ws w1 c1 c p1 pL S L hSl hL hS4 hL6 hb A1 m k hk v7 Fs hc A2 A3 l v30 hci j hj0 hj1 A4 q).noX) ?_) (T3.exit fun a w q => q)
    rintro a w ⟨hF, _, hW⟩
    exact ⟨hW, hF.tail⟩
  · rintro a w ⟨_, hW, hF⟩
    exact ⟨hW.1, hF.sub (by simp)⟩

set_option maxRecDepth 100000 in
set_option maxHeartbeats 1000000 in
theorem fkL (B b bs bx : Nat) (w0 ws w1 : World) (c1 c : Nat) (p1 pL : Option Addr) (S : List SlD) (L : List ScD) (hSl : SlO B bs ws (.slice p1 S.length c1) S w0) (hL : ScO B bx w1 (.slice pL L.length c) L w0) (hS4 : S.length ≤ 4) (hL6 : L.length ≤ 6) (hb : b ≤ 20000) (A1 m : Nat) (k : Int) (hk : 0 ≤ k ∧ k < S.length) (v7 : Value) (Fs : List FlD) (hc : CntI k Fs.length) (A2 A3 : Nat) (l : List Int) (v30 : Value) (hci : CntI L.length l.length ∧ InN L.length l) : T3 Try.prog (fun a w => (FiR B (b + 12 * k.toNat + L.length) w0 A1 m (1 + k.toNat) (.slice pL L.length c) v7 Fs A2 A3 (geta S k) ⟨#[]⟩ w ∧ RHd 3 B w.heap.size w l.length v30 (l.map (.int .i64))) ∧ Fr 105 [(0, .pointer (some ⟨B, 0, none⟩)), (5, .pointer (some ⟨A1, 0, none⟩)), (7, v7), (8, .map (some m)), (10, .pointer (some ⟨A2, 0, none⟩)), (11, .pointer (some ⟨A3, 0, none⟩)), (18, .slice p1 S.length c1), (19, .int .i64 S.length), (20, .int .i64 k), (30, v30), (31, .int .i64 l.length), (32, .int .i64 0)] a) (sel [1, 1, 1, 0, 1, 4, 4, 1, 1, 0, 4, 1, 1, 0, 1] fjM) (fun a w => ∃ (pl : ByteArray), (FiR B (b + 12 * k.toNat + 12) w0 A1 m (1 + k.toNat) (.slice pL L.length c) v7 Fs A2 A3 (geta S k) pl w) ∧ Fr 105 [(0, .pointer (some ⟨B, 0, none⟩)), (5, .pointer (some ⟨A1, 0, none⟩)), (7, v7), (8, .map (some m)), (10, .pointer (some ⟨A2, 0, none⟩)), (11, .pointer (some ⟨A3, 0, none⟩)), (18, .slice p1 S.length c1), (19, .int .i64 S.length), (20, .int .i64 k)] a) No 9 No := by
  have hl1 := hci.1.h
  refine T3.loop (c := (sel [1, 1, 1, 0, 1, 4, 4, 1, 1, 0, 4, 1, 1, 0, 1, 4, 4] fjM)) (fun ng_ a w => ∃ j : Int, (ng_ : Int) = l.length - j ∧ (0 ≤ j ∧ j ≤ l.length) ∧ (FiR B (b + 12 * k.toNat + L.length + j.toNat) w0 A1 m (1 + k.toNat) (.slice pL L.length c) v7 Fs A2 A3 (geta S k) ⟨#[]⟩ w ∧ RHd 3 B w.heap.size w l.length v30 (l.map (.int .i64))) ∧ Fr 105 [(0, .pointer (some ⟨B, 0, none⟩)), (5, .pointer (some ⟨A1, 0, none⟩)), (7, v7), (8, .map (some m)), (10, .pointer (some ⟨A2, 0, none⟩)), (11, .pointer (some ⟨A3, 0, none⟩)), (18, .slice p1 S.length c1), (19, .int .i64 S.length), (20, .int .i64 k), (30, v30), (31, .int .i64 l.length), (32, .int .i64 j)] a) (fun a w h => ⟨l.length, 0, by omega, ⟨by omega, by omega⟩, h⟩) (fun ng_ => T3.ex fun j => T3.pure fun hng_ => T3.pure fun hj => ?_)
  refine T3.seq (s := (sel [1, 1, 1, 0, 1, 4, 4, 1, 1, 0, 4, 1, 1, 0, 1, 4, 4, 0] fjM)) (c := (sel [1, 1, 1, 0, 1, 4, 4, 1, 1, 0, 4, 1, 1, 0, 1, 4, 4, 1] fjM)) ((fj8 B b bs bx w0 ws w1 c1 c p1 pL S L hSl hL hS4 hL6 hb A1 m k hk v7 Fs hc A2 A3 l v30 hci j hj.1 hj.2).noX) ?_
  refine T3.seq (s := (sel [1, 1, 1, 0, 1, 4, 4, 1, 1, 0, 4, 1, 1, 0, 1, 4, 4, 1, 0] fjM)) (c := (sel [1, 1, 1, 0, 1, 4, 4, 1, 1, 0, 4, 1, 1, 0, 1, 4, 4, 1, 1] fjM)) (S := fun a w => (j < l.length) ∧ (FiR B (b + 12 * k.toNat + L.length + j.toNat) w0 A1 m (1 + k.toNat) (.slice pL L.length c) v7 Fs A2 A3 (geta S k) ⟨#[]⟩ w ∧ RHd 3 B w.heap.size w l.length v30 (l.map (.int .i64))) ∧ Fr 105 [(0, .pointer (some ⟨B, 0, none⟩)), (5, .pointer (some ⟨A1, 0, none⟩)), (7, v7), (8, .map (some m)), (10, .pointer (some ⟨A2, 0, none⟩)), (11, .pointer (some ⟨A3, 0, none⟩)), (18, .slice p1 S.length c1), (19, .int .i64 S.length), (20, .int .i64 k), (30, v30), (31, .int .i64 l.length), (32, .int .i64 j)] a) ?_ (T3.pure fun hj1 => T3.seq (s := (sel [1, 1, 1, 0, 1, 4, 4, 1, 1, 0, 4, 1, 1, 0, 1, 4, 4, 1, 1, 0] fjM)) (c := (sel [1, 1, 1, 0, 1, 4, 4, 1, 1, 0, 4, 1, 1, 0, 1, 4, 4, 1, 1, 1] fjM)) (T3.block (by decide) (fkI B b bs bx w0 ws w1 c1 c p1 pL S L hSl hL hS4 hL6 hb A1 m k hk v7 Fs hc A2 A3 l v30 hci j hj.1 hj1)) ?_)
  · refine T3.cond (o := .tmp 33) (x := .skip) (y := .exit 2) (fun a w => j < l.length ∧ (FiR B (b + 12 * k.toNat + L.length + j.toNat) w0 A1 m (1 + k.toNat) (.slice pL L.length c) v7 Fs A2 A3 (geta S k) ⟨#[]⟩ w ∧ RHd 3 B w.heap.size w l.length v30 (l.map (.int .i64))) ∧ Fr 105 [(0, .pointer (some ⟨B, 0, none⟩)), (5, .pointer (some ⟨A1, 0, none⟩)), (7, v7), (8, .map (some m)), (10, .pointer (some ⟨A2, 0, none⟩)), (11, .pointer (some ⟨A3, 0, none⟩)), (18, .slice p1 S.length c1), (19, .int .i64 S.length), (20, .int .i64 k), (30, v30), (31, .int .i64 l.length), (32, .int .i64 j)] a) (fun a w => ¬ j < l.length ∧ (FiR B (b + 12 * k.toNat + L.length + j.toNat) w0 A1 m (1 + k.toNat) (.slice pL L.length c) v7 Fs A2 A3 (geta S k) ⟨#[]⟩ w ∧ RHd 3 B w.heap.size w l.length v30 (l.map (.int .i64))) ∧ Fr 105 [(0, .pointer (some ⟨B, 0, none⟩)), (5, .pointer (some ⟨A1, 0, none⟩)), (7, v7), (8, .map (some m)), (10, .pointer (some ⟨A2, 0, none⟩)), (11, .pointer (some ⟨A3, 0, none⟩)), (18, .slice p1 S.length c1), (19, .int .i64 S.length), (20, .int .i64 k), (30, v30), (31, .int .i64 l.length), (32, .int .i64 j)] a) ?_ (T3.skip fun _ _ q => q) (T3.exit ?_)
    · rintro a w ⟨q, hF, hq, hW⟩
      have he := hF.eval 33 (by decide) (v := .bool q) (by simp)
      by_cases hlt : j < l.length
      · exact .inl ⟨by rw [he, hq]; simp [hlt], hlt, hW, hF.tail⟩
      · exact .inr ⟨by rw [he, hq]; simp [hlt], hlt, hW, hF.tail⟩
    · rintro a w ⟨hlt, hW, hF⟩
      exact ⟨⟨#[]⟩, hW.1.mono (by omega), hF.sub (by simp)⟩
  · exact ((fk13 B b bs bx w0 ws w1 c1 c p1 pL S L hSl hL hS4 hL6 hb A1 m k hk v7 Fs hc A2 A3 l v30 hci j hj.1 hj1).noX).post (fun a w q => ⟨ng_ - 1, by omega, j + 1, by omega, ⟨by omega, by omega⟩, q⟩)

theorem MapB.cell {w : World} {m n A i : Nat} {v : Value} (h : MapB w m n) (hc : w.cell? ⟨A, i, none⟩ = some v) : A ≠ m := by
  obtain ⟨D, es, clock, hb, _⟩ := h
  rintro rfl
  simp [World.cell?, hb] at hc
theorem FiR.map {B b A1 m n A2 A3 : Nat} {w0 w w' : World} {vL v : Value} {Fs : List FlD} {x : SlD} {pl : ByteArray} (h : FiR B b w0 A1 m n vL v Fs A2 A3 x pl w) (hm : MapB w' m (n + 1)) (gr : w.grownBy w' (some m)) : FiR B b w0 A1 m (n + 1) vL v Fs A2 A3 x pl w' := by
  have h1 := h.f.mp.cell h.f.box
  have h2 := h.f.mp.cell h.slot.1
  have hmb := h.f.hm
  have hB := h.f.hB
  refine ⟨⟨h.f.d.newer gr hmb (by omega), h.f.hB, h.f.hA, h.f.hm, (h.f.a.grow gr (fun k hk => by cases hk; simpa [Value.ownBlock] using h1)).mono gr.size, hm, h.f.o.kept gr (.inr (fun e => h.f.mp.row h.f.o e.symm)), h.f.z⟩,
    (h.b2.grow gr (fun k hk => by cases hk; simpa [Value.ownBlock] using h2)).mono gr.size, h.b3.kept gr (.inr (by simpa [Value.ownBlock] using fun e => h.n2 e.symm)), h.n1, h.n2, h.n3, h.z⟩
set_option maxRecDepth 100000 in
set_option maxHeartbeats 1000000 in
theorem fk14 (B b bs bx : Nat) (w0 ws w1 : World) (c1 c : Nat) (p1 pL : Option Addr) (S : List SlD) (L : List ScD) (hSl : SlO B bs ws (.slice p1 S.length c1) S w0) (hL : ScO B bx w1 (.slice pL L.length c) L w0) (hS4 : S.length ≤ 4) (hL6 : L.length ≤ 6) (hb : b ≤ 20000) (A1 m : Nat) (k : Int) (hk : 0 ≤ k ∧ k < S.length) (v7 : Value) (Fs : List FlD) (hc : CntI k Fs.length) (A2 A3 : Nat) (pl : ByteArray) : T3 Try.prog (fun a w => (FiR B (b + 12 * k.toNat + 12) w0 A1 m (1 + k.toNat) (.slice pL L.length c) v7 Fs A2 A3 (geta S k) pl w) ∧ Fr 105 [(0, .pointer (some ⟨B, 0, none⟩)), (5, .pointer (some ⟨A1, 0, none⟩)), (7, v7), (8, .map (some m)), (10, .pointer (some ⟨A2, 0, none⟩)), (11, .pointer (some ⟨A3, 0, none⟩)), (18, .slice p1 S.length c1), (19, .int .i64 S.length), (20, .int .i64 k)] a) (sel [1, 1, 1, 0, 1, 4, 4, 1, 1, 0, 4, 1, 1, 1, 0] fjM) (fun a w => (FiR B (b + 12 * k.toNat + 12) w0 A1 m (1 + k.toNat + 1) (.slice pL L.length c) v7 Fs A2 A3 (geta S k) pl w) ∧ Fr 105 [(0, .pointer (some ⟨B, 0, none⟩)), (5, .pointer (some ⟨A1, 0, none⟩)), (7, v7), (8, .map (some m)), (10, .pointer (some ⟨A2, 0, none⟩)), (11, .pointer (some ⟨A3, 0, none⟩)), (18, .slice p1 S.length c1), (19, .int .i64 S.length), (20, .int .i64 k)] a) No 9 No := by
  refine T3.leaf ?_
  rintro Q JS JX JT K hS hK hX hE hT hR a w ⟨hW, ⟨fr, rfl, q0, q5, q7, q8, q10, q11, q18, q19, q20, _⟩⟩
  obtain ⟨t0, t1⟩ := hW.fill
  obtain ⟨w', hrun, hm', hg⟩ := hW.f.mp.store pl hW.z.2 (by omega)
  have H2 := Lib.hid (hW.map hm' hg)
  obtain ⟨p7, c7, hv7⟩ := (Row.of_owns hW.f.o).shape
  subst hv7
  clear hW hSl hL hc hm' hg
  rw [fr_fjM, show fr 0 = _ from q0, show fr 5 = _ from q5, show fr 7 = _ from q7, show fr 8 = _ from q8, show fr 10 = _ from q10, show fr 11 = _ from q11, show fr 18 = _ from q18, show fr 19 = _ from q19, show fr 20 = _ from q20]
  clear q0 q5 q7 q8 q10 q11 q18 q19 q20
  conv => arg 2; whnf
  go_wp2_with fail
  refine Met.intro (hS _ _ ?_)
  exact ⟨H2.out, Fr.of _ rfl ⟨rfl, rfl, rfl, rfl, rfl, rfl, rfl, rfl, rfl, trivial⟩⟩

set_option maxRecDepth 100000 in
set_option maxHeartbeats 1000000 in
theorem fk15 (B b bs bx : Nat) (w0 ws w1 : World) (c1 c : Nat) (p1 pL : Option Addr) (S : List SlD) (L : List ScD) (hSl : SlO B bs ws (.slice p1 S.length c1) S w0) (hL : ScO B bx w1 (.slice pL L.length c) L w0) (hS4 : S.length ≤ 4) (hL6 : L.length ≤ 6) (hb : b ≤ 20000) (A1 m : Nat) (k : Int) (hk : 0 ≤ k ∧ k < S.length) (v7 : Value) (Fs : List FlD) (hc : CntI k Fs.length) (A2 A3 : Nat) (pl : ByteArray) : T3 Try.prog (fun a w => (FiR B (b + 12 * k.toNat + 12) w0 A1 m (1 + k.toNat + 1) (.slice pL L.length c) v7 Fs A2 A3 (geta S k) pl w) ∧ Fr 105 [(0, .pointer (some ⟨B, 0, none⟩)), (5, .pointer (some ⟨A1, 0, none⟩)), (7, v7), (8, .map (some m)), (10, .pointer (some ⟨A2, 0, none⟩)), (11, .pointer (some ⟨A3, 0, none⟩)), (18, .slice p1 S.length c1), (19, .int .i64 S.length), (20, .int .i64 k)] a) (sel [1, 1, 1, 0, 1, 4, 4, 1, 1, 0, 4, 1, 1, 1, 1] fjM) (fun a w => ∃ (v7 : Value) (Fs : List FlD), ((0 ≤ k ∧ k < S.length) ∧ CntI (k + 1) Fs.length) ∧ (FiO B (b + 12 * ((k + 1) : Int).toNat) w0 A1 m (1 + ((k + 1) : Int).toNat) (.slice pL L.length c) v7 Fs w) ∧ Fr 105 [(0, .pointer (some ⟨B, 0, none⟩)), (5, .pointer (some ⟨A1, 0, none⟩)), (7, v7), (8, .map (some m)), (18, .slice p1 S.length c1), (19, .int .i64 S.length), (20, .int .i64 k)] a) No 9 No := by
  refine T3.leaf ?_
  rintro Q JS JX JT K hS hK hX hE hT hR a w ⟨hW, ⟨fr, rfl, q0, q5, q7, q8, q10, q11, q18, q19, q20, _⟩⟩
  obtain ⟨t0, t1⟩ := hW.fill
  have hE := el_flL
  have hF := hW.f
  have hzz := hW.z
  have hl := hc.h
  have hss := hF.d.size
  obtain ⟨p7, c7, hv7⟩ := (Row.of_owns hW.f.o).shape
  subst hv7
  clear hW hSl hL hc
  generalize (geta S k).key = x at *
  rw [fr_fjM, show fr 0 = _ from q0, show fr 5 = _ from q5, show fr 7 = _ from q7, show fr 8 = _ from q8, show fr 10 = _ from q10, show fr 11 = _ from q11, show fr 18 = _ from q18, show fr 19 = _ from q19, show fr 20 = _ from q20]
  clear q0 q5 q7 q8 q10 q11 q18 q19 q20
  conv => arg 2; whnf
  go_wp2_with (at_builtin; refine app_law rfl _ _ _ rfl hE (hF.o.alloc _) rfl [.string x, .string pl] rfl rfl (cells_new w #[_, _] _) (by simp [Value.oneCell']) (by omega) (by simp; omega) ?_; intro v' w2 hown2 hgr2)
  have h2 := ((hF.alloc _).app (x := ⟨x, pl⟩) hzz hown2 hgr2).mono (show b + (12 * k.toNat + 12) ≤ b + 12 * (k + 1 : Int).toNat by omega)
  rw [show 1 + k.toNat + 1 = 1 + (k + 1 : Int).toNat by omega] at h2
  refine Met.intro (hS _ _ ?_)
  exact ⟨_, _, ⟨hk, ⟨by simp; omega⟩⟩, h2, Fr.of _ rfl ⟨rfl, rfl, rfl, rfl, rfl, rfl, rfl, trivial⟩⟩

set_option maxRecDepth 100000 in
set_option maxHeartbeats 1000000 in
theorem fjb (B b bs bx : Nat) (w0 ws w1 : World) (c1 c : Nat) (p1 pL : Option Addr) (S : List SlD) (L : List ScD) (hSl : SlO B bs ws (.slice p1 S.length c1) S w0) (hL : ScO B bx w1 (.slice pL L.length c) L w0) (hS4 : S.length ≤ 4) (hL6 : L.length ≤ 6) (hb : b ≤ 20000) (A1 m : Nat) (k : Int) : T3 Try.prog (fun a w => ∃ (v7 : Value) (Fs : List FlD), ((0 ≤ k ∧ k < S.length) ∧ CntI k Fs.length) ∧ (FiO B (b + 12 * (k : Int).toNat) w0 A1 m (1 + (k : Int).toNat) (.slice pL L.length c) v7 Fs w) ∧ Fr 105 [(0, .pointer (some ⟨B, 0, none⟩)), (5, .pointer (some ⟨A1, 0, none⟩)), (7, v7), (8, .map (some m)), (18, .slice p1 S.length c1), (19, .int .i64 S.length), (20, .int .i64 k)] a) (sel [1, 1, 1, 0, 1, 4, 4, 1, 1, 0] fjM) (fun a w => ∃ (v7 : Value) (Fs : List FlD), ((0 ≤ k ∧ k < S.length) ∧ CntI (k + 1) Fs.length) ∧ (FiO B (b + 12 * ((k + 1) : Int).toNat) w0 A1 m (1 + ((k + 1) : Int).toNat) (.slice pL L.length c) v7 Fs w) ∧ Fr 105 [(0, .pointer (some ⟨B, 0, none⟩)), (5, .pointer (some ⟨A1, 0, none⟩)), (7, v7), (8, .map (some m)), (18, .slice p1 S.length c1), (19, .int .i64 S.length), (20, .int .i64 k)] a) No 9 No := by
  refine T3.block (id' := 1) (c := (sel [1, 1, 1, 0, 1, 4, 4, 1, 1, 0, 4] fjM)) (by decide) ?_
  refine T3.seq (s := (sel [1, 1, 1, 0, 1, 4, 4, 1, 1, 0, 4, 0] fjM)) (c := (sel [1, 1, 1, 0, 1, 4, 4, 1, 1, 0, 4, 1] fjM)) (fj5 B b bs bx w0 ws w1 c1 c p1 pL S L hSl hL hS4 hL6 hb A1 m k) (T3.ex fun v7 => T3.ex fun Fs => T3.ex fun A2 => T3.pure fun hh => ?_)
  refine T3.seq (s := (sel [1, 1, 1, 0, 1, 4, 4, 1, 1, 0, 4, 1, 0] fjM)) (c := (sel [1, 1, 1, 0, 1, 4, 4, 1, 1, 0, 4, 1, 1] fjM)) (fj6 B b bs bx w0 ws w1 c1 c p1 pL S L hSl hL hS4 hL6 hb A1 m k hh.1 v7 Fs hh.2 A2) (T3.ex fun A3 => ?_)
  refine T3.seq (s := (sel [1, 1, 1, 0, 1, 4, 4, 1, 1, 0, 4, 1, 1, 0] fjM)) (c := (sel [1, 1, 1, 0, 1, 4, 4, 1, 1, 0, 4, 1, 1, 1] fjM)) (T3.seq (s := (sel [1, 1, 1, 0, 1, 4, 4, 1, 1, 0, 4, 1, 1, 0, 0] fjM)) (c := (sel [1, 1, 1, 0, 1, 4, 4, 1, 1, 0, 4, 1, 1, 0, 1] fjM)) (fj7 B b bs bx w0 ws w1 c1 c p1 pL S L hSl hL hS4 hL6 hb A1 m k hh.1 v7 Fs hh.2 A2 A3) (T3.ex fun l => T3.ex fun v30 => T3.pure fun hci => fkL B b bs bx w0 ws w1 c1 c p1 pL S L hSl hL hS4 hL6 hb A1 m k hh.1 v7 Fs hh.2 A2 A3 l v30 hci)) (T3.ex fun pl => ?_)
  exact T3.seq (s := (sel [1, 1, 1, 0, 1, 4, 4, 1, 1, 0, 4, 1, 1, 1, 0] fjM)) (c := (sel [1, 1, 1, 0, 1, 4, 4, 1, 1, 0, 4, 1, 1, 1, 1] fjM)) (fk14 B b bs bx w0 ws w1 c1 c p1 pL S L hSl hL hS4 hL6 hb A1 m k hh.1 v7 Fs hh.2 A2 A3 pl) (fk15 B b bs bx w0 ws w1 c1 c p1 pL S L hSl hL hS4 hL6 hb A1 m k hh.1 v7 Fs hh.2 A2 A3 pl)

/-- Fills that the stream hands out: a row of the call's own. -/
structure FlO (B b : Nat) (w0 : World) (v : Value) (Fs : List FlD) (w : World) : Prop where
  d : Drawn B w0 w b
  hB : B < w0.heap.size
  o : w.ownsRow w0.heap.size 42 2 v Fs.length (cellsOf encFl Fs)
  z : ∀ x ∈ Fs, Sm x.sl ∧ Sm x.pl
theorem FlO.drawn {B b b' : Nat} {w0 w w' : World} {v : Value} {Fs : List FlD} (h : FlO B b w0 v Fs w) (d : Drawn B w w' b') : FlO B b' w0 v Fs w' := ⟨h.d.trans d, h.hB, owns_drawn h.o d h.hB, h.z⟩
theorem FlO.mono {B b b' : Nat} {w0 w : World} {v : Value} {Fs : List FlD} (h : FlO B b w0 v Fs w) (hb : b ≤ b') : FlO B b' w0 v Fs w := ⟨h.d.mono hb, h.hB, h.o, h.z⟩
def fjAI (B b bs bx : Nat) (w0 ws w1 : World) (c1 c : Nat) (p1 pL : Option Addr) (S : List SlD) (L : List ScD) (hSl : SlO B bs ws (.slice p1 S.length c1) S w0) (hL : ScO B bx w1 (.slice pL L.length c) L w0) (hS4 : S.length ≤ 4) (hL6 : L.length ≤ 6) (hb : b ≤ 20000) (A1 m : Nat) (k : Int) (a : Act) (w : World) : Prop := (0 ≤ k ∧ k ≤ S.length) ∧ ∃ (v7 : Value) (Fs : List FlD), (CntI k Fs.length) ∧ (FiO B (b + 12 * (k : Int).toNat) w0 A1 m (1 + (k : Int).toNat) (.slice pL L.length c) v7 Fs w) ∧ Fr 105 [(0, .pointer (some ⟨B, 0, none⟩)), (5, .pointer (some ⟨A1, 0, none⟩)), (7, v7), (8, .map (some m)), (18, .slice p1 S.length c1), (19, .int .i64 S.length), (20, .int .i64 k)] a
set_option maxRecDepth 100000 in
set_option maxHeartbeats 1000000 in
theorem fjAt (B b bs bx : Nat) (w0 ws w1 : World) (c1 c : Nat) (p1 pL : Option Addr) (S : List SlD) (L : List ScD) (hSl : SlO B bs ws (.slice p1 S.length c1) S w0) (hL : ScO B bx w1 (.slice pL L.length c) L w0) (hS4 : S.length ≤ 4) (hL6 : L.length ≤ 6) (hb : b ≤ 20000) (A1 m : Nat) (k : Int) : T3 Try.prog (fun a w => fjAI B b bs bx w0 ws w1 c1 c p1 pL S L hSl hL hS4 hL6 hb A1 m k a w) (sel [1, 1, 1, 0, 1, 4, 4, 0] fjM) (fun a w => ∃ q, Fr 105 ((21, .bool q) :: [(20, .int .i64 k)]) a ∧ ((q = true ↔ k < S.length) ∧ fjAI B b bs bx w0 ws w1 c1 c p1 pL S L hSl hL hS4 hL6 hb A1 m k a w)) No 9 No := by
  refine T3.leaf ?_
  rintro Q JS JX JT K hS hK hX hE hT hR a w ⟨hk, v7, Fs, hpre, hW, ⟨fr, rfl, q0, q5, q7, q8, q18, q19, q20, _⟩⟩
  rw [fr_fjM, show fr 0 = _ from q0, show fr 5 = _ from q5, show fr 7 = _ from q7, show fr 8 = _ from q8, show fr 18 = _ from q18, show fr 19 = _ from q19, show fr 20 = _ from q20]
  clear q0 q5 q7 q8 q18 q19 q20
  conv => arg 2; whnf
  by_cases hlt : k < S.length
  · go_wp2_with fail
    refine Met.intro (hS _ _ ?_)
    exact ⟨true, Fr.of _ rfl ⟨rfl, rfl, trivial⟩, ⟨fun _ => hlt, fun _ => rfl⟩, hk, v7, Fs, hpre, hW, Fr.of _ rfl ⟨rfl, rfl, rfl, rfl, rfl, rfl, rfl, trivial⟩⟩
  · have hpb : decide (k < (S.length : Int)) = false := by simp; omega
    go_wp2_with fail
    refine Met.intro (hS _ _ ?_)
    exact ⟨false, Fr.of _ rfl ⟨rfl, rfl, trivial⟩, ⟨(fun h => by cases h), fun h => absurd h (by omega)⟩, hk, v7, Fs, hpre, hW, Fr.of _ rfl ⟨rfl, rfl, rfl, rfl, rfl, rfl, rfl, trivial⟩⟩

set_option maxRecDepth 100000 in
set_option maxHeartbeats 1000000 in
theorem fjAn (B b bs bx : Nat) (w0 ws w1 : World) (c1 c : Nat) (p1 pL : Option Addr) (S : List SlD) (L : List ScD) (hSl : SlO B bs ws (.slice p1 S.length c1) S w0) (hL : ScO B bx w1 (.slice pL L.length c) L w0) (hS4 : S.length ≤ 4) (hL6 : L.length ≤ 6) (hb : b ≤ 20000) (A1 m : Nat) (k : Int) : T3 Try.prog (fun a w => (0 ≤ k ∧ k < S.length) ∧ ∃ (v7 : Value) (Fs : List FlD), (CntI (k + 1) Fs.length) ∧ (FiO B (b + 12 * ((k + 1) : Int).toNat) w0 A1 m (1 + ((k + 1) : Int).toNat) (.slice pL L.length c) v7 Fs w) ∧ Fr 105 [(0, .pointer (some ⟨B, 0, none⟩)), (5, .pointer (some ⟨A1, 0, none⟩)), (7, v7), (8, .map (some m)), (18, .slice p1 S.length c1), (19, .int .i64 S.length), (20, .int .i64 k)] a) (sel [1, 1, 1, 0, 1, 4, 4, 1, 1, 1] fjM) (fun a w => fjAI B b bs bx w0 ws w1 c1 c p1 pL S L hSl hL hS4 hL6 hb A1 m (k + 1) a w) No 9 No := by
  refine T3.leaf ?_
  rintro Q JS JX JT K hS hK hX hE hT hR a w ⟨hk, v7, Fs, hpre, hW, ⟨fr, rfl, q0, q5, q7, q8, q18, q19, q20, _⟩⟩
  obtain ⟨hk0, hk1⟩ := hk
  rw [fr_fjM, show fr 0 = _ from q0, show fr 5 = _ from q5, show fr 7 = _ from q7, show fr 8 = _ from q8, show fr 18 = _ from q18, show fr 19 = _ from q19, show fr 20 = _ from q20]
  clear q0 q5 q7 q8 q18 q19 q20
  conv => arg 2; whnf
  go_wp2_with fail
  refine Met.intro (hS _ _ ?_)
  exact ⟨⟨by omega, by omega⟩, v7, Fs, hpre, hW, Fr.of _ rfl ⟨rfl, rfl, rfl, rfl, rfl, rfl, rfl, trivial⟩⟩

set_option maxRecDepth 100000 in
set_option maxHeartbeats 1000000 in
theorem fjAloop (B b bs bx : Nat) (w0 ws w1 : World) (c1 c : Nat) (p1 pL : Option Addr) (S : List SlD) (L : List ScD) (hSl : SlO B bs ws (.slice p1 S.length c1) S w0) (hL : ScO B bx w1 (.slice pL L.length c) L w0) (hS4 : S.length ≤ 4) (hL6 : L.length ≤ 6) (hb : b ≤ 20000) (A1 m : Nat) : T3 Try.prog (fun a w => fjAI B b bs bx w0 ws w1 c1 c p1 pL S L hSl hL hS4 hL6 hb A1 m 0 a w) (sel [1, 1, 1, 0, 1] fjM) (fun a w => ∃ (v7 : Value) (Fs : List FlD), (Fs.length ≤ 4) ∧ (FlO B (b + 48) w0 v7 Fs w) ∧ Fr 105 [(0, .pointer (some ⟨B, 0, none⟩)), (7, v7)] a) No 9 No := by
  refine T3.loop (c := (sel [1, 1, 1, 0, 1, 4, 4] fjM)) (fun ng_ a w => ∃ k : Int, (ng_ : Int) = S.length - k ∧ fjAI B b bs bx w0 ws w1 c1 c p1 pL S L hSl hL hS4 hL6 hb A1 m k a w) (fun a w h => ⟨(S.length : Int).toNat, 0, by have := h.1.2; omega, h⟩) (fun ng_ => T3.ex fun k => T3.pure fun hng_ => ?_)
  refine T3.seq (s := (sel [1, 1, 1, 0, 1, 4, 4, 0] fjM)) (c := (sel [1, 1, 1, 0, 1, 4, 4, 1] fjM)) ((fjAt B b bs bx w0 ws w1 c1 c p1 pL S L hSl hL hS4 hL6 hb A1 m k).noX) ?_
  refine T3.seq (s := (sel [1, 1, 1, 0, 1, 4, 4, 1, 0] fjM)) (c := (sel [1, 1, 1, 0, 1, 4, 4, 1, 1] fjM)) (S := fun a w => (0 ≤ k ∧ k < S.length) ∧ ∃ (v7 : Value) (Fs : List FlD), (CntI k Fs.length) ∧ (FiO B (b + 12 * (k : Int).toNat) w0 A1 m (1 + (k : Int).toNat) (.slice pL L.length c) v7 Fs w) ∧ Fr 105 [(0, .pointer (some ⟨B, 0, none⟩)), (5, .pointer (some ⟨A1, 0, none⟩)), (7, v7), (8, .map (some m)), (18, .slice p1 S.length c1), (19, .int .i64 S.length), (20, .int .i64 k)] a) ?_ (T3.seq (s := (sel [1, 1, 1, 0, 1, 4, 4, 1, 1, 0] fjM)) (c := (sel [1, 1, 1, 0, 1, 4, 4, 1, 1, 1] fjM)) (S := fun a w => (0 ≤ k ∧ k < S.length) ∧ ∃ (v7 : Value) (Fs : List FlD), (CntI (k + 1) Fs.length) ∧ (FiO B (b + 12 * ((k + 1) : Int).toNat) w0 A1 m (1 + ((k + 1) : Int).toNat) (.slice pL L.length c) v7 Fs w) ∧ Fr 105 [(0, .pointer (some ⟨B, 0, none⟩)), (5, .pointer (some ⟨A1, 0, none⟩)), (7, v7), (8, .map (some m)), (18, .slice p1 S.length c1), (19, .int .i64 S.length), (20, .int .i64 k)] a) (T3.noX (T3.mono (R' := fun a w => (0 ≤ k ∧ k < S.length) ∧ ∃ (v7 : Value) (Fs : List FlD), (CntI k Fs.length) ∧ (FiO B (b + 12 * (k : Int).toNat) w0 A1 m (1 + (k : Int).toNat) (.slice pL L.length c) v7 Fs w) ∧ Fr 105 [(0, .pointer (some ⟨B, 0, none⟩)), (5, .pointer (some ⟨A1, 0, none⟩)), (7, v7), (8, .map (some m)), (18, .slice p1 S.length c1), (19, .int .i64 S.length), (20, .int .i64 k)] a) (S' := fun a w => (0 ≤ k ∧ k < S.length) ∧ ∃ (v7 : Value) (Fs : List FlD), (CntI (k + 1) Fs.length) ∧ (FiO B (b + 12 * ((k + 1) : Int).toNat) w0 A1 m (1 + ((k + 1) : Int).toNat) (.slice pL L.length c) v7 Fs w) ∧ Fr 105 [(0, .pointer (some ⟨B, 0, none⟩)), (5, .pointer (some ⟨A1, 0, none⟩)), (7, v7), (8, .map (some m)), (18, .slice p1 S.length c1), (19, .int .i64 S.length), (20, .int .i64 k)] a) (fjb B b bs bx w0 ws w1 c1 c p1 pL S L hSl hL hS4 hL6 hb A1 m k) (fun a w ⟨hk, v7, Fs, hp, hI⟩ => ⟨v7, Fs, ⟨hk, hp⟩, hI⟩) (fun a w ⟨v7, Fs, ⟨hk, hp⟩, hI⟩ => ⟨hk, v7, Fs, hp, hI⟩) (fun _ _ q => q) (fun _ _ q => q))) ?_)
  · refine T3.cond (o := .tmp 21) (x := .skip) (y := .exit 0) (fun a w => k < S.length ∧ fjAI B b bs bx w0 ws w1 c1 c p1 pL S L hSl hL hS4 hL6 hb A1 m k a w) (fun a w => ¬ k < S.length ∧ fjAI B b bs bx w0 ws w1 c1 c p1 pL S L hSl hL hS4 hL6 hb A1 m k a w) ?_ (T3.skip ?_) (T3.exit ?_)
    · rintro a w ⟨q, hF, hq, hI⟩
      have he := hF.eval 21 (by decide) (v := .bool q) (by simp)
      cases q
      · exact .inr ⟨he, (fun h => by have := hq.2 h; cases this), hI⟩
      · exact .inl ⟨he, hq.1 rfl, hI⟩
    · rintro a w ⟨hlt, hk, hI⟩
      exact ⟨⟨hk.1, hlt⟩, hI⟩
    · rintro a w ⟨hlt, hk, hI⟩
      obtain rfl : k = S.length := by omega
      obtain ⟨v7, Fs, hl, hW, hF⟩ := hI
      have hb9 := hW.mono (b' := b + 48) (by omega)
      exact ⟨v7, Fs, by have := hl.h; omega, ⟨hb9.d, hb9.hB, hb9.o, hb9.z⟩, hF.sub (by simp)⟩
  · intro a w hx
    have hk := hx.1
    exact (((fjAn B b bs bx w0 ws w1 c1 c p1 pL S L hSl hL hS4 hL6 hb A1 m k).noX).post (fun a w q => ⟨ng_ - 1, by omega, k + 1, by omega, q⟩)) a w hx
end Go.Proofs.Ytnmdpphddimfbaa
/-
  As the schedules for regions that draw their order; here whatever holds of the worlds between may be said freely. No condition on a program.
-/
set_option linter.unusedVariables false
namespace Go.Bw
open Go.RowKit
open Classical in
/-- The worlds of which S holds. -/
noncomputable def wofS (w₁ : World) (S : World → Prop) (i : World) : World := if S i then i else w₁
theorem wofS_of {w₁ i : World} {S : World → Prop} (h : S i) : wofS w₁ S i = i := by unfold wofS; rw [if_pos h]
/-- The same value in every world of which S holds, and nothing else. -/
def Oper.heldS (P : Program) (w₁ : World) (S : World → Prop) (o : Oper) (a : Act) (next : Act → Prop) : Prop :=
  ∃ v, (∀ i, (execOp a.eval o).run P (wofS w₁ S i) = .ok (.value v) (wofS w₁ S i)) ∧ next (a.put o.dst v)
attribute [go_sem] Oper.heldS
section
variable {P : Program} {Q : Exit → Act → World → Prop} {S : World → Prop}
end
end Go.Bw
/-
  As the schedules for regions that draw their order; here any number of operations may come up in any order, and whatever holds of the worlds between may be said freely. No condition on a program.
-/
set_option linter.unusedVariables false
namespace Go.Bw
open Go.RowKit
/-- A schedule: a calm operation; the one that is left; one of several. -/
inductive Alt
  | done
  | calm (i : Nat) (r : Alt)
  | one (i : Nat) (r : Alt)
  | alt (i : Nat) (r s : Alt)
def Alt.len : Alt → Nat
  | .done => 0
  | .calm _ r => r.len + 1
  | .one _ r => r.len + 1
  | .alt _ r _ => r.len + 1
def Alt.heads : Alt → List Nat
  | .done => []
  | .calm _ _ => []
  | .one i _ => [i]
  | .alt i _ s => i :: s.heads
section
variable {P : Program} {Q : Exit → Act → World → Prop} {S : World → Prop} {md : Region.Mode}
def altB (md : Region.Mode) (ops : Array Oper) : Bool → Alt → Array Bool → Bool
  | h, .done, listed => h && (Region.ready md ops listed).isEmpty
  | h, .calm i r, listed => h && Region.free md ops listed i && (Region.ready md ops listed).contains i && altB md ops true r (listed.setIfInBounds i true)
  | h, .one i r, listed => (!h || decide (Region.ready md ops listed = [i])) && altB md ops true r (listed.setIfInBounds i true)
  | h, .alt i r s, listed => (!h || decide (Region.ready md ops listed = i :: s.heads)) && decide (s.len = r.len + 1) && altB md ops true r (listed.setIfInBounds i true) && altB md ops false s listed
def wpAlt (P : Program) (l : List Oper) (Q : Exit → Act → World → Prop) (S : World → Prop) : Alt → Act → World → Prop
  | .done, a, w => Q .normal a w
  | .calm i r, a, w => ∃ o, l[i]? = some o ∧ ∃ v, YieldsIf P l.toArray S o v a ∧ wpAlt P l Q S r (a.put o.dst v) w
  | .one i r, a, w => ∃ o, l[i]? = some o ∧ wpDo P l.toArray Q S o (wpAlt P l Q S r) a w
  | .alt i r s, a, w => (∃ o, l[i]? = some o ∧ wpDo P l.toArray Q S o (wpAlt P l Q S r) a w) ∧ wpAlt P l Q S s a w

theorem alt_HB {l : List Oper} (hs : Region.noSelect l.toArray = true) (hQ : ∀ c a d v w, Q (.panic c) (Act.put a d v) w → Q (.panic c) a w) :
    ∀ (c : Alt), (∀ (listed : Array Bool) (a : Act) (w : World), altB md l.toArray true c listed = true → S w → wpAlt P l Q S c a w → wpAnyH P md l.toArray Q S c.len listed a w) ∧
      (∀ (listed : Array Bool) (a : Act) (w : World), altB md l.toArray false c listed = true → S w → wpAlt P l Q S c a w → ∀ k ∈ c.heads, ∀ m, c.len = m + 1 → wpOp P l.toArray Q k (fun a' w' => S w' ∧ wpAnyH P md l.toArray Q S m (listed.setIfInBounds k true) a' w') a w)
  | .done => ⟨fun listed a w hB _ h => ⟨by simpa [altB] using hB, h⟩, fun listed a w _ _ _ k hk => by simp [Alt.heads] at hk⟩
  | .calm i r => ⟨fun listed a w hB hS h => by
      simp only [altB, Bool.true_and, Bool.and_eq_true] at hB
      obtain ⟨⟨hf, hr⟩, hB'⟩ := hB
      obtain ⟨o, ho, v, hy, hk⟩ := h
      exact wpAnyH_take (by simpa using ho) hs hf hr (fun c a w => hQ c a _ _ w) hy hS ((alt_HB hs hQ r).1 _ _ w hB' hS hk),
    fun listed a w _ _ _ k hk => by simp [Alt.heads] at hk⟩
  | .one i r => by
      have key : ∀ (listed : Array Bool) (a : Act) (w : World), altB md l.toArray true r (listed.setIfInBounds i true) = true → S w → wpAlt P l Q S (.one i r) a w → wpOp P l.toArray Q i (fun a' w' => S w' ∧ wpAnyH P md l.toArray Q S r.len (listed.setIfInBounds i true) a' w') a w := by
        intro listed a w hB _ h
        obtain ⟨o, ho, hk⟩ := h
        exact wpOp_mono (fun a' w' h' => ⟨h'.1, (alt_HB hs hQ r).1 _ a' w' hB h'.1 h'.2⟩) (sch_op ho hk)
      refine ⟨fun listed a w hB hS h => ?_, fun listed a w hB hS h k hk m hm => ?_⟩
      · simp only [altB, Bool.not_true, Bool.false_or, Bool.and_eq_true, decide_eq_true_eq] at hB
        refine wpAnyH_all hB.1 (by simp) fun j hj => ?_
        obtain rfl : j = i := by simpa using hj
        exact key listed a w hB.2 hS h
      · simp only [Alt.heads, List.mem_cons, List.mem_nil_iff, or_false] at hk
        subst hk
        simp only [altB, Bool.not_false, Bool.true_or, Bool.true_and] at hB
        simp only [Alt.len, Nat.add_right_cancel_iff] at hm
        subst hm
        exact key listed a w hB hS h
  | .alt i r s => by
      have key : ∀ (listed : Array Bool) (a : Act) (w : World), s.len = r.len + 1 → altB md l.toArray true r (listed.setIfInBounds i true) = true → altB md l.toArray false s listed = true → S w → wpAlt P l Q S (.alt i r s) a w → ∀ k ∈ i :: s.heads, wpOp P l.toArray Q k (fun a' w' => S w' ∧ wpAnyH P md l.toArray Q S r.len (listed.setIfInBounds k true) a' w') a w := by
        intro listed a w hl hB1 hB2 hS h k hk
        obtain ⟨⟨o, ho, h1⟩, h2⟩ := h
        rcases List.mem_cons.1 hk with rfl | hk
        · exact wpOp_mono (fun a' w' h' => ⟨h'.1, (alt_HB hs hQ r).1 _ a' w' hB1 h'.1 h'.2⟩) (sch_op ho h1)
        · exact (alt_HB hs hQ s).2 listed a w hB2 hS h2 k hk _ hl
      refine ⟨fun listed a w hB hS h => ?_, fun listed a w hB hS h k hk m hm => ?_⟩
      · simp only [altB, Bool.not_true, Bool.false_or, Bool.and_eq_true, decide_eq_true_eq] at hB
        obtain ⟨⟨⟨hr, hl⟩, hB1⟩, hB2⟩ := hB
        exact wpAnyH_all hr (by simp) fun k hk => key listed a w hl hB1 hB2 hS h k hk
      · simp only [altB, Bool.not_false, Bool.true_or, Bool.true_and, Bool.and_eq_true, decide_eq_true_eq] at hB
        obtain ⟨⟨hl, hB1⟩, hB2⟩ := hB
        simp only [Alt.len, Nat.add_right_cancel_iff] at hm
        subst hm
        exact key listed a w hl hB1 hB2 hS h k hk

theorem wp_region_alt {id : Nat} {a : Act} {w : World} {l : List Oper} (S : World → Prop) (c : Alt) (hm : P.follows .mixedOrders = true)
    (hB : (Region.noSelect l.toArray && altB .any l.toArray true c (Array.replicate l.length false) && decide (c.len = l.length)) = true)
    (hQ : ∀ c a d v w, Q (.panic c) (Act.put a d v) w → Q (.panic c) a w) (hS : S w.drew)
    (h : wpAlt P l Q S c a w.drew) : (Code.region id l.toArray true).wp P Q a w := by
  simp only [Bool.and_eq_true, decide_eq_true_eq] at hB
  obtain ⟨⟨hs, hc⟩, hlen⟩ := hB
  refine wp_region_held hm (S := S) ?_
  have := (alt_HB hs hQ c).1 (Array.replicate l.length false) a w.drew hc hS h
  rw [hlen] at this
  simpa using this
theorem alt_hide {w₁ : World} {l : List Oper} {c : Alt} {a : Act} {w : World}
    (h : ∀ W : Alt → Act → World → Prop,
      Hid (∀ i o r a w, l[i]? = some o → (∀ K : Act → Prop, (∀ a, W r a w → K a) → if Region.wanted o (yielded l.toArray a.tmps) then Oper.heldS P w₁ S o a K else K (a.put o.dst undef)) → W (.calm i r) a w) →
      Hid (∀ i o r a w, l[i]? = some o → Region.wanted o (yielded l.toArray a.tmps) = true → (∀ K : Act → World → Prop, Hid (∀ a w, S w → W r a w → K a w) → wpList P [bare o].toArray (Exit.then K Q) [bare o] a w) → W (.one i r) a w) →
      Hid (∀ i r s a w, W (.one i r) a w → W s a w → W (.alt i r s) a w) →
      Hid (∀ a w, Q .normal a w → W .done a w) → W c a w) : wpAlt P l Q S c a w := by
  refine h (wpAlt P l Q S) (Lib.hid fun i o r a w ho hk => ?_) (Lib.hid fun i o r a w ho hw hk => ?_) (Lib.hid fun i r s a w h1 h2 => ?_) (Lib.hid fun a w hk => hk)
  · have := hk _ (fun _ h => h)
    refine ⟨o, ho, ?_⟩
    split at this
    · rename_i hw
      obtain ⟨v, hv, hn⟩ := this
      exact ⟨v, .inl ⟨hw, fun w' hw' => by have := hv w'; rwa [wofS_of hw'] at this⟩, hn⟩
    · rename_i hw
      exact ⟨undef, .inr ⟨by simpa using hw, rfl⟩, this⟩
  · have := hk (fun a w => S w ∧ wpAlt P l Q S r a w) (Lib.hid fun _ _ h1 h2 => ⟨h1, h2⟩)
    unfold wpList at this
    rw [if_pos (show Region.wanted (bare o) (yielded [bare o].toArray a.tmps) = true from rfl)] at this
    refine ⟨o, ho, ?_⟩
    unfold wpDo
    rw [if_pos hw]
    rcases this with h1 | ⟨h1, h2⟩
    · exact .inl (wp_then h1)
    · exact .inr ⟨h1, h2⟩
  · exact ⟨h1, h2⟩
end
end Go.Bw
