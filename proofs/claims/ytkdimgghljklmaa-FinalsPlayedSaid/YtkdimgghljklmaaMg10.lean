/-
  Contracts and lemmas towards the statement, of several parts; each part says ahead of it what it holds and under which conditions.
-/
import Derived.Test.YtkdimgghljklmaaMg9
import Derived.Test.YtkdimgghljklmaaMg1
import Derived.Deep.Cut
import Derived.Test.YtkdimgghljklmaaMg5
import Derived.Test.YtkdimgghljklmaaMg4
/-
  A worth that the stream hands out. Conditions: the bounds that each theorem names.
-/
set_option linter.unusedVariables false
namespace Go.Proofs.Ytkdimgghljklmaa
open Go.RowKit Go.Bw
def encP (p : Int × Int) : List Value := [.int .i64 p.1, .int .i64 p.2]
def i64ok (n : Int) : Bool := decide (-9223372036854775808 ≤ n) && decide (n ≤ 9223372036854775807)
def worthL : List (Int × Int) := [(1, 1), (4, 1), (1, 25), (1, 2), (-2, 1), (0, 1), (7, 100)]
def worthO : List (Int × Int) := [(2, 4), (1, 3), (1, 0), (-1, -1), (1, 200), (10001, 1), (-9223372036854775808, 1), (1, 4611686018427387904), (0, 2)]
theorem worthL_ok : (worthL.all fun p => i64ok p.1 && i64ok p.2) = true := by decide +kernel
theorem worthO_ok : (worthO.all fun p => i64ok p.1 && i64ok p.2) = true := by decide +kernel
/-- A fraction within Go's numbers. -/
structure FracOk (p : Int × Int) : Prop where
  n0 : -9223372036854775808 ≤ p.1
  n1 : p.1 ≤ 9223372036854775807
  d0 : -9223372036854775808 ≤ p.2
  d1 : p.2 ≤ 9223372036854775807
theorem frac_ok {l : List (Int × Int)} (h : (l.all fun p => i64ok p.1 && i64ok p.2) = true) : ∀ p ∈ l, FracOk p := by
  intro p hp
  have := List.all_eq_true.1 h p hp
  simp only [i64ok, Bool.and_eq_true, decide_eq_true_eq] at this
  exact ⟨this.1.1, this.1.2, this.2.1, this.2.2⟩
theorem fr_cells {w : World} {g : Nat} {l : List (Int × Int)} {cs : List Value} (h : Blk w g cs) (hcs : cs = cellsOf encP l) (r : Int) (h0 : 0 ≤ r) (h1 : r < l.length) :
    w.cell? ⟨g, r.toNat * 2, none⟩ = some (.int .i64 (geta l r).1) ∧ w.cell? ⟨g, r.toNat * 2 + 1, none⟩ = some (.int .i64 (geta l r).2) := by
  subst hcs
  have e := geta_eq l r h0 h1
  refine ⟨h.2.1 (r.toNat * 2) _ ?_, h.2.1 (r.toNat * 2 + 1) _ ?_⟩
  · have := cellsOf_get encP 2 (fun _ => rfl) l r.toNat (by omega) 0 (by decide)
    rw [Nat.add_zero] at this
    rw [this, e]; rfl
  · rw [cellsOf_get encP 2 (fun _ => rfl) l r.toNat (by omega) 1 (by decide), e]; rfl
noncomputable def worthB : Code := (Try.f27.body).getD .skip
set_option maxRecDepth 100000 in
theorem frame33 (f : Nat → Value) : frame 33 f = ⟨#[f 0, f 1, f 2, f 3, f 4, f 5, f 6, f 7, f 8, f 9, f 10, f 11, f 12, f 13, f 14, f 15, f 16, f 17, f 18, f 19, f 20, f 21, f 22, f 23, f 24, f 25, f 26, f 27, f 28, f 29, f 30, f 31, f 32], []⟩ := by rfl

structure Wo (w0 : World) (B b g3 : Nat) (p : Int × Int) (w : World) : Prop where
  dr : Drawn B w0 w b
  hB : B < w0.heap.size
  h3 : w0.heap.size < g3
  res : Blk w w0.heap.size [.int .i64 0, .int .i64 0]
  fr : Blk w g3 (encP p)
  ok : FracOk p
set_option maxRecDepth 100000 in
set_option maxHeartbeats 1000000 in
theorem wo1 (w0 : World) (B b : Nat) (hb : b ≤ 100000) (hS : Str B w0 b) : T3 Try.prog (fun a w => w = w0.alloc (.cells #[.int .i64 0, .int .i64 0] 37) ∧ Fr 33 [(0, .pointer (some ⟨B, 0, none⟩)), (2, .pointer (some ⟨w0.heap.size, 0, none⟩))] a) (sel [1, 0] worthB) (fun a w => ∃ (g3 : Nat) (p : Int × Int), Wo w0 B (b + 1) g3 p w ∧ Fr 33 [(0, .pointer (some ⟨B, 0, none⟩)), (2, .pointer (some ⟨w0.heap.size, 0, none⟩)), (3, .pointer (some ⟨g3, 0, none⟩))] a) No 9 (fun a w => ∃ p : Int × Int, Fr 33 [(2, .pointer (some ⟨w0.heap.size, 0, none⟩))] a ∧ Blk w w0.heap.size (encP p) ∧ FracOk p ∧ Drawn B w0 w (b + 3)) := by
  refine T3.leaf ?_
  rintro Q JS JX JT K hS_ hK hX hE hT hR a w ⟨hw, ⟨f, rfl, q0, q2, _⟩⟩
  have hlt := hS.lt
  have hD0 := (Drawn.refl hS).alloc (.cells #[.int .i64 0, .int .i64 0] 37)
  have hR := Blk.new w0 #[.int .i64 0, .int .i64 0] 37
  have hsz : (w0.alloc (.cells #[.int .i64 0, .int .i64 0] 37)).heap.size = w0.heap.size + 1 := by simp
  rw [← hw] at hD0 hR hsz
  clear hw
  have hL := Blk.new w #[.int .i64 1, .int .i64 1, .int .i64 4, .int .i64 1, .int .i64 1, .int .i64 25, .int .i64 1, .int .i64 2, .int .i64 (-2), .int .i64 1, .int .i64 0, .int .i64 1, .int .i64 7, .int .i64 100] 37
  replace hD0 := hD0.alloc (.cells #[.int .i64 1, .int .i64 1, .int .i64 4, .int .i64 1, .int .i64 1, .int .i64 25, .int .i64 1, .int .i64 2, .int .i64 (-2), .int .i64 1, .int .i64 0, .int .i64 1, .int .i64 7, .int .i64 100] 37)
  replace hR := hR.alloc (.cells #[.int .i64 1, .int .i64 1, .int .i64 4, .int .i64 1, .int .i64 1, .int .i64 25, .int .i64 1, .int .i64 2, .int .i64 (-2), .int .i64 1, .int .i64 0, .int .i64 1, .int .i64 7, .int .i64 100] 37)
  have hsz2 : (w.alloc (.cells #[.int .i64 1, .int .i64 1, .int .i64 4, .int .i64 1, .int .i64 1, .int .i64 25, .int .i64 1, .int .i64 2, .int .i64 (-2), .int .i64 1, .int .i64 0, .int .i64 1, .int .i64 7, .int .i64 100] 37)).heap.size = w0.heap.size + 2 := by simp; omega
  have Hz := Lib.hid hsz
  have Hz2 := Lib.hid hsz2
  clear hsz hsz2
  rw [frame33, show f 0 = .pointer (some ⟨B, 0, none⟩) from q0, show f 2 = .pointer (some ⟨w0.heap.size, 0, none⟩) from q2]
  clear q0 q2
  conv => arg 2; whnf
  go_wp2_with fail
  generalize w.alloc (.cells #[.int .i64 1, .int .i64 1, .int .i64 4, .int .i64 1, .int .i64 1, .int .i64 25, .int .i64 1, .int .i64 2, .int .i64 (-2), .int .i64 1, .int .i64 0, .int .i64 1, .int .i64 7, .int .i64 100] 37) = W at *
  refine (next_d B _ 7 _ hD0.str (by decide) (by decide) (by omega)).mono ?_
  rintro e w1 ⟨r, rfl, hr0, hr1, hd⟩
  have hz := Hz.out
  have hz2 := Hz2.out
  replace hD0 := hD0.trans hd
  replace hR := hR.drawn hd (by omega)
  replace hL := hL.drawn hd (by omega)
  have hs1 := hd.size
  obtain ⟨c0, c1⟩ := fr_cells (l := worthL) hL rfl r hr0 hr1
  have hok := frac_ok worthL_ok _ (geta_mem hr0 hr1)
  clear hd hL hz hz2
  generalize geta worthL r = p at *
  go_wp2_with fail
  have hz := Hz.out
  have hz2 := Hz2.out
  refine Met.intro (hS_ _ _ ?_)
  exact ⟨w1.heap.size, p, ⟨hD0.alloc _, hlt, by omega, hR.alloc _, Blk.new w1 #[.int .i64 p.1, .int .i64 p.2] _, hok⟩, Fr.of _ rfl ⟨rfl, rfl, rfl, trivial⟩⟩

set_option maxRecDepth 100000 in
set_option maxHeartbeats 1000000 in
theorem wo2 (w0 : World) (B b : Nat) (hb : b ≤ 100000) : T3 Try.prog (fun a w => ∃ (g3 : Nat) (p : Int × Int), Wo w0 B (b + 1) g3 p w ∧ Fr 33 [(0, .pointer (some ⟨B, 0, none⟩)), (2, .pointer (some ⟨w0.heap.size, 0, none⟩)), (3, .pointer (some ⟨g3, 0, none⟩))] a) (sel [1, 1, 0, 0] worthB) (fun a w => ∃ q, ∃ (g3 : Nat) (p : Int × Int), Wo w0 B (b + 2) g3 p w ∧ Fr 33 ((17, .bool q) :: [(0, .pointer (some ⟨B, 0, none⟩)), (2, .pointer (some ⟨w0.heap.size, 0, none⟩)), (3, .pointer (some ⟨g3, 0, none⟩))]) a) No 9 (fun a w => ∃ p : Int × Int, Fr 33 [(2, .pointer (some ⟨w0.heap.size, 0, none⟩))] a ∧ Blk w w0.heap.size (encP p) ∧ FracOk p ∧ Drawn B w0 w (b + 3)) := by
  refine T3.leaf ?_
  rintro Q JS JX JT K hS hK hX hE hT hR a w ⟨g3, p, hA, ⟨f, rfl, q0, q2, q3, _⟩⟩
  rw [frame33, show f 0 = .pointer (some ⟨B, 0, none⟩) from q0, show f 2 = .pointer (some ⟨w0.heap.size, 0, none⟩) from q2, show f 3 = .pointer (some ⟨g3, 0, none⟩) from q3]
  clear q0 q2 q3
  conv => arg 2; whnf
  go_wp2_with (go_at_call 9; refine (flip_d B _ _ _ hA.dr.str rfl (by omega)).mono ?_; rintro e w1 ⟨q, rfl, hd⟩)
  have hB := hA.hB
  have h3 := hA.h3
  refine Met.intro (hS _ _ ?_)
  exact ⟨q, g3, p, ⟨hA.dr.trans hd, hB, h3, hA.res.drawn hd (by omega), hA.fr.drawn hd (by omega), hA.ok⟩, Fr.of _ rfl ⟨rfl, rfl, rfl, rfl, trivial⟩⟩

set_option maxRecDepth 100000 in
set_option maxHeartbeats 1000000 in
theorem wo3 (w0 : World) (B b : Nat) (hb : b ≤ 100000) : T3 Try.prog (fun a w => ∃ (g3 : Nat) (p : Int × Int), Wo w0 B (b + 2) g3 p w ∧ Fr 33 [(17, .bool true), (0, .pointer (some ⟨B, 0, none⟩)), (2, .pointer (some ⟨w0.heap.size, 0, none⟩)), (3, .pointer (some ⟨g3, 0, none⟩))] a) (sel [1, 1, 0, 1, 2] worthB) (fun a w => ∃ (g3 : Nat) (p : Int × Int), Wo w0 B (b + 3) g3 p w ∧ Fr 33 [(0, .pointer (some ⟨B, 0, none⟩)), (2, .pointer (some ⟨w0.heap.size, 0, none⟩)), (3, .pointer (some ⟨g3, 0, none⟩))] a) No 9 (fun a w => ∃ p : Int × Int, Fr 33 [(2, .pointer (some ⟨w0.heap.size, 0, none⟩))] a ∧ Blk w w0.heap.size (encP p) ∧ FracOk p ∧ Drawn B w0 w (b + 3)) := by
  refine T3.leaf ?_
  rintro Q JS JX JT K hS hK hX hE hT hR a w ⟨g3, p, hA, ⟨f, rfl, q17, q0, q2, q3, _⟩⟩
  have hB := hA.hB
  have h3 := hA.h3
  have hD := hA.dr.alloc (.cells #[.int .i64 2, .int .i64 4, .int .i64 1, .int .i64 3, .int .i64 1, .int .i64 0, .int .i64 (-1), .int .i64 (-1), .int .i64 1, .int .i64 200, .int .i64 10001, .int .i64 1, .int .i64 (-9223372036854775808), .int .i64 1, .int .i64 1, .int .i64 4611686018427387904, .int .i64 0, .int .i64 2] 37)
  have hR := hA.res.alloc (.cells #[.int .i64 2, .int .i64 4, .int .i64 1, .int .i64 3, .int .i64 1, .int .i64 0, .int .i64 (-1), .int .i64 (-1), .int .i64 1, .int .i64 200, .int .i64 10001, .int .i64 1, .int .i64 (-9223372036854775808), .int .i64 1, .int .i64 1, .int .i64 4611686018427387904, .int .i64 0, .int .i64 2] 37)
  have hF := hA.fr.alloc (.cells #[.int .i64 2, .int .i64 4, .int .i64 1, .int .i64 3, .int .i64 1, .int .i64 0, .int .i64 (-1), .int .i64 (-1), .int .i64 1, .int .i64 200, .int .i64 10001, .int .i64 1, .int .i64 (-9223372036854775808), .int .i64 1, .int .i64 1, .int .i64 4611686018427387904, .int .i64 0, .int .i64 2] 37)
  have hL := Blk.new w #[.int .i64 2, .int .i64 4, .int .i64 1, .int .i64 3, .int .i64 1, .int .i64 0, .int .i64 (-1), .int .i64 (-1), .int .i64 1, .int .i64 200, .int .i64 10001, .int .i64 1, .int .i64 (-9223372036854775808), .int .i64 1, .int .i64 1, .int .i64 4611686018427387904, .int .i64 0, .int .i64 2] 37
  have hs0 := hA.fr.1
  clear hA
  rw [frame33, show f 17 = .bool true from q17, show f 0 = .pointer (some ⟨B, 0, none⟩) from q0, show f 2 = .pointer (some ⟨w0.heap.size, 0, none⟩) from q2, show f 3 = .pointer (some ⟨g3, 0, none⟩) from q3]
  clear q17 q0 q2 q3
  conv => arg 2; whnf
  go_wp2_with fail
  generalize w.alloc (.cells #[.int .i64 2, .int .i64 4, .int .i64 1, .int .i64 3, .int .i64 1, .int .i64 0, .int .i64 (-1), .int .i64 (-1), .int .i64 1, .int .i64 200, .int .i64 10001, .int .i64 1, .int .i64 (-9223372036854775808), .int .i64 1, .int .i64 1, .int .i64 4611686018427387904, .int .i64 0, .int .i64 2] 37) = W at *
  refine (next_d B _ 9 _ hD.str (by decide) (by decide) (by omega)).mono ?_
  rintro e w1 ⟨r, rfl, hr0, hr1, hd⟩
  replace hD := hD.trans hd
  replace hR := hR.drawn hd (by omega)
  replace hF := hF.drawn hd (by omega)
  replace hL := hL.drawn hd (by omega)
  obtain ⟨c0, c1⟩ := fr_cells (l := worthO) hL rfl r hr0 hr1
  have hok := frac_ok worthO_ok _ (geta_mem hr0 hr1)
  have d0 := hF.2.1 0 _ rfl
  have d1 := hF.2.1 1 _ rfl
  have f0 := hF.2.2 0
  have f1 := hF.2.2 1
  clear hd hL
  generalize geta worthO r = p' at *
  go_wp2_with fail
  refine Met.intro (hS _ _ ?_)
  exact ⟨g3, p', ⟨(hD.set _ (by omega) (by omega)).set _ (by omega) (by omega), hB, h3, (hR.other _ (by omega)).other _ (by omega), (hF.set 0 (by simp [encP]) _).set 1 (by simp [encP]) _, hok⟩, Fr.of _ rfl ⟨rfl, rfl, rfl, trivial⟩⟩

set_option maxRecDepth 100000 in
set_option maxHeartbeats 1000000 in
theorem wo4 (w0 : World) (B b : Nat) (hb : b ≤ 100000) : T3 Try.prog (fun a w => ∃ (g3 : Nat) (p : Int × Int), Wo w0 B (b + 3) g3 p w ∧ Fr 33 [(0, .pointer (some ⟨B, 0, none⟩)), (2, .pointer (some ⟨w0.heap.size, 0, none⟩)), (3, .pointer (some ⟨g3, 0, none⟩))] a) (sel [1, 1, 1, 0] worthB) (fun a w => ∃ p : Int × Int, Fr 33 [(2, .pointer (some ⟨w0.heap.size, 0, none⟩))] a ∧ Blk w w0.heap.size (encP p) ∧ FracOk p ∧ Drawn B w0 w (b + 3)) No 9 (fun a w => ∃ p : Int × Int, Fr 33 [(2, .pointer (some ⟨w0.heap.size, 0, none⟩))] a ∧ Blk w w0.heap.size (encP p) ∧ FracOk p ∧ Drawn B w0 w (b + 3)) := by
  refine T3.leaf ?_
  rintro Q JS JX JT K hS hK hX hE hT hR a w ⟨g3, p, hA, ⟨f, rfl, q0, q2, q3, _⟩⟩
  have hB := hA.hB
  rw [frame33, show f 0 = .pointer (some ⟨B, 0, none⟩) from q0, show f 2 = .pointer (some ⟨w0.heap.size, 0, none⟩) from q2, show f 3 = .pointer (some ⟨g3, 0, none⟩) from q3]
  clear q0 q2 q3
  conv => arg 2; whnf
  have c0 := hA.fr.2.1 0 _ rfl
  have c1 := hA.fr.2.1 1 _ rfl
  have d0 := hA.res.2.1 0 _ rfl
  have d1 := hA.res.2.1 1 _ rfl
  have f0 := hA.res.2.2 0
  have f1 := hA.res.2.2 1
  go_wp2_with fail
  refine Met.intro (hS _ _ ?_)
  exact ⟨p, Fr.of _ rfl ⟨rfl, trivial⟩, (hA.res.set 0 (by simp) _).set 1 (by simp) _, hA.ok, (hA.dr.set _ (Nat.le_refl _) hB).set _ (Nat.le_refl _) hB⟩

set_option maxRecDepth 100000 in
set_option maxHeartbeats 1000000 in
theorem worth_any (B b : Nat) (w0 : World) (hS : Str B w0 b) (hb : b ≤ 100000) :
    Calls Try.prog 27 #[.pointer (some ⟨B, 0, none⟩)] w0 fun e w' => ∃ p : Int × Int, e = .returned (.agg #[.int .i64 p.1, .int .i64 p.2]) ∧ FracOk p ∧ Drawn B w0 w' (b + 3) := by
  go_enter Try.func27, Try.ntmps27
  refine T3.done (P := Try.prog) (s := worthB) (R := fun a w => w = w0 ∧ Fr 33 [(0, .pointer (some ⟨B, 0, none⟩))] a)
    (T3.seq (s := (sel [0] worthB)) (c := (sel [1] worthB)) ?_ (T3.seq (s := (sel [1, 0] worthB)) (c := (sel [1, 1] worthB)) (wo1 w0 B b hb hS) (T3.seq (s := (sel [1, 1, 0] worthB)) (c := (sel [1, 1, 1] worthB)) (T3.seq (s := (sel [1, 1, 0, 0] worthB)) (c := (sel [1, 1, 0, 1] worthB)) (wo2 w0 B b hb) ?_) (T3.seq (s := (sel [1, 1, 1, 0] worthB)) (c := .ret) (wo4 w0 B b hb) (T3.ret (fun _ _ h => h)))))) ⟨rfl, Fr.of _ rfl ⟨rfl, trivial⟩⟩ ?_
  · refine T3.leaf ?_
    rintro Q JS JX JT K hS_ hK hX hE hT hR a w ⟨hw, ⟨f, rfl, q0, _⟩⟩
    subst hw
    rw [frame33, show f 0 = _ from q0]
    clear q0
    conv => arg 2; whnf
    go_wp2_with fail
    refine Met.intro (hS_ _ _ ?_)
    exact ⟨rfl, Fr.of _ rfl ⟨rfl, rfl, trivial⟩⟩
  · refine T3.ex fun q => ?_
    refine T3.cond (o := .tmp 17) (x := (sel [1, 1, 0, 1, 2] worthB)) (y := .skip) (fun a w => q = true ∧ ∃ (g3 : Nat) (p : Int × Int), Wo w0 B (b + 2) g3 p w ∧ Fr 33 [(17, .bool true), (0, .pointer (some ⟨B, 0, none⟩)), (2, .pointer (some ⟨w0.heap.size, 0, none⟩)), (3, .pointer (some ⟨g3, 0, none⟩))] a) (fun a w => ∃ (g3 : Nat) (p : Int × Int), Wo w0 B (b + 2) g3 p w ∧ Fr 33 [(0, .pointer (some ⟨B, 0, none⟩)), (2, .pointer (some ⟨w0.heap.size, 0, none⟩)), (3, .pointer (some ⟨g3, 0, none⟩))] a) ?_ ((wo3 w0 B b hb).pre (fun a w h => h.2)) (T3.skip ?_)
    · rintro a w ⟨g3, p, hA, hF⟩
      have he := hF.eval 17 (by decide) (v := .bool q) (by simp)
      cases q
      · exact .inr ⟨he, g3, p, hA, hF.tail⟩
      · exact .inl ⟨he, rfl, g3, p, hA, hF⟩
    · rintro a w ⟨g3, p, hA, hF⟩
      exact ⟨g3, p, ⟨hA.dr.mono (by omega), hA.hB, hA.h3, hA.res, hA.fr, hA.ok⟩, hF⟩
  · rintro a w ⟨p, ⟨f, rfl, q2, _⟩, hR, hok, hd⟩
    rw [frame33, show f 2 = _ from q2]
    have r0 := hR.2.1 0 _ rfl
    have r1 := hR.2.1 1 _ rfl
    exact bodyPost_ret (v := .agg #[.int .i64 p.1, .int .i64 p.2]) (by simp [results, Try.results27, go_sem, r0, r1]) rfl ⟨p, rfl, hok, hd⟩

end Go.Proofs.Ytkdimgghljklmaa
/-
  Positions that the stream hands out. Conditions: the bounds that each theorem names.
-/
set_option linter.unusedVariables false
namespace Go.Bw
open Go.RowKit
/-- A row of strings that a call has made. -/
def SmAll (l : List ByteArray) : Prop := ∀ s ∈ l, Sm s
theorem SmAll.nil : SmAll [] := fun _ h => by cases h
theorem SmAll.snoc {l : List ByteArray} {s : ByteArray} (h : SmAll l) (hs : Sm s) : SmAll (l ++ [s]) := fun x hx => by
  rcases List.mem_append.1 hx with hx | hx
  · exact h x hx
  · rw [List.mem_singleton.1 hx]; exact hs
/-- What is held stays over a call of the stream. -/
theorem Held.drawn {n₀ B b sz n : Nat} {w w' : World} {v : Value} {cs : List Value} (h : Held n₀ B w sz n v cs) (d : Drawn n₀ w w' b) : Held n₀ B w' sz n v cs := h.str d.gr
theorem owns_drawn {w w' : World} {B b base e sz n : Nat} {v : Value} {xs : List Value} (h : w.ownsRow base e sz v n xs) (d : Drawn B w w' b) (hB : B < base) : w'.ownsRow base e sz v n xs := owns_str h d.gr hB
end Go.Bw
namespace Go.Proofs.Ytkdimgghljklmaa
open Go.RowKit Go.Bw

/-- Strings that a literal holds: the cells of a loop over it. -/
theorem lit_cell {w : World} {n₀ B n g c : Nat} {xs : List ByteArray} (h : Held n₀ B w 1 n (.slice (some ⟨g, 0, none⟩) n c) (cellsOf encSt xs)) (k : Int) (h0 : 0 ≤ k) (h1 : k < n) : w.cell? ⟨g, k.toNat, none⟩ = some (.string (geta xs k)) := by
  obtain ⟨hl, hc⟩ := h.row.els encSt_length (by decide)
  rcases hc with ⟨hv, _⟩ | ⟨b, off, cap, hv, _, _, _, _, hcell⟩
  · cases hv
  · simp only [Value.slice.injEq, Option.some.injEq, Addr.mk.injEq] at hv
    obtain ⟨⟨rfl, rfl, _⟩, _⟩ := hv
    have := hcell k h0 h1 0 _ rfl
    rwa [Nat.mul_one, Nat.add_zero, Nat.zero_add] at this

def spotL : List ByteArray := [⟨#[100, 102]⟩, ⟨#[102, 119]⟩, ⟨#[103, 107]⟩, ⟨#[109, 102]⟩]
def spotL3 : List ByteArray := [⟨#[100, 102]⟩, ⟨#[103, 107]⟩, ⟨#[109, 102]⟩]
theorem spotL_sm : SmAll spotL := by intro s hs; simp [spotL] at hs; rcases hs with rfl | rfl | rfl | rfl <;> decide
theorem spotL3_sm : SmAll spotL3 := by intro s hs; simp [spotL3] at hs; rcases hs with rfl | rfl | rfl <;> decide

theorem spotM_sm : SmAll [⟨#[]⟩, ⟨#[100, 102]⟩, ⟨#[97]⟩] := by intro s hs; simp at hs; rcases hs with rfl | rfl | rfl <;> decide

end Go.Proofs.Ytkdimgghljklmaa
/-
  Finals: rounds that the stream hands out (Finished), its head. Conditions: the bounds that each theorem names.
-/
set_option linter.unusedVariables false
namespace Go.Bw
open Go.RowKit
/-- A row of elements e that is only read; its block lies between the stream's and block M. -/
structure RHd (e : TypeId) (B M : Nat) (w : World) (n : Nat) (u : Value) (cs : List Value) : Prop where
  row : Row w 0 1 u n cs
  lt : ∀ k, u.ownBlock = some k → B < k ∧ k < M ∧ ∃ cur fz, w.heap[k]? = some (.cells cur e fz)
theorem RHd.grow {e : TypeId} {B M n : Nat} {w w' : World} {u : Value} {cs : List Value} {row : Option Nat} (h : RHd e B M w n u cs) (g : w.grownBy w' row) (hr : ∀ k, row = some k → u.ownBlock ≠ some k) : RHd e B M w' n u cs := by
  have key : ∀ k, u.ownBlock = some k → w'.heap[k]? = w.heap[k]? := fun k hk => by
    obtain ⟨_, _, cur, fz, hc⟩ := h.lt k hk
    exact g.block k (Array.getElem?_eq_some_iff.1 hc).1 (fun e => hr k e.symm hk)
  refine ⟨⟨h.row.1, ?_⟩, fun k hk => ?_⟩
  · rcases h.row.2 with h2 | ⟨b, off, cap, rfl, hb, hl, hn, hc, hcell⟩
    · exact .inl h2
    · refine .inr ⟨b, off, cap, rfl, hb, Nat.lt_of_lt_of_le hl g.size, hn, hc, fun i x hx => ?_⟩
      rw [World.cell?_of_block (w := w) (key b rfl)]
      exact hcell i x hx
  · obtain ⟨h1, h2, cur, fz, hc⟩ := h.lt k hk
    exact ⟨h1, h2, cur, fz, by rw [key k hk]; exact hc⟩
theorem RHd.of_owns {e : TypeId} {B base n : Nat} {w : World} {u : Value} {cs : List Value} (ho : w.ownsRow base e 1 u n cs) (hB : B < base) : RHd e B w.heap.size w n u cs := by
  refine ⟨(Row.of_owns ho).mono (Nat.zero_le _), fun k hk => ?_⟩
  rcases ho.2 with ⟨rfl, _⟩ | ⟨g, cap, cur, rfl, hb, hg, _⟩
  · simp [Value.ownBlock] at hk
  · simp [Value.ownBlock] at hk
    subst hk
    exact ⟨by omega, (Array.getElem?_eq_some_iff.1 hg).1, cur, _, hg⟩
section
variable {e e' : TypeId} {B M M' n m sz base b : Nat} {w w' : World} {u x : Value} {cs xs : List Value}
theorem RHd.str (h : RHd e B M w n u cs) (g : w.grownBy w' (some B)) : RHd e B M w' n u cs := h.grow g (fun k hk eq => by cases hk; have := (h.lt B eq).1; omega)
theorem RHd.under (h : RHd e B M w n u cs) (g : Below w.heap.size w w') : RHd e B M w' n u cs := h.grow (row := none) (grown_of_below g) (by simp)
theorem RHd.alloc (h : RHd e B M w n u cs) (o : Obj) : RHd e B M (w.alloc o) n u cs := h.grow (World.grownBy_alloc w o none) (by simp)
theorem RHd.mono (h : RHd e B M w n u cs) (hM : M ≤ M') : RHd e B M' w n u cs := ⟨h.row, fun k hk => by obtain ⟨a, b, c⟩ := h.lt k hk; exact ⟨a, Nat.lt_of_lt_of_le b hM, c⟩⟩
theorem RHd.own (h : RHd e B M w n u cs) (ho : w.ownsRow M e' sz x m xs) (g : w.grownBy w' x.ownBlock) : RHd e B M w' n u cs :=
  h.grow g (fun k hk eq => by have := (h.lt k eq).2.1; have := (ho.lt k hk).1; omega)
theorem RHd.other (h : RHd e B M w n u cs) (ho : w.ownsRow base e' sz x m xs) (he : e ≠ e') (g : w.grownBy w' x.ownBlock) : RHd e B M w' n u cs := by
  refine h.grow g (fun k hk eq => ?_)
  obtain ⟨_, _, cur, fz, hc⟩ := h.lt k eq
  rcases ho.2 with ⟨rfl, _⟩ | ⟨g', cap', cur', rfl, _, hg', _⟩
  · simp [Value.ownBlock] at hk
  · simp [Value.ownBlock] at hk
    subst hk
    rw [hc] at hg'
    simp at hg'
    exact he hg'.2.1
end
/-- Behind the first r of an own row. -/
theorem RHd.drop {e : TypeId} {B base n g cap r : Nat} {w : World} {cs : List Value} (ho : w.ownsRow base e 1 (.slice (some ⟨g, 0, none⟩) n cap) n cs) (hB : B < base) (hr : r ≤ n) : RHd e B w.heap.size w (n - r) (.slice (some ⟨g, r, none⟩) (n - r) (cap - r)) (cs.drop r) := by
  have hR := Row.of_owns ho
  obtain ⟨h1, h2⟩ := hR
  rcases ho.2 with ⟨h0, _⟩ | ⟨g', cap', cur, hv, hb, hg, _, _⟩
  · cases h0
  · simp only [Value.slice.injEq, Option.some.injEq, Addr.mk.injEq] at hv
    obtain ⟨⟨rfl, _⟩, _, rfl⟩ := hv
    refine ⟨⟨by rw [List.length_drop, h1]; omega, ?_⟩, fun k hk => ?_⟩
    · rcases h2 with ⟨h0, _⟩ | ⟨b, off, cap2, hv, hb2, hl, hn, hc, hcell⟩
      · cases h0
      · simp only [Value.slice.injEq, Option.some.injEq, Addr.mk.injEq] at hv
        obtain ⟨⟨rfl, rfl, _⟩, _, rfl⟩ := hv
        refine .inr ⟨g, r, cap - r, rfl, Nat.zero_le _, hl, by omega, by omega, fun i u hu => ?_⟩
        rw [List.getElem?_drop] at hu
        have := hcell (r + i) u hu
        rwa [Nat.zero_add] at this
    · simp [Value.ownBlock] at hk
      subst hk
      exact ⟨by omega, (Array.getElem?_eq_some_iff.1 hg).1, cur, _, hg⟩
/-- A store into an own row. -/
theorem owns_setV {w : World} {base e n g cap : Nat} {xs : List Value} (h : w.ownsRow base e 1 (.slice (some ⟨g, 0, none⟩) n cap) n xs) (i : Nat) (hi : i < n) (u : Value) :
    (w.setCell ⟨g, i, none⟩ u).ownsRow base e 1 (.slice (some ⟨g, 0, none⟩) n cap) n (xs.set i u) := by
  obtain ⟨h1, h2⟩ := h
  refine ⟨by simpa using h1, ?_⟩
  rcases h2 with ⟨h2, _⟩ | ⟨g', cap', cur, hv, hb, hg, hn, hc, hs, ht⟩
  · cases h2
  · simp only [Value.slice.injEq, Option.some.injEq, Addr.mk.injEq] at hv
    obtain ⟨⟨rfl, _⟩, _, rfl⟩ := hv
    refine .inr ⟨g, cap, cur.setIfInBounds i u, rfl, hb, ?_, hn, hc, by simpa using hs, ?_⟩
    · have hlt := (Array.getElem?_eq_some_iff.1 hg).1
      simp only [World.setCell, Array.getElem?_modify, if_true, hg, Option.map_some]
      rfl
    · rw [← ht, Array.toList_setIfInBounds]
      exact List.take_set.symm ▸ rfl
theorem owns_frozen {w : World} {base e n g cap : Nat} {xs : List Value} (h : w.ownsRow base e 1 (.slice (some ⟨g, 0, none⟩) n cap) n xs) (i : Nat) : w.frozen? ⟨g, i, none⟩ = false := by
  rcases h.2 with ⟨h2, _⟩ | ⟨g', cap', cur, hv, hb, hg, hn, hc, hs, ht⟩
  · cases h2
  · simp only [Value.slice.injEq, Option.some.injEq, Addr.mk.injEq] at hv
    obtain ⟨⟨rfl, _⟩, _, rfl⟩ := hv
    unfold World.frozen?
    rw [hg]
    simp
end Go.Bw
namespace Go.Proofs.Ytkdimgghljklmaa
open Go.RowKit Go.Bw
theorem cells_map (l : List ByteArray) : cellsOf encSt l = l.map Value.string := by
  induction l with
  | nil => rfl
  | cons x l ih => rw [cellsOf_cons, ih]; rfl
theorem clone_s (v : Value) (n : Nat) (l : List ByteArray) (base : Nat) (w : World) (h : Row w base 1 v n (cellsOf encSt l)) (hn : n ≤ 1000000) :
    Calls Try.prog 25 #[v] w fun e w' => ∃ v', e = .returned v' ∧ w'.ownsRow w.heap.size 9 1 v' n (cellsOf encSt l) ∧ Below w.heap.size w w' := by
  obtain ⟨hl, hc⟩ := h.els encSt_length (by decide)
  subst hl
  rcases hc with ⟨rfl, h0⟩ | ⟨b, off, cap, rfl, _, hbs, hnc, hcm, hcell⟩
  · refine (Try.slices_Clone_string_nil 0 0 w).mono ?_
    rintro e w' ⟨rfl, rfl⟩
    obtain rfl : l = [] := List.length_eq_zero_iff.1 h0
    exact ⟨_, rfl, World.ownsRow_nil _ _ _ _, Below.refl _ _⟩
  · refine (Try.slices_Clone_string b off l.length cap l w (Nat.le_refl _) (by omega) (fun j hj => ?_)).mono ?_
    · have := hcell (j : Int) (by omega) (by omega) 0 _ rfl
      rw [geta_eq l j (by omega) (by omega)] at this
      simpa [List.getD, hj] using this
    · rintro e w' ⟨v', rfl, ho, _, hb⟩
      rw [List.take_length] at ho
      refine ⟨v', rfl, ?_, hb⟩
      rw [cells_map]
      exact ho
theorem cells_drop (l : List ByteArray) (r : Nat) : (cellsOf encSt l).drop r = cellsOf encSt (l.drop r) := by rw [cells_map, cells_map, List.map_drop]
/-- What comes in. -/
structure FiH (B b : Nat) (w0 : World) (vt : Value) (ts : List ByteArray) : Prop where
  s : Str B w0 b
  h : Held B w0.heap.size w0 1 ts.length vt (cellsOf encSt ts)
  sm : SmAll ts
  tn : ts.length ≤ 1000
  hb : b ≤ 100000
theorem FiH.sd {B b : Nat} {w0 : World} {vt : Value} {ts : List ByteArray} (h : FiH B b w0 vt ts) : SdH w0 vt ts := ⟨h.h.row, fun s hs => (h.sm s hs).le, h.tn⟩
theorem se_len {ts : List ByteArray} (h : seedsE ts = 0) : 2 ≤ ts.length ∧ ts.length ≤ 20 := by
  unfold seedsE at h
  split at h
  · cases h
  · split at h
    · cases h
    · omega
def blL (ts : List ByteArray) : List Int := bracketL ts.length
theorem bl_pos0 : ((List.range 21).all fun k => (bracketL (k : Nat)).all fun p => decide (1 ≤ p)) = true := by decide +kernel
theorem bl_pos {ts : List ByteArray} (n20 : ts.length ≤ 20) {k : Int} (h0 : 0 ≤ k) (h1 : k < (blL ts).length) : 1 ≤ geti (blL ts) k := by
  have h := List.all_eq_true.1 (List.all_eq_true.1 bl_pos0 ts.length (by simp; omega)) (geti (blL ts) k) (by
    have : k.toNat < (blL ts).length := by omega
    show geti (blL ts) k ∈ blL ts
    simp [geti, this])
  exact of_decide_eq_true h
theorem bl_pow0 : ((List.range 21).all fun k => decide (k < 2) || (List.range 6).any fun m => decide (1 ≤ m) && decide ((bracketL (k : Nat)).length = 2 ^ m)) = true := by decide +kernel
theorem bl_pow {ts : List ByteArray} (h2 : 2 ≤ ts.length) (h20 : ts.length ≤ 20) : ∃ m, 1 ≤ m ∧ m ≤ 5 ∧ (blL ts).length = 2 ^ m := by
  have := List.all_eq_true.1 bl_pow0 ts.length (by simp; omega)
  rw [Bool.or_eq_true] at this
  rcases this with h | h
  · have := of_decide_eq_true h
    omega
  · obtain ⟨m, hm, hh⟩ := List.any_eq_true.1 h
    simp at hm hh
    exact ⟨m, hh.1, by omega, hh.2⟩
theorem bl_32 {ts : List ByteArray} (h2 : 2 ≤ ts.length) (h20 : ts.length ≤ 20) : 1 ≤ (blL ts).length ∧ (blL ts).length ≤ 32 := by
  obtain ⟨m, h1, h5, e⟩ := bl_pow h2 h20
  have := Nat.pow_le_pow_right (n := 2) (by decide) h5
  have := Nat.pow_pos (n := m) (show 0 < 2 by decide)
  omega
/-- Who is left so far. -/
structure Fi (B b : Nat) (w0 : World) (vt : Value) (ts : List ByteArray) (v5 : Value) (L : List ByteArray) (w : World) : Prop where
  d : Drawn B w0 w b
  hB : B < w0.heap.size
  h : Held B w0.heap.size w 1 ts.length vt (cellsOf encSt ts)
  own : w.ownsRow w0.heap.size 9 1 v5 L.length (cellsOf encSt L)
structure Fb (B b : Nat) (w0 : World) (vt : Value) (ts : List ByteArray) (v5 : Value) (L : List ByteArray) (v20 : Value) (w : World) : Prop where
  f : Fi B b w0 vt ts v5 L w
  br : w.ownsRow w0.heap.size 3 1 v20 (blL ts).length ((blL ts).map (.int .i64))
section
variable {B b : Nat} {w0 w w' : World} {vt v5 v' v20 : Value} {ts L : List ByteArray}
theorem Fi.alloc (h : Fi B b w0 vt ts v5 L w) (o : Obj) : Fi B b w0 vt ts v5 L (w.alloc o) := ⟨h.d.alloc o, h.hB, h.h.alloc o, h.own.alloc o⟩
theorem Fi.below (h : Fi B b w0 vt ts v5 L w) (g : Below w.heap.size w w') : Fi B b w0 vt ts v5 L w' := ⟨h.d.below g, h.hB, h.h.grow (row := none) (grown_of_below g) (by simp), owns_below h.own g (Nat.le_refl _)⟩
theorem Fi.app (h : Fi B b w0 vt ts v5 L w) {x : ByteArray} (ho : w'.ownsRow w0.heap.size 9 1 v' (L.length + 1) (cellsOf encSt L ++ [.string x])) (g : w.grownBy w' v5.ownBlock) : Fi B b w0 vt ts v' (L ++ [x]) w' :=
  ⟨h.d.app h.own (Nat.le_refl _) h.hB g, h.hB, h.h.app h.own g, by rw [cellsOf_snoc, List.length_append]; exact ho⟩
theorem Fb.alloc (h : Fb B b w0 vt ts v5 L v20 w) (o : Obj) : Fb B b w0 vt ts v5 L v20 (w.alloc o) := ⟨h.f.alloc o, h.br.alloc o⟩
theorem Fb.app (h : Fb B b w0 vt ts v5 L v20 w) {x : ByteArray} (ho : w'.ownsRow w0.heap.size 9 1 v' (L.length + 1) (cellsOf encSt L ++ [.string x])) (g : w.grownBy w' v5.ownBlock) : Fb B b w0 vt ts v' (L ++ [x]) v20 w' :=
  ⟨h.f.app ho g, own_app h.br h.f.own (by decide) g⟩
end
/-- How many, and how long. -/
structure LkS (k : Int) (L : List ByteArray) : Prop where
  n : (L.length : Int) = k
  sm : SmAll L
theorem LkS.snoc {k : Int} {L : List ByteArray} {x : ByteArray} (h : LkS k L) (hx : Sm x) : LkS (k + 1) (L ++ [x]) := ⟨by rw [List.length_append]; have := h.n; simp; omega, h.sm.snoc hx⟩
noncomputable def fiM : Code := (Try.f26.body).getD .skip
set_option maxRecDepth 100000 in
theorem fr_fiM (f : Nat → Value) : frame 105 f = ⟨#[f 0, f 1, f 2, f 3, f 4, f 5, f 6, f 7, f 8, f 9, f 10, f 11, f 12, f 13, f 14, f 15, f 16, f 17, f 18, f 19, f 20, f 21, f 22, f 23, f 24, f 25, f 26, f 27, f 28, f 29, f 30, f 31, f 32, f 33, f 34, f 35, f 36, f 37, f 38, f 39, f 40, f 41, f 42, f 43, f 44, f 45, f 46, f 47, f 48, f 49, f 50, f 51, f 52, f 53, f 54, f 55, f 56, f 57, f 58, f 59, f 60, f 61, f 62, f 63, f 64, f 65, f 66, f 67, f 68, f 69, f 70, f 71, f 72, f 73, f 74, f 75, f 76, f 77, f 78, f 79, f 80, f 81, f 82, f 83, f 84, f 85, f 86, f 87, f 88, f 89, f 90, f 91, f 92, f 93, f 94, f 95, f 96, f 97, f 98, f 99, f 100, f 101, f 102, f 103, f 104], []⟩ := by rfl
set_option maxRecDepth 100000 in
set_option maxHeartbeats 1000000 in
theorem fz0 (B b : Nat) (w0 : World) (vt : Value) (ts : List ByteArray) (h : FiH B b w0 vt ts) : T3 Try.prog (fun a w => (IsW w0 w) ∧ Fr 105 [(0, .pointer (some ⟨B, 0, none⟩)), (1, vt)] a) (sel [0] fiM) (fun a w => (IsW w0 w) ∧ Fr 105 [(0, .pointer (some ⟨B, 0, none⟩)), (1, vt)] a) No 9 No := by
  refine T3.leaf ?_
  rintro Q JS JX JT K hS hK hX hE hT hR a w ⟨hW, ⟨fr, rfl, q0, q1, _⟩⟩
  have HW := Lib.hid hW
  clear hW
  obtain ⟨p1, c1, hv1⟩ := h.h.slice
  subst hv1
  rw [fr_fiM, show fr 0 = _ from q0, show fr 1 = _ from q1]
  clear q0 q1
  conv => arg 2; whnf
  go_wp2_with fail
  refine Met.intro (hS _ _ ?_)
  exact ⟨HW.out, Fr.of _ rfl ⟨rfl, rfl, trivial⟩⟩

set_option maxRecDepth 100000 in
set_option maxHeartbeats 1000000 in
theorem fz1 (B b : Nat) (w0 : World) (vt : Value) (ts : List ByteArray) (h : FiH B b w0 vt ts) : T3 Try.prog (fun a w => (IsW w0 w) ∧ Fr 105 [(0, .pointer (some ⟨B, 0, none⟩)), (1, vt)] a) (sel [1, 0, 0] fiM) (fun a w => ∃ q, Fr 105 ((16, .bool q) :: [(0, .pointer (some ⟨B, 0, none⟩)), (1, vt)]) a ∧ ((q = (seedsE ts != 0)) ∧ IsW w0 w)) No 9 No := by
  refine T3.leaf ?_
  rintro Q JS JX JT K hS hK hX hE hT hR a w ⟨hW, ⟨fr, rfl, q0, q1, _⟩⟩
  obtain rfl : w = w0 := hW
  have HC := Lib.hid (seeds_ref w vt ts h.sd)
  obtain ⟨p1, c1, hv1⟩ := h.h.slice
  subst hv1
  generalize seedsE ts = es at *
  rw [fr_fiM, show fr 0 = _ from q0, show fr 1 = _ from q1]
  clear q0 q1
  conv => arg 2; whnf
  go_wp2_with fail
  refine HC.out.mono ?_
  rintro e w1 ⟨rfl, rfl⟩
  go_wp2_with fail
  refine Met.intro (hS _ _ ?_)
  exact ⟨_, Fr.of _ rfl ⟨rfl, rfl, rfl, trivial⟩, rfl, rfl⟩

set_option maxRecDepth 100000 in
set_option maxHeartbeats 1000000 in
theorem fz2 (B b : Nat) (w0 : World) (vt : Value) (ts : List ByteArray) (h : FiH B b w0 vt ts) : T3 Try.prog (fun a w => (IsW w0 w) ∧ Fr 105 [(0, .pointer (some ⟨B, 0, none⟩)), (1, vt)] a) (sel [1, 0, 1, 2, 0] fiM) (fun a w => (IsW w0 w) ∧ Fr 105 [(4, .slice none 0 0)] a) No 9 No := by
  refine T3.leaf ?_
  rintro Q JS JX JT K hS hK hX hE hT hR a w ⟨hW, ⟨fr, rfl, q0, q1, _⟩⟩
  have HW := Lib.hid hW
  clear hW
  obtain ⟨p1, c1, hv1⟩ := h.h.slice
  subst hv1
  rw [fr_fiM, show fr 0 = _ from q0, show fr 1 = _ from q1]
  clear q0 q1
  conv => arg 2; whnf
  go_wp2_with fail
  refine Met.intro (hS _ _ ?_)
  exact ⟨HW.out, Fr.of _ rfl ⟨rfl, trivial⟩⟩

set_option maxRecDepth 100000 in
set_option maxHeartbeats 1000000 in
theorem fz3 (B b : Nat) (w0 : World) (vt : Value) (ts : List ByteArray) (h : FiH B b w0 vt ts) : T3 Try.prog (fun a w => (IsW w0 w) ∧ Fr 105 [(0, .pointer (some ⟨B, 0, none⟩)), (1, vt)] a) (sel [1, 1, 0] fiM) (fun a w => ∃ (v5 : Value), (Fi B b w0 vt ts v5 [] w) ∧ Fr 105 [(0, .pointer (some ⟨B, 0, none⟩)), (1, vt), (5, v5)] a) No 9 No := by
  refine T3.leaf ?_
  rintro Q JS JX JT K hS hK hX hE hT hR a w ⟨hW, ⟨fr, rfl, q0, q1, _⟩⟩
  obtain rfl : w = w0 := hW
  obtain ⟨p1, c1, hv1⟩ := h.h.slice
  subst hv1
  have HF := Lib.hid (show Fi B b w (.slice p1 ts.length c1) ts (.slice (some ⟨w.heap.size, 0, none⟩) 0 0) [] (w.alloc (.cells #[] 9)) from ⟨(Drawn.refl h.s).alloc _, h.s.lt, h.h.alloc _, owns_lit w _ _ #[] 0 (by decide) rfl (Nat.le_refl _)⟩)
  rw [fr_fiM, show fr 0 = _ from q0, show fr 1 = _ from q1]
  clear q0 q1
  conv => arg 2; whnf
  go_wp2_with fail
  refine Met.intro (hS _ _ ?_)
  exact ⟨_, HF.out, Fr.of _ rfl ⟨rfl, rfl, rfl, trivial⟩⟩

set_option maxRecDepth 100000 in
set_option maxHeartbeats 1000000 in
theorem fz4 (B b : Nat) (w0 : World) (vt : Value) (ts : List ByteArray) (h : FiH B b w0 vt ts) (n2 : 2 ≤ ts.length) (n20 : ts.length ≤ 20) (v5 : Value) : T3 Try.prog (fun a w => (Fi B b w0 vt ts v5 [] w) ∧ Fr 105 [(0, .pointer (some ⟨B, 0, none⟩)), (1, vt), (5, v5)] a) (sel [1, 1, 1, 0, 0] fiM) (fun a w => ∃ v20 : Value, (0 ≤ (0 : Int) ∧ (0 : Int) ≤ (blL ts).length) ∧ ∃ (v5 : Value) (L : List ByteArray), (LkS 0 L) ∧ (Fb B b w0 vt ts v5 L v20 w) ∧ Fr 105 [(0, .pointer (some ⟨B, 0, none⟩)), (1, vt), (5, v5), (20, v20), (21, .int .i64 (blL ts).length), (22, .int .i64 0)] a) No 9 No := by
  refine T3.leaf ?_
  rintro Q JS JX JT K hS hK hX hE hT hR a w ⟨hW, ⟨fr, rfl, q0, q1, q5, _⟩⟩
  obtain ⟨p1, c1, hv1⟩ := h.h.slice
  subst hv1
  have HB := Lib.hid (bracket_any (ts.length : Int) w (by omega))
  have HW := Lib.hid hW
  obtain ⟨p5, c5, hv5⟩ := (Row.of_owns hW.own).shape
  subst hv5
  clear hW
  rw [fr_fiM, show fr 0 = _ from q0, show fr 1 = _ from q1, show fr 5 = _ from q5]
  clear q0 q1 q5
  conv => arg 2; whnf
  go_wp2_with fail
  refine HB.out.mono ?_
  rintro e w1 ⟨g, cap, rfl, ho, hb⟩
  have HF := Lib.hid (show Fb B b w0 _ ts _ [] _ w1 from ⟨HW.out.below hb, owns_mono ho HW.out.d.size⟩)
  clear ho hb
  go_wp2_with fail
  refine Met.intro (hS _ _ ?_)
  exact ⟨_, ⟨by omega, by omega⟩, _, [], ⟨by simp, SmAll.nil⟩, HF.out, Fr.of _ rfl ⟨rfl, rfl, rfl, rfl, rfl, rfl, trivial⟩⟩

set_option maxRecDepth 100000 in
set_option maxHeartbeats 1000000 in
theorem fz6 (B b : Nat) (w0 : World) (vt : Value) (ts : List ByteArray) (h : FiH B b w0 vt ts) (n2 : 2 ≤ ts.length) (n20 : ts.length ≤ 20) (v20 : Value) (k : Int) : T3 Try.prog (fun a w => ∃ (v5 : Value) (L : List ByteArray), ((0 ≤ k ∧ k < (blL ts).length) ∧ LkS k L) ∧ (Fb B b w0 vt ts v5 L v20 w) ∧ Fr 105 [(0, .pointer (some ⟨B, 0, none⟩)), (1, vt), (5, v5), (20, v20), (21, .int .i64 (blL ts).length), (22, .int .i64 k)] a) (sel [1, 1, 1, 0, 1, 4, 4, 1, 1, 0, 4, 0] fiM) (fun a w => ∃ (v5 : Value) (L : List ByteArray), ((0 ≤ k ∧ k < (blL ts).length) ∧ LkS k L) ∧ (Fb B b w0 vt ts v5 L v20 w) ∧ Fr 105 [(0, .pointer (some ⟨B, 0, none⟩)), (1, vt), (5, v5), (7, .int .i64 (geti (blL ts) k)), (20, v20), (21, .int .i64 (blL ts).length), (22, .int .i64 k)] a) No 9 No := by
  refine T3.leaf ?_
  rintro Q JS JX JT K hS hK hX hE hT hR a w ⟨v5, L, hpre, hW, ⟨fr, rfl, q0, q1, q5, q20, q21, q22, _⟩⟩
  have hpp := Lib.hid hpre
  obtain ⟨⟨hk0, hk1⟩, hl⟩ := hpre
  have HW := Lib.hid hW
  have h32 := bl_32 n2 n20
  obtain ⟨p5, c5, hv5⟩ := (Row.of_owns hW.f.own).shape
  subst hv5
  obtain ⟨p1, c1, hv1⟩ := hW.f.h.slice
  subst hv1
  obtain ⟨g20, c20, hv20, _, _, hn20, hm20⟩ := owns_shape hW.br (by omega)
  subst hv20
  simp only [maxLen] at hm20
  have t0 := ints_of_owns hW.br k hk0 hk1
  clear hW hl h
  generalize geti (blL ts) k = pp at *
  rw [fr_fiM, show fr 0 = _ from q0, show fr 1 = _ from q1, show fr 5 = _ from q5, show fr 20 = _ from q20, show fr 21 = _ from q21, show fr 22 = _ from q22]
  clear q0 q1 q5 q20 q21 q22
  conv => arg 2; whnf
  go_wp2_with fail
  refine Met.intro (hS _ _ ?_)
  exact ⟨_, L, hpp.out, HW.out, Fr.of _ rfl ⟨rfl, rfl, rfl, rfl, rfl, rfl, rfl, trivial⟩⟩

set_option maxRecDepth 100000 in
set_option maxHeartbeats 1000000 in
theorem fz7 (B b : Nat) (w0 : World) (vt : Value) (ts : List ByteArray) (h : FiH B b w0 vt ts) (n2 : 2 ≤ ts.length) (n20 : ts.length ≤ 20) (v20 : Value) (k : Int) (v5 : Value) (L : List ByteArray) : T3 Try.prog (fun a w => ((0 ≤ k ∧ k < (blL ts).length) ∧ LkS k L) ∧ (Fb B b w0 vt ts v5 L v20 w) ∧ Fr 105 [(0, .pointer (some ⟨B, 0, none⟩)), (1, vt), (5, v5), (7, .int .i64 (geti (blL ts) k)), (20, v20), (21, .int .i64 (blL ts).length), (22, .int .i64 k)] a) (sel [1, 1, 1, 0, 1, 4, 4, 1, 1, 0, 4, 1, 0] fiM) (fun a w => ((0 ≤ k ∧ k < (blL ts).length) ∧ LkS k L) ∧ (Fb B b w0 vt ts v5 L v20 w) ∧ Fr 105 [(0, .pointer (some ⟨B, 0, none⟩)), (1, vt), (5, v5), (7, .int .i64 (geti (blL ts) k)), (8, .string ⟨#[]⟩), (20, v20), (21, .int .i64 (blL ts).length), (22, .int .i64 k)] a) No 9 No := by
  refine T3.leaf ?_
  rintro Q JS JX JT K hS hK hX hE hT hR a w ⟨hpre, hW, ⟨fr, rfl, q0, q1, q5, q7, q20, q21, q22, _⟩⟩
  have hpp := Lib.hid hpre
  obtain ⟨⟨hk0, hk1⟩, hl⟩ := hpre
  have hpos := bl_pos n20 hk0 hk1
  have HW := Lib.hid hW
  have h32 := bl_32 n2 n20
  obtain ⟨p5, c5, hv5⟩ := (Row.of_owns hW.f.own).shape
  subst hv5
  obtain ⟨p1, c1, hv1⟩ := hW.f.h.slice
  subst hv1
  obtain ⟨g20, c20, hv20, _, _, hn20, hm20⟩ := owns_shape hW.br (by omega)
  subst hv20
  simp only [maxLen] at hm20
  clear hW hl
  generalize geti (blL ts) k = pp at *
  rw [fr_fiM, show fr 0 = _ from q0, show fr 1 = _ from q1, show fr 5 = _ from q5, show fr 7 = _ from q7, show fr 20 = _ from q20, show fr 21 = _ from q21, show fr 22 = _ from q22]
  clear q0 q1 q5 q7 q20 q21 q22
  conv => arg 2; whnf
  go_wp2_with fail
  refine Met.intro (hS _ _ ?_)
  exact ⟨hpp.out, HW.out, Fr.of _ rfl ⟨rfl, rfl, rfl, rfl, rfl, rfl, rfl, rfl, trivial⟩⟩

set_option maxRecDepth 100000 in
set_option maxHeartbeats 1000000 in
theorem fz8 (B b : Nat) (w0 : World) (vt : Value) (ts : List ByteArray) (h : FiH B b w0 vt ts) (n2 : 2 ≤ ts.length) (n20 : ts.length ≤ 20) (v20 : Value) (k : Int) (v5 : Value) (L : List ByteArray) : T3 Try.prog (fun a w => ((0 ≤ k ∧ k < (blL ts).length) ∧ LkS k L) ∧ (Fb B b w0 vt ts v5 L v20 w) ∧ Fr 105 [(0, .pointer (some ⟨B, 0, none⟩)), (1, vt), (5, v5), (7, .int .i64 (geti (blL ts) k)), (8, .string ⟨#[]⟩), (20, v20), (21, .int .i64 (blL ts).length), (22, .int .i64 k)] a) (sel [1, 1, 1, 0, 1, 4, 4, 1, 1, 0, 4, 1, 1, 0, 0] fiM) (fun a w => ∃ q, Fr 105 ((29, .bool q) :: [(0, .pointer (some ⟨B, 0, none⟩)), (1, vt), (5, v5), (7, .int .i64 (geti (blL ts) k)), (8, .string ⟨#[]⟩), (20, v20), (21, .int .i64 (blL ts).length), (22, .int .i64 k)]) a ∧ ((((0 ≤ k ∧ k < (blL ts).length) ∧ LkS k L) ∧ q = decide (geti (blL ts) k ≤ (ts.length : Int))) ∧ Fb B b w0 vt ts v5 L v20 w)) No 9 No := by
  refine T3.leaf ?_
  rintro Q JS JX JT K hS hK hX hE hT hR a w ⟨hpre, hW, ⟨fr, rfl, q0, q1, q5, q7, q8, q20, q21, q22, _⟩⟩
  have hpp := Lib.hid hpre
  obtain ⟨⟨hk0, hk1⟩, hl⟩ := hpre
  have hpos := bl_pos n20 hk0 hk1
  have HW := Lib.hid hW
  have h32 := bl_32 n2 n20
  obtain ⟨p5, c5, hv5⟩ := (Row.of_owns hW.f.own).shape
  subst hv5
  obtain ⟨p1, c1, hv1⟩ := hW.f.h.slice
  subst hv1
  obtain ⟨g20, c20, hv20, _, _, hn20, hm20⟩ := owns_shape hW.br (by omega)
  subst hv20
  simp only [maxLen] at hm20
  clear hW hl
  generalize geti (blL ts) k = pp at *
  rw [fr_fiM, show fr 0 = _ from q0, show fr 1 = _ from q1, show fr 5 = _ from q5, show fr 7 = _ from q7, show fr 8 = _ from q8, show fr 20 = _ from q20, show fr 21 = _ from q21, show fr 22 = _ from q22]
  clear q0 q1 q5 q7 q8 q20 q21 q22
  conv => arg 2; whnf
  go_wp2_with fail
  refine Met.intro (hS _ _ ?_)
  exact ⟨_, Fr.of _ rfl ⟨rfl, rfl, rfl, rfl, rfl, rfl, rfl, rfl, rfl, trivial⟩, ⟨hpp.out, rfl⟩, HW.out⟩

set_option maxRecDepth 100000 in
set_option maxHeartbeats 1000000 in
theorem fz9 (B b : Nat) (w0 : World) (vt : Value) (ts : List ByteArray) (h : FiH B b w0 vt ts) (n2 : 2 ≤ ts.length) (n20 : ts.length ≤ 20) (v20 : Value) (k : Int) (v5 : Value) (L : List ByteArray) (hle : geti (blL ts) k ≤ (ts.length : Int)) : T3 Try.prog (fun a w => ((0 ≤ k ∧ k < (blL ts).length) ∧ LkS k L) ∧ (Fb B b w0 vt ts v5 L v20 w) ∧ Fr 105 [(0, .pointer (some ⟨B, 0, none⟩)), (1, vt), (5, v5), (7, .int .i64 (geti (blL ts) k)), (8, .string ⟨#[]⟩), (20, v20), (21, .int .i64 (blL ts).length), (22, .int .i64 k)] a) (sel [1, 1, 1, 0, 1, 4, 4, 1, 1, 0, 4, 1, 1, 0, 1, 2] fiM) (fun a w => ∃ (x : ByteArray), (((0 ≤ k ∧ k < (blL ts).length) ∧ LkS k L) ∧ Sm x) ∧ (Fb B b w0 vt ts v5 L v20 w) ∧ Fr 105 [(0, .pointer (some ⟨B, 0, none⟩)), (1, vt), (5, v5), (7, .int .i64 (geti (blL ts) k)), (8, .string x), (20, v20), (21, .int .i64 (blL ts).length), (22, .int .i64 k)] a) No 9 No := by
  refine T3.leaf ?_
  rintro Q JS JX JT K hS hK hX hE hT hR a w ⟨hpre, hW, ⟨fr, rfl, q0, q1, q5, q7, q8, q20, q21, q22, _⟩⟩
  have hpp := Lib.hid hpre
  obtain ⟨⟨hk0, hk1⟩, hl⟩ := hpre
  have hpos := bl_pos n20 hk0 hk1
  have HW := Lib.hid hW
  have h32 := bl_32 n2 n20
  obtain ⟨p5, c5, hv5⟩ := (Row.of_owns hW.f.own).shape
  subst hv5
  obtain ⟨g20, c20, hv20, _⟩ := owns_shape hW.br (by omega)
  subst hv20
  obtain ⟨_, hcs⟩ := hW.f.h.row.els encSt_length (by decide)
  rcases hcs with ⟨rfl, h0⟩ | ⟨bz, off, cap, rfl, _, hbz, hnc, hcm, hcell⟩
  · omega
  have hsm := h.sm _ (geta_mem (l := ts) (i := geti (blL ts) k - 1) (by omega) (by omega))
  have t0 := hcell (geti (blL ts) k - 1) (by omega) (by omega) 0 _ rfl
  rw [Nat.mul_one, Nat.add_zero] at t0
  clear hcell hW hl h
  generalize geti (blL ts) k = pp at *
  have e1 : IntKind.i64.wrap (pp - 1) = pp - 1 := IntWalk.i64_in _ (by omega)
  have t1 := t0
  rw [show (pp - 1).toNat = pp.toNat - 1 by omega] at t1
  generalize geta ts (pp - 1) = x at *
  rw [fr_fiM, show fr 0 = _ from q0, show fr 1 = _ from q1, show fr 5 = _ from q5, show fr 7 = _ from q7, show fr 8 = _ from q8, show fr 20 = _ from q20, show fr 21 = _ from q21, show fr 22 = _ from q22]
  clear q0 q1 q5 q7 q8 q20 q21 q22
  conv => arg 2; whnf
  go_wp2_with fail
  refine Met.intro (hS _ _ ?_)
  exact ⟨x, ⟨hpp.out, hsm⟩, HW.out, Fr.of _ rfl ⟨rfl, rfl, rfl, rfl, rfl, rfl, rfl, rfl, trivial⟩⟩

set_option maxRecDepth 100000 in
set_option maxHeartbeats 1000000 in
theorem fz10 (B b : Nat) (w0 : World) (vt : Value) (ts : List ByteArray) (h : FiH B b w0 vt ts) (n2 : 2 ≤ ts.length) (n20 : ts.length ≤ 20) (v20 : Value) (k : Int) (v5 : Value) (L : List ByteArray) (x : ByteArray) : T3 Try.prog (fun a w => (((0 ≤ k ∧ k < (blL ts).length) ∧ LkS k L) ∧ Sm x) ∧ (Fb B b w0 vt ts v5 L v20 w) ∧ Fr 105 [(0, .pointer (some ⟨B, 0, none⟩)), (1, vt), (5, v5), (7, .int .i64 (geti (blL ts) k)), (8, .string x), (20, v20), (21, .int .i64 (blL ts).length), (22, .int .i64 k)] a) (sel [1, 1, 1, 0, 1, 4, 4, 1, 1, 0, 4, 1, 1, 1] fiM) (fun a w => ∃ (v5 : Value) (L : List ByteArray), ((0 ≤ k ∧ k < (blL ts).length) ∧ LkS (k + 1) L) ∧ (Fb B b w0 vt ts v5 L v20 w) ∧ Fr 105 [(0, .pointer (some ⟨B, 0, none⟩)), (1, vt), (5, v5), (20, v20), (21, .int .i64 (blL ts).length), (22, .int .i64 k)] a) No 9 No := by
  refine T3.leaf ?_
  rintro Q JS JX JT K hS hK hX hE hT hR a w ⟨hpre, hW, ⟨fr, rfl, q0, q1, q5, q7, q8, q20, q21, q22, _⟩⟩
  have hpp := Lib.hid hpre
  obtain ⟨⟨⟨hk0, hk1⟩, hl⟩, hx⟩ := hpre
  have h32 := bl_32 n2 n20
  have hln := hl.n
  have hE1 := el_str
  have hW0 := hW
  obtain ⟨p5, c5, hv5⟩ := (Row.of_owns hW.f.own).shape
  subst hv5
  obtain ⟨p1, c1, hv1⟩ := hW.f.h.slice
  subst hv1
  obtain ⟨g20, c20, hv20, _⟩ := owns_shape hW.br (by omega)
  subst hv20
  have hz := hW.f.d.size
  have hL : L.length ≤ 32 := by omega
  clear hln hW0 h
  generalize geti (blL ts) k = pp at *
  rw [fr_fiM, show fr 0 = _ from q0, show fr 1 = _ from q1, show fr 5 = _ from q5, show fr 7 = _ from q7, show fr 8 = _ from q8, show fr 20 = _ from q20, show fr 21 = _ from q21, show fr 22 = _ from q22]
  clear q0 q1 q5 q7 q8 q20 q21 q22
  conv => arg 2; whnf
  go_wp2_with (at_builtin; refine app_law rfl _ _ _ rfl hE1 (hW.f.own.alloc _) rfl [.string x] rfl rfl (cells_new w #[_] _) (by simp [Value.oneCell']) (by omega) (by simp; omega) ?_; intro v5' w2 hown2 hgr2; have h2 := (hW.alloc _).app hown2 hgr2)
  refine Met.intro (hS _ _ ?_)
  exact ⟨_, _, ⟨hpp.out.1.1, hpp.out.1.2.snoc hpp.out.2⟩, h2, Fr.of _ rfl ⟨rfl, rfl, rfl, rfl, rfl, rfl, trivial⟩⟩

set_option maxRecDepth 100000 in
set_option maxHeartbeats 1000000 in
theorem fzb (B b : Nat) (w0 : World) (vt : Value) (ts : List ByteArray) (h : FiH B b w0 vt ts) (n2 : 2 ≤ ts.length) (n20 : ts.length ≤ 20) (v20 : Value) (k : Int) : T3 Try.prog (fun a w => ∃ (v5 : Value) (L : List ByteArray), ((0 ≤ k ∧ k < (blL ts).length) ∧ LkS k L) ∧ (Fb B b w0 vt ts v5 L v20 w) ∧ Fr 105 [(0, .pointer (some ⟨B, 0, none⟩)), (1, vt), (5, v5), (20, v20), (21, .int .i64 (blL ts).length), (22, .int .i64 k)] a) (sel [1, 1, 1, 0, 1, 4, 4, 1, 1, 0] fiM) (fun a w => ∃ (v5 : Value) (L : List ByteArray), ((0 ≤ k ∧ k < (blL ts).length) ∧ LkS (k + 1) L) ∧ (Fb B b w0 vt ts v5 L v20 w) ∧ Fr 105 [(0, .pointer (some ⟨B, 0, none⟩)), (1, vt), (5, v5), (20, v20), (21, .int .i64 (blL ts).length), (22, .int .i64 k)] a) No 9 No := by
  refine T3.block (id' := 1) (c := (sel [1, 1, 1, 0, 1, 4, 4, 1, 1, 0, 4] fiM)) (by decide) ?_
  refine T3.seq (s := (sel [1, 1, 1, 0, 1, 4, 4, 1, 1, 0, 4, 0] fiM)) (c := (sel [1, 1, 1, 0, 1, 4, 4, 1, 1, 0, 4, 1] fiM)) (fz6 B b w0 vt ts h n2 n20 v20 k) (T3.ex fun v5 => T3.ex fun L => ?_)
  refine T3.seq (s := (sel [1, 1, 1, 0, 1, 4, 4, 1, 1, 0, 4, 1, 0] fiM)) (c := (sel [1, 1, 1, 0, 1, 4, 4, 1, 1, 0, 4, 1, 1] fiM)) (fz7 B b w0 vt ts h n2 n20 v20 k v5 L) ?_
  refine T3.seq (s := (sel [1, 1, 1, 0, 1, 4, 4, 1, 1, 0, 4, 1, 1, 0] fiM)) (c := (sel [1, 1, 1, 0, 1, 4, 4, 1, 1, 0, 4, 1, 1, 1] fiM)) (S := (fun a w => ∃ (x : ByteArray), (((0 ≤ k ∧ k < (blL ts).length) ∧ LkS k L) ∧ Sm x) ∧ (Fb B b w0 vt ts v5 L v20 w) ∧ Fr 105 [(0, .pointer (some ⟨B, 0, none⟩)), (1, vt), (5, v5), (7, .int .i64 (geti (blL ts) k)), (8, .string x), (20, v20), (21, .int .i64 (blL ts).length), (22, .int .i64 k)] a)) ?_ (T3.ex fun x => fz10 B b w0 vt ts h n2 n20 v20 k v5 L x)
  refine T3.test (s := (sel [1, 1, 1, 0, 1, 4, 4, 1, 1, 0, 4, 1, 1, 0, 0] fiM)) (x := (sel [1, 1, 1, 0, 1, 4, 4, 1, 1, 0, 4, 1, 1, 0, 1, 2] fiM)) (y := .skip) (C := fun q => (((0 ≤ k ∧ k < (blL ts).length) ∧ LkS k L) ∧ q = decide (geti (blL ts) k ≤ (ts.length : Int)))) (W := fun w => Fb B b w0 vt ts v5 L v20 w) (by decide) (fz8 B b w0 vt ts h n2 n20 v20 k v5 L) ?_ (T3.skip ?_)
  · refine T3.pre (R := fun a w => (geti (blL ts) k ≤ (ts.length : Int)) ∧ ((0 ≤ k ∧ k < (blL ts).length) ∧ LkS k L) ∧ (Fb B b w0 vt ts v5 L v20 w) ∧ Fr 105 [(0, .pointer (some ⟨B, 0, none⟩)), (1, vt), (5, v5), (7, .int .i64 (geti (blL ts) k)), (8, .string ⟨#[]⟩), (20, v20), (21, .int .i64 (blL ts).length), (22, .int .i64 k)] a) (T3.pure fun hle => fz9 B b w0 vt ts h n2 n20 v20 k v5 L hle) (fun a w q => ⟨of_decide_eq_true q.2.1.2.symm, q.2.1.1, q.2.2, q.1.tail⟩)
  · rintro a w ⟨⟨hk, _⟩, hW, hF⟩
    exact ⟨⟨#[]⟩, ⟨hk, by decide⟩, hW, hF⟩

def fjI (B b : Nat) (w0 : World) (vt : Value) (ts : List ByteArray) (h : FiH B b w0 vt ts) (n2 : 2 ≤ ts.length) (n20 : ts.length ≤ 20) (v20 : Value) (k : Int) (a : Act) (w : World) : Prop := (0 ≤ k ∧ k ≤ (blL ts).length) ∧ ∃ (v5 : Value) (L : List ByteArray), (LkS k L) ∧ (Fb B b w0 vt ts v5 L v20 w) ∧ Fr 105 [(0, .pointer (some ⟨B, 0, none⟩)), (1, vt), (5, v5), (20, v20), (21, .int .i64 (blL ts).length), (22, .int .i64 k)] a
set_option maxRecDepth 100000 in
set_option maxHeartbeats 1000000 in
theorem fjt (B b : Nat) (w0 : World) (vt : Value) (ts : List ByteArray) (h : FiH B b w0 vt ts) (n2 : 2 ≤ ts.length) (n20 : ts.length ≤ 20) (v20 : Value) (k : Int) : T3 Try.prog (fun a w => fjI B b w0 vt ts h n2 n20 v20 k a w) (sel [1, 1, 1, 0, 1, 4, 4, 0] fiM) (fun a w => ∃ q, Fr 105 ((23, .bool q) :: [(22, .int .i64 k)]) a ∧ ((q = true ↔ k < (blL ts).length) ∧ fjI B b w0 vt ts h n2 n20 v20 k a w)) No 9 No := by
  refine T3.leaf ?_
  rintro Q JS JX JT K hS hK hX hE hT hR a w ⟨hk, v5, L, hpre, hW, ⟨fr, rfl, q0, q1, q5, q20, q21, q22, _⟩⟩
  have h32 := bl_32 n2 n20
  rw [fr_fiM, show fr 0 = _ from q0, show fr 1 = _ from q1, show fr 5 = _ from q5, show fr 20 = _ from q20, show fr 21 = _ from q21, show fr 22 = _ from q22]
  clear q0 q1 q5 q20 q21 q22
  conv => arg 2; whnf
  by_cases hlt : k < (blL ts).length
  · go_wp2_with fail
    refine Met.intro (hS _ _ ?_)
    exact ⟨true, Fr.of _ rfl ⟨rfl, rfl, trivial⟩, ⟨fun _ => hlt, fun _ => rfl⟩, hk, v5, L, hpre, hW, Fr.of _ rfl ⟨rfl, rfl, rfl, rfl, rfl, rfl, trivial⟩⟩
  · have hpb : decide (k < ((blL ts).length)) = false := by simp; omega
    go_wp2_with fail
    refine Met.intro (hS _ _ ?_)
    exact ⟨false, Fr.of _ rfl ⟨rfl, rfl, trivial⟩, ⟨(fun h => by cases h), fun h => absurd h (by omega)⟩, hk, v5, L, hpre, hW, Fr.of _ rfl ⟨rfl, rfl, rfl, rfl, rfl, rfl, trivial⟩⟩

set_option maxRecDepth 100000 in
set_option maxHeartbeats 1000000 in
theorem fjn (B b : Nat) (w0 : World) (vt : Value) (ts : List ByteArray) (h : FiH B b w0 vt ts) (n2 : 2 ≤ ts.length) (n20 : ts.length ≤ 20) (v20 : Value) (k : Int) : T3 Try.prog (fun a w => (0 ≤ k ∧ k < (blL ts).length) ∧ ∃ (v5 : Value) (L : List ByteArray), (LkS (k + 1) L) ∧ (Fb B b w0 vt ts v5 L v20 w) ∧ Fr 105 [(0, .pointer (some ⟨B, 0, none⟩)), (1, vt), (5, v5), (20, v20), (21, .int .i64 (blL ts).length), (22, .int .i64 k)] a) (sel [1, 1, 1, 0, 1, 4, 4, 1, 1, 1] fiM) (fun a w => fjI B b w0 vt ts h n2 n20 v20 (k + 1) a w) No 9 No := by
  refine T3.leaf ?_
  rintro Q JS JX JT K hS hK hX hE hT hR a w ⟨hk, v5, L, hpre, hW, ⟨fr, rfl, q0, q1, q5, q20, q21, q22, _⟩⟩
  obtain ⟨hk0, hk1⟩ := hk
  have h32 := bl_32 n2 n20
  rw [fr_fiM, show fr 0 = _ from q0, show fr 1 = _ from q1, show fr 5 = _ from q5, show fr 20 = _ from q20, show fr 21 = _ from q21, show fr 22 = _ from q22]
  clear q0 q1 q5 q20 q21 q22
  conv => arg 2; whnf
  go_wp2_with fail
  refine Met.intro (hS _ _ ?_)
  exact ⟨⟨by omega, by omega⟩, v5, L, hpre, hW, Fr.of _ rfl ⟨rfl, rfl, rfl, rfl, rfl, rfl, trivial⟩⟩

set_option maxRecDepth 100000 in
set_option maxHeartbeats 1000000 in
theorem fjloop (B b : Nat) (w0 : World) (vt : Value) (ts : List ByteArray) (h : FiH B b w0 vt ts) (n2 : 2 ≤ ts.length) (n20 : ts.length ≤ 20) (v20 : Value) : T3 Try.prog (fun a w => fjI B b w0 vt ts h n2 n20 v20 0 a w) (sel [1, 1, 1, 0, 1] fiM) (fun a w => ∃ (v5 : Value) (L : List ByteArray), (LkS (blL ts).length L) ∧ (Fi B b w0 vt ts v5 L w) ∧ Fr 105 [(0, .pointer (some ⟨B, 0, none⟩)), (5, v5)] a) No 9 No := by
  refine T3.loop (c := (sel [1, 1, 1, 0, 1, 4, 4] fiM)) (fun ng_ a w => ∃ k : Int, (ng_ : Int) = (blL ts).length - k ∧ fjI B b w0 vt ts h n2 n20 v20 k a w) (fun a w h => ⟨((blL ts).length : Int).toNat, 0, by have := h.1.2; omega, h⟩) (fun ng_ => T3.ex fun k => T3.pure fun hng_ => ?_)
  refine T3.seq (s := (sel [1, 1, 1, 0, 1, 4, 4, 0] fiM)) (c := (sel [1, 1, 1, 0, 1, 4, 4, 1] fiM)) ((fjt B b w0 vt ts h n2 n20 v20 k).noX) ?_
  refine T3.seq (s := (sel [1, 1, 1, 0, 1, 4, 4, 1, 0] fiM)) (c := (sel [1, 1, 1, 0, 1, 4, 4, 1, 1] fiM)) (S := fun a w => (0 ≤ k ∧ k < (blL ts).length) ∧ ∃ (v5 : Value) (L : List ByteArray), (LkS k L) ∧ (Fb B b w0 vt ts v5 L v20 w) ∧ Fr 105 [(0, .pointer (some ⟨B, 0, none⟩)), (1, vt), (5, v5), (20, v20), (21, .int .i64 (blL ts).length), (22, .int .i64 k)] a) ?_ (T3.seq (s := (sel [1, 1, 1, 0, 1, 4, 4, 1, 1, 0] fiM)) (c := (sel [1, 1, 1, 0, 1, 4, 4, 1, 1, 1] fiM)) (S := fun a w => (0 ≤ k ∧ k < (blL ts).length) ∧ ∃ (v5 : Value) (L : List ByteArray), (LkS (k + 1) L) ∧ (Fb B b w0 vt ts v5 L v20 w) ∧ Fr 105 [(0, .pointer (some ⟨B, 0, none⟩)), (1, vt), (5, v5), (20, v20), (21, .int .i64 (blL ts).length), (22, .int .i64 k)] a) (T3.noX (T3.mono (R' := fun a w => (0 ≤ k ∧ k < (blL ts).length) ∧ ∃ (v5 : Value) (L : List ByteArray), (LkS k L) ∧ (Fb B b w0 vt ts v5 L v20 w) ∧ Fr 105 [(0, .pointer (some ⟨B, 0, none⟩)), (1, vt), (5, v5), (20, v20), (21, .int .i64 (blL ts).length), (22, .int .i64 k)] a) (S' := fun a w => (0 ≤ k ∧ k < (blL ts).length) ∧ ∃ (v5 : Value) (L : List ByteArray), (LkS (k + 1) L) ∧ (Fb B b w0 vt ts v5 L v20 w) ∧ Fr 105 [(0, .pointer (some ⟨B, 0, none⟩)), (1, vt), (5, v5), (20, v20), (21, .int .i64 (blL ts).length), (22, .int .i64 k)] a) (fzb B b w0 vt ts h n2 n20 v20 k) (fun a w ⟨hk, v5, L, hp, hI⟩ => ⟨v5, L, ⟨hk, hp⟩, hI⟩) (fun a w ⟨v5, L, ⟨hk, hp⟩, hI⟩ => ⟨hk, v5, L, hp, hI⟩) (fun _ _ q => q) (fun _ _ q => q))) ?_)
  · refine T3.cond (o := .tmp 23) (x := .skip) (y := .exit 0) (fun a w => k < (blL ts).length ∧ fjI B b w0 vt ts h n2 n20 v20 k a w) (fun a w => ¬ k < (blL ts).length ∧ fjI B b w0 vt ts h n2 n20 v20 k a w) ?_ (T3.skip ?_) (T3.exit ?_)
    · rintro a w ⟨q, hF, hq, hI⟩
      have he := hF.eval 23 (by decide) (v := .bool q) (by simp)
      cases q
      · exact .inr ⟨he, (fun h => by have := hq.2 h; cases this), hI⟩
      · exact .inl ⟨he, hq.1 rfl, hI⟩
    · rintro a w ⟨hlt, hk, hI⟩
      exact ⟨⟨hk.1, hlt⟩, hI⟩
    · rintro a w ⟨hlt, hk, hI⟩
      obtain rfl : k = (blL ts).length := by omega
      obtain ⟨v5, L, hl, hW, hF⟩ := hI
      exact ⟨v5, L, hl, hW.f, hF.sub (by simp)⟩
  · intro a w hx
    have hk := hx.1
    exact (((fjn B b w0 vt ts h n2 n20 v20 k).noX).post (fun a w q => ⟨ng_ - 1, by omega, k + 1, by omega, q⟩)) a w hx
end Go.Proofs.Ytkdimgghljklmaa
/-
  Finals: rounds that the stream hands out (Finished), its rounds. Conditions: the bounds that each theorem names.
-/
set_option linter.unusedVariables false
namespace Go.Proofs.Ytkdimgghljklmaa
open Go.RowKit Go.Bw
theorem el_ss : Elem Try.prog 53 26 (.slice none 0 0) 1 24 := ⟨by kernel_rfl, by kernel_rfl, by kernel_rfl, by decide, by decide⟩
theorem wsAt_app (rs : List (List ByteArray)) (N : List ByteArray) (k : Nat) : wsAt (rs ++ [N]) k = if k < rs.length then wsAt rs k else if k = rs.length then N else [] := by
  unfold wsAt
  rw [List.getD_eq_getElem?_getD, List.getD_eq_getElem?_getD]
  split
  · rename_i h
    rw [List.getElem?_append_left h]
  · rename_i h
    rw [List.getElem?_append_right (by omega)]
    split
    · rename_i h2
      rw [h2, Nat.sub_self]; rfl
    · rename_i h2
      have : 1 ≤ k - rs.length := by omega
      rw [List.getElem?_eq_none (by simpa using this)]
      rfl
/-- What is left, and what was played. -/
structure RoP (m c : Nat) (L : List ByteArray) (rs : List (List ByteArray)) : Prop where
  len : L.length = 2 ^ m
  sm : ∀ s ∈ L, s.size ≤ c
  cm : c * 2 ^ m ≤ 4000
  n : rs.length + m ≤ 5
  ne : 1 ≤ rs.length + m
  k : ∀ k, (wsAt rs k).length ≤ 32
  lo : ∀ k, k < rs.length → 1 ≤ (wsAt rs k).length
theorem RoP.c {m c : Nat} {L : List ByteArray} {rs : List (List ByteArray)} (h : RoP m c L rs) : c ≤ 4000 := by
  have := Nat.le_mul_of_pos_right c (Nat.pow_pos (n := m) (show 0 < 2 by decide))
  have := h.cm
  omega
theorem RoP.l32 {m c : Nat} {L : List ByteArray} {rs : List (List ByteArray)} (h : RoP m c L rs) : L.length ≤ 32 := by
  have := h.len
  have := Nat.pow_le_pow_right (n := 2) (by decide) (show m ≤ 5 by have := h.n; omega)
  omega
theorem RoP.next {m c : Nat} {L N : List ByteArray} {rs : List (List ByteArray)} (h : RoP (m + 1) c L rs) (hN : N.length = 2 ^ m) (hs : ∀ s ∈ N, s.size ≤ 2 * c) : RoP m (2 * c) N (rs ++ [N]) := by
  have hp := Nat.pow_le_pow_right (n := 2) (by decide) (show m ≤ 5 by have := h.n; omega)
  have hq := Nat.pow_pos (n := m) (show 0 < 2 by decide)
  refine ⟨hN, hs, ?_, by have := h.n; simp; omega, by rw [List.length_append]; simp; omega, fun k => ?_, fun k hk => ?_⟩
  · have := h.cm
    rw [Nat.pow_succ] at this
    rw [Nat.mul_comm 2 c, Nat.mul_assoc, Nat.mul_comm 2 (2 ^ m)]
    exact this
  · rw [wsAt_app]
    split
    · exact h.k k
    · split
      · omega
      · simp
  · rw [wsAt_app]
    split
    · rename_i h1
      exact h.lo k h1
    · rename_i h1
      rw [if_pos (by simp at hk; omega)]
      omega
theorem RoP.half {m c : Nat} {L : List ByteArray} {rs : List (List ByteArray)} (h : RoP m c L rs) (h1 : 1 < L.length) : ∃ m', m = m' + 1 := by
  cases m with
  | zero => have := h.len; simp at this; omega
  | succ m => exact ⟨m, rfl⟩
theorem RoP.start {ts L : List ByteArray} (n2 : 2 ≤ ts.length) (n20 : ts.length ≤ 20) (hl : LkS (blL ts).length L) : ∃ m, RoP m 100 L [] := by
  obtain ⟨m, h1, h5, e⟩ := bl_pow n2 n20
  have := hl.n
  have hp := Nat.pow_le_pow_right (n := 2) (by decide) h5
  exact ⟨m, ⟨by omega, hl.sm, by omega, by simp; omega, by simp; omega, fun k => by simp [wsAt], fun k hk => by simp at hk⟩⟩
/-- Ahead of a round. -/
structure Ro (B b : Nat) (w0 : World) (v5 : Value) (L : List ByteArray) (v9 : Value) (rs : List (List ByteArray)) (vs : List Value) (w : World) : Prop where
  d : Drawn B w0 w b
  hB : B < w0.heap.size
  l : RHd 9 B w.heap.size w L.length v5 (cellsOf encSt L)
  o : w.ownsRow w0.heap.size 26 1 v9 rs.length vs
  i : ∀ k u, vs[k]? = some u → RHd 9 B w.heap.size w (wsAt rs k).length u (cellsOf encSt (wsAt rs k))
/-- In a round: those behind it lie from block M on. -/
structure Rd (B M b : Nat) (w0 : World) (v5 : Value) (L : List ByteArray) (v9 : Value) (rs : List (List ByteArray)) (vs : List Value) (v10 : Value) (N : List ByteArray) (w : World) : Prop where
  d : Drawn B w0 w b
  hB : B < w0.heap.size
  hM : w0.heap.size ≤ M
  hMw : M ≤ w.heap.size
  l : RHd 9 B M w L.length v5 (cellsOf encSt L)
  o : w.ownsRow w0.heap.size 26 1 v9 rs.length vs
  i : ∀ k u, vs[k]? = some u → RHd 9 B M w (wsAt rs k).length u (cellsOf encSt (wsAt rs k))
  nx : w.ownsRow M 9 1 v10 N.length (cellsOf encSt N)
section
variable {B M b b' : Nat} {w0 w w' : World} {v5 v9 v10 v' : Value} {L N : List ByteArray} {rs : List (List ByteArray)} {vs : List Value}
theorem Ro.drawn (h : Ro B b w0 v5 L v9 rs vs w) (d : Drawn B w w' b') : Ro B b' w0 v5 L v9 rs vs w' :=
  ⟨h.d.trans d, h.hB, (h.l.str d.gr).mono d.size, owns_drawn h.o d h.hB, fun k u hu => ((h.i k u hu).str d.gr).mono d.size⟩
theorem Ro.mono (h : Ro B b w0 v5 L v9 rs vs w) (hb : b ≤ b') : Ro B b' w0 v5 L v9 rs vs w := ⟨h.d.mono hb, h.hB, h.l, h.o, h.i⟩
theorem Ro.round (h : Ro B b w0 v5 L v9 rs vs w) : Rd B w.heap.size b w0 v5 L v9 rs vs (.slice none 0 0) [] w := ⟨h.d, h.hB, h.d.size, Nat.le_refl _, h.l, h.o, h.i, World.ownsRow_nil _ _ _ _⟩
theorem Rd.drawn (h : Rd B M b w0 v5 L v9 rs vs v10 N w) (d : Drawn B w w' b') : Rd B M b' w0 v5 L v9 rs vs v10 N w' :=
  ⟨h.d.trans d, h.hB, h.hM, Nat.le_trans h.hMw d.size, h.l.str d.gr, owns_drawn h.o d h.hB, fun k u hu => (h.i k u hu).str d.gr, owns_drawn h.nx d (Nat.lt_of_lt_of_le h.hB h.hM)⟩
theorem Rd.mono (h : Rd B M b w0 v5 L v9 rs vs v10 N w) (hb : b ≤ b') : Rd B M b' w0 v5 L v9 rs vs v10 N w := ⟨h.d.mono hb, h.hB, h.hM, h.hMw, h.l, h.o, h.i, h.nx⟩
theorem Rd.alloc (h : Rd B M b w0 v5 L v9 rs vs v10 N w) (ob : Obj) : Rd B M b w0 v5 L v9 rs vs v10 N (w.alloc ob) :=
  ⟨h.d.alloc ob, h.hB, h.hM, by simp; have := h.hMw; omega, h.l.alloc ob, h.o.alloc ob, fun k u hu => (h.i k u hu).alloc ob, h.nx.alloc ob⟩
theorem Rd.app (h : Rd B M b w0 v5 L v9 rs vs v10 N w) {x : ByteArray} (ho : w'.ownsRow M 9 1 v' (N.length + 1) (cellsOf encSt N ++ [.string x])) (g : w.grownBy w' v10.ownBlock) : Rd B M b w0 v5 L v9 rs vs v' (N ++ [x]) w' :=
  ⟨h.d.app h.nx h.hM (Nat.lt_of_lt_of_le h.hB h.hM) g, h.hB, h.hM, Nat.le_trans h.hMw g.size, h.l.own h.nx g, own_app h.o h.nx (by decide) g, fun k u hu => (h.i k u hu).own h.nx g, by rw [cellsOf_snoc, List.length_append]; exact ho⟩
theorem Rd.next (h : Rd B M b w0 v5 L v9 rs vs v10 N w) (ho : w'.ownsRow w0.heap.size 26 1 v' (rs.length + 1) (vs ++ [v10])) (g : w.grownBy w' v9.ownBlock) : Ro B b w0 v10 N v' (rs ++ [N]) (vs ++ [v10]) w' := by
  have hl : RHd 9 B w'.heap.size w' N.length v10 (cellsOf encSt N) := ((RHd.of_owns h.nx (Nat.lt_of_lt_of_le h.hB h.hM)).other h.o (by decide) g).mono g.size
  refine ⟨h.d.app h.o (Nat.le_refl _) h.hB g, h.hB, hl, by rw [List.length_append]; exact ho, fun k u hu => ?_⟩
  have hvl : vs.length = rs.length := by have := h.o.1; omega
  rw [wsAt_app]
  by_cases hk : k < vs.length
  · rw [List.getElem?_append_left hk] at hu
    rw [if_pos (by omega)]
    exact ((h.i k u hu).other h.o (by decide) g).mono (Nat.le_trans h.hMw g.size)
  · rw [List.getElem?_append_right (by omega)] at hu
    have hk2 : k - vs.length = 0 := by
      have := (List.getElem?_eq_some_iff.1 hu).1
      simp at this
      omega
    rw [hk2] at hu
    simp at hu
    subst hu
    rw [if_neg (by omega), if_pos (by omega)]
    exact hl
end
/-- In a round: how many games have been played. -/
structure RdN (m c : Nat) (N : List ByteArray) (i : Int) : Prop where
  i2 : i = 2 * (N.length : Int)
  sm : ∀ s ∈ N, s.size ≤ 2 * c
  le : N.length ≤ 2 ^ m
theorem RdN.snoc {m c : Nat} {N : List ByteArray} {i : Int} {x : ByteArray} (h : RdN m c N i) (hx : x.size ≤ 2 * c) (hl : N.length + 1 ≤ 2 ^ m) : RdN m c (N ++ [x]) (i + 2) :=
  ⟨by rw [List.length_append]; have := h.i2; simp; omega, fun s hs => by rcases List.mem_append.1 hs with hs | hs; exact h.sm s hs; simp at hs; rw [hs]; exact hx, by simpa using hl⟩
theorem rd_lt {m c : Nat} {L N : List ByteArray} {rs : List (List ByteArray)} {i : Int} (h : RoP (m + 1) c L rs) (hn : RdN m c N i) (hi : i < L.length) : 0 ≤ i ∧ i + 1 < L.length ∧ N.length + 1 ≤ 2 ^ m ∧ N.length ≤ 32 := by
  have h1 := h.len
  have h2 := hn.i2
  have h3 := h.l32
  rw [Nat.pow_succ] at h1
  omega
theorem rd_end {m c : Nat} {L N : List ByteArray} {rs : List (List ByteArray)} {i : Int} (h : RoP (m + 1) c L rs) (hn : RdN m c N i) (hi : ¬ i < L.length) : N.length = 2 ^ m ∧ i ≤ 32 := by
  have h1 := h.len
  have h2 := hn.i2
  have h3 := hn.le
  have h4 := h.l32
  rw [Nat.pow_succ] at h1
  omega
set_option maxRecDepth 100000 in
set_option maxHeartbeats 1000000 in
theorem fz12 (B b : Nat) (w0 : World) (vt : Value) (ts : List ByteArray) (h : FiH B b w0 vt ts) (n2 : 2 ≤ ts.length) (n20 : ts.length ≤ 20) (v5 : Value) (L : List ByteArray) : T3 Try.prog (fun a w => (Fi B b w0 vt ts v5 L w) ∧ Fr 105 [(0, .pointer (some ⟨B, 0, none⟩)), (5, v5)] a) (sel [1, 1, 1, 1, 0] fiM) (fun a w => (Ro B b w0 v5 L (.slice none 0 0) [] [] w) ∧ Fr 105 [(0, .pointer (some ⟨B, 0, none⟩)), (5, v5), (9, .slice none 0 0)] a) No 9 No := by
  refine T3.leaf ?_
  rintro Q JS JX JT K hS hK hX hE hT hR a w ⟨hW, ⟨fr, rfl, q0, q5, _⟩⟩
  have HW := Lib.hid (show Ro B b w0 v5 L (.slice none 0 0) [] [] w from ⟨hW.d, hW.hB, RHd.of_owns hW.own hW.hB, World.ownsRow_nil _ _ _ _, fun k u hu => by simp at hu⟩)
  obtain ⟨p5, c5, hv5⟩ := (Row.of_owns hW.own).shape
  subst hv5
  clear hW h
  rw [fr_fiM, show fr 0 = _ from q0, show fr 5 = _ from q5]
  clear q0 q5
  conv => arg 2; whnf
  go_wp2_with fail
  refine Met.intro (hS _ _ ?_)
  exact ⟨HW.out, Fr.of _ rfl ⟨rfl, rfl, rfl, trivial⟩⟩

set_option maxRecDepth 100000 in
set_option maxHeartbeats 1000000 in
theorem fz13 (B b : Nat) (w0 : World) (hb : b ≤ 100000) (v5 : Value) (L : List ByteArray) (v9 : Value) (rs : List (List ByteArray)) (vs : List Value) : T3 Try.prog (fun a w => (Ro B (b + 32 * rs.length) w0 v5 L v9 rs vs w) ∧ Fr 105 [(0, .pointer (some ⟨B, 0, none⟩)), (5, v5), (9, v9)] a) (sel [1, 1, 1, 1, 1, 0, 4, 4, 0, 0] fiM) (fun a w => ∃ q, Fr 105 ((42, .bool q) :: [(0, .pointer (some ⟨B, 0, none⟩)), (5, v5), (9, v9)]) a ∧ ((q = decide ((1 : Int) < (L.length : Int))) ∧ Ro B (b + 32 * rs.length) w0 v5 L v9 rs vs w)) No 9 No := by
  refine T3.leaf ?_
  rintro Q JS JX JT K hS hK hX hE hT hR a w ⟨hW, ⟨fr, rfl, q0, q5, q9, _⟩⟩
  have HW := Lib.hid hW
  obtain ⟨p5, c5, hv5⟩ := hW.l.row.shape
  subst hv5
  obtain ⟨p9, c9, hv9⟩ := (Row.of_owns hW.o).shape
  subst hv9
  clear hW
  rw [fr_fiM, show fr 0 = _ from q0, show fr 5 = _ from q5, show fr 9 = _ from q9]
  clear q0 q5 q9
  conv => arg 2; whnf
  go_wp2_with fail
  refine Met.intro (hS _ _ ?_)
  exact ⟨_, Fr.of _ rfl ⟨rfl, rfl, rfl, rfl, trivial⟩, rfl, HW.out⟩

set_option maxRecDepth 100000 in
set_option maxHeartbeats 1000000 in
theorem fz14 (B b : Nat) (w0 : World) (hb : b ≤ 100000) (v5 : Value) (L : List ByteArray) (v9 : Value) (rs : List (List ByteArray)) (vs : List Value) (m c : Nat) (hp : RoP (m + 1) c L rs) : T3 Try.prog (fun a w => (Ro B (b + 32 * rs.length) w0 v5 L v9 rs vs w) ∧ Fr 105 [(0, .pointer (some ⟨B, 0, none⟩)), (5, v5), (9, v9)] a) (sel [1, 1, 1, 1, 1, 0, 4, 4, 1, 4, 0] fiM) (fun a w => ∃ (M : Nat), (Rd B M (b + 32 * rs.length + ((0 : Int)).toNat + 0) w0 v5 L v9 rs vs (.slice none 0 0) ([]) w) ∧ Fr 105 [(0, .pointer (some ⟨B, 0, none⟩)), (5, v5), (9, v9), (10, .slice none 0 0)] a) No 9 No := by
  refine T3.leaf ?_
  rintro Q JS JX JT K hS hK hX hE hT hR a w ⟨hW, ⟨fr, rfl, q0, q5, q9, _⟩⟩
  have HW := Lib.hid hW.round
  obtain ⟨p5, c5, hv5⟩ := hW.l.row.shape
  subst hv5
  obtain ⟨p9, c9, hv9⟩ := (Row.of_owns hW.o).shape
  subst hv9
  clear hW
  rw [fr_fiM, show fr 0 = _ from q0, show fr 5 = _ from q5, show fr 9 = _ from q9]
  clear q0 q5 q9
  conv => arg 2; whnf
  go_wp2_with fail
  refine Met.intro (hS _ _ ?_)
  exact ⟨_, HW.out, Fr.of _ rfl ⟨rfl, rfl, rfl, rfl, trivial⟩⟩

set_option maxRecDepth 100000 in
set_option maxHeartbeats 1000000 in
theorem fz15 (B b : Nat) (w0 : World) (hb : b ≤ 100000) (v5 : Value) (L : List ByteArray) (v9 : Value) (rs : List (List ByteArray)) (vs : List Value) (m c : Nat) (hp : RoP (m + 1) c L rs) (M : Nat) : T3 Try.prog (fun a w => (Rd B M (b + 32 * rs.length + ((0 : Int)).toNat + 0) w0 v5 L v9 rs vs (.slice none 0 0) ([]) w) ∧ Fr 105 [(0, .pointer (some ⟨B, 0, none⟩)), (5, v5), (9, v9), (10, .slice none 0 0)] a) (sel [1, 1, 1, 1, 1, 0, 4, 4, 1, 4, 1, 0, 0] fiM) (fun a w => (Rd B M (b + 32 * rs.length + ((0 : Int)).toNat + 0) w0 v5 L v9 rs vs (.slice none 0 0) ([]) w) ∧ Fr 105 [(0, .pointer (some ⟨B, 0, none⟩)), (5, v5), (9, v9), (10, .slice none 0 0), (11, .int .i64 0)] a) No 9 No := by
  refine T3.leaf ?_
  rintro Q JS JX JT K hS hK hX hE hT hR a w ⟨hW, ⟨fr, rfl, q0, q5, q9, q10, _⟩⟩
  have HW := Lib.hid hW
  obtain ⟨p5, c5, hv5⟩ := hW.l.row.shape
  subst hv5
  obtain ⟨p9, c9, hv9⟩ := (Row.of_owns hW.o).shape
  subst hv9
  clear hW
  rw [fr_fiM, show fr 0 = _ from q0, show fr 5 = _ from q5, show fr 9 = _ from q9, show fr 10 = _ from q10]
  clear q0 q5 q9 q10
  conv => arg 2; whnf
  go_wp2_with fail
  refine Met.intro (hS _ _ ?_)
  exact ⟨HW.out, Fr.of _ rfl ⟨rfl, rfl, rfl, rfl, rfl, trivial⟩⟩

set_option maxRecDepth 100000 in
set_option maxHeartbeats 1000000 in
theorem fz16 (B b : Nat) (w0 : World) (hb : b ≤ 100000) (v5 : Value) (L : List ByteArray) (v9 : Value) (rs : List (List ByteArray)) (vs : List Value) (m c : Nat) (hp : RoP (m + 1) c L rs) (M : Nat) (v10 : Value) (N : List ByteArray) (i : Int) : T3 Try.prog (fun a w => (Rd B M (b + 32 * rs.length + (i).toNat + 0) w0 v5 L v9 rs vs (v10) (N) w) ∧ Fr 105 [(0, .pointer (some ⟨B, 0, none⟩)), (5, v5), (9, v9), (10, v10), (11, .int .i64 i)] a) (sel [1, 1, 1, 1, 1, 0, 4, 4, 1, 4, 1, 0, 1, 4, 4, 0, 0] fiM) (fun a w => ∃ q, Fr 105 ((46, .bool q) :: [(0, .pointer (some ⟨B, 0, none⟩)), (5, v5), (9, v9), (10, v10), (11, .int .i64 i)]) a ∧ ((q = decide (i < (L.length : Int))) ∧ Rd B M (b + 32 * rs.length + (i).toNat + 0) w0 v5 L v9 rs vs (v10) (N) w)) No 9 No := by
  refine T3.leaf ?_
  rintro Q JS JX JT K hS hK hX hE hT hR a w ⟨hW, ⟨fr, rfl, q0, q5, q9, q10, q11, _⟩⟩
  have HW := Lib.hid hW
  obtain ⟨p5, c5, hv5⟩ := hW.l.row.shape
  subst hv5
  obtain ⟨p9, c9, hv9⟩ := (Row.of_owns hW.o).shape
  subst hv9
  obtain ⟨p10, c10, hv10⟩ := (Row.of_owns hW.nx).shape
  subst hv10
  clear hW
  rw [fr_fiM, show fr 0 = _ from q0, show fr 5 = _ from q5, show fr 9 = _ from q9, show fr 10 = _ from q10, show fr 11 = _ from q11]
  clear q0 q5 q9 q10 q11
  conv => arg 2; whnf
  go_wp2_with fail
  refine Met.intro (hS _ _ ?_)
  exact ⟨_, Fr.of _ rfl ⟨rfl, rfl, rfl, rfl, rfl, rfl, trivial⟩, rfl, HW.out⟩

set_option maxRecDepth 100000 in
set_option maxHeartbeats 1000000 in
theorem fz18 (B b : Nat) (w0 : World) (hb : b ≤ 100000) (v5 : Value) (L : List ByteArray) (v9 : Value) (rs : List (List ByteArray)) (vs : List Value) (m c : Nat) (hp : RoP (m + 1) c L rs) (M : Nat) (v10 : Value) (N : List ByteArray) (i : Int) (hn : RdN m c N i) (hi : i < L.length) : T3 Try.prog (fun a w => (Rd B M (b + 32 * rs.length + (i).toNat + 0) w0 v5 L v9 rs vs (v10) (N) w) ∧ Fr 105 [(0, .pointer (some ⟨B, 0, none⟩)), (5, v5), (9, v9), (10, v10), (11, .int .i64 i)] a) (sel [1, 1, 1, 1, 1, 0, 4, 4, 1, 4, 1, 0, 1, 4, 4, 1, 0, 4, 0] fiM) (fun a w => ∃ (x : ByteArray), (x.size ≤ c) ∧ (Rd B M (b + 32 * rs.length + (i).toNat + 1) w0 v5 L v9 rs vs (v10) (N) w) ∧ Fr 105 [(0, .pointer (some ⟨B, 0, none⟩)), (5, v5), (9, v9), (10, v10), (11, .int .i64 i), (12, .string x)] a) No 9 No := by
  refine T3.leaf ?_
  rintro Q JS JX JT K hS hK hX hE hT hR a w ⟨hW, ⟨fr, rfl, q0, q5, q9, q10, q11, _⟩⟩
  obtain ⟨hi0, hi1, hN1, hN2⟩ := rd_lt hp hn hi
  have hr5 := hp.n
  have hL32 := hp.l32
  have hsm := hp.sm
  have hHW := Lib.hid hW
  obtain ⟨p9, c9, hv9⟩ := (Row.of_owns hW.o).shape
  subst hv9
  obtain ⟨p10, c10, hv10⟩ := (Row.of_owns hW.nx).shape
  subst hv10
  obtain ⟨p5, c5, hv5⟩ := hW.l.row.shape
  subst hv5
  clear hp hn
  rw [fr_fiM, show fr 0 = _ from q0, show fr 5 = _ from q5, show fr 9 = _ from q9, show fr 10 = _ from q10, show fr 11 = _ from q11]
  clear q0 q5 q9 q10 q11
  conv => arg 2; whnf
  go_wp2_with fail
  refine (next_d B (b + 32 * rs.length + i.toNat + 0) 2 w hW.d.str (by omega) (by omega) (by omega)).mono ?_
  rintro e w1 ⟨r, rfl, hr0, hr1, hd⟩
  have hW1 := hHW.out.drawn hd
  have HW1 := Lib.hid hW1
  clear hW hd
  obtain ⟨_, hcs⟩ := hW1.l.row.els encSt_length (by decide)
  rcases hcs with ⟨hv, h0⟩ | ⟨bz, off, cap, hv, _, hbz, hnc, hcm, hcell⟩
  · omega
  simp only [Value.slice.injEq] at hv
  obtain ⟨rfl, _, rfl⟩ := hv
  have t0 := hcell (i + r) (by omega) (by omega) 0 _ rfl
  rw [Nat.mul_one, Nat.add_zero] at t0
  have hx := hsm _ (geta_mem (l := L) (i := i + r) (by omega) (by omega))
  clear hcell hW1 hsm
  generalize geta L (i + r) = x at *
  go_wp2_with fail
  refine Met.intro (hS _ _ ?_)
  exact ⟨x, hx, HW1.out.mono (by omega), Fr.of _ rfl ⟨rfl, rfl, rfl, rfl, rfl, rfl, trivial⟩⟩

set_option maxRecDepth 100000 in
set_option maxHeartbeats 1000000 in
theorem fz19 (B b : Nat) (w0 : World) (hb : b ≤ 100000) (v5 : Value) (L : List ByteArray) (v9 : Value) (rs : List (List ByteArray)) (vs : List Value) (m c : Nat) (hp : RoP (m + 1) c L rs) (M : Nat) (v10 : Value) (N : List ByteArray) (i : Int) (hn : RdN m c N i) (hi : i < L.length) (x : ByteArray) (hx : x.size ≤ c) : T3 Try.prog (fun a w => (Rd B M (b + 32 * rs.length + (i).toNat + 1) w0 v5 L v9 rs vs (v10) (N) w) ∧ Fr 105 [(0, .pointer (some ⟨B, 0, none⟩)), (5, v5), (9, v9), (10, v10), (11, .int .i64 i), (12, .string x)] a) (sel [1, 1, 1, 1, 1, 0, 4, 4, 1, 4, 1, 0, 1, 4, 4, 1, 0, 4, 1, 0, 0] fiM) (fun a w => ∃ q, Fr 105 ((62, .bool q) :: [(0, .pointer (some ⟨B, 0, none⟩)), (5, v5), (9, v9), (10, v10), (11, .int .i64 i), (12, .string x)]) a ∧ (True ∧ Rd B M (b + 32 * rs.length + (i).toNat + 2) w0 v5 L v9 rs vs (v10) (N) w)) No 9 No := by
  refine T3.leaf ?_
  rintro Q JS JX JT K hS hK hX hE hT hR a w ⟨hW, ⟨fr, rfl, q0, q5, q9, q10, q11, q12, _⟩⟩
  obtain ⟨hi0, hi1, hN1, hN2⟩ := rd_lt hp hn hi
  have hr5 := hp.n
  have hL32 := hp.l32
  have hHW := Lib.hid hW
  obtain ⟨p5, c5, hv5⟩ := hW.l.row.shape
  subst hv5
  obtain ⟨p9, c9, hv9⟩ := (Row.of_owns hW.o).shape
  subst hv9
  obtain ⟨p10, c10, hv10⟩ := (Row.of_owns hW.nx).shape
  subst hv10
  clear hp hn
  by_cases hx0 : x = ByteArray.empty
  · subst hx0
    rw [fr_fiM, show fr 0 = _ from q0, show fr 5 = _ from q5, show fr 9 = _ from q9, show fr 10 = _ from q10, show fr 11 = _ from q11, show fr 12 = _ from q12]
    clear q0 q5 q9 q10 q11 q12
    conv => arg 2; whnf
    go_wp2_with fail
    refine (flip_d B (b + 32 * rs.length + i.toNat + 1) 25 w hW.d.str rfl (by omega)).mono ?_
    rintro e w1 ⟨q, rfl, hd⟩
    have HW1 := Lib.hid (hHW.out.drawn hd)
    clear hW hd
    go_wp2_with fail
    refine Met.intro (hS _ _ ?_)
    exact ⟨_, Fr.of _ rfl ⟨rfl, rfl, rfl, rfl, rfl, rfl, rfl, trivial⟩, trivial, HW1.out.mono (by omega)⟩
  · have hx1 : (x.toList == ByteArray.empty.toList) = false := toList_ne hx0
    have hx2 : x.toList.isEmpty = false := by
      have hh := hx1
      rw [show ByteArray.empty.toList = [] by rw [ByteArray.toList_eq]; rfl] at hh
      cases hl : x.toList with
      | nil => rw [hl] at hh; exact absurd hh (by decide)
      | cons a b => rfl
    clear hx0 hW
    rw [fr_fiM, show fr 0 = _ from q0, show fr 5 = _ from q5, show fr 9 = _ from q9, show fr 10 = _ from q10, show fr 11 = _ from q11, show fr 12 = _ from q12]
    clear q0 q5 q9 q10 q11 q12
    conv => arg 2; whnf
    go_wp2_with fail
    refine Met.intro (hS _ _ ?_)
    exact ⟨_, Fr.of _ rfl ⟨rfl, rfl, rfl, rfl, rfl, rfl, rfl, trivial⟩, trivial, hHW.out.mono (by omega)⟩

set_option maxRecDepth 100000 in
set_option maxHeartbeats 1000000 in
theorem fz20 (B b : Nat) (w0 : World) (hb : b ≤ 100000) (v5 : Value) (L : List ByteArray) (v9 : Value) (rs : List (List ByteArray)) (vs : List Value) (m c : Nat) (hp : RoP (m + 1) c L rs) (M : Nat) (v10 : Value) (N : List ByteArray) (i : Int) (hn : RdN m c N i) (hi : i < L.length) (x : ByteArray) (hx : x.size ≤ c) : T3 Try.prog (fun a w => (Rd B M (b + 32 * rs.length + (i).toNat + 2) w0 v5 L v9 rs vs (v10) (N) w) ∧ Fr 105 [(0, .pointer (some ⟨B, 0, none⟩)), (5, v5), (9, v9), (10, v10), (11, .int .i64 i), (12, .string x)] a) (sel [1, 1, 1, 1, 1, 0, 4, 4, 1, 4, 1, 0, 1, 4, 4, 1, 0, 4, 1, 0, 1, 2] fiM) (fun a w => ∃ (y : ByteArray), (y.size ≤ 2 * c) ∧ (Rd B M (b + 32 * rs.length + (i).toNat + 2) w0 v5 L v9 rs vs (v10) (N) w) ∧ Fr 105 [(0, .pointer (some ⟨B, 0, none⟩)), (5, v5), (9, v9), (10, v10), (11, .int .i64 i), (12, .string y)] a) No 9 No := by
  refine T3.leafN ?_
  rintro JS hS a w ⟨hW, ⟨fr, rfl, q0, q5, q9, q10, q11, q12, _⟩⟩
  obtain ⟨hi0, hi1, hN1, hN2⟩ := rd_lt hp hn hi
  have hc := hp.c
  have hsm := hp.sm
  have hL32 := hp.l32
  have HW := Lib.hid (hW.drawn (Drawn.drewN (Drawn.refl hW.d.str) 1))
  obtain ⟨p9, c9, hv9⟩ := (Row.of_owns hW.o).shape
  subst hv9
  obtain ⟨p10, c10, hv10⟩ := (Row.of_owns hW.nx).shape
  subst hv10
  obtain ⟨_, hcs⟩ := hW.l.row.els encSt_length (by decide)
  rcases hcs with ⟨rfl, h0⟩ | ⟨bz, off, cap, rfl, _, hbz, hnc, hcm, hcell⟩
  · omega
  have t0 := hcell i (by omega) (by omega) 0 _ rfl
  have t1 := hcell (i + 1) (by omega) (by omega) 0 _ rfl
  rw [Nat.mul_one, Nat.add_zero] at t0 t1
  have hs0 := hsm _ (geta_mem (l := L) (i := i) (by omega) (by omega))
  have hs1 := hsm _ (geta_mem (l := L) (i := i + 1) (by omega) (by omega))
  clear hcell hW hsm hp hn
  generalize geta L i = x0 at *
  generalize geta L (i + 1) = x1 at *
  have hsz : (x0 ++ x1).size ≤ 2 * c := by rw [ByteArray.size_append]; omega
  have e1 : IntKind.i64.wrap (i + 1) = i + 1 := IntWalk.i64_in _ (by omega)
  have i10 : 0 ≤ i + 1 := by omega
  have s10 : ¬ (9223372036854775807 < x0.size + x1.size) := by omega
  rw [fr_fiM, show fr 0 = _ from q0, show fr 5 = _ from q5, show fr 9 = _ from q9, show fr 10 = _ from q10, show fr 11 = _ from q11, show fr 12 = _ from q12]
  clear q0 q5 q9 q10 q11 q12
  conv => arg 2; whnf
  refine wp_region_mix (none) [(true, 0), (true, 1), (true, 2), (true, 3), (true, 4), (true, 5), (true, 6), (true, 7), (true, 8), (true, 9), (true, 10)] (by kernel_rfl) (by kernel_rfl) (by intro c a d v w h; cases d <;> exact h) ?_
  simp only [pickFlat, List.filterMap_cons, List.filterMap_nil, List.getElem?_cons_succ, List.getElem?_cons_zero, Option.map_some]
  have A0 := wof_at (w₁ := w.drew) (row := none) (a := ⟨bz, off + i.toNat, none⟩) t0 (by simp)
  have A1 := wof_at (w₁ := w.drew) (row := none) (a := ⟨bz, off + (i + 1).toNat, none⟩) t1 (by simp)
  refine flat_hide (fun W hH hC hN hE => ?_)
  iterate 11 (refine hH.out _ _ _ _ (fun K hK => ?_); go_simp; refine hK _ ?_; clear hK K)
  refine hE.out _ _ ?_
  clear hH hC hN hE W
  show JS _ _
  refine hS _ _ ?_
  exact ⟨_, hsz, HW.out, Fr.of _ rfl ⟨rfl, rfl, rfl, rfl, rfl, rfl, trivial⟩⟩

set_option maxRecDepth 100000 in
set_option maxHeartbeats 1000000 in
theorem fz21 (B b : Nat) (w0 : World) (hb : b ≤ 100000) (v5 : Value) (L : List ByteArray) (v9 : Value) (rs : List (List ByteArray)) (vs : List Value) (m c : Nat) (hp : RoP (m + 1) c L rs) (M : Nat) (v10 : Value) (N : List ByteArray) (i : Int) (hn : RdN m c N i) (hi : i < L.length) (y : ByteArray) (hy : y.size ≤ 2 * c) : T3 Try.prog (fun a w => (Rd B M (b + 32 * rs.length + (i).toNat + 2) w0 v5 L v9 rs vs (v10) (N) w) ∧ Fr 105 [(0, .pointer (some ⟨B, 0, none⟩)), (5, v5), (9, v9), (10, v10), (11, .int .i64 i), (12, .string y)] a) (sel [1, 1, 1, 1, 1, 0, 4, 4, 1, 4, 1, 0, 1, 4, 4, 1, 0, 4, 1, 1] fiM) (fun a w => ∃ (v10' : Value), (Rd B M (b + 32 * rs.length + i.toNat + 2) w0 v5 L v9 rs vs v10' (N ++ [y]) w) ∧ Fr 105 [(0, .pointer (some ⟨B, 0, none⟩)), (5, v5), (9, v9), (10, v10'), (11, .int .i64 i)] a) No 9 No := by
  refine T3.leaf ?_
  rintro Q JS JX JT K hS hK hX hE hT hR a w ⟨hW, ⟨fr, rfl, q0, q5, q9, q10, q11, q12, _⟩⟩
  obtain ⟨hi0, hi1, hN1, hN2⟩ := rd_lt hp hn hi
  have hE1 := el_str
  have hz := hW.hMw
  obtain ⟨p5, c5, hv5⟩ := hW.l.row.shape
  subst hv5
  obtain ⟨p9, c9, hv9⟩ := (Row.of_owns hW.o).shape
  subst hv9
  obtain ⟨p10, c10, hv10⟩ := (Row.of_owns hW.nx).shape
  subst hv10
  clear hp hn hy
  rw [fr_fiM, show fr 0 = _ from q0, show fr 5 = _ from q5, show fr 9 = _ from q9, show fr 10 = _ from q10, show fr 11 = _ from q11, show fr 12 = _ from q12]
  clear q0 q5 q9 q10 q11 q12
  conv => arg 2; whnf
  go_wp2_with (at_builtin; refine app_law rfl _ _ _ rfl hE1 (hW.nx.alloc _) rfl [.string y] rfl rfl (cells_new w #[_] _) (by simp [Value.oneCell']) (by omega) (by simp; omega) ?_; intro v5' w2 hown2 hgr2; have h2 := (hW.alloc _).app hown2 hgr2)
  refine Met.intro (hS _ _ ?_)
  exact ⟨_, h2, Fr.of _ rfl ⟨rfl, rfl, rfl, rfl, rfl, trivial⟩⟩

set_option maxRecDepth 100000 in
set_option maxHeartbeats 1000000 in
theorem fz17 (B b : Nat) (w0 : World) (hb : b ≤ 100000) (v5 : Value) (L : List ByteArray) (v9 : Value) (rs : List (List ByteArray)) (vs : List Value) (m c : Nat) (hp : RoP (m + 1) c L rs) (M : Nat) (v10 : Value) (N : List ByteArray) (i : Int) (hi0 : 0 ≤ i) (hi1 : i < 1000) : T3 Try.prog (fun a w => (Rd B M (b + 32 * rs.length + i.toNat + 2) w0 v5 L v9 rs vs v10 N w) ∧ Fr 105 [(0, .pointer (some ⟨B, 0, none⟩)), (5, v5), (9, v9), (10, v10), (11, .int .i64 i)] a) (sel [1, 1, 1, 1, 1, 0, 4, 4, 1, 4, 1, 0, 1, 4, 4, 1, 1] fiM) (fun a w => (Rd B M (b + 32 * rs.length + (i + 2).toNat + 0) w0 v5 L v9 rs vs (v10) (N) w) ∧ Fr 105 [(0, .pointer (some ⟨B, 0, none⟩)), (5, v5), (9, v9), (10, v10), (11, .int .i64 (i + 2))] a) No 9 No := by
  refine T3.leaf ?_
  rintro Q JS JX JT K hS hK hX hE hT hR a w ⟨hW, ⟨fr, rfl, q0, q5, q9, q10, q11, _⟩⟩
  have HW := Lib.hid hW
  obtain ⟨p5, c5, hv5⟩ := hW.l.row.shape
  subst hv5
  obtain ⟨p9, c9, hv9⟩ := (Row.of_owns hW.o).shape
  subst hv9
  obtain ⟨p10, c10, hv10⟩ := (Row.of_owns hW.nx).shape
  subst hv10
  clear hW
  rw [fr_fiM, show fr 0 = _ from q0, show fr 5 = _ from q5, show fr 9 = _ from q9, show fr 10 = _ from q10, show fr 11 = _ from q11]
  clear q0 q5 q9 q10 q11
  conv => arg 2; whnf
  go_wp2_with fail
  refine Met.intro (hS _ _ ?_)
  exact ⟨HW.out.mono (by omega), Fr.of _ rfl ⟨rfl, rfl, rfl, rfl, rfl, trivial⟩⟩

set_option maxRecDepth 100000 in
set_option maxHeartbeats 1000000 in
theorem fzc (B b : Nat) (w0 : World) (hb : b ≤ 100000) (v5 : Value) (L : List ByteArray) (v9 : Value) (rs : List (List ByteArray)) (vs : List Value) (m c : Nat) (hp : RoP (m + 1) c L rs) (M : Nat) (v10 : Value) (N : List ByteArray) (i : Int) (hn : RdN m c N i) (hi : i < L.length) : T3 Try.prog (fun a w => (Rd B M (b + 32 * rs.length + (i).toNat + 0) w0 v5 L v9 rs vs (v10) (N) w) ∧ Fr 105 [(0, .pointer (some ⟨B, 0, none⟩)), (5, v5), (9, v9), (10, v10), (11, .int .i64 i)] a) (sel [1, 1, 1, 1, 1, 0, 4, 4, 1, 4, 1, 0, 1, 4, 4, 1, 0] fiM) (fun a w => ∃ (v10 : Value) (N : List ByteArray), RdN m c N (i + 2) ∧ (Rd B M (b + 32 * rs.length + i.toNat + 2) w0 v5 L v9 rs vs v10 N w) ∧ Fr 105 [(0, .pointer (some ⟨B, 0, none⟩)), (5, v5), (9, v9), (10, v10), (11, .int .i64 i)] a) No 9 No := by
  obtain ⟨hi0, hi1, hN1, hN2⟩ := rd_lt hp hn hi
  refine T3.block (id' := 5) (c := (sel [1, 1, 1, 1, 1, 0, 4, 4, 1, 4, 1, 0, 1, 4, 4, 1, 0, 4] fiM)) (by decide) ?_
  refine T3.seq (s := (sel [1, 1, 1, 1, 1, 0, 4, 4, 1, 4, 1, 0, 1, 4, 4, 1, 0, 4, 0] fiM)) (c := (sel [1, 1, 1, 1, 1, 0, 4, 4, 1, 4, 1, 0, 1, 4, 4, 1, 0, 4, 1] fiM)) (fz18 B b w0 hb v5 L v9 rs vs m c hp M v10 N i hn hi) (T3.ex fun x => T3.pure fun hx => ?_)
  refine T3.seq (s := (sel [1, 1, 1, 1, 1, 0, 4, 4, 1, 4, 1, 0, 1, 4, 4, 1, 0, 4, 1, 0] fiM)) (c := (sel [1, 1, 1, 1, 1, 0, 4, 4, 1, 4, 1, 0, 1, 4, 4, 1, 0, 4, 1, 1] fiM)) (S := (fun a w => ∃ (y : ByteArray), (y.size ≤ 2 * c) ∧ (Rd B M (b + 32 * rs.length + (i).toNat + 2) w0 v5 L v9 rs vs (v10) (N) w) ∧ Fr 105 [(0, .pointer (some ⟨B, 0, none⟩)), (5, v5), (9, v9), (10, v10), (11, .int .i64 i), (12, .string y)] a)) ?_ (T3.ex fun y => T3.pure fun hy => (fz21 B b w0 hb v5 L v9 rs vs m c hp M v10 N i hn hi y hy).post (fun a w ⟨v, q⟩ => ⟨v, _, hn.snoc hy hN1, q⟩))
  refine T3.test (s := (sel [1, 1, 1, 1, 1, 0, 4, 4, 1, 4, 1, 0, 1, 4, 4, 1, 0, 4, 1, 0, 0] fiM)) (x := (sel [1, 1, 1, 1, 1, 0, 4, 4, 1, 4, 1, 0, 1, 4, 4, 1, 0, 4, 1, 0, 1, 2] fiM)) (y := .skip) (C := fun _ => True) (W := fun w => Rd B M (b + 32 * rs.length + (i).toNat + 2) w0 v5 L v9 rs vs (v10) (N) w) (by decide) (fz19 B b w0 hb v5 L v9 rs vs m c hp M v10 N i hn hi x hx) ((fz20 B b w0 hb v5 L v9 rs vs m c hp M v10 N i hn hi x hx).pre (fun a w q => ⟨q.2.2, q.1.tail⟩)) (T3.skip ?_)
  rintro a w ⟨_, hW, hF⟩
  exact ⟨x, by omega, hW, hF⟩

set_option maxRecDepth 100000 in
set_option maxHeartbeats 1000000 in
theorem fzloop (B b : Nat) (w0 : World) (hb : b ≤ 100000) (v5 : Value) (L : List ByteArray) (v9 : Value) (rs : List (List ByteArray)) (vs : List Value) (m c : Nat) (hp : RoP (m + 1) c L rs) (M : Nat) : T3 Try.prog (fun a w => (Rd B M (b + 32 * rs.length + ((0 : Int)).toNat + 0) w0 v5 L v9 rs vs (.slice none 0 0) ([]) w) ∧ Fr 105 [(0, .pointer (some ⟨B, 0, none⟩)), (5, v5), (9, v9), (10, .slice none 0 0), (11, .int .i64 0)] a) (sel [1, 1, 1, 1, 1, 0, 4, 4, 1, 4, 1, 0, 1] fiM) (fun a w => ∃ (v10 : Value) (N : List ByteArray), (N.length = 2 ^ m ∧ ∀ s ∈ N, s.size ≤ 2 * c) ∧ (Rd B M (b + 32 * (rs.length + 1)) w0 v5 L v9 rs vs v10 N w) ∧ Fr 105 [(0, .pointer (some ⟨B, 0, none⟩)), (5, v5), (9, v9), (10, v10)] a) No 9 No := by
  refine T3.loop (c := (sel [1, 1, 1, 1, 1, 0, 4, 4, 1, 4, 1, 0, 1, 4, 4] fiM)) (fun ng => (fun a w => ∃ (i : Int) (v10 : Value) (N : List ByteArray), ((ng : Int) = L.length - i + 2 ∧ RdN m c N i) ∧ (Rd B M (b + 32 * rs.length + (i).toNat + 0) w0 v5 L v9 rs vs (v10) (N) w) ∧ Fr 105 [(0, .pointer (some ⟨B, 0, none⟩)), (5, v5), (9, v9), (10, v10), (11, .int .i64 i)] a)) (fun a w q => ⟨L.length + 2, 0, _, [], ⟨by omega, ⟨by simp, by simp, Nat.zero_le _⟩⟩, q⟩) (fun ng => T3.ex fun i => T3.ex fun v10 => T3.ex fun N => T3.pure fun hk => ?_)
  obtain ⟨hng, hn⟩ := hk
  refine T3.seq (s := (sel [1, 1, 1, 1, 1, 0, 4, 4, 1, 4, 1, 0, 1, 4, 4, 0] fiM)) (c := (sel [1, 1, 1, 1, 1, 0, 4, 4, 1, 4, 1, 0, 1, 4, 4, 1] fiM)) (S := fun a w => (i < L.length) ∧ (Rd B M (b + 32 * rs.length + (i).toNat + 0) w0 v5 L v9 rs vs (v10) (N) w) ∧ Fr 105 [(0, .pointer (some ⟨B, 0, none⟩)), (5, v5), (9, v9), (10, v10), (11, .int .i64 i)] a) ?_ (T3.pure fun hi => ?_)
  · refine T3.seq (s := (sel [1, 1, 1, 1, 1, 0, 4, 4, 1, 4, 1, 0, 1, 4, 4, 0, 0] fiM)) (c := (sel [1, 1, 1, 1, 1, 0, 4, 4, 1, 4, 1, 0, 1, 4, 4, 0, 1] fiM)) ((fz16 B b w0 hb v5 L v9 rs vs m c hp M v10 N i).noX) ?_
    refine T3.iff (x := .skip) (y := .exit 4) (M := fun q w => (q = decide (i < (L.length : Int))) ∧ Rd B M (b + 32 * rs.length + (i).toNat + 0) w0 v5 L v9 rs vs (v10) (N) w) (by decide) (T3.skip fun a w q => ⟨of_decide_eq_true q.2.1.symm, q.2.2, q.1.tail⟩) (T3.exit fun a w q => ?_)
    have he := rd_end hp hn (of_decide_eq_false q.2.1.symm)
    exact ⟨v10, N, ⟨he.1, hn.sm⟩, q.2.2.mono (by omega), q.1.sub (by simp)⟩
  obtain ⟨hi0, hi1, hN1, hN2⟩ := rd_lt hp hn hi
  have hL32 := hp.l32
  refine T3.seq (s := (sel [1, 1, 1, 1, 1, 0, 4, 4, 1, 4, 1, 0, 1, 4, 4, 1, 0] fiM)) (c := (sel [1, 1, 1, 1, 1, 0, 4, 4, 1, 4, 1, 0, 1, 4, 4, 1, 1] fiM)) ((fzc B b w0 hb v5 L v9 rs vs m c hp M v10 N i hn hi).noX) (T3.ex fun v10' => T3.ex fun N' => T3.pure fun hn' => ?_)
  exact ((fz17 B b w0 hb v5 L v9 rs vs m c hp M v10' N' i hi0 (by omega)).noX).post (fun a w q => ⟨ng - 2, by omega, i + 2, v10', N', ⟨by omega, hn'⟩, q⟩)

set_option maxRecDepth 100000 in
set_option maxHeartbeats 1000000 in
theorem fz22 (B b : Nat) (w0 : World) (hb : b ≤ 100000) (v5 : Value) (L : List ByteArray) (v9 : Value) (rs : List (List ByteArray)) (vs : List Value) (m c : Nat) (hp : RoP (m + 1) c L rs) (M : Nat) (v10 : Value) (N : List ByteArray) : T3 Try.prog (fun a w => (Rd B M (b + 32 * (rs.length + 1)) w0 v5 L v9 rs vs v10 N w) ∧ Fr 105 [(0, .pointer (some ⟨B, 0, none⟩)), (5, v5), (9, v9), (10, v10)] a) (sel [1, 1, 1, 1, 1, 0, 4, 4, 1, 4, 1, 1, 0] fiM) (fun a w => ∃ (v9' : Value), (Ro B (b + 32 * (rs.length + 1)) w0 v10 N v9' (rs ++ [N]) (vs ++ [v10]) w) ∧ Fr 105 [(0, .pointer (some ⟨B, 0, none⟩)), (9, v9'), (10, v10)] a) No 9 No := by
  refine T3.leaf ?_
  rintro Q JS JX JT K hS hK hX hE hT hR a w ⟨hW, ⟨fr, rfl, q0, q5, q9, q10, _⟩⟩
  have hr5 := hp.n
  have hE1 := el_ss
  have hz := hW.d.size
  obtain ⟨p5, c5, hv5⟩ := hW.l.row.shape
  subst hv5
  obtain ⟨p9, c9, hv9⟩ := (Row.of_owns hW.o).shape
  subst hv9
  obtain ⟨p10, c10, hv10⟩ := (Row.of_owns hW.nx).shape
  subst hv10
  clear hp
  rw [fr_fiM, show fr 0 = _ from q0, show fr 5 = _ from q5, show fr 9 = _ from q9, show fr 10 = _ from q10]
  clear q0 q5 q9 q10
  conv => arg 2; whnf
  go_wp2_with (at_builtin; refine app_law rfl _ _ _ rfl hE1 (hW.o.alloc _) rfl [_] rfl rfl (cells_new w #[_] _) (by simp [Value.oneCell']) (by omega) (by simp; omega) ?_; intro v5' w2 hown2 hgr2; have h2 := (hW.alloc _).next hown2 hgr2)
  refine Met.intro (hS _ _ ?_)
  exact ⟨_, h2, Fr.of _ rfl ⟨rfl, rfl, rfl, trivial⟩⟩

set_option maxRecDepth 100000 in
set_option maxHeartbeats 1000000 in
theorem fz23 (B b' : Nat) (w0 : World) (v10 : Value) (N : List ByteArray) (v9 : Value) (rs : List (List ByteArray)) (vs : List Value) : T3 Try.prog (fun a w => (Ro B b' w0 v10 N v9 rs vs w) ∧ Fr 105 [(0, .pointer (some ⟨B, 0, none⟩)), (9, v9), (10, v10)] a) (sel [1, 1, 1, 1, 1, 0, 4, 4, 1, 4, 1, 1, 1] fiM) (fun a w => (Ro B b' w0 v10 N v9 rs vs w) ∧ Fr 105 [(0, .pointer (some ⟨B, 0, none⟩)), (5, v10), (9, v9)] a) No 9 No := by
  refine T3.leaf ?_
  rintro Q JS JX JT K hS hK hX hE hT hR a w ⟨hW, ⟨fr, rfl, q0, q9, q10, _⟩⟩
  have HW := Lib.hid hW
  obtain ⟨p5, c5, hv5⟩ := hW.l.row.shape
  subst hv5
  obtain ⟨p9, c9, hv9⟩ := (Row.of_owns hW.o).shape
  subst hv9
  clear hW
  rw [fr_fiM, show fr 0 = _ from q0, show fr 9 = _ from q9, show fr 10 = _ from q10]
  clear q0 q9 q10
  conv => arg 2; whnf
  go_wp2_with fail
  refine Met.intro (hS _ _ ?_)
  exact ⟨HW.out, Fr.of _ rfl ⟨rfl, rfl, rfl, trivial⟩⟩

set_option maxRecDepth 100000 in
set_option maxHeartbeats 1000000 in
theorem fzr (B b : Nat) (w0 : World) (hb : b ≤ 100000) (v5 : Value) (L : List ByteArray) (v9 : Value) (rs : List (List ByteArray)) (vs : List Value) (m c : Nat) (hp : RoP (m + 1) c L rs) : T3 Try.prog (fun a w => (Ro B (b + 32 * rs.length) w0 v5 L v9 rs vs w) ∧ Fr 105 [(0, .pointer (some ⟨B, 0, none⟩)), (5, v5), (9, v9)] a) (sel [1, 1, 1, 1, 1, 0, 4, 4, 1] fiM) (fun a w => ∃ (c : Nat) (v5 : Value) (L : List ByteArray) (v9 : Value) (rs : List (List ByteArray)) (vs : List Value), RoP m c L rs ∧ (Ro B (b + 32 * rs.length) w0 v5 L v9 rs vs w) ∧ Fr 105 [(0, .pointer (some ⟨B, 0, none⟩)), (5, v5), (9, v9)] a) No 9 No := by
  refine T3.block (id' := 3) (c := (sel [1, 1, 1, 1, 1, 0, 4, 4, 1, 4] fiM)) (by decide) ?_
  refine T3.seq (s := (sel [1, 1, 1, 1, 1, 0, 4, 4, 1, 4, 0] fiM)) (c := (sel [1, 1, 1, 1, 1, 0, 4, 4, 1, 4, 1] fiM)) (fz14 B b w0 hb v5 L v9 rs vs m c hp) (T3.ex fun M => ?_)
  refine T3.seq (s := (sel [1, 1, 1, 1, 1, 0, 4, 4, 1, 4, 1, 0] fiM)) (c := (sel [1, 1, 1, 1, 1, 0, 4, 4, 1, 4, 1, 1] fiM)) (T3.seq (s := (sel [1, 1, 1, 1, 1, 0, 4, 4, 1, 4, 1, 0, 0] fiM)) (c := (sel [1, 1, 1, 1, 1, 0, 4, 4, 1, 4, 1, 0, 1] fiM)) (fz15 B b w0 hb v5 L v9 rs vs m c hp M) (fzloop B b w0 hb v5 L v9 rs vs m c hp M)) (T3.ex fun v10 => T3.ex fun N => T3.pure fun hN => ?_)
  refine T3.seq (s := (sel [1, 1, 1, 1, 1, 0, 4, 4, 1, 4, 1, 1, 0] fiM)) (c := (sel [1, 1, 1, 1, 1, 0, 4, 4, 1, 4, 1, 1, 1] fiM)) (fz22 B b w0 hb v5 L v9 rs vs m c hp M v10 N) (T3.ex fun v9' => ?_)
  exact (fz23 B _ w0 v10 N v9' (rs ++ [N]) (vs ++ [v10])).post (fun a w q => ⟨2 * c, v10, N, v9', rs ++ [N], vs ++ [v10], hp.next hN.1 hN.2, by rw [List.length_append]; exact q.1, q.2⟩)

set_option maxRecDepth 100000 in
set_option maxHeartbeats 1000000 in
theorem fzrounds (B b : Nat) (w0 : World) (hb : b ≤ 100000) (m : Nat) : T3 Try.prog (fun a w => ∃ (c : Nat) (v5 : Value) (L : List ByteArray) (v9 : Value) (rs : List (List ByteArray)) (vs : List Value), RoP m c L rs ∧ (Ro B (b + 32 * rs.length) w0 v5 L v9 rs vs w) ∧ Fr 105 [(0, .pointer (some ⟨B, 0, none⟩)), (5, v5), (9, v9)] a) (sel [1, 1, 1, 1, 1, 0] fiM) (fun a w => ∃ (v5 : Value) (L : List ByteArray) (v9 : Value) (rs : List (List ByteArray)) (vs : List Value), (∃ c, RoP 0 c L rs) ∧ (Ro B (b + 32 * rs.length) w0 v5 L v9 rs vs w) ∧ Fr 105 [(0, .pointer (some ⟨B, 0, none⟩)), (9, v9)] a) No 9 No := by
  refine T3.loop (c := (sel [1, 1, 1, 1, 1, 0, 4, 4] fiM)) (fun ng => (fun a w => ∃ (m c : Nat) (v5 : Value) (L : List ByteArray) (v9 : Value) (rs : List (List ByteArray)) (vs : List Value), (ng = m ∧ RoP m c L rs) ∧ (Ro B (b + 32 * rs.length) w0 v5 L v9 rs vs w) ∧ Fr 105 [(0, .pointer (some ⟨B, 0, none⟩)), (5, v5), (9, v9)] a)) (fun a w ⟨c, v5, L, v9, rs, vs, hp, q⟩ => ⟨m, m, c, v5, L, v9, rs, vs, ⟨rfl, hp⟩, q⟩) (fun ng => T3.ex fun m => T3.ex fun c => T3.ex fun v5 => T3.ex fun L => T3.ex fun v9 => T3.ex fun rs => T3.ex fun vs => T3.pure fun hk => ?_)
  obtain ⟨rfl, hp⟩ := hk
  refine T3.seq (s := (sel [1, 1, 1, 1, 1, 0, 4, 4, 0] fiM)) (c := (sel [1, 1, 1, 1, 1, 0, 4, 4, 1] fiM)) (S := fun a w => (1 < L.length) ∧ (Ro B (b + 32 * rs.length) w0 v5 L v9 rs vs w) ∧ Fr 105 [(0, .pointer (some ⟨B, 0, none⟩)), (5, v5), (9, v9)] a) ?_ (T3.pure fun hi => ?_)
  · refine T3.seq (s := (sel [1, 1, 1, 1, 1, 0, 4, 4, 0, 0] fiM)) (c := (sel [1, 1, 1, 1, 1, 0, 4, 4, 0, 1] fiM)) ((fz13 B b w0 hb v5 L v9 rs vs).noX) ?_
    refine T3.iff (x := .skip) (y := .exit 2) (M := fun q w => (q = decide ((1 : Int) < (L.length : Int))) ∧ Ro B (b + 32 * rs.length) w0 v5 L v9 rs vs w) (by decide) (T3.skip fun a w q => ⟨by have := of_decide_eq_true q.2.1.symm; omega, q.2.2, q.1.tail⟩) (T3.exit fun a w q => ?_)
    have hle := of_decide_eq_false q.2.1.symm
    have h0 : ng = 0 := by
      cases ng with
      | zero => rfl
      | succ m => have := hp.len; rw [Nat.pow_succ] at this; have := Nat.pow_pos (n := m) (show 0 < 2 by decide); omega
    subst h0
    exact ⟨v5, L, v9, rs, vs, ⟨c, hp⟩, q.2.2, q.1.sub (by simp)⟩
  obtain ⟨m', rfl⟩ := hp.half hi
  exact ((fzr B b w0 hb v5 L v9 rs vs m' c hp).noX).post (fun a w ⟨c', v5, L, v9, rs, vs, hp', q⟩ => ⟨m', by omega, m', c', v5, L, v9, rs, vs, ⟨rfl, hp'⟩, q⟩)

end Go.Proofs.Ytkdimgghljklmaa
/-
  Finals: rounds that the stream hands out (Finished), as a contract. Conditions: the bounds that each theorem names.
-/
set_option linter.unusedVariables false
namespace Go.Proofs.Ytkdimgghljklmaa
open Go.RowKit Go.Bw
/-- Rounds that were handed out. -/
structure FiR (B b : Nat) (w0 : World) (v9 : Value) (rs : List (List ByteArray)) (vs : List Value) (w : World) : Prop where
  d : Drawn B w0 w b
  hB : B < w0.heap.size
  o : w.ownsRow w0.heap.size 26 1 v9 rs.length vs
  i : ∀ k u, vs[k]? = some u → RHd 9 B w.heap.size w (wsAt rs k).length u (cellsOf encSt (wsAt rs k))
  n : rs.length ≤ 5
  m : ∀ k, (wsAt rs k).length ≤ 40
structure RoE (rs : List (List ByteArray)) : Prop where
  n0 : 1 ≤ rs.length
  n : rs.length ≤ 5
  k : ∀ k, (wsAt rs k).length ≤ 32
  lo : ∀ k, k < rs.length → 1 ≤ (wsAt rs k).length
theorem RoP.e {c : Nat} {L : List ByteArray} {rs : List (List ByteArray)} (h : RoP 0 c L rs) : RoE rs := ⟨by have := h.ne; omega, by have := h.n; omega, h.k, h.lo⟩
theorem wsAt_set (rs : List (List ByteArray)) (N : List ByteArray) (k j : Nat) (hk : k < rs.length) : wsAt (rs.set k N) j = if j = k then N else wsAt rs j := by
  unfold wsAt
  rw [List.getD_eq_getElem?_getD, List.getD_eq_getElem?_getD]
  split
  · rename_i h
    subst h
    rw [List.getElem?_set_self hk]; rfl
  · rename_i h
    rw [List.getElem?_set_ne (fun e => h e.symm)]
section
variable {B M b b' : Nat} {w0 w w' : World} {v5 v9 v10 v' : Value} {L N : List ByteArray} {rs : List (List ByteArray)} {vs : List Value}
theorem Ro.out (h : Ro B b w0 v5 L v9 rs vs w) (e : RoE rs) : FiR B b w0 v9 rs vs w := ⟨h.d, h.hB, h.o, h.i, e.n, fun k => by have := e.k k; omega⟩
theorem FiR.mono (h : FiR B b w0 v9 rs vs w) (hb : b ≤ b') : FiR B b' w0 v9 rs vs w := ⟨h.d.mono hb, h.hB, h.o, h.i, h.n, h.m⟩
theorem Ro.cloned (h : Ro B b w0 v5 L v9 rs vs w) (ho : w'.ownsRow w.heap.size 9 1 v' N.length (cellsOf encSt N)) (g : Below w.heap.size w w') : Rd B w.heap.size b w0 v5 L v9 rs vs v' N w' :=
  ⟨h.d.below g, h.hB, h.d.size, g.size, h.l.under g, owns_below h.o g (Nat.le_refl _), fun k u hu => (h.i k u hu).under g, ho⟩
theorem Rd.put {g c : Nat} (h : Rd B M b w0 v5 L (.slice (some ⟨g, 0, none⟩) rs.length c) rs vs v10 N w) (e : RoE rs) {k : Nat} (hk : k < rs.length) {u : Value} {N' : List ByteArray} {n' : Nat} (hn' : n' = N'.length) (hu : RHd 9 B w.heap.size w n' u (cellsOf encSt N')) (h40 : N'.length ≤ 40) :
    FiR B b w0 (.slice (some ⟨g, 0, none⟩) rs.length c) (rs.set k N') (vs.set k u) (w.setCell ⟨g, k, none⟩ u) := by
  subst hn'
  have hg := h.o.lt g rfl
  have hB := h.hB
  have gr := grown_setCell w g k u
  refine ⟨h.d.set u hg.1 (by omega), h.hB, ?_, fun j x hx => ?_, by rw [List.length_set]; exact e.n, fun j => ?_⟩
  · rw [List.length_set]
    exact owns_setV h.o k hk u
  · rw [wsAt_set rs N' k j hk]
    by_cases hj : j = k
    · subst hj
      have hjv : j < vs.length := by have := h.o.1; omega
      rw [List.getElem?_set_self hjv] at hx
      obtain rfl := Option.some.inj hx
      rw [if_pos rfl]
      exact (hu.other h.o (by decide) gr).mono gr.size
    · rw [List.getElem?_set_ne (fun e => hj e.symm)] at hx
      rw [if_neg hj]
      exact ((h.i j x hx).other h.o (by decide) gr).mono (Nat.le_trans h.hMw gr.size)
  · rw [wsAt_set rs N' k j hk]
    split
    · exact h40
    · have := e.k j; omega
end
set_option maxRecDepth 100000 in
set_option maxHeartbeats 1000000 in
theorem fz24 (B b : Nat) (w0 : World) (hb : b ≤ 200000) (v5 : Value) (L : List ByteArray) (v9 : Value) (rs : List (List ByteArray)) (vs : List Value) : T3 Try.prog (fun a w => (Ro B (b) w0 v5 L v9 rs vs w) ∧ Fr 105 [(0, .pointer (some ⟨B, 0, none⟩)), (9, v9)] a) (sel [1, 1, 1, 1, 1, 1, 0, 0] fiM) (fun a w => ∃ q, Fr 105 ((83, .bool q) :: [(0, .pointer (some ⟨B, 0, none⟩)), (9, v9)]) a ∧ (True ∧ Ro B (b + 1) w0 v5 L v9 rs vs w)) No 9 No := by
  refine T3.leaf ?_
  rintro Q JS JX JT K hS hK hX hE hT hR a w ⟨hW, ⟨fr, rfl, q0, q9, _⟩⟩
  have HW := Lib.hid hW
  obtain ⟨p9, c9, hv9⟩ := (Row.of_owns hW.o).shape
  subst hv9
  rw [fr_fiM, show fr 0 = _ from q0, show fr 9 = _ from q9]
  clear q0 q9
  conv => arg 2; whnf
  go_wp2_with fail
  refine (flip_d B b 12 w hW.d.str rfl (by omega)).mono ?_
  rintro e w1 ⟨q, rfl, hd⟩
  have HW1 := Lib.hid (HW.out.drawn hd)
  clear hW hd
  go_wp2_with fail
  refine Met.intro (hS _ _ ?_)
  exact ⟨q, Fr.of _ rfl ⟨rfl, rfl, rfl, trivial⟩, trivial, HW1.out⟩

set_option maxRecDepth 100000 in
set_option maxHeartbeats 1000000 in
theorem fz25 (B b : Nat) (w0 : World) (hb : b ≤ 200000) (v5 : Value) (L : List ByteArray) (v9 : Value) (rs : List (List ByteArray)) (vs : List Value) (he : RoE rs) : T3 Try.prog (fun a w => (Ro B (b) w0 v5 L v9 rs vs w) ∧ Fr 105 [(0, .pointer (some ⟨B, 0, none⟩)), (9, v9)] a) (sel [1, 1, 1, 1, 1, 1, 0, 1, 2, 0] fiM) (fun a w => ∃ (k : Int), (0 ≤ k ∧ k < rs.length) ∧ (Ro B (b + 1) w0 v5 L v9 rs vs w) ∧ Fr 105 [(0, .pointer (some ⟨B, 0, none⟩)), (9, v9), (13, .int .i64 k)] a) No 9 No := by
  refine T3.leaf ?_
  rintro Q JS JX JT K hS hK hX hE hT hR a w ⟨hW, ⟨fr, rfl, q0, q9, _⟩⟩
  have h0 := he.n0
  have h5 := he.n
  have HW := Lib.hid hW
  obtain ⟨p9, c9, hv9⟩ := (Row.of_owns hW.o).shape
  subst hv9
  rw [fr_fiM, show fr 0 = _ from q0, show fr 9 = _ from q9]
  clear q0 q9
  conv => arg 2; whnf
  go_wp2_with fail
  refine (next_d B b rs.length w hW.d.str (by omega) (by omega) (by omega)).mono ?_
  rintro e w1 ⟨k, rfl, hk0, hk1, hd⟩
  have HW1 := Lib.hid (HW.out.drawn hd)
  clear hW hd
  go_wp2_with fail
  refine Met.intro (hS _ _ ?_)
  exact ⟨k, ⟨hk0, hk1⟩, HW1.out, Fr.of _ rfl ⟨rfl, rfl, rfl, trivial⟩⟩

set_option maxRecDepth 100000 in
set_option maxHeartbeats 1000000 in
theorem fz26 (B b : Nat) (w0 : World) (hb : b ≤ 200000) (v5 : Value) (L : List ByteArray) (v9 : Value) (rs : List (List ByteArray)) (vs : List Value) (he : RoE rs) (k : Int) (hk : 0 ≤ k ∧ k < rs.length) : T3 Try.prog (fun a w => (Ro B (b) w0 v5 L v9 rs vs w) ∧ Fr 105 [(0, .pointer (some ⟨B, 0, none⟩)), (9, v9), (13, .int .i64 k)] a) (sel [1, 1, 1, 1, 1, 1, 0, 1, 2, 1] fiM) (fun a w => ∃ (v9' : Value) (rs' : List (List ByteArray)) (vs' : List Value), (FiR B (b + 2) w0 v9' rs' vs' w) ∧ Fr 105 [(9, v9')] a) No 9 No := by
  refine T3.leaf ?_
  rintro Q JS JX JT K hS hK hX hE hT hR a w ⟨hW, ⟨fr, rfl, q0, q9, q13, _⟩⟩
  obtain ⟨hk0, hk1⟩ := hk
  have hE1 := el_str
  have hlo := he.lo k.toNat (by omega)
  have hm := he.k k.toNat
  have hr5 := he.n
  obtain ⟨g9, c9, hv9, _, _, hn9, hm9⟩ := owns_shape hW.o (by omega)
  subst hv9
  simp only [maxLen] at hm9
  have hvl : k.toNat < vs.length := by have := hW.o.1; omega
  obtain ⟨vk, hvk⟩ : ∃ vk, vs[k.toNat]? = some vk := ⟨_, List.getElem?_eq_getElem hvl⟩
  have hu := hW.i k.toNat _ hvk
  have t0 : w.cell? ⟨g9, k.toNat, none⟩ = some vk := by
    have := hW.o.cells (g := g9) rfl k.toNat _ hvk
    rwa [Addr.add_lit, Nat.zero_add] at this
  have HC := Lib.hid (clone_s vk _ _ 0 w hu.row (by omega))
  obtain ⟨pk, ck, hvs⟩ := hu.row.shape
  subst hvs
  have HW := Lib.hid hW
  clear hu hW hvl
  rw [fr_fiM, show fr 0 = _ from q0, show fr 9 = _ from q9, show fr 13 = _ from q13]
  clear q0 q9 q13
  conv => arg 2; whnf
  go_wp2_with fail
  refine HC.out.mono ?_
  rintro e w1 ⟨v', rfl, ho, hb1⟩
  have h1 := HW.out.cloned ho hb1
  obtain ⟨p10, c10, hv10⟩ := (Row.of_owns ho).shape
  subst hv10
  clear ho hb1 t0
  go_wp2_with fail
  refine (some_lit B b [⟨#[116, 97]⟩, ⟨#[122, 122]⟩] 2 _ _ _ rfl rfl (by decide) (by decide) h1.d.str (by omega)).mono ?_
  rintro e w2 ⟨x, rfl, hmx, hd⟩
  have h2 := h1.drawn hd
  have hz2 := h2.hMw
  clear hd h1 hmx
  go_wp2_with (at_builtin; refine app_law rfl _ _ _ rfl hE1 (h2.nx.alloc _) rfl [.string x] rfl rfl (cells_new w2 #[_] _) (by simp [Value.oneCell']) (by omega) (by simp; omega) ?_; intro v'' w3 ho3 hg3; have h3 := (h2.alloc _).app ho3 hg3)
  clear h2 hg3
  obtain ⟨g3, c3, hv3, hb3, hs3, hn3, hm3⟩ := owns_shape ho3 (by omega)
  subst hv3
  simp only [maxLen] at hm3
  clear ho3
  refine (range_d B (b + 1) 0 1 w3 h3.d.str (by decide) (by omega)).mono ?_
  rintro e w4 ⟨r, rfl, ⟨hr0, hr1⟩, hd⟩
  have h4 := h3.drawn hd
  clear hd h3
  have hlen : (wsAt rs k.toNat ++ [x]).length = (wsAt rs k.toNat).length + 1 := by simp
  have hr2 : r = 0 ∨ r = 1 := by omega
  rcases hr2 with rfl | rfl
  · skip
    have c0 : w4.cell? ⟨g9, k.toNat, none⟩ = some (.slice pk (wsAt rs k.toNat).length ck) := by
      have := h4.o.cells (g := g9) rfl k.toNat _ hvk
      rwa [Addr.add_lit, Nat.zero_add] at this
    have f0 := owns_frozen h4.o k.toNat
    have hnx := h4.nx
    rw [hlen] at hnx
    have hu4 := RHd.drop (r := 0) hnx (Nat.lt_of_lt_of_le h4.hB h4.hM) (by omega)
    rw [cells_drop] at hu4
    have HP := Lib.hid (h4.put he (k := k.toNat) (by omega) (N' := (wsAt rs k.toNat ++ [x]).drop 0) (by simp) hu4 (by simp; omega))
    clear hu4 h4 hnx hlen
    go_wp2_with fail
    refine Met.intro (hS _ _ ?_)
    exact ⟨_, _, _, HP.out, Fr.of _ rfl ⟨rfl, trivial⟩⟩
  · skip
    have c0 : w4.cell? ⟨g9, k.toNat, none⟩ = some (.slice pk (wsAt rs k.toNat).length ck) := by
      have := h4.o.cells (g := g9) rfl k.toNat _ hvk
      rwa [Addr.add_lit, Nat.zero_add] at this
    have f0 := owns_frozen h4.o k.toNat
    have hnx := h4.nx
    rw [hlen] at hnx
    have hu4 := RHd.drop (r := 1) hnx (Nat.lt_of_lt_of_le h4.hB h4.hM) (by omega)
    rw [cells_drop] at hu4
    have HP := Lib.hid (h4.put he (k := k.toNat) (by omega) (N' := (wsAt rs k.toNat ++ [x]).drop 1) (by simp) hu4 (by simp; omega))
    clear hu4 h4 hnx hlen
    go_wp2_with fail
    refine Met.intro (hS _ _ ?_)
    exact ⟨_, _, _, HP.out, Fr.of _ rfl ⟨rfl, trivial⟩⟩

set_option maxRecDepth 100000 in
set_option maxHeartbeats 1000000 in
theorem fz27 (B b : Nat) (w0 : World) (v9 : Value) (rs : List (List ByteArray)) (vs : List Value) : T3 Try.prog (fun a w => (FiR B b w0 v9 rs vs w) ∧ Fr 105 [(9, v9)] a) (sel [1, 1, 1, 1, 1, 1, 1, 0] fiM) (fun a w => (FiR B b w0 v9 rs vs w) ∧ Fr 105 [(4, v9)] a) No 9 No := by
  refine T3.leaf ?_
  rintro Q JS JX JT K hS hK hX hE hT hR a w ⟨hW, ⟨fr, rfl, q9, _⟩⟩
  have HW := Lib.hid hW
  obtain ⟨p9, c9, hv9⟩ := (Row.of_owns hW.o).shape
  subst hv9
  clear hW
  rw [fr_fiM, show fr 9 = _ from q9]
  clear q9
  conv => arg 2; whnf
  go_wp2_with fail
  refine Met.intro (hS _ _ ?_)
  exact ⟨HW.out, Fr.of _ rfl ⟨rfl, trivial⟩⟩

set_option maxRecDepth 100000 in
set_option maxHeartbeats 1000000 in
theorem fz_all (B b : Nat) (w0 : World) (vt : Value) (ts : List ByteArray) (h : FiH B b w0 vt ts) : T3 Try.prog (fun a w => (IsW w0 w) ∧ Fr 105 [(0, .pointer (some ⟨B, 0, none⟩)), (1, vt)] a) fiM No No 9 (fun a w => ∃ (v9 : Value) (rs : List (List ByteArray)) (vs : List Value), FiR B (b + 170) w0 v9 rs vs w ∧ Fr 105 [(4, v9)] a) := by
  refine T3.seq (s := (sel [0] fiM)) (c := (sel [1] fiM)) (T3.noT (fz0 B b w0 vt ts h)) ?_
  refine T3.seq (s := (sel [1, 0] fiM)) (c := (sel [1, 1] fiM)) (S := fun a w => (seedsE ts = 0) ∧ (IsW w0 w) ∧ Fr 105 [(0, .pointer (some ⟨B, 0, none⟩)), (1, vt)] a) ?_ (T3.pure fun hz => ?_)
  · refine T3.test (s := (sel [1, 0, 0] fiM)) (x := (sel [1, 0, 1, 2] fiM)) (y := .skip) (C := fun q => (q = (seedsE ts != 0))) (W := fun w => IsW w0 w) (by decide) (T3.noT (fz1 B b w0 vt ts h)) ?_ (T3.skip ?_)
    · refine T3.seq (s := (sel [1, 0, 1, 2, 0] fiM)) (c := .ret) (S := (fun a w => (IsW w0 w) ∧ Fr 105 [(4, .slice none 0 0)] a)) ((T3.noT (fz2 B b w0 vt ts h)).pre (fun a w q => ⟨q.2.2, q.1.tail⟩)) (T3.ret ?_)
      rintro a w ⟨rfl, hF⟩
      exact ⟨_, [], [], ⟨(Drawn.refl h.s).mono (by omega), h.s.lt, World.ownsRow_nil _ _ _ _, fun k u hu => by simp at hu, by simp, fun k => by simp [wsAt]⟩, hF⟩
    · rintro a w ⟨hq, hW, hF⟩
      exact ⟨by have := hq.symm; simpa using this, hW, hF⟩
  obtain ⟨n2, n20⟩ := se_len hz
  have hb := h.hb
  refine T3.seq (s := (sel [1, 1, 0] fiM)) (c := (sel [1, 1, 1] fiM)) (T3.noT (fz3 B b w0 vt ts h)) ?_
  refine T3.ex fun v5 => ?_
  refine T3.seq (s := (sel [1, 1, 1, 0] fiM)) (c := (sel [1, 1, 1, 1] fiM)) (T3.noT (T3.seq (s := (sel [1, 1, 1, 0, 0] fiM)) (c := (sel [1, 1, 1, 0, 1] fiM)) (fz4 B b w0 vt ts h n2 n20 v5) (T3.ex fun v20 => fjloop B b w0 vt ts h n2 n20 v20))) ?_
  refine T3.ex fun v5 => T3.ex fun L => T3.pure fun hl => ?_
  obtain ⟨m, hp⟩ := RoP.start n2 n20 hl
  refine T3.seq (s := (sel [1, 1, 1, 1, 0] fiM)) (c := (sel [1, 1, 1, 1, 1] fiM)) (T3.noT (fz12 B b w0 vt ts h n2 n20 v5 L)) ?_
  refine T3.seq (s := (sel [1, 1, 1, 1, 1, 0] fiM)) (c := (sel [1, 1, 1, 1, 1, 1] fiM)) (S := (fun a w => ∃ (v5 : Value) (L : List ByteArray) (v9 : Value) (rs : List (List ByteArray)) (vs : List Value), (∃ c, RoP 0 c L rs) ∧ (Ro B (b + 32 * rs.length) w0 v5 L v9 rs vs w) ∧ Fr 105 [(0, .pointer (some ⟨B, 0, none⟩)), (9, v9)] a)) (T3.noT ((fzrounds B b w0 hb m).pre (fun a w q => ⟨100, v5, L, _, [], [], hp, q⟩))) ?_
  refine T3.ex fun v5 => T3.ex fun L => T3.ex fun v9 => T3.ex fun rs => T3.ex fun vs => T3.pure fun hc => ?_
  obtain ⟨c, hp⟩ := hc
  have he := hp.e
  have h5 := he.n
  refine T3.seq (s := (sel [1, 1, 1, 1, 1, 1, 0] fiM)) (c := (sel [1, 1, 1, 1, 1, 1, 1] fiM)) (S := fun a w => ∃ (v9 : Value) (rs : List (List ByteArray)) (vs : List Value), FiR B (b + 170) w0 v9 rs vs w ∧ Fr 105 [(9, v9)] a) ?_ (T3.ex fun v9 => T3.ex fun rs => T3.ex fun vs => T3.seq (s := (sel [1, 1, 1, 1, 1, 1, 1, 0] fiM)) (c := .ret) (T3.noT (fz27 B (b + 170) w0 v9 rs vs)) (T3.ret fun a w q => ⟨v9, rs, vs, q⟩))
  refine T3.test (s := (sel [1, 1, 1, 1, 1, 1, 0, 0] fiM)) (x := (sel [1, 1, 1, 1, 1, 1, 0, 1, 2] fiM)) (y := .skip) (C := fun _ => True) (W := fun w => Ro B (b + 32 * rs.length + 1) w0 v5 L v9 rs vs w) (by decide) (T3.noT (fz24 B (b + 32 * rs.length) w0 (by omega) v5 L v9 rs vs)) ?_ (T3.skip ?_)
  · refine T3.pre (R := (fun a w => (Ro B (b + 32 * rs.length + 1) w0 v5 L v9 rs vs w) ∧ Fr 105 [(0, .pointer (some ⟨B, 0, none⟩)), (9, v9)] a)) ?_ (fun a w q => ⟨q.2.2, q.1.tail⟩)
    refine T3.seq (s := (sel [1, 1, 1, 1, 1, 1, 0, 1, 2, 0] fiM)) (c := (sel [1, 1, 1, 1, 1, 1, 0, 1, 2, 1] fiM)) (T3.noT (fz25 B (b + 32 * rs.length + 1) w0 (by omega) v5 L v9 rs vs he)) (T3.ex fun k => T3.pure fun hk => ?_)
    exact (T3.noT (fz26 B (b + 32 * rs.length + 1 + 1) w0 (by omega) v5 L v9 rs vs he k hk)).post (fun a w ⟨v9', rs', vs', hW, hF⟩ => ⟨v9', rs', vs', hW.mono (by omega), hF⟩)
  · rintro a w ⟨_, hW, hF⟩
    exact ⟨v9, rs, vs, (hW.out he).mono (by omega), hF.sub (by simp)⟩

set_option maxRecDepth 100000 in
set_option maxHeartbeats 1000000 in
theorem rounds_any (B b : Nat) (w0 : World) (vt : Value) (ts : List ByteArray) (h : FiH B b w0 vt ts) : Calls Try.prog 26 #[.pointer (some ⟨B, 0, none⟩), vt] w0 fun e w' => ∃ (v9 : Value) (rs : List (List ByteArray)) (vs : List Value), e = .returned v9 ∧ FiR B (b + 170) w0 v9 rs vs w' := by
  have hall := fz_all B b w0 vt ts h
  go_enter Try.func26, Try.ntmps26
  refine T3.done (s := fiM) hall ⟨rfl, Fr.of _ rfl ⟨rfl, rfl, trivial⟩⟩ ?_
  rintro a w ⟨v9, rs, vs, hW, fr, rfl, q4, _⟩
  rw [fr_fiM, show fr 4 = _ from q4]
  go_ret
  exact ⟨v9, rs, vs, rfl, hW⟩
end Go.Proofs.Ytkdimgghljklmaa
/-
  The law's own look that the package makes brackets. No condition.
-/
set_option linter.unusedVariables false
namespace Go.Proofs.Ytkdimgghljklmaa
open Go.RowKit Go.Bw

theorem firstR_3 : firstR 3 = [(1, 0), (2, 3)] := by decide +kernel

set_option maxRecDepth 100000 in
set_option maxHeartbeats 1000000 in
theorem finished_any (w : World) : Calls Try.prog 24 #[] w fun e w' => e = .returned (.bool true) ∧ Below w.heap.size w w' := by
  go_enter Try.func24, Try.ntmps24
  go_wp2_with (go_at_call 54; refine (first_prog 3 _).mono ?_; rw [firstR_3, show manyF 3 = 0 from by decide +kernel]; rintro e w1 ⟨v, rfl, hown, hbel⟩; obtain ⟨hl, hc⟩ := row_pairs (Row.of_owns hown); rcases hc with ⟨_, h⟩ | ⟨b, off, cap, rfl, _, _, hn, hm, hcell⟩; (simp at h); have hc0 := (hcell 0 (by omega) (by simp)).1; simp [getp] at hc0; have hl2 : ([(1, 0), (2, 3)] : List (Int × Int)).length = 2 := rfl; clear hcell)
  go_ret
  exact ⟨rfl, hbel⟩
end Go.Proofs.Ytkdimgghljklmaa
