/-
  A worth that the stream hands out. Conditions: the bounds that each theorem names.
-/
import Derived.Test.YtbidnbcclibigaaDoorALine
namespace Go.Proofs.YtbidnbcclibigaaDoor
open Go.RowKit Go.Bw
def encP (p : Int × Int) : List Value := [.int .i64 p.1, .int .i64 p.2]
def i64ok (n : Int) : Bool := decide (-9223372036854775808 ≤ n) && decide (n ≤ 9223372036854775807)
def worthL : List (Int × Int) := [(1, 1), (4, 1), (1, 25), (1, 2), (-2, 1), (0, 1), (7, 100)]
def worthO : List (Int × Int) := [(2, 4), (1, 3), (1, 0), (-1, -1), (1, 200), (10001, 1), (-9223372036854775808, 1), (1, 4611686018427387904), (0, 2)]
theorem worthL_ok : (worthL.all fun p => i64ok p.1 && i64ok p.2) = true := by decide +kernel
theorem worthO_ok : (worthO.all fun p => i64ok p.1 && i64ok p.2) = true := by decide +kernel
/-- A fraction within Go's numbers. -/
structure FracOk (p : Int × Int) : Prop where
  n0 : -9223372036854775808 ≤ p.1
  n1 : p.1 ≤ 9223372036854775807
  d0 : -9223372036854775808 ≤ p.2
  d1 : p.2 ≤ 9223372036854775807
theorem frac_ok {l : List (Int × Int)} (h : (l.all fun p => i64ok p.1 && i64ok p.2) = true) : ∀ p ∈ l, FracOk p := by
  intro p hp
  have := List.all_eq_true.1 h p hp
  simp only [i64ok, Bool.and_eq_true, decide_eq_true_eq] at this
  exact ⟨this.1.1, this.1.2, this.2.1, this.2.2⟩
theorem fr_cells {w : World} {g : Nat} {l : List (Int × Int)} {cs : List Value} (h : Blk w g cs) (hcs : cs = cellsOf encP l) (r : Int) (h0 : 0 ≤ r) (h1 : r < l.length) :
    w.cell? ⟨g, r.toNat * 2, none⟩ = some (.int .i64 (geta l r).1) ∧ w.cell? ⟨g, r.toNat * 2 + 1, none⟩ = some (.int .i64 (geta l r).2) := by
  subst hcs
  have e := geta_eq l r h0 h1
  refine ⟨h.2.1 (r.toNat * 2) _ ?_, h.2.1 (r.toNat * 2 + 1) _ ?_⟩
  · have := cellsOf_get encP 2 (fun _ => rfl) l r.toNat (by omega) 0 (by decide)
    rw [Nat.add_zero] at this
    rw [this, e]; rfl
  · rw [cellsOf_get encP 2 (fun _ => rfl) l r.toNat (by omega) 1 (by decide), e]; rfl
noncomputable def worthB : Code := (Tryd.f25.body).getD .skip
set_option maxRecDepth 100000 in
theorem frame33 (f : Nat → Value) : frame 33 f = ⟨#[f 0, f 1, f 2, f 3, f 4, f 5, f 6, f 7, f 8, f 9, f 10, f 11, f 12, f 13, f 14, f 15, f 16, f 17, f 18, f 19, f 20, f 21, f 22, f 23, f 24, f 25, f 26, f 27, f 28, f 29, f 30, f 31, f 32], []⟩ := by rfl

structure Wo (w0 : World) (B b g3 : Nat) (p : Int × Int) (w : World) : Prop where
  dr : Drawn B w0 w b
  hB : B < w0.heap.size
  h3 : w0.heap.size < g3
  res : Blk w w0.heap.size [.int .i64 0, .int .i64 0]
  fr : Blk w g3 (encP p)
  ok : FracOk p
set_option maxRecDepth 100000 in
set_option maxHeartbeats 1000000 in
theorem wo1 (w0 : World) (B b : Nat) (hb : b ≤ 100000) (hS : Str B w0 b) : T3 Tryd.prog (fun a w => w = w0.alloc (.cells #[.int .i64 0, .int .i64 0] 36) ∧ Fr 33 [(0, .pointer (some ⟨B, 0, none⟩)), (2, .pointer (some ⟨w0.heap.size, 0, none⟩))] a) (sel [1, 0] worthB) (fun a w => ∃ (g3 : Nat) (p : Int × Int), Wo w0 B (b + 1) g3 p w ∧ Fr 33 [(0, .pointer (some ⟨B, 0, none⟩)), (2, .pointer (some ⟨w0.heap.size, 0, none⟩)), (3, .pointer (some ⟨g3, 0, none⟩))] a) No 9 (fun a w => ∃ p : Int × Int, Fr 33 [(2, .pointer (some ⟨w0.heap.size, 0, none⟩))] a ∧ Blk w w0.heap.size (encP p) ∧ FracOk p ∧ Drawn B w0 w (b + 3)) := by
  refine T3.leaf ?_
  rintro Q JS JX JT K hS_ hK hX hE hT hR a w ⟨hw, ⟨f, rfl, q0, q2, _⟩⟩
  have hlt := hS.lt
  have hD0 := (Drawn.refl hS).alloc (.cells #[.int .i64 0, .int .i64 0] 36)
  have hR := Blk.new w0 #[.int .i64 0, .int .i64 0] 36
  have hsz : (w0.alloc (.cells #[.int .i64 0, .int .i64 0] 36)).heap.size = w0.heap.size + 1 := by simp
  rw [← hw] at hD0 hR hsz
  clear hw
  have hL := Blk.new w #[.int .i64 1, .int .i64 1, .int .i64 4, .int .i64 1, .int .i64 1, .int .i64 25, .int .i64 1, .int .i64 2, .int .i64 (-2), .int .i64 1, .int .i64 0, .int .i64 1, .int .i64 7, .int .i64 100] 36
  replace hD0 := hD0.alloc (.cells #[.int .i64 1, .int .i64 1, .int .i64 4, .int .i64 1, .int .i64 1, .int .i64 25, .int .i64 1, .int .i64 2, .int .i64 (-2), .int .i64 1, .int .i64 0, .int .i64 1, .int .i64 7, .int .i64 100] 36)
  replace hR := hR.alloc (.cells #[.int .i64 1, .int .i64 1, .int .i64 4, .int .i64 1, .int .i64 1, .int .i64 25, .int .i64 1, .int .i64 2, .int .i64 (-2), .int .i64 1, .int .i64 0, .int .i64 1, .int .i64 7, .int .i64 100] 36)
  have hsz2 : (w.alloc (.cells #[.int .i64 1, .int .i64 1, .int .i64 4, .int .i64 1, .int .i64 1, .int .i64 25, .int .i64 1, .int .i64 2, .int .i64 (-2), .int .i64 1, .int .i64 0, .int .i64 1, .int .i64 7, .int .i64 100] 36)).heap.size = w0.heap.size + 2 := by simp; omega
  have Hz := Lib.hid hsz
  have Hz2 := Lib.hid hsz2
  clear hsz hsz2
  rw [frame33, show f 0 = .pointer (some ⟨B, 0, none⟩) from q0, show f 2 = .pointer (some ⟨w0.heap.size, 0, none⟩) from q2]
  clear q0 q2
  conv => arg 2; whnf
  go_wp2_with fail
  generalize w.alloc (.cells #[.int .i64 1, .int .i64 1, .int .i64 4, .int .i64 1, .int .i64 1, .int .i64 25, .int .i64 1, .int .i64 2, .int .i64 (-2), .int .i64 1, .int .i64 0, .int .i64 1, .int .i64 7, .int .i64 100] 36) = W at *
  refine (next_d B _ 7 _ hD0.str (by decide) (by decide) (by omega)).mono ?_
  rintro e w1 ⟨r, rfl, hr0, hr1, hd⟩
  have hz := Hz.out
  have hz2 := Hz2.out
  replace hD0 := hD0.trans hd
  replace hR := hR.drawn hd (by omega)
  replace hL := hL.drawn hd (by omega)
  have hs1 := hd.size
  obtain ⟨c0, c1⟩ := fr_cells (l := worthL) hL rfl r hr0 hr1
  have hok := frac_ok worthL_ok _ (geta_mem hr0 hr1)
  clear hd hL hz hz2
  generalize geta worthL r = p at *
  go_wp2_with fail
  have hz := Hz.out
  have hz2 := Hz2.out
  refine Met.intro (hS_ _ _ ?_)
  exact ⟨w1.heap.size, p, ⟨hD0.alloc _, hlt, by omega, hR.alloc _, Blk.new w1 #[.int .i64 p.1, .int .i64 p.2] _, hok⟩, Fr.of _ rfl ⟨rfl, rfl, rfl, trivial⟩⟩

set_option maxRecDepth 100000 in
set_option maxHeartbeats 1000000 in
theorem wo2 (w0 : World) (B b : Nat) (hb : b ≤ 100000) : T3 Tryd.prog (fun a w => ∃ (g3 : Nat) (p : Int × Int), Wo w0 B (b + 1) g3 p w ∧ Fr 33 [(0, .pointer (some ⟨B, 0, none⟩)), (2, .pointer (some ⟨w0.heap.size, 0, none⟩)), (3, .pointer (some ⟨g3, 0, none⟩))] a) (sel [1, 1, 0, 0] worthB) (fun a w => ∃ q, ∃ (g3 : Nat) (p : Int × Int), Wo w0 B (b + 2) g3 p w ∧ Fr 33 ((17, .bool q) :: [(0, .pointer (some ⟨B, 0, none⟩)), (2, .pointer (some ⟨w0.heap.size, 0, none⟩)), (3, .pointer (some ⟨g3, 0, none⟩))]) a) No 9 (fun a w => ∃ p : Int × Int, Fr 33 [(2, .pointer (some ⟨w0.heap.size, 0, none⟩))] a ∧ Blk w w0.heap.size (encP p) ∧ FracOk p ∧ Drawn B w0 w (b + 3)) := by
  refine T3.leaf ?_
  rintro Q JS JX JT K hS hK hX hE hT hR a w ⟨g3, p, hA, ⟨f, rfl, q0, q2, q3, _⟩⟩
  rw [frame33, show f 0 = .pointer (some ⟨B, 0, none⟩) from q0, show f 2 = .pointer (some ⟨w0.heap.size, 0, none⟩) from q2, show f 3 = .pointer (some ⟨g3, 0, none⟩) from q3]
  clear q0 q2 q3
  conv => arg 2; whnf
  go_wp2_with (go_at_call 21; refine (flip_d B _ _ _ hA.dr.str rfl (by omega)).mono ?_; rintro e w1 ⟨q, rfl, hd⟩)
  have hB := hA.hB
  have h3 := hA.h3
  refine Met.intro (hS _ _ ?_)
  exact ⟨q, g3, p, ⟨hA.dr.trans hd, hB, h3, hA.res.drawn hd (by omega), hA.fr.drawn hd (by omega), hA.ok⟩, Fr.of _ rfl ⟨rfl, rfl, rfl, rfl, trivial⟩⟩

set_option maxRecDepth 100000 in
set_option maxHeartbeats 1000000 in
theorem wo3 (w0 : World) (B b : Nat) (hb : b ≤ 100000) : T3 Tryd.prog (fun a w => ∃ (g3 : Nat) (p : Int × Int), Wo w0 B (b + 2) g3 p w ∧ Fr 33 [(17, .bool true), (0, .pointer (some ⟨B, 0, none⟩)), (2, .pointer (some ⟨w0.heap.size, 0, none⟩)), (3, .pointer (some ⟨g3, 0, none⟩))] a) (sel [1, 1, 0, 1, 2] worthB) (fun a w => ∃ (g3 : Nat) (p : Int × Int), Wo w0 B (b + 3) g3 p w ∧ Fr 33 [(0, .pointer (some ⟨B, 0, none⟩)), (2, .pointer (some ⟨w0.heap.size, 0, none⟩)), (3, .pointer (some ⟨g3, 0, none⟩))] a) No 9 (fun a w => ∃ p : Int × Int, Fr 33 [(2, .pointer (some ⟨w0.heap.size, 0, none⟩))] a ∧ Blk w w0.heap.size (encP p) ∧ FracOk p ∧ Drawn B w0 w (b + 3)) := by
  refine T3.leaf ?_
  rintro Q JS JX JT K hS hK hX hE hT hR a w ⟨g3, p, hA, ⟨f, rfl, q17, q0, q2, q3, _⟩⟩
  have hB := hA.hB
  have h3 := hA.h3
  have hD := hA.dr.alloc (.cells #[.int .i64 2, .int .i64 4, .int .i64 1, .int .i64 3, .int .i64 1, .int .i64 0, .int .i64 (-1), .int .i64 (-1), .int .i64 1, .int .i64 200, .int .i64 10001, .int .i64 1, .int .i64 (-9223372036854775808), .int .i64 1, .int .i64 1, .int .i64 4611686018427387904, .int .i64 0, .int .i64 2] 36)
  have hR := hA.res.alloc (.cells #[.int .i64 2, .int .i64 4, .int .i64 1, .int .i64 3, .int .i64 1, .int .i64 0, .int .i64 (-1), .int .i64 (-1), .int .i64 1, .int .i64 200, .int .i64 10001, .int .i64 1, .int .i64 (-9223372036854775808), .int .i64 1, .int .i64 1, .int .i64 4611686018427387904, .int .i64 0, .int .i64 2] 36)
  have hF := hA.fr.alloc (.cells #[.int .i64 2, .int .i64 4, .int .i64 1, .int .i64 3, .int .i64 1, .int .i64 0, .int .i64 (-1), .int .i64 (-1), .int .i64 1, .int .i64 200, .int .i64 10001, .int .i64 1, .int .i64 (-9223372036854775808), .int .i64 1, .int .i64 1, .int .i64 4611686018427387904, .int .i64 0, .int .i64 2] 36)
  have hL := Blk.new w #[.int .i64 2, .int .i64 4, .int .i64 1, .int .i64 3, .int .i64 1, .int .i64 0, .int .i64 (-1), .int .i64 (-1), .int .i64 1, .int .i64 200, .int .i64 10001, .int .i64 1, .int .i64 (-9223372036854775808), .int .i64 1, .int .i64 1, .int .i64 4611686018427387904, .int .i64 0, .int .i64 2] 36
  have hs0 := hA.fr.1
  clear hA
  rw [frame33, show f 17 = .bool true from q17, show f 0 = .pointer (some ⟨B, 0, none⟩) from q0, show f 2 = .pointer (some ⟨w0.heap.size, 0, none⟩) from q2, show f 3 = .pointer (some ⟨g3, 0, none⟩) from q3]
  clear q17 q0 q2 q3
  conv => arg 2; whnf
  go_wp2_with fail
  generalize w.alloc (.cells #[.int .i64 2, .int .i64 4, .int .i64 1, .int .i64 3, .int .i64 1, .int .i64 0, .int .i64 (-1), .int .i64 (-1), .int .i64 1, .int .i64 200, .int .i64 10001, .int .i64 1, .int .i64 (-9223372036854775808), .int .i64 1, .int .i64 1, .int .i64 4611686018427387904, .int .i64 0, .int .i64 2] 36) = W at *
  refine (next_d B _ 9 _ hD.str (by decide) (by decide) (by omega)).mono ?_
  rintro e w1 ⟨r, rfl, hr0, hr1, hd⟩
  replace hD := hD.trans hd
  replace hR := hR.drawn hd (by omega)
  replace hF := hF.drawn hd (by omega)
  replace hL := hL.drawn hd (by omega)
  obtain ⟨c0, c1⟩ := fr_cells (l := worthO) hL rfl r hr0 hr1
  have hok := frac_ok worthO_ok _ (geta_mem hr0 hr1)
  have d0 := hF.2.1 0 _ rfl
  have d1 := hF.2.1 1 _ rfl
  have f0 := hF.2.2 0
  have f1 := hF.2.2 1
  clear hd hL
  generalize geta worthO r = p' at *
  go_wp2_with fail
  refine Met.intro (hS _ _ ?_)
  exact ⟨g3, p', ⟨(hD.set _ (by omega) (by omega)).set _ (by omega) (by omega), hB, h3, (hR.other _ (by omega)).other _ (by omega), (hF.set 0 (by simp [encP]) _).set 1 (by simp [encP]) _, hok⟩, Fr.of _ rfl ⟨rfl, rfl, rfl, trivial⟩⟩

set_option maxRecDepth 100000 in
set_option maxHeartbeats 1000000 in
theorem wo4 (w0 : World) (B b : Nat) (hb : b ≤ 100000) : T3 Tryd.prog (fun a w => ∃ (g3 : Nat) (p : Int × Int), Wo w0 B (b + 3) g3 p w ∧ Fr 33 [(0, .pointer (some ⟨B, 0, none⟩)), (2, .pointer (some ⟨w0.heap.size, 0, none⟩)), (3, .pointer (some ⟨g3, 0, none⟩))] a) (sel [1, 1, 1, 0] worthB) (fun a w => ∃ p : Int × Int, Fr 33 [(2, .pointer (some ⟨w0.heap.size, 0, none⟩))] a ∧ Blk w w0.heap.size (encP p) ∧ FracOk p ∧ Drawn B w0 w (b + 3)) No 9 (fun a w => ∃ p : Int × Int, Fr 33 [(2, .pointer (some ⟨w0.heap.size, 0, none⟩))] a ∧ Blk w w0.heap.size (encP p) ∧ FracOk p ∧ Drawn B w0 w (b + 3)) := by
  refine T3.leaf ?_
  rintro Q JS JX JT K hS hK hX hE hT hR a w ⟨g3, p, hA, ⟨f, rfl, q0, q2, q3, _⟩⟩
  have hB := hA.hB
  rw [frame33, show f 0 = .pointer (some ⟨B, 0, none⟩) from q0, show f 2 = .pointer (some ⟨w0.heap.size, 0, none⟩) from q2, show f 3 = .pointer (some ⟨g3, 0, none⟩) from q3]
  clear q0 q2 q3
  conv => arg 2; whnf
  have c0 := hA.fr.2.1 0 _ rfl
  have c1 := hA.fr.2.1 1 _ rfl
  have d0 := hA.res.2.1 0 _ rfl
  have d1 := hA.res.2.1 1 _ rfl
  have f0 := hA.res.2.2 0
  have f1 := hA.res.2.2 1
  go_wp2_with fail
  refine Met.intro (hS _ _ ?_)
  exact ⟨p, Fr.of _ rfl ⟨rfl, trivial⟩, (hA.res.set 0 (by simp) _).set 1 (by simp) _, hA.ok, (hA.dr.set _ (Nat.le_refl _) hB).set _ (Nat.le_refl _) hB⟩

set_option maxRecDepth 100000 in
set_option maxHeartbeats 1000000 in
theorem worth_any (B b : Nat) (w0 : World) (hS : Str B w0 b) (hb : b ≤ 100000) :
    Calls Tryd.prog 25 #[.pointer (some ⟨B, 0, none⟩)] w0 fun e w' => ∃ p : Int × Int, e = .returned (.agg #[.int .i64 p.1, .int .i64 p.2]) ∧ FracOk p ∧ Drawn B w0 w' (b + 3) := by
  go_enter Tryd.func25, Tryd.ntmps25
  refine T3.done (P := Tryd.prog) (s := worthB) (R := fun a w => w = w0 ∧ Fr 33 [(0, .pointer (some ⟨B, 0, none⟩))] a)
    (T3.seq (s := (sel [0] worthB)) (c := (sel [1] worthB)) ?_ (T3.seq (s := (sel [1, 0] worthB)) (c := (sel [1, 1] worthB)) (wo1 w0 B b hb hS) (T3.seq (s := (sel [1, 1, 0] worthB)) (c := (sel [1, 1, 1] worthB)) (T3.seq (s := (sel [1, 1, 0, 0] worthB)) (c := (sel [1, 1, 0, 1] worthB)) (wo2 w0 B b hb) ?_) (T3.seq (s := (sel [1, 1, 1, 0] worthB)) (c := .ret) (wo4 w0 B b hb) (T3.ret (fun _ _ h => h)))))) ⟨rfl, Fr.of _ rfl ⟨rfl, trivial⟩⟩ ?_
  · refine T3.leaf ?_
    rintro Q JS JX JT K hS_ hK hX hE hT hR a w ⟨hw, ⟨f, rfl, q0, _⟩⟩
    subst hw
    rw [frame33, show f 0 = _ from q0]
    clear q0
    conv => arg 2; whnf
    go_wp2_with fail
    refine Met.intro (hS_ _ _ ?_)
    exact ⟨rfl, Fr.of _ rfl ⟨rfl, rfl, trivial⟩⟩
  · refine T3.ex fun q => ?_
    refine T3.cond (o := .tmp 17) (x := (sel [1, 1, 0, 1, 2] worthB)) (y := .skip) (fun a w => q = true ∧ ∃ (g3 : Nat) (p : Int × Int), Wo w0 B (b + 2) g3 p w ∧ Fr 33 [(17, .bool true), (0, .pointer (some ⟨B, 0, none⟩)), (2, .pointer (some ⟨w0.heap.size, 0, none⟩)), (3, .pointer (some ⟨g3, 0, none⟩))] a) (fun a w => ∃ (g3 : Nat) (p : Int × Int), Wo w0 B (b + 2) g3 p w ∧ Fr 33 [(0, .pointer (some ⟨B, 0, none⟩)), (2, .pointer (some ⟨w0.heap.size, 0, none⟩)), (3, .pointer (some ⟨g3, 0, none⟩))] a) ?_ ((wo3 w0 B b hb).pre (fun a w h => h.2)) (T3.skip ?_)
    · rintro a w ⟨g3, p, hA, hF⟩
      have he := hF.eval 17 (by decide) (v := .bool q) (by simp)
      cases q
      · exact .inr ⟨he, g3, p, hA, hF.tail⟩
      · exact .inl ⟨he, rfl, g3, p, hA, hF⟩
    · rintro a w ⟨g3, p, hA, hF⟩
      exact ⟨g3, p, ⟨hA.dr.mono (by omega), hA.hB, hA.h3, hA.res, hA.fr, hA.ok⟩, hF⟩
  · rintro a w ⟨p, ⟨f, rfl, q2, _⟩, hR, hok, hd⟩
    rw [frame33, show f 2 = _ from q2]
    have r0 := hR.2.1 0 _ rfl
    have r1 := hR.2.1 1 _ rfl
    exact bodyPost_ret (v := .agg #[.int .i64 p.1, .int .i64 p.2]) (by simp [results, Tryd.results25, go_sem, r0, r1]) rfl ⟨p, rfl, hok, hd⟩

end Go.Proofs.YtbidnbcclibigaaDoor
