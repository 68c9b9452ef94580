/-
  Rules that the stream hands out. Conditions: the bounds that each theorem names.
-/
import Derived.Test.YtbidnbcclibigaaDoorWorth
namespace Go.Bw
open Go.RowKit
theorem T3.blockc {P : Program} {R S X T : Rel} {c : Code} {id id' : Nat} (h : T3 P R c S S id T) : T3 P R (.block id c) S X id' T := by
  intro a w hR
  refine wp_block (wp_mono (h a w hR) ?_)
  intro e a w q
  cases e with
  | normal => exact q
  | exit i =>
    obtain ⟨rfl, q⟩ := q
    show Exit.inBlock i _ (.exit i) a w
    simp only [Exit.inBlock, if_true]
    exact q
  | ret => exact q
  | goto l => exact q
  | panic ch => exact q
  | outgrown => exact q
theorem Held.belowc {n₀ B sz n : Nat} {w w' : World} {v : Value} {cs : List Value} (h : Held n₀ B w sz n v cs) (g : Below w.heap.size w w') : Held n₀ B w' sz n v cs := h.grow (row := none) (grown_of_below g) (by simp)
end Go.Bw
namespace Go.Proofs.YtbidnbcclibigaaDoor
open Go.RowKit Go.Bw
theorem el_rule : Elem Tryd.prog 26 57 (.agg #[.string ByteArray.empty, .string ByteArray.empty, .string ByteArray.empty, .int .i64 0, .int .i64 0, .int .i64 0, .int .i64 0]) 7 80 := ⟨by kernel_rfl, by kernel_rfl, by kernel_rfl, by decide, by decide⟩
def ruleNames : List ByteArray := [⟨#[114, 97]⟩, ⟨#[114, 98]⟩, ⟨#[114, 99]⟩, ⟨#[114, 100]⟩, ⟨#[114, 101]⟩]
def ruleStats : List ByteArray := [⟨#[103, 111, 97, 108]⟩, ⟨#[112, 97, 115, 115]⟩, ⟨#[115, 97, 118, 101]⟩, ⟨#[121, 97, 114, 100]⟩]
def rulePos : List ByteArray := [⟨#[]⟩, ⟨#[]⟩, ⟨#[103, 107]⟩, ⟨#[100, 102]⟩]
theorem ruleNames_sm : SmAll ruleNames := by intro s hs; simp [ruleNames] at hs; rcases hs with rfl | rfl | rfl | rfl | rfl <;> decide
theorem ruleStats_sm : SmAll ruleStats := by intro s hs; simp [ruleStats] at hs; rcases hs with rfl | rfl | rfl | rfl <;> decide
theorem rulePos_sm : SmAll rulePos := by intro s hs; simp [rulePos] at hs; rcases hs with rfl | rfl | rfl <;> decide
def AllOk (rs : List RuleL) : Prop := ∀ r ∈ rs, RuleOk r
theorem AllOk.nil : AllOk [] := fun _ h => by cases h
theorem AllOk.snoc {l : List RuleL} {r : RuleL} (h : AllOk l) (hr : RuleOk r) : AllOk (l ++ [r]) := fun x hx => by
  rcases List.mem_append.1 hx with hx | hx
  · exact h x hx
  · rw [List.mem_singleton.1 hx]; exact hr
/-- The rules so far. -/
structure Ru (w0 : World) (B b m : Nat) (out : Value) (rs : List RuleL) (w : World) : Prop where
  own : w.ownsRow (w0.heap.size + 1) 57 7 out rs.length (cellsOf encR rs)
  ok : AllOk rs
  len : rs.length ≤ m
  dr : Drawn B w0 w b
  lit : Held B (w0.heap.size + 1) w 1 5 (.slice (some ⟨w0.heap.size, 0, none⟩) 5 5) (cellsOf encS ruleNames)
  hz : w0.heap.size + 1 ≤ w.heap.size
  hB : B < w0.heap.size
theorem Ru.drawn {w0 w w' : World} {B b b' m : Nat} {out : Value} {rs : List RuleL} (h : Ru w0 B b m out rs w) (d : Drawn B w w' b') : Ru w0 B b' m out rs w' :=
  ⟨owns_drawn h.own d (Nat.lt_succ_of_lt h.hB), h.ok, h.len, h.dr.trans d, h.lit.drawn d, Nat.le_trans h.hz d.size, h.hB⟩
theorem Ru.below {w0 w w' : World} {B b m : Nat} {out : Value} {rs : List RuleL} (h : Ru w0 B b m out rs w) (g : Below w.heap.size w w') : Ru w0 B b m out rs w' :=
  ⟨owns_below h.own g (Nat.le_refl _), h.ok, h.len, h.dr.below g, h.lit.belowc g, Nat.le_trans h.hz g.size, h.hB⟩
theorem Ru.mono {w0 w : World} {B b b' m m' : Nat} {out : Value} {rs : List RuleL} (h : Ru w0 B b m out rs w) (hb : b ≤ b') (hm : m ≤ m') : Ru w0 B b' m' out rs w :=
  ⟨h.own, h.ok, Nat.le_trans h.len hm, h.dr.mono hb, h.lit, h.hz, h.hB⟩
noncomputable def rrB : Code := (Tryd.f20.body).getD .skip
set_option maxRecDepth 100000 in
theorem frame47 (f : Nat → Value) : frame 47 f = ⟨#[f 0, f 1, f 2, f 3, f 4, f 5, f 6, f 7, f 8, f 9, f 10, f 11, f 12, f 13, f 14, f 15, f 16, f 17, f 18, f 19, f 20, f 21, f 22, f 23, f 24, f 25, f 26, f 27, f 28, f 29, f 30, f 31, f 32, f 33, f 34, f 35, f 36, f 37, f 38, f 39, f 40, f 41, f 42, f 43, f 44, f 45, f 46], []⟩ := by rfl
def ruI (w0 : World) (B b : Nat) (k : Int) (a : Act) (w : World) : Prop := ∃ (out : Value) (rs : List RuleL), (0 ≤ k ∧ k ≤ 5) ∧ Ru w0 B (b + 10 * k.toNat) k.toNat out rs w ∧ Fr 47 [(0, .pointer (some ⟨B, 0, none⟩)), (3, out), (7, .slice (some ⟨w0.heap.size, 0, none⟩) 5 5), (8, .int .i64 5), (9, .int .i64 k)] a
set_option maxRecDepth 100000 in
set_option maxHeartbeats 1000000 in
theorem rr4 (w0 : World) (B b : Nat) (hb : b ≤ 100000) (hB : B < w0.heap.size) (k : Int) : T3 Tryd.prog (fun a w => ∃ (out : Value) (rs : List RuleL), (0 ≤ k ∧ k < 5) ∧ (True) ∧ Ru w0 B (b + 10 * k.toNat) (k.toNat) out rs w ∧ Fr 47 [(0, .pointer (some ⟨B, 0, none⟩)), (3, out), (7, .slice (some ⟨w0.heap.size, 0, none⟩) 5 5), (8, .int .i64 5), (9, .int .i64 k)] a) (sel [1, 1, 0, 1, 4, 4, 1, 1, 0, 4, 0] rrB) (fun a w => ∃ s, Sm s ∧ (∃ (out : Value) (rs : List RuleL), (0 ≤ k ∧ k < 5) ∧ True ∧ Ru w0 B (b + 10 * k.toNat) (k.toNat) out rs w ∧ Fr 47 [(5, .string s), (0, .pointer (some ⟨B, 0, none⟩)), (3, out), (7, .slice (some ⟨w0.heap.size, 0, none⟩) 5 5), (8, .int .i64 5), (9, .int .i64 k)] a)) (No) 0 No := by
  refine T3.leaf ?_
  rintro Q JS JX JT K hS hK hX hE hT hR a w ⟨out, rs, hk, hC, hR_, ⟨f, rfl, q0, q3, q7, q8, q9, _⟩⟩
  obtain ⟨p1, c1, hv1⟩ := (Row.of_owns hR_.own).shape
  subst hv1
  obtain ⟨hk0, hk1⟩ := hk
  have hc := lit_cell hR_.lit k hk0 (by omega)
  have hs1 : Sm (geta ruleNames k) := ruleNames_sm _ (geta_mem hk0 (by show k < 5; omega))
  generalize geta ruleNames k = s1 at *
  rw [frame47, show f 0 = .pointer (some ⟨B, 0, none⟩) from q0, show f 3 = (.slice p1 rs.length c1) from q3, show f 7 = .slice (some ⟨w0.heap.size, 0, none⟩) 5 5 from q7, show f 8 = .int .i64 5 from q8, show f 9 = .int .i64 k from q9]
  clear q0 q3 q7 q8 q9
  conv => arg 2; whnf
  go_wp2_with fail
  refine Met.intro (hS _ _ ?_)
  exact ⟨s1, hs1, _, rs, ⟨hk0, hk1⟩, trivial, hR_, Fr.of _ rfl ⟨rfl, rfl, rfl, rfl, rfl, rfl, trivial⟩⟩

set_option maxRecDepth 100000 in
set_option maxHeartbeats 1000000 in
theorem rr5 (w0 : World) (B b : Nat) (hb : b ≤ 100000) (hB : B < w0.heap.size) (k : Int) (s : ByteArray) : T3 Tryd.prog (fun a w => ∃ (out : Value) (rs : List RuleL), (0 ≤ k ∧ k < 5) ∧ (True) ∧ Ru w0 B (b + 10 * k.toNat) (k.toNat) out rs w ∧ Fr 47 [(5, .string s), (0, .pointer (some ⟨B, 0, none⟩)), (3, out), (7, .slice (some ⟨w0.heap.size, 0, none⟩) 5 5), (8, .int .i64 5), (9, .int .i64 k)] a) (sel [1, 1, 0, 1, 4, 4, 1, 1, 0, 4, 1, 0, 0] rrB) (fun a w => ∃ q, ∃ (out : Value) (rs : List RuleL), (0 ≤ k ∧ k < 5) ∧ (True) ∧ Ru w0 B (b + 10 * k.toNat + 1) (k.toNat) out rs w ∧ Fr 47 [(14, .bool q), (5, .string s), (0, .pointer (some ⟨B, 0, none⟩)), (3, out), (7, .slice (some ⟨w0.heap.size, 0, none⟩) 5 5), (8, .int .i64 5), (9, .int .i64 k)] a) No 1 No := by
  refine T3.leaf ?_
  rintro Q JS JX JT K hS hK hX hE hT hR a w ⟨out, rs, hk, hC, hR_, ⟨f, rfl, q5, q0, q3, q7, q8, q9, _⟩⟩
  obtain ⟨p1, c1, hv1⟩ := (Row.of_owns hR_.own).shape
  subst hv1
  obtain ⟨hk0, hk1⟩ := hk
  rw [frame47, show f 5 = .string s from q5, show f 0 = .pointer (some ⟨B, 0, none⟩) from q0, show f 3 = (.slice p1 rs.length c1) from q3, show f 7 = .slice (some ⟨w0.heap.size, 0, none⟩) 5 5 from q7, show f 8 = .int .i64 5 from q8, show f 9 = .int .i64 k from q9]
  clear q5 q0 q3 q7 q8 q9
  conv => arg 2; whnf
  go_wp2_with (go_at_call 21; refine (flip_d B _ _ _ hR_.dr.str rfl (by omega)).mono ?_; rintro e w1 ⟨q, rfl, hd⟩; replace hR_ := hR_.drawn hd; clear hd)
  refine Met.intro (hS _ _ ?_)
  exact ⟨q, _, rs, ⟨hk0, hk1⟩, trivial, hR_, Fr.of _ rfl ⟨rfl, rfl, rfl, rfl, rfl, rfl, rfl, trivial⟩⟩

set_option maxRecDepth 100000 in
set_option maxHeartbeats 1000000 in
theorem rr6 (w0 : World) (B b : Nat) (hb : b ≤ 100000) (hB : B < w0.heap.size) (k : Int) (s : ByteArray) (hs : Sm s) : T3 Tryd.prog (fun a w => ∃ (out : Value) (rs : List RuleL), (0 ≤ k ∧ k < 5) ∧ (True) ∧ Ru w0 B (b + 10 * k.toNat + 1) (k.toNat) out rs w ∧ Fr 47 [(5, .string s), (0, .pointer (some ⟨B, 0, none⟩)), (3, out), (7, .slice (some ⟨w0.heap.size, 0, none⟩) 5 5), (8, .int .i64 5), (9, .int .i64 k)] a) (sel [1, 1, 0, 1, 4, 4, 1, 1, 0, 4, 1, 1, 0] rrB) (fun a w => ∃ (g : Nat) (r : RuleL), ∃ (out : Value) (rs : List RuleL), (0 ≤ k ∧ k < 5) ∧ (Blk w g (encR r) ∧ RuleOk r ∧ w0.heap.size + 1 ≤ g ∧ ∀ k2, out.ownBlock = some k2 → k2 ≠ g) ∧ Ru w0 B (b + 10 * k.toNat + 5) (k.toNat) out rs w ∧ Fr 47 [(6, .pointer (some ⟨g, 0, none⟩)), (0, .pointer (some ⟨B, 0, none⟩)), (3, out), (7, .slice (some ⟨w0.heap.size, 0, none⟩) 5 5), (8, .int .i64 5), (9, .int .i64 k)] a) No 1 No := by
  refine T3.leaf ?_
  rintro Q JS JX JT K hS hK hX hE hT hR a w ⟨out, rs, hk, hC, hR_, ⟨f, rfl, q5, q0, q3, q7, q8, q9, _⟩⟩
  obtain ⟨p1, c1, hv1⟩ := (Row.of_owns hR_.own).shape
  subst hv1
  obtain ⟨hk0, hk1⟩ := hk
  rw [frame47, show f 5 = .string s from q5, show f 0 = .pointer (some ⟨B, 0, none⟩) from q0, show f 3 = (.slice p1 rs.length c1) from q3, show f 7 = .slice (some ⟨w0.heap.size, 0, none⟩) 5 5 from q7, show f 8 = .int .i64 5 from q8, show f 9 = .int .i64 k from q9]
  clear q5 q0 q3 q7 q8 q9
  conv => arg 2; whnf
  go_wp2_with fail
  refine (some_lit B _ ruleStats 4 _ _ _ rfl rfl (by decide) (by decide) hR_.dr.str (by omega)).mono ?_
  rintro e w1 ⟨s1, rfl, hm1, hd⟩
  replace hR_ := hR_.drawn hd
  clear hd
  go_wp2_with fail
  refine (some_lit B _ rulePos 4 _ _ _ rfl rfl (by decide) (by decide) hR_.dr.str (by omega)).mono ?_
  rintro e w2 ⟨s2, rfl, hm2, hd⟩
  replace hR_ := hR_.drawn hd
  clear hd
  go_wp2_with fail
  refine (range_d B _ _ _ _ hR_.dr.str rfl (by omega)).mono ?_
  rintro e w3 ⟨kd, rfl, hkd, hd⟩
  replace hR_ := hR_.drawn hd
  clear hd
  go_wp2_with fail
  refine (pick_lit B _ [100, 400, 4, 50, -200, 7] 6 _ _ _ rfl rfl (by decide) (by decide) hR_.dr.str (by omega)).mono ?_
  rintro e w4 ⟨n1, rfl, hm3, hd⟩
  replace hR_ := hR_.drawn hd
  clear hd
  have hn : -1000 ≤ n1 ∧ n1 ≤ 1000 := by
    simp at hm3
    omega
  have hbn := ofH_bounds n1 (by omega) (by omega)
  go_wp2_with fail
  refine (ofHundredths_ref n1 _ (by omega) (by omega)).mono ?_
  rintro e w5 ⟨rfl, hb5⟩
  replace hR_ := hR_.below hb5
  clear hb5
  generalize ofHn n1 = x1 at *
  generalize ofHd n1 = y1 at *
  go_wp2_with fail
  have hz := hR_.hz
  refine Met.intro (hS _ _ ?_)
  exact ⟨w5.heap.size, ⟨s, s1, s2, kd, 0, x1, y1⟩, _, rs, ⟨hk0, hk1⟩, ⟨Blk.new w5 #[.string s, .string s1, .string s2, .int .i64 kd, .int .i64 0, .int .i64 x1, .int .i64 y1] _, ⟨hs.le, (ruleStats_sm _ hm1).le, (rulePos_sm _ hm2).le, by show _ ≤ x1; omega, by show x1 ≤ _; omega, by show _ ≤ y1; omega, by show y1 ≤ _; omega⟩, hz, fun k2 hk2 => by have := hR_.own.lt k2 hk2; omega⟩,
    hR_.below ((Below.refl _ _).alloc (Nat.le_refl _) _), Fr.of _ rfl ⟨rfl, rfl, rfl, rfl, rfl, rfl, trivial⟩⟩

set_option maxRecDepth 100000 in
set_option maxHeartbeats 1000000 in
theorem rr7 (w0 : World) (B b : Nat) (hb : b ≤ 100000) (hB : B < w0.heap.size) (k : Int) (g : Nat) (r : RuleL) : T3 Tryd.prog (fun a w => ∃ (out : Value) (rs : List RuleL), (0 ≤ k ∧ k < 5) ∧ (Blk w g (encR r) ∧ RuleOk r ∧ w0.heap.size + 1 ≤ g ∧ ∀ k2, out.ownBlock = some k2 → k2 ≠ g) ∧ Ru w0 B (b + 10 * k.toNat + 5) (k.toNat) out rs w ∧ Fr 47 [(6, .pointer (some ⟨g, 0, none⟩)), (0, .pointer (some ⟨B, 0, none⟩)), (3, out), (7, .slice (some ⟨w0.heap.size, 0, none⟩) 5 5), (8, .int .i64 5), (9, .int .i64 k)] a) (sel [1, 1, 0, 1, 4, 4, 1, 1, 0, 4, 1, 1, 1, 0, 0] rrB) (fun a w => ∃ q, ∃ (out : Value) (rs : List RuleL), (0 ≤ k ∧ k < 5) ∧ (Blk w g (encR r) ∧ RuleOk r ∧ w0.heap.size + 1 ≤ g ∧ ∀ k2, out.ownBlock = some k2 → k2 ≠ g) ∧ Ru w0 B (b + 10 * k.toNat + 5) (k.toNat) out rs w ∧ Fr 47 [(36, .bool q), (6, .pointer (some ⟨g, 0, none⟩)), (0, .pointer (some ⟨B, 0, none⟩)), (3, out), (7, .slice (some ⟨w0.heap.size, 0, none⟩) 5 5), (8, .int .i64 5), (9, .int .i64 k)] a) No 1 No := by
  refine T3.leaf ?_
  rintro Q JS JX JT K hS hK hX hE hT hR a w ⟨out, rs, hk, ⟨hG, hok, hzg, hne⟩, hR_, ⟨f, rfl, q6, q0, q3, q7, q8, q9, _⟩⟩
  obtain ⟨p1, c1, hv1⟩ := (Row.of_owns hR_.own).shape
  subst hv1
  obtain ⟨hk0, hk1⟩ := hk
  have c3 := hG.2.1 3 _ rfl
  have HG := Lib.hid hG
  clear hG
  generalize hkd : r.kind = kd at *
  clear hkd
  rw [frame47, show f 6 = .pointer (some ⟨g, 0, none⟩) from q6, show f 0 = .pointer (some ⟨B, 0, none⟩) from q0, show f 3 = (.slice p1 rs.length c1) from q3, show f 7 = .slice (some ⟨w0.heap.size, 0, none⟩) 5 5 from q7, show f 8 = .int .i64 5 from q8, show f 9 = .int .i64 k from q9]
  clear q6 q0 q3 q7 q8 q9
  conv => arg 2; whnf
  cases e1 : (kd == 2)
  · cases e2 : (kd == 3)
    all_goals
      go_wp2_with fail
      refine Met.intro (hS _ _ ?_)
      exact ⟨_, _, rs, ⟨hk0, hk1⟩, ⟨HG.out, hok, hzg, hne⟩, hR_, Fr.of _ rfl ⟨rfl, rfl, rfl, rfl, rfl, rfl, rfl, trivial⟩⟩
  · go_wp2_with fail
    refine Met.intro (hS _ _ ?_)
    exact ⟨_, _, rs, ⟨hk0, hk1⟩, ⟨HG.out, hok, hzg, hne⟩, hR_, Fr.of _ rfl ⟨rfl, rfl, rfl, rfl, rfl, rfl, rfl, trivial⟩⟩

set_option maxRecDepth 100000 in
set_option maxHeartbeats 1000000 in
theorem rr8 (w0 : World) (B b : Nat) (hb : b ≤ 100000) (hB : B < w0.heap.size) (k : Int) (g : Nat) (r : RuleL) : T3 Tryd.prog (fun a w => ∃ (out : Value) (rs : List RuleL), (0 ≤ k ∧ k < 5) ∧ (Blk w g (encR r) ∧ RuleOk r ∧ w0.heap.size + 1 ≤ g ∧ ∀ k2, out.ownBlock = some k2 → k2 ≠ g) ∧ Ru w0 B (b + 10 * k.toNat + 5) (k.toNat) out rs w ∧ Fr 47 [(36, .bool true), (6, .pointer (some ⟨g, 0, none⟩)), (0, .pointer (some ⟨B, 0, none⟩)), (3, out), (7, .slice (some ⟨w0.heap.size, 0, none⟩) 5 5), (8, .int .i64 5), (9, .int .i64 k)] a) (sel [1, 1, 0, 1, 4, 4, 1, 1, 0, 4, 1, 1, 1, 0, 1, 2] rrB) (fun a w => ∃ r : RuleL, ∃ (out : Value) (rs : List RuleL), (0 ≤ k ∧ k < 5) ∧ (Blk w g (encR r) ∧ RuleOk r ∧ w0.heap.size + 1 ≤ g ∧ ∀ k2, out.ownBlock = some k2 → k2 ≠ g) ∧ Ru w0 B (b + 10 * k.toNat + 6) (k.toNat) out rs w ∧ Fr 47 [(6, .pointer (some ⟨g, 0, none⟩)), (0, .pointer (some ⟨B, 0, none⟩)), (3, out), (7, .slice (some ⟨w0.heap.size, 0, none⟩) 5 5), (8, .int .i64 5), (9, .int .i64 k)] a) No 1 No := by
  refine T3.leaf ?_
  rintro Q JS JX JT K hS hK hX hE hT hR a w ⟨out, rs, hk, ⟨hG, hok, hzg, hne⟩, hR_, ⟨f, rfl, q36, q6, q0, q3, q7, q8, q9, _⟩⟩
  obtain ⟨p1, c1, hv1⟩ := (Row.of_owns hR_.own).shape
  subst hv1
  obtain ⟨hk0, hk1⟩ := hk
  rw [frame47, show f 36 = .bool true from q36, show f 6 = .pointer (some ⟨g, 0, none⟩) from q6, show f 0 = .pointer (some ⟨B, 0, none⟩) from q0, show f 3 = (.slice p1 rs.length c1) from q3, show f 7 = .slice (some ⟨w0.heap.size, 0, none⟩) 5 5 from q7, show f 8 = .int .i64 5 from q8, show f 9 = .int .i64 k from q9]
  clear q36 q6 q0 q3 q7 q8 q9
  conv => arg 2; whnf
  have hBg : g ≠ B := by omega
  go_wp2_with (go_at_call 45; refine (pick_lit B _ [1, 2, 3, 7, 100] 5 _ _ _ rfl rfl (by decide) (by decide) hR_.dr.str (by omega)).mono ?_; rintro e w4 ⟨n1, rfl, hm3, hd⟩; replace hR_ := hR_.drawn hd; replace hG := hG.drawn hd hBg; clear hd; have c4 := hG.2.1 4 _ rfl; have f4 := hG.2.2 4)
  have hgl := hG.1
  refine Met.intro (hS _ _ ?_)
  exact ⟨⟨r.key, r.stat, r.pos, r.kind, n1, r.num, r.den⟩, _, rs, ⟨hk0, hk1⟩, ⟨hG.set 4 (by simp [encR]) _, ⟨hok.key, hok.stat, hok.pos, hok.num0, hok.num1, hok.den0, hok.den1⟩, hzg, hne⟩,
    ⟨owns_other hR_.own (fun k hk => hne k hk), hR_.ok, hR_.len, hR_.dr.set _ (by omega) (by omega), hR_.lit.grow (grown_setCell _ _ _ _) (fun k hk => .inr (by cases hk; omega)), by simpa [World.setCell] using hR_.hz, hB⟩, Fr.of _ rfl ⟨rfl, rfl, rfl, rfl, rfl, rfl, trivial⟩⟩

set_option maxRecDepth 100000 in
set_option maxHeartbeats 1000000 in
theorem rr9 (w0 : World) (B b : Nat) (hb : b ≤ 100000) (hB : B < w0.heap.size) (k : Int) (g : Nat) (r : RuleL) : T3 Tryd.prog (fun a w => ∃ (out : Value) (rs : List RuleL), (0 ≤ k ∧ k < 5) ∧ (Blk w g (encR r) ∧ RuleOk r ∧ w0.heap.size + 1 ≤ g ∧ ∀ k2, out.ownBlock = some k2 → k2 ≠ g) ∧ Ru w0 B (b + 10 * k.toNat + 6) (k.toNat) out rs w ∧ Fr 47 [(6, .pointer (some ⟨g, 0, none⟩)), (0, .pointer (some ⟨B, 0, none⟩)), (3, out), (7, .slice (some ⟨w0.heap.size, 0, none⟩) 5 5), (8, .int .i64 5), (9, .int .i64 k)] a) (sel [1, 1, 0, 1, 4, 4, 1, 1, 0, 4, 1, 1, 1, 1] rrB) (fun a w => ∃ (out : Value) (rs : List RuleL), (0 ≤ k ∧ k < 5) ∧ Ru w0 B (b + 10 * k.toNat + 10) (k.toNat + 1) out rs w ∧ Fr 47 [(0, .pointer (some ⟨B, 0, none⟩)), (3, out), (7, .slice (some ⟨w0.heap.size, 0, none⟩) 5 5), (8, .int .i64 5), (9, .int .i64 k)] a) No 1 No := by
  refine T3.leaf ?_
  rintro Q JS JX JT K hS hK hX hE hT hR a w ⟨out, rs, hk, ⟨hG, hok, hzg, hne⟩, hR_, ⟨f, rfl, q6, q0, q3, q7, q8, q9, _⟩⟩
  obtain ⟨p1, c1, hv1⟩ := (Row.of_owns hR_.own).shape
  subst hv1
  obtain ⟨hk0, hk1⟩ := hk
  have hE := el_rule
  have hc0 := hG.2.1 0 _ rfl
  have hc1 := hG.2.1 1 _ rfl
  have hc2 := hG.2.1 2 _ rfl
  have hc3 := hG.2.1 3 _ rfl
  have hc4 := hG.2.1 4 _ rfl
  have hc5 := hG.2.1 5 _ rfl
  have hc6 := hG.2.1 6 _ rfl
  have hzz := hR_.hz
  have hll := hR_.len
  rw [frame47, show f 6 = .pointer (some ⟨g, 0, none⟩) from q6, show f 0 = .pointer (some ⟨B, 0, none⟩) from q0, show f 3 = (.slice p1 rs.length c1) from q3, show f 7 = .slice (some ⟨w0.heap.size, 0, none⟩) 5 5 from q7, show f 8 = .int .i64 5 from q8, show f 9 = .int .i64 k from q9]
  clear q6 q0 q3 q7 q8 q9
  conv => arg 2; whnf
  go_wp2_with (at_builtin; refine app_law rfl _ _ _ rfl hE (hR_.own.alloc _) rfl [.string r.key, .string r.stat, .string r.pos, .int .i64 r.kind, .int .i64 r.many, .int .i64 r.num, .int .i64 r.den] rfl rfl (cells_new _ #[_, _, _, _, _, _, _] _) (by simp [Value.oneCell']) (by omega) (by simp; omega) ?_; intro v' w3 hown3 hgr)
  have hz3 := hgr.size
  refine Met.intro (hS _ _ ?_)
  exact ⟨v', rs ++ [r], ⟨hk0, hk1⟩, ⟨by rw [cellsOf_snoc, List.length_append]; exact hown3, hR_.ok.snoc hok, by simp; omega, ((hR_.dr.alloc _).app (hR_.own.alloc _) (Nat.le_succ _) (by omega) hgr).mono (by omega), (hR_.lit.alloc _).app (hR_.own.alloc _) hgr, by simp at hz3; omega, hB⟩, Fr.of _ rfl ⟨rfl, rfl, rfl, rfl, rfl, trivial⟩⟩

set_option maxRecDepth 100000 in
set_option maxHeartbeats 1000000 in
theorem rr10 (w0 : World) (B b : Nat) (hb : b ≤ 100000) (hB : B < w0.heap.size) (k : Int) : T3 Tryd.prog (fun a w => ∃ (out : Value) (rs : List RuleL), (0 ≤ k ∧ k < 5) ∧ Ru w0 B (b + 10 * k.toNat + 10) (k.toNat + 1) out rs w ∧ Fr 47 [(0, .pointer (some ⟨B, 0, none⟩)), (3, out), (7, .slice (some ⟨w0.heap.size, 0, none⟩) 5 5), (8, .int .i64 5), (9, .int .i64 k)] a) (sel [1, 1, 0, 1, 4, 4, 1, 1, 1] rrB) (ruI w0 B b (k + 1)) No 0 No := by
  refine T3.leaf ?_
  rintro Q JS JX JT K hS hK hX hE hT hR a w ⟨out, rs, hk, hR_, ⟨f, rfl, q0, q3, q7, q8, q9, _⟩⟩
  obtain ⟨hk0, hk1⟩ := hk
  rw [frame47, show f 0 = .pointer (some ⟨B, 0, none⟩) from q0, show f 3 = out from q3, show f 7 = .slice (some ⟨w0.heap.size, 0, none⟩) 5 5 from q7, show f 8 = .int .i64 5 from q8, show f 9 = .int .i64 k from q9]
  clear q0 q3 q7 q8 q9
  conv => arg 2; whnf
  go_wp2_with fail
  refine Met.intro (hS _ _ ?_)
  exact ⟨_, rs, ⟨by omega, by omega⟩, hR_.mono (by omega) (by omega), Fr.of _ rfl ⟨rfl, rfl, rfl, rfl, rfl, trivial⟩⟩

set_option maxRecDepth 100000 in
set_option maxHeartbeats 1000000 in
theorem rr3 (w0 : World) (B b : Nat) (hb : b ≤ 100000) (hB : B < w0.heap.size) (k : Int) : T3 Tryd.prog (ruI w0 B b k) (sel [1, 1, 0, 1, 4, 4, 0] rrB) (fun a w => ∃ q, Fr 47 ((10, .bool q) :: [(9, .int .i64 k)]) a ∧ ((q = true ↔ k < 5) ∧ ruI w0 B b k a w)) No 0 No := by
  refine T3.leaf ?_
  rintro Q JS JX JT K hS hK hX hE hT hR a w ⟨out, rs, hk, hR_, ⟨f, rfl, q0, q3, q7, q8, q9, _⟩⟩
  obtain ⟨hk0, hk1⟩ := hk
  rw [frame47, show f 0 = .pointer (some ⟨B, 0, none⟩) from q0, show f 3 = out from q3, show f 7 = .slice (some ⟨w0.heap.size, 0, none⟩) 5 5 from q7, show f 8 = .int .i64 5 from q8, show f 9 = .int .i64 k from q9]
  clear q0 q3 q7 q8 q9
  conv => arg 2; whnf
  by_cases hlt : k < 5
  · go_wp2_with fail
    refine Met.intro (hS _ _ ?_)
    exact ⟨true, Fr.of _ rfl ⟨rfl, rfl, trivial⟩, ⟨fun _ => hlt, fun _ => rfl⟩, _, rs, ⟨hk0, hk1⟩, hR_, Fr.of _ rfl ⟨rfl, rfl, rfl, rfl, rfl, trivial⟩⟩
  · have hpb : decide (k < 5) = false := by simp; omega
    go_wp2_with fail
    refine Met.intro (hS _ _ ?_)
    exact ⟨false, Fr.of _ rfl ⟨rfl, rfl, trivial⟩, ⟨(fun h => by cases h), fun h => absurd h (by omega)⟩, _, rs, ⟨hk0, hk1⟩, hR_, Fr.of _ rfl ⟨rfl, rfl, rfl, rfl, rfl, trivial⟩⟩

set_option maxRecDepth 100000 in
set_option maxHeartbeats 1000000 in
theorem ru_body (w0 : World) (B b : Nat) (hb : b ≤ 100000) (hB : B < w0.heap.size) (k : Int) : T3 Tryd.prog (fun a w => ∃ (out : Value) (rs : List RuleL), (0 ≤ k ∧ k < 5) ∧ True ∧ Ru w0 B (b + 10 * k.toNat) k.toNat out rs w ∧ Fr 47 [(0, .pointer (some ⟨B, 0, none⟩)), (3, out), (7, .slice (some ⟨w0.heap.size, 0, none⟩) 5 5), (8, .int .i64 5), (9, .int .i64 k)] a) (sel [1, 1, 0, 1, 4, 4, 1, 1, 0] rrB) (fun a w => ∃ (out : Value) (rs : List RuleL), (0 ≤ k ∧ k < 5) ∧ Ru w0 B (b + 10 * k.toNat + 10) (k.toNat + 1) out rs w ∧ Fr 47 [(0, .pointer (some ⟨B, 0, none⟩)), (3, out), (7, .slice (some ⟨w0.heap.size, 0, none⟩) 5 5), (8, .int .i64 5), (9, .int .i64 k)] a) No 0 No := by
  refine T3.blockc (id := 1) (c := (sel [1, 1, 0, 1, 4, 4, 1, 1, 0, 4] rrB)) ?_
  refine T3.seq (s := (sel [1, 1, 0, 1, 4, 4, 1, 1, 0, 4, 0] rrB)) (c := (sel [1, 1, 0, 1, 4, 4, 1, 1, 0, 4, 1] rrB)) (rr4 w0 B b hb hB k).noX (T3.ex fun s => T3.pure fun hs => ?_)
  refine T3.seq (s := (sel [1, 1, 0, 1, 4, 4, 1, 1, 0, 4, 1, 0] rrB)) (c := (sel [1, 1, 0, 1, 4, 4, 1, 1, 0, 4, 1, 1] rrB)) (S := fun a w => ∃ (out : Value) (rs : List RuleL), (0 ≤ k ∧ k < 5) ∧ True ∧ Ru w0 B (b + 10 * k.toNat + 1) k.toNat out rs w ∧ Fr 47 ((5, .string s) :: [(0, .pointer (some ⟨B, 0, none⟩)), (3, out), (7, .slice (some ⟨w0.heap.size, 0, none⟩) 5 5), (8, .int .i64 5), (9, .int .i64 k)]) a) (T3.seq (s := (sel [1, 1, 0, 1, 4, 4, 1, 1, 0, 4, 1, 0, 0] rrB)) (c := (sel [1, 1, 0, 1, 4, 4, 1, 1, 0, 4, 1, 0, 1] rrB)) (rr5 w0 B b hb hB k s).noX (T3.ex fun q => ?_)) ?_
  · refine T3.cond (o := .tmp 14) (x := .exit 1) (y := .skip) (fun a w => ∃ (out : Value) (rs : List RuleL), (0 ≤ k ∧ k < 5) ∧ Ru w0 B (b + 10 * k.toNat + 10) (k.toNat + 1) out rs w ∧ Fr 47 [(0, .pointer (some ⟨B, 0, none⟩)), (3, out), (7, .slice (some ⟨w0.heap.size, 0, none⟩) 5 5), (8, .int .i64 5), (9, .int .i64 k)] a) (fun a w => ∃ (out : Value) (rs : List RuleL), (0 ≤ k ∧ k < 5) ∧ True ∧ Ru w0 B (b + 10 * k.toNat + 1) k.toNat out rs w ∧ Fr 47 ((5, .string s) :: [(0, .pointer (some ⟨B, 0, none⟩)), (3, out), (7, .slice (some ⟨w0.heap.size, 0, none⟩) 5 5), (8, .int .i64 5), (9, .int .i64 k)]) a) ?_ (T3.exit (fun _ _ h => h)) (T3.skip (fun _ _ h => h))
    rintro a w ⟨out, rs, hk, _, hR, hF⟩
    have he := hF.eval 14 (by decide) (v := .bool q) (by simp)
    cases q
    · exact .inr ⟨he, out, rs, hk, trivial, hR, hF.tail⟩
    · exact .inl ⟨he, out, rs, hk, hR.mono (by omega) (Nat.le_succ _), hF.tail.tail⟩
  · refine T3.seq (s := (sel [1, 1, 0, 1, 4, 4, 1, 1, 0, 4, 1, 1, 0] rrB)) (c := (sel [1, 1, 0, 1, 4, 4, 1, 1, 0, 4, 1, 1, 1] rrB)) (rr6 w0 B b hb hB k s hs).noX (T3.ex fun g => T3.ex fun r => ?_)
    refine T3.seq (s := (sel [1, 1, 0, 1, 4, 4, 1, 1, 0, 4, 1, 1, 1, 0] rrB)) (c := (sel [1, 1, 0, 1, 4, 4, 1, 1, 0, 4, 1, 1, 1, 1] rrB)) (S := fun a w => ∃ r : RuleL, ∃ (out : Value) (rs : List RuleL), (0 ≤ k ∧ k < 5) ∧ (Blk w g (encR r) ∧ RuleOk r ∧ w0.heap.size + 1 ≤ g ∧ ∀ k2, out.ownBlock = some k2 → k2 ≠ g) ∧ Ru w0 B (b + 10 * k.toNat + 6) k.toNat out rs w ∧ Fr 47 [(6, .pointer (some ⟨g, 0, none⟩)), (0, .pointer (some ⟨B, 0, none⟩)), (3, out), (7, .slice (some ⟨w0.heap.size, 0, none⟩) 5 5), (8, .int .i64 5), (9, .int .i64 k)] a) (T3.seq (s := (sel [1, 1, 0, 1, 4, 4, 1, 1, 0, 4, 1, 1, 1, 0, 0] rrB)) (c := (sel [1, 1, 0, 1, 4, 4, 1, 1, 0, 4, 1, 1, 1, 0, 1] rrB)) (rr7 w0 B b hb hB k g r).noX (T3.ex fun q => ?_)) (T3.ex fun r => (rr9 w0 B b hb hB k g r).noX)
    refine T3.cond (o := .tmp 36) (x := (sel [1, 1, 0, 1, 4, 4, 1, 1, 0, 4, 1, 1, 1, 0, 1, 2] rrB)) (y := .skip) (fun a w => q = true ∧ ∃ (out : Value) (rs : List RuleL), (0 ≤ k ∧ k < 5) ∧ (Blk w g (encR r) ∧ RuleOk r ∧ w0.heap.size + 1 ≤ g ∧ ∀ k2, out.ownBlock = some k2 → k2 ≠ g) ∧ Ru w0 B (b + 10 * k.toNat + 5) k.toNat out rs w ∧ Fr 47 [(36, .bool true), (6, .pointer (some ⟨g, 0, none⟩)), (0, .pointer (some ⟨B, 0, none⟩)), (3, out), (7, .slice (some ⟨w0.heap.size, 0, none⟩) 5 5), (8, .int .i64 5), (9, .int .i64 k)] a) (fun a w => ∃ (out : Value) (rs : List RuleL), (0 ≤ k ∧ k < 5) ∧ (Blk w g (encR r) ∧ RuleOk r ∧ w0.heap.size + 1 ≤ g ∧ ∀ k2, out.ownBlock = some k2 → k2 ≠ g) ∧ Ru w0 B (b + 10 * k.toNat + 5) k.toNat out rs w ∧ Fr 47 [(6, .pointer (some ⟨g, 0, none⟩)), (0, .pointer (some ⟨B, 0, none⟩)), (3, out), (7, .slice (some ⟨w0.heap.size, 0, none⟩) 5 5), (8, .int .i64 5), (9, .int .i64 k)] a) ?_ (((rr8 w0 B b hb hB k g r).noX).pre (fun _ _ h => h.2)) (T3.skip ?_)
    · rintro a w ⟨out, rs, hk, hC, hR, hF⟩
      have he := hF.eval 36 (by decide) (v := .bool q) (by simp)
      cases q
      · exact .inr ⟨he, out, rs, hk, hC, hR, hF.tail⟩
      · exact .inl ⟨he, rfl, out, rs, hk, hC, hR, hF⟩
    · rintro a w ⟨out, rs, hk, hC, hR, hF⟩
      exact ⟨r, out, rs, hk, hC, hR.mono (by omega) (Nat.le_refl _), hF⟩

set_option maxRecDepth 100000 in
set_option maxHeartbeats 1000000 in
theorem ru_loop (w0 : World) (B b : Nat) (hb : b ≤ 100000) (hB : B < w0.heap.size) : T3 Tryd.prog (ruI w0 B b 0) (sel [1, 1, 0, 1] rrB) (ruI w0 B b 5) No 9 No := by
  refine T3.loop (c := (sel [1, 1, 0, 1, 4, 4] rrB)) (fun n a w => ∃ k : Int, (n : Int) = 5 - k ∧ ruI w0 B b k a w) (fun a w h => ⟨5, 0, by omega, h⟩) (fun n => T3.ex fun k => T3.pure fun hn => ?_)
  refine T3.seq (s := (sel [1, 1, 0, 1, 4, 4, 0] rrB)) (c := (sel [1, 1, 0, 1, 4, 4, 1] rrB)) ((rr3 w0 B b hb hB k).noX) ?_
  refine T3.seq (s := (sel [1, 1, 0, 1, 4, 4, 1, 0] rrB)) (c := (sel [1, 1, 0, 1, 4, 4, 1, 1] rrB)) (S := fun a w => ∃ (out : Value) (rs : List RuleL), (0 ≤ k ∧ k < 5) ∧ True ∧ Ru w0 B (b + 10 * k.toNat) k.toNat out rs w ∧ Fr 47 [(0, .pointer (some ⟨B, 0, none⟩)), (3, out), (7, .slice (some ⟨w0.heap.size, 0, none⟩) 5 5), (8, .int .i64 5), (9, .int .i64 k)] a) ?_ (T3.seq (s := (sel [1, 1, 0, 1, 4, 4, 1, 1, 0] rrB)) (c := (sel [1, 1, 0, 1, 4, 4, 1, 1, 1] rrB)) (T3.noX (ru_body w0 B b hb hB k)) ?_)
  · refine T3.cond (o := .tmp 10) (x := .skip) (y := .exit 0) (fun a w => k < 5 ∧ ruI w0 B b k a w) (fun a w => ¬ k < 5 ∧ ruI w0 B b k a w) ?_ (T3.skip ?_) (T3.exit ?_)
    · rintro a w ⟨q, hF, hq, hI⟩
      have he := hF.eval 10 (by decide) (v := .bool q) (by simp)
      cases q
      · exact .inr ⟨he, (fun h => by have := hq.2 h; cases this), hI⟩
      · exact .inl ⟨he, hq.1 rfl, hI⟩
    · rintro a w ⟨hlt, out, rs, hk, hR, hF⟩
      exact ⟨out, rs, ⟨hk.1, hlt⟩, trivial, hR, hF⟩
    · rintro a w ⟨hlt, hI⟩
      have hk := hI
      obtain ⟨_, _, hk, _⟩ := hk
      obtain rfl : k = 5 := by omega
      exact hI
  · intro a w hx
    have hk := hx
    obtain ⟨_, _, hk, _⟩ := hk
    exact (((rr10 w0 B b hb hB k).noX).post (fun a w q => ⟨n - 1, by omega, k + 1, by omega, q⟩)) a w hx

set_option maxRecDepth 100000 in
set_option maxHeartbeats 1000000 in
theorem rightRules_any (B b : Nat) (w0 : World) (hS : Str B w0 b) (hb : b ≤ 100000) :
    Calls Tryd.prog 20 #[.pointer (some ⟨B, 0, none⟩)] w0 fun e w' => ∃ (v : Value) (rs : List RuleL), e = .returned v ∧ rs.length ≤ 5 ∧ AllOk rs ∧ w'.ownsRow w0.heap.size 57 7 v rs.length (cellsOf encR rs) ∧ Drawn B w0 w' (b + 50) := by
  have hB := hS.lt
  have hL := owns_lit w0 w0.heap.size 9 (cellsOf encS ruleNames).toArray 5 (by decide) rfl (Nat.le_refl _)
  have hH : Held B (w0.heap.size + 1) (w0.alloc (.cells (cellsOf encS ruleNames).toArray 9)) 1 5 (.slice (some ⟨w0.heap.size, 0, none⟩) 5 5) (cellsOf encS ruleNames) := by
    have := Held.of_owns hL hB
    rwa [show (w0.alloc (.cells (cellsOf encS ruleNames).toArray 9)).heap.size = w0.heap.size + 1 by simp] at this
  have hU : Ru w0 B b 0 (.slice none 0 0) [] (w0.alloc (.cells (cellsOf encS ruleNames).toArray 9)) := ⟨World.ownsRow_nil _ _ _ _, AllOk.nil, Nat.le_refl _, (Drawn.refl hS).alloc _, hH, by simp, hB⟩
  have hcs : (cellsOf encS ruleNames).toArray = #[.string ⟨#[114, 97]⟩, .string ⟨#[114, 98]⟩, .string ⟨#[114, 99]⟩, .string ⟨#[114, 100]⟩, .string ⟨#[114, 101]⟩] := rfl
  rw [hcs] at hU
  clear hL hH hcs
  have HU := Lib.hid hU
  clear hU
  go_enter Tryd.func20, Tryd.ntmps20
  refine T3.done (P := Tryd.prog) (s := rrB) (R := fun a w => w = w0 ∧ Fr 47 [(0, .pointer (some ⟨B, 0, none⟩))] a) (T := fun a w => ∃ (out : Value) (rs : List RuleL), Fr 47 [(2, out)] a ∧ Ru w0 B (b + 50) 5 out rs w)
    (T3.seq (s := (sel [0] rrB)) (c := (sel [1] rrB)) (S := fun a w => w = w0 ∧ Fr 47 [(0, .pointer (some ⟨B, 0, none⟩))] a) ?_ (T3.seq (s := (sel [1, 0] rrB)) (c := (sel [1, 1] rrB)) (S := fun a w => w = w0 ∧ Fr 47 [(0, .pointer (some ⟨B, 0, none⟩)), (3, .slice none 0 0)] a) ?_ (T3.seq (s := (sel [1, 1, 0] rrB)) (c := (sel [1, 1, 1] rrB)) (T3.seq (s := (sel [1, 1, 0, 0] rrB)) (c := (sel [1, 1, 0, 1] rrB)) (S := ruI w0 B b 0) ?_ ((ru_loop w0 B b hb hB).mono (fun _ _ h => h) (fun _ _ h => h) (fun _ _ h => h.elim) (fun _ _ h => h))) (T3.seq (s := (sel [1, 1, 1, 0] rrB)) (c := .ret) (S := fun a w => ∃ (out : Value) (rs : List RuleL), Fr 47 [(2, out)] a ∧ Ru w0 B (b + 50) 5 out rs w) ?_ (T3.ret (fun _ _ h => h)))))) ⟨rfl, Fr.of _ rfl ⟨rfl, trivial⟩⟩ ?_
  · refine T3.leaf (id := 9) ?_
    rintro Q JS JX JT K hS_ hK hX hE hT hR a w ⟨hw, ⟨f, rfl, q0, _⟩⟩
    rw [frame47, show f 0 = _ from q0]
    clear q0
    conv => arg 2; whnf
    have Hw := Lib.hid hw
    clear hw
    go_wp2_with fail
    refine Met.intro (hS_ _ _ ?_)
    exact ⟨Hw.out, Fr.of _ rfl ⟨rfl, trivial⟩⟩
  · refine T3.leaf (id := 9) ?_
    rintro Q JS JX JT K hS_ hK hX hE hT hR a w ⟨hw, ⟨f, rfl, q0, _⟩⟩
    rw [frame47, show f 0 = _ from q0]
    clear q0
    conv => arg 2; whnf
    have Hw := Lib.hid hw
    clear hw
    go_wp2_with fail
    refine Met.intro (hS_ _ _ ?_)
    exact ⟨Hw.out, Fr.of _ rfl ⟨rfl, rfl, trivial⟩⟩
  · refine T3.leaf (id := 9) ?_
    rintro Q JS JX JT K hS_ hK hX hE hT hR a w ⟨hw, ⟨f, rfl, q0, q3, _⟩⟩
    subst hw
    rw [frame47, show f 0 = _ from q0, show f 3 = _ from q3]
    clear q0 q3
    conv => arg 2; whnf
    go_wp2_with fail
    refine Met.intro (hS_ _ _ ?_)
    exact ⟨_, [], ⟨by omega, by omega⟩, HU.out, Fr.of _ rfl ⟨rfl, rfl, rfl, rfl, rfl, trivial⟩⟩
  · refine T3.leaf (id := 9) ?_
    rintro Q JS JX JT K hS_ hK hX hE hT hR a w ⟨out, rs, hk, hU, ⟨f, rfl, q0, q3, q7, q8, q9, _⟩⟩
    rw [frame47, show f 3 = _ from q3]
    clear q0 q3 q7 q8 q9
    conv => arg 2; whnf
    go_wp2_with fail
    refine Met.intro (hS_ _ _ ?_)
    exact ⟨out, rs, Fr.of _ rfl ⟨rfl, trivial⟩, hU⟩
  · rintro a w ⟨out, rs, ⟨f, rfl, q2, _⟩, hU⟩
    rw [frame47, show f 2 = _ from q2]
    go_ret
    exact ⟨out, rs, rfl, hU.len, hU.ok, owns_mono hU.own (Nat.le_succ _), hU.dr⟩

end Go.Proofs.YtbidnbcclibigaaDoor
