/-
  Rules that the stream hands out, sometimes spoilt. Conditions: the bounds that each theorem names.
-/
import Derived.Test.YtbidnbcclibigaaDoorRu7
namespace Go.Bw
theorem frame_get (n : Nat) (f : Nat → Value) (i : Nat) (hi : i < n) : (frame n f).tmps[i]? = some (f i) := by simp [frame, hi]
theorem frame_of (a : Act) (n : Nat) (hs : a.tmps.size = n) (hd : a.defers = []) : a = frame n (fun j => (a.tmps[j]?).getD undef) := by
  obtain ⟨t, d⟩ := a
  simp only at hs hd
  subst hs hd
  unfold frame
  congr 1
  apply Array.ext
  · simp
  · intro i h1 h2
    simp [h1]
end Go.Bw
namespace Go.Proofs.YtbidnbcclibigaaDoor
open Go.RowKit Go.Bw
set_option maxRecDepth 100000 in
theorem frame68 (f : Nat → Value) : frame 68 f = ⟨#[f 0, f 1, f 2, f 3, f 4, f 5, f 6, f 7, f 8, f 9, f 10, f 11, f 12, f 13, f 14, f 15, f 16, f 17, f 18, f 19, f 20, f 21, f 22, f 23, f 24, f 25, f 26, f 27, f 28, f 29, f 30, f 31, f 32, f 33, f 34, f 35, f 36, f 37, f 38, f 39, f 40, f 41, f 42, f 43, f 44, f 45, f 46, f 47, f 48, f 49, f 50, f 51, f 52, f 53, f 54, f 55, f 56, f 57, f 58, f 59, f 60, f 61, f 62, f 63, f 64, f 65, f 66, f 67], []⟩ := by rfl
structure RZ (w0 : World) (B b : Nat) (v : Value) (n : Nat) (rs : List RuleL) (w : World) : Prop where
  own : w.ownsRow w0.heap.size 57 7 v n (cellsOf encR rs)
  hn : rs.length = n
  ok : AllOk rs
  len : n ≤ 5
  dr : Drawn B w0 w b
  hB : B < w0.heap.size
theorem RZ.drawn {w0 w w' : World} {B b b' n : Nat} {v : Value} {rs : List RuleL} (h : RZ w0 B b v n rs w) (d : Drawn B w w' b') : RZ w0 B b' v n rs w' :=
  ⟨owns_drawn h.own d h.hB, h.hn, h.ok, h.len, h.dr.trans d, h.hB⟩
theorem RZ.mono {w0 w : World} {B b b' n : Nat} {v : Value} {rs : List RuleL} (h : RZ w0 B b v n rs w) (hb : b ≤ b') : RZ w0 B b' v n rs w :=
  ⟨h.own, h.hn, h.ok, h.len, h.dr.mono hb, h.hB⟩
theorem RZ.set {w0 w : World} {B b n g cap : Nat} {rs : List RuleL} (h : RZ w0 B b (.slice (some ⟨g, 0, none⟩) n cap) n rs w) (r j : Nat) (hr : r < rs.length) (hj : j < 7) (u : Value) (a' : RuleL) (ha : RuleOk a') (he : encR a' = (encR rs[r]).set j u) :
    RZ w0 B b (.slice (some ⟨g, 0, none⟩) n cap) n (rs.set r a') (w.setCell ⟨g, r * 7 + j, none⟩ u) := by
  have hz := owns_sizes h.own
  have hB := h.hB
  refine ⟨?_, by simpa using h.hn, fun x hx => ?_, h.len, h.dr.set _ hz.1 (by omega), h.hB⟩
  · rw [← cellsOf_set encR 7 encR_length rs r hr j hj u a' he]
    exact owns_setc h.own _ _
  · rcases List.mem_or_eq_of_mem_set hx with hx | rfl
    · exact h.ok x hx
    · exact ha
theorem RZ.cell {w0 w : World} {B b n g cap : Nat} {rs : List RuleL} (h : RZ w0 B b (.slice (some ⟨g, 0, none⟩) n cap) n rs w) (r j : Nat) (hr : r < rs.length) (hj : j < 7) (u : Value) (he : (encR rs[r])[j]? = some u) :
    w.cell? ⟨g, r * 7 + j, none⟩ = some u ∧ w.frozen? ⟨g, r * 7 + j, none⟩ = false :=
  ⟨owns_cell h.own _ _ (by rw [cellsOf_get encR 7 encR_length rs r hr j hj]; exact he), owns_frozen h.own _⟩
set_option maxRecDepth 100000 in
set_option maxHeartbeats 1000000 in
theorem ru_1 (w0 : World) (B b : Nat) (hb : b ≤ 90000) (hS : Str B w0 b) : T3 Tryd.prog (fun a w => w = w0 ∧ Fr 68 [(0, .pointer (some ⟨B, 0, none⟩)), (2, .slice none 0 0)] a) (sel [1, 0] rulesB) (fun a w => ∃ v n, ∃ rs, RZ w0 B (b + 50) (v) n rs w ∧ Fr 68 [(0, .pointer (some ⟨B, 0, none⟩)), (3, v)] a) No 9 No := by
  refine T3.leaf ?_
  rintro Q JS JX JT K hS_ hK hX hE hT hR a w ⟨hw, ⟨f, rfl, q0, q2, _⟩⟩
  subst hw
  rw [frame68, show f 0 = .pointer (some ⟨B, 0, none⟩) from q0, show f 2 = .slice none 0 0 from q2]
  clear q0 q2
  conv => arg 2; whnf
  go_wp2_with (go_at_call 20; refine (rightRules_any B b _ hS (by omega)).mono ?_; rintro e w1 ⟨v, rs, rfl, hl, hok, hown, hd⟩)
  refine Met.intro (hS_ _ _ ?_)
  exact ⟨v, rs.length, rs, ⟨hown, rfl, hok, hl, hd, hS.lt⟩, Fr.of _ rfl ⟨rfl, rfl, trivial⟩⟩

set_option maxRecDepth 100000 in
set_option maxHeartbeats 1000000 in
theorem ru_2 (w0 : World) (B b : Nat) (hb : b ≤ 90000) (v : Value) (n : Nat) : T3 Tryd.prog (fun a w => ∃ rs, RZ w0 B (b + 50) (v) n rs w ∧ Fr 68 [(0, .pointer (some ⟨B, 0, none⟩)), (3, v)] a) (sel [1, 1, 0, 0] rulesB) (fun a w => ∃ q, (q = true → 0 < n) ∧ ∃ rs, RZ w0 B (b + 51) (v) n rs w ∧ Fr 68 [(13, .bool q), (0, .pointer (some ⟨B, 0, none⟩)), (3, v)] a) No 9 No := by
  refine T3.leaf ?_
  rintro Q JS JX JT K hS hK hX hE hT hR a w ⟨rs, hR_, ⟨f, rfl, q0, q3, _⟩⟩
  obtain ⟨p1, c1, hv1⟩ := (Row.of_owns hR_.own).shape
  subst hv1
  rw [frame68, show f 0 = .pointer (some ⟨B, 0, none⟩) from q0, show f 3 = .slice p1 n c1 from q3]
  clear q0 q3
  conv => arg 2; whnf
  by_cases hlt : 0 < n
  · have hpb : decide (0 < (n : Int)) = true := by simp; omega
    go_wp2_with (go_at_call 21; refine (flip_d B _ _ _ hR_.dr.str rfl (by omega)).mono ?_; rintro e w1 ⟨q, rfl, hd⟩; replace hR_ := hR_.drawn hd; clear hd)
    refine Met.intro (hS _ _ ?_)
    exact ⟨q, fun _ => hlt, rs, hR_, Fr.of _ rfl ⟨rfl, rfl, rfl, trivial⟩⟩
  · have hpb : decide (0 < (n : Int)) = false := by simp; omega
    go_wp2_with fail
    refine Met.intro (hS _ _ ?_)
    exact ⟨false, (fun h => by cases h), rs, hR_.mono (by omega), Fr.of _ rfl ⟨rfl, rfl, rfl, trivial⟩⟩

set_option maxRecDepth 100000 in
set_option maxHeartbeats 1000000 in
theorem ru_3 (w0 : World) (B b : Nat) (hb : b ≤ 90000) (n g cap : Nat) (h0 : 0 < n) : T3 Tryd.prog (fun a w => ∃ rs, RZ w0 B (b + 51) (.slice (some ⟨g, 0, none⟩) n cap) n rs w ∧ Fr 68 [(0, .pointer (some ⟨B, 0, none⟩)), (3, .slice (some ⟨g, 0, none⟩) n cap)] a) (sel [1, 1, 0, 1, 2, 0] rulesB) (fun a w => ∃ r, r < n ∧ ∃ rs, RZ w0 B (b + 52) (.slice (some ⟨g, 0, none⟩) n cap) n rs w ∧ Fr 68 [(0, .pointer (some ⟨B, 0, none⟩)), (3, .slice (some ⟨g, 0, none⟩) n cap), (4, .pointer (some ⟨g, r * 7, none⟩))] a) No 9 No := by
  refine T3.leaf ?_
  rintro Q JS JX JT K hS hK hX hE hT hR a w ⟨rs, hR_, ⟨f, rfl, q0, q3, _⟩⟩
  have hl5 := hR_.len
  rw [frame68, show f 0 = .pointer (some ⟨B, 0, none⟩) from q0, show f 3 = .slice (some ⟨g, 0, none⟩) n cap from q3]
  clear q0 q3
  conv => arg 2; whnf
  go_wp2_with (go_at_call 22; refine (next_d B _ _ _ hR_.dr.str (by omega) (by omega) (by omega)).mono ?_; rintro e w1 ⟨i, rfl, hi0, hi1, hd⟩; replace hR_ := hR_.drawn hd; clear hd)
  refine Met.intro (hS _ _ ?_)
  exact ⟨i.toNat, by omega, rs, hR_, Fr.of _ rfl ⟨rfl, rfl, by simp, trivial⟩⟩

set_option maxRecDepth 100000 in
set_option maxHeartbeats 1000000 in
theorem ru_4 (w0 : World) (B b : Nat) (hb : b ≤ 90000) (n g cap r : Nat) (hr : r < n) : T3 Tryd.prog (fun a w => ∃ rs, RZ w0 B (b + 52) (.slice (some ⟨g, 0, none⟩) n cap) n rs w ∧ Fr 68 [(0, .pointer (some ⟨B, 0, none⟩)), (3, .slice (some ⟨g, 0, none⟩) n cap), (4, .pointer (some ⟨g, r * 7, none⟩))] a) (sel [1, 1, 0, 1, 2, 1, 0] rulesB) (fun a w => ∃ k : Int, ∃ rs, RZ w0 B (b + 53) (.slice (some ⟨g, 0, none⟩) n cap) n rs w ∧ Fr 68 [(21, .int .i64 k), (0, .pointer (some ⟨B, 0, none⟩)), (3, .slice (some ⟨g, 0, none⟩) n cap), (4, .pointer (some ⟨g, r * 7, none⟩))] a) No 9 No := by
  refine T3.leaf ?_
  rintro Q JS JX JT K hS hK hX hE hT hR a w ⟨rs, hR_, ⟨f, rfl, q0, q3, q4, _⟩⟩
  rw [frame68, show f 0 = .pointer (some ⟨B, 0, none⟩) from q0, show f 3 = .slice (some ⟨g, 0, none⟩) n cap from q3, show f 4 = .pointer (some ⟨g, r * 7, none⟩) from q4]
  clear q0 q3 q4
  conv => arg 2; whnf
  go_wp2_with (go_at_call 22; refine (next_d B _ 3 _ hR_.dr.str (by decide) (by decide) (by omega)).mono ?_; rintro e w1 ⟨i, rfl, hi0, hi1, hd⟩; replace hR_ := hR_.drawn hd; clear hd)
  refine Met.intro (hS _ _ ?_)
  exact ⟨i, rs, hR_, Fr.of _ rfl ⟨rfl, rfl, rfl, rfl, trivial⟩⟩

set_option maxRecDepth 100000 in
set_option maxHeartbeats 1000000 in
theorem ru_6 (w0 : World) (B b : Nat) (hb : b ≤ 90000) (n g cap r : Nat) (hr : r < n) (k : Int) : T3 Tryd.prog (fun a w => ∃ rs, RZ w0 B (b + 53) (.slice (some ⟨g, 0, none⟩) n cap) n rs w ∧ Fr 68 [(21, .int .i64 k), (0, .pointer (some ⟨B, 0, none⟩)), (3, .slice (some ⟨g, 0, none⟩) n cap), (4, .pointer (some ⟨g, r * 7, none⟩))] a) (sel [1, 1, 0, 1, 2, 1, 1, 4, 0] rulesB) (fun a w => ∃ q, ∃ rs, RZ w0 B (b + 53) (.slice (some ⟨g, 0, none⟩) n cap) n rs w ∧ Fr 68 [(27, .bool q), (21, .int .i64 k), (0, .pointer (some ⟨B, 0, none⟩)), (3, .slice (some ⟨g, 0, none⟩) n cap), (4, .pointer (some ⟨g, r * 7, none⟩))] a) No 9 No := by
  refine T3.leaf ?_
  rintro Q JS JX JT K hS hK hX hE hT hR a w ⟨rs, hR_, ⟨f, rfl, q21, q0, q3, q4, _⟩⟩
  rw [frame68, show f 21 = .int .i64 k from q21, show f 0 = .pointer (some ⟨B, 0, none⟩) from q0, show f 3 = .slice (some ⟨g, 0, none⟩) n cap from q3, show f 4 = .pointer (some ⟨g, r * 7, none⟩) from q4]
  clear q21 q0 q3 q4
  conv => arg 2; whnf
  go_wp2_with fail
  refine Met.intro (hS _ _ ?_)
  exact ⟨_, rs, hR_, Fr.of _ rfl ⟨rfl, rfl, rfl, rfl, rfl, trivial⟩⟩

set_option maxRecDepth 100000 in
set_option maxHeartbeats 1000000 in
theorem ru_8 (w0 : World) (B b : Nat) (hb : b ≤ 90000) (n g cap r : Nat) (hr : r < n) (k : Int) : T3 Tryd.prog (fun a w => ∃ rs, RZ w0 B (b + 53) (.slice (some ⟨g, 0, none⟩) n cap) n rs w ∧ Fr 68 [(21, .int .i64 k), (0, .pointer (some ⟨B, 0, none⟩)), (3, .slice (some ⟨g, 0, none⟩) n cap), (4, .pointer (some ⟨g, r * 7, none⟩))] a) (sel [1, 1, 0, 1, 2, 1, 1, 4, 1, 3, 0] rulesB) (fun a w => ∃ q, ∃ rs, RZ w0 B (b + 53) (.slice (some ⟨g, 0, none⟩) n cap) n rs w ∧ Fr 68 [(55, .bool q), (21, .int .i64 k), (0, .pointer (some ⟨B, 0, none⟩)), (3, .slice (some ⟨g, 0, none⟩) n cap), (4, .pointer (some ⟨g, r * 7, none⟩))] a) No 9 No := by
  refine T3.leaf ?_
  rintro Q JS JX JT K hS hK hX hE hT hR a w ⟨rs, hR_, ⟨f, rfl, q21, q0, q3, q4, _⟩⟩
  rw [frame68, show f 21 = .int .i64 k from q21, show f 0 = .pointer (some ⟨B, 0, none⟩) from q0, show f 3 = .slice (some ⟨g, 0, none⟩) n cap from q3, show f 4 = .pointer (some ⟨g, r * 7, none⟩) from q4]
  clear q21 q0 q3 q4
  conv => arg 2; whnf
  go_wp2_with fail
  refine Met.intro (hS _ _ ?_)
  exact ⟨_, rs, hR_, Fr.of _ rfl ⟨rfl, rfl, rfl, rfl, rfl, trivial⟩⟩

set_option maxRecDepth 100000 in
set_option maxHeartbeats 1000000 in
theorem ru_7 (w0 : World) (B b : Nat) (hb : b ≤ 90000) (n g cap r : Nat) (hr : r < n) : T3 Tryd.prog (fun a w => ∃ rs, RZ w0 B (b + 53) (.slice (some ⟨g, 0, none⟩) n cap) n rs w ∧ Fr 68 [(0, .pointer (some ⟨B, 0, none⟩)), (3, .slice (some ⟨g, 0, none⟩) n cap), (4, .pointer (some ⟨g, r * 7, none⟩))] a) (sel [1, 1, 0, 1, 2, 1, 1, 4, 1, 2] rulesB) (fun a w => ∃ rs, RZ w0 B (b + 60) (.slice (some ⟨g, 0, none⟩) n cap) n rs w ∧ Fr 68 [(0, .pointer (some ⟨B, 0, none⟩)), (3, .slice (some ⟨g, 0, none⟩) n cap)] a) No 9 No := by
  rintro a w ⟨rs, hR_, ⟨f, rfl, q0, q3, q4, _⟩⟩
  have hz := owns_sizes hR_.own
  have h5 := hR_.len
  refine ru7 w0 B w0.heap.size g r n cap (b + 53) hR_.hB (Nat.le_refl _) hz.1 hr (by omega) _ _ w ⟨by simp [frame], rfl, ?_, ?_, ?_, ⟨⟨rs, hR_.hn, hR_.ok, hR_.own⟩, hR_.dr, hz.2.1⟩, fun i h1 h2 h3 h4 => ?_⟩ ?_
  · rw [frame_get 68 f 0 (by decide), show f 0 = _ from q0]
  · rw [frame_get 68 f 3 (by decide), show f 3 = _ from q3]
  · rw [frame_get 68 f 4 (by decide), show f 4 = _ from q4]
  · exfalso
    have : (Array.replicate 29 false).getD i false = false := by
      rw [Array.getD_eq_getD_getElem?, Array.getElem?_replicate]
      split <;> rfl
    rw [this] at h4
    cases h4
  · intro listed a w hI
    obtain ⟨rs', h1, h2, h3⟩ := hI.wd.own
    have hc := cnt_le listed
    refine ⟨rs', ⟨h3, h1, h2, h5, hI.wd.dr.mono (by omega), hR_.hB⟩, _, frame_of a 68 hI.sz hI.df, ?_, ?_, trivial⟩
    · show (a.tmps[0]?).getD undef = _
      rw [hI.q0]; rfl
    · show (a.tmps[3]?).getD undef = _
      rw [hI.q3]; rfl

set_option maxRecDepth 100000 in
set_option maxHeartbeats 1000000 in
theorem ru_9 (w0 : World) (B b : Nat) (hb : b ≤ 90000) (n g cap r : Nat) (hr : r < n) : T3 Tryd.prog (fun a w => ∃ rs, RZ w0 B (b + 53) (.slice (some ⟨g, 0, none⟩) n cap) n rs w ∧ Fr 68 [(0, .pointer (some ⟨B, 0, none⟩)), (3, .slice (some ⟨g, 0, none⟩) n cap), (4, .pointer (some ⟨g, r * 7, none⟩))] a) (sel [1, 1, 0, 1, 2, 1, 1, 4, 1, 3, 1, 2] rulesB) (fun a w => ∃ rs, RZ w0 B (b + 60) (.slice (some ⟨g, 0, none⟩) n cap) n rs w ∧ Fr 68 [(0, .pointer (some ⟨B, 0, none⟩)), (3, .slice (some ⟨g, 0, none⟩) n cap)] a) No 9 No := by
  refine T3.leaf ?_
  rintro Q JS JX JT K hS hK hX hE hT hR a w ⟨rs, hR_, ⟨f, rfl, q0, q3, q4, _⟩⟩
  rw [frame68, show f 0 = .pointer (some ⟨B, 0, none⟩) from q0, show f 3 = .slice (some ⟨g, 0, none⟩) n cap from q3, show f 4 = .pointer (some ⟨g, r * 7, none⟩) from q4]
  clear q0 q3 q4
  conv => arg 2; whnf
  have hrl : r < rs.length := by rw [hR_.hn]; exact hr
  go_wp2_with fail
  refine (odd_d B _ _ _ _ (by decide) (by decide) (by decide) hR_.dr.str (by omega)).mono ?_
  rintro e w1 ⟨k1, rfl, hk1, hd⟩
  replace hR_ := hR_.drawn hd
  clear hd
  go_wp2_with fail
  refine (odd_d B _ _ _ _ (by decide) (by decide) (by decide) hR_.dr.str (by omega)).mono ?_
  rintro e w2 ⟨k2, rfl, hk2, hd⟩
  replace hR_ := hR_.drawn hd
  clear hd
  have hok := hR_.ok _ (List.getElem_mem hrl)
  obtain ⟨c3, f3⟩ := hR_.cell r 3 hrl (by decide) _ rfl
  obtain ⟨c4, f4⟩ := hR_.cell r 4 hrl (by decide) _ rfl
  go_wp2_with fail
  refine Met.intro (hS _ _ ?_)
  have h1 := hR_.set r 3 hrl (by decide) (.int .i64 k1) { rs[r] with kind := k1 } ⟨hok.1, hok.2, hok.3, hok.4, hok.5, hok.6, hok.7⟩ rfl
  have h2 := h1.set r 4 (by simpa using hrl) (by decide) (.int .i64 k2) { rs[r] with kind := k1, many := k2 } ⟨hok.1, hok.2, hok.3, hok.4, hok.5, hok.6, hok.7⟩ (by rw [List.getElem_set_self]; rfl)
  exact ⟨_, h2.mono (by omega), Fr.of _ rfl ⟨rfl, rfl, trivial⟩⟩

set_option maxRecDepth 100000 in
set_option maxHeartbeats 1000000 in
theorem ru_5 (w0 : World) (B b : Nat) (hb : b ≤ 90000) (n g cap r : Nat) (hr : r < n) : T3 Tryd.prog (fun a w => ∃ rs, RZ w0 B (b + 53) (.slice (some ⟨g, 0, none⟩) n cap) n rs w ∧ Fr 68 [(0, .pointer (some ⟨B, 0, none⟩)), (3, .slice (some ⟨g, 0, none⟩) n cap), (4, .pointer (some ⟨g, r * 7, none⟩))] a) (sel [1, 1, 0, 1, 2, 1, 1, 4, 1, 3, 1, 3] rulesB) (fun a w => ∃ rs, RZ w0 B (b + 60) (.slice (some ⟨g, 0, none⟩) n cap) n rs w ∧ Fr 68 [(0, .pointer (some ⟨B, 0, none⟩)), (3, .slice (some ⟨g, 0, none⟩) n cap)] a) No 9 No := by
  refine T3.leaf ?_
  rintro Q JS JX JT K hS hK hX hE hT hR a w ⟨rs, hR_, ⟨f, rfl, q0, q3, q4, _⟩⟩
  rw [frame68, show f 0 = .pointer (some ⟨B, 0, none⟩) from q0, show f 3 = .slice (some ⟨g, 0, none⟩) n cap from q3, show f 4 = .pointer (some ⟨g, r * 7, none⟩) from q4]
  clear q0 q3 q4
  conv => arg 2; whnf
  have hrl : r < rs.length := by rw [hR_.hn]; exact hr
  go_wp2_with fail
  refine (worth_any B _ _ hR_.dr.str (by omega)).mono ?_
  rintro e w1 ⟨p, rfl, hp, hd⟩
  replace hR_ := hR_.drawn hd
  clear hd
  have hok := hR_.ok _ (List.getElem_mem hrl)
  obtain ⟨c5, f5⟩ := hR_.cell r 5 hrl (by decide) _ rfl
  obtain ⟨c6, f6⟩ := hR_.cell r 6 hrl (by decide) _ rfl
  go_wp2_with fail
  refine Met.intro (hS _ _ ?_)
  have h1 := hR_.set r 5 hrl (by decide) (.int .i64 p.1) { rs[r] with num := p.1 } ⟨hok.1, hok.2, hok.3, hp.1, hp.2, hok.6, hok.7⟩ rfl
  have h2 := h1.set r 6 (by simpa using hrl) (by decide) (.int .i64 p.2) { rs[r] with num := p.1, den := p.2 } ⟨hok.1, hok.2, hok.3, hp.1, hp.2, hp.3, hp.4⟩ (by rw [List.getElem_set_self]; rfl)
  exact ⟨_, h2.mono (by omega), Fr.of _ rfl ⟨rfl, rfl, trivial⟩⟩

set_option maxRecDepth 100000 in
set_option maxHeartbeats 1000000 in
theorem ru_block (w0 : World) (B b : Nat) (hb : b ≤ 90000) (n g cap r : Nat) (hr : r < n) : T3 Tryd.prog (fun a w => ∃ k : Int, ∃ rs, RZ w0 B (b + 53) (.slice (some ⟨g, 0, none⟩) n cap) n rs w ∧ Fr 68 [(21, .int .i64 k), (0, .pointer (some ⟨B, 0, none⟩)), (3, .slice (some ⟨g, 0, none⟩) n cap), (4, .pointer (some ⟨g, r * 7, none⟩))] a) (sel [1, 1, 0, 1, 2, 1, 1] rulesB) (fun a w => ∃ rs, RZ w0 B (b + 60) (.slice (some ⟨g, 0, none⟩) n cap) n rs w ∧ Fr 68 [(0, .pointer (some ⟨B, 0, none⟩)), (3, .slice (some ⟨g, 0, none⟩) n cap)] a) No 9 No := by
  refine T3.ex fun k => ?_
  refine T3.block (id' := 0) (c := (sel [1, 1, 0, 1, 2, 1, 1, 4] rulesB)) (by decide) ?_
  refine T3.seq (s := (sel [1, 1, 0, 1, 2, 1, 1, 4, 0] rulesB)) (c := (sel [1, 1, 0, 1, 2, 1, 1, 4, 1] rulesB)) (ru_6 w0 B b hb n g cap r hr k) (T3.ex fun q => ?_)
  refine T3.cond (o := .tmp 27) (x := (sel [1, 1, 0, 1, 2, 1, 1, 4, 1, 2] rulesB)) (y := (sel [1, 1, 0, 1, 2, 1, 1, 4, 1, 3] rulesB)) (fun a w => ∃ rs, RZ w0 B (b + 53) (.slice (some ⟨g, 0, none⟩) n cap) n rs w ∧ Fr 68 [(0, .pointer (some ⟨B, 0, none⟩)), (3, .slice (some ⟨g, 0, none⟩) n cap), (4, .pointer (some ⟨g, r * 7, none⟩))] a) (fun a w => ∃ rs, RZ w0 B (b + 53) (.slice (some ⟨g, 0, none⟩) n cap) n rs w ∧ Fr 68 [(21, .int .i64 k), (0, .pointer (some ⟨B, 0, none⟩)), (3, .slice (some ⟨g, 0, none⟩) n cap), (4, .pointer (some ⟨g, r * 7, none⟩))] a) ?_ (ru_7 w0 B b hb n g cap r hr) ?_
  · rintro a w ⟨rs, hA, hF⟩
    have he := hF.eval 27 (by decide) (v := .bool q) (by simp)
    cases q
    · exact .inr ⟨he, rs, hA, hF.tail⟩
    · exact .inl ⟨he, rs, hA, hF.tail.tail⟩
  · refine T3.seq (s := (sel [1, 1, 0, 1, 2, 1, 1, 4, 1, 3, 0] rulesB)) (c := (sel [1, 1, 0, 1, 2, 1, 1, 4, 1, 3, 1] rulesB)) (ru_8 w0 B b hb n g cap r hr k) (T3.ex fun q => ?_)
    refine T3.cond (o := .tmp 55) (x := (sel [1, 1, 0, 1, 2, 1, 1, 4, 1, 3, 1, 2] rulesB)) (y := (sel [1, 1, 0, 1, 2, 1, 1, 4, 1, 3, 1, 3] rulesB)) (fun a w => ∃ rs, RZ w0 B (b + 53) (.slice (some ⟨g, 0, none⟩) n cap) n rs w ∧ Fr 68 [(0, .pointer (some ⟨B, 0, none⟩)), (3, .slice (some ⟨g, 0, none⟩) n cap), (4, .pointer (some ⟨g, r * 7, none⟩))] a) (fun a w => ∃ rs, RZ w0 B (b + 53) (.slice (some ⟨g, 0, none⟩) n cap) n rs w ∧ Fr 68 [(0, .pointer (some ⟨B, 0, none⟩)), (3, .slice (some ⟨g, 0, none⟩) n cap), (4, .pointer (some ⟨g, r * 7, none⟩))] a) ?_ (ru_9 w0 B b hb n g cap r hr) (ru_5 w0 B b hb n g cap r hr)
    rintro a w ⟨rs, hA, hF⟩
    have he := hF.eval 55 (by decide) (v := .bool q) (by simp)
    cases q
    · exact .inr ⟨he, rs, hA, hF.tail.tail⟩
    · exact .inl ⟨he, rs, hA, hF.tail.tail⟩

set_option maxHeartbeats 1000000 in
theorem rules_any (B b : Nat) (w0 : World) (hS : Str B w0 b) (hb : b ≤ 90000) :
    Calls Tryd.prog 4 #[.pointer (some ⟨B, 0, none⟩)] w0 fun e w' => ∃ (v : Value) (rs : List RuleL), e = .returned v ∧ rs.length ≤ 5 ∧ AllOk rs ∧ w'.ownsRow w0.heap.size 57 7 v rs.length (cellsOf encR rs) ∧ Drawn B w0 w' (b + 60) := by
  have hB := hS.lt
  go_enter Tryd.func4, Tryd.ntmps4
  refine T3.done (P := Tryd.prog) (s := rulesB) (id := 9) (R := fun a w => w = w0 ∧ Fr 68 [(0, .pointer (some ⟨B, 0, none⟩))] a) (T := fun a w => ∃ v n, ∃ rs, RZ w0 B (b + 60) v n rs w ∧ Fr 68 [(2, v)] a)
    (T3.seq (s := (sel [0] rulesB)) (c := (sel [1] rulesB)) (S := fun a w => w = w0 ∧ Fr 68 [(0, .pointer (some ⟨B, 0, none⟩)), (2, .slice none 0 0)] a) ?_ (T3.seq (s := (sel [1, 0] rulesB)) (c := (sel [1, 1] rulesB)) ((ru_1 w0 B b hb hS).mono (fun _ _ h => h) (fun _ _ h => h) (fun _ _ h => h.elim) (fun _ _ h => h)) (T3.ex fun v => T3.ex fun n => T3.seq (s := (sel [1, 1, 0] rulesB)) (c := (sel [1, 1, 1] rulesB)) (S := fun a w => ∃ rs, RZ w0 B (b + 60) v n rs w ∧ Fr 68 [(0, .pointer (some ⟨B, 0, none⟩)), (3, v)] a)
      (T3.seq (s := (sel [1, 1, 0, 0] rulesB)) (c := (sel [1, 1, 0, 1] rulesB)) ((ru_2 w0 B b hb v n).mono (fun _ _ h => h) (fun _ _ h => h) (fun _ _ h => h.elim) (fun _ _ h => h)) (T3.ex fun q => T3.pure fun hq => ?_))
      (T3.seq (s := (sel [1, 1, 1, 0] rulesB)) (c := .ret) (S := fun a w => ∃ rs, RZ w0 B (b + 60) v n rs w ∧ Fr 68 [(2, v)] a) ?_ (T3.ret (fun _ _ h => ⟨v, n, h⟩)))))) ⟨rfl, Fr.of _ rfl ⟨rfl, trivial⟩⟩ ?_
  · refine T3.leaf (id := 9) ?_
    rintro Q JS JX JT K hS_ hK hX hE hT hR a w ⟨hw, ⟨f, rfl, q0, _⟩⟩
    subst hw
    rw [frame68, show f 0 = _ from q0]
    clear q0
    conv => arg 2; whnf
    go_wp2_with fail
    refine Met.intro (hS_ _ _ ?_)
    exact ⟨rfl, Fr.of _ rfl ⟨rfl, rfl, trivial⟩⟩
  · refine T3.cond (o := .tmp 13) (x := (sel [1, 1, 0, 1, 2] rulesB)) (y := .skip) (fun a w => 0 < n ∧ ∃ rs, RZ w0 B (b + 51) v n rs w ∧ Fr 68 [(0, .pointer (some ⟨B, 0, none⟩)), (3, v)] a) (fun a w => ∃ rs, RZ w0 B (b + 51) v n rs w ∧ Fr 68 [(0, .pointer (some ⟨B, 0, none⟩)), (3, v)] a) ?_ (T3.pure fun hn => ?_) (T3.skip (fun a w ⟨rs, h1, h2⟩ => ⟨rs, h1.mono (by omega), h2⟩))
    · rintro a w ⟨rs, hA, hF⟩
      have he := hF.eval 13 (by decide) (v := .bool q) (by simp)
      cases q
      · exact .inr ⟨he, rs, hA, hF.tail⟩
      · exact .inl ⟨he, hq rfl, rs, hA, hF.tail⟩
    · rintro a w ⟨rs, hA, hF⟩
      obtain ⟨g, cap, rfl, _⟩ := owns_shape hA.own hn
      refine (T3.seq (s := (sel [1, 1, 0, 1, 2, 0] rulesB)) (c := (sel [1, 1, 0, 1, 2, 1] rulesB)) (ru_3 w0 B b hb n g cap hn) (T3.ex fun r => T3.pure fun hr => T3.seq (s := (sel [1, 1, 0, 1, 2, 1, 0] rulesB)) (c := (sel [1, 1, 0, 1, 2, 1, 1] rulesB)) (ru_4 w0 B b hb n g cap r hr) (ru_block w0 B b hb n g cap r hr)) : T3 _ _ _ _ _ 9 _).mono (fun _ _ h => h) (fun _ _ h => h) (fun _ _ h => h.elim) (fun _ _ h => h.elim) a w ⟨rs, hA, hF⟩
  · refine T3.leaf (id := 9) ?_
    rintro Q JS JX JT K hS_ hK hX hE hT hR a w ⟨rs, hA, ⟨f, rfl, q0, q3, _⟩⟩
    rw [frame68, show f 3 = _ from q3]
    clear q0 q3
    conv => arg 2; whnf
    go_wp2_with fail
    refine Met.intro (hS_ _ _ ?_)
    exact ⟨rs, hA, Fr.of _ rfl ⟨rfl, trivial⟩⟩
  · rintro a w ⟨v, n, rs, hA, ⟨f, rfl, q2, _⟩⟩
    rw [frame68, show f 2 = _ from q2]
    go_ret
    exact ⟨v, rs, rfl, by rw [hA.hn]; exact hA.len, hA.ok, by rw [hA.hn]; exact hA.own, hA.dr⟩

end Go.Proofs.YtbidnbcclibigaaDoor
