/-
  A line, a worth that the stream hands out. Conditions: the bounds that each theorem names.
-/
import Derived.Test.YtbidnbcclibigaaDoorStats
namespace Go.Bw
open Go.RowKit
/-- Block g is cs, and may be written. -/
def Blk (w : World) (g : Nat) (cs : List Value) : Prop := g < w.heap.size ∧ (∀ j u, cs[j]? = some u → w.cell? ⟨g, j, none⟩ = some u) ∧ ∀ j, w.frozen? ⟨g, j, none⟩ = false
theorem Blk.new (w : World) (cs : Array Value) (e : TypeId) : Blk (w.alloc (.cells cs e)) w.heap.size cs.toList := ⟨by simp, fun j u h => cells_new w cs e j u h, fun j => frozen_new0 w cs e j⟩
theorem Blk.grow {w w' : World} {g : Nat} {cs : List Value} {row : Option Nat} (h : Blk w g cs) (gr : w.grownBy w' row) (hr : row ≠ some g) : Blk w' g cs :=
  ⟨Nat.lt_of_lt_of_le h.1 gr.size, fun j u hu => (World.cell?_of_block (a := ⟨g, j, none⟩) (gr.block g h.1 (fun e => hr e.symm))).trans (h.2.1 j u hu), fun j => (World.frozen?_of_block (a := ⟨g, j, none⟩) (gr.block g h.1 (fun e => hr e.symm))).trans (h.2.2 j)⟩
theorem Blk.drawn {w w' : World} {g B b : Nat} {cs : List Value} (h : Blk w g cs) (d : Drawn B w w' b) (hg : g ≠ B) : Blk w' g cs := h.grow d.gr (by simp; omega)
theorem Blk.alloc {w : World} {g : Nat} {cs : List Value} (h : Blk w g cs) (o : Obj) : Blk (w.alloc o) g cs := h.grow (World.grownBy_alloc w o none) (by simp)
theorem Blk.other {w : World} {g g' o : Nat} {cs : List Value} (h : Blk w g cs) (u : Value) (hg : g' ≠ g) : Blk (w.setCell ⟨g', o, none⟩ u) g cs := h.grow (grown_setCell w g' o u) (by simp; omega)
theorem Blk.set {w : World} {g : Nat} {cs : List Value} (h : Blk w g cs) (j : Nat) (hj : j < cs.length) (u : Value) : Blk (w.setCell ⟨g, j, none⟩ u) g (cs.set j u) := by
  refine ⟨by simpa [World.setCell] using h.1, fun i x hx => ?_, fun i => by rw [World.frozen?_setCell]; exact h.2.2 i⟩
  by_cases hi : i = j
  · subst hi
    have : x = u := by
      rw [List.getElem?_set_self hj] at hx
      exact (Option.some.inj hx).symm
    subst this
    have hc := h.2.1 i _ (List.getElem?_eq_getElem hj)
    exact World.cell?_setCell_same' _ _ _ (by rw [hc]; rfl)
  · rw [List.getElem?_set_ne (fun e => hi e.symm)] at hx
    rw [World.cell?_setCell_other _ _ _ _ (by simp <;> omega)]
    exact h.2.1 i x hx
/-- A store into a block of the call's own. -/
theorem Drawn.set {n₀ b g o : Nat} {w w' : World} (h : Drawn n₀ w w' b) (u : Value) (hg : w.heap.size ≤ g) (hn : n₀ < g) : Drawn n₀ w (w'.setCell ⟨g, o, none⟩ u) b := by
  refine ⟨h.str.kept (grown_setCell w' g o u) (fun k hk => by cases hk; exact hn), ⟨h.gr.os, h.gr.tape, h.gr.output, by simpa [World.setCell] using h.gr.size, fun k hk hne => ?_⟩⟩
  rw [Below.heap_setCell _ _ _ _ (fun e => by simp at e; omega), h.gr.block k hk hne]
theorem owns_other {w : World} {g o base e sz n : Nat} {v u : Value} {xs : List Value} (h : w.ownsRow base e sz v n xs) (hg : ∀ k, v.ownBlock = some k → k ≠ g) : (w.setCell ⟨g, o, none⟩ u).ownsRow base e sz v n xs :=
  h.kept (grown_setCell w g o u) (.inr (fun e => hg g (by simpa using e) rfl))
end Go.Bw
namespace Go.Proofs.YtbidnbcclibigaaDoor
open Go.RowKit Go.Bw
noncomputable def alineB : Code := (Tryd.f6.body).getD .skip
set_option maxRecDepth 100000 in
theorem frame20 (f : Nat → Value) : frame 20 f = ⟨#[f 0, f 1, f 2, f 3, f 4, f 5, f 6, f 7, f 8, f 9, f 10, f 11, f 12, f 13, f 14, f 15, f 16, f 17, f 18, f 19], []⟩ := by rfl

/-- What stands while a line is made. -/
structure Al (w0 : World) (B b g5 : Nat) (p : ByteArray) (wk : Int) (sv : Value) (ts : List StatL) (w : World) : Prop where
  dr : Drawn B w0 w b
  hB : B < w0.heap.size
  h5 : w0.heap.size < g5
  res : Blk w w0.heap.size [.string ByteArray.empty, .int .i64 0, .slice none 0 0]
  line : Blk w g5 [.string p, .int .i64 wk, sv]
  row : w.ownsRow w0.heap.size 74 2 sv ts.length (cellsOf encT ts)
  ne : ∀ k, sv.ownBlock = some k → k ≠ w0.heap.size ∧ k ≠ g5
  len : ts.length ≤ 5
  sm : StSm ts
  psm : Sm p
set_option maxRecDepth 100000 in
set_option maxHeartbeats 1000000 in
theorem al1 (w0 : World) (B b : Nat) (week : Int) (hb : b ≤ 100000) (hS : Str B w0 b) : T3 Tryd.prog (fun a w => w = w0.alloc (.cells #[.string ByteArray.empty, .int .i64 0, .slice none 0 0] 32) ∧ Fr 20 [(0, .pointer (some ⟨B, 0, none⟩)), (1, .int .i64 week), (4, .pointer (some ⟨w0.heap.size, 0, none⟩))] a) (sel [1, 0] alineB) (fun a w => ∃ (g5 : Nat) (p : ByteArray) (wk : Int) (sv : Value) (ts : List StatL), Al w0 B (b + 12) g5 p wk sv ts w ∧ Fr 20 [(0, .pointer (some ⟨B, 0, none⟩)), (4, .pointer (some ⟨w0.heap.size, 0, none⟩)), (5, .pointer (some ⟨g5, 0, none⟩))] a) No 9 (fun a w => ∃ (p : ByteArray) (wk : Int) (sv : Value) (ts : List StatL), Fr 20 [(4, .pointer (some ⟨w0.heap.size, 0, none⟩))] a ∧ Blk w w0.heap.size [.string p, .int .i64 wk, sv] ∧ w.ownsRow w0.heap.size 74 2 sv ts.length (cellsOf encT ts) ∧ ts.length ≤ 5 ∧ StSm ts ∧ Sm p ∧ Drawn B w0 w (b + 16)) := by
  refine T3.leaf ?_
  rintro Q JS JX JT K hS_ hK hX hE hT hR_ a w ⟨hw, ⟨f, rfl, q0, q1, q4, _⟩⟩
  have hlt := hS.lt
  have hD0 := (Drawn.refl hS).alloc (.cells #[.string ByteArray.empty, .int .i64 0, .slice none 0 0] 32)
  have hR := Blk.new w0 #[.string ByteArray.empty, .int .i64 0, .slice none 0 0] 32
  have hsz : (w0.alloc (.cells #[.string ByteArray.empty, .int .i64 0, .slice none 0 0] 32)).heap.size = w0.heap.size + 1 := by simp
  rw [← hw] at hD0 hR hsz
  clear hw
  rw [frame20, show f 0 = .pointer (some ⟨B, 0, none⟩) from q0, show f 1 = .int .i64 week from q1, show f 4 = .pointer (some ⟨w0.heap.size, 0, none⟩) from q4]
  clear q0 q1 q4
  conv => arg 2; whnf
  have Hz := Lib.hid hsz
  clear hsz
  go_wp2_with (go_at_call 27; refine (stats_any B b _ hD0.str (by omega)).mono ?_; rintro e w1 ⟨v, ts, rfl, hl, hsm, hown, hd⟩; obtain ⟨p1, c1, hv1⟩ := (Row.of_owns hown).shape; subst hv1; replace hD0 := hD0.trans hd; replace hR := hR.drawn hd (by omega); have hs1 := hd.size; clear hd)
  have hlt1 := hown.lt
  have hz := Hz.out
  refine Met.intro (hS_ _ _ ?_)
  refine ⟨w1.heap.size, ⟨#[97, 110, 110]⟩, week, _, ts, ⟨hD0.alloc _, hlt, by omega, hR.alloc _, Blk.new w1 _ _, owns_mono (hown.alloc _) (by omega), fun k hk => ?_, hl, hsm, by decide⟩, Fr.of _ rfl ⟨rfl, rfl, rfl, trivial⟩⟩
  have := hlt1 k hk
  omega

set_option maxRecDepth 100000 in
set_option maxHeartbeats 1000000 in
theorem al2 (w0 : World) (B b : Nat) (week : Int) (hb : b ≤ 100000) : T3 Tryd.prog (fun a w => ∃ (g5 : Nat) (p : ByteArray) (wk : Int) (sv : Value) (ts : List StatL), Al w0 B (b + 12) g5 p wk sv ts w ∧ Fr 20 [(0, .pointer (some ⟨B, 0, none⟩)), (4, .pointer (some ⟨w0.heap.size, 0, none⟩)), (5, .pointer (some ⟨g5, 0, none⟩))] a) (sel [1, 1, 0, 0] alineB) (fun a w => ∃ q, ∃ (g5 : Nat) (p : ByteArray) (wk : Int) (sv : Value) (ts : List StatL), Al w0 B (b + 13) g5 p wk sv ts w ∧ Fr 20 ((11, .bool q) :: [(0, .pointer (some ⟨B, 0, none⟩)), (4, .pointer (some ⟨w0.heap.size, 0, none⟩)), (5, .pointer (some ⟨g5, 0, none⟩))]) a) No 9 (fun a w => ∃ (p : ByteArray) (wk : Int) (sv : Value) (ts : List StatL), Fr 20 [(4, .pointer (some ⟨w0.heap.size, 0, none⟩))] a ∧ Blk w w0.heap.size [.string p, .int .i64 wk, sv] ∧ w.ownsRow w0.heap.size 74 2 sv ts.length (cellsOf encT ts) ∧ ts.length ≤ 5 ∧ StSm ts ∧ Sm p ∧ Drawn B w0 w (b + 16)) := by
  refine T3.leaf ?_
  rintro Q JS JX JT K hS hK hX hE hT hR a w ⟨g5, p, wk, sv, ts, hA, ⟨f, rfl, q0, q4, q5, _⟩⟩
  rw [frame20, show f 0 = .pointer (some ⟨B, 0, none⟩) from q0, show f 4 = .pointer (some ⟨w0.heap.size, 0, none⟩) from q4, show f 5 = .pointer (some ⟨g5, 0, none⟩) from q5]
  clear q0 q4 q5
  conv => arg 2; whnf
  go_wp2_with (go_at_call 21; refine (flip_d B _ _ _ hA.dr.str rfl (by omega)).mono ?_; rintro e w1 ⟨q, rfl, hd⟩)
  have hB := hA.hB
  have h5 := hA.h5
  refine Met.intro (hS _ _ ?_)
  exact ⟨q, g5, p, wk, sv, ts, ⟨hA.dr.trans hd, hB, h5, hA.res.drawn hd (by omega), hA.line.drawn hd (by omega), owns_drawn hA.row hd hB, hA.ne, hA.len, hA.sm, hA.psm⟩, Fr.of _ rfl ⟨rfl, rfl, rfl, rfl, trivial⟩⟩

set_option maxRecDepth 100000 in
set_option maxHeartbeats 1000000 in
theorem al3 (w0 : World) (B b : Nat) (week : Int) (hb : b ≤ 100000) : T3 Tryd.prog (fun a w => ∃ (g5 : Nat) (p : ByteArray) (wk : Int) (sv : Value) (ts : List StatL), Al w0 B (b + 13) g5 p wk sv ts w ∧ Fr 20 [(11, .bool true), (0, .pointer (some ⟨B, 0, none⟩)), (4, .pointer (some ⟨w0.heap.size, 0, none⟩)), (5, .pointer (some ⟨g5, 0, none⟩))] a) (sel [1, 1, 0, 1, 2] alineB) (fun a w => ∃ (g5 : Nat) (p : ByteArray) (wk : Int) (sv : Value) (ts : List StatL), Al w0 B (b + 16) g5 p wk sv ts w ∧ Fr 20 [(0, .pointer (some ⟨B, 0, none⟩)), (4, .pointer (some ⟨w0.heap.size, 0, none⟩)), (5, .pointer (some ⟨g5, 0, none⟩))] a) No 9 (fun a w => ∃ (p : ByteArray) (wk : Int) (sv : Value) (ts : List StatL), Fr 20 [(4, .pointer (some ⟨w0.heap.size, 0, none⟩))] a ∧ Blk w w0.heap.size [.string p, .int .i64 wk, sv] ∧ w.ownsRow w0.heap.size 74 2 sv ts.length (cellsOf encT ts) ∧ ts.length ≤ 5 ∧ StSm ts ∧ Sm p ∧ Drawn B w0 w (b + 16)) := by
  refine T3.leaf ?_
  rintro Q JS JX JT K hS hK hX hE hT hR a w ⟨g5, p, wk, sv, ts, hA, ⟨f, rfl, q11, q0, q4, q5, _⟩⟩
  have hB := hA.hB
  have h5 := hA.h5
  rw [frame20, show f 11 = .bool true from q11, show f 0 = .pointer (some ⟨B, 0, none⟩) from q0, show f 4 = .pointer (some ⟨w0.heap.size, 0, none⟩) from q4, show f 5 = .pointer (some ⟨g5, 0, none⟩) from q5]
  clear q11 q0 q4 q5
  conv => arg 2; whnf
  have hn := hA.ne
  have hln := hA.len
  have hsm := hA.sm
  have hD := hA.dr
  have hR := hA.res
  have hL := hA.line
  have hO := hA.row
  clear hA
  go_wp2_with first
    | (go_at_call 23; refine (some_lit B _ [⟨#[]⟩, ⟨#[97, 110, 110]⟩] 2 _ _ _ rfl rfl (by decide) (by decide) hD.str (by omega)).mono ?_; rintro e w2 ⟨r, rfl, hm, hd⟩; replace hD := hD.trans hd; replace hR := hR.drawn hd (by omega); replace hL := hL.drawn hd (by omega); replace hO := owns_drawn hO hd hB; clear hd)
    | (go_at_call 24; refine (odd_d B _ _ _ _ (by decide) (by decide) (by decide) hD.str (by omega)).mono ?_; rintro e w3 ⟨n1, rfl, _, hd⟩; replace hD := hD.trans hd; replace hR := hR.drawn hd (by omega); replace hL := hL.drawn hd (by omega); replace hO := owns_drawn hO hd hB; clear hd; have c0 := hL.2.1 0 _ rfl; have c1 := hL.2.1 1 _ rfl; have f0 := hL.2.2 0; have f1 := hL.2.2 1)
  have hr : Sm r := by
    simp at hm
    rcases hm with rfl | rfl <;> decide
  refine Met.intro (hS _ _ ?_)
  exact ⟨g5, r, n1, sv, ts, ⟨(hD.set _ (by omega) (by omega)).set _ (by omega) (by omega), hB, h5, (hR.other _ (by omega)).other _ (by omega), (hL.set 0 (by simp) _).set 1 (by simp) _, owns_other (owns_other hO (fun k hk => (hn k hk).2)) (fun k hk => (hn k hk).2), hn, hln, hsm, hr⟩, Fr.of _ rfl ⟨rfl, rfl, rfl, trivial⟩⟩

set_option maxRecDepth 100000 in
set_option maxHeartbeats 1000000 in
theorem al4 (w0 : World) (B b : Nat) (week : Int) (hb : b ≤ 100000) : T3 Tryd.prog (fun a w => ∃ (g5 : Nat) (p : ByteArray) (wk : Int) (sv : Value) (ts : List StatL), Al w0 B (b + 16) g5 p wk sv ts w ∧ Fr 20 [(0, .pointer (some ⟨B, 0, none⟩)), (4, .pointer (some ⟨w0.heap.size, 0, none⟩)), (5, .pointer (some ⟨g5, 0, none⟩))] a) (sel [1, 1, 1, 0] alineB) (fun a w => ∃ (p : ByteArray) (wk : Int) (sv : Value) (ts : List StatL), Fr 20 [(4, .pointer (some ⟨w0.heap.size, 0, none⟩))] a ∧ Blk w w0.heap.size [.string p, .int .i64 wk, sv] ∧ w.ownsRow w0.heap.size 74 2 sv ts.length (cellsOf encT ts) ∧ ts.length ≤ 5 ∧ StSm ts ∧ Sm p ∧ Drawn B w0 w (b + 16)) No 9 (fun a w => ∃ (p : ByteArray) (wk : Int) (sv : Value) (ts : List StatL), Fr 20 [(4, .pointer (some ⟨w0.heap.size, 0, none⟩))] a ∧ Blk w w0.heap.size [.string p, .int .i64 wk, sv] ∧ w.ownsRow w0.heap.size 74 2 sv ts.length (cellsOf encT ts) ∧ ts.length ≤ 5 ∧ StSm ts ∧ Sm p ∧ Drawn B w0 w (b + 16)) := by
  refine T3.leaf ?_
  rintro Q JS JX JT K hS hK hX hE hT hR a w ⟨g5, p, wk, sv, ts, hA, ⟨f, rfl, q0, q4, q5, _⟩⟩
  have hB := hA.hB
  have h5 := hA.h5
  obtain ⟨p1, c1, hv1⟩ := (Row.of_owns hA.row).shape
  subst hv1
  rw [frame20, show f 0 = .pointer (some ⟨B, 0, none⟩) from q0, show f 4 = .pointer (some ⟨w0.heap.size, 0, none⟩) from q4, show f 5 = .pointer (some ⟨g5, 0, none⟩) from q5]
  clear q0 q4 q5
  conv => arg 2; whnf
  have c0 := hA.line.2.1 0 _ rfl
  have c1' := hA.line.2.1 1 _ rfl
  have c2 := hA.line.2.1 2 _ rfl
  have d0 := hA.res.2.1 0 _ rfl
  have d1 := hA.res.2.1 1 _ rfl
  have d2 := hA.res.2.1 2 _ rfl
  have f0 := hA.res.2.2 0
  have f1 := hA.res.2.2 1
  have f2 := hA.res.2.2 2
  have hn := hA.ne
  go_wp2_with fail
  refine Met.intro (hS _ _ ?_)
  exact ⟨p, wk, _, ts, Fr.of _ rfl ⟨rfl, trivial⟩, ((hA.res.set 0 (by simp) _).set 1 (by simp) _).set 2 (by simp) _, owns_other (owns_other (owns_other hA.row (fun k hk => (hn k hk).1)) (fun k hk => (hn k hk).1)) (fun k hk => (hn k hk).1), hA.len, hA.sm, hA.psm,
    ((hA.dr.set _ (Nat.le_refl _) hB).set _ (Nat.le_refl _) hB).set _ (Nat.le_refl _) hB⟩

set_option maxRecDepth 100000 in
set_option maxHeartbeats 1000000 in
theorem aline_any (B b : Nat) (week : Int) (w0 : World) (hS : Str B w0 b) (hb : b ≤ 100000) :
    Calls Tryd.prog 6 #[.pointer (some ⟨B, 0, none⟩), .int .i64 week] w0 fun e w' => ∃ (p : ByteArray) (wk : Int) (sv : Value) (ts : List StatL), e = .returned (.agg #[.string p, .int .i64 wk, sv]) ∧ w'.ownsRow w0.heap.size 74 2 sv ts.length (cellsOf encT ts) ∧ ts.length ≤ 5 ∧ StSm ts ∧ Sm p ∧ Drawn B w0 w' (b + 16) := by
  go_enter Tryd.func6, Tryd.ntmps6
  refine T3.done (P := Tryd.prog) (s := alineB) (R := fun a w => w = w0 ∧ Fr 20 [(0, .pointer (some ⟨B, 0, none⟩)), (1, .int .i64 week)] a)
    (T3.seq (s := (sel [0] alineB)) (c := (sel [1] alineB)) ?_ (T3.seq (s := (sel [1, 0] alineB)) (c := (sel [1, 1] alineB)) (al1 w0 B b week hb hS) (T3.seq (s := (sel [1, 1, 0] alineB)) (c := (sel [1, 1, 1] alineB)) (T3.seq (s := (sel [1, 1, 0, 0] alineB)) (c := (sel [1, 1, 0, 1] alineB)) (al2 w0 B b week hb) ?_) (T3.seq (s := (sel [1, 1, 1, 0] alineB)) (c := .ret) (al4 w0 B b week hb) (T3.ret (fun _ _ h => h)))))) ⟨rfl, Fr.of _ rfl ⟨rfl, rfl, trivial⟩⟩ ?_
  · refine T3.leaf ?_
    rintro Q JS JX JT K hS_ hK hX hE hT hR a w ⟨hw, ⟨f, rfl, q0, q1, _⟩⟩
    subst hw
    rw [frame20, show f 0 = _ from q0, show f 1 = _ from q1]
    clear q0 q1
    conv => arg 2; whnf
    go_wp2_with fail
    refine Met.intro (hS_ _ _ ?_)
    exact ⟨rfl, Fr.of _ rfl ⟨rfl, rfl, rfl, trivial⟩⟩
  · refine T3.ex fun q => ?_
    refine T3.cond (o := .tmp 11) (x := (sel [1, 1, 0, 1, 2] alineB)) (y := .skip) (fun a w => q = true ∧ ∃ (g5 : Nat) (p : ByteArray) (wk : Int) (sv : Value) (ts : List StatL), Al w0 B (b + 13) g5 p wk sv ts w ∧ Fr 20 [(11, .bool true), (0, .pointer (some ⟨B, 0, none⟩)), (4, .pointer (some ⟨w0.heap.size, 0, none⟩)), (5, .pointer (some ⟨g5, 0, none⟩))] a) (fun a w => ∃ (g5 : Nat) (p : ByteArray) (wk : Int) (sv : Value) (ts : List StatL), Al w0 B (b + 13) g5 p wk sv ts w ∧ Fr 20 [(0, .pointer (some ⟨B, 0, none⟩)), (4, .pointer (some ⟨w0.heap.size, 0, none⟩)), (5, .pointer (some ⟨g5, 0, none⟩))] a) ?_ ((al3 w0 B b week hb).pre (fun a w h => h.2)) (T3.skip ?_)
    · rintro a w ⟨g5, p, wk, sv, ts, hA, hF⟩
      have he := hF.eval 11 (by decide) (v := .bool q) (by simp)
      cases q
      · exact .inr ⟨he, g5, p, wk, sv, ts, hA, hF.tail⟩
      · exact .inl ⟨he, rfl, g5, p, wk, sv, ts, hA, hF⟩
    · rintro a w ⟨g5, p, wk, sv, ts, hA, hF⟩
      exact ⟨g5, p, wk, sv, ts, ⟨hA.dr.mono (by omega), hA.hB, hA.h5, hA.res, hA.line, hA.row, hA.ne, hA.len, hA.sm, hA.psm⟩, hF⟩
  · rintro a w ⟨p, wk, sv, ts, ⟨f, rfl, q4, _⟩, hR, hO, hl, hsm, hp, hd⟩
    rw [frame20, show f 4 = _ from q4]
    have r0 := hR.2.1 0 _ rfl
    have r1 := hR.2.1 1 _ rfl
    have r2 := hR.2.1 2 _ rfl
    exact bodyPost_ret (v := .agg #[.string p, .int .i64 wk, sv]) (by simp [results, Tryd.results6, go_sem, r0, r1, r2]) rfl ⟨p, wk, sv, ts, rfl, hO, hl, hsm, hp, hd⟩

end Go.Proofs.YtbidnbcclibigaaDoor
