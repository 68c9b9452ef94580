/-
  What each rule gives: the program's Parts, the reference's PartsOf. Conditions: strings and numbers are no greater than Go's; the library's table of powers of ten reads as it is laid.
-/
import Derived.Test.YtbidnbcclibigaaDoorCounts
import Derived.Test.YtbidnbcclibigaaDoorItoa
import Derived.Test.YtbidnbcclibigaaDoorALine
import Derived.Test.YtbidnbcclibigaaDoorPieceN
namespace Go.Bw
open Go.RowKit
theorem Blk.under {w w' : World} {g : Nat} {cs : List Value} (h : Blk w g cs) (b : Below w.heap.size w w') : Blk w' g cs := h.grow (row := none) (grown_of_below b) (by simp)
end Go.Bw
namespace Go.Proofs.YtbidnbcclibigaaDoor
open Go.RowKit Go.Bw
/-- A name with a value. -/
structure PairL where
  name : ByteArray
  val : ByteArray
instance : Inhabited PairL := ⟨⟨ByteArray.empty, ByteArray.empty⟩⟩
def encPr (p : PairL) : List Value := [.string p.name, .string p.val]
theorem encPr_length (p : PairL) : (encPr p).length = 2 := rfl
def partOf (ps : List ByteArray) (ts : List StatL) (r : RuleL) : Option PairL := if givesV r ps ts = 0 then none else some ⟨r.key, fracT (ofHn (givesV r ps ts)) (ofHd (givesV r ps ts))⟩
def partsTo (rs : List RuleL) (ps : List ByteArray) (ts : List StatL) (k : Int) : List PairL := (rs.take k.toNat).filterMap (partOf ps ts)
def partsL (rs : List RuleL) (ps : List ByteArray) (ts : List StatL) : List PairL := partsTo rs ps ts rs.length
theorem partsTo_succ (rs : List RuleL) (ps : List ByteArray) (ts : List StatL) (k : Int) (h0 : 0 ≤ k) (h1 : k < rs.length) : partsTo rs ps ts (k + 1) = partsTo rs ps ts k ++ (partOf ps ts (geta rs k)).toList := by
  unfold partsTo
  rw [show (k + 1).toNat = k.toNat + 1 by omega, List.take_succ_eq_append_getElem (by omega), geta_eq rs k h0 h1, List.filterMap_append]
  congr 1
theorem partsTo_same {rs : List RuleL} {ps : List ByteArray} {ts : List StatL} {k : Int} (h0 : 0 ≤ k) (h1 : k < rs.length) (h : givesV (geta rs k) ps ts = 0) : partsTo rs ps ts (k + 1) = partsTo rs ps ts k := by
  rw [partsTo_succ rs ps ts k h0 h1]; unfold partOf; rw [if_pos h]; simp
theorem partsTo_more {rs : List RuleL} {ps : List ByteArray} {ts : List StatL} {k : Int} (h0 : 0 ≤ k) (h1 : k < rs.length) (h : givesV (geta rs k) ps ts ≠ 0) :
    partsTo rs ps ts (k + 1) = partsTo rs ps ts k ++ [⟨(geta rs k).key, fracT (ofHn (givesV (geta rs k) ps ts)) (ofHd (givesV (geta rs k) ps ts))⟩] := by
  rw [partsTo_succ rs ps ts k h0 h1]; unfold partOf; rw [if_neg h]; rfl
theorem partsTo_length (rs : List RuleL) (ps : List ByteArray) (ts : List StatL) (k : Int) : (partsTo rs ps ts k).length ≤ rs.length := by
  unfold partsTo
  have h1 := List.length_filterMap_le (partOf ps ts) (rs.take k.toNat)
  rw [List.length_take] at h1
  omega
/-- What is known of the data. -/
structure PtH (w0 : World) (vr vp vt : Value) (rs : List RuleL) (ps : List ByteArray) (ts : List StatL) : Prop where
  hg : ∀ r ∈ rs, RuleGood r
  hl : rs.length ≤ 100
  hc : ∀ t ∈ ts, -100000 ≤ t.count ∧ t.count ≤ 100000
  rr : Row w0 0 7 vr rs.length (cellsOf encR rs)
  tr : Row w0 0 2 vt ts.length (cellsOf encT ts)
  pr : Row w0 0 1 vp ps.length (cellsOf encS ps)
  tab : Tab w0
/-- The call's own blocks: the line (block b), the result. -/
structure Pt (w0 : World) (b : Nat) (lc : List Value) (v9 : Value) (l : List PairL) (w : World) : Prop where
  line : CellsAt w b lc
  bel : Below w0.heap.size w0 w
  own : w.ownsRow (b + 1) 51 2 v9 l.length (cellsOf encPr l)
  hb : w0.heap.size ≤ b
section
variable {w0 w w' : World} {b : Nat} {lc : List Value} {v9 v' : Value} {l : List PairL}
theorem Pt.below (h : Pt w0 b lc v9 l w) (g : Below w.heap.size w w') : Pt w0 b lc v9 l w' :=
  ⟨h.line.below g, h.bel.trans (g.mono h.bel.size), owns_below h.own g (Nat.le_refl _), h.hb⟩
theorem Pt.alloc (h : Pt w0 b lc v9 l w) (o : Obj) : Pt w0 b lc v9 l (w.alloc o) := h.below ((Below.refl _ _).alloc (Nat.le_refl _) o)
theorem Pt.app (h : Pt w0 b lc v9 l w) {p : PairL} (ho : w'.ownsRow (b + 1) 51 2 v' (l ++ [p]).length (cellsOf encPr (l ++ [p]))) (g : w.grownBy w' v9.ownBlock) : Pt w0 b lc v' (l ++ [p]) w' := by
  have hb := h.hb
  refine ⟨⟨Nat.lt_of_lt_of_le h.line.1 g.size, fun j u hu => ?_⟩, h.bel.grown g h.bel.size (fun k hk => by have := (h.own.lt k hk).1; omega), ho, h.hb⟩
  rw [World.cell?_of_block (a := ⟨b, j, none⟩) (g.block b h.line.1 (fun e => by have := (h.own.lt b e.symm).1; omega))]
  exact h.line.2 j u hu
theorem Pt.ne (h : Pt w0 b lc v9 l w) : v9.ownBlock ≠ some w.heap.size := fun e => by have := (h.own.lt _ e).2; omega
end
theorem el_pair : Elem Tryd.prog 40 51 (.agg #[.string ByteArray.empty, .string ByteArray.empty]) 2 32 := ⟨by kernel_rfl, by kernel_rfl, by kernel_rfl, by decide, by decide⟩
noncomputable def partsP : Code := (Tryd.f9.body).getD .skip
set_option maxRecDepth 100000 in
theorem fr_partsP (f : Nat → Value) : frame 44 f = ⟨#[f 0, f 1, f 2, f 3, f 4, f 5, f 6, f 7, f 8, f 9, f 10, f 11, f 12, f 13, f 14, f 15, f 16, f 17, f 18, f 19, f 20, f 21, f 22, f 23, f 24, f 25, f 26, f 27, f 28, f 29, f 30, f 31, f 32, f 33, f 34, f 35, f 36, f 37, f 38, f 39, f 40, f 41, f 42, f 43], []⟩ := by rfl
set_option maxRecDepth 100000 in
set_option maxHeartbeats 1000000 in
theorem pp5 (w0 : World) (vr vp vt : Value) (rs : List RuleL) (ps : List ByteArray) (ts : List StatL) (pl : ByteArray) (wk : Int) (b : Nat) (h : PtH w0 vr vp vt rs ps ts) : T3 Tryd.prog (fun a w => (Pt w0 b [.string pl, .int .i64 wk, vt] (.slice none 0 0) [] w) ∧ Fr 44 [(0, vr), (1, vp), (5, .pointer (some ⟨b, 0, none⟩)), (9, .slice none 0 0)] a) (sel [1, 1, 1, 0, 0] partsP) (fun a w => (0 ≤ (0 : Int) ∧ (0 : Int) ≤ rs.length) ∧ ∃ (v9 : Value), (Pt w0 b [.string pl, .int .i64 wk, vt] v9 (partsTo rs ps ts 0) w) ∧ Fr 44 [(1, vp), (5, .pointer (some ⟨b, 0, none⟩)), (9, v9), (21, vr), (22, .int .i64 rs.length), (23, .int .i64 0)] a) No 9 No := by
  refine T3.leaf ?_
  rintro Q JS JX JT K hS hK hX hE hT hR a w ⟨hW, ⟨fr, rfl, q0, q1, q5, q9, _⟩⟩
  obtain ⟨p0, c0, hv0⟩ := h.rr.shape
  subst hv0
  rw [fr_partsP, show fr 0 = _ from q0, show fr 1 = _ from q1, show fr 5 = _ from q5, show fr 9 = _ from q9]
  clear q0 q1 q5 q9
  conv => arg 2; whnf
  go_wp2_with fail
  refine Met.intro (hS _ _ ?_)
  exact ⟨⟨by omega, by omega⟩, _, hW, Fr.of _ rfl ⟨rfl, rfl, rfl, rfl, rfl, rfl, trivial⟩⟩

set_option maxRecDepth 100000 in
set_option maxHeartbeats 1000000 in
theorem pp7 (w0 : World) (vr vp vt : Value) (rs : List RuleL) (ps : List ByteArray) (ts : List StatL) (pl : ByteArray) (wk : Int) (b : Nat) (h : PtH w0 vr vp vt rs ps ts) (k : Int) : T3 Tryd.prog (fun a w => ∃ (v9 : Value), (0 ≤ k ∧ k < rs.length) ∧ (Pt w0 b [.string pl, .int .i64 wk, vt] v9 (partsTo rs ps ts k) w) ∧ Fr 44 [(1, vp), (5, .pointer (some ⟨b, 0, none⟩)), (9, v9), (21, vr), (22, .int .i64 rs.length), (23, .int .i64 k)] a) (sel [1, 1, 1, 0, 1, 4, 4, 1, 1, 0, 4, 0] partsP) (fun a w => ∃ (g : Nat) (v9 : Value), (0 ≤ k ∧ k < rs.length) ∧ ((Pt w0 b [.string pl, .int .i64 wk, vt] v9 (partsTo rs ps ts k) w ∧ Blk w g (encR (geta rs k)) ∧ v9.ownBlock ≠ some g)) ∧ Fr 44 [(1, vp), (5, .pointer (some ⟨b, 0, none⟩)), (9, v9), (11, .pointer (some ⟨g, 0, none⟩)), (21, vr), (22, .int .i64 rs.length), (23, .int .i64 k)] a) No 9 No := by
  refine T3.leaf ?_
  rintro Q JS JX JT K hS hK hX hE hT hR a w ⟨v9, hpre, hW, ⟨fr, rfl, q1, q5, q9, q21, q22, q23, _⟩⟩
  obtain ⟨hk0, hk1⟩ := hpre
  obtain ⟨_, hcs⟩ := (h.rr.below hW.bel).els encR_length (by decide)
  rcases hcs with ⟨rfl, h0⟩ | ⟨bz, off, cap, rfl, _, hbz, hnc, hcm, hcell⟩
  · omega
  have t0 := hcell k hk0 hk1 0 _ rfl
  have t1 := hcell k hk0 hk1 1 _ rfl
  have t2 := hcell k hk0 hk1 2 _ rfl
  have t3 := hcell k hk0 hk1 3 _ rfl
  have t4 := hcell k hk0 hk1 4 _ rfl
  have t5 := hcell k hk0 hk1 5 _ rfl
  have t6 := hcell k hk0 hk1 6 _ rfl
  rw [Nat.add_zero] at t0
  clear hcell
  rw [fr_partsP, show fr 1 = _ from q1, show fr 5 = _ from q5, show fr 9 = _ from q9, show fr 21 = _ from q21, show fr 22 = _ from q22, show fr 23 = _ from q23]
  clear q1 q5 q9 q21 q22 q23
  conv => arg 2; whnf
  go_wp2_with fail
  refine Met.intro (hS _ _ ?_)
  exact ⟨w.heap.size, v9, ⟨hk0, hk1⟩, ⟨hW.alloc _, Blk.new w (encR (geta rs k)).toArray _, hW.ne⟩, Fr.of _ rfl ⟨rfl, rfl, rfl, rfl, rfl, rfl, rfl, trivial⟩⟩

set_option maxRecDepth 100000 in
set_option maxHeartbeats 1000000 in
theorem pp8 (w0 : World) (vr vp vt : Value) (rs : List RuleL) (ps : List ByteArray) (ts : List StatL) (pl : ByteArray) (wk : Int) (b : Nat) (h : PtH w0 vr vp vt rs ps ts) (k : Int) : T3 Tryd.prog (fun a w => ∃ (g : Nat) (v9 : Value), (0 ≤ k ∧ k < rs.length) ∧ ((Pt w0 b [.string pl, .int .i64 wk, vt] v9 (partsTo rs ps ts k) w ∧ Blk w g (encR (geta rs k)) ∧ v9.ownBlock ≠ some g)) ∧ Fr 44 [(1, vp), (5, .pointer (some ⟨b, 0, none⟩)), (9, v9), (11, .pointer (some ⟨g, 0, none⟩)), (21, vr), (22, .int .i64 rs.length), (23, .int .i64 k)] a) (sel [1, 1, 1, 0, 1, 4, 4, 1, 1, 0, 4, 1, 0] partsP) (fun a w => ∃ (g : Nat) (v9 : Value), (0 ≤ k ∧ k < rs.length) ∧ ((Pt w0 b [.string pl, .int .i64 wk, vt] v9 (partsTo rs ps ts k) w ∧ Blk w g (encR (geta rs k)) ∧ v9.ownBlock ≠ some g)) ∧ Fr 44 [(1, vp), (5, .pointer (some ⟨b, 0, none⟩)), (9, v9), (11, .pointer (some ⟨g, 0, none⟩)), (12, .int .i64 (givesV (geta rs k) ps ts)), (21, vr), (22, .int .i64 rs.length), (23, .int .i64 k)] a) No 9 No := by
  refine T3.leaf ?_
  rintro Q JS JX JT K hS hK hX hE hT hR a w ⟨g, v9, hpre, ⟨hP, hB, hne⟩, ⟨fr, rfl, q1, q5, q9, q11, q21, q22, q23, _⟩⟩
  obtain ⟨hk0, hk1⟩ := hpre
  have x0 := hB.2.1 0 _ rfl
  have x1 := hB.2.1 1 _ rfl
  have x2 := hB.2.1 2 _ rfl
  have x3 := hB.2.1 3 _ rfl
  have x4 := hB.2.1 4 _ rfl
  have x5 := hB.2.1 5 _ rfl
  have x6 := hB.2.1 6 _ rfl
  have l0 := hP.line.2 0 _ rfl
  have l1 := hP.line.2 1 _ rfl
  have l2 := hP.line.2 2 _ rfl
  have HG := Lib.hid (gives_prog w (geta rs k) pl wk vt vp ts ps (h.hg _ (geta_mem hk0 hk1)) h.hc (h.tr.below hP.bel) (h.pr.below hP.bel))
  obtain ⟨p1, c1, hv1⟩ := h.tr.shape
  subst hv1
  generalize hR_ : geta rs k = R at *
  have HR_ := Lib.hid hR_
  clear hR_
  rw [fr_partsP, show fr 1 = _ from q1, show fr 5 = _ from q5, show fr 9 = _ from q9, show fr 11 = _ from q11, show fr 21 = _ from q21, show fr 22 = _ from q22, show fr 23 = _ from q23]
  clear q1 q5 q9 q11 q21 q22 q23
  conv => arg 2; whnf
  go_wp2_with fail
  refine HG.out.mono ?_
  rintro e w1 ⟨rfl, hb⟩
  go_wp2_with fail
  refine Met.intro (hS _ _ ?_)
  exact ⟨g, v9, ⟨hk0, hk1⟩, ⟨hP.below hb, hB.under hb, hne⟩, Fr.of _ rfl ⟨rfl, rfl, rfl, rfl, rfl, rfl, rfl, rfl, trivial⟩⟩

set_option maxRecDepth 100000 in
set_option maxHeartbeats 1000000 in
theorem pp9 (w0 : World) (vr vp vt : Value) (rs : List RuleL) (ps : List ByteArray) (ts : List StatL) (pl : ByteArray) (wk : Int) (b : Nat) (h : PtH w0 vr vp vt rs ps ts) (k : Int) (g : Nat) (v9 : Value) : T3 Tryd.prog (fun a w => (0 ≤ k ∧ k < rs.length) ∧ ((Pt w0 b [.string pl, .int .i64 wk, vt] v9 (partsTo rs ps ts k) w ∧ Blk w g (encR (geta rs k)) ∧ v9.ownBlock ≠ some g)) ∧ Fr 44 [(1, vp), (5, .pointer (some ⟨b, 0, none⟩)), (9, v9), (11, .pointer (some ⟨g, 0, none⟩)), (12, .int .i64 (givesV (geta rs k) ps ts)), (21, vr), (22, .int .i64 rs.length), (23, .int .i64 k)] a) (sel [1, 1, 1, 0, 1, 4, 4, 1, 1, 0, 4, 1, 1, 0] partsP) (fun a w => ∃ q, Fr 44 ((32, .bool q) :: [(1, vp), (5, .pointer (some ⟨b, 0, none⟩)), (9, v9), (11, .pointer (some ⟨g, 0, none⟩)), (12, .int .i64 (givesV (geta rs k) ps ts)), (21, vr), (22, .int .i64 rs.length), (23, .int .i64 k)]) a ∧ (((0 ≤ k ∧ k < rs.length) ∧ (q = true ↔ givesV (geta rs k) ps ts ≠ 0)) ∧ (Pt w0 b [.string pl, .int .i64 wk, vt] v9 (partsTo rs ps ts k) w ∧ Blk w g (encR (geta rs k)) ∧ v9.ownBlock ≠ some g))) No 9 No := by
  refine T3.leaf ?_
  rintro Q JS JX JT K hS hK hX hE hT hR a w ⟨hpre, hW, ⟨fr, rfl, q1, q5, q9, q11, q12, q21, q22, q23, _⟩⟩
  generalize givesV (geta rs k) ps ts = N at *
  by_cases h0 : N = 0
  · have hz : (N != 0) = false := by simp [h0]
    have H0 := Lib.hid h0
    clear h0
    rw [fr_partsP, show fr 1 = _ from q1, show fr 5 = _ from q5, show fr 9 = _ from q9, show fr 11 = _ from q11, show fr 12 = _ from q12, show fr 21 = _ from q21, show fr 22 = _ from q22, show fr 23 = _ from q23]
    clear q1 q5 q9 q11 q12 q21 q22 q23
    conv => arg 2; whnf
    go_wp2_with fail
    refine Met.intro (hS _ _ ?_)
    exact ⟨false, Fr.of _ rfl ⟨rfl, rfl, rfl, rfl, rfl, rfl, rfl, rfl, rfl, trivial⟩, ⟨hpre, ⟨fun h => (by cases h), fun h => absurd H0.out h⟩⟩, hW⟩
  · have hz : (N != 0) = true := by simp [h0]
    have H0 := Lib.hid h0
    clear h0
    rw [fr_partsP, show fr 1 = _ from q1, show fr 5 = _ from q5, show fr 9 = _ from q9, show fr 11 = _ from q11, show fr 12 = _ from q12, show fr 21 = _ from q21, show fr 22 = _ from q22, show fr 23 = _ from q23]
    clear q1 q5 q9 q11 q12 q21 q22 q23
    conv => arg 2; whnf
    go_wp2_with fail
    refine Met.intro (hS _ _ ?_)
    exact ⟨true, Fr.of _ rfl ⟨rfl, rfl, rfl, rfl, rfl, rfl, rfl, rfl, rfl, trivial⟩, ⟨hpre, ⟨fun _ => H0.out, fun _ => rfl⟩⟩, hW⟩

set_option maxRecDepth 100000 in
set_option maxHeartbeats 1000000 in
theorem pp10 (w0 : World) (vr vp vt : Value) (rs : List RuleL) (ps : List ByteArray) (ts : List StatL) (pl : ByteArray) (wk : Int) (b : Nat) (h : PtH w0 vr vp vt rs ps ts) (k : Int) (g : Nat) (v9 : Value) : T3 Tryd.prog (fun a w => Fr 44 ((32, .bool true) :: [(1, vp), (5, .pointer (some ⟨b, 0, none⟩)), (9, v9), (11, .pointer (some ⟨g, 0, none⟩)), (12, .int .i64 (givesV (geta rs k) ps ts)), (21, vr), (22, .int .i64 rs.length), (23, .int .i64 k)]) a ∧ ((0 ≤ k ∧ k < rs.length) ∧ (true = true ↔ givesV (geta rs k) ps ts ≠ 0)) ∧ (Pt w0 b [.string pl, .int .i64 wk, vt] v9 (partsTo rs ps ts k) w ∧ Blk w g (encR (geta rs k)) ∧ v9.ownBlock ≠ some g)) (sel [1, 1, 1, 0, 1, 4, 4, 1, 1, 0, 4, 1, 1, 1, 2] partsP) (fun a w => ∃ (v9 : Value), (0 ≤ k ∧ k < rs.length) ∧ (Pt w0 b [.string pl, .int .i64 wk, vt] v9 (partsTo rs ps ts (k + 1)) w) ∧ Fr 44 [(1, vp), (5, .pointer (some ⟨b, 0, none⟩)), (9, v9), (21, vr), (22, .int .i64 rs.length), (23, .int .i64 k)] a) No 9 No := by
  refine T3.leafN ?_
  rintro JS hS a w ⟨⟨fr, rfl, q32, q1, q5, q9, q11, q12, q21, q22, q23, _⟩, ⟨hpre, hq⟩, hP, hB, hne⟩
  obtain ⟨hk0, hk1⟩ := hpre
  have hl := h.hl
  have hlen := partsTo_length rs ps ts k
  have hgb := gives_le (h.hg _ (geta_mem hk0 hk1)) ps ts h.hc
  have Hs := Lib.hid (partsTo_more hk0 hk1 (hq.1 rfl))
  have x0 := hB.2.1 0 _ rfl
  have HTab := Lib.hid (h.tab.below hP.bel)
  clear hq
  have hob := ofH_bounds (givesV (geta rs k) ps ts) (by omega) (by omega)
  obtain ⟨p9, c9, hv9⟩ := (Row.of_owns hP.own).shape
  subst hv9
  generalize givesV (geta rs k) ps ts = N at *
  generalize hky : (geta rs k).key = key at *
  have Hky := Lib.hid hky
  clear hky
  have Hne := Lib.hid hne
  generalize hL : partsTo rs ps ts k = L at *
  have HL := Lib.hid hL
  clear hL hne
  rw [fr_partsP, show fr 32 = _ from q32, show fr 1 = _ from q1, show fr 5 = _ from q5, show fr 9 = _ from q9, show fr 11 = _ from q11, show fr 12 = _ from q12, show fr 21 = _ from q21, show fr 22 = _ from q22, show fr 23 = _ from q23]
  clear q32 q1 q5 q9 q11 q12 q21 q22 q23
  conv => arg 2; whnf
  refine wp_region_mix ((.slice p9 L.length c9 : Value).ownBlock) [(true, 0), (true, 1), (true, 2), (true, 3), (false, 4), (false, 5), (true, 6), (false, 7), (false, 8), (true, 9)] (by kernel_rfl) (by kernel_rfl) (by intro c a d v w h; cases d <;> exact h) ?_
  simp only [pickFlat, List.filterMap_cons, List.filterMap_nil, List.getElem?_cons_succ, List.getElem?_cons_zero, Option.map_some]
  have A0 := wof_at (w₁ := w.drew) (row := (.slice p9 L.length c9 : Value).ownBlock) (a := ⟨g, 0, none⟩) x0 Hne.out
  refine flat_hide (fun W hH hC hN hE => ?_)
  iterate 4 (refine hH.out _ _ _ _ (fun K hK => ?_); go_simp; refine hK _ ?_; clear hK K)
  refine hC.out _ _ _ _ (by first | rfl | go_simp) (fun K hK => ?_)
  simp only [bare]
  go_wp2_with fail
  refine (ofHundredths_prog N w.drew (by omega) (by omega)).mono ?_
  rintro e w2 ⟨rfl, hb2⟩
  go_wp2_with fail
  refine hK.out _ _ (grown_of_below hb2) ?_
  clear hK K
  refine hC.out _ _ _ _ (by first | rfl | go_simp) (fun K hK => ?_)
  simp only [bare]
  go_wp2_with fail
  refine (ratio_prog (ofHn N) (ofHd N) (by omega) (by omega) (by omega) (by omega) w2 (Tab.below (w := w.drew) (HTab.out) hb2)).mono ?_
  rintro e w3 ⟨rfl, hb3⟩
  have hb23 := hb2.trans (hb3.mono hb2.size)
  go_wp2_with fail
  refine hK.out _ _ (grown_of_below hb23) ?_
  clear hK K
  iterate 1 (refine hH.out _ _ _ _ (fun K hK => ?_); go_simp; refine hK _ ?_; clear hK K)
  refine hC.out _ _ _ _ (by first | rfl | go_simp) (fun K hK => ?_)
  simp only [bare]
  go_wp2_with fail
  refine hK.out _ _ (grown_trans (grown_of_below hb23) (World.grownBy_alloc w3 _ _)) ?_
  clear hK K
  refine hC.out _ _ _ _ (by first | rfl | go_simp) (fun K hK => ?_)
  simp only [bare]
  have hP3 := (hP.below (below_drewN (Below.refl _ _) 1)).below hb23
  have hE2 := el_pair
  go_wp2_with (at_builtin; refine app_law rfl _ _ _ rfl hE2 (hP3.own.alloc _) rfl [.string key, .string (fracT (ofHn N) (ofHd N))] rfl rfl (cells_new w3 #[_, _] _) (by simp [Value.oneCell']) (by omega) (by have := hP3.line.1; simp; omega) ?_; intro v' w5 hown5 hgr5)
  refine hK.out _ _ (grown_trans (grown_trans (grown_of_below hb23) (World.grownBy_alloc w3 _ _)) hgr5) ?_
  clear hK K
  iterate 1 (refine hH.out _ _ _ _ (fun K hK => ?_); go_simp; refine hK _ ?_; clear hK K)
  refine hE.out _ _ ?_
  clear hH hC hN hE W
  show JS _ _
  refine hS _ _ ?_
  refine ⟨v', ⟨hk0, hk1⟩, ?_, Fr.of _ rfl ⟨rfl, rfl, rfl, rfl, rfl, rfl, trivial⟩⟩
  rw [Hs.out]
  exact (hP3.alloc _).app (by rw [cellsOf_snoc, List.length_append]; exact hown5) hgr5

set_option maxRecDepth 100000 in
set_option maxHeartbeats 1000000 in
theorem ppb (w0 : World) (vr vp vt : Value) (rs : List RuleL) (ps : List ByteArray) (ts : List StatL) (pl : ByteArray) (wk : Int) (b : Nat) (h : PtH w0 vr vp vt rs ps ts) (k : Int) : T3 Tryd.prog (fun a w => ∃ (v9 : Value), (0 ≤ k ∧ k < rs.length) ∧ (Pt w0 b [.string pl, .int .i64 wk, vt] v9 (partsTo rs ps ts k) w) ∧ Fr 44 [(1, vp), (5, .pointer (some ⟨b, 0, none⟩)), (9, v9), (21, vr), (22, .int .i64 rs.length), (23, .int .i64 k)] a) (sel [1, 1, 1, 0, 1, 4, 4, 1, 1, 0] partsP) (fun a w => ∃ (v9 : Value), (0 ≤ k ∧ k < rs.length) ∧ (Pt w0 b [.string pl, .int .i64 wk, vt] v9 (partsTo rs ps ts (k + 1)) w) ∧ Fr 44 [(1, vp), (5, .pointer (some ⟨b, 0, none⟩)), (9, v9), (21, vr), (22, .int .i64 rs.length), (23, .int .i64 k)] a) No 9 No := by
  refine T3.block (id' := 1) (c := (sel [1, 1, 1, 0, 1, 4, 4, 1, 1, 0, 4] partsP)) (by decide) ?_
  refine T3.seq (s := (sel [1, 1, 1, 0, 1, 4, 4, 1, 1, 0, 4, 0] partsP)) (c := (sel [1, 1, 1, 0, 1, 4, 4, 1, 1, 0, 4, 1] partsP)) (pp7 w0 vr vp vt rs ps ts pl wk b h k) ?_
  refine T3.seq (s := (sel [1, 1, 1, 0, 1, 4, 4, 1, 1, 0, 4, 1, 0] partsP)) (c := (sel [1, 1, 1, 0, 1, 4, 4, 1, 1, 0, 4, 1, 1] partsP)) (pp8 w0 vr vp vt rs ps ts pl wk b h k) ?_
  refine T3.ex fun g => T3.ex fun v9 => ?_
  refine T3.test (s := (sel [1, 1, 1, 0, 1, 4, 4, 1, 1, 0, 4, 1, 1, 0] partsP)) (x := (sel [1, 1, 1, 0, 1, 4, 4, 1, 1, 0, 4, 1, 1, 1, 2] partsP)) (y := .skip) (C := fun q => ((0 ≤ k ∧ k < rs.length) ∧ (q = true ↔ givesV (geta rs k) ps ts ≠ 0))) (W := fun w => (Pt w0 b [.string pl, .int .i64 wk, vt] v9 (partsTo rs ps ts k) w ∧ Blk w g (encR (geta rs k)) ∧ v9.ownBlock ≠ some g)) (by decide) (pp9 w0 vr vp vt rs ps ts pl wk b h k g v9) (pp10 w0 vr vp vt rs ps ts pl wk b h k g v9) (T3.skip ?_)
  rintro a w ⟨⟨hpre, hq⟩, ⟨hP, hB, hne⟩, hF⟩
  have h0 : givesV (geta rs k) ps ts = 0 := Decidable.byContradiction fun h => by have := hq.2 h; cases this
  refine ⟨v9, hpre, ?_, hF.sub (by simp)⟩
  rw [partsTo_same hpre.1 hpre.2 h0]
  exact hP

def ppI (w0 : World) (vr vp vt : Value) (rs : List RuleL) (ps : List ByteArray) (ts : List StatL) (pl : ByteArray) (wk : Int) (b : Nat) (h : PtH w0 vr vp vt rs ps ts) (k : Int) (a : Act) (w : World) : Prop := (0 ≤ k ∧ k ≤ rs.length) ∧ ∃ (v9 : Value), (Pt w0 b [.string pl, .int .i64 wk, vt] v9 (partsTo rs ps ts k) w) ∧ Fr 44 [(1, vp), (5, .pointer (some ⟨b, 0, none⟩)), (9, v9), (21, vr), (22, .int .i64 rs.length), (23, .int .i64 k)] a
set_option maxRecDepth 100000 in
set_option maxHeartbeats 1000000 in
theorem ppt (w0 : World) (vr vp vt : Value) (rs : List RuleL) (ps : List ByteArray) (ts : List StatL) (pl : ByteArray) (wk : Int) (b : Nat) (h : PtH w0 vr vp vt rs ps ts) (k : Int) : T3 Tryd.prog (fun a w => ppI w0 vr vp vt rs ps ts pl wk b h k a w) (sel [1, 1, 1, 0, 1, 4, 4, 0] partsP) (fun a w => ∃ q, Fr 44 ((24, .bool q) :: [(23, .int .i64 k)]) a ∧ ((q = true ↔ k < rs.length) ∧ ppI w0 vr vp vt rs ps ts pl wk b h k a w)) No 9 No := by
  refine T3.leaf ?_
  rintro Q JS JX JT K hS hK hX hE hT hR a w ⟨hk, v9, hW, ⟨fr, rfl, q1, q5, q9, q21, q22, q23, _⟩⟩
  have hl := h.hl
  rw [fr_partsP, show fr 1 = _ from q1, show fr 5 = _ from q5, show fr 9 = _ from q9, show fr 21 = _ from q21, show fr 22 = _ from q22, show fr 23 = _ from q23]
  clear q1 q5 q9 q21 q22 q23
  conv => arg 2; whnf
  by_cases hlt : k < rs.length
  · go_wp2_with fail
    refine Met.intro (hS _ _ ?_)
    exact ⟨true, Fr.of _ rfl ⟨rfl, rfl, trivial⟩, ⟨fun _ => hlt, fun _ => rfl⟩, hk, v9, hW, Fr.of _ rfl ⟨rfl, rfl, rfl, rfl, rfl, rfl, trivial⟩⟩
  · have hpb : decide (k < (rs.length : Int)) = false := by simp; omega
    go_wp2_with fail
    refine Met.intro (hS _ _ ?_)
    exact ⟨false, Fr.of _ rfl ⟨rfl, rfl, trivial⟩, ⟨(fun h => by cases h), fun h => absurd h (by omega)⟩, hk, v9, hW, Fr.of _ rfl ⟨rfl, rfl, rfl, rfl, rfl, rfl, trivial⟩⟩

set_option maxRecDepth 100000 in
set_option maxHeartbeats 1000000 in
theorem ppn (w0 : World) (vr vp vt : Value) (rs : List RuleL) (ps : List ByteArray) (ts : List StatL) (pl : ByteArray) (wk : Int) (b : Nat) (h : PtH w0 vr vp vt rs ps ts) (k : Int) : T3 Tryd.prog (fun a w => (0 ≤ k ∧ k < rs.length) ∧ ∃ (v9 : Value), (Pt w0 b [.string pl, .int .i64 wk, vt] v9 (partsTo rs ps ts (k + 1)) w) ∧ Fr 44 [(1, vp), (5, .pointer (some ⟨b, 0, none⟩)), (9, v9), (21, vr), (22, .int .i64 rs.length), (23, .int .i64 k)] a) (sel [1, 1, 1, 0, 1, 4, 4, 1, 1, 1] partsP) (fun a w => ppI w0 vr vp vt rs ps ts pl wk b h (k + 1) a w) No 9 No := by
  refine T3.leaf ?_
  rintro Q JS JX JT K hS hK hX hE hT hR a w ⟨hk, v9, hW, ⟨fr, rfl, q1, q5, q9, q21, q22, q23, _⟩⟩
  obtain ⟨hk0, hk1⟩ := hk
  have hl := h.hl
  rw [fr_partsP, show fr 1 = _ from q1, show fr 5 = _ from q5, show fr 9 = _ from q9, show fr 21 = _ from q21, show fr 22 = _ from q22, show fr 23 = _ from q23]
  clear q1 q5 q9 q21 q22 q23
  conv => arg 2; whnf
  go_wp2_with fail
  refine Met.intro (hS _ _ ?_)
  exact ⟨⟨by omega, by omega⟩, v9, hW, Fr.of _ rfl ⟨rfl, rfl, rfl, rfl, rfl, rfl, trivial⟩⟩

set_option maxRecDepth 100000 in
set_option maxHeartbeats 1000000 in
theorem pploop (w0 : World) (vr vp vt : Value) (rs : List RuleL) (ps : List ByteArray) (ts : List StatL) (pl : ByteArray) (wk : Int) (b : Nat) (h : PtH w0 vr vp vt rs ps ts) : T3 Tryd.prog (fun a w => ppI w0 vr vp vt rs ps ts pl wk b h 0 a w) (sel [1, 1, 1, 0, 1] partsP) (fun a w => ∃ (v9 : Value), (Pt w0 b [.string pl, .int .i64 wk, vt] v9 (partsTo rs ps ts rs.length) w) ∧ Fr 44 [(1, vp), (5, .pointer (some ⟨b, 0, none⟩)), (9, v9), (21, vr), (22, .int .i64 rs.length), (23, .int .i64 rs.length)] a) No 9 No := by
  refine T3.loop (c := (sel [1, 1, 1, 0, 1, 4, 4] partsP)) (fun n a w => ∃ k : Int, (n : Int) = rs.length - k ∧ ppI w0 vr vp vt rs ps ts pl wk b h k a w) (fun a w h => ⟨(rs.length : Int).toNat, 0, by have := h.1.2; omega, h⟩) (fun n => T3.ex fun k => T3.pure fun hn => ?_)
  refine T3.seq (s := (sel [1, 1, 1, 0, 1, 4, 4, 0] partsP)) (c := (sel [1, 1, 1, 0, 1, 4, 4, 1] partsP)) ((ppt w0 vr vp vt rs ps ts pl wk b h k).noX) ?_
  refine T3.seq (s := (sel [1, 1, 1, 0, 1, 4, 4, 1, 0] partsP)) (c := (sel [1, 1, 1, 0, 1, 4, 4, 1, 1] partsP)) (S := fun a w => (0 ≤ k ∧ k < rs.length) ∧ ∃ (v9 : Value), (Pt w0 b [.string pl, .int .i64 wk, vt] v9 (partsTo rs ps ts k) w) ∧ Fr 44 [(1, vp), (5, .pointer (some ⟨b, 0, none⟩)), (9, v9), (21, vr), (22, .int .i64 rs.length), (23, .int .i64 k)] a) ?_ (T3.seq (s := (sel [1, 1, 1, 0, 1, 4, 4, 1, 1, 0] partsP)) (c := (sel [1, 1, 1, 0, 1, 4, 4, 1, 1, 1] partsP)) (S := fun a w => (0 ≤ k ∧ k < rs.length) ∧ ∃ (v9 : Value), (Pt w0 b [.string pl, .int .i64 wk, vt] v9 (partsTo rs ps ts (k + 1)) w) ∧ Fr 44 [(1, vp), (5, .pointer (some ⟨b, 0, none⟩)), (9, v9), (21, vr), (22, .int .i64 rs.length), (23, .int .i64 k)] a) (T3.noX (T3.mono (R' := fun a w => (0 ≤ k ∧ k < rs.length) ∧ ∃ (v9 : Value), (Pt w0 b [.string pl, .int .i64 wk, vt] v9 (partsTo rs ps ts k) w) ∧ Fr 44 [(1, vp), (5, .pointer (some ⟨b, 0, none⟩)), (9, v9), (21, vr), (22, .int .i64 rs.length), (23, .int .i64 k)] a) (S' := fun a w => (0 ≤ k ∧ k < rs.length) ∧ ∃ (v9 : Value), (Pt w0 b [.string pl, .int .i64 wk, vt] v9 (partsTo rs ps ts (k + 1)) w) ∧ Fr 44 [(1, vp), (5, .pointer (some ⟨b, 0, none⟩)), (9, v9), (21, vr), (22, .int .i64 rs.length), (23, .int .i64 k)] a) (ppb w0 vr vp vt rs ps ts pl wk b h k) (fun a w ⟨hk, v9, hI⟩ => ⟨v9, hk, hI⟩) (fun a w ⟨v9, hk, hI⟩ => ⟨hk, v9, hI⟩) (fun _ _ q => q) (fun _ _ q => q))) ?_)
  · refine T3.cond (o := .tmp 24) (x := .skip) (y := .exit 0) (fun a w => k < rs.length ∧ ppI w0 vr vp vt rs ps ts pl wk b h k a w) (fun a w => ¬ k < rs.length ∧ ppI w0 vr vp vt rs ps ts pl wk b h k a w) ?_ (T3.skip ?_) (T3.exit ?_)
    · rintro a w ⟨q, hF, hq, hI⟩
      have he := hF.eval 24 (by decide) (v := .bool q) (by simp)
      cases q
      · exact .inr ⟨he, (fun h => by have := hq.2 h; cases this), hI⟩
      · exact .inl ⟨he, hq.1 rfl, hI⟩
    · rintro a w ⟨hlt, hk, hI⟩
      exact ⟨⟨hk.1, hlt⟩, hI⟩
    · rintro a w ⟨hlt, hk, hI⟩
      obtain rfl : k = rs.length := by omega
      exact hI
  · intro a w hx
    have hk := hx.1
    exact (((ppn w0 vr vp vt rs ps ts pl wk b h k).noX).post (fun a w q => ⟨n - 1, by omega, k + 1, by omega, q⟩)) a w hx
noncomputable def partsR : Code := (Tryd.f15.body).getD .skip
set_option maxRecDepth 100000 in
theorem fr_partsR (f : Nat → Value) : frame 34 f = ⟨#[f 0, f 1, f 2, f 3, f 4, f 5, f 6, f 7, f 8, f 9, f 10, f 11, f 12, f 13, f 14, f 15, f 16, f 17, f 18, f 19, f 20, f 21, f 22, f 23, f 24, f 25, f 26, f 27, f 28, f 29, f 30, f 31, f 32, f 33], []⟩ := by rfl
set_option maxRecDepth 100000 in
set_option maxHeartbeats 1000000 in
theorem pr5 (w0 : World) (vr vp vt : Value) (rs : List RuleL) (ps : List ByteArray) (ts : List StatL) (pl : ByteArray) (wk : Int) (b : Nat) (h : PtH w0 vr vp vt rs ps ts) : T3 Tryd.prog (fun a w => (Pt w0 b [.string pl, .int .i64 wk, vt] (.slice none 0 0) [] w) ∧ Fr 34 [(0, vr), (1, vp), (5, .pointer (some ⟨b, 0, none⟩)), (7, .slice none 0 0)] a) (sel [1, 1, 0, 0] partsR) (fun a w => (0 ≤ (0 : Int) ∧ (0 : Int) ≤ rs.length) ∧ ∃ (v9 : Value), (Pt w0 b [.string pl, .int .i64 wk, vt] v9 (partsTo rs ps ts 0) w) ∧ Fr 34 [(1, vp), (5, .pointer (some ⟨b, 0, none⟩)), (7, v9), (11, vr), (12, .int .i64 rs.length), (13, .int .i64 0)] a) No 9 No := by
  refine T3.leaf ?_
  rintro Q JS JX JT K hS hK hX hE hT hR a w ⟨hW, ⟨fr, rfl, q0, q1, q5, q7, _⟩⟩
  obtain ⟨p0, c0, hv0⟩ := h.rr.shape
  subst hv0
  rw [fr_partsR, show fr 0 = _ from q0, show fr 1 = _ from q1, show fr 5 = _ from q5, show fr 7 = _ from q7]
  clear q0 q1 q5 q7
  conv => arg 2; whnf
  go_wp2_with fail
  refine Met.intro (hS _ _ ?_)
  exact ⟨⟨by omega, by omega⟩, _, hW, Fr.of _ rfl ⟨rfl, rfl, rfl, rfl, rfl, rfl, trivial⟩⟩

set_option maxRecDepth 100000 in
set_option maxHeartbeats 1000000 in
theorem pr7 (w0 : World) (vr vp vt : Value) (rs : List RuleL) (ps : List ByteArray) (ts : List StatL) (pl : ByteArray) (wk : Int) (b : Nat) (h : PtH w0 vr vp vt rs ps ts) (k : Int) : T3 Tryd.prog (fun a w => ∃ (v9 : Value), (0 ≤ k ∧ k < rs.length) ∧ (Pt w0 b [.string pl, .int .i64 wk, vt] v9 (partsTo rs ps ts k) w) ∧ Fr 34 [(1, vp), (5, .pointer (some ⟨b, 0, none⟩)), (7, v9), (11, vr), (12, .int .i64 rs.length), (13, .int .i64 k)] a) (sel [1, 1, 0, 1, 4, 4, 1, 1, 0, 4, 0] partsR) (fun a w => ∃ (g : Nat) (v9 : Value), (0 ≤ k ∧ k < rs.length) ∧ ((Pt w0 b [.string pl, .int .i64 wk, vt] v9 (partsTo rs ps ts k) w ∧ Blk w g (encR (geta rs k)) ∧ v9.ownBlock ≠ some g)) ∧ Fr 34 [(1, vp), (5, .pointer (some ⟨b, 0, none⟩)), (7, v9), (9, .pointer (some ⟨g, 0, none⟩)), (11, vr), (12, .int .i64 rs.length), (13, .int .i64 k)] a) No 9 No := by
  refine T3.leaf ?_
  rintro Q JS JX JT K hS hK hX hE hT hR a w ⟨v9, hpre, hW, ⟨fr, rfl, q1, q5, q7, q11, q12, q13, _⟩⟩
  obtain ⟨hk0, hk1⟩ := hpre
  obtain ⟨_, hcs⟩ := (h.rr.below hW.bel).els encR_length (by decide)
  rcases hcs with ⟨rfl, h0⟩ | ⟨bz, off, cap, rfl, _, hbz, hnc, hcm, hcell⟩
  · omega
  have t0 := hcell k hk0 hk1 0 _ rfl
  have t1 := hcell k hk0 hk1 1 _ rfl
  have t2 := hcell k hk0 hk1 2 _ rfl
  have t3 := hcell k hk0 hk1 3 _ rfl
  have t4 := hcell k hk0 hk1 4 _ rfl
  have t5 := hcell k hk0 hk1 5 _ rfl
  have t6 := hcell k hk0 hk1 6 _ rfl
  rw [Nat.add_zero] at t0
  clear hcell
  rw [fr_partsR, show fr 1 = _ from q1, show fr 5 = _ from q5, show fr 7 = _ from q7, show fr 11 = _ from q11, show fr 12 = _ from q12, show fr 13 = _ from q13]
  clear q1 q5 q7 q11 q12 q13
  conv => arg 2; whnf
  go_wp2_with fail
  refine Met.intro (hS _ _ ?_)
  exact ⟨w.heap.size, v9, ⟨hk0, hk1⟩, ⟨hW.alloc _, Blk.new w (encR (geta rs k)).toArray _, hW.ne⟩, Fr.of _ rfl ⟨rfl, rfl, rfl, rfl, rfl, rfl, rfl, trivial⟩⟩

set_option maxRecDepth 100000 in
set_option maxHeartbeats 1000000 in
theorem pr8 (w0 : World) (vr vp vt : Value) (rs : List RuleL) (ps : List ByteArray) (ts : List StatL) (pl : ByteArray) (wk : Int) (b : Nat) (h : PtH w0 vr vp vt rs ps ts) (k : Int) : T3 Tryd.prog (fun a w => ∃ (g : Nat) (v9 : Value), (0 ≤ k ∧ k < rs.length) ∧ ((Pt w0 b [.string pl, .int .i64 wk, vt] v9 (partsTo rs ps ts k) w ∧ Blk w g (encR (geta rs k)) ∧ v9.ownBlock ≠ some g)) ∧ Fr 34 [(1, vp), (5, .pointer (some ⟨b, 0, none⟩)), (7, v9), (9, .pointer (some ⟨g, 0, none⟩)), (11, vr), (12, .int .i64 rs.length), (13, .int .i64 k)] a) (sel [1, 1, 0, 1, 4, 4, 1, 1, 0, 4, 1, 0] partsR) (fun a w => ∃ (g : Nat) (v9 : Value), (0 ≤ k ∧ k < rs.length) ∧ ((Pt w0 b [.string pl, .int .i64 wk, vt] v9 (partsTo rs ps ts k) w ∧ Blk w g (encR (geta rs k)) ∧ v9.ownBlock ≠ some g)) ∧ Fr 34 [(1, vp), (5, .pointer (some ⟨b, 0, none⟩)), (7, v9), (9, .pointer (some ⟨g, 0, none⟩)), (10, .int .i64 (givesV (geta rs k) ps ts)), (11, vr), (12, .int .i64 rs.length), (13, .int .i64 k)] a) No 9 No := by
  refine T3.leaf ?_
  rintro Q JS JX JT K hS hK hX hE hT hR a w ⟨g, v9, hpre, ⟨hP, hB, hne⟩, ⟨fr, rfl, q1, q5, q7, q9, q11, q12, q13, _⟩⟩
  obtain ⟨hk0, hk1⟩ := hpre
  have x0 := hB.2.1 0 _ rfl
  have x1 := hB.2.1 1 _ rfl
  have x2 := hB.2.1 2 _ rfl
  have x3 := hB.2.1 3 _ rfl
  have x4 := hB.2.1 4 _ rfl
  have x5 := hB.2.1 5 _ rfl
  have x6 := hB.2.1 6 _ rfl
  have l0 := hP.line.2 0 _ rfl
  have l1 := hP.line.2 1 _ rfl
  have l2 := hP.line.2 2 _ rfl
  have HG := Lib.hid (gives_ref w (geta rs k) pl wk vt vp ts ps (h.hg _ (geta_mem hk0 hk1)) h.hc (h.tr.below hP.bel) (h.pr.below hP.bel))
  obtain ⟨p1, c1, hv1⟩ := h.tr.shape
  subst hv1
  generalize hR_ : geta rs k = R at *
  have HR_ := Lib.hid hR_
  clear hR_
  rw [fr_partsR, show fr 1 = _ from q1, show fr 5 = _ from q5, show fr 7 = _ from q7, show fr 9 = _ from q9, show fr 11 = _ from q11, show fr 12 = _ from q12, show fr 13 = _ from q13]
  clear q1 q5 q7 q9 q11 q12 q13
  conv => arg 2; whnf
  go_wp2_with fail
  refine HG.out.mono ?_
  rintro e w1 ⟨rfl, hb⟩
  go_wp2_with fail
  refine Met.intro (hS _ _ ?_)
  exact ⟨g, v9, ⟨hk0, hk1⟩, ⟨hP.below hb, hB.under hb, hne⟩, Fr.of _ rfl ⟨rfl, rfl, rfl, rfl, rfl, rfl, rfl, rfl, trivial⟩⟩

set_option maxRecDepth 100000 in
set_option maxHeartbeats 1000000 in
theorem pr9 (w0 : World) (vr vp vt : Value) (rs : List RuleL) (ps : List ByteArray) (ts : List StatL) (pl : ByteArray) (wk : Int) (b : Nat) (h : PtH w0 vr vp vt rs ps ts) (k : Int) (g : Nat) (v9 : Value) : T3 Tryd.prog (fun a w => (0 ≤ k ∧ k < rs.length) ∧ ((Pt w0 b [.string pl, .int .i64 wk, vt] v9 (partsTo rs ps ts k) w ∧ Blk w g (encR (geta rs k)) ∧ v9.ownBlock ≠ some g)) ∧ Fr 34 [(1, vp), (5, .pointer (some ⟨b, 0, none⟩)), (7, v9), (9, .pointer (some ⟨g, 0, none⟩)), (10, .int .i64 (givesV (geta rs k) ps ts)), (11, vr), (12, .int .i64 rs.length), (13, .int .i64 k)] a) (sel [1, 1, 0, 1, 4, 4, 1, 1, 0, 4, 1, 1, 0] partsR) (fun a w => ∃ q, Fr 34 ((22, .bool q) :: [(1, vp), (5, .pointer (some ⟨b, 0, none⟩)), (7, v9), (9, .pointer (some ⟨g, 0, none⟩)), (10, .int .i64 (givesV (geta rs k) ps ts)), (11, vr), (12, .int .i64 rs.length), (13, .int .i64 k)]) a ∧ (((0 ≤ k ∧ k < rs.length) ∧ (q = true ↔ givesV (geta rs k) ps ts ≠ 0)) ∧ (Pt w0 b [.string pl, .int .i64 wk, vt] v9 (partsTo rs ps ts k) w ∧ Blk w g (encR (geta rs k)) ∧ v9.ownBlock ≠ some g))) No 9 No := by
  refine T3.leaf ?_
  rintro Q JS JX JT K hS hK hX hE hT hR a w ⟨hpre, hW, ⟨fr, rfl, q1, q5, q7, q9, q10, q11, q12, q13, _⟩⟩
  generalize givesV (geta rs k) ps ts = N at *
  by_cases h0 : N = 0
  · have hz : (N != 0) = false := by simp [h0]
    have H0 := Lib.hid h0
    clear h0
    rw [fr_partsR, show fr 1 = _ from q1, show fr 5 = _ from q5, show fr 7 = _ from q7, show fr 9 = _ from q9, show fr 10 = _ from q10, show fr 11 = _ from q11, show fr 12 = _ from q12, show fr 13 = _ from q13]
    clear q1 q5 q7 q9 q10 q11 q12 q13
    conv => arg 2; whnf
    go_wp2_with fail
    refine Met.intro (hS _ _ ?_)
    exact ⟨false, Fr.of _ rfl ⟨rfl, rfl, rfl, rfl, rfl, rfl, rfl, rfl, rfl, trivial⟩, ⟨hpre, ⟨fun h => (by cases h), fun h => absurd H0.out h⟩⟩, hW⟩
  · have hz : (N != 0) = true := by simp [h0]
    have H0 := Lib.hid h0
    clear h0
    rw [fr_partsR, show fr 1 = _ from q1, show fr 5 = _ from q5, show fr 7 = _ from q7, show fr 9 = _ from q9, show fr 10 = _ from q10, show fr 11 = _ from q11, show fr 12 = _ from q12, show fr 13 = _ from q13]
    clear q1 q5 q7 q9 q10 q11 q12 q13
    conv => arg 2; whnf
    go_wp2_with fail
    refine Met.intro (hS _ _ ?_)
    exact ⟨true, Fr.of _ rfl ⟨rfl, rfl, rfl, rfl, rfl, rfl, rfl, rfl, rfl, trivial⟩, ⟨hpre, ⟨fun _ => H0.out, fun _ => rfl⟩⟩, hW⟩

set_option maxRecDepth 100000 in
set_option maxHeartbeats 1000000 in
theorem pr10 (w0 : World) (vr vp vt : Value) (rs : List RuleL) (ps : List ByteArray) (ts : List StatL) (pl : ByteArray) (wk : Int) (b : Nat) (h : PtH w0 vr vp vt rs ps ts) (k : Int) (g : Nat) (v9 : Value) : T3 Tryd.prog (fun a w => Fr 34 ((22, .bool true) :: [(1, vp), (5, .pointer (some ⟨b, 0, none⟩)), (7, v9), (9, .pointer (some ⟨g, 0, none⟩)), (10, .int .i64 (givesV (geta rs k) ps ts)), (11, vr), (12, .int .i64 rs.length), (13, .int .i64 k)]) a ∧ ((0 ≤ k ∧ k < rs.length) ∧ (true = true ↔ givesV (geta rs k) ps ts ≠ 0)) ∧ (Pt w0 b [.string pl, .int .i64 wk, vt] v9 (partsTo rs ps ts k) w ∧ Blk w g (encR (geta rs k)) ∧ v9.ownBlock ≠ some g)) (sel [1, 1, 0, 1, 4, 4, 1, 1, 0, 4, 1, 1, 1, 2] partsR) (fun a w => ∃ (v9 : Value), (0 ≤ k ∧ k < rs.length) ∧ (Pt w0 b [.string pl, .int .i64 wk, vt] v9 (partsTo rs ps ts (k + 1)) w) ∧ Fr 34 [(1, vp), (5, .pointer (some ⟨b, 0, none⟩)), (7, v9), (11, vr), (12, .int .i64 rs.length), (13, .int .i64 k)] a) No 9 No := by
  refine T3.leafN ?_
  rintro JS hS a w ⟨⟨fr, rfl, q22, q1, q5, q7, q9, q10, q11, q12, q13, _⟩, ⟨hpre, hq⟩, hP, hB, hne⟩
  obtain ⟨hk0, hk1⟩ := hpre
  have hl := h.hl
  have hlen := partsTo_length rs ps ts k
  have hgb := gives_le (h.hg _ (geta_mem hk0 hk1)) ps ts h.hc
  have Hs := Lib.hid (partsTo_more hk0 hk1 (hq.1 rfl))
  have x0 := hB.2.1 0 _ rfl
  have HTab := Lib.hid (h.tab.below hP.bel)
  clear hq
  have hob := ofH_bounds (givesV (geta rs k) ps ts) (by omega) (by omega)
  obtain ⟨p9, c9, hv9⟩ := (Row.of_owns hP.own).shape
  subst hv9
  generalize givesV (geta rs k) ps ts = N at *
  generalize hky : (geta rs k).key = key at *
  have Hky := Lib.hid hky
  clear hky
  have Hne := Lib.hid hne
  generalize hL : partsTo rs ps ts k = L at *
  have HL := Lib.hid hL
  clear hL hne
  rw [fr_partsR, show fr 22 = _ from q22, show fr 1 = _ from q1, show fr 5 = _ from q5, show fr 7 = _ from q7, show fr 9 = _ from q9, show fr 10 = _ from q10, show fr 11 = _ from q11, show fr 12 = _ from q12, show fr 13 = _ from q13]
  clear q22 q1 q5 q7 q9 q10 q11 q12 q13
  conv => arg 2; whnf
  refine wp_region_mix ((.slice p9 L.length c9 : Value).ownBlock) [(true, 0), (true, 1), (true, 2), (true, 3), (false, 4), (false, 5), (true, 6), (false, 7), (false, 8), (true, 9)] (by kernel_rfl) (by kernel_rfl) (by intro c a d v w h; cases d <;> exact h) ?_
  simp only [pickFlat, List.filterMap_cons, List.filterMap_nil, List.getElem?_cons_succ, List.getElem?_cons_zero, Option.map_some]
  have A0 := wof_at (w₁ := w.drew) (row := (.slice p9 L.length c9 : Value).ownBlock) (a := ⟨g, 0, none⟩) x0 Hne.out
  refine flat_hide (fun W hH hC hN hE => ?_)
  iterate 4 (refine hH.out _ _ _ _ (fun K hK => ?_); go_simp; refine hK _ ?_; clear hK K)
  refine hC.out _ _ _ _ (by first | rfl | go_simp) (fun K hK => ?_)
  simp only [bare]
  go_wp2_with fail
  refine (ofHundredths_ref N w.drew (by omega) (by omega)).mono ?_
  rintro e w2 ⟨rfl, hb2⟩
  go_wp2_with fail
  refine hK.out _ _ (grown_of_below hb2) ?_
  clear hK K
  refine hC.out _ _ _ _ (by first | rfl | go_simp) (fun K hK => ?_)
  simp only [bare]
  go_wp2_with fail
  refine (ratio_ref (ofHn N) (ofHd N) (by omega) (by omega) (by omega) (by omega) w2 (Tab.below (w := w.drew) (HTab.out) hb2)).mono ?_
  rintro e w3 ⟨rfl, hb3⟩
  have hb23 := hb2.trans (hb3.mono hb2.size)
  go_wp2_with fail
  refine hK.out _ _ (grown_of_below hb23) ?_
  clear hK K
  iterate 1 (refine hH.out _ _ _ _ (fun K hK => ?_); go_simp; refine hK _ ?_; clear hK K)
  refine hC.out _ _ _ _ (by first | rfl | go_simp) (fun K hK => ?_)
  simp only [bare]
  go_wp2_with fail
  refine hK.out _ _ (grown_trans (grown_of_below hb23) (World.grownBy_alloc w3 _ _)) ?_
  clear hK K
  refine hC.out _ _ _ _ (by first | rfl | go_simp) (fun K hK => ?_)
  simp only [bare]
  have hP3 := (hP.below (below_drewN (Below.refl _ _) 1)).below hb23
  have hE2 := el_pair
  go_wp2_with (at_builtin; refine app_law rfl _ _ _ rfl hE2 (hP3.own.alloc _) rfl [.string key, .string (fracT (ofHn N) (ofHd N))] rfl rfl (cells_new w3 #[_, _] _) (by simp [Value.oneCell']) (by omega) (by have := hP3.line.1; simp; omega) ?_; intro v' w5 hown5 hgr5)
  refine hK.out _ _ (grown_trans (grown_trans (grown_of_below hb23) (World.grownBy_alloc w3 _ _)) hgr5) ?_
  clear hK K
  iterate 1 (refine hH.out _ _ _ _ (fun K hK => ?_); go_simp; refine hK _ ?_; clear hK K)
  refine hE.out _ _ ?_
  clear hH hC hN hE W
  show JS _ _
  refine hS _ _ ?_
  refine ⟨v', ⟨hk0, hk1⟩, ?_, Fr.of _ rfl ⟨rfl, rfl, rfl, rfl, rfl, rfl, trivial⟩⟩
  rw [Hs.out]
  exact (hP3.alloc _).app (by rw [cellsOf_snoc, List.length_append]; exact hown5) hgr5

set_option maxRecDepth 100000 in
set_option maxHeartbeats 1000000 in
theorem prb (w0 : World) (vr vp vt : Value) (rs : List RuleL) (ps : List ByteArray) (ts : List StatL) (pl : ByteArray) (wk : Int) (b : Nat) (h : PtH w0 vr vp vt rs ps ts) (k : Int) : T3 Tryd.prog (fun a w => ∃ (v9 : Value), (0 ≤ k ∧ k < rs.length) ∧ (Pt w0 b [.string pl, .int .i64 wk, vt] v9 (partsTo rs ps ts k) w) ∧ Fr 34 [(1, vp), (5, .pointer (some ⟨b, 0, none⟩)), (7, v9), (11, vr), (12, .int .i64 rs.length), (13, .int .i64 k)] a) (sel [1, 1, 0, 1, 4, 4, 1, 1, 0] partsR) (fun a w => ∃ (v9 : Value), (0 ≤ k ∧ k < rs.length) ∧ (Pt w0 b [.string pl, .int .i64 wk, vt] v9 (partsTo rs ps ts (k + 1)) w) ∧ Fr 34 [(1, vp), (5, .pointer (some ⟨b, 0, none⟩)), (7, v9), (11, vr), (12, .int .i64 rs.length), (13, .int .i64 k)] a) No 9 No := by
  refine T3.block (id' := 1) (c := (sel [1, 1, 0, 1, 4, 4, 1, 1, 0, 4] partsR)) (by decide) ?_
  refine T3.seq (s := (sel [1, 1, 0, 1, 4, 4, 1, 1, 0, 4, 0] partsR)) (c := (sel [1, 1, 0, 1, 4, 4, 1, 1, 0, 4, 1] partsR)) (pr7 w0 vr vp vt rs ps ts pl wk b h k) ?_
  refine T3.seq (s := (sel [1, 1, 0, 1, 4, 4, 1, 1, 0, 4, 1, 0] partsR)) (c := (sel [1, 1, 0, 1, 4, 4, 1, 1, 0, 4, 1, 1] partsR)) (pr8 w0 vr vp vt rs ps ts pl wk b h k) ?_
  refine T3.ex fun g => T3.ex fun v9 => ?_
  refine T3.test (s := (sel [1, 1, 0, 1, 4, 4, 1, 1, 0, 4, 1, 1, 0] partsR)) (x := (sel [1, 1, 0, 1, 4, 4, 1, 1, 0, 4, 1, 1, 1, 2] partsR)) (y := .skip) (C := fun q => ((0 ≤ k ∧ k < rs.length) ∧ (q = true ↔ givesV (geta rs k) ps ts ≠ 0))) (W := fun w => (Pt w0 b [.string pl, .int .i64 wk, vt] v9 (partsTo rs ps ts k) w ∧ Blk w g (encR (geta rs k)) ∧ v9.ownBlock ≠ some g)) (by decide) (pr9 w0 vr vp vt rs ps ts pl wk b h k g v9) (pr10 w0 vr vp vt rs ps ts pl wk b h k g v9) (T3.skip ?_)
  rintro a w ⟨⟨hpre, hq⟩, ⟨hP, hB, hne⟩, hF⟩
  have h0 : givesV (geta rs k) ps ts = 0 := Decidable.byContradiction fun h => by have := hq.2 h; cases this
  refine ⟨v9, hpre, ?_, hF.sub (by simp)⟩
  rw [partsTo_same hpre.1 hpre.2 h0]
  exact hP

def prI (w0 : World) (vr vp vt : Value) (rs : List RuleL) (ps : List ByteArray) (ts : List StatL) (pl : ByteArray) (wk : Int) (b : Nat) (h : PtH w0 vr vp vt rs ps ts) (k : Int) (a : Act) (w : World) : Prop := (0 ≤ k ∧ k ≤ rs.length) ∧ ∃ (v9 : Value), (Pt w0 b [.string pl, .int .i64 wk, vt] v9 (partsTo rs ps ts k) w) ∧ Fr 34 [(1, vp), (5, .pointer (some ⟨b, 0, none⟩)), (7, v9), (11, vr), (12, .int .i64 rs.length), (13, .int .i64 k)] a
set_option maxRecDepth 100000 in
set_option maxHeartbeats 1000000 in
theorem prt (w0 : World) (vr vp vt : Value) (rs : List RuleL) (ps : List ByteArray) (ts : List StatL) (pl : ByteArray) (wk : Int) (b : Nat) (h : PtH w0 vr vp vt rs ps ts) (k : Int) : T3 Tryd.prog (fun a w => prI w0 vr vp vt rs ps ts pl wk b h k a w) (sel [1, 1, 0, 1, 4, 4, 0] partsR) (fun a w => ∃ q, Fr 34 ((14, .bool q) :: [(13, .int .i64 k)]) a ∧ ((q = true ↔ k < rs.length) ∧ prI w0 vr vp vt rs ps ts pl wk b h k a w)) No 9 No := by
  refine T3.leaf ?_
  rintro Q JS JX JT K hS hK hX hE hT hR a w ⟨hk, v9, hW, ⟨fr, rfl, q1, q5, q7, q11, q12, q13, _⟩⟩
  have hl := h.hl
  rw [fr_partsR, show fr 1 = _ from q1, show fr 5 = _ from q5, show fr 7 = _ from q7, show fr 11 = _ from q11, show fr 12 = _ from q12, show fr 13 = _ from q13]
  clear q1 q5 q7 q11 q12 q13
  conv => arg 2; whnf
  by_cases hlt : k < rs.length
  · go_wp2_with fail
    refine Met.intro (hS _ _ ?_)
    exact ⟨true, Fr.of _ rfl ⟨rfl, rfl, trivial⟩, ⟨fun _ => hlt, fun _ => rfl⟩, hk, v9, hW, Fr.of _ rfl ⟨rfl, rfl, rfl, rfl, rfl, rfl, trivial⟩⟩
  · have hpb : decide (k < (rs.length : Int)) = false := by simp; omega
    go_wp2_with fail
    refine Met.intro (hS _ _ ?_)
    exact ⟨false, Fr.of _ rfl ⟨rfl, rfl, trivial⟩, ⟨(fun h => by cases h), fun h => absurd h (by omega)⟩, hk, v9, hW, Fr.of _ rfl ⟨rfl, rfl, rfl, rfl, rfl, rfl, trivial⟩⟩

set_option maxRecDepth 100000 in
set_option maxHeartbeats 1000000 in
theorem prn (w0 : World) (vr vp vt : Value) (rs : List RuleL) (ps : List ByteArray) (ts : List StatL) (pl : ByteArray) (wk : Int) (b : Nat) (h : PtH w0 vr vp vt rs ps ts) (k : Int) : T3 Tryd.prog (fun a w => (0 ≤ k ∧ k < rs.length) ∧ ∃ (v9 : Value), (Pt w0 b [.string pl, .int .i64 wk, vt] v9 (partsTo rs ps ts (k + 1)) w) ∧ Fr 34 [(1, vp), (5, .pointer (some ⟨b, 0, none⟩)), (7, v9), (11, vr), (12, .int .i64 rs.length), (13, .int .i64 k)] a) (sel [1, 1, 0, 1, 4, 4, 1, 1, 1] partsR) (fun a w => prI w0 vr vp vt rs ps ts pl wk b h (k + 1) a w) No 9 No := by
  refine T3.leaf ?_
  rintro Q JS JX JT K hS hK hX hE hT hR a w ⟨hk, v9, hW, ⟨fr, rfl, q1, q5, q7, q11, q12, q13, _⟩⟩
  obtain ⟨hk0, hk1⟩ := hk
  have hl := h.hl
  rw [fr_partsR, show fr 1 = _ from q1, show fr 5 = _ from q5, show fr 7 = _ from q7, show fr 11 = _ from q11, show fr 12 = _ from q12, show fr 13 = _ from q13]
  clear q1 q5 q7 q11 q12 q13
  conv => arg 2; whnf
  go_wp2_with fail
  refine Met.intro (hS _ _ ?_)
  exact ⟨⟨by omega, by omega⟩, v9, hW, Fr.of _ rfl ⟨rfl, rfl, rfl, rfl, rfl, rfl, trivial⟩⟩

set_option maxRecDepth 100000 in
set_option maxHeartbeats 1000000 in
theorem prloop (w0 : World) (vr vp vt : Value) (rs : List RuleL) (ps : List ByteArray) (ts : List StatL) (pl : ByteArray) (wk : Int) (b : Nat) (h : PtH w0 vr vp vt rs ps ts) : T3 Tryd.prog (fun a w => prI w0 vr vp vt rs ps ts pl wk b h 0 a w) (sel [1, 1, 0, 1] partsR) (fun a w => ∃ (v9 : Value), (Pt w0 b [.string pl, .int .i64 wk, vt] v9 (partsTo rs ps ts rs.length) w) ∧ Fr 34 [(1, vp), (5, .pointer (some ⟨b, 0, none⟩)), (7, v9), (11, vr), (12, .int .i64 rs.length), (13, .int .i64 rs.length)] a) No 9 No := by
  refine T3.loop (c := (sel [1, 1, 0, 1, 4, 4] partsR)) (fun n a w => ∃ k : Int, (n : Int) = rs.length - k ∧ prI w0 vr vp vt rs ps ts pl wk b h k a w) (fun a w h => ⟨(rs.length : Int).toNat, 0, by have := h.1.2; omega, h⟩) (fun n => T3.ex fun k => T3.pure fun hn => ?_)
  refine T3.seq (s := (sel [1, 1, 0, 1, 4, 4, 0] partsR)) (c := (sel [1, 1, 0, 1, 4, 4, 1] partsR)) ((prt w0 vr vp vt rs ps ts pl wk b h k).noX) ?_
  refine T3.seq (s := (sel [1, 1, 0, 1, 4, 4, 1, 0] partsR)) (c := (sel [1, 1, 0, 1, 4, 4, 1, 1] partsR)) (S := fun a w => (0 ≤ k ∧ k < rs.length) ∧ ∃ (v9 : Value), (Pt w0 b [.string pl, .int .i64 wk, vt] v9 (partsTo rs ps ts k) w) ∧ Fr 34 [(1, vp), (5, .pointer (some ⟨b, 0, none⟩)), (7, v9), (11, vr), (12, .int .i64 rs.length), (13, .int .i64 k)] a) ?_ (T3.seq (s := (sel [1, 1, 0, 1, 4, 4, 1, 1, 0] partsR)) (c := (sel [1, 1, 0, 1, 4, 4, 1, 1, 1] partsR)) (S := fun a w => (0 ≤ k ∧ k < rs.length) ∧ ∃ (v9 : Value), (Pt w0 b [.string pl, .int .i64 wk, vt] v9 (partsTo rs ps ts (k + 1)) w) ∧ Fr 34 [(1, vp), (5, .pointer (some ⟨b, 0, none⟩)), (7, v9), (11, vr), (12, .int .i64 rs.length), (13, .int .i64 k)] a) (T3.noX (T3.mono (R' := fun a w => (0 ≤ k ∧ k < rs.length) ∧ ∃ (v9 : Value), (Pt w0 b [.string pl, .int .i64 wk, vt] v9 (partsTo rs ps ts k) w) ∧ Fr 34 [(1, vp), (5, .pointer (some ⟨b, 0, none⟩)), (7, v9), (11, vr), (12, .int .i64 rs.length), (13, .int .i64 k)] a) (S' := fun a w => (0 ≤ k ∧ k < rs.length) ∧ ∃ (v9 : Value), (Pt w0 b [.string pl, .int .i64 wk, vt] v9 (partsTo rs ps ts (k + 1)) w) ∧ Fr 34 [(1, vp), (5, .pointer (some ⟨b, 0, none⟩)), (7, v9), (11, vr), (12, .int .i64 rs.length), (13, .int .i64 k)] a) (prb w0 vr vp vt rs ps ts pl wk b h k) (fun a w ⟨hk, v9, hI⟩ => ⟨v9, hk, hI⟩) (fun a w ⟨v9, hk, hI⟩ => ⟨hk, v9, hI⟩) (fun _ _ q => q) (fun _ _ q => q))) ?_)
  · refine T3.cond (o := .tmp 14) (x := .skip) (y := .exit 0) (fun a w => k < rs.length ∧ prI w0 vr vp vt rs ps ts pl wk b h k a w) (fun a w => ¬ k < rs.length ∧ prI w0 vr vp vt rs ps ts pl wk b h k a w) ?_ (T3.skip ?_) (T3.exit ?_)
    · rintro a w ⟨q, hF, hq, hI⟩
      have he := hF.eval 14 (by decide) (v := .bool q) (by simp)
      cases q
      · exact .inr ⟨he, (fun h => by have := hq.2 h; cases this), hI⟩
      · exact .inl ⟨he, hq.1 rfl, hI⟩
    · rintro a w ⟨hlt, hk, hI⟩
      exact ⟨⟨hk.1, hlt⟩, hI⟩
    · rintro a w ⟨hlt, hk, hI⟩
      obtain rfl : k = rs.length := by omega
      exact hI
  · intro a w hx
    have hk := hx.1
    exact (((prn w0 vr vp vt rs ps ts pl wk b h k).noX).post (fun a w q => ⟨n - 1, by omega, k + 1, by omega, q⟩)) a w hx
/-- What each rule gives, if nothing is wrong. -/
def partsQ (rs : List RuleL) (ps : List ByteArray) (x : LineL) : List PairL := if askedE rs ps [x] = 0 then partsL rs ps x.stats else []
/-- The data of a call. -/
structure PqH (w0 : World) (vr vp vt : Value) (rs : List RuleL) (ps : List ByteArray) (ts : List StatL) (pl : ByteArray) : Prop where
  hz : ∀ r ∈ rs, RuleOk r
  hzp : ∀ s ∈ ps, s.size ≤ 9223372036854775807
  hp : pl.size ≤ 9223372036854775807
  ht : ∀ t ∈ ts, t.name.size ≤ 9223372036854775807
  rr : Row w0 0 7 vr rs.length (cellsOf encR rs)
  pr : Row w0 0 1 vp ps.length (cellsOf encS ps)
  tr : Row w0 0 2 vt ts.length (cellsOf encT ts)
  tab : Tab w0
theorem PqH.good {w0 : World} {vr vp vt : Value} {rs : List RuleL} {ps : List ByteArray} {ts : List StatL} {pl : ByteArray} {wk : Int} (h : PqH w0 vr vp vt rs ps ts pl) (h0 : askedE rs ps [⟨pl, wk, vt, ts⟩] = 0) : PtH w0 vr vp vt rs ps ts := by
  obtain ⟨a1, a2, a3⟩ := asked_ok h0
  exact ⟨rule_good h.hz a1, rules_len a1, lines_counts a3 ⟨pl, wk, vt, ts⟩ (by simp), h.rr, h.tr, h.pr, h.tab⟩
theorem Pt.start (w0 : World) (pl : ByteArray) (wk : Int) (vt : Value) : Pt w0 w0.heap.size [.string pl, .int .i64 wk, vt] (.slice none 0 0) [] (w0.alloc (.cells #[.string pl, .int .i64 wk, vt] 32)) :=
  ⟨CellsAt.new w0 #[.string pl, .int .i64 wk, vt] _, (Below.refl _ _).alloc (Nat.le_refl _) _, World.ownsRow_nil _ _ _ _, Nat.le_refl _⟩
set_option maxRecDepth 100000 in
set_option maxHeartbeats 1000000 in
theorem ppA (w0 : World) (vr vp vt : Value) (rs : List RuleL) (ps : List ByteArray) (ts : List StatL) (pl : ByteArray) (wk : Int) (htr : Row w0 0 2 vt ts.length (cellsOf encT ts)) : T3 Tryd.prog (fun a w => (w = w0) ∧ Fr 44 [(0, vr), (1, vp), (2, .agg #[.string pl, .int .i64 wk, vt])] a) (sel [0] partsP) (fun a w => (Pt w0 w0.heap.size [.string pl, .int .i64 wk, vt] (.slice none 0 0) [] w) ∧ Fr 44 [(0, vr), (1, vp), (5, .pointer (some ⟨w0.heap.size, 0, none⟩))] a) No 9 (fun a w => ∃ (v9 : Value) (l : List PairL), Fr 44 [(6, v9), (7, .int .i64 (askedE rs ps [⟨pl, wk, vt, ts⟩]))] a ∧ l = partsQ rs ps ⟨pl, wk, vt, ts⟩ ∧ Pt w0 w0.heap.size [.string pl, .int .i64 wk, vt] v9 l w) := by
  refine T3.leaf ?_
  rintro Q JS JX JT K hS hK hX hE hT hR a w ⟨hw, ⟨fr, rfl, q0, q1, q2, _⟩⟩
  subst hw
  obtain ⟨p1, c1, hv1⟩ := htr.shape
  subst hv1
  rw [fr_partsP, show fr 0 = _ from q0, show fr 1 = _ from q1, show fr 2 = _ from q2]
  clear q0 q1 q2
  conv => arg 2; whnf
  go_wp2_with fail
  refine Met.intro (hS _ _ ?_)
  exact ⟨Pt.start w pl wk (.slice p1 ts.length c1), Fr.of _ rfl ⟨rfl, rfl, rfl, trivial⟩⟩

set_option maxRecDepth 100000 in
set_option maxHeartbeats 1000000 in
theorem ppC (w0 : World) (vr vp vt : Value) (rs : List RuleL) (ps : List ByteArray) (ts : List StatL) (pl : ByteArray) (wk : Int) : T3 Tryd.prog (fun a w => (Pt w0 w0.heap.size [.string pl, .int .i64 wk, vt] (.slice none 0 0) [] w) ∧ Fr 44 [(0, vr), (1, vp), (5, .pointer (some ⟨w0.heap.size, 0, none⟩))] a) (sel [1, 1, 0] partsP) (fun a w => (Pt w0 w0.heap.size [.string pl, .int .i64 wk, vt] (.slice none 0 0) [] w) ∧ Fr 44 [(0, vr), (1, vp), (5, .pointer (some ⟨w0.heap.size, 0, none⟩)), (9, .slice none 0 0)] a) No 9 (fun a w => ∃ (v9 : Value) (l : List PairL), Fr 44 [(6, v9), (7, .int .i64 (askedE rs ps [⟨pl, wk, vt, ts⟩]))] a ∧ l = partsQ rs ps ⟨pl, wk, vt, ts⟩ ∧ Pt w0 w0.heap.size [.string pl, .int .i64 wk, vt] v9 l w) := by
  refine T3.leaf ?_
  rintro Q JS JX JT K hS hK hX hE hT hR a w ⟨hW, ⟨fr, rfl, q0, q1, q5, _⟩⟩
  rw [fr_partsP, show fr 0 = _ from q0, show fr 1 = _ from q1, show fr 5 = _ from q5]
  clear q0 q1 q5
  conv => arg 2; whnf
  go_wp2_with fail
  refine Met.intro (hS _ _ ?_)
  exact ⟨hW, Fr.of _ rfl ⟨rfl, rfl, rfl, rfl, trivial⟩⟩

set_option maxRecDepth 100000 in
set_option maxHeartbeats 1000000 in
theorem ppD (w0 : World) (vr vp vt : Value) (rs : List RuleL) (ps : List ByteArray) (ts : List StatL) (pl : ByteArray) (wk : Int) : T3 Tryd.prog (fun a w => ∃ (v9 : Value), (Pt w0 w0.heap.size [.string pl, .int .i64 wk, vt] v9 (partsL rs ps ts) w) ∧ Fr 44 [(9, v9)] a) (sel [1, 1, 1, 1, 0] partsP) (fun a w => ∃ (v9 : Value), (Pt w0 w0.heap.size [.string pl, .int .i64 wk, vt] v9 (partsL rs ps ts) w) ∧ Fr 44 [(6, v9), (7, .int .i64 0)] a) No 9 (fun a w => ∃ (v9 : Value) (l : List PairL), Fr 44 [(6, v9), (7, .int .i64 (askedE rs ps [⟨pl, wk, vt, ts⟩]))] a ∧ l = partsQ rs ps ⟨pl, wk, vt, ts⟩ ∧ Pt w0 w0.heap.size [.string pl, .int .i64 wk, vt] v9 l w) := by
  refine T3.leaf ?_
  rintro Q JS JX JT K hS hK hX hE hT hR a w ⟨v9, hW, ⟨fr, rfl, q9, _⟩⟩
  rw [fr_partsP, show fr 9 = _ from q9]
  clear q9
  conv => arg 2; whnf
  go_wp2_with fail
  refine Met.intro (hS _ _ ?_)
  exact ⟨v9, hW, Fr.of _ rfl ⟨rfl, rfl, trivial⟩⟩

set_option maxRecDepth 100000 in
set_option maxHeartbeats 1000000 in
theorem ppQ (w0 : World) (vr vp vt : Value) (rs : List RuleL) (ps : List ByteArray) (ts : List StatL) (pl : ByteArray) (wk : Int) (h : PqH w0 vr vp vt rs ps ts pl) : T3 Tryd.prog (fun a w => (Pt w0 w0.heap.size [.string pl, .int .i64 wk, vt] (.slice none 0 0) [] w) ∧ Fr 44 [(0, vr), (1, vp), (5, .pointer (some ⟨w0.heap.size, 0, none⟩))] a) (sel [1, 0, 0] partsP) (fun a w => (Pt w0 w0.heap.size [.string pl, .int .i64 wk, vt] (.slice none 0 0) [] w) ∧ Fr 44 [(0, vr), (1, vp), (5, .pointer (some ⟨w0.heap.size, 0, none⟩)), (8, .int .i64 (askedE rs ps [⟨pl, wk, vt, ts⟩]))] a) No 9 (fun a w => ∃ (v9 : Value) (l : List PairL), Fr 44 [(6, v9), (7, .int .i64 (askedE rs ps [⟨pl, wk, vt, ts⟩]))] a ∧ l = partsQ rs ps ⟨pl, wk, vt, ts⟩ ∧ Pt w0 w0.heap.size [.string pl, .int .i64 wk, vt] v9 l w) := by
  refine T3.leaf ?_
  rintro Q JS JX JT K hS hK hX hE hT hR a w ⟨hW, ⟨fr, rfl, q0, q1, q5, _⟩⟩
  have l0 := hW.line.2 0 _ rfl
  have l1 := hW.line.2 1 _ rfl
  have l2 := hW.line.2 2 _ rfl
  have hn := CellsAt.new w #[.string pl, .int .i64 wk, vt] 32
  have hbn := (Below.refl w.heap.size w).alloc (Nat.le_refl _) (.cells #[.string pl, .int .i64 wk, vt] 32)
  have hall := hW.bel.trans (hbn.mono hW.bel.size)
  have hlr : Row (w.alloc (.cells #[.string pl, .int .i64 wk, vt] 32)) 0 3 (.slice (some ⟨w.heap.size, 0, none⟩) 1 1) [(⟨pl, wk, vt, ts⟩ : LineL)].length (cellsOf encL [(⟨pl, wk, vt, ts⟩ : LineL)]) :=
    ⟨rfl, .inr ⟨_, 0, 1, rfl, Nat.zero_le _, hn.1, Nat.le_refl _, by decide, fun i u hu => by rw [Nat.zero_add]; exact hn.2 i u hu⟩⟩
  have HA := Lib.hid (asked_any _ vr vp _ rs ps [⟨pl, wk, vt, ts⟩] h.hz h.hzp (fun y hy => by rw [List.mem_singleton.1 hy]; exact ⟨h.hp, h.ht⟩) (h.rr.below hall) (h.pr.below hall) hlr (fun y hy => by rw [List.mem_singleton.1 hy]; exact h.tr.below hall))
  have hW2 := hW.alloc (.cells #[.string pl, .int .i64 wk, vt] 32)
  obtain ⟨p1, c1, hv1⟩ := h.tr.shape
  subst hv1
  clear hn hbn hall hlr
  generalize hea : askedE rs ps [⟨pl, wk, .slice p1 ts.length c1, ts⟩] = ea at *
  have Hea := Lib.hid hea
  clear hea
  rw [fr_partsP, show fr 0 = _ from q0, show fr 1 = _ from q1, show fr 5 = _ from q5]
  clear q0 q1 q5
  conv => arg 2; whnf
  go_wp2_with fail
  refine HA.out.mono ?_
  rintro e w1 ⟨rfl, hb⟩
  go_wp2_with fail
  refine Met.intro (hS _ _ ?_)
  exact ⟨hW2.below hb, Fr.of _ rfl ⟨rfl, rfl, rfl, rfl, trivial⟩⟩

set_option maxRecDepth 100000 in
set_option maxHeartbeats 1000000 in
theorem ppT (w0 : World) (vr vp vt : Value) (rs : List RuleL) (ps : List ByteArray) (ts : List StatL) (pl : ByteArray) (wk : Int) : T3 Tryd.prog (fun a w => (Pt w0 w0.heap.size [.string pl, .int .i64 wk, vt] (.slice none 0 0) [] w) ∧ Fr 44 [(0, vr), (1, vp), (5, .pointer (some ⟨w0.heap.size, 0, none⟩)), (8, .int .i64 (askedE rs ps [⟨pl, wk, vt, ts⟩]))] a) (sel [1, 0, 1, 0] partsP) (fun a w => ∃ q, Fr 44 ((19, .bool q) :: [(0, vr), (1, vp), (5, .pointer (some ⟨w0.heap.size, 0, none⟩)), (8, .int .i64 (askedE rs ps [⟨pl, wk, vt, ts⟩]))]) a ∧ ((q = true ↔ askedE rs ps [⟨pl, wk, vt, ts⟩] ≠ 0) ∧ Pt w0 w0.heap.size [.string pl, .int .i64 wk, vt] (.slice none 0 0) [] w)) No 9 (fun a w => ∃ (v9 : Value) (l : List PairL), Fr 44 [(6, v9), (7, .int .i64 (askedE rs ps [⟨pl, wk, vt, ts⟩]))] a ∧ l = partsQ rs ps ⟨pl, wk, vt, ts⟩ ∧ Pt w0 w0.heap.size [.string pl, .int .i64 wk, vt] v9 l w) := by
  refine T3.leaf ?_
  rintro Q JS JX JT K hS hK hX hE hT hR a w ⟨hW, ⟨fr, rfl, q0, q1, q5, q8, _⟩⟩
  generalize askedE rs ps [⟨pl, wk, vt, ts⟩] = N at *
  by_cases h0 : N = 0
  · have hz : (N != 0) = false := by simp [h0]
    have H0 := Lib.hid h0
    clear h0
    rw [fr_partsP, show fr 0 = _ from q0, show fr 1 = _ from q1, show fr 5 = _ from q5, show fr 8 = _ from q8]
    clear q0 q1 q5 q8
    conv => arg 2; whnf
    go_wp2_with fail
    refine Met.intro (hS _ _ ?_)
    exact ⟨false, Fr.of _ rfl ⟨rfl, rfl, rfl, rfl, rfl, trivial⟩, ⟨fun h => (by cases h), fun h => absurd H0.out h⟩, hW⟩
  · have hz : (N != 0) = true := by simp [h0]
    have H0 := Lib.hid h0
    clear h0
    rw [fr_partsP, show fr 0 = _ from q0, show fr 1 = _ from q1, show fr 5 = _ from q5, show fr 8 = _ from q8]
    clear q0 q1 q5 q8
    conv => arg 2; whnf
    go_wp2_with fail
    refine Met.intro (hS _ _ ?_)
    exact ⟨true, Fr.of _ rfl ⟨rfl, rfl, rfl, rfl, rfl, trivial⟩, ⟨fun _ => H0.out, fun _ => rfl⟩, hW⟩

set_option maxRecDepth 100000 in
set_option maxHeartbeats 1000000 in
theorem ppX (w0 : World) (vr vp vt : Value) (rs : List RuleL) (ps : List ByteArray) (ts : List StatL) (pl : ByteArray) (wk : Int) : T3 Tryd.prog (fun a w => Fr 44 ((19, .bool true) :: [(0, vr), (1, vp), (5, .pointer (some ⟨w0.heap.size, 0, none⟩)), (8, .int .i64 (askedE rs ps [⟨pl, wk, vt, ts⟩]))]) a ∧ (true = true ↔ askedE rs ps [⟨pl, wk, vt, ts⟩] ≠ 0) ∧ Pt w0 w0.heap.size [.string pl, .int .i64 wk, vt] (.slice none 0 0) [] w) (sel [1, 0, 1, 1, 2, 0] partsP) (fun a w => (Pt w0 w0.heap.size [.string pl, .int .i64 wk, vt] (.slice none 0 0) [] w ∧ askedE rs ps [⟨pl, wk, vt, ts⟩] ≠ 0) ∧ Fr 44 [(6, .slice none 0 0), (7, .int .i64 (askedE rs ps [⟨pl, wk, vt, ts⟩]))] a) No 9 (fun a w => ∃ (v9 : Value) (l : List PairL), Fr 44 [(6, v9), (7, .int .i64 (askedE rs ps [⟨pl, wk, vt, ts⟩]))] a ∧ l = partsQ rs ps ⟨pl, wk, vt, ts⟩ ∧ Pt w0 w0.heap.size [.string pl, .int .i64 wk, vt] v9 l w) := by
  refine T3.leaf ?_
  rintro Q JS JX JT K hS hK hX hE hT hR a w ⟨⟨fr, rfl, q19, q0, q1, q5, q8, _⟩, hq, hW⟩
  have H0 := Lib.hid (hq.1 rfl)
  clear hq
  rw [fr_partsP, show fr 19 = _ from q19, show fr 0 = _ from q0, show fr 1 = _ from q1, show fr 5 = _ from q5, show fr 8 = _ from q8]
  clear q19 q0 q1 q5 q8
  conv => arg 2; whnf
  go_wp2_with fail
  refine Met.intro (hS _ _ ?_)
  exact ⟨⟨hW, H0.out⟩, Fr.of _ rfl ⟨rfl, rfl, trivial⟩⟩

set_option maxRecDepth 100000 in
set_option maxHeartbeats 1000000 in
theorem parts_prog (w0 : World) (vr vp vt : Value) (rs : List RuleL) (ps : List ByteArray) (ts : List StatL) (pl : ByteArray) (wk : Int) (h : PqH w0 vr vp vt rs ps ts pl) : Calls Tryd.prog 9 #[vr, vp, .agg #[.string pl, .int .i64 wk, vt]] w0 fun e w' => ∃ v9 : Value, e = .returned (.tuple #[v9, .int .i64 (askedE rs ps [⟨pl, wk, vt, ts⟩])]) ∧ w'.ownsRow (w0.heap.size + 1) 51 2 v9 (partsQ rs ps ⟨pl, wk, vt, ts⟩).length (cellsOf encPr (partsQ rs ps ⟨pl, wk, vt, ts⟩)) ∧ Below w0.heap.size w0 w' := by
  have hall : T3 Tryd.prog (fun a w => (w = w0) ∧ Fr 44 [(0, vr), (1, vp), (2, .agg #[.string pl, .int .i64 wk, vt])] a) partsP No No 9 (fun a w => ∃ (v9 : Value) (l : List PairL), Fr 44 [(6, v9), (7, .int .i64 (askedE rs ps [⟨pl, wk, vt, ts⟩]))] a ∧ l = partsQ rs ps ⟨pl, wk, vt, ts⟩ ∧ Pt w0 w0.heap.size [.string pl, .int .i64 wk, vt] v9 l w) := by
    refine T3.seq (s := (sel [0] partsP)) (c := (sel [1] partsP)) (ppA w0 vr vp vt rs ps ts pl wk h.tr) ?_
    refine T3.seq (s := (sel [1, 0] partsP)) (c := (sel [1, 1] partsP)) (S := fun a w => askedE rs ps [⟨pl, wk, vt, ts⟩] = 0 ∧ (Pt w0 w0.heap.size [.string pl, .int .i64 wk, vt] (.slice none 0 0) [] w ∧ Fr 44 [(0, vr), (1, vp), (5, .pointer (some ⟨w0.heap.size, 0, none⟩))] a)) ?_ ?_
    · refine T3.seq (s := (sel [1, 0, 0] partsP)) (c := (sel [1, 0, 1] partsP)) (ppQ w0 vr vp vt rs ps ts pl wk h) ?_
      refine T3.test (s := (sel [1, 0, 1, 0] partsP)) (x := (sel [1, 0, 1, 1, 2] partsP)) (y := .skip) (C := fun q => (q = true ↔ askedE rs ps [⟨pl, wk, vt, ts⟩] ≠ 0)) (W := fun w => Pt w0 w0.heap.size [.string pl, .int .i64 wk, vt] (.slice none 0 0) [] w) (by decide) (ppT w0 vr vp vt rs ps ts pl wk) ?_ (T3.skip ?_)
      · refine T3.seq (s := (sel [1, 0, 1, 1, 2, 0] partsP)) (c := .ret) (ppX w0 vr vp vt rs ps ts pl wk) (T3.ret ?_)
        rintro a w ⟨⟨hW, hne⟩, hF⟩
        exact ⟨_, [], hF, by unfold partsQ; rw [if_neg hne], hW⟩
      · rintro a w ⟨hq, hW, hF⟩
        exact ⟨Decidable.byContradiction (fun h => by have := hq.2 h; cases this), hW, hF.sub (by simp)⟩
    refine T3.pure fun hE => ?_
    have hg := h.good hE
    refine T3.seq (s := (sel [1, 1, 0] partsP)) (c := (sel [1, 1, 1] partsP)) (ppC w0 vr vp vt rs ps ts pl wk) ?_
    refine T3.seq (s := (sel [1, 1, 1, 0] partsP)) (c := (sel [1, 1, 1, 1] partsP)) (T3.noT (T3.seq (s := (sel [1, 1, 1, 0, 0] partsP)) (c := (sel [1, 1, 1, 0, 1] partsP)) ((pp5 w0 vr vp vt rs ps ts pl wk w0.heap.size hg).pre ?_) (pploop w0 vr vp vt rs ps ts pl wk w0.heap.size hg))) ?_
    · rintro a w ⟨hW, hF⟩
      exact ⟨hW, hF.sub (by simp)⟩
    · refine T3.seq (s := (sel [1, 1, 1, 1, 0] partsP)) (c := .ret) (T3.pre (ppD w0 vr vp vt rs ps ts pl wk) ?_) (T3.ret ?_)
      · rintro a w ⟨v9, hW, hF⟩
        exact ⟨v9, hW, hF.sub (by simp)⟩
      · rintro a w ⟨v9, hW, hF⟩
        exact ⟨v9, _, by rw [hE]; exact hF, by unfold partsQ; rw [if_pos hE], hW⟩
  obtain ⟨p1, c1, hv1⟩ := h.tr.shape
  go_enter Tryd.func9, Tryd.ntmps9
  refine T3.done (s := partsP) hall ⟨rfl, Fr.of _ rfl ⟨rfl, rfl, rfl, trivial⟩⟩ ?_
  rintro a w ⟨v9, l, ⟨fr, rfl, q6, q7, _⟩, rfl, hW⟩
  obtain ⟨p9, c9, hv9⟩ := (Row.of_owns hW.own).shape
  have ho := hW.own
  rw [hv9] at ho
  rw [fr_partsP, show fr 6 = _ from q6, hv9, show fr 7 = _ from q7]
  go_ret2
  exact ⟨_, rfl, ho, hW.bel⟩

set_option maxRecDepth 100000 in
set_option maxHeartbeats 1000000 in
theorem prA (w0 : World) (vr vp vt : Value) (rs : List RuleL) (ps : List ByteArray) (ts : List StatL) (pl : ByteArray) (wk : Int) (htr : Row w0 0 2 vt ts.length (cellsOf encT ts)) : T3 Tryd.prog (fun a w => (w = w0) ∧ Fr 34 [(0, vr), (1, vp), (2, .agg #[.string pl, .int .i64 wk, vt])] a) (sel [0] partsR) (fun a w => (Pt w0 w0.heap.size [.string pl, .int .i64 wk, vt] (.slice none 0 0) [] w) ∧ Fr 34 [(0, vr), (1, vp), (5, .pointer (some ⟨w0.heap.size, 0, none⟩))] a) No 9 (fun a w => ∃ (v9 : Value) (l : List PairL), Fr 34 [(6, v9)] a ∧ l = partsL rs ps ts ∧ Pt w0 w0.heap.size [.string pl, .int .i64 wk, vt] v9 l w) := by
  refine T3.leaf ?_
  rintro Q JS JX JT K hS hK hX hE hT hR a w ⟨hw, ⟨fr, rfl, q0, q1, q2, _⟩⟩
  subst hw
  obtain ⟨p1, c1, hv1⟩ := htr.shape
  subst hv1
  rw [fr_partsR, show fr 0 = _ from q0, show fr 1 = _ from q1, show fr 2 = _ from q2]
  clear q0 q1 q2
  conv => arg 2; whnf
  go_wp2_with fail
  refine Met.intro (hS _ _ ?_)
  exact ⟨Pt.start w pl wk (.slice p1 ts.length c1), Fr.of _ rfl ⟨rfl, rfl, rfl, trivial⟩⟩

set_option maxRecDepth 100000 in
set_option maxHeartbeats 1000000 in
theorem prC (w0 : World) (vr vp vt : Value) (rs : List RuleL) (ps : List ByteArray) (ts : List StatL) (pl : ByteArray) (wk : Int) : T3 Tryd.prog (fun a w => (Pt w0 w0.heap.size [.string pl, .int .i64 wk, vt] (.slice none 0 0) [] w) ∧ Fr 34 [(0, vr), (1, vp), (5, .pointer (some ⟨w0.heap.size, 0, none⟩))] a) (sel [1, 0] partsR) (fun a w => (Pt w0 w0.heap.size [.string pl, .int .i64 wk, vt] (.slice none 0 0) [] w) ∧ Fr 34 [(0, vr), (1, vp), (5, .pointer (some ⟨w0.heap.size, 0, none⟩)), (7, .slice none 0 0)] a) No 9 (fun a w => ∃ (v9 : Value) (l : List PairL), Fr 34 [(6, v9)] a ∧ l = partsL rs ps ts ∧ Pt w0 w0.heap.size [.string pl, .int .i64 wk, vt] v9 l w) := by
  refine T3.leaf ?_
  rintro Q JS JX JT K hS hK hX hE hT hR a w ⟨hW, ⟨fr, rfl, q0, q1, q5, _⟩⟩
  rw [fr_partsR, show fr 0 = _ from q0, show fr 1 = _ from q1, show fr 5 = _ from q5]
  clear q0 q1 q5
  conv => arg 2; whnf
  go_wp2_with fail
  refine Met.intro (hS _ _ ?_)
  exact ⟨hW, Fr.of _ rfl ⟨rfl, rfl, rfl, rfl, trivial⟩⟩

set_option maxRecDepth 100000 in
set_option maxHeartbeats 1000000 in
theorem prD (w0 : World) (vr vp vt : Value) (rs : List RuleL) (ps : List ByteArray) (ts : List StatL) (pl : ByteArray) (wk : Int) : T3 Tryd.prog (fun a w => ∃ (v9 : Value), (Pt w0 w0.heap.size [.string pl, .int .i64 wk, vt] v9 (partsL rs ps ts) w) ∧ Fr 34 [(7, v9)] a) (sel [1, 1, 1, 0] partsR) (fun a w => ∃ (v9 : Value), (Pt w0 w0.heap.size [.string pl, .int .i64 wk, vt] v9 (partsL rs ps ts) w) ∧ Fr 34 [(6, v9)] a) No 9 (fun a w => ∃ (v9 : Value) (l : List PairL), Fr 34 [(6, v9)] a ∧ l = partsL rs ps ts ∧ Pt w0 w0.heap.size [.string pl, .int .i64 wk, vt] v9 l w) := by
  refine T3.leaf ?_
  rintro Q JS JX JT K hS hK hX hE hT hR a w ⟨v9, hW, ⟨fr, rfl, q7, _⟩⟩
  rw [fr_partsR, show fr 7 = _ from q7]
  clear q7
  conv => arg 2; whnf
  go_wp2_with fail
  refine Met.intro (hS _ _ ?_)
  exact ⟨v9, hW, Fr.of _ rfl ⟨rfl, trivial⟩⟩

set_option maxRecDepth 100000 in
set_option maxHeartbeats 1000000 in
theorem parts_ref (w0 : World) (vr vp vt : Value) (rs : List RuleL) (ps : List ByteArray) (ts : List StatL) (pl : ByteArray) (wk : Int) (h : PtH w0 vr vp vt rs ps ts) : Calls Tryd.prog 15 #[vr, vp, .agg #[.string pl, .int .i64 wk, vt]] w0 fun e w' => ∃ v9 : Value, e = .returned (v9) ∧ w'.ownsRow (w0.heap.size + 1) 51 2 v9 (partsL rs ps ts).length (cellsOf encPr (partsL rs ps ts)) ∧ Below w0.heap.size w0 w' := by
  have hall : T3 Tryd.prog (fun a w => (w = w0) ∧ Fr 34 [(0, vr), (1, vp), (2, .agg #[.string pl, .int .i64 wk, vt])] a) partsR No No 9 (fun a w => ∃ (v9 : Value) (l : List PairL), Fr 34 [(6, v9)] a ∧ l = partsL rs ps ts ∧ Pt w0 w0.heap.size [.string pl, .int .i64 wk, vt] v9 l w) := by
    refine T3.seq (s := (sel [0] partsR)) (c := (sel [1] partsR)) (prA w0 vr vp vt rs ps ts pl wk h.tr) ?_
    have hg := h
    refine T3.seq (s := (sel [1, 0] partsR)) (c := (sel [1, 1] partsR)) (prC w0 vr vp vt rs ps ts pl wk) ?_
    refine T3.seq (s := (sel [1, 1, 0] partsR)) (c := (sel [1, 1, 1] partsR)) (T3.noT (T3.seq (s := (sel [1, 1, 0, 0] partsR)) (c := (sel [1, 1, 0, 1] partsR)) ((pr5 w0 vr vp vt rs ps ts pl wk w0.heap.size hg).pre ?_) (prloop w0 vr vp vt rs ps ts pl wk w0.heap.size hg))) ?_
    · rintro a w ⟨hW, hF⟩
      exact ⟨hW, hF.sub (by simp)⟩
    · refine T3.seq (s := (sel [1, 1, 1, 0] partsR)) (c := .ret) (T3.pre (prD w0 vr vp vt rs ps ts pl wk) ?_) (T3.ret ?_)
      · rintro a w ⟨v9, hW, hF⟩
        exact ⟨v9, hW, hF.sub (by simp)⟩
      · rintro a w ⟨v9, hW, hF⟩
        exact ⟨v9, _, hF, rfl, hW⟩
  obtain ⟨p1, c1, hv1⟩ := h.tr.shape
  go_enter Tryd.func15, Tryd.ntmps15
  refine T3.done (s := partsR) hall ⟨rfl, Fr.of _ rfl ⟨rfl, rfl, rfl, trivial⟩⟩ ?_
  rintro a w ⟨v9, l, ⟨fr, rfl, q6, _⟩, rfl, hW⟩
  obtain ⟨p9, c9, hv9⟩ := (Row.of_owns hW.own).shape
  have ho := hW.own
  rw [hv9] at ho
  rw [fr_partsR, show fr 6 = _ from q6, hv9]
  go_ret
  exact ⟨_, rfl, ho, hW.bel⟩

end Go.Proofs.YtbidnbcclibigaaDoor
