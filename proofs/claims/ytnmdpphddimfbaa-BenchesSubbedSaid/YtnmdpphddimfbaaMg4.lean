/-
  Contracts and lemmas towards the statement, of several parts; each part says ahead of it what it holds and under which conditions.
-/
import Derived.Test.YtnmdpphddimfbaaMg3
import Derived.Test.YtnmdpphddimfbaaMg1
import Derived.Test.YtnmdpphddimfbaaMg2
/-
  Line-ups: what is wrong with fills (CheckFills, FillsFault). Conditions: at most 1000 of each; strings of at most 1000 bytes; whole numbers are Go's.
-/
set_option linter.unusedVariables false
namespace Go.Bw
open Go.RowKit
/-- A block that may be left from inside. -/
theorem T3.blockX {P : Program} {R S X T : Rel} {c : Code} {id id'' : Nat} (h : T3 P R c S S id T) : T3 P R (.block id c) S X id'' T := by
  intro a w hR
  refine wp_block (wp_mono (h a w hR) ?_)
  intro e a w q
  cases e with
  | normal => exact q
  | exit i =>
    obtain ⟨rfl, q⟩ := q
    show Exit.inBlock i _ (.exit i) a w
    simp only [Exit.inBlock, if_true]
    exact q
  | ret => exact q
  | goto l => exact q
  | panic ch => exact q
  | outgrown => exact q
end Go.Bw
namespace Go.Proofs.Ytnmdpphddimfbaa
open Go.RowKit Go.Bw
/-- A fill in a box. -/
structure FlB (w : World) (g : Nat) (x : FlD) : Prop where
  c0 : w.cell? ⟨g, 0, none⟩ = some (.string x.sl)
  c1 : w.cell? ⟨g, 1, none⟩ = some (.string x.pl)
theorem FlB.new (w : World) (x : FlD) (e : TypeId) : FlB (w.alloc (.cells #[.string x.sl, .string x.pl] e)) w.heap.size x := ⟨cells_new w _ _ 0 _ rfl, cells_new w _ _ 1 _ rfl⟩
theorem FlB.below {w w' : World} {g : Nat} {x : FlD} (h : FlB w g x) (b : Below w.heap.size w w') : FlB w' g x :=
  ⟨(b.cell (World.block_lt_of_cell? w _ h.c0)).trans h.c0, (b.cell (World.block_lt_of_cell? w _ h.c1)).trans h.c1⟩
def ssE (S : List SlD) (L : List ScD) : Int := if slotsE S ≠ 0 then slotsE S else scorersE L
theorem allE_ss {S : List SlD} {L : List ScD} {F : List FlD} (h : ssE S L ≠ 0) : allE S L F = ssE S L := by
  unfold allE
  unfold ssE at h ⊢
  split
  · rfl
  · rename_i h0
    rw [if_neg h0] at h
    rw [if_pos h]
theorem allE_fills {S : List SlD} {L : List ScD} {F : List FlD} (h : ssE S L = 0) : allE S L F = fillsE S L F := by
  unfold allE
  unfold ssE at h
  split at h
  · rename_i h0; exact absurd h h0
  · rename_i h0
    rw [if_neg h0, if_neg (by simp [h])]
theorem ss_rise {S : List SlD} {L : List ScD} (h : ssE S L = 0) : ScRise L := by
  unfold ssE at h
  split at h
  · rename_i h0; exact absurd h h0
  · exact rise_of h
theorem fillsE_len {S : List SlD} {L : List ScD} {F : List FlD} (h : F.length ≠ S.length) : fillsE S L F = 3 := by unfold fillsE; rw [if_pos h]
theorem fillsE_hit {S : List SlD} {L : List ScD} {F : List FlD} (h : F.length = S.length) {k : Int} (h0 : 0 ≤ k) (h1 : k < F.length) (hn : NoErr (fillAt S L F) k) (hk : fillAt S L F k ≠ 0) : fillsE S L F = fillAt S L F k := by unfold fillsE; rw [if_neg (by simp [h])]; exact firstErr_hit hn h0 h1 hk
theorem fillsE_ok {S : List SlD} {L : List ScD} {F : List FlD} (h : F.length = S.length) (hn : NoErr (fillAt S L F) F.length) : fillsE S L F = 0 := by unfold fillsE; rw [if_neg (by simp [h])]; exact firstErr_none hn
theorem fa_slot {S : List SlD} {L : List ScD} {F : List FlD} {k : Int} (h : (geta F k).sl ≠ (geta S k).key) : fillAt S L F k = 8 := by unfold fillAt; rw [if_pos h]
theorem fa_none {S : List SlD} {L : List ScD} {F : List FlD} {k : Int} (h : (geta F k).sl = (geta S k).key) (h2 : (geta F k).pl = ByteArray.empty) : fillAt S L F k = 0 := by unfold fillAt; rw [if_neg (by simp [h]), if_pos h2]
theorem fa_no {S : List SlD} {L : List ScD} {F : List FlD} {k : Int} (h : (geta F k).sl = (geta S k).key) (h2 : (geta F k).pl ≠ ByteArray.empty) (h3 : scIdx L (geta F k).pl < 0) : fillAt S L F k = 8 := by unfold fillAt; rw [if_neg (by simp [h]), if_neg h2, if_pos h3]
theorem fa_dup {S : List SlD} {L : List ScD} {F : List FlD} {k : Int} (h : (geta F k).sl = (geta S k).key) (h2 : (geta F k).pl ≠ ByteArray.empty) (h3 : ¬ scIdx L (geta F k).pl < 0) (h4 : fillDup F k = true) : fillAt S L F k = 6 := by unfold fillAt; rw [if_neg (by simp [h]), if_neg h2, if_neg h3, if_pos h4]
theorem fa_fit {S : List SlD} {L : List ScD} {F : List FlD} {k : Int} (h : (geta F k).sl = (geta S k).key) (h2 : (geta F k).pl ≠ ByteArray.empty) (h3 : ¬ scIdx L (geta F k).pl < 0) (h4 : fillDup F k = false) : fillAt S L F k = if commonB (geta L (scIdx L (geta F k).pl)).ps (geta S k).ps = false then 10 else 0 := by unfold fillAt; rw [if_neg (by simp [h]), if_neg h2, if_neg h3, if_neg (by rw [h4]; decide)]
theorem sc_mem {L : List ScD} {x : ByteArray} (h : ¬ scIdx L x < 0) : scIdx L x < L.length := by
  have h0 : 0 ≤ scIdx L x := by omega
  exact (idxI_lt h0).1
theorem Row.nonnil {w : World} {sz n cap : Nat} {p : Option Addr} {cs : List Value} (h : Row w 0 sz (.slice p n cap) n cs) (h0 : 0 < n) : ∃ b off, p = some ⟨b, off, none⟩ ∧ n ≤ cap ∧ cap ≤ 9223372036854775807 ∧ ∀ i u, cs[i]? = some u → w.cell? ⟨b, off + i, none⟩ = some u := by
  rcases h.2 with ⟨hv, e⟩ | ⟨b, off, cap', hv, _, _, hn, hc, hcell⟩
  · omega
  · simp only [Value.slice.injEq] at hv
    obtain ⟨rfl, _, rfl⟩ := hv
    exact ⟨b, off, rfl, hn, hc, hcell⟩
theorem Row.elAt {α : Type} [Inhabited α] {enc : α → List Value} {sz : Nat} (henc : ∀ x, (enc x).length = sz) {l : List α} {w : World} {b off : Nat} (hc : ∀ i u, (cellsOf enc l)[i]? = some u → w.cell? ⟨b, off + i, none⟩ = some u) {k : Int} (h0 : 0 ≤ k) (h1 : k < l.length) (j : Nat) (u : Value) (hj : j < sz) (hu : (enc (geta l k))[j]? = some u) : w.cell? ⟨b, off + k.toNat * sz + j, none⟩ = some u := by
  rw [Nat.add_assoc]
  refine hc _ _ ?_
  rw [cellsOf_get enc sz henc l k.toNat (by omega) j hj, ← hu, geta_eq l k h0 h1]
noncomputable def cfP : Code := (Try.f42.body).getD .skip
set_option maxRecDepth 100000 in
theorem fr_cfP (f : Nat → Value) : frame 71 f = ⟨#[f 0, f 1, f 2, f 3, f 4, f 5, f 6, f 7, f 8, f 9, f 10, f 11, f 12, f 13, f 14, f 15, f 16, f 17, f 18, f 19, f 20, f 21, f 22, f 23, f 24, f 25, f 26, f 27, f 28, f 29, f 30, f 31, f 32, f 33, f 34, f 35, f 36, f 37, f 38, f 39, f 40, f 41, f 42, f 43, f 44, f 45, f 46, f 47, f 48, f 49, f 50, f 51, f 52, f 53, f 54, f 55, f 56, f 57, f 58, f 59, f 60, f 61, f 62, f 63, f 64, f 65, f 66, f 67, f 68, f 69, f 70], []⟩ := by rfl
set_option maxRecDepth 100000 in
set_option maxHeartbeats 1000000 in
theorem cf0 (w0 : World) (vs vl vf : Value) (S : List SlD) (L : List ScD) (Fs : List FlD) (hs : SlH w0 vs S) (hl : ScH w0 vl L) (hf : FlH w0 vf Fs) : T3 Try.prog (fun a w => (Below w0.heap.size w0 w) ∧ Fr 71 [(0, vs), (1, vl), (2, vf)] a) (sel [0] cfP) (fun a w => (Below w0.heap.size w0 w) ∧ Fr 71 [(0, vs), (1, vl), (2, vf)] a) No 9 (fun a w => Fr 71 [(6, .int .i64 (allE S L Fs))] a ∧ Below w0.heap.size w0 w) := by
  refine T3.leaf ?_
  rintro Q JS JX JT K hS hK hX hE hT hR a w ⟨hW, ⟨fr, rfl, q0, q1, q2, _⟩⟩
  have HW := Lib.hid hW
  have hsn := hf.n
  have hssn := hs.n
  obtain ⟨p1, c1, hv1⟩ := hs.r.shape
  subst hv1
  obtain ⟨p2, c2, hv2⟩ := hl.r.shape
  subst hv2
  obtain ⟨p3, c3, hv3⟩ := hf.r.shape
  subst hv3
  clear hW
  rw [fr_cfP, show fr 0 = _ from q0, show fr 1 = _ from q1, show fr 2 = _ from q2]
  clear q0 q1 q2
  conv => arg 2; whnf
  go_wp2_with fail
  refine Met.intro (hS _ _ ?_)
  exact ⟨HW.out, Fr.of _ rfl ⟨rfl, rfl, rfl, trivial⟩⟩

set_option maxRecDepth 100000 in
set_option maxHeartbeats 1000000 in
theorem cf1 (w0 : World) (vs vl vf : Value) (S : List SlD) (L : List ScD) (Fs : List FlD) (hs : SlH w0 vs S) (hl : ScH w0 vl L) (hf : FlH w0 vf Fs) : T3 Try.prog (fun a w => (Below w0.heap.size w0 w) ∧ Fr 71 [(0, vs), (1, vl), (2, vf)] a) (sel [1, 0, 0] cfP) (fun a w => (Below w0.heap.size w0 w) ∧ Fr 71 [(0, vs), (1, vl), (2, vf), (7, .int .i64 (ssE S L))] a) No 9 (fun a w => Fr 71 [(6, .int .i64 (allE S L Fs))] a ∧ Below w0.heap.size w0 w) := by
  refine T3.leaf ?_
  rintro Q JS JX JT K hS hK hX hE hT hR a w ⟨hW, ⟨fr, rfl, q0, q1, q2, _⟩⟩
  have HA := Lib.hid (slots_prog w vs S (hs.below hW))
  have HB := Lib.hid (fun w' (b : Below w.heap.size w w') => scorers_prog w' vl L ((hl.below hW).below b))
  have HN := Lib.hid (fun w' x y => first_prog2 _ _ [x, y] (es_new w' x y 34))
  have HF := Lib.hid (show fstE [slotsE S, scorersE L] = ssE S L by rw [fst2]; rfl)
  have HW := Lib.hid hW
  have hsn := hf.n
  have hssn := hs.n
  obtain ⟨p1, c1, hv1⟩ := hs.r.shape
  subst hv1
  obtain ⟨p2, c2, hv2⟩ := hl.r.shape
  subst hv2
  obtain ⟨p3, c3, hv3⟩ := hf.r.shape
  subst hv3
  clear hW
  generalize ssE S L = ff at *
  generalize slotsE S = e1 at *
  generalize scorersE L = e2 at *
  rw [fr_cfP, show fr 0 = _ from q0, show fr 1 = _ from q1, show fr 2 = _ from q2]
  clear q0 q1 q2
  conv => arg 2; whnf
  go_wp2_with fail
  refine HA.out.mono ?_
  rintro e w1 ⟨rfl, hb1⟩
  have HB1 := Lib.hid hb1
  clear hb1
  go_wp2_with fail
  refine (HB.out w1 HB1.out).mono ?_
  rintro e w2 ⟨rfl, hb2⟩
  have HB2 := Lib.hid (HB1.out.trans (hb2.mono HB1.out.size))
  clear hb2
  go_wp2_with fail
  refine (HN.out w2 e1 e2).mono ?_
  rintro e w3 ⟨rfl, rfl⟩
  rw [HF.out]
  have HR := Lib.hid (HW.out.trans (HB2.out.mono HW.out.size))
  go_wp2_with fail
  refine Met.intro (hS _ _ ?_)
  exact ⟨HR.out.alloc HR.out.size _, Fr.of _ rfl ⟨rfl, rfl, rfl, rfl, trivial⟩⟩

set_option maxRecDepth 100000 in
set_option maxHeartbeats 1000000 in
theorem cf2 (w0 : World) (vs vl vf : Value) (S : List SlD) (L : List ScD) (Fs : List FlD) (hs : SlH w0 vs S) (hl : ScH w0 vl L) (hf : FlH w0 vf Fs) : T3 Try.prog (fun a w => (Below w0.heap.size w0 w) ∧ Fr 71 [(0, vs), (1, vl), (2, vf), (7, .int .i64 (ssE S L))] a) (sel [1, 0, 1, 0] cfP) (fun a w => ∃ q, Fr 71 ((18, .bool q) :: [(0, vs), (1, vl), (2, vf), (7, .int .i64 (ssE S L))]) a ∧ ((q = (ssE S L != 0)) ∧ Below w0.heap.size w0 w)) No 9 (fun a w => Fr 71 [(6, .int .i64 (allE S L Fs))] a ∧ Below w0.heap.size w0 w) := by
  refine T3.leaf ?_
  rintro Q JS JX JT K hS hK hX hE hT hR a w ⟨hW, ⟨fr, rfl, q0, q1, q2, q7, _⟩⟩
  have HW := Lib.hid hW
  have hsn := hf.n
  have hssn := hs.n
  obtain ⟨p1, c1, hv1⟩ := hs.r.shape
  subst hv1
  obtain ⟨p2, c2, hv2⟩ := hl.r.shape
  subst hv2
  obtain ⟨p3, c3, hv3⟩ := hf.r.shape
  subst hv3
  clear hW
  generalize ssE S L = ff at *
  generalize hqq : (ff != 0) = qq at *
  rw [fr_cfP, show fr 0 = _ from q0, show fr 1 = _ from q1, show fr 2 = _ from q2, show fr 7 = _ from q7]
  clear q0 q1 q2 q7
  conv => arg 2; whnf
  go_wp2_with fail
  refine Met.intro (hS _ _ ?_)
  exact ⟨_, Fr.of _ rfl ⟨rfl, rfl, rfl, rfl, rfl, trivial⟩, rfl, HW.out⟩

set_option maxRecDepth 100000 in
set_option maxHeartbeats 1000000 in
theorem cf3 (w0 : World) (vs vl vf : Value) (S : List SlD) (L : List ScD) (Fs : List FlD) (hs : SlH w0 vs S) (hl : ScH w0 vl L) (hf : FlH w0 vf Fs) : T3 Try.prog (fun a w => (Below w0.heap.size w0 w) ∧ Fr 71 [(0, vs), (1, vl), (2, vf), (7, .int .i64 (ssE S L))] a) (sel [1, 0, 1, 1, 2, 0] cfP) (fun a w => (Below w0.heap.size w0 w) ∧ Fr 71 [(6, .int .i64 (ssE S L))] a) No 9 (fun a w => Fr 71 [(6, .int .i64 (allE S L Fs))] a ∧ Below w0.heap.size w0 w) := by
  refine T3.leaf ?_
  rintro Q JS JX JT K hS hK hX hE hT hR a w ⟨hW, ⟨fr, rfl, q0, q1, q2, q7, _⟩⟩
  have HW := Lib.hid hW
  have hsn := hf.n
  have hssn := hs.n
  obtain ⟨p1, c1, hv1⟩ := hs.r.shape
  subst hv1
  obtain ⟨p2, c2, hv2⟩ := hl.r.shape
  subst hv2
  obtain ⟨p3, c3, hv3⟩ := hf.r.shape
  subst hv3
  clear hW
  generalize ssE S L = ff at *
  rw [fr_cfP, show fr 0 = _ from q0, show fr 1 = _ from q1, show fr 2 = _ from q2, show fr 7 = _ from q7]
  clear q0 q1 q2 q7
  conv => arg 2; whnf
  go_wp2_with fail
  refine Met.intro (hS _ _ ?_)
  exact ⟨HW.out, Fr.of _ rfl ⟨rfl, trivial⟩⟩

set_option maxRecDepth 100000 in
set_option maxHeartbeats 1000000 in
theorem cf4 (w0 : World) (vs vl vf : Value) (S : List SlD) (L : List ScD) (Fs : List FlD) (hs : SlH w0 vs S) (hl : ScH w0 vl L) (hf : FlH w0 vf Fs) : T3 Try.prog (fun a w => (Below w0.heap.size w0 w) ∧ Fr 71 [(0, vs), (1, vl), (2, vf)] a) (sel [1, 1, 0, 0] cfP) (fun a w => ∃ q, Fr 71 ((24, .bool q) :: [(0, vs), (1, vl), (2, vf)]) a ∧ ((q = ((Fs.length : Int) != (S.length : Int))) ∧ Below w0.heap.size w0 w)) No 9 (fun a w => Fr 71 [(6, .int .i64 (allE S L Fs))] a ∧ Below w0.heap.size w0 w) := by
  refine T3.leaf ?_
  rintro Q JS JX JT K hS hK hX hE hT hR a w ⟨hW, ⟨fr, rfl, q0, q1, q2, _⟩⟩
  have HW := Lib.hid hW
  have hsn := hf.n
  have hssn := hs.n
  obtain ⟨p1, c1, hv1⟩ := hs.r.shape
  subst hv1
  obtain ⟨p2, c2, hv2⟩ := hl.r.shape
  subst hv2
  obtain ⟨p3, c3, hv3⟩ := hf.r.shape
  subst hv3
  clear hW
  generalize hq : ((Fs.length : Int) != (S.length : Int)) = q at *
  rw [fr_cfP, show fr 0 = _ from q0, show fr 1 = _ from q1, show fr 2 = _ from q2]
  clear q0 q1 q2
  conv => arg 2; whnf
  go_wp2_with fail
  refine Met.intro (hS _ _ ?_)
  exact ⟨_, Fr.of _ rfl ⟨rfl, rfl, rfl, rfl, trivial⟩, rfl, HW.out⟩

set_option maxRecDepth 100000 in
set_option maxHeartbeats 1000000 in
theorem cf5 (w0 : World) (vs vl vf : Value) (S : List SlD) (L : List ScD) (Fs : List FlD) (hs : SlH w0 vs S) (hl : ScH w0 vl L) (hf : FlH w0 vf Fs) : T3 Try.prog (fun a w => (Below w0.heap.size w0 w) ∧ Fr 71 [(0, vs), (1, vl), (2, vf)] a) (sel [1, 1, 0, 1, 2, 0] cfP) (fun a w => (Below w0.heap.size w0 w) ∧ Fr 71 [(6, .int .i64 3)] a) No 9 (fun a w => Fr 71 [(6, .int .i64 (allE S L Fs))] a ∧ Below w0.heap.size w0 w) := by
  refine T3.leaf ?_
  rintro Q JS JX JT K hS hK hX hE hT hR a w ⟨hW, ⟨fr, rfl, q0, q1, q2, _⟩⟩
  have HW := Lib.hid hW
  have hsn := hf.n
  have hssn := hs.n
  obtain ⟨p1, c1, hv1⟩ := hs.r.shape
  subst hv1
  obtain ⟨p2, c2, hv2⟩ := hl.r.shape
  subst hv2
  obtain ⟨p3, c3, hv3⟩ := hf.r.shape
  subst hv3
  clear hW
  rw [fr_cfP, show fr 0 = _ from q0, show fr 1 = _ from q1, show fr 2 = _ from q2]
  clear q0 q1 q2
  conv => arg 2; whnf
  go_wp2_with fail
  refine Met.intro (hS _ _ ?_)
  exact ⟨HW.out, Fr.of _ rfl ⟨rfl, trivial⟩⟩

set_option maxRecDepth 100000 in
set_option maxHeartbeats 1000000 in
theorem cf6 (w0 : World) (vs vl vf : Value) (S : List SlD) (L : List ScD) (Fs : List FlD) (hs : SlH w0 vs S) (hl : ScH w0 vl L) (hf : FlH w0 vf Fs) (hlen : Hid (Fs.length = S.length)) (r : ScRise L) : T3 Try.prog (fun a w => (Below w0.heap.size w0 w) ∧ Fr 71 [(0, vs), (1, vl), (2, vf)] a) (sel [1, 1, 1, 0, 0] cfP) (fun a w => (0 ≤ (0 : Int) ∧ (0 : Int) ≤ Fs.length) ∧ (NoErr (fillAt S L Fs) 0) ∧ (Below w0.heap.size w0 w) ∧ Fr 71 [(0, vs), (1, vl), (2, vf), (25, vf), (26, .int .i64 Fs.length), (27, .int .i64 0)] a) No 9 (fun a w => Fr 71 [(6, .int .i64 (allE S L Fs))] a ∧ Below w0.heap.size w0 w) := by
  refine T3.leaf ?_
  rintro Q JS JX JT K hS hK hX hE hT hR a w ⟨hW, ⟨fr, rfl, q0, q1, q2, _⟩⟩
  have HW := Lib.hid hW
  have hsn := hf.n
  have hssn := hs.n
  obtain ⟨p1, c1, hv1⟩ := hs.r.shape
  subst hv1
  obtain ⟨p2, c2, hv2⟩ := hl.r.shape
  subst hv2
  obtain ⟨p3, c3, hv3⟩ := hf.r.shape
  subst hv3
  clear hW
  rw [fr_cfP, show fr 0 = _ from q0, show fr 1 = _ from q1, show fr 2 = _ from q2]
  clear q0 q1 q2
  conv => arg 2; whnf
  go_wp2_with fail
  refine Met.intro (hS _ _ ?_)
  exact ⟨⟨by omega, by omega⟩, NoErr.zero _, HW.out, Fr.of _ rfl ⟨rfl, rfl, rfl, rfl, rfl, rfl, trivial⟩⟩

set_option maxRecDepth 100000 in
set_option maxHeartbeats 1000000 in
theorem cf8 (w0 : World) (vs vl vf : Value) (S : List SlD) (L : List ScD) (Fs : List FlD) (hs : SlH w0 vs S) (hl : ScH w0 vl L) (hf : FlH w0 vf Fs) (hlen : Hid (Fs.length = S.length)) (r : ScRise L) (k : Int) : T3 Try.prog (fun a w => ((0 ≤ k ∧ k < Fs.length) ∧ NoErr (fillAt S L Fs) k) ∧ (Below w0.heap.size w0 w) ∧ Fr 71 [(0, vs), (1, vl), (2, vf), (25, vf), (26, .int .i64 Fs.length), (27, .int .i64 k)] a) (sel [1, 1, 1, 0, 1, 4, 4, 1, 1, 0, 4, 0] cfP) (fun a w => ∃ (g9 : Nat), ((0 ≤ k ∧ k < Fs.length) ∧ NoErr (fillAt S L Fs) k) ∧ (Below w0.heap.size w0 w ∧ FlB w g9 (geta Fs k)) ∧ Fr 71 [(0, vs), (1, vl), (2, vf), (8, .int .i64 k), (9, .pointer (some ⟨g9, 0, none⟩)), (25, vf), (26, .int .i64 Fs.length), (27, .int .i64 k)] a) No 9 (fun a w => Fr 71 [(6, .int .i64 (allE S L Fs))] a ∧ Below w0.heap.size w0 w) := by
  refine T3.leaf ?_
  rintro Q JS JX JT K hS hK hX hE hT hR a w ⟨hpre, hW, ⟨fr, rfl, q0, q1, q2, q25, q26, q27, _⟩⟩
  have hpp := Lib.hid hpre
  obtain ⟨⟨hk0, hk1⟩, _⟩ := hpre
  have hsn := hf.n
  have hHW := Lib.hid hW
  obtain ⟨p1, c1, hv1⟩ := hs.r.shape
  subst hv1
  obtain ⟨p2, c2, hv2⟩ := hl.r.shape
  subst hv2
  obtain ⟨_, hcs⟩ := (hf.below hW).r.els encFl_length (by decide)
  rcases hcs with ⟨rfl, h0⟩ | ⟨bz, off, cap, rfl, _, hbz, hnc, hcm, hcell⟩
  · omega
  have t0 := hcell k hk0 hk1 0 _ rfl
  have t1 := hcell k hk0 hk1 1 _ rfl
  rw [Nat.add_zero] at t0
  have HB := Lib.hid (FlB.new w (geta Fs k) 42)
  have HA := Lib.hid (fun o => (Below.refl w.heap.size w).alloc (Nat.le_refl _) o)
  clear hcell hW hs hl hf
  generalize geta Fs k = x at *
  rw [fr_cfP, show fr 0 = _ from q0, show fr 1 = _ from q1, show fr 2 = _ from q2, show fr 25 = _ from q25, show fr 26 = _ from q26, show fr 27 = _ from q27]
  clear q0 q1 q2 q25 q26 q27
  conv => arg 2; whnf
  go_wp2_with fail
  refine Met.intro (hS _ _ ?_)
  exact ⟨_, hpp.out, ⟨hHW.out.trans ((HA.out _).mono hHW.out.size), HB.out⟩, Fr.of _ rfl ⟨rfl, rfl, rfl, rfl, rfl, rfl, rfl, rfl, trivial⟩⟩

set_option maxRecDepth 100000 in
set_option maxHeartbeats 1000000 in
theorem cf12 (w0 : World) (vs vl vf : Value) (S : List SlD) (L : List ScD) (Fs : List FlD) (hs : SlH w0 vs S) (hl : ScH w0 vl L) (hf : FlH w0 vf Fs) (hlen : Hid (Fs.length = S.length)) (r : ScRise L) (k : Int) (g9 : Nat) : T3 Try.prog (fun a w => ((0 ≤ k ∧ k < Fs.length) ∧ NoErr (fillAt S L Fs) k) ∧ (Below w0.heap.size w0 w ∧ FlB w g9 (geta Fs k)) ∧ Fr 71 [(0, vs), (1, vl), (2, vf), (8, .int .i64 k), (9, .pointer (some ⟨g9, 0, none⟩)), (25, vf), (26, .int .i64 Fs.length), (27, .int .i64 k)] a) (sel [1, 1, 1, 0, 1, 4, 4, 1, 1, 0, 4, 1, 1, 1, 0] cfP) (fun a w => ((0 ≤ k ∧ k < Fs.length) ∧ NoErr (fillAt S L Fs) k) ∧ (Below w0.heap.size w0 w ∧ FlB w g9 (geta Fs k)) ∧ Fr 71 [(0, vs), (1, vl), (2, vf), (8, .int .i64 k), (9, .pointer (some ⟨g9, 0, none⟩)), (10, .int .i64 (scIdx L (geta Fs k).pl)), (25, vf), (26, .int .i64 Fs.length), (27, .int .i64 k)] a) No 9 (fun a w => Fr 71 [(6, .int .i64 (allE S L Fs))] a ∧ Below w0.heap.size w0 w) := by
  refine T3.leaf ?_
  rintro Q JS JX JT K hS hK hX hE hT hR a w ⟨hpre, hW, ⟨fr, rfl, q0, q1, q2, q8, q9, q25, q26, q27, _⟩⟩
  have hpp := Lib.hid hpre
  obtain ⟨⟨hk0, hk1⟩, _⟩ := hpre
  have hsn := hf.n
  have HW := Lib.hid hW
  have HC := Lib.hid (find_prog w vl L (geta Fs k).pl (hl.below hW.1) r)
  have t1 := hW.2.c1
  obtain ⟨p1, c1, hv1⟩ := hs.r.shape
  subst hv1
  obtain ⟨p2, c2, hv2⟩ := hl.r.shape
  subst hv2
  obtain ⟨p3, c3, hv3⟩ := hf.r.shape
  subst hv3
  clear hs hl hf hW
  generalize scIdx L (geta Fs k).pl = q at *
  generalize hxx : (geta Fs k).pl = x at *
  rw [fr_cfP, show fr 0 = _ from q0, show fr 1 = _ from q1, show fr 2 = _ from q2, show fr 8 = _ from q8, show fr 9 = _ from q9, show fr 25 = _ from q25, show fr 26 = _ from q26, show fr 27 = _ from q27]
  clear q0 q1 q2 q8 q9 q25 q26 q27
  conv => arg 2; whnf
  go_wp2_with fail
  refine HC.out.mono ?_
  rintro e w1 ⟨rfl, hb1⟩
  have HR := Lib.hid (show Below w0.heap.size w0 w1 ∧ FlB w1 g9 (geta Fs k) from ⟨HW.out.1.trans (hb1.mono HW.out.1.size), HW.out.2.below hb1⟩)
  clear hb1
  go_wp2_with fail
  refine Met.intro (hS _ _ ?_)
  exact ⟨hpp.out, HR.out, Fr.of _ rfl ⟨rfl, rfl, rfl, rfl, rfl, rfl, rfl, rfl, rfl, trivial⟩⟩

set_option maxRecDepth 100000 in
set_option maxHeartbeats 1000000 in
theorem cf9 (w0 : World) (vs vl vf : Value) (S : List SlD) (L : List ScD) (Fs : List FlD) (hs : SlH w0 vs S) (hl : ScH w0 vl L) (hf : FlH w0 vf Fs) (hlen : Hid (Fs.length = S.length)) (r : ScRise L) (k : Int) (g9 : Nat) : T3 Try.prog (fun a w => ((0 ≤ k ∧ k < Fs.length) ∧ NoErr (fillAt S L Fs) k) ∧ (Below w0.heap.size w0 w ∧ FlB w g9 (geta Fs k)) ∧ Fr 71 [(0, vs), (1, vl), (2, vf), (8, .int .i64 k), (9, .pointer (some ⟨g9, 0, none⟩)), (25, vf), (26, .int .i64 Fs.length), (27, .int .i64 k)] a) (sel [1, 1, 1, 0, 1, 4, 4, 1, 1, 0, 4, 1, 0, 0] cfP) (fun a w => ∃ q, Fr 71 ((39, .bool q) :: [(0, vs), (1, vl), (2, vf), (8, .int .i64 k), (9, .pointer (some ⟨g9, 0, none⟩)), (25, vf), (26, .int .i64 Fs.length), (27, .int .i64 k)]) a ∧ ((((0 ≤ k ∧ k < Fs.length) ∧ NoErr (fillAt S L Fs) k) ∧ q = decide ((geta Fs k).sl ≠ (geta S k).key)) ∧ Below w0.heap.size w0 w ∧ FlB w g9 (geta Fs k))) No 9 (fun a w => Fr 71 [(6, .int .i64 (allE S L Fs))] a ∧ Below w0.heap.size w0 w) := by
  refine T3.leafN ?_
  rintro JS hS a w ⟨hpre, hW, ⟨fr, rfl, q0, q1, q2, q8, q9, q25, q26, q27, _⟩⟩
  have hpp := Lib.hid hpre
  obtain ⟨⟨hk0, hk1⟩, _⟩ := hpre
  have hsn := hf.n
  have HW := Lib.hid hW
  have hbd : Below w.heap.size w w.drew := below_drewN (Below.refl _ _) 1
  have HW1 := Lib.hid (show Below w0.heap.size w0 w.drew ∧ FlB w.drew g9 (geta Fs k) from ⟨hW.1.trans (hbd.mono hW.1.size), hW.2.below hbd⟩)
  have t0 := hW.2.c0
  have hks : k < S.length := by have := hlen.out; omega
  have hR := (hs.below hW.1).r
  obtain ⟨p1, c1, hv1⟩ := hs.r.shape
  subst hv1
  obtain ⟨bs, os, rfl, hn1, hm1, hcell⟩ := Row.nonnil hR (by omega)
  have t1 := Row.elAt encSl_length hcell hk0 hks 0 _ (by decide) rfl
  rw [Nat.add_zero] at t1
  obtain ⟨p2, c2, hv2⟩ := hl.r.shape
  subst hv2
  obtain ⟨p3, c3, hv3⟩ := hf.r.shape
  subst hv3
  clear hcell hR hs hl hf hW hbd
  by_cases he : (geta Fs k).sl = (geta S k).key
  · have HE := Lib.hid (show false = decide ((geta Fs k).sl ≠ (geta S k).key) by simp [he])
    rw [← he] at t1
    clear he
    generalize (geta Fs k).sl = x at *
    rw [fr_cfP, show fr 0 = _ from q0, show fr 1 = _ from q1, show fr 2 = _ from q2, show fr 8 = _ from q8, show fr 9 = _ from q9, show fr 25 = _ from q25, show fr 26 = _ from q26, show fr 27 = _ from q27]
    clear q0 q1 q2 q8 q9 q25 q26 q27
    conv => arg 2; whnf
    refine wp_region_mix (none) [(true, 0), (true, 2), (true, 3), (true, 1), (true, 4), (true, 5), (true, 6), (true, 7)] (by kernel_rfl) (by kernel_rfl) (by intro c a d v w h; cases d <;> exact h) ?_
    simp only [pickFlat, List.filterMap_cons, List.filterMap_nil, List.getElem?_cons_succ, List.getElem?_cons_zero, Option.map_some]
    have A0 := wof_at (w₁ := w.drew) (row := none) (a := ⟨g9, 0, none⟩) t0 (by simp)
    have A1 := wof_at (w₁ := w.drew) (row := none) (a := ⟨bs, os + k.toNat * 2, none⟩) t1 (by simp)
    refine flat_hide (fun W hH hC hN hE => ?_)
    iterate 8 (refine hH.out _ _ _ _ (fun K hK => ?_); go_simp; refine hK _ ?_; clear hK K)
    refine hE.out _ _ ?_
    clear hH hC hN hE W
    show JS _ _
    refine hS _ _ ?_
    exact ⟨_, Fr.of _ rfl ⟨rfl, rfl, rfl, rfl, rfl, rfl, rfl, rfl, rfl, trivial⟩, ⟨hpp.out, HE.out⟩, HW1.out⟩
  · have HE := Lib.hid (show true = decide ((geta Fs k).sl ≠ (geta S k).key) by simp [he])
    have he1 := toList_ne he
    clear he
    generalize (geta Fs k).sl = x at *
    generalize (geta S k).key = y at *
    rw [fr_cfP, show fr 0 = _ from q0, show fr 1 = _ from q1, show fr 2 = _ from q2, show fr 8 = _ from q8, show fr 9 = _ from q9, show fr 25 = _ from q25, show fr 26 = _ from q26, show fr 27 = _ from q27]
    clear q0 q1 q2 q8 q9 q25 q26 q27
    conv => arg 2; whnf
    refine wp_region_mix (none) [(true, 0), (true, 2), (true, 3), (true, 1), (true, 4), (true, 5), (true, 6), (true, 7)] (by kernel_rfl) (by kernel_rfl) (by intro c a d v w h; cases d <;> exact h) ?_
    simp only [pickFlat, List.filterMap_cons, List.filterMap_nil, List.getElem?_cons_succ, List.getElem?_cons_zero, Option.map_some]
    have A0 := wof_at (w₁ := w.drew) (row := none) (a := ⟨g9, 0, none⟩) t0 (by simp)
    have A1 := wof_at (w₁ := w.drew) (row := none) (a := ⟨bs, os + k.toNat * 2, none⟩) t1 (by simp)
    refine flat_hide (fun W hH hC hN hE => ?_)
    iterate 8 (refine hH.out _ _ _ _ (fun K hK => ?_); go_simp; refine hK _ ?_; clear hK K)
    refine hE.out _ _ ?_
    clear hH hC hN hE W
    show JS _ _
    refine hS _ _ ?_
    exact ⟨_, Fr.of _ rfl ⟨rfl, rfl, rfl, rfl, rfl, rfl, rfl, rfl, rfl, trivial⟩, ⟨hpp.out, HE.out⟩, HW1.out⟩

set_option maxRecDepth 100000 in
set_option maxHeartbeats 1000000 in
theorem cf10 (w0 : World) (vs vl vf : Value) (S : List SlD) (L : List ScD) (Fs : List FlD) (hs : SlH w0 vs S) (hl : ScH w0 vl L) (hf : FlH w0 vf Fs) (hlen : Hid (Fs.length = S.length)) (r : ScRise L) (k : Int) (g9 : Nat) : T3 Try.prog (fun a w => (Below w0.heap.size w0 w ∧ FlB w g9 (geta Fs k)) ∧ Fr 71 [(0, vs), (1, vl), (2, vf), (8, .int .i64 k), (9, .pointer (some ⟨g9, 0, none⟩)), (25, vf), (26, .int .i64 Fs.length), (27, .int .i64 k)] a) (sel [1, 1, 1, 0, 1, 4, 4, 1, 1, 0, 4, 1, 0, 1, 2, 0] cfP) (fun a w => (Below w0.heap.size w0 w) ∧ Fr 71 [(6, .int .i64 8)] a) No 9 (fun a w => Fr 71 [(6, .int .i64 (allE S L Fs))] a ∧ Below w0.heap.size w0 w) := by
  refine T3.leaf ?_
  rintro Q JS JX JT K hS hK hX hE hT hR a w ⟨hW, ⟨fr, rfl, q0, q1, q2, q8, q9, q25, q26, q27, _⟩⟩
  have HW := Lib.hid hW
  clear hW
  obtain ⟨p1, c1, hv1⟩ := hs.r.shape
  subst hv1
  obtain ⟨p2, c2, hv2⟩ := hl.r.shape
  subst hv2
  obtain ⟨p3, c3, hv3⟩ := hf.r.shape
  subst hv3
  rw [fr_cfP, show fr 0 = _ from q0, show fr 1 = _ from q1, show fr 2 = _ from q2, show fr 8 = _ from q8, show fr 9 = _ from q9, show fr 25 = _ from q25, show fr 26 = _ from q26, show fr 27 = _ from q27]
  clear q0 q1 q2 q8 q9 q25 q26 q27
  conv => arg 2; whnf
  go_wp2_with fail
  refine Met.intro (hS _ _ ?_)
  exact ⟨HW.out.1, Fr.of _ rfl ⟨rfl, trivial⟩⟩

set_option maxRecDepth 100000 in
set_option maxHeartbeats 1000000 in
theorem cf11 (w0 : World) (vs vl vf : Value) (S : List SlD) (L : List ScD) (Fs : List FlD) (hs : SlH w0 vs S) (hl : ScH w0 vl L) (hf : FlH w0 vf Fs) (hlen : Hid (Fs.length = S.length)) (r : ScRise L) (k : Int) (g9 : Nat) : T3 Try.prog (fun a w => ((0 ≤ k ∧ k < Fs.length) ∧ NoErr (fillAt S L Fs) k) ∧ (Below w0.heap.size w0 w ∧ FlB w g9 (geta Fs k)) ∧ Fr 71 [(0, vs), (1, vl), (2, vf), (8, .int .i64 k), (9, .pointer (some ⟨g9, 0, none⟩)), (25, vf), (26, .int .i64 Fs.length), (27, .int .i64 k)] a) (sel [1, 1, 1, 0, 1, 4, 4, 1, 1, 0, 4, 1, 1, 0, 0] cfP) (fun a w => ∃ q, Fr 71 ((42, .bool q) :: [(0, vs), (1, vl), (2, vf), (8, .int .i64 k), (9, .pointer (some ⟨g9, 0, none⟩)), (25, vf), (26, .int .i64 Fs.length), (27, .int .i64 k)]) a ∧ ((((0 ≤ k ∧ k < Fs.length) ∧ NoErr (fillAt S L Fs) k) ∧ q = decide ((geta Fs k).pl = ByteArray.empty)) ∧ Below w0.heap.size w0 w ∧ FlB w g9 (geta Fs k))) No 9 (fun a w => Fr 71 [(6, .int .i64 (allE S L Fs))] a ∧ Below w0.heap.size w0 w) := by
  refine T3.leaf ?_
  rintro Q JS JX JT K hS hK hX hE hT hR a w ⟨hpre, hW, ⟨fr, rfl, q0, q1, q2, q8, q9, q25, q26, q27, _⟩⟩
  have hpp := Lib.hid hpre
  obtain ⟨⟨hk0, hk1⟩, _⟩ := hpre
  have hsn := hf.n
  have HW := Lib.hid hW
  have t1 := hW.2.c1
  obtain ⟨p1, c1, hv1⟩ := hs.r.shape
  subst hv1
  obtain ⟨p2, c2, hv2⟩ := hl.r.shape
  subst hv2
  obtain ⟨p3, c3, hv3⟩ := hf.r.shape
  subst hv3
  clear hW hs hl hf
  by_cases hx : (geta Fs k).pl = ByteArray.empty
  · have HX := Lib.hid (show true = decide ((geta Fs k).pl = ByteArray.empty) by simp [hx])
    rw [hx] at t1
    clear hx
    rw [fr_cfP, show fr 0 = _ from q0, show fr 1 = _ from q1, show fr 2 = _ from q2, show fr 8 = _ from q8, show fr 9 = _ from q9, show fr 25 = _ from q25, show fr 26 = _ from q26, show fr 27 = _ from q27]
    clear q0 q1 q2 q8 q9 q25 q26 q27
    conv => arg 2; whnf
    go_wp2_with fail
    refine Met.intro (hS _ _ ?_)
    exact ⟨_, Fr.of _ rfl ⟨rfl, rfl, rfl, rfl, rfl, rfl, rfl, rfl, rfl, trivial⟩, ⟨hpp.out, HX.out⟩, HW.out⟩
  · have HX := Lib.hid (show false = decide ((geta Fs k).pl = ByteArray.empty) by simp [hx])
    have hx1 := toList_ne hx
    have hx2 : (geta Fs k).pl.toList.isEmpty = false := by
      have hh := hx1
      rw [show ByteArray.empty.toList = [] by rw [ByteArray.toList_eq]; rfl] at hh
      cases hl : (geta Fs k).pl.toList with
      | nil => rw [hl] at hh; exact absurd hh (by decide)
      | cons a b => rfl
    clear hx
    generalize (geta Fs k).pl = x at *
    rw [fr_cfP, show fr 0 = _ from q0, show fr 1 = _ from q1, show fr 2 = _ from q2, show fr 8 = _ from q8, show fr 9 = _ from q9, show fr 25 = _ from q25, show fr 26 = _ from q26, show fr 27 = _ from q27]
    clear q0 q1 q2 q8 q9 q25 q26 q27
    conv => arg 2; whnf
    go_wp2_with fail
    refine Met.intro (hS _ _ ?_)
    exact ⟨_, Fr.of _ rfl ⟨rfl, rfl, rfl, rfl, rfl, rfl, rfl, rfl, rfl, trivial⟩, ⟨hpp.out, HX.out⟩, HW.out⟩

set_option maxRecDepth 100000 in
set_option maxHeartbeats 1000000 in
theorem cf13 (w0 : World) (vs vl vf : Value) (S : List SlD) (L : List ScD) (Fs : List FlD) (hs : SlH w0 vs S) (hl : ScH w0 vl L) (hf : FlH w0 vf Fs) (hlen : Hid (Fs.length = S.length)) (r : ScRise L) (k : Int) (g9 : Nat) : T3 Try.prog (fun a w => ((0 ≤ k ∧ k < Fs.length) ∧ NoErr (fillAt S L Fs) k) ∧ (Below w0.heap.size w0 w ∧ FlB w g9 (geta Fs k)) ∧ Fr 71 [(0, vs), (1, vl), (2, vf), (8, .int .i64 k), (9, .pointer (some ⟨g9, 0, none⟩)), (10, .int .i64 (scIdx L (geta Fs k).pl)), (25, vf), (26, .int .i64 Fs.length), (27, .int .i64 k)] a) (sel [1, 1, 1, 0, 1, 4, 4, 1, 1, 0, 4, 1, 1, 1, 1, 4, 0] cfP) (fun a w => ∃ q, Fr 71 ((47, .bool q) :: [(0, vs), (1, vl), (2, vf), (8, .int .i64 k), (9, .pointer (some ⟨g9, 0, none⟩)), (10, .int .i64 (scIdx L (geta Fs k).pl)), (25, vf), (26, .int .i64 Fs.length), (27, .int .i64 k)]) a ∧ ((((0 ≤ k ∧ k < Fs.length) ∧ NoErr (fillAt S L Fs) k) ∧ q = decide ((scIdx L (geta Fs k).pl) < 0)) ∧ Below w0.heap.size w0 w ∧ FlB w g9 (geta Fs k))) No 9 (fun a w => Fr 71 [(6, .int .i64 (allE S L Fs))] a ∧ Below w0.heap.size w0 w) := by
  refine T3.leaf ?_
  rintro Q JS JX JT K hS hK hX hE hT hR a w ⟨hpre, hW, ⟨fr, rfl, q0, q1, q2, q8, q9, q10, q25, q26, q27, _⟩⟩
  have hpp := Lib.hid hpre
  obtain ⟨⟨hk0, hk1⟩, _⟩ := hpre
  have hsn := hf.n
  have HW := Lib.hid hW
  obtain ⟨p1, c1, hv1⟩ := hs.r.shape
  subst hv1
  obtain ⟨p2, c2, hv2⟩ := hl.r.shape
  subst hv2
  obtain ⟨p3, c3, hv3⟩ := hf.r.shape
  subst hv3
  clear hW hs hl hf
  generalize scIdx L (geta Fs k).pl = ix at *
  rw [fr_cfP, show fr 0 = _ from q0, show fr 1 = _ from q1, show fr 2 = _ from q2, show fr 8 = _ from q8, show fr 9 = _ from q9, show fr 10 = _ from q10, show fr 25 = _ from q25, show fr 26 = _ from q26, show fr 27 = _ from q27]
  clear q0 q1 q2 q8 q9 q10 q25 q26 q27
  conv => arg 2; whnf
  go_wp2_with fail
  have hpre := hpp.out
  refine Met.intro (hS _ _ ?_)
  exact ⟨_, Fr.of _ rfl ⟨rfl, rfl, rfl, rfl, rfl, rfl, rfl, rfl, rfl, rfl, trivial⟩, ⟨hpre, rfl⟩, HW.out⟩

set_option maxRecDepth 100000 in
set_option maxHeartbeats 1000000 in
theorem cf14 (w0 : World) (vs vl vf : Value) (S : List SlD) (L : List ScD) (Fs : List FlD) (hs : SlH w0 vs S) (hl : ScH w0 vl L) (hf : FlH w0 vf Fs) (hlen : Hid (Fs.length = S.length)) (r : ScRise L) (k : Int) (g9 : Nat) : T3 Try.prog (fun a w => (Below w0.heap.size w0 w ∧ FlB w g9 (geta Fs k)) ∧ Fr 71 [(0, vs), (1, vl), (2, vf), (8, .int .i64 k), (9, .pointer (some ⟨g9, 0, none⟩)), (10, .int .i64 (scIdx L (geta Fs k).pl)), (25, vf), (26, .int .i64 Fs.length), (27, .int .i64 k)] a) (sel [1, 1, 1, 0, 1, 4, 4, 1, 1, 0, 4, 1, 1, 1, 1, 4, 1, 2, 0] cfP) (fun a w => (Below w0.heap.size w0 w) ∧ Fr 71 [(6, .int .i64 8)] a) No 9 (fun a w => Fr 71 [(6, .int .i64 (allE S L Fs))] a ∧ Below w0.heap.size w0 w) := by
  refine T3.leaf ?_
  rintro Q JS JX JT K hS hK hX hE hT hR a w ⟨hW, ⟨fr, rfl, q0, q1, q2, q8, q9, q10, q25, q26, q27, _⟩⟩
  have HW := Lib.hid hW
  clear hW
  obtain ⟨p1, c1, hv1⟩ := hs.r.shape
  subst hv1
  obtain ⟨p2, c2, hv2⟩ := hl.r.shape
  subst hv2
  obtain ⟨p3, c3, hv3⟩ := hf.r.shape
  subst hv3
  generalize scIdx L (geta Fs k).pl = ix at *
  rw [fr_cfP, show fr 0 = _ from q0, show fr 1 = _ from q1, show fr 2 = _ from q2, show fr 8 = _ from q8, show fr 9 = _ from q9, show fr 10 = _ from q10, show fr 25 = _ from q25, show fr 26 = _ from q26, show fr 27 = _ from q27]
  clear q0 q1 q2 q8 q9 q10 q25 q26 q27
  conv => arg 2; whnf
  go_wp2_with fail
  refine Met.intro (hS _ _ ?_)
  exact ⟨HW.out.1, Fr.of _ rfl ⟨rfl, trivial⟩⟩

set_option maxRecDepth 100000 in
set_option maxHeartbeats 1000000 in
theorem cf15 (w0 : World) (vs vl vf : Value) (S : List SlD) (L : List ScD) (Fs : List FlD) (hs : SlH w0 vs S) (hl : ScH w0 vl L) (hf : FlH w0 vf Fs) (hlen : Hid (Fs.length = S.length)) (r : ScRise L) (k : Int) (g9 : Nat) : T3 Try.prog (fun a w => ((0 ≤ k ∧ k < Fs.length) ∧ NoErr (fillAt S L Fs) k) ∧ (Below w0.heap.size w0 w ∧ FlB w g9 (geta Fs k)) ∧ Fr 71 [(0, vs), (1, vl), (2, vf), (8, .int .i64 k), (9, .pointer (some ⟨g9, 0, none⟩)), (10, .int .i64 (scIdx L (geta Fs k).pl)), (25, vf), (26, .int .i64 Fs.length), (27, .int .i64 k)] a) (sel [1, 1, 1, 0, 1, 4, 4, 1, 1, 0, 4, 1, 1, 1, 1, 4, 1, 3, 0] cfP) (fun a w => ∃ q, Fr 71 ((50, .bool q) :: [(0, vs), (1, vl), (2, vf), (8, .int .i64 k), (9, .pointer (some ⟨g9, 0, none⟩)), (10, .int .i64 (scIdx L (geta Fs k).pl)), (25, vf), (26, .int .i64 Fs.length), (27, .int .i64 k)]) a ∧ ((((0 ≤ k ∧ k < Fs.length) ∧ NoErr (fillAt S L Fs) k) ∧ q = fillDup Fs k) ∧ Below w0.heap.size w0 w ∧ FlB w g9 (geta Fs k))) No 9 (fun a w => Fr 71 [(6, .int .i64 (allE S L Fs))] a ∧ Below w0.heap.size w0 w) := by
  refine T3.leafN ?_
  rintro JS hS a w ⟨hpre, hW, ⟨fr, rfl, q0, q1, q2, q8, q9, q10, q25, q26, q27, _⟩⟩
  have hpp := Lib.hid hpre
  obtain ⟨⟨hk0, hk1⟩, _⟩ := hpre
  have hsn := hf.n
  have HW := Lib.hid hW
  have hbd : Below w.heap.size w w.drew := below_drewN (Below.refl _ _) 1
  have HW1 := Lib.hid (show Below w0.heap.size w0 w.drew ∧ FlB w.drew g9 (geta Fs k) from ⟨hW.1.trans (hbd.mono hW.1.size), hW.2.below hbd⟩)
  have hR := (hf.below hW.1).r
  rcases hR.2 with ⟨hv, h0⟩ | ⟨bz, off, cap, hv, _, hbz, hnc, hcm, hcell⟩
  · omega
  subst hv
  simp only [maxLen] at hcm
  have hbq : (0 : Int) ≤ k ∧ k ≤ Fs.length ∧ (Fs.length : Int) ≤ cap := by omega
  have hkc : k ≤ (cap : Int) := by omega
  have t1 := hW.2.c1
  have HC := Lib.hid (isIn_prog (.slice (some ⟨bz, off, none⟩) k.toNat cap) (Fs.take k.toNat) (geta Fs k).pl w.drew ⟨Row.firstN encFl_length (hR.below hbd) hk0 (by omega), fun y hy => hf.z y (List.mem_of_mem_take hy), by rw [List.length_take]; omega⟩)
  have hE : isInB (Fs.take k.toNat) (geta Fs k).pl = fillDup Fs k := rfl
  rw [hE] at HC
  obtain ⟨p1, c1, hv1⟩ := hs.r.shape
  subst hv1
  obtain ⟨p2, c2, hv2⟩ := hl.r.shape
  subst hv2
  clear hcell hR hs hl hf hW hbd hE
  generalize scIdx L (geta Fs k).pl = ix at *
  generalize hqq : fillDup Fs k = qq at *
  generalize hxx : (geta Fs k).pl = x at *
  rw [fr_cfP, show fr 0 = _ from q0, show fr 1 = _ from q1, show fr 2 = _ from q2, show fr 8 = _ from q8, show fr 9 = _ from q9, show fr 10 = _ from q10, show fr 25 = _ from q25, show fr 26 = _ from q26, show fr 27 = _ from q27]
  clear q0 q1 q2 q8 q9 q10 q25 q26 q27
  conv => arg 2; whnf
  refine wp_region_mix (none) [(true, 0), (true, 1), (true, 3), (true, 2), (true, 4), (false, 5), (true, 6)] (by kernel_rfl) (by kernel_rfl) (by intro c a d v w h; cases d <;> exact h) ?_
  simp only [pickFlat, List.filterMap_cons, List.filterMap_nil, List.getElem?_cons_succ, List.getElem?_cons_zero, Option.map_some]
  have A0 := wof_at (w₁ := w.drew) (row := none) (a := ⟨g9, 1, none⟩) t1 (by simp)
  refine flat_hide (fun W hH hC hN hE => ?_)
  iterate 5 (refine hH.out _ _ _ _ (fun K hK => ?_); go_simp; refine hK _ ?_; clear hK K)
  refine hC.out _ _ _ _ (by first | rfl | go_simp) (fun K hK => ?_)
  simp only [bare]
  go_wp2_with fail
  refine HC.out.mono ?_
  rintro e w2 ⟨rfl, hb1⟩
  have HB1 := Lib.hid hb1
  have HR1 := Lib.hid (show Below w0.heap.size w0 w2 ∧ FlB w2 g9 (geta Fs k) from ⟨HW1.out.1.trans (hb1.mono HW1.out.1.size), HW1.out.2.below hb1⟩)
  clear hb1
  go_wp2_with fail
  refine hK.out _ _ (grown_of_below HB1.out) ?_
  clear hK K
  iterate 1 (refine hH.out _ _ _ _ (fun K hK => ?_); go_simp; refine hK _ ?_; clear hK K)
  refine hE.out _ _ ?_
  clear hH hC hN hE W
  show JS _ _
  refine hS _ _ ?_
  exact ⟨_, Fr.of _ rfl ⟨rfl, rfl, rfl, rfl, rfl, rfl, rfl, rfl, rfl, rfl, trivial⟩, ⟨hpp.out, rfl⟩, HR1.out⟩

set_option maxRecDepth 100000 in
set_option maxHeartbeats 1000000 in
theorem cf16 (w0 : World) (vs vl vf : Value) (S : List SlD) (L : List ScD) (Fs : List FlD) (hs : SlH w0 vs S) (hl : ScH w0 vl L) (hf : FlH w0 vf Fs) (hlen : Hid (Fs.length = S.length)) (r : ScRise L) (k : Int) (g9 : Nat) : T3 Try.prog (fun a w => (Below w0.heap.size w0 w ∧ FlB w g9 (geta Fs k)) ∧ Fr 71 [(0, vs), (1, vl), (2, vf), (8, .int .i64 k), (9, .pointer (some ⟨g9, 0, none⟩)), (10, .int .i64 (scIdx L (geta Fs k).pl)), (25, vf), (26, .int .i64 Fs.length), (27, .int .i64 k)] a) (sel [1, 1, 1, 0, 1, 4, 4, 1, 1, 0, 4, 1, 1, 1, 1, 4, 1, 3, 1, 2, 0] cfP) (fun a w => (Below w0.heap.size w0 w) ∧ Fr 71 [(6, .int .i64 6)] a) No 9 (fun a w => Fr 71 [(6, .int .i64 (allE S L Fs))] a ∧ Below w0.heap.size w0 w) := by
  refine T3.leaf ?_
  rintro Q JS JX JT K hS hK hX hE hT hR a w ⟨hW, ⟨fr, rfl, q0, q1, q2, q8, q9, q10, q25, q26, q27, _⟩⟩
  have HW := Lib.hid hW
  clear hW
  obtain ⟨p1, c1, hv1⟩ := hs.r.shape
  subst hv1
  obtain ⟨p2, c2, hv2⟩ := hl.r.shape
  subst hv2
  obtain ⟨p3, c3, hv3⟩ := hf.r.shape
  subst hv3
  generalize scIdx L (geta Fs k).pl = ix at *
  rw [fr_cfP, show fr 0 = _ from q0, show fr 1 = _ from q1, show fr 2 = _ from q2, show fr 8 = _ from q8, show fr 9 = _ from q9, show fr 10 = _ from q10, show fr 25 = _ from q25, show fr 26 = _ from q26, show fr 27 = _ from q27]
  clear q0 q1 q2 q8 q9 q10 q25 q26 q27
  conv => arg 2; whnf
  go_wp2_with fail
  refine Met.intro (hS _ _ ?_)
  exact ⟨HW.out.1, Fr.of _ rfl ⟨rfl, trivial⟩⟩

set_option maxRecDepth 100000 in
set_option maxHeartbeats 1000000 in
theorem cf17 (w0 : World) (vs vl vf : Value) (S : List SlD) (L : List ScD) (Fs : List FlD) (hs : SlH w0 vs S) (hl : ScH w0 vl L) (hf : FlH w0 vf Fs) (hlen : Hid (Fs.length = S.length)) (r : ScRise L) (k : Int) (g9 : Nat) (hix : ¬ (scIdx L (geta Fs k).pl) < 0) : T3 Try.prog (fun a w => ((0 ≤ k ∧ k < Fs.length) ∧ NoErr (fillAt S L Fs) k) ∧ (Below w0.heap.size w0 w ∧ FlB w g9 (geta Fs k)) ∧ Fr 71 [(0, vs), (1, vl), (2, vf), (8, .int .i64 k), (9, .pointer (some ⟨g9, 0, none⟩)), (10, .int .i64 (scIdx L (geta Fs k).pl)), (25, vf), (26, .int .i64 Fs.length), (27, .int .i64 k)] a) (sel [1, 1, 1, 0, 1, 4, 4, 1, 1, 0, 4, 1, 1, 1, 1, 4, 1, 3, 1, 3, 0] cfP) (fun a w => ∃ q, Fr 71 ((57, .bool q) :: [(0, vs), (1, vl), (2, vf), (8, .int .i64 k), (9, .pointer (some ⟨g9, 0, none⟩)), (10, .int .i64 (scIdx L (geta Fs k).pl)), (25, vf), (26, .int .i64 Fs.length), (27, .int .i64 k)]) a ∧ ((((0 ≤ k ∧ k < Fs.length) ∧ NoErr (fillAt S L Fs) k) ∧ q = !commonB (geta L (scIdx L (geta Fs k).pl)).ps (geta S k).ps) ∧ Below w0.heap.size w0 w ∧ FlB w g9 (geta Fs k))) No 9 (fun a w => Fr 71 [(6, .int .i64 (allE S L Fs))] a ∧ Below w0.heap.size w0 w) := by
  refine T3.leafN ?_
  rintro JS hS a w ⟨hpre, hW, ⟨fr, rfl, q0, q1, q2, q8, q9, q10, q25, q26, q27, _⟩⟩
  have hpp := Lib.hid hpre
  obtain ⟨⟨hk0, hk1⟩, _⟩ := hpre
  have hsn := hf.n
  have HW := Lib.hid hW
  have hbd : Below w.heap.size w w.drew := below_drewN (Below.refl _ _) 1
  have HW1 := Lib.hid (show Below w0.heap.size w0 w.drew ∧ FlB w.drew g9 (geta Fs k) from ⟨hW.1.trans (hbd.mono hW.1.size), hW.2.below hbd⟩)
  have hks : k < S.length := by have := hlen.out; omega
  have hiL := sc_mem hix
  have hi0 : 0 ≤ scIdx L (geta Fs k).pl := by omega
  have hRs := ((hs.below hW.1).below hbd).r
  have hRl := ((hl.below hW.1).below hbd).r
  have hpl := (((hl.below hW.1).below hbd).p _ (geta_mem hi0 hiL))
  have hps := (((hs.below hW.1).below hbd).p _ (geta_mem hk0 hks))
  obtain ⟨p1, c1, hv1⟩ := hs.r.shape
  subst hv1
  obtain ⟨p2, c2, hv2⟩ := hl.r.shape
  subst hv2
  obtain ⟨p3, c3, hv3⟩ := hf.r.shape
  subst hv3
  obtain ⟨b1, o1, rfl, hn1, hm1, hcs⟩ := Row.nonnil hRs (by omega)
  obtain ⟨b2, o2, rfl, hn2, hm2, hcl⟩ := Row.nonnil hRl (by omega)
  have t0 := Row.elAt encSl_length hcs hk0 hks 1 _ (by decide) rfl
  have t1 := Row.elAt encSc_length hcl hi0 hiL 1 _ (by decide) rfl
  have HC := Lib.hid (common_two _ _ _ _ w.drew hpl hps)
  obtain ⟨aa1, d1, hq1⟩ := hpl.r.shape
  obtain ⟨aa2, d2, hq2⟩ := hps.r.shape
  rw [hq1] at t1 HC
  rw [hq2] at t0 HC
  clear hcs hcl hRs hRl hs hl hf hW hbd hpl hps hq1 hq2 hix
  generalize hcq : commonB (geta L (scIdx L (geta Fs k).pl)).ps (geta S k).ps = cq at *
  generalize (geta L (scIdx L (geta Fs k).pl)).ps.length = m1 at *
  generalize (geta S k).ps.length = m2 at *
  generalize hixx : scIdx L (geta Fs k).pl = ix at *
  rw [fr_cfP, show fr 0 = _ from q0, show fr 1 = _ from q1, show fr 2 = _ from q2, show fr 8 = _ from q8, show fr 9 = _ from q9, show fr 10 = _ from q10, show fr 25 = _ from q25, show fr 26 = _ from q26, show fr 27 = _ from q27]
  clear q0 q1 q2 q8 q9 q10 q25 q26 q27
  conv => arg 2; whnf
  refine wp_region_mix (none) [(true, 0), (true, 1), (true, 5), (true, 6), (true, 2), (true, 7), (true, 3), (true, 8), (true, 4), (true, 9), (false, 10), (true, 11), (true, 12)] (by kernel_rfl) (by kernel_rfl) (by intro c a d v w h; cases d <;> exact h) ?_
  simp only [pickFlat, List.filterMap_cons, List.filterMap_nil, List.getElem?_cons_succ, List.getElem?_cons_zero, Option.map_some]
  have A0 := wof_at (w₁ := w.drew) (row := none) (a := ⟨b1, o1 + k.toNat * 2 + 1, none⟩) t0 (by simp)
  have A1 := wof_at (w₁ := w.drew) (row := none) (a := ⟨b2, o2 + ix.toNat * 5 + 1, none⟩) t1 (by simp)
  refine flat_hide (fun W hH hC hN hE => ?_)
  iterate 10 (refine hH.out _ _ _ _ (fun K hK => ?_); go_simp; refine hK _ ?_; clear hK K)
  refine hC.out _ _ _ _ (by first | rfl | go_simp) (fun K hK => ?_)
  simp only [bare]
  go_wp2_with fail
  refine HC.out.mono ?_
  rintro e w2 ⟨rfl, hb1⟩
  have HB1 := Lib.hid hb1
  have HR1 := Lib.hid (show Below w0.heap.size w0 w2 ∧ FlB w2 g9 (geta Fs k) from ⟨HW1.out.1.trans (hb1.mono HW1.out.1.size), HW1.out.2.below hb1⟩)
  clear hb1
  go_wp2_with fail
  refine hK.out _ _ (grown_of_below HB1.out) ?_
  clear hK K
  iterate 2 (refine hH.out _ _ _ _ (fun K hK => ?_); go_simp; refine hK _ ?_; clear hK K)
  refine hE.out _ _ ?_
  clear hH hC hN hE W
  show JS _ _
  refine hS _ _ ?_
  exact ⟨_, Fr.of _ rfl ⟨rfl, rfl, rfl, rfl, rfl, rfl, rfl, rfl, rfl, rfl, trivial⟩, ⟨hpp.out, rfl⟩, HR1.out⟩

set_option maxRecDepth 100000 in
set_option maxHeartbeats 1000000 in
theorem cf18 (w0 : World) (vs vl vf : Value) (S : List SlD) (L : List ScD) (Fs : List FlD) (hs : SlH w0 vs S) (hl : ScH w0 vl L) (hf : FlH w0 vf Fs) (hlen : Hid (Fs.length = S.length)) (r : ScRise L) (k : Int) (g9 : Nat) : T3 Try.prog (fun a w => (Below w0.heap.size w0 w ∧ FlB w g9 (geta Fs k)) ∧ Fr 71 [(0, vs), (1, vl), (2, vf), (8, .int .i64 k), (9, .pointer (some ⟨g9, 0, none⟩)), (10, .int .i64 (scIdx L (geta Fs k).pl)), (25, vf), (26, .int .i64 Fs.length), (27, .int .i64 k)] a) (sel [1, 1, 1, 0, 1, 4, 4, 1, 1, 0, 4, 1, 1, 1, 1, 4, 1, 3, 1, 3, 1, 2, 0] cfP) (fun a w => (Below w0.heap.size w0 w) ∧ Fr 71 [(6, .int .i64 10)] a) No 9 (fun a w => Fr 71 [(6, .int .i64 (allE S L Fs))] a ∧ Below w0.heap.size w0 w) := by
  refine T3.leaf ?_
  rintro Q JS JX JT K hS hK hX hE hT hR a w ⟨hW, ⟨fr, rfl, q0, q1, q2, q8, q9, q10, q25, q26, q27, _⟩⟩
  have HW := Lib.hid hW
  clear hW
  obtain ⟨p1, c1, hv1⟩ := hs.r.shape
  subst hv1
  obtain ⟨p2, c2, hv2⟩ := hl.r.shape
  subst hv2
  obtain ⟨p3, c3, hv3⟩ := hf.r.shape
  subst hv3
  generalize scIdx L (geta Fs k).pl = ix at *
  rw [fr_cfP, show fr 0 = _ from q0, show fr 1 = _ from q1, show fr 2 = _ from q2, show fr 8 = _ from q8, show fr 9 = _ from q9, show fr 10 = _ from q10, show fr 25 = _ from q25, show fr 26 = _ from q26, show fr 27 = _ from q27]
  clear q0 q1 q2 q8 q9 q10 q25 q26 q27
  conv => arg 2; whnf
  go_wp2_with fail
  refine Met.intro (hS _ _ ?_)
  exact ⟨HW.out.1, Fr.of _ rfl ⟨rfl, trivial⟩⟩

set_option maxRecDepth 100000 in
set_option maxHeartbeats 1000000 in
theorem cf20 (w0 : World) (vs vl vf : Value) (S : List SlD) (L : List ScD) (Fs : List FlD) (hs : SlH w0 vs S) (hl : ScH w0 vl L) (hf : FlH w0 vf Fs) : T3 Try.prog (fun a w => (Below w0.heap.size w0 w) ∧ Fr 71 [] a) (sel [1, 1, 1, 1, 0] cfP) (fun a w => (Below w0.heap.size w0 w) ∧ Fr 71 [(6, .int .i64 0)] a) No 9 (fun a w => Fr 71 [(6, .int .i64 (allE S L Fs))] a ∧ Below w0.heap.size w0 w) := by
  refine T3.leaf ?_
  rintro Q JS JX JT K hS hK hX hE hT hR a w ⟨hW, ⟨fr, rfl, _⟩⟩
  have HW := Lib.hid hW
  clear hW
  rw [fr_cfP]
  conv => arg 2; whnf
  go_wp2_with fail
  refine Met.intro (hS _ _ ?_)
  exact ⟨HW.out, Fr.of _ rfl ⟨rfl, trivial⟩⟩

set_option maxRecDepth 100000 in
set_option maxHeartbeats 1000000 in
theorem cfb (w0 : World) (vs vl vf : Value) (S : List SlD) (L : List ScD) (Fs : List FlD) (hs : SlH w0 vs S) (hl : ScH w0 vl L) (hf : FlH w0 vf Fs) (hlen : Hid (Fs.length = S.length)) (r : ScRise L) (k : Int) (hz0 : ssE S L = 0) : T3 Try.prog (fun a w => ((0 ≤ k ∧ k < Fs.length) ∧ NoErr (fillAt S L Fs) k) ∧ (Below w0.heap.size w0 w) ∧ Fr 71 [(0, vs), (1, vl), (2, vf), (25, vf), (26, .int .i64 Fs.length), (27, .int .i64 k)] a) (sel [1, 1, 1, 0, 1, 4, 4, 1, 1, 0] cfP) (fun a w => ((0 ≤ k ∧ k < Fs.length) ∧ NoErr (fillAt S L Fs) (k + 1)) ∧ (Below w0.heap.size w0 w) ∧ Fr 71 [(0, vs), (1, vl), (2, vf), (25, vf), (26, .int .i64 Fs.length), (27, .int .i64 k)] a) No 100 (fun a w => Fr 71 [(6, .int .i64 (allE S L Fs))] a ∧ Below w0.heap.size w0 w) := by
  refine T3.blockX (c := (sel [1, 1, 1, 0, 1, 4, 4, 1, 1, 0, 4] cfP)) ?_
  refine T3.seq (s := (sel [1, 1, 1, 0, 1, 4, 4, 1, 1, 0, 4, 0] cfP)) (c := (sel [1, 1, 1, 0, 1, 4, 4, 1, 1, 0, 4, 1] cfP)) ((cf8 w0 vs vl vf S L Fs hs hl hf hlen r k).noX) (T3.ex fun g9 => ?_)
  refine T3.seq (s := (sel [1, 1, 1, 0, 1, 4, 4, 1, 1, 0, 4, 1, 0] cfP)) (c := (sel [1, 1, 1, 0, 1, 4, 4, 1, 1, 0, 4, 1, 1] cfP)) (S := fun a w => ((geta Fs k).sl = (geta S k).key) ∧ ((0 ≤ k ∧ k < Fs.length) ∧ NoErr (fillAt S L Fs) k) ∧ (Below w0.heap.size w0 w ∧ FlB w g9 (geta Fs k)) ∧ Fr 71 [(0, vs), (1, vl), (2, vf), (8, .int .i64 k), (9, .pointer (some ⟨g9, 0, none⟩)), (25, vf), (26, .int .i64 Fs.length), (27, .int .i64 k)] a) ?_ (T3.pure fun he => ?_)
  · refine T3.test (s := (sel [1, 1, 1, 0, 1, 4, 4, 1, 1, 0, 4, 1, 0, 0] cfP)) (x := (sel [1, 1, 1, 0, 1, 4, 4, 1, 1, 0, 4, 1, 0, 1, 2] cfP)) (y := .skip) (C := fun q => (((0 ≤ k ∧ k < Fs.length) ∧ NoErr (fillAt S L Fs) k) ∧ q = decide ((geta Fs k).sl ≠ (geta S k).key))) (W := fun w => Below w0.heap.size w0 w ∧ FlB w g9 (geta Fs k)) (by decide) ((cf9 w0 vs vl vf S L Fs hs hl hf hlen r k g9).noX) ?_ (T3.skip ?_)
    · refine T3.seq (s := (sel [1, 1, 1, 0, 1, 4, 4, 1, 1, 0, 4, 1, 0, 1, 2, 0] cfP)) (c := .ret) (t3_seqx (p := ((0 ≤ k ∧ k < Fs.length) ∧ NoErr (fillAt S L Fs) k) ∧ (geta Fs k).sl ≠ (geta S k).key) ((cf10 w0 vs vl vf S L Fs hs hl hf hlen r k g9).noX) ?_) (T3.ret ?_)
      · rintro a w ⟨hF, ⟨hk, hq⟩, hW⟩
        exact ⟨⟨hk, of_decide_eq_true hq.symm⟩, hW, hF.tail⟩
      · rintro a w ⟨⟨hk, hne⟩, hW, hF⟩
        have e : fillAt S L Fs k = 8 := fa_slot hne
        exact ⟨by rw [allE_fills hz0, fillsE_hit hlen.out hk.1.1 hk.1.2 hk.2 (by rw [e]; decide), e]; exact hF, hW⟩
    · rintro a w ⟨⟨hk, hq⟩, hW, hF⟩
      exact ⟨by simpa using hq.symm, hk, hW, hF⟩
  refine T3.seq (s := (sel [1, 1, 1, 0, 1, 4, 4, 1, 1, 0, 4, 1, 1, 0] cfP)) (c := (sel [1, 1, 1, 0, 1, 4, 4, 1, 1, 0, 4, 1, 1, 1] cfP)) (S := fun a w => ((geta Fs k).pl ≠ ByteArray.empty) ∧ ((0 ≤ k ∧ k < Fs.length) ∧ NoErr (fillAt S L Fs) k) ∧ (Below w0.heap.size w0 w ∧ FlB w g9 (geta Fs k)) ∧ Fr 71 [(0, vs), (1, vl), (2, vf), (8, .int .i64 k), (9, .pointer (some ⟨g9, 0, none⟩)), (25, vf), (26, .int .i64 Fs.length), (27, .int .i64 k)] a) ?_ (T3.pure fun hne0 => ?_)
  · refine T3.test (s := (sel [1, 1, 1, 0, 1, 4, 4, 1, 1, 0, 4, 1, 1, 0, 0] cfP)) (x := .exit 1) (y := .skip) (C := fun q => (((0 ≤ k ∧ k < Fs.length) ∧ NoErr (fillAt S L Fs) k) ∧ q = decide ((geta Fs k).pl = ByteArray.empty))) (W := fun w => Below w0.heap.size w0 w ∧ FlB w g9 (geta Fs k)) (by decide) ((cf11 w0 vs vl vf S L Fs hs hl hf hlen r k g9).noX) (T3.exit ?_) (T3.skip ?_)
    · rintro a w ⟨hF, ⟨hk, hq⟩, hW⟩
      exact ⟨⟨hk.1, hk.2.step (fa_none he (of_decide_eq_true hq.symm))⟩, hW.1, hF.sub (by simp)⟩
    · rintro a w ⟨⟨hk, hq⟩, hW, hF⟩
      exact ⟨of_decide_eq_false hq.symm, hk, hW, hF⟩
  refine T3.seq (s := (sel [1, 1, 1, 0, 1, 4, 4, 1, 1, 0, 4, 1, 1, 1, 0] cfP)) (c := (sel [1, 1, 1, 0, 1, 4, 4, 1, 1, 0, 4, 1, 1, 1, 1] cfP)) ((cf12 w0 vs vl vf S L Fs hs hl hf hlen r k g9).noX) ?_
  refine T3.block (id' := 2) (c := (sel [1, 1, 1, 0, 1, 4, 4, 1, 1, 0, 4, 1, 1, 1, 1, 4] cfP)) (by decide) ?_
  refine T3.test (s := (sel [1, 1, 1, 0, 1, 4, 4, 1, 1, 0, 4, 1, 1, 1, 1, 4, 0] cfP)) (x := (sel [1, 1, 1, 0, 1, 4, 4, 1, 1, 0, 4, 1, 1, 1, 1, 4, 1, 2] cfP)) (y := (sel [1, 1, 1, 0, 1, 4, 4, 1, 1, 0, 4, 1, 1, 1, 1, 4, 1, 3] cfP)) (C := fun q => (((0 ≤ k ∧ k < Fs.length) ∧ NoErr (fillAt S L Fs) k) ∧ q = decide ((scIdx L (geta Fs k).pl) < 0))) (W := fun w => Below w0.heap.size w0 w ∧ FlB w g9 (geta Fs k)) (by decide) ((cf13 w0 vs vl vf S L Fs hs hl hf hlen r k g9).noX) ?_ ?_
  · refine T3.seq (s := (sel [1, 1, 1, 0, 1, 4, 4, 1, 1, 0, 4, 1, 1, 1, 1, 4, 1, 2, 0] cfP)) (c := .ret) (t3_seqx (p := ((0 ≤ k ∧ k < Fs.length) ∧ NoErr (fillAt S L Fs) k) ∧ (scIdx L (geta Fs k).pl) < 0) ((cf14 w0 vs vl vf S L Fs hs hl hf hlen r k g9).noX) ?_) (T3.ret ?_)
    · rintro a w ⟨hF, ⟨hk, hq⟩, hW⟩
      exact ⟨⟨hk, of_decide_eq_true hq.symm⟩, hW, hF.tail⟩
    · rintro a w ⟨⟨hk, hne⟩, hW, hF⟩
      have e : fillAt S L Fs k = 8 := fa_no he hne0 hne
      exact ⟨by rw [allE_fills hz0, fillsE_hit hlen.out hk.1.1 hk.1.2 hk.2 (by rw [e]; decide), e]; exact hF, hW⟩
  refine T3.pre (R := fun a w => (¬ (scIdx L (geta Fs k).pl) < 0) ∧ ((0 ≤ k ∧ k < Fs.length) ∧ NoErr (fillAt S L Fs) k) ∧ (Below w0.heap.size w0 w ∧ FlB w g9 (geta Fs k)) ∧ Fr 71 [(0, vs), (1, vl), (2, vf), (8, .int .i64 k), (9, .pointer (some ⟨g9, 0, none⟩)), (10, .int .i64 (scIdx L (geta Fs k).pl)), (25, vf), (26, .int .i64 Fs.length), (27, .int .i64 k)] a) (T3.pure fun hix => ?_) (fun a w q => ⟨of_decide_eq_false q.1.2.symm, q.1.1, q.2.1, q.2.2⟩)
  refine T3.test (s := (sel [1, 1, 1, 0, 1, 4, 4, 1, 1, 0, 4, 1, 1, 1, 1, 4, 1, 3, 0] cfP)) (x := (sel [1, 1, 1, 0, 1, 4, 4, 1, 1, 0, 4, 1, 1, 1, 1, 4, 1, 3, 1, 2] cfP)) (y := (sel [1, 1, 1, 0, 1, 4, 4, 1, 1, 0, 4, 1, 1, 1, 1, 4, 1, 3, 1, 3] cfP)) (C := fun q => (((0 ≤ k ∧ k < Fs.length) ∧ NoErr (fillAt S L Fs) k) ∧ q = fillDup Fs k)) (W := fun w => Below w0.heap.size w0 w ∧ FlB w g9 (geta Fs k)) (by decide) ((cf15 w0 vs vl vf S L Fs hs hl hf hlen r k g9).noX) ?_ ?_
  · refine T3.seq (s := (sel [1, 1, 1, 0, 1, 4, 4, 1, 1, 0, 4, 1, 1, 1, 1, 4, 1, 3, 1, 2, 0] cfP)) (c := .ret) (t3_seqx (p := ((0 ≤ k ∧ k < Fs.length) ∧ NoErr (fillAt S L Fs) k) ∧ fillDup Fs k = true) ((cf16 w0 vs vl vf S L Fs hs hl hf hlen r k g9).noX) ?_) (T3.ret ?_)
    · rintro a w ⟨hF, ⟨hk, hq⟩, hW⟩
      exact ⟨⟨hk, hq.symm⟩, hW, hF.tail⟩
    · rintro a w ⟨⟨hk, hne⟩, hW, hF⟩
      have e : fillAt S L Fs k = 6 := fa_dup he hne0 hix hne
      exact ⟨by rw [allE_fills hz0, fillsE_hit hlen.out hk.1.1 hk.1.2 hk.2 (by rw [e]; decide), e]; exact hF, hW⟩
  refine T3.pre (R := fun a w => (fillDup Fs k = false) ∧ ((0 ≤ k ∧ k < Fs.length) ∧ NoErr (fillAt S L Fs) k) ∧ (Below w0.heap.size w0 w ∧ FlB w g9 (geta Fs k)) ∧ Fr 71 [(0, vs), (1, vl), (2, vf), (8, .int .i64 k), (9, .pointer (some ⟨g9, 0, none⟩)), (10, .int .i64 (scIdx L (geta Fs k).pl)), (25, vf), (26, .int .i64 Fs.length), (27, .int .i64 k)] a) (T3.pure fun hdu => ?_) (fun a w q => ⟨q.1.2.symm, q.1.1, q.2.1, q.2.2⟩)
  refine T3.test (s := (sel [1, 1, 1, 0, 1, 4, 4, 1, 1, 0, 4, 1, 1, 1, 1, 4, 1, 3, 1, 3, 0] cfP)) (x := (sel [1, 1, 1, 0, 1, 4, 4, 1, 1, 0, 4, 1, 1, 1, 1, 4, 1, 3, 1, 3, 1, 2] cfP)) (y := .skip) (C := fun q => (((0 ≤ k ∧ k < Fs.length) ∧ NoErr (fillAt S L Fs) k) ∧ q = !commonB (geta L (scIdx L (geta Fs k).pl)).ps (geta S k).ps)) (W := fun w => Below w0.heap.size w0 w ∧ FlB w g9 (geta Fs k)) (by decide) ((cf17 w0 vs vl vf S L Fs hs hl hf hlen r k g9 hix).noX) ?_ (T3.skip ?_)
  · refine T3.seq (s := (sel [1, 1, 1, 0, 1, 4, 4, 1, 1, 0, 4, 1, 1, 1, 1, 4, 1, 3, 1, 3, 1, 2, 0] cfP)) (c := .ret) (t3_seqx (p := ((0 ≤ k ∧ k < Fs.length) ∧ NoErr (fillAt S L Fs) k) ∧ commonB (geta L (scIdx L (geta Fs k).pl)).ps (geta S k).ps = false) ((cf18 w0 vs vl vf S L Fs hs hl hf hlen r k g9).noX) ?_) (T3.ret ?_)
    · rintro a w ⟨hF, ⟨hk, hq⟩, hW⟩
      exact ⟨⟨hk, by simpa using hq.symm⟩, hW, hF.tail⟩
    · rintro a w ⟨⟨hk, hne⟩, hW, hF⟩
      have e : fillAt S L Fs k = 10 := by rw [fa_fit he hne0 hix hdu, if_pos hne]
      exact ⟨by rw [allE_fills hz0, fillsE_hit hlen.out hk.1.1 hk.1.2 hk.2 (by rw [e]; decide), e]; exact hF, hW⟩
  · rintro a w ⟨⟨hk, hq⟩, hW, hF⟩
    refine ⟨⟨hk.1, hk.2.step ?_⟩, hW.1, hF.sub (by simp)⟩
    rw [fa_fit he hne0 hix hdu, if_neg (by simpa using hq.symm)]

def cfLI (w0 : World) (vs vl vf : Value) (S : List SlD) (L : List ScD) (Fs : List FlD) (hs : SlH w0 vs S) (hl : ScH w0 vl L) (hf : FlH w0 vf Fs) (hlen : Hid (Fs.length = S.length)) (r : ScRise L) (hz0 : ssE S L = 0) (k : Int) (a : Act) (w : World) : Prop := (0 ≤ k ∧ k ≤ Fs.length) ∧ (NoErr (fillAt S L Fs) k) ∧ (Below w0.heap.size w0 w) ∧ Fr 71 [(0, vs), (1, vl), (2, vf), (25, vf), (26, .int .i64 Fs.length), (27, .int .i64 k)] a
set_option maxRecDepth 100000 in
set_option maxHeartbeats 1000000 in
theorem cfLt (w0 : World) (vs vl vf : Value) (S : List SlD) (L : List ScD) (Fs : List FlD) (hs : SlH w0 vs S) (hl : ScH w0 vl L) (hf : FlH w0 vf Fs) (hlen : Hid (Fs.length = S.length)) (r : ScRise L) (hz0 : ssE S L = 0) (k : Int) : T3 Try.prog (fun a w => cfLI w0 vs vl vf S L Fs hs hl hf hlen r hz0 k a w) (sel [1, 1, 1, 0, 1, 4, 4, 0] cfP) (fun a w => ∃ q, Fr 71 ((28, .bool q) :: [(27, .int .i64 k)]) a ∧ ((q = true ↔ k < Fs.length) ∧ cfLI w0 vs vl vf S L Fs hs hl hf hlen r hz0 k a w)) No 9 (fun a w => Fr 71 [(6, .int .i64 (allE S L Fs))] a ∧ Below w0.heap.size w0 w) := by
  refine T3.leaf ?_
  rintro Q JS JX JT K hS hK hX hE hT hR a w ⟨hk, hpre, hW, ⟨fr, rfl, q0, q1, q2, q25, q26, q27, _⟩⟩
  have hln := hf.n
  rw [fr_cfP, show fr 0 = _ from q0, show fr 1 = _ from q1, show fr 2 = _ from q2, show fr 25 = _ from q25, show fr 26 = _ from q26, show fr 27 = _ from q27]
  clear q0 q1 q2 q25 q26 q27
  conv => arg 2; whnf
  by_cases hlt : k < Fs.length
  · go_wp2_with fail
    refine Met.intro (hS _ _ ?_)
    exact ⟨true, Fr.of _ rfl ⟨rfl, rfl, trivial⟩, ⟨fun _ => hlt, fun _ => rfl⟩, hk, hpre, hW, Fr.of _ rfl ⟨rfl, rfl, rfl, rfl, rfl, rfl, trivial⟩⟩
  · have hpb : decide (k < (Fs.length : Int)) = false := by simp; omega
    go_wp2_with fail
    refine Met.intro (hS _ _ ?_)
    exact ⟨false, Fr.of _ rfl ⟨rfl, rfl, trivial⟩, ⟨(fun h => by cases h), fun h => absurd h (by omega)⟩, hk, hpre, hW, Fr.of _ rfl ⟨rfl, rfl, rfl, rfl, rfl, rfl, trivial⟩⟩

set_option maxRecDepth 100000 in
set_option maxHeartbeats 1000000 in
theorem cfLn (w0 : World) (vs vl vf : Value) (S : List SlD) (L : List ScD) (Fs : List FlD) (hs : SlH w0 vs S) (hl : ScH w0 vl L) (hf : FlH w0 vf Fs) (hlen : Hid (Fs.length = S.length)) (r : ScRise L) (hz0 : ssE S L = 0) (k : Int) : T3 Try.prog (fun a w => (0 ≤ k ∧ k < Fs.length) ∧ (NoErr (fillAt S L Fs) (k + 1)) ∧ (Below w0.heap.size w0 w) ∧ Fr 71 [(0, vs), (1, vl), (2, vf), (25, vf), (26, .int .i64 Fs.length), (27, .int .i64 k)] a) (sel [1, 1, 1, 0, 1, 4, 4, 1, 1, 1] cfP) (fun a w => cfLI w0 vs vl vf S L Fs hs hl hf hlen r hz0 (k + 1) a w) No 9 (fun a w => Fr 71 [(6, .int .i64 (allE S L Fs))] a ∧ Below w0.heap.size w0 w) := by
  refine T3.leaf ?_
  rintro Q JS JX JT K hS hK hX hE hT hR a w ⟨hk, hpre, hW, ⟨fr, rfl, q0, q1, q2, q25, q26, q27, _⟩⟩
  obtain ⟨hk0, hk1⟩ := hk
  have hln := hf.n
  rw [fr_cfP, show fr 0 = _ from q0, show fr 1 = _ from q1, show fr 2 = _ from q2, show fr 25 = _ from q25, show fr 26 = _ from q26, show fr 27 = _ from q27]
  clear q0 q1 q2 q25 q26 q27
  conv => arg 2; whnf
  go_wp2_with fail
  refine Met.intro (hS _ _ ?_)
  exact ⟨⟨by omega, by omega⟩, hpre, hW, Fr.of _ rfl ⟨rfl, rfl, rfl, rfl, rfl, rfl, trivial⟩⟩

set_option maxRecDepth 100000 in
set_option maxHeartbeats 1000000 in
theorem cfLloop (w0 : World) (vs vl vf : Value) (S : List SlD) (L : List ScD) (Fs : List FlD) (hs : SlH w0 vs S) (hl : ScH w0 vl L) (hf : FlH w0 vf Fs) (hlen : Hid (Fs.length = S.length)) (r : ScRise L) (hz0 : ssE S L = 0) : T3 Try.prog (fun a w => cfLI w0 vs vl vf S L Fs hs hl hf hlen r hz0 0 a w) (sel [1, 1, 1, 0, 1] cfP) (fun a w => (NoErr (fillAt S L Fs) Fs.length) ∧ (Below w0.heap.size w0 w) ∧ Fr 71 [] a) No 9 (fun a w => Fr 71 [(6, .int .i64 (allE S L Fs))] a ∧ Below w0.heap.size w0 w) := by
  refine T3.loop (c := (sel [1, 1, 1, 0, 1, 4, 4] cfP)) (fun ng_ a w => ∃ k : Int, (ng_ : Int) = Fs.length - k ∧ cfLI w0 vs vl vf S L Fs hs hl hf hlen r hz0 k a w) (fun a w h => ⟨(Fs.length : Int).toNat, 0, by have := h.1.2; omega, h⟩) (fun ng_ => T3.ex fun k => T3.pure fun hng_ => ?_)
  refine T3.seq (s := (sel [1, 1, 1, 0, 1, 4, 4, 0] cfP)) (c := (sel [1, 1, 1, 0, 1, 4, 4, 1] cfP)) ((cfLt w0 vs vl vf S L Fs hs hl hf hlen r hz0 k).noX) ?_
  refine T3.seq (s := (sel [1, 1, 1, 0, 1, 4, 4, 1, 0] cfP)) (c := (sel [1, 1, 1, 0, 1, 4, 4, 1, 1] cfP)) (S := fun a w => (0 ≤ k ∧ k < Fs.length) ∧ (NoErr (fillAt S L Fs) k) ∧ (Below w0.heap.size w0 w) ∧ Fr 71 [(0, vs), (1, vl), (2, vf), (25, vf), (26, .int .i64 Fs.length), (27, .int .i64 k)] a) ?_ (T3.seq (s := (sel [1, 1, 1, 0, 1, 4, 4, 1, 1, 0] cfP)) (c := (sel [1, 1, 1, 0, 1, 4, 4, 1, 1, 1] cfP)) (S := fun a w => (0 ≤ k ∧ k < Fs.length) ∧ (NoErr (fillAt S L Fs) (k + 1)) ∧ (Below w0.heap.size w0 w) ∧ Fr 71 [(0, vs), (1, vl), (2, vf), (25, vf), (26, .int .i64 Fs.length), (27, .int .i64 k)] a) (T3.noX (T3.mono (R' := fun a w => (0 ≤ k ∧ k < Fs.length) ∧ (NoErr (fillAt S L Fs) k) ∧ (Below w0.heap.size w0 w) ∧ Fr 71 [(0, vs), (1, vl), (2, vf), (25, vf), (26, .int .i64 Fs.length), (27, .int .i64 k)] a) (S' := fun a w => (0 ≤ k ∧ k < Fs.length) ∧ (NoErr (fillAt S L Fs) (k + 1)) ∧ (Below w0.heap.size w0 w) ∧ Fr 71 [(0, vs), (1, vl), (2, vf), (25, vf), (26, .int .i64 Fs.length), (27, .int .i64 k)] a) (cfb w0 vs vl vf S L Fs hs hl hf hlen r k hz0) (fun a w ⟨hk, hp, hI⟩ => ⟨⟨hk, hp⟩, hI⟩) (fun a w ⟨⟨hk, hp⟩, hI⟩ => ⟨hk, hp, hI⟩) (fun _ _ q => q) (fun _ _ q => q))) ?_)
  · refine T3.cond (o := .tmp 28) (x := .skip) (y := .exit 0) (fun a w => k < Fs.length ∧ cfLI w0 vs vl vf S L Fs hs hl hf hlen r hz0 k a w) (fun a w => ¬ k < Fs.length ∧ cfLI w0 vs vl vf S L Fs hs hl hf hlen r hz0 k a w) ?_ (T3.skip ?_) (T3.exit ?_)
    · rintro a w ⟨q, hF, hq, hI⟩
      have he := hF.eval 28 (by decide) (v := .bool q) (by simp)
      cases q
      · exact .inr ⟨he, (fun h => by have := hq.2 h; cases this), hI⟩
      · exact .inl ⟨he, hq.1 rfl, hI⟩
    · rintro a w ⟨hlt, hk, hI⟩
      exact ⟨⟨hk.1, hlt⟩, hI⟩
    · rintro a w ⟨hlt, hk, hI⟩
      obtain rfl : k = Fs.length := by omega
      obtain ⟨hn, hW, hF⟩ := hI
      exact ⟨hn, hW, hF.sub (by simp)⟩
  · intro a w hx
    have hk := hx.1
    exact (((cfLn w0 vs vl vf S L Fs hs hl hf hlen r hz0 k).noX).post (fun a w q => ⟨ng_ - 1, by omega, k + 1, by omega, q⟩)) a w hx
set_option maxRecDepth 100000 in
set_option maxHeartbeats 1000000 in
theorem cf_all (w0 : World) (vs vl vf : Value) (S : List SlD) (L : List ScD) (Fs : List FlD) (hs : SlH w0 vs S) (hl : ScH w0 vl L) (hf : FlH w0 vf Fs) : T3 Try.prog (fun a w => (Below w0.heap.size w0 w) ∧ Fr 71 [(0, vs), (1, vl), (2, vf)] a) cfP No No 9 (fun a w => Fr 71 [(6, .int .i64 (allE S L Fs))] a ∧ Below w0.heap.size w0 w) := by
  refine T3.seq (s := (sel [0] cfP)) (c := (sel [1] cfP)) (cf0 w0 vs vl vf S L Fs hs hl hf) ?_
  refine T3.seq (s := (sel [1, 0] cfP)) (c := (sel [1, 1] cfP)) (S := fun a w => (ssE S L = 0) ∧ (Below w0.heap.size w0 w) ∧ Fr 71 [(0, vs), (1, vl), (2, vf)] a) ?_ (T3.pure fun hz0 => ?_)
  · refine T3.seq (s := (sel [1, 0, 0] cfP)) (c := (sel [1, 0, 1] cfP)) (cf1 w0 vs vl vf S L Fs hs hl hf) ?_
    refine T3.test (s := (sel [1, 0, 1, 0] cfP)) (x := (sel [1, 0, 1, 1, 2] cfP)) (y := .skip) (C := fun q => (q = (ssE S L != 0))) (W := fun w => Below w0.heap.size w0 w) (by decide) (cf2 w0 vs vl vf S L Fs hs hl hf) ?_ (T3.skip ?_)
    · refine T3.seq (s := (sel [1, 0, 1, 1, 2, 0] cfP)) (c := .ret) (t3_seqx (p := ssE S L ≠ 0) (cf3 w0 vs vl vf S L Fs hs hl hf) ?_) (T3.ret ?_)
      · rintro a w ⟨hF, hq, hW⟩
        exact ⟨by have := hq.symm; simpa using this, hW, hF.tail⟩
      · rintro a w ⟨hp, hW, hF⟩
        exact ⟨by rw [allE_ss hp]; exact hF, hW⟩
    · rintro a w ⟨hq, hW, hF⟩
      exact ⟨by have := hq.symm; simpa using this, hW, hF.sub (by simp)⟩
  refine T3.seq (s := (sel [1, 1, 0] cfP)) (c := (sel [1, 1, 1] cfP)) (S := fun a w => (Fs.length = S.length) ∧ (Below w0.heap.size w0 w) ∧ Fr 71 [(0, vs), (1, vl), (2, vf)] a) ?_ (T3.pure fun hlen => ?_)
  · refine T3.test (s := (sel [1, 1, 0, 0] cfP)) (x := (sel [1, 1, 0, 1, 2] cfP)) (y := .skip) (C := fun q => (q = ((Fs.length : Int) != (S.length : Int)))) (W := fun w => Below w0.heap.size w0 w) (by decide) (cf4 w0 vs vl vf S L Fs hs hl hf) ?_ (T3.skip ?_)
    · refine T3.seq (s := (sel [1, 1, 0, 1, 2, 0] cfP)) (c := .ret) (t3_seqx (p := Fs.length ≠ S.length) (cf5 w0 vs vl vf S L Fs hs hl hf) ?_) (T3.ret ?_)
      · rintro a w ⟨hF, hq, hW⟩
        exact ⟨by have := hq.symm; simp at this; omega, hW, hF.tail⟩
      · rintro a w ⟨hp, hW, hF⟩
        exact ⟨by rw [allE_fills hz0, fillsE_len hp]; exact hF, hW⟩
    · rintro a w ⟨hq, hW, hF⟩
      exact ⟨by have := hq.symm; simp at this; omega, hW, hF⟩
  refine T3.seq (s := (sel [1, 1, 1, 0] cfP)) (c := (sel [1, 1, 1, 1] cfP)) (T3.seq (s := (sel [1, 1, 1, 0, 0] cfP)) (c := (sel [1, 1, 1, 0, 1] cfP)) (cf6 w0 vs vl vf S L Fs hs hl hf (Lib.hid hlen) (ss_rise hz0)) (cfLloop w0 vs vl vf S L Fs hs hl hf (Lib.hid hlen) (ss_rise hz0) hz0)) (T3.pure fun hn => ?_)
  refine T3.seq (s := (sel [1, 1, 1, 1, 0] cfP)) (c := .ret) (cf20 w0 vs vl vf S L Fs hs hl hf) (T3.ret ?_)
  rintro a w ⟨hW, hF⟩
  exact ⟨by rw [allE_fills hz0, fillsE_ok hlen hn]; exact hF, hW⟩

set_option maxRecDepth 100000 in
set_option maxHeartbeats 1000000 in
theorem fills_prog (w0 : World) (vs vl vf : Value) (S : List SlD) (L : List ScD) (Fs : List FlD) (hs : SlH w0 vs S) (hl : ScH w0 vl L) (hf : FlH w0 vf Fs) : Calls Try.prog 42 #[vs, vl, vf] w0 fun e w' => e = .returned (.int .i64 (allE S L Fs)) ∧ Below w0.heap.size w0 w' := by
  have hall := cf_all w0 vs vl vf S L Fs hs hl hf
  go_enter Try.func42, Try.ntmps42
  refine T3.done (s := cfP) hall ⟨Below.refl _ _, Fr.of _ rfl ⟨rfl, rfl, rfl, trivial⟩⟩ ?_
  rintro a w ⟨⟨fr, rfl, q6, _⟩, hw⟩
  rw [fr_cfP, show fr 6 = _ from q6]
  go_ret
  exact ⟨rfl, hw⟩
noncomputable def ffR : Code := (Try.f10.body).getD .skip
set_option maxRecDepth 100000 in
theorem fr_ffR (f : Nat → Value) : frame 60 f = ⟨#[f 0, f 1, f 2, f 3, f 4, f 5, f 6, f 7, f 8, f 9, f 10, f 11, f 12, f 13, f 14, f 15, f 16, f 17, f 18, f 19, f 20, f 21, f 22, f 23, f 24, f 25, f 26, f 27, f 28, f 29, f 30, f 31, f 32, f 33, f 34, f 35, f 36, f 37, f 38, f 39, f 40, f 41, f 42, f 43, f 44, f 45, f 46, f 47, f 48, f 49, f 50, f 51, f 52, f 53, f 54, f 55, f 56, f 57, f 58, f 59], []⟩ := by rfl
set_option maxRecDepth 100000 in
set_option maxHeartbeats 1000000 in
theorem ff0 (w0 : World) (vs vl vf : Value) (S : List SlD) (L : List ScD) (Fs : List FlD) (hs : SlH w0 vs S) (hl : ScH w0 vl L) (hf : FlH w0 vf Fs) : T3 Try.prog (fun a w => (Below w0.heap.size w0 w) ∧ Fr 60 [(0, vs), (1, vl), (2, vf)] a) (sel [0] ffR) (fun a w => (Below w0.heap.size w0 w) ∧ Fr 60 [(0, vs), (1, vl), (2, vf)] a) No 9 (fun a w => Fr 60 [(6, .int .i64 (fillsE S L Fs))] a ∧ Below w0.heap.size w0 w) := by
  refine T3.leaf ?_
  rintro Q JS JX JT K hS hK hX hE hT hR a w ⟨hW, ⟨fr, rfl, q0, q1, q2, _⟩⟩
  have HW := Lib.hid hW
  have hsn := hf.n
  have hssn := hs.n
  obtain ⟨p1, c1, hv1⟩ := hs.r.shape
  subst hv1
  obtain ⟨p2, c2, hv2⟩ := hl.r.shape
  subst hv2
  obtain ⟨p3, c3, hv3⟩ := hf.r.shape
  subst hv3
  clear hW
  rw [fr_ffR, show fr 0 = _ from q0, show fr 1 = _ from q1, show fr 2 = _ from q2]
  clear q0 q1 q2
  conv => arg 2; whnf
  go_wp2_with fail
  refine Met.intro (hS _ _ ?_)
  exact ⟨HW.out, Fr.of _ rfl ⟨rfl, rfl, rfl, trivial⟩⟩

set_option maxRecDepth 100000 in
set_option maxHeartbeats 1000000 in
theorem ff4 (w0 : World) (vs vl vf : Value) (S : List SlD) (L : List ScD) (Fs : List FlD) (hs : SlH w0 vs S) (hl : ScH w0 vl L) (hf : FlH w0 vf Fs) : T3 Try.prog (fun a w => (Below w0.heap.size w0 w) ∧ Fr 60 [(0, vs), (1, vl), (2, vf)] a) (sel [1, 0, 0] ffR) (fun a w => ∃ q, Fr 60 ((14, .bool q) :: [(0, vs), (1, vl), (2, vf)]) a ∧ ((q = ((Fs.length : Int) != (S.length : Int))) ∧ Below w0.heap.size w0 w)) No 9 (fun a w => Fr 60 [(6, .int .i64 (fillsE S L Fs))] a ∧ Below w0.heap.size w0 w) := by
  refine T3.leaf ?_
  rintro Q JS JX JT K hS hK hX hE hT hR a w ⟨hW, ⟨fr, rfl, q0, q1, q2, _⟩⟩
  have HW := Lib.hid hW
  have hsn := hf.n
  have hssn := hs.n
  obtain ⟨p1, c1, hv1⟩ := hs.r.shape
  subst hv1
  obtain ⟨p2, c2, hv2⟩ := hl.r.shape
  subst hv2
  obtain ⟨p3, c3, hv3⟩ := hf.r.shape
  subst hv3
  clear hW
  generalize hq : ((Fs.length : Int) != (S.length : Int)) = q at *
  rw [fr_ffR, show fr 0 = _ from q0, show fr 1 = _ from q1, show fr 2 = _ from q2]
  clear q0 q1 q2
  conv => arg 2; whnf
  go_wp2_with fail
  refine Met.intro (hS _ _ ?_)
  exact ⟨_, Fr.of _ rfl ⟨rfl, rfl, rfl, rfl, trivial⟩, rfl, HW.out⟩

set_option maxRecDepth 100000 in
set_option maxHeartbeats 1000000 in
theorem ff5 (w0 : World) (vs vl vf : Value) (S : List SlD) (L : List ScD) (Fs : List FlD) (hs : SlH w0 vs S) (hl : ScH w0 vl L) (hf : FlH w0 vf Fs) : T3 Try.prog (fun a w => (Below w0.heap.size w0 w) ∧ Fr 60 [(0, vs), (1, vl), (2, vf)] a) (sel [1, 0, 1, 2, 0] ffR) (fun a w => (Below w0.heap.size w0 w) ∧ Fr 60 [(6, .int .i64 3)] a) No 9 (fun a w => Fr 60 [(6, .int .i64 (fillsE S L Fs))] a ∧ Below w0.heap.size w0 w) := by
  refine T3.leaf ?_
  rintro Q JS JX JT K hS hK hX hE hT hR a w ⟨hW, ⟨fr, rfl, q0, q1, q2, _⟩⟩
  have HW := Lib.hid hW
  have hsn := hf.n
  have hssn := hs.n
  obtain ⟨p1, c1, hv1⟩ := hs.r.shape
  subst hv1
  obtain ⟨p2, c2, hv2⟩ := hl.r.shape
  subst hv2
  obtain ⟨p3, c3, hv3⟩ := hf.r.shape
  subst hv3
  clear hW
  rw [fr_ffR, show fr 0 = _ from q0, show fr 1 = _ from q1, show fr 2 = _ from q2]
  clear q0 q1 q2
  conv => arg 2; whnf
  go_wp2_with fail
  refine Met.intro (hS _ _ ?_)
  exact ⟨HW.out, Fr.of _ rfl ⟨rfl, trivial⟩⟩

set_option maxRecDepth 100000 in
set_option maxHeartbeats 1000000 in
theorem ff6 (w0 : World) (vs vl vf : Value) (S : List SlD) (L : List ScD) (Fs : List FlD) (hs : SlH w0 vs S) (hl : ScH w0 vl L) (hf : FlH w0 vf Fs) (hlen : Hid (Fs.length = S.length)) : T3 Try.prog (fun a w => (Below w0.heap.size w0 w) ∧ Fr 60 [(0, vs), (1, vl), (2, vf)] a) (sel [1, 1, 0, 0] ffR) (fun a w => (0 ≤ (0 : Int) ∧ (0 : Int) ≤ Fs.length) ∧ (NoErr (fillAt S L Fs) 0) ∧ (Below w0.heap.size w0 w) ∧ Fr 60 [(0, vs), (1, vl), (2, vf), (15, vf), (16, .int .i64 Fs.length), (17, .int .i64 0)] a) No 9 (fun a w => Fr 60 [(6, .int .i64 (fillsE S L Fs))] a ∧ Below w0.heap.size w0 w) := by
  refine T3.leaf ?_
  rintro Q JS JX JT K hS hK hX hE hT hR a w ⟨hW, ⟨fr, rfl, q0, q1, q2, _⟩⟩
  have HW := Lib.hid hW
  have hsn := hf.n
  have hssn := hs.n
  obtain ⟨p1, c1, hv1⟩ := hs.r.shape
  subst hv1
  obtain ⟨p2, c2, hv2⟩ := hl.r.shape
  subst hv2
  obtain ⟨p3, c3, hv3⟩ := hf.r.shape
  subst hv3
  clear hW
  rw [fr_ffR, show fr 0 = _ from q0, show fr 1 = _ from q1, show fr 2 = _ from q2]
  clear q0 q1 q2
  conv => arg 2; whnf
  go_wp2_with fail
  refine Met.intro (hS _ _ ?_)
  exact ⟨⟨by omega, by omega⟩, NoErr.zero _, HW.out, Fr.of _ rfl ⟨rfl, rfl, rfl, rfl, rfl, rfl, trivial⟩⟩

set_option maxRecDepth 100000 in
set_option maxHeartbeats 1000000 in
theorem ff8 (w0 : World) (vs vl vf : Value) (S : List SlD) (L : List ScD) (Fs : List FlD) (hs : SlH w0 vs S) (hl : ScH w0 vl L) (hf : FlH w0 vf Fs) (hlen : Hid (Fs.length = S.length)) (k : Int) : T3 Try.prog (fun a w => ((0 ≤ k ∧ k < Fs.length) ∧ NoErr (fillAt S L Fs) k) ∧ (Below w0.heap.size w0 w) ∧ Fr 60 [(0, vs), (1, vl), (2, vf), (15, vf), (16, .int .i64 Fs.length), (17, .int .i64 k)] a) (sel [1, 1, 0, 1, 4, 4, 1, 1, 0, 4, 0] ffR) (fun a w => ∃ (g9 : Nat), ((0 ≤ k ∧ k < Fs.length) ∧ NoErr (fillAt S L Fs) k) ∧ (Below w0.heap.size w0 w ∧ FlB w g9 (geta Fs k)) ∧ Fr 60 [(0, vs), (1, vl), (2, vf), (7, .int .i64 k), (8, .pointer (some ⟨g9, 0, none⟩)), (15, vf), (16, .int .i64 Fs.length), (17, .int .i64 k)] a) No 9 (fun a w => Fr 60 [(6, .int .i64 (fillsE S L Fs))] a ∧ Below w0.heap.size w0 w) := by
  refine T3.leaf ?_
  rintro Q JS JX JT K hS hK hX hE hT hR a w ⟨hpre, hW, ⟨fr, rfl, q0, q1, q2, q15, q16, q17, _⟩⟩
  have hpp := Lib.hid hpre
  obtain ⟨⟨hk0, hk1⟩, _⟩ := hpre
  have hsn := hf.n
  have hHW := Lib.hid hW
  obtain ⟨p1, c1, hv1⟩ := hs.r.shape
  subst hv1
  obtain ⟨p2, c2, hv2⟩ := hl.r.shape
  subst hv2
  obtain ⟨_, hcs⟩ := (hf.below hW).r.els encFl_length (by decide)
  rcases hcs with ⟨rfl, h0⟩ | ⟨bz, off, cap, rfl, _, hbz, hnc, hcm, hcell⟩
  · omega
  have t0 := hcell k hk0 hk1 0 _ rfl
  have t1 := hcell k hk0 hk1 1 _ rfl
  rw [Nat.add_zero] at t0
  have HB := Lib.hid (FlB.new w (geta Fs k) 42)
  have HA := Lib.hid (fun o => (Below.refl w.heap.size w).alloc (Nat.le_refl _) o)
  clear hcell hW hs hl hf
  generalize geta Fs k = x at *
  rw [fr_ffR, show fr 0 = _ from q0, show fr 1 = _ from q1, show fr 2 = _ from q2, show fr 15 = _ from q15, show fr 16 = _ from q16, show fr 17 = _ from q17]
  clear q0 q1 q2 q15 q16 q17
  conv => arg 2; whnf
  go_wp2_with fail
  refine Met.intro (hS _ _ ?_)
  exact ⟨_, hpp.out, ⟨hHW.out.trans ((HA.out _).mono hHW.out.size), HB.out⟩, Fr.of _ rfl ⟨rfl, rfl, rfl, rfl, rfl, rfl, rfl, rfl, trivial⟩⟩

set_option maxRecDepth 100000 in
set_option maxHeartbeats 1000000 in
theorem ff12 (w0 : World) (vs vl vf : Value) (S : List SlD) (L : List ScD) (Fs : List FlD) (hs : SlH w0 vs S) (hl : ScH w0 vl L) (hf : FlH w0 vf Fs) (hlen : Hid (Fs.length = S.length)) (k : Int) (g9 : Nat) : T3 Try.prog (fun a w => ((0 ≤ k ∧ k < Fs.length) ∧ NoErr (fillAt S L Fs) k) ∧ (Below w0.heap.size w0 w ∧ FlB w g9 (geta Fs k)) ∧ Fr 60 [(0, vs), (1, vl), (2, vf), (7, .int .i64 k), (8, .pointer (some ⟨g9, 0, none⟩)), (15, vf), (16, .int .i64 Fs.length), (17, .int .i64 k)] a) (sel [1, 1, 0, 1, 4, 4, 1, 1, 0, 4, 1, 0] ffR) (fun a w => ((0 ≤ k ∧ k < Fs.length) ∧ NoErr (fillAt S L Fs) k) ∧ (Below w0.heap.size w0 w ∧ FlB w g9 (geta Fs k)) ∧ Fr 60 [(0, vs), (1, vl), (2, vf), (7, .int .i64 k), (8, .pointer (some ⟨g9, 0, none⟩)), (9, .int .i64 (scIdx L (geta Fs k).pl)), (15, vf), (16, .int .i64 Fs.length), (17, .int .i64 k)] a) No 9 (fun a w => Fr 60 [(6, .int .i64 (fillsE S L Fs))] a ∧ Below w0.heap.size w0 w) := by
  refine T3.leaf ?_
  rintro Q JS JX JT K hS hK hX hE hT hR a w ⟨hpre, hW, ⟨fr, rfl, q0, q1, q2, q7, q8, q15, q16, q17, _⟩⟩
  have hpp := Lib.hid hpre
  obtain ⟨⟨hk0, hk1⟩, _⟩ := hpre
  have hsn := hf.n
  have HW := Lib.hid hW
  have HC := Lib.hid (scorerAt_ref vl L (geta Fs k).pl w (hl.below hW.1))
  have t1 := hW.2.c1
  obtain ⟨p1, c1, hv1⟩ := hs.r.shape
  subst hv1
  obtain ⟨p2, c2, hv2⟩ := hl.r.shape
  subst hv2
  obtain ⟨p3, c3, hv3⟩ := hf.r.shape
  subst hv3
  clear hs hl hf hW
  generalize scIdx L (geta Fs k).pl = q at *
  generalize hxx : (geta Fs k).pl = x at *
  rw [fr_ffR, show fr 0 = _ from q0, show fr 1 = _ from q1, show fr 2 = _ from q2, show fr 7 = _ from q7, show fr 8 = _ from q8, show fr 15 = _ from q15, show fr 16 = _ from q16, show fr 17 = _ from q17]
  clear q0 q1 q2 q7 q8 q15 q16 q17
  conv => arg 2; whnf
  go_wp2_with fail
  refine HC.out.mono ?_
  rintro e w1 ⟨rfl, hb1⟩
  have HR := Lib.hid (show Below w0.heap.size w0 w1 ∧ FlB w1 g9 (geta Fs k) from ⟨HW.out.1.trans (hb1.mono HW.out.1.size), HW.out.2.below hb1⟩)
  clear hb1
  go_wp2_with fail
  refine Met.intro (hS _ _ ?_)
  exact ⟨hpp.out, HR.out, Fr.of _ rfl ⟨rfl, rfl, rfl, rfl, rfl, rfl, rfl, rfl, rfl, trivial⟩⟩

set_option maxRecDepth 100000 in
set_option maxHeartbeats 1000000 in
theorem ff9 (w0 : World) (vs vl vf : Value) (S : List SlD) (L : List ScD) (Fs : List FlD) (hs : SlH w0 vs S) (hl : ScH w0 vl L) (hf : FlH w0 vf Fs) (hlen : Hid (Fs.length = S.length)) (k : Int) (g9 : Nat) : T3 Try.prog (fun a w => ((0 ≤ k ∧ k < Fs.length) ∧ NoErr (fillAt S L Fs) k) ∧ (Below w0.heap.size w0 w ∧ FlB w g9 (geta Fs k)) ∧ Fr 60 [(0, vs), (1, vl), (2, vf), (7, .int .i64 k), (8, .pointer (some ⟨g9, 0, none⟩)), (9, .int .i64 (scIdx L (geta Fs k).pl)), (15, vf), (16, .int .i64 Fs.length), (17, .int .i64 k)] a) (sel [1, 1, 0, 1, 4, 4, 1, 1, 0, 4, 1, 1, 4, 0] ffR) (fun a w => ∃ q, Fr 60 ((26, .bool q) :: [(0, vs), (1, vl), (2, vf), (7, .int .i64 k), (8, .pointer (some ⟨g9, 0, none⟩)), (9, .int .i64 (scIdx L (geta Fs k).pl)), (15, vf), (16, .int .i64 Fs.length), (17, .int .i64 k)]) a ∧ ((((0 ≤ k ∧ k < Fs.length) ∧ NoErr (fillAt S L Fs) k) ∧ q = decide ((geta Fs k).sl ≠ (geta S k).key)) ∧ Below w0.heap.size w0 w ∧ FlB w g9 (geta Fs k))) No 9 (fun a w => Fr 60 [(6, .int .i64 (fillsE S L Fs))] a ∧ Below w0.heap.size w0 w) := by
  refine T3.leafN ?_
  rintro JS hS a w ⟨hpre, hW, ⟨fr, rfl, q0, q1, q2, q7, q8, q9, q15, q16, q17, _⟩⟩
  have hpp := Lib.hid hpre
  obtain ⟨⟨hk0, hk1⟩, _⟩ := hpre
  have hsn := hf.n
  have HW := Lib.hid hW
  have hbd : Below w.heap.size w w.drew := below_drewN (Below.refl _ _) 1
  have HW1 := Lib.hid (show Below w0.heap.size w0 w.drew ∧ FlB w.drew g9 (geta Fs k) from ⟨hW.1.trans (hbd.mono hW.1.size), hW.2.below hbd⟩)
  have t0 := hW.2.c0
  have hks : k < S.length := by have := hlen.out; omega
  have hR := (hs.below hW.1).r
  obtain ⟨p1, c1, hv1⟩ := hs.r.shape
  subst hv1
  obtain ⟨bs, os, rfl, hn1, hm1, hcell⟩ := Row.nonnil hR (by omega)
  have t1 := Row.elAt encSl_length hcell hk0 hks 0 _ (by decide) rfl
  rw [Nat.add_zero] at t1
  obtain ⟨p2, c2, hv2⟩ := hl.r.shape
  subst hv2
  obtain ⟨p3, c3, hv3⟩ := hf.r.shape
  subst hv3
  clear hcell hR hs hl hf hW hbd
  by_cases he : (geta Fs k).sl = (geta S k).key
  · have HE := Lib.hid (show false = decide ((geta Fs k).sl ≠ (geta S k).key) by simp [he])
    rw [← he] at t1
    clear he
    generalize hix : scIdx L (geta Fs k).pl = ix at *
    generalize (geta Fs k).sl = x at *
    rw [fr_ffR, show fr 0 = _ from q0, show fr 1 = _ from q1, show fr 2 = _ from q2, show fr 7 = _ from q7, show fr 8 = _ from q8, show fr 9 = _ from q9, show fr 15 = _ from q15, show fr 16 = _ from q16, show fr 17 = _ from q17]
    clear q0 q1 q2 q7 q8 q9 q15 q16 q17
    conv => arg 2; whnf
    refine wp_region_mix (none) [(true, 0), (true, 2), (true, 3), (true, 1), (true, 4), (true, 5), (true, 6), (true, 7), (true, 8)] (by kernel_rfl) (by kernel_rfl) (by intro c a d v w h; cases d <;> exact h) ?_
    simp only [pickFlat, List.filterMap_cons, List.filterMap_nil, List.getElem?_cons_succ, List.getElem?_cons_zero, Option.map_some]
    have A0 := wof_at (w₁ := w.drew) (row := none) (a := ⟨g9, 0, none⟩) t0 (by simp)
    have A1 := wof_at (w₁ := w.drew) (row := none) (a := ⟨bs, os + k.toNat * 2, none⟩) t1 (by simp)
    refine flat_hide (fun W hH hC hN hE => ?_)
    iterate 9 (refine hH.out _ _ _ _ (fun K hK => ?_); go_simp; refine hK _ ?_; clear hK K)
    refine hE.out _ _ ?_
    clear hH hC hN hE W
    show JS _ _
    refine hS _ _ ?_
    exact ⟨_, Fr.of _ rfl ⟨rfl, rfl, rfl, rfl, rfl, rfl, rfl, rfl, rfl, rfl, trivial⟩, ⟨hpp.out, HE.out⟩, HW1.out⟩
  · have HE := Lib.hid (show true = decide ((geta Fs k).sl ≠ (geta S k).key) by simp [he])
    have he1 := toList_ne he
    clear he
    generalize hix : scIdx L (geta Fs k).pl = ix at *
    generalize (geta Fs k).sl = x at *
    generalize (geta S k).key = y at *
    rw [fr_ffR, show fr 0 = _ from q0, show fr 1 = _ from q1, show fr 2 = _ from q2, show fr 7 = _ from q7, show fr 8 = _ from q8, show fr 9 = _ from q9, show fr 15 = _ from q15, show fr 16 = _ from q16, show fr 17 = _ from q17]
    clear q0 q1 q2 q7 q8 q9 q15 q16 q17
    conv => arg 2; whnf
    refine wp_region_mix (none) [(true, 0), (true, 2), (true, 3), (true, 1), (true, 4), (true, 5), (true, 6), (true, 7), (true, 8)] (by kernel_rfl) (by kernel_rfl) (by intro c a d v w h; cases d <;> exact h) ?_
    simp only [pickFlat, List.filterMap_cons, List.filterMap_nil, List.getElem?_cons_succ, List.getElem?_cons_zero, Option.map_some]
    have A0 := wof_at (w₁ := w.drew) (row := none) (a := ⟨g9, 0, none⟩) t0 (by simp)
    have A1 := wof_at (w₁ := w.drew) (row := none) (a := ⟨bs, os + k.toNat * 2, none⟩) t1 (by simp)
    refine flat_hide (fun W hH hC hN hE => ?_)
    iterate 9 (refine hH.out _ _ _ _ (fun K hK => ?_); go_simp; refine hK _ ?_; clear hK K)
    refine hE.out _ _ ?_
    clear hH hC hN hE W
    show JS _ _
    refine hS _ _ ?_
    exact ⟨_, Fr.of _ rfl ⟨rfl, rfl, rfl, rfl, rfl, rfl, rfl, rfl, rfl, rfl, trivial⟩, ⟨hpp.out, HE.out⟩, HW1.out⟩

set_option maxRecDepth 100000 in
set_option maxHeartbeats 1000000 in
theorem ff10 (w0 : World) (vs vl vf : Value) (S : List SlD) (L : List ScD) (Fs : List FlD) (hs : SlH w0 vs S) (hl : ScH w0 vl L) (hf : FlH w0 vf Fs) (hlen : Hid (Fs.length = S.length)) (k : Int) (g9 : Nat) : T3 Try.prog (fun a w => (Below w0.heap.size w0 w ∧ FlB w g9 (geta Fs k)) ∧ Fr 60 [(0, vs), (1, vl), (2, vf), (7, .int .i64 k), (8, .pointer (some ⟨g9, 0, none⟩)), (9, .int .i64 (scIdx L (geta Fs k).pl)), (15, vf), (16, .int .i64 Fs.length), (17, .int .i64 k)] a) (sel [1, 1, 0, 1, 4, 4, 1, 1, 0, 4, 1, 1, 4, 1, 2, 0] ffR) (fun a w => (Below w0.heap.size w0 w) ∧ Fr 60 [(6, .int .i64 8)] a) No 9 (fun a w => Fr 60 [(6, .int .i64 (fillsE S L Fs))] a ∧ Below w0.heap.size w0 w) := by
  refine T3.leaf ?_
  rintro Q JS JX JT K hS hK hX hE hT hR a w ⟨hW, ⟨fr, rfl, q0, q1, q2, q7, q8, q9, q15, q16, q17, _⟩⟩
  have HW := Lib.hid hW
  clear hW
  obtain ⟨p1, c1, hv1⟩ := hs.r.shape
  subst hv1
  obtain ⟨p2, c2, hv2⟩ := hl.r.shape
  subst hv2
  obtain ⟨p3, c3, hv3⟩ := hf.r.shape
  subst hv3
  generalize scIdx L (geta Fs k).pl = ix at *
  rw [fr_ffR, show fr 0 = _ from q0, show fr 1 = _ from q1, show fr 2 = _ from q2, show fr 7 = _ from q7, show fr 8 = _ from q8, show fr 9 = _ from q9, show fr 15 = _ from q15, show fr 16 = _ from q16, show fr 17 = _ from q17]
  clear q0 q1 q2 q7 q8 q9 q15 q16 q17
  conv => arg 2; whnf
  go_wp2_with fail
  refine Met.intro (hS _ _ ?_)
  exact ⟨HW.out.1, Fr.of _ rfl ⟨rfl, trivial⟩⟩

set_option maxRecDepth 100000 in
set_option maxHeartbeats 1000000 in
theorem ff11 (w0 : World) (vs vl vf : Value) (S : List SlD) (L : List ScD) (Fs : List FlD) (hs : SlH w0 vs S) (hl : ScH w0 vl L) (hf : FlH w0 vf Fs) (hlen : Hid (Fs.length = S.length)) (k : Int) (g9 : Nat) : T3 Try.prog (fun a w => ((0 ≤ k ∧ k < Fs.length) ∧ NoErr (fillAt S L Fs) k) ∧ (Below w0.heap.size w0 w ∧ FlB w g9 (geta Fs k)) ∧ Fr 60 [(0, vs), (1, vl), (2, vf), (7, .int .i64 k), (8, .pointer (some ⟨g9, 0, none⟩)), (9, .int .i64 (scIdx L (geta Fs k).pl)), (15, vf), (16, .int .i64 Fs.length), (17, .int .i64 k)] a) (sel [1, 1, 0, 1, 4, 4, 1, 1, 0, 4, 1, 1, 4, 1, 3, 0] ffR) (fun a w => ∃ q, Fr 60 ((35, .bool q) :: [(0, vs), (1, vl), (2, vf), (7, .int .i64 k), (8, .pointer (some ⟨g9, 0, none⟩)), (9, .int .i64 (scIdx L (geta Fs k).pl)), (15, vf), (16, .int .i64 Fs.length), (17, .int .i64 k)]) a ∧ ((((0 ≤ k ∧ k < Fs.length) ∧ NoErr (fillAt S L Fs) k) ∧ q = decide ((geta Fs k).pl = ByteArray.empty)) ∧ Below w0.heap.size w0 w ∧ FlB w g9 (geta Fs k))) No 9 (fun a w => Fr 60 [(6, .int .i64 (fillsE S L Fs))] a ∧ Below w0.heap.size w0 w) := by
  refine T3.leaf ?_
  rintro Q JS JX JT K hS hK hX hE hT hR a w ⟨hpre, hW, ⟨fr, rfl, q0, q1, q2, q7, q8, q9, q15, q16, q17, _⟩⟩
  have hpp := Lib.hid hpre
  obtain ⟨⟨hk0, hk1⟩, _⟩ := hpre
  have hsn := hf.n
  have HW := Lib.hid hW
  have t1 := hW.2.c1
  obtain ⟨p1, c1, hv1⟩ := hs.r.shape
  subst hv1
  obtain ⟨p2, c2, hv2⟩ := hl.r.shape
  subst hv2
  obtain ⟨p3, c3, hv3⟩ := hf.r.shape
  subst hv3
  clear hW hs hl hf
  generalize hix : scIdx L (geta Fs k).pl = ix at *
  by_cases hx : (geta Fs k).pl = ByteArray.empty
  · have HX := Lib.hid (show true = decide ((geta Fs k).pl = ByteArray.empty) by simp [hx])
    rw [hx] at t1
    clear hx
    rw [fr_ffR, show fr 0 = _ from q0, show fr 1 = _ from q1, show fr 2 = _ from q2, show fr 7 = _ from q7, show fr 8 = _ from q8, show fr 9 = _ from q9, show fr 15 = _ from q15, show fr 16 = _ from q16, show fr 17 = _ from q17]
    clear q0 q1 q2 q7 q8 q9 q15 q16 q17
    conv => arg 2; whnf
    go_wp2_with fail
    refine Met.intro (hS _ _ ?_)
    exact ⟨_, Fr.of _ rfl ⟨rfl, rfl, rfl, rfl, rfl, rfl, rfl, rfl, rfl, rfl, trivial⟩, ⟨hpp.out, HX.out⟩, HW.out⟩
  · have HX := Lib.hid (show false = decide ((geta Fs k).pl = ByteArray.empty) by simp [hx])
    have hx1 := toList_ne hx
    have hx2 : (geta Fs k).pl.toList.isEmpty = false := by
      have hh := hx1
      rw [show ByteArray.empty.toList = [] by rw [ByteArray.toList_eq]; rfl] at hh
      cases hl : (geta Fs k).pl.toList with
      | nil => rw [hl] at hh; exact absurd hh (by decide)
      | cons a b => rfl
    clear hx
    generalize (geta Fs k).pl = x at *
    rw [fr_ffR, show fr 0 = _ from q0, show fr 1 = _ from q1, show fr 2 = _ from q2, show fr 7 = _ from q7, show fr 8 = _ from q8, show fr 9 = _ from q9, show fr 15 = _ from q15, show fr 16 = _ from q16, show fr 17 = _ from q17]
    clear q0 q1 q2 q7 q8 q9 q15 q16 q17
    conv => arg 2; whnf
    go_wp2_with fail
    refine Met.intro (hS _ _ ?_)
    exact ⟨_, Fr.of _ rfl ⟨rfl, rfl, rfl, rfl, rfl, rfl, rfl, rfl, rfl, rfl, trivial⟩, ⟨hpp.out, HX.out⟩, HW.out⟩

set_option maxRecDepth 100000 in
set_option maxHeartbeats 1000000 in
theorem ff13 (w0 : World) (vs vl vf : Value) (S : List SlD) (L : List ScD) (Fs : List FlD) (hs : SlH w0 vs S) (hl : ScH w0 vl L) (hf : FlH w0 vf Fs) (hlen : Hid (Fs.length = S.length)) (k : Int) (g9 : Nat) : T3 Try.prog (fun a w => ((0 ≤ k ∧ k < Fs.length) ∧ NoErr (fillAt S L Fs) k) ∧ (Below w0.heap.size w0 w ∧ FlB w g9 (geta Fs k)) ∧ Fr 60 [(0, vs), (1, vl), (2, vf), (7, .int .i64 k), (8, .pointer (some ⟨g9, 0, none⟩)), (9, .int .i64 (scIdx L (geta Fs k).pl)), (15, vf), (16, .int .i64 Fs.length), (17, .int .i64 k)] a) (sel [1, 1, 0, 1, 4, 4, 1, 1, 0, 4, 1, 1, 4, 1, 3, 1, 3, 0] ffR) (fun a w => ∃ q, Fr 60 ((39, .bool q) :: [(0, vs), (1, vl), (2, vf), (7, .int .i64 k), (8, .pointer (some ⟨g9, 0, none⟩)), (9, .int .i64 (scIdx L (geta Fs k).pl)), (15, vf), (16, .int .i64 Fs.length), (17, .int .i64 k)]) a ∧ ((((0 ≤ k ∧ k < Fs.length) ∧ NoErr (fillAt S L Fs) k) ∧ q = decide ((scIdx L (geta Fs k).pl) < 0)) ∧ Below w0.heap.size w0 w ∧ FlB w g9 (geta Fs k))) No 9 (fun a w => Fr 60 [(6, .int .i64 (fillsE S L Fs))] a ∧ Below w0.heap.size w0 w) := by
  refine T3.leaf ?_
  rintro Q JS JX JT K hS hK hX hE hT hR a w ⟨hpre, hW, ⟨fr, rfl, q0, q1, q2, q7, q8, q9, q15, q16, q17, _⟩⟩
  have hpp := Lib.hid hpre
  obtain ⟨⟨hk0, hk1⟩, _⟩ := hpre
  have hsn := hf.n
  have HW := Lib.hid hW
  obtain ⟨p1, c1, hv1⟩ := hs.r.shape
  subst hv1
  obtain ⟨p2, c2, hv2⟩ := hl.r.shape
  subst hv2
  obtain ⟨p3, c3, hv3⟩ := hf.r.shape
  subst hv3
  clear hW hs hl hf
  generalize scIdx L (geta Fs k).pl = ix at *
  rw [fr_ffR, show fr 0 = _ from q0, show fr 1 = _ from q1, show fr 2 = _ from q2, show fr 7 = _ from q7, show fr 8 = _ from q8, show fr 9 = _ from q9, show fr 15 = _ from q15, show fr 16 = _ from q16, show fr 17 = _ from q17]
  clear q0 q1 q2 q7 q8 q9 q15 q16 q17
  conv => arg 2; whnf
  go_wp2_with fail
  have hpre := hpp.out
  refine Met.intro (hS _ _ ?_)
  exact ⟨_, Fr.of _ rfl ⟨rfl, rfl, rfl, rfl, rfl, rfl, rfl, rfl, rfl, rfl, trivial⟩, ⟨hpre, rfl⟩, HW.out⟩

set_option maxRecDepth 100000 in
set_option maxHeartbeats 1000000 in
theorem ff14 (w0 : World) (vs vl vf : Value) (S : List SlD) (L : List ScD) (Fs : List FlD) (hs : SlH w0 vs S) (hl : ScH w0 vl L) (hf : FlH w0 vf Fs) (hlen : Hid (Fs.length = S.length)) (k : Int) (g9 : Nat) : T3 Try.prog (fun a w => (Below w0.heap.size w0 w ∧ FlB w g9 (geta Fs k)) ∧ Fr 60 [(0, vs), (1, vl), (2, vf), (7, .int .i64 k), (8, .pointer (some ⟨g9, 0, none⟩)), (9, .int .i64 (scIdx L (geta Fs k).pl)), (15, vf), (16, .int .i64 Fs.length), (17, .int .i64 k)] a) (sel [1, 1, 0, 1, 4, 4, 1, 1, 0, 4, 1, 1, 4, 1, 3, 1, 3, 1, 2, 0] ffR) (fun a w => (Below w0.heap.size w0 w) ∧ Fr 60 [(6, .int .i64 8)] a) No 9 (fun a w => Fr 60 [(6, .int .i64 (fillsE S L Fs))] a ∧ Below w0.heap.size w0 w) := by
  refine T3.leaf ?_
  rintro Q JS JX JT K hS hK hX hE hT hR a w ⟨hW, ⟨fr, rfl, q0, q1, q2, q7, q8, q9, q15, q16, q17, _⟩⟩
  have HW := Lib.hid hW
  clear hW
  obtain ⟨p1, c1, hv1⟩ := hs.r.shape
  subst hv1
  obtain ⟨p2, c2, hv2⟩ := hl.r.shape
  subst hv2
  obtain ⟨p3, c3, hv3⟩ := hf.r.shape
  subst hv3
  generalize scIdx L (geta Fs k).pl = ix at *
  rw [fr_ffR, show fr 0 = _ from q0, show fr 1 = _ from q1, show fr 2 = _ from q2, show fr 7 = _ from q7, show fr 8 = _ from q8, show fr 9 = _ from q9, show fr 15 = _ from q15, show fr 16 = _ from q16, show fr 17 = _ from q17]
  clear q0 q1 q2 q7 q8 q9 q15 q16 q17
  conv => arg 2; whnf
  go_wp2_with fail
  refine Met.intro (hS _ _ ?_)
  exact ⟨HW.out.1, Fr.of _ rfl ⟨rfl, trivial⟩⟩

set_option maxRecDepth 100000 in
set_option maxHeartbeats 1000000 in
theorem ff15 (w0 : World) (vs vl vf : Value) (S : List SlD) (L : List ScD) (Fs : List FlD) (hs : SlH w0 vs S) (hl : ScH w0 vl L) (hf : FlH w0 vf Fs) (hlen : Hid (Fs.length = S.length)) (k : Int) (g9 : Nat) : T3 Try.prog (fun a w => ((0 ≤ k ∧ k < Fs.length) ∧ NoErr (fillAt S L Fs) k) ∧ (Below w0.heap.size w0 w ∧ FlB w g9 (geta Fs k)) ∧ Fr 60 [(0, vs), (1, vl), (2, vf), (7, .int .i64 k), (8, .pointer (some ⟨g9, 0, none⟩)), (9, .int .i64 (scIdx L (geta Fs k).pl)), (15, vf), (16, .int .i64 Fs.length), (17, .int .i64 k)] a) (sel [1, 1, 0, 1, 4, 4, 1, 1, 0, 4, 1, 1, 4, 1, 3, 1, 3, 1, 3, 0] ffR) (fun a w => ∃ q, Fr 60 ((42, .bool q) :: [(0, vs), (1, vl), (2, vf), (7, .int .i64 k), (8, .pointer (some ⟨g9, 0, none⟩)), (9, .int .i64 (scIdx L (geta Fs k).pl)), (15, vf), (16, .int .i64 Fs.length), (17, .int .i64 k)]) a ∧ ((((0 ≤ k ∧ k < Fs.length) ∧ NoErr (fillAt S L Fs) k) ∧ q = fillDup Fs k) ∧ Below w0.heap.size w0 w ∧ FlB w g9 (geta Fs k))) No 9 (fun a w => Fr 60 [(6, .int .i64 (fillsE S L Fs))] a ∧ Below w0.heap.size w0 w) := by
  refine T3.leaf ?_
  rintro Q JS JX JT K hS hK hX hE hT hR a w ⟨hpre, hW, ⟨fr, rfl, q0, q1, q2, q7, q8, q9, q15, q16, q17, _⟩⟩
  have hpp := Lib.hid hpre
  obtain ⟨⟨hk0, hk1⟩, _⟩ := hpre
  have hsn := hf.n
  have HW := Lib.hid hW
  have hR := (hf.below hW.1).r
  rcases hR.2 with ⟨hv, h0⟩ | ⟨bz, off, cap, hv, _, hbz, hnc, hcm, hcell⟩
  · omega
  subst hv
  simp only [maxLen] at hcm
  have hbq : (0 : Int) ≤ k ∧ k ≤ Fs.length ∧ (Fs.length : Int) ≤ cap := by omega
  have hkc : k ≤ (cap : Int) := by omega
  have HC := Lib.hid (any_fl 38 Try.call38 (.pointer (some ⟨g9, 0, none⟩)) _ (Fs.take k.toNat) (fun y => decide (y.pl = (geta Fs k).pl)) 0 w (Row.firstN encFl_length hR hk0 (by omega)) (by rw [List.length_take]; omega) (fun y _ w1 hb1 => cl_flF y.sl y.pl (geta Fs k).pl g9 w1 (hW.2.below hb1).c1))
  have hE : (Fs.take k.toNat).any (fun y => decide (y.pl = (geta Fs k).pl)) = fillDup Fs k := rfl
  rw [hE] at HC
  obtain ⟨p1, c1, hv1⟩ := hs.r.shape
  subst hv1
  obtain ⟨p2, c2, hv2⟩ := hl.r.shape
  subst hv2
  clear hcell hR hs hl hf hW hE
  generalize scIdx L (geta Fs k).pl = ix at *
  generalize fillDup Fs k = qq at *
  rw [fr_ffR, show fr 0 = _ from q0, show fr 1 = _ from q1, show fr 2 = _ from q2, show fr 7 = _ from q7, show fr 8 = _ from q8, show fr 9 = _ from q9, show fr 15 = _ from q15, show fr 16 = _ from q16, show fr 17 = _ from q17]
  clear q0 q1 q2 q7 q8 q9 q15 q16 q17
  conv => arg 2; whnf
  go_wp2_with fail
  refine HC.out.mono ?_
  rintro e w1 ⟨rfl, hb1⟩
  have HR := Lib.hid (show Below w0.heap.size w0 w1 ∧ FlB w1 g9 (geta Fs k) from ⟨HW.out.1.trans (hb1.mono HW.out.1.size), HW.out.2.below hb1⟩)
  clear hb1
  go_wp2_with fail
  have hpre := hpp.out
  refine Met.intro (hS _ _ ?_)
  exact ⟨_, Fr.of _ rfl ⟨rfl, rfl, rfl, rfl, rfl, rfl, rfl, rfl, rfl, rfl, trivial⟩, ⟨hpre, rfl⟩, HR.out⟩

set_option maxRecDepth 100000 in
set_option maxHeartbeats 1000000 in
theorem ff16 (w0 : World) (vs vl vf : Value) (S : List SlD) (L : List ScD) (Fs : List FlD) (hs : SlH w0 vs S) (hl : ScH w0 vl L) (hf : FlH w0 vf Fs) (hlen : Hid (Fs.length = S.length)) (k : Int) (g9 : Nat) : T3 Try.prog (fun a w => (Below w0.heap.size w0 w ∧ FlB w g9 (geta Fs k)) ∧ Fr 60 [(0, vs), (1, vl), (2, vf), (7, .int .i64 k), (8, .pointer (some ⟨g9, 0, none⟩)), (9, .int .i64 (scIdx L (geta Fs k).pl)), (15, vf), (16, .int .i64 Fs.length), (17, .int .i64 k)] a) (sel [1, 1, 0, 1, 4, 4, 1, 1, 0, 4, 1, 1, 4, 1, 3, 1, 3, 1, 3, 1, 2, 0] ffR) (fun a w => (Below w0.heap.size w0 w) ∧ Fr 60 [(6, .int .i64 6)] a) No 9 (fun a w => Fr 60 [(6, .int .i64 (fillsE S L Fs))] a ∧ Below w0.heap.size w0 w) := by
  refine T3.leaf ?_
  rintro Q JS JX JT K hS hK hX hE hT hR a w ⟨hW, ⟨fr, rfl, q0, q1, q2, q7, q8, q9, q15, q16, q17, _⟩⟩
  have HW := Lib.hid hW
  clear hW
  obtain ⟨p1, c1, hv1⟩ := hs.r.shape
  subst hv1
  obtain ⟨p2, c2, hv2⟩ := hl.r.shape
  subst hv2
  obtain ⟨p3, c3, hv3⟩ := hf.r.shape
  subst hv3
  generalize scIdx L (geta Fs k).pl = ix at *
  rw [fr_ffR, show fr 0 = _ from q0, show fr 1 = _ from q1, show fr 2 = _ from q2, show fr 7 = _ from q7, show fr 8 = _ from q8, show fr 9 = _ from q9, show fr 15 = _ from q15, show fr 16 = _ from q16, show fr 17 = _ from q17]
  clear q0 q1 q2 q7 q8 q9 q15 q16 q17
  conv => arg 2; whnf
  go_wp2_with fail
  refine Met.intro (hS _ _ ?_)
  exact ⟨HW.out.1, Fr.of _ rfl ⟨rfl, trivial⟩⟩

set_option maxRecDepth 100000 in
set_option maxHeartbeats 1000000 in
theorem ff17 (w0 : World) (vs vl vf : Value) (S : List SlD) (L : List ScD) (Fs : List FlD) (hs : SlH w0 vs S) (hl : ScH w0 vl L) (hf : FlH w0 vf Fs) (hlen : Hid (Fs.length = S.length)) (k : Int) (g9 : Nat) (hix : ¬ (scIdx L (geta Fs k).pl) < 0) : T3 Try.prog (fun a w => ((0 ≤ k ∧ k < Fs.length) ∧ NoErr (fillAt S L Fs) k) ∧ (Below w0.heap.size w0 w ∧ FlB w g9 (geta Fs k)) ∧ Fr 60 [(0, vs), (1, vl), (2, vf), (7, .int .i64 k), (8, .pointer (some ⟨g9, 0, none⟩)), (9, .int .i64 (scIdx L (geta Fs k).pl)), (15, vf), (16, .int .i64 Fs.length), (17, .int .i64 k)] a) (sel [1, 1, 0, 1, 4, 4, 1, 1, 0, 4, 1, 1, 4, 1, 3, 1, 3, 1, 3, 1, 3, 0] ffR) (fun a w => ∃ q, Fr 60 ((48, .bool q) :: [(0, vs), (1, vl), (2, vf), (7, .int .i64 k), (8, .pointer (some ⟨g9, 0, none⟩)), (9, .int .i64 (scIdx L (geta Fs k).pl)), (15, vf), (16, .int .i64 Fs.length), (17, .int .i64 k)]) a ∧ ((((0 ≤ k ∧ k < Fs.length) ∧ NoErr (fillAt S L Fs) k) ∧ q = !commonB (geta L (scIdx L (geta Fs k).pl)).ps (geta S k).ps) ∧ Below w0.heap.size w0 w ∧ FlB w g9 (geta Fs k))) No 9 (fun a w => Fr 60 [(6, .int .i64 (fillsE S L Fs))] a ∧ Below w0.heap.size w0 w) := by
  refine T3.leafN ?_
  rintro JS hS a w ⟨hpre, hW, ⟨fr, rfl, q0, q1, q2, q7, q8, q9, q15, q16, q17, _⟩⟩
  have hpp := Lib.hid hpre
  obtain ⟨⟨hk0, hk1⟩, _⟩ := hpre
  have hsn := hf.n
  have HW := Lib.hid hW
  have hbd : Below w.heap.size w w.drew := below_drewN (Below.refl _ _) 1
  have HW1 := Lib.hid (show Below w0.heap.size w0 w.drew ∧ FlB w.drew g9 (geta Fs k) from ⟨hW.1.trans (hbd.mono hW.1.size), hW.2.below hbd⟩)
  have hks : k < S.length := by have := hlen.out; omega
  have hiL := sc_mem hix
  have hi0 : 0 ≤ scIdx L (geta Fs k).pl := by omega
  have hRs := ((hs.below hW.1).below hbd).r
  have hRl := ((hl.below hW.1).below hbd).r
  have hpl := (((hl.below hW.1).below hbd).p _ (geta_mem hi0 hiL))
  have hps := (((hs.below hW.1).below hbd).p _ (geta_mem hk0 hks))
  obtain ⟨p1, c1, hv1⟩ := hs.r.shape
  subst hv1
  obtain ⟨p2, c2, hv2⟩ := hl.r.shape
  subst hv2
  obtain ⟨p3, c3, hv3⟩ := hf.r.shape
  subst hv3
  obtain ⟨b1, o1, rfl, hn1, hm1, hcs⟩ := Row.nonnil hRs (by omega)
  obtain ⟨b2, o2, rfl, hn2, hm2, hcl⟩ := Row.nonnil hRl (by omega)
  have t0 := Row.elAt encSl_length hcs hk0 hks 0 _ (by decide) rfl
  have t1 := Row.elAt encSl_length hcs hk0 hks 1 _ (by decide) rfl
  have u0 := Row.elAt encSc_length hcl hi0 hiL 0 _ (by decide) rfl
  have u1 := Row.elAt encSc_length hcl hi0 hiL 1 _ (by decide) rfl
  have u2 := Row.elAt encSc_length hcl hi0 hiL 2 _ (by decide) rfl
  have u3 := Row.elAt encSc_length hcl hi0 hiL 3 _ (by decide) rfl
  have u4 := Row.elAt encSc_length hcl hi0 hiL 4 _ (by decide) rfl
  rw [Nat.add_zero] at t0 u0
  have HC := Lib.hid (fit_ref _ _ w.drew hps hpl)
  have hcc := commonB_comm (geta S k).ps (geta L (scIdx L (geta Fs k).pl)).ps
  rw [hcc] at HC
  obtain ⟨aa1, d1, hq1⟩ := hpl.r.shape
  obtain ⟨aa2, d2, hq2⟩ := hps.r.shape
  clear hcs hcl hRs hRl hs hl hf hW hbd hpl hps hix hcc
  generalize hcq : commonB (geta L (scIdx L (geta Fs k).pl)).ps (geta S k).ps = cq at *
  generalize hixx : scIdx L (geta Fs k).pl = ix at *
  generalize geta L ix = y at *
  generalize geta S k = x at *
  obtain ⟨xk, xv, xps⟩ := x
  obtain ⟨yk, yv, yps, yn, yd, yp⟩ := y
  simp only at hq1 hq2 t0 t1 u0 u1 u2 u3 u4 HC
  subst hq1
  subst hq2
  rw [fr_ffR, show fr 0 = _ from q0, show fr 1 = _ from q1, show fr 2 = _ from q2, show fr 7 = _ from q7, show fr 8 = _ from q8, show fr 9 = _ from q9, show fr 15 = _ from q15, show fr 16 = _ from q16, show fr 17 = _ from q17]
  clear q0 q1 q2 q7 q8 q9 q15 q16 q17
  conv => arg 2; whnf
  refine wp_region_mix (none) [(true, 0), (true, 1), (true, 4), (true, 5), (true, 2), (true, 6), (true, 3), (true, 7), (false, 8), (true, 9), (true, 10)] (by kernel_rfl) (by kernel_rfl) (by intro c a d v w h; cases d <;> exact h) ?_
  simp only [pickFlat, List.filterMap_cons, List.filterMap_nil, List.getElem?_cons_succ, List.getElem?_cons_zero, Option.map_some]
  have A0 := wof_at (w₁ := w.drew) (row := none) (a := ⟨b1, o1 + k.toNat * 2, none⟩) t0 (by simp)
  have A1 := wof_at (w₁ := w.drew) (row := none) (a := ⟨b1, o1 + k.toNat * 2 + 1, none⟩) t1 (by simp)
  have B0 := wof_at (w₁ := w.drew) (row := none) (a := ⟨b2, o2 + ix.toNat * 5, none⟩) u0 (by simp)
  have B1 := wof_at (w₁ := w.drew) (row := none) (a := ⟨b2, o2 + ix.toNat * 5 + 1, none⟩) u1 (by simp)
  have B2 := wof_at (w₁ := w.drew) (row := none) (a := ⟨b2, o2 + ix.toNat * 5 + 2, none⟩) u2 (by simp)
  have B3 := wof_at (w₁ := w.drew) (row := none) (a := ⟨b2, o2 + ix.toNat * 5 + 3, none⟩) u3 (by simp)
  have B4 := wof_at (w₁ := w.drew) (row := none) (a := ⟨b2, o2 + ix.toNat * 5 + 4, none⟩) u4 (by simp)
  refine flat_hide (fun W hH hC hN hE => ?_)
  iterate 8 (refine hH.out _ _ _ _ (fun K hK => ?_); go_simp; refine hK _ ?_; clear hK K)
  refine hC.out _ _ _ _ (by first | rfl | go_simp) (fun K hK => ?_)
  simp only [bare]
  go_wp2_with fail
  refine HC.out.mono ?_
  rintro e w2 ⟨rfl, hb1⟩
  have HB1 := Lib.hid hb1
  have HR1 := Lib.hid (show Below w0.heap.size w0 w2 ∧ FlB w2 g9 (geta Fs k) from ⟨HW1.out.1.trans (hb1.mono HW1.out.1.size), HW1.out.2.below hb1⟩)
  clear hb1
  go_wp2_with fail
  refine hK.out _ _ (grown_of_below HB1.out) ?_
  clear hK K
  iterate 2 (refine hH.out _ _ _ _ (fun K hK => ?_); go_simp; refine hK _ ?_; clear hK K)
  refine hE.out _ _ ?_
  clear hH hC hN hE W
  show JS _ _
  refine hS _ _ ?_
  exact ⟨_, Fr.of _ rfl ⟨rfl, rfl, rfl, rfl, rfl, rfl, rfl, rfl, rfl, rfl, trivial⟩, ⟨hpp.out, rfl⟩, HR1.out⟩

set_option maxRecDepth 100000 in
set_option maxHeartbeats 1000000 in
theorem ff18 (w0 : World) (vs vl vf : Value) (S : List SlD) (L : List ScD) (Fs : List FlD) (hs : SlH w0 vs S) (hl : ScH w0 vl L) (hf : FlH w0 vf Fs) (hlen : Hid (Fs.length = S.length)) (k : Int) (g9 : Nat) : T3 Try.prog (fun a w => (Below w0.heap.size w0 w ∧ FlB w g9 (geta Fs k)) ∧ Fr 60 [(0, vs), (1, vl), (2, vf), (7, .int .i64 k), (8, .pointer (some ⟨g9, 0, none⟩)), (9, .int .i64 (scIdx L (geta Fs k).pl)), (15, vf), (16, .int .i64 Fs.length), (17, .int .i64 k)] a) (sel [1, 1, 0, 1, 4, 4, 1, 1, 0, 4, 1, 1, 4, 1, 3, 1, 3, 1, 3, 1, 3, 1, 2, 0] ffR) (fun a w => (Below w0.heap.size w0 w) ∧ Fr 60 [(6, .int .i64 10)] a) No 9 (fun a w => Fr 60 [(6, .int .i64 (fillsE S L Fs))] a ∧ Below w0.heap.size w0 w) := by
  refine T3.leaf ?_
  rintro Q JS JX JT K hS hK hX hE hT hR a w ⟨hW, ⟨fr, rfl, q0, q1, q2, q7, q8, q9, q15, q16, q17, _⟩⟩
  have HW := Lib.hid hW
  clear hW
  obtain ⟨p1, c1, hv1⟩ := hs.r.shape
  subst hv1
  obtain ⟨p2, c2, hv2⟩ := hl.r.shape
  subst hv2
  obtain ⟨p3, c3, hv3⟩ := hf.r.shape
  subst hv3
  generalize scIdx L (geta Fs k).pl = ix at *
  rw [fr_ffR, show fr 0 = _ from q0, show fr 1 = _ from q1, show fr 2 = _ from q2, show fr 7 = _ from q7, show fr 8 = _ from q8, show fr 9 = _ from q9, show fr 15 = _ from q15, show fr 16 = _ from q16, show fr 17 = _ from q17]
  clear q0 q1 q2 q7 q8 q9 q15 q16 q17
  conv => arg 2; whnf
  go_wp2_with fail
  refine Met.intro (hS _ _ ?_)
  exact ⟨HW.out.1, Fr.of _ rfl ⟨rfl, trivial⟩⟩

set_option maxRecDepth 100000 in
set_option maxHeartbeats 1000000 in
theorem ff20 (w0 : World) (vs vl vf : Value) (S : List SlD) (L : List ScD) (Fs : List FlD) (hs : SlH w0 vs S) (hl : ScH w0 vl L) (hf : FlH w0 vf Fs) : T3 Try.prog (fun a w => (Below w0.heap.size w0 w) ∧ Fr 60 [] a) (sel [1, 1, 1, 0] ffR) (fun a w => (Below w0.heap.size w0 w) ∧ Fr 60 [(6, .int .i64 0)] a) No 9 (fun a w => Fr 60 [(6, .int .i64 (fillsE S L Fs))] a ∧ Below w0.heap.size w0 w) := by
  refine T3.leaf ?_
  rintro Q JS JX JT K hS hK hX hE hT hR a w ⟨hW, ⟨fr, rfl, _⟩⟩
  have HW := Lib.hid hW
  clear hW
  rw [fr_ffR]
  conv => arg 2; whnf
  go_wp2_with fail
  refine Met.intro (hS _ _ ?_)
  exact ⟨HW.out, Fr.of _ rfl ⟨rfl, trivial⟩⟩

set_option maxRecDepth 100000 in
set_option maxHeartbeats 1000000 in
theorem ffb (w0 : World) (vs vl vf : Value) (S : List SlD) (L : List ScD) (Fs : List FlD) (hs : SlH w0 vs S) (hl : ScH w0 vl L) (hf : FlH w0 vf Fs) (hlen : Hid (Fs.length = S.length)) (k : Int) : T3 Try.prog (fun a w => ((0 ≤ k ∧ k < Fs.length) ∧ NoErr (fillAt S L Fs) k) ∧ (Below w0.heap.size w0 w) ∧ Fr 60 [(0, vs), (1, vl), (2, vf), (15, vf), (16, .int .i64 Fs.length), (17, .int .i64 k)] a) (sel [1, 1, 0, 1, 4, 4, 1, 1, 0] ffR) (fun a w => ((0 ≤ k ∧ k < Fs.length) ∧ NoErr (fillAt S L Fs) (k + 1)) ∧ (Below w0.heap.size w0 w) ∧ Fr 60 [(0, vs), (1, vl), (2, vf), (15, vf), (16, .int .i64 Fs.length), (17, .int .i64 k)] a) No 100 (fun a w => Fr 60 [(6, .int .i64 (fillsE S L Fs))] a ∧ Below w0.heap.size w0 w) := by
  refine T3.block (id' := 1) (c := (sel [1, 1, 0, 1, 4, 4, 1, 1, 0, 4] ffR)) (by decide) ?_
  refine T3.seq (s := (sel [1, 1, 0, 1, 4, 4, 1, 1, 0, 4, 0] ffR)) (c := (sel [1, 1, 0, 1, 4, 4, 1, 1, 0, 4, 1] ffR)) ((ff8 w0 vs vl vf S L Fs hs hl hf hlen k).noX) (T3.ex fun g9 => ?_)
  refine T3.seq (s := (sel [1, 1, 0, 1, 4, 4, 1, 1, 0, 4, 1, 0] ffR)) (c := (sel [1, 1, 0, 1, 4, 4, 1, 1, 0, 4, 1, 1] ffR)) ((ff12 w0 vs vl vf S L Fs hs hl hf hlen k g9).noX) ?_
  refine T3.block (id' := 2) (c := (sel [1, 1, 0, 1, 4, 4, 1, 1, 0, 4, 1, 1, 4] ffR)) (by decide) ?_
  refine T3.test (s := (sel [1, 1, 0, 1, 4, 4, 1, 1, 0, 4, 1, 1, 4, 0] ffR)) (x := (sel [1, 1, 0, 1, 4, 4, 1, 1, 0, 4, 1, 1, 4, 1, 2] ffR)) (y := (sel [1, 1, 0, 1, 4, 4, 1, 1, 0, 4, 1, 1, 4, 1, 3] ffR)) (C := fun q => (((0 ≤ k ∧ k < Fs.length) ∧ NoErr (fillAt S L Fs) k) ∧ q = decide ((geta Fs k).sl ≠ (geta S k).key))) (W := fun w => Below w0.heap.size w0 w ∧ FlB w g9 (geta Fs k)) (by decide) ((ff9 w0 vs vl vf S L Fs hs hl hf hlen k g9).noX) ?_ ?_
  · refine T3.seq (s := (sel [1, 1, 0, 1, 4, 4, 1, 1, 0, 4, 1, 1, 4, 1, 2, 0] ffR)) (c := .ret) (t3_seqx (p := ((0 ≤ k ∧ k < Fs.length) ∧ NoErr (fillAt S L Fs) k) ∧ (geta Fs k).sl ≠ (geta S k).key) ((ff10 w0 vs vl vf S L Fs hs hl hf hlen k g9).noX) ?_) (T3.ret ?_)
    · rintro a w ⟨hF, ⟨hk, hq⟩, hW⟩
      exact ⟨⟨hk, of_decide_eq_true hq.symm⟩, hW, hF.tail⟩
    · rintro a w ⟨⟨hk, hne⟩, hW, hF⟩
      have e : fillAt S L Fs k = 8 := fa_slot hne
      exact ⟨by rw [fillsE_hit hlen.out hk.1.1 hk.1.2 hk.2 (by rw [e]; decide), e]; exact hF, hW⟩
  refine T3.pre (R := fun a w => ((geta Fs k).sl = (geta S k).key) ∧ ((0 ≤ k ∧ k < Fs.length) ∧ NoErr (fillAt S L Fs) k) ∧ (Below w0.heap.size w0 w ∧ FlB w g9 (geta Fs k)) ∧ Fr 60 [(0, vs), (1, vl), (2, vf), (7, .int .i64 k), (8, .pointer (some ⟨g9, 0, none⟩)), (9, .int .i64 (scIdx L (geta Fs k).pl)), (15, vf), (16, .int .i64 Fs.length), (17, .int .i64 k)] a) (T3.pure fun he => ?_) (fun a w q => ⟨by simpa using q.1.2.symm, q.1.1, q.2.1, q.2.2⟩)
  refine T3.test (s := (sel [1, 1, 0, 1, 4, 4, 1, 1, 0, 4, 1, 1, 4, 1, 3, 0] ffR)) (x := .skip) (y := (sel [1, 1, 0, 1, 4, 4, 1, 1, 0, 4, 1, 1, 4, 1, 3, 1, 3] ffR)) (C := fun q => (((0 ≤ k ∧ k < Fs.length) ∧ NoErr (fillAt S L Fs) k) ∧ q = decide ((geta Fs k).pl = ByteArray.empty))) (W := fun w => Below w0.heap.size w0 w ∧ FlB w g9 (geta Fs k)) (by decide) ((ff11 w0 vs vl vf S L Fs hs hl hf hlen k g9).noX) (T3.skip ?_) ?_
  · rintro a w ⟨hF, ⟨hk, hq⟩, hW⟩
    exact ⟨⟨hk.1, hk.2.step (fa_none he (of_decide_eq_true hq.symm))⟩, hW.1, hF.sub (by simp)⟩
  refine T3.pre (R := fun a w => ((geta Fs k).pl ≠ ByteArray.empty) ∧ ((0 ≤ k ∧ k < Fs.length) ∧ NoErr (fillAt S L Fs) k) ∧ (Below w0.heap.size w0 w ∧ FlB w g9 (geta Fs k)) ∧ Fr 60 [(0, vs), (1, vl), (2, vf), (7, .int .i64 k), (8, .pointer (some ⟨g9, 0, none⟩)), (9, .int .i64 (scIdx L (geta Fs k).pl)), (15, vf), (16, .int .i64 Fs.length), (17, .int .i64 k)] a) (T3.pure fun hne0 => ?_) (fun a w q => ⟨of_decide_eq_false q.1.2.symm, q.1.1, q.2.1, q.2.2⟩)
  refine T3.test (s := (sel [1, 1, 0, 1, 4, 4, 1, 1, 0, 4, 1, 1, 4, 1, 3, 1, 3, 0] ffR)) (x := (sel [1, 1, 0, 1, 4, 4, 1, 1, 0, 4, 1, 1, 4, 1, 3, 1, 3, 1, 2] ffR)) (y := (sel [1, 1, 0, 1, 4, 4, 1, 1, 0, 4, 1, 1, 4, 1, 3, 1, 3, 1, 3] ffR)) (C := fun q => (((0 ≤ k ∧ k < Fs.length) ∧ NoErr (fillAt S L Fs) k) ∧ q = decide ((scIdx L (geta Fs k).pl) < 0))) (W := fun w => Below w0.heap.size w0 w ∧ FlB w g9 (geta Fs k)) (by decide) ((ff13 w0 vs vl vf S L Fs hs hl hf hlen k g9).noX) ?_ ?_
  · refine T3.seq (s := (sel [1, 1, 0, 1, 4, 4, 1, 1, 0, 4, 1, 1, 4, 1, 3, 1, 3, 1, 2, 0] ffR)) (c := .ret) (t3_seqx (p := ((0 ≤ k ∧ k < Fs.length) ∧ NoErr (fillAt S L Fs) k) ∧ (scIdx L (geta Fs k).pl) < 0) ((ff14 w0 vs vl vf S L Fs hs hl hf hlen k g9).noX) ?_) (T3.ret ?_)
    · rintro a w ⟨hF, ⟨hk, hq⟩, hW⟩
      exact ⟨⟨hk, of_decide_eq_true hq.symm⟩, hW, hF.tail⟩
    · rintro a w ⟨⟨hk, hne⟩, hW, hF⟩
      have e : fillAt S L Fs k = 8 := fa_no he hne0 hne
      exact ⟨by rw [fillsE_hit hlen.out hk.1.1 hk.1.2 hk.2 (by rw [e]; decide), e]; exact hF, hW⟩
  refine T3.pre (R := fun a w => (¬ (scIdx L (geta Fs k).pl) < 0) ∧ ((0 ≤ k ∧ k < Fs.length) ∧ NoErr (fillAt S L Fs) k) ∧ (Below w0.heap.size w0 w ∧ FlB w g9 (geta Fs k)) ∧ Fr 60 [(0, vs), (1, vl), (2, vf), (7, .int .i64 k), (8, .pointer (some ⟨g9, 0, none⟩)), (9, .int .i64 (scIdx L (geta Fs k).pl)), (15, vf), (16, .int .i64 Fs.length), (17, .int .i64 k)] a) (T3.pure fun hix => ?_) (fun a w q => ⟨of_decide_eq_false q.1.2.symm, q.1.1, q.2.1, q.2.2⟩)
  refine T3.test (s := (sel [1, 1, 0, 1, 4, 4, 1, 1, 0, 4, 1, 1, 4, 1, 3, 1, 3, 1, 3, 0] ffR)) (x := (sel [1, 1, 0, 1, 4, 4, 1, 1, 0, 4, 1, 1, 4, 1, 3, 1, 3, 1, 3, 1, 2] ffR)) (y := (sel [1, 1, 0, 1, 4, 4, 1, 1, 0, 4, 1, 1, 4, 1, 3, 1, 3, 1, 3, 1, 3] ffR)) (C := fun q => (((0 ≤ k ∧ k < Fs.length) ∧ NoErr (fillAt S L Fs) k) ∧ q = fillDup Fs k)) (W := fun w => Below w0.heap.size w0 w ∧ FlB w g9 (geta Fs k)) (by decide) ((ff15 w0 vs vl vf S L Fs hs hl hf hlen k g9).noX) ?_ ?_
  · refine T3.seq (s := (sel [1, 1, 0, 1, 4, 4, 1, 1, 0, 4, 1, 1, 4, 1, 3, 1, 3, 1, 3, 1, 2, 0] ffR)) (c := .ret) (t3_seqx (p := ((0 ≤ k ∧ k < Fs.length) ∧ NoErr (fillAt S L Fs) k) ∧ fillDup Fs k = true) ((ff16 w0 vs vl vf S L Fs hs hl hf hlen k g9).noX) ?_) (T3.ret ?_)
    · rintro a w ⟨hF, ⟨hk, hq⟩, hW⟩
      exact ⟨⟨hk, hq.symm⟩, hW, hF.tail⟩
    · rintro a w ⟨⟨hk, hne⟩, hW, hF⟩
      have e : fillAt S L Fs k = 6 := fa_dup he hne0 hix hne
      exact ⟨by rw [fillsE_hit hlen.out hk.1.1 hk.1.2 hk.2 (by rw [e]; decide), e]; exact hF, hW⟩
  refine T3.pre (R := fun a w => (fillDup Fs k = false) ∧ ((0 ≤ k ∧ k < Fs.length) ∧ NoErr (fillAt S L Fs) k) ∧ (Below w0.heap.size w0 w ∧ FlB w g9 (geta Fs k)) ∧ Fr 60 [(0, vs), (1, vl), (2, vf), (7, .int .i64 k), (8, .pointer (some ⟨g9, 0, none⟩)), (9, .int .i64 (scIdx L (geta Fs k).pl)), (15, vf), (16, .int .i64 Fs.length), (17, .int .i64 k)] a) (T3.pure fun hdu => ?_) (fun a w q => ⟨q.1.2.symm, q.1.1, q.2.1, q.2.2⟩)
  refine T3.test (s := (sel [1, 1, 0, 1, 4, 4, 1, 1, 0, 4, 1, 1, 4, 1, 3, 1, 3, 1, 3, 1, 3, 0] ffR)) (x := (sel [1, 1, 0, 1, 4, 4, 1, 1, 0, 4, 1, 1, 4, 1, 3, 1, 3, 1, 3, 1, 3, 1, 2] ffR)) (y := .skip) (C := fun q => (((0 ≤ k ∧ k < Fs.length) ∧ NoErr (fillAt S L Fs) k) ∧ q = !commonB (geta L (scIdx L (geta Fs k).pl)).ps (geta S k).ps)) (W := fun w => Below w0.heap.size w0 w ∧ FlB w g9 (geta Fs k)) (by decide) ((ff17 w0 vs vl vf S L Fs hs hl hf hlen k g9 hix).noX) ?_ (T3.skip ?_)
  · refine T3.seq (s := (sel [1, 1, 0, 1, 4, 4, 1, 1, 0, 4, 1, 1, 4, 1, 3, 1, 3, 1, 3, 1, 3, 1, 2, 0] ffR)) (c := .ret) (t3_seqx (p := ((0 ≤ k ∧ k < Fs.length) ∧ NoErr (fillAt S L Fs) k) ∧ commonB (geta L (scIdx L (geta Fs k).pl)).ps (geta S k).ps = false) ((ff18 w0 vs vl vf S L Fs hs hl hf hlen k g9).noX) ?_) (T3.ret ?_)
    · rintro a w ⟨hF, ⟨hk, hq⟩, hW⟩
      exact ⟨⟨hk, by simpa using hq.symm⟩, hW, hF.tail⟩
    · rintro a w ⟨⟨hk, hne⟩, hW, hF⟩
      have e : fillAt S L Fs k = 10 := by rw [fa_fit he hne0 hix hdu, if_pos hne]
      exact ⟨by rw [fillsE_hit hlen.out hk.1.1 hk.1.2 hk.2 (by rw [e]; decide), e]; exact hF, hW⟩
  · rintro a w ⟨⟨hk, hq⟩, hW, hF⟩
    refine ⟨⟨hk.1, hk.2.step ?_⟩, hW.1, hF.sub (by simp)⟩
    rw [fa_fit he hne0 hix hdu, if_neg (by simpa using hq.symm)]

def ffLI (w0 : World) (vs vl vf : Value) (S : List SlD) (L : List ScD) (Fs : List FlD) (hs : SlH w0 vs S) (hl : ScH w0 vl L) (hf : FlH w0 vf Fs) (hlen : Hid (Fs.length = S.length)) (k : Int) (a : Act) (w : World) : Prop := (0 ≤ k ∧ k ≤ Fs.length) ∧ (NoErr (fillAt S L Fs) k) ∧ (Below w0.heap.size w0 w) ∧ Fr 60 [(0, vs), (1, vl), (2, vf), (15, vf), (16, .int .i64 Fs.length), (17, .int .i64 k)] a
set_option maxRecDepth 100000 in
set_option maxHeartbeats 1000000 in
theorem ffLt (w0 : World) (vs vl vf : Value) (S : List SlD) (L : List ScD) (Fs : List FlD) (hs : SlH w0 vs S) (hl : ScH w0 vl L) (hf : FlH w0 vf Fs) (hlen : Hid (Fs.length = S.length)) (k : Int) : T3 Try.prog (fun a w => ffLI w0 vs vl vf S L Fs hs hl hf hlen k a w) (sel [1, 1, 0, 1, 4, 4, 0] ffR) (fun a w => ∃ q, Fr 60 ((18, .bool q) :: [(17, .int .i64 k)]) a ∧ ((q = true ↔ k < Fs.length) ∧ ffLI w0 vs vl vf S L Fs hs hl hf hlen k a w)) No 9 (fun a w => Fr 60 [(6, .int .i64 (fillsE S L Fs))] a ∧ Below w0.heap.size w0 w) := by
  refine T3.leaf ?_
  rintro Q JS JX JT K hS hK hX hE hT hR a w ⟨hk, hpre, hW, ⟨fr, rfl, q0, q1, q2, q15, q16, q17, _⟩⟩
  have hln := hf.n
  rw [fr_ffR, show fr 0 = _ from q0, show fr 1 = _ from q1, show fr 2 = _ from q2, show fr 15 = _ from q15, show fr 16 = _ from q16, show fr 17 = _ from q17]
  clear q0 q1 q2 q15 q16 q17
  conv => arg 2; whnf
  by_cases hlt : k < Fs.length
  · go_wp2_with fail
    refine Met.intro (hS _ _ ?_)
    exact ⟨true, Fr.of _ rfl ⟨rfl, rfl, trivial⟩, ⟨fun _ => hlt, fun _ => rfl⟩, hk, hpre, hW, Fr.of _ rfl ⟨rfl, rfl, rfl, rfl, rfl, rfl, trivial⟩⟩
  · have hpb : decide (k < (Fs.length : Int)) = false := by simp; omega
    go_wp2_with fail
    refine Met.intro (hS _ _ ?_)
    exact ⟨false, Fr.of _ rfl ⟨rfl, rfl, trivial⟩, ⟨(fun h => by cases h), fun h => absurd h (by omega)⟩, hk, hpre, hW, Fr.of _ rfl ⟨rfl, rfl, rfl, rfl, rfl, rfl, trivial⟩⟩

set_option maxRecDepth 100000 in
set_option maxHeartbeats 1000000 in
theorem ffLn (w0 : World) (vs vl vf : Value) (S : List SlD) (L : List ScD) (Fs : List FlD) (hs : SlH w0 vs S) (hl : ScH w0 vl L) (hf : FlH w0 vf Fs) (hlen : Hid (Fs.length = S.length)) (k : Int) : T3 Try.prog (fun a w => (0 ≤ k ∧ k < Fs.length) ∧ (NoErr (fillAt S L Fs) (k + 1)) ∧ (Below w0.heap.size w0 w) ∧ Fr 60 [(0, vs), (1, vl), (2, vf), (15, vf), (16, .int .i64 Fs.length), (17, .int .i64 k)] a) (sel [1, 1, 0, 1, 4, 4, 1, 1, 1] ffR) (fun a w => ffLI w0 vs vl vf S L Fs hs hl hf hlen (k + 1) a w) No 9 (fun a w => Fr 60 [(6, .int .i64 (fillsE S L Fs))] a ∧ Below w0.heap.size w0 w) := by
  refine T3.leaf ?_
  rintro Q JS JX JT K hS hK hX hE hT hR a w ⟨hk, hpre, hW, ⟨fr, rfl, q0, q1, q2, q15, q16, q17, _⟩⟩
  obtain ⟨hk0, hk1⟩ := hk
  have hln := hf.n
  rw [fr_ffR, show fr 0 = _ from q0, show fr 1 = _ from q1, show fr 2 = _ from q2, show fr 15 = _ from q15, show fr 16 = _ from q16, show fr 17 = _ from q17]
  clear q0 q1 q2 q15 q16 q17
  conv => arg 2; whnf
  go_wp2_with fail
  refine Met.intro (hS _ _ ?_)
  exact ⟨⟨by omega, by omega⟩, hpre, hW, Fr.of _ rfl ⟨rfl, rfl, rfl, rfl, rfl, rfl, trivial⟩⟩

set_option maxRecDepth 100000 in
set_option maxHeartbeats 1000000 in
theorem ffLloop (w0 : World) (vs vl vf : Value) (S : List SlD) (L : List ScD) (Fs : List FlD) (hs : SlH w0 vs S) (hl : ScH w0 vl L) (hf : FlH w0 vf Fs) (hlen : Hid (Fs.length = S.length)) : T3 Try.prog (fun a w => ffLI w0 vs vl vf S L Fs hs hl hf hlen 0 a w) (sel [1, 1, 0, 1] ffR) (fun a w => (NoErr (fillAt S L Fs) Fs.length) ∧ (Below w0.heap.size w0 w) ∧ Fr 60 [] a) No 9 (fun a w => Fr 60 [(6, .int .i64 (fillsE S L Fs))] a ∧ Below w0.heap.size w0 w) := by
  refine T3.loop (c := (sel [1, 1, 0, 1, 4, 4] ffR)) (fun ng_ a w => ∃ k : Int, (ng_ : Int) = Fs.length - k ∧ ffLI w0 vs vl vf S L Fs hs hl hf hlen k a w) (fun a w h => ⟨(Fs.length : Int).toNat, 0, by have := h.1.2; omega, h⟩) (fun ng_ => T3.ex fun k => T3.pure fun hng_ => ?_)
  refine T3.seq (s := (sel [1, 1, 0, 1, 4, 4, 0] ffR)) (c := (sel [1, 1, 0, 1, 4, 4, 1] ffR)) ((ffLt w0 vs vl vf S L Fs hs hl hf hlen k).noX) ?_
  refine T3.seq (s := (sel [1, 1, 0, 1, 4, 4, 1, 0] ffR)) (c := (sel [1, 1, 0, 1, 4, 4, 1, 1] ffR)) (S := fun a w => (0 ≤ k ∧ k < Fs.length) ∧ (NoErr (fillAt S L Fs) k) ∧ (Below w0.heap.size w0 w) ∧ Fr 60 [(0, vs), (1, vl), (2, vf), (15, vf), (16, .int .i64 Fs.length), (17, .int .i64 k)] a) ?_ (T3.seq (s := (sel [1, 1, 0, 1, 4, 4, 1, 1, 0] ffR)) (c := (sel [1, 1, 0, 1, 4, 4, 1, 1, 1] ffR)) (S := fun a w => (0 ≤ k ∧ k < Fs.length) ∧ (NoErr (fillAt S L Fs) (k + 1)) ∧ (Below w0.heap.size w0 w) ∧ Fr 60 [(0, vs), (1, vl), (2, vf), (15, vf), (16, .int .i64 Fs.length), (17, .int .i64 k)] a) (T3.noX (T3.mono (R' := fun a w => (0 ≤ k ∧ k < Fs.length) ∧ (NoErr (fillAt S L Fs) k) ∧ (Below w0.heap.size w0 w) ∧ Fr 60 [(0, vs), (1, vl), (2, vf), (15, vf), (16, .int .i64 Fs.length), (17, .int .i64 k)] a) (S' := fun a w => (0 ≤ k ∧ k < Fs.length) ∧ (NoErr (fillAt S L Fs) (k + 1)) ∧ (Below w0.heap.size w0 w) ∧ Fr 60 [(0, vs), (1, vl), (2, vf), (15, vf), (16, .int .i64 Fs.length), (17, .int .i64 k)] a) (ffb w0 vs vl vf S L Fs hs hl hf hlen k) (fun a w ⟨hk, hp, hI⟩ => ⟨⟨hk, hp⟩, hI⟩) (fun a w ⟨⟨hk, hp⟩, hI⟩ => ⟨hk, hp, hI⟩) (fun _ _ q => q) (fun _ _ q => q))) ?_)
  · refine T3.cond (o := .tmp 18) (x := .skip) (y := .exit 0) (fun a w => k < Fs.length ∧ ffLI w0 vs vl vf S L Fs hs hl hf hlen k a w) (fun a w => ¬ k < Fs.length ∧ ffLI w0 vs vl vf S L Fs hs hl hf hlen k a w) ?_ (T3.skip ?_) (T3.exit ?_)
    · rintro a w ⟨q, hF, hq, hI⟩
      have he := hF.eval 18 (by decide) (v := .bool q) (by simp)
      cases q
      · exact .inr ⟨he, (fun h => by have := hq.2 h; cases this), hI⟩
      · exact .inl ⟨he, hq.1 rfl, hI⟩
    · rintro a w ⟨hlt, hk, hI⟩
      exact ⟨⟨hk.1, hlt⟩, hI⟩
    · rintro a w ⟨hlt, hk, hI⟩
      obtain rfl : k = Fs.length := by omega
      obtain ⟨hn, hW, hF⟩ := hI
      exact ⟨hn, hW, hF.sub (by simp)⟩
  · intro a w hx
    have hk := hx.1
    exact (((ffLn w0 vs vl vf S L Fs hs hl hf hlen k).noX).post (fun a w q => ⟨ng_ - 1, by omega, k + 1, by omega, q⟩)) a w hx
set_option maxRecDepth 100000 in
set_option maxHeartbeats 1000000 in
theorem ff_all (w0 : World) (vs vl vf : Value) (S : List SlD) (L : List ScD) (Fs : List FlD) (hs : SlH w0 vs S) (hl : ScH w0 vl L) (hf : FlH w0 vf Fs) : T3 Try.prog (fun a w => (Below w0.heap.size w0 w) ∧ Fr 60 [(0, vs), (1, vl), (2, vf)] a) ffR No No 9 (fun a w => Fr 60 [(6, .int .i64 (fillsE S L Fs))] a ∧ Below w0.heap.size w0 w) := by
  refine T3.seq (s := (sel [0] ffR)) (c := (sel [1] ffR)) (ff0 w0 vs vl vf S L Fs hs hl hf) ?_
  refine T3.seq (s := (sel [1, 0] ffR)) (c := (sel [1, 1] ffR)) (S := fun a w => (Fs.length = S.length) ∧ (Below w0.heap.size w0 w) ∧ Fr 60 [(0, vs), (1, vl), (2, vf)] a) ?_ (T3.pure fun hlen => ?_)
  · refine T3.test (s := (sel [1, 0, 0] ffR)) (x := (sel [1, 0, 1, 2] ffR)) (y := .skip) (C := fun q => (q = ((Fs.length : Int) != (S.length : Int)))) (W := fun w => Below w0.heap.size w0 w) (by decide) (ff4 w0 vs vl vf S L Fs hs hl hf) ?_ (T3.skip ?_)
    · refine T3.seq (s := (sel [1, 0, 1, 2, 0] ffR)) (c := .ret) (t3_seqx (p := Fs.length ≠ S.length) (ff5 w0 vs vl vf S L Fs hs hl hf) ?_) (T3.ret ?_)
      · rintro a w ⟨hF, hq, hW⟩
        exact ⟨by have := hq.symm; simp at this; omega, hW, hF.tail⟩
      · rintro a w ⟨hp, hW, hF⟩
        exact ⟨by rw [fillsE_len hp]; exact hF, hW⟩
    · rintro a w ⟨hq, hW, hF⟩
      exact ⟨by have := hq.symm; simp at this; omega, hW, hF⟩
  refine T3.seq (s := (sel [1, 1, 0] ffR)) (c := (sel [1, 1, 1] ffR)) (T3.seq (s := (sel [1, 1, 0, 0] ffR)) (c := (sel [1, 1, 0, 1] ffR)) (ff6 w0 vs vl vf S L Fs hs hl hf (Lib.hid hlen)) (ffLloop w0 vs vl vf S L Fs hs hl hf (Lib.hid hlen))) (T3.pure fun hn => ?_)
  refine T3.seq (s := (sel [1, 1, 1, 0] ffR)) (c := .ret) (ff20 w0 vs vl vf S L Fs hs hl hf) (T3.ret ?_)
  rintro a w ⟨hW, hF⟩
  exact ⟨by rw [fillsE_ok hlen hn]; exact hF, hW⟩

set_option maxRecDepth 100000 in
set_option maxHeartbeats 1000000 in
theorem fills_ref (w0 : World) (vs vl vf : Value) (S : List SlD) (L : List ScD) (Fs : List FlD) (hs : SlH w0 vs S) (hl : ScH w0 vl L) (hf : FlH w0 vf Fs) : Calls Try.prog 10 #[vs, vl, vf] w0 fun e w' => e = .returned (.int .i64 (fillsE S L Fs)) ∧ Below w0.heap.size w0 w' := by
  have hall := ff_all w0 vs vl vf S L Fs hs hl hf
  go_enter Try.func10, Try.ntmps10
  refine T3.done (s := ffR) hall ⟨Below.refl _ _, Fr.of _ rfl ⟨rfl, rfl, rfl, trivial⟩⟩ ?_
  rintro a w ⟨⟨fr, rfl, q6, _⟩, hw⟩
  rw [fr_ffR, show fr 6 = _ from q6]
  go_ret
  exact ⟨rfl, hw⟩
end Go.Proofs.Ytnmdpphddimfbaa
/-
  A worth that the stream hands out. Conditions: the bounds that each theorem names.
-/
set_option linter.unusedVariables false
namespace Go.Proofs.Ytnmdpphddimfbaa
open Go.RowKit Go.Bw
def encP (p : Int × Int) : List Value := [.int .i64 p.1, .int .i64 p.2]
def i64ok (n : Int) : Bool := decide (-9223372036854775808 ≤ n) && decide (n ≤ 9223372036854775807)
def worthL : List (Int × Int) := [(1, 1), (4, 1), (1, 25), (1, 2), (-2, 1), (0, 1), (7, 100)]
def worthO : List (Int × Int) := [(2, 4), (1, 3), (1, 0), (-1, -1), (1, 200), (10001, 1), (-9223372036854775808, 1), (1, 4611686018427387904), (0, 2)]
theorem worthL_ok : (worthL.all fun p => i64ok p.1 && i64ok p.2) = true := by decide +kernel
theorem worthO_ok : (worthO.all fun p => i64ok p.1 && i64ok p.2) = true := by decide +kernel
/-- A fraction within Go's numbers. -/
structure FracOk (p : Int × Int) : Prop where
  n0 : -9223372036854775808 ≤ p.1
  n1 : p.1 ≤ 9223372036854775807
  d0 : -9223372036854775808 ≤ p.2
  d1 : p.2 ≤ 9223372036854775807
theorem frac_ok {l : List (Int × Int)} (h : (l.all fun p => i64ok p.1 && i64ok p.2) = true) : ∀ p ∈ l, FracOk p := by
  intro p hp
  have := List.all_eq_true.1 h p hp
  simp only [i64ok, Bool.and_eq_true, decide_eq_true_eq] at this
  exact ⟨this.1.1, this.1.2, this.2.1, this.2.2⟩
theorem fr_cells {w : World} {g : Nat} {l : List (Int × Int)} {cs : List Value} (h : Blk w g cs) (hcs : cs = cellsOf encP l) (r : Int) (h0 : 0 ≤ r) (h1 : r < l.length) :
    w.cell? ⟨g, r.toNat * 2, none⟩ = some (.int .i64 (geta l r).1) ∧ w.cell? ⟨g, r.toNat * 2 + 1, none⟩ = some (.int .i64 (geta l r).2) := by
  subst hcs
  have e := geta_eq l r h0 h1
  refine ⟨h.2.1 (r.toNat * 2) _ ?_, h.2.1 (r.toNat * 2 + 1) _ ?_⟩
  · have := cellsOf_get encP 2 (fun _ => rfl) l r.toNat (by omega) 0 (by decide)
    rw [Nat.add_zero] at this
    rw [this, e]; rfl
  · rw [cellsOf_get encP 2 (fun _ => rfl) l r.toNat (by omega) 1 (by decide), e]; rfl
noncomputable def worthB : Code := (Try.f27.body).getD .skip
set_option maxRecDepth 100000 in
theorem frame33 (f : Nat → Value) : frame 33 f = ⟨#[f 0, f 1, f 2, f 3, f 4, f 5, f 6, f 7, f 8, f 9, f 10, f 11, f 12, f 13, f 14, f 15, f 16, f 17, f 18, f 19, f 20, f 21, f 22, f 23, f 24, f 25, f 26, f 27, f 28, f 29, f 30, f 31, f 32], []⟩ := by rfl

structure Wo (w0 : World) (B b g3 : Nat) (p : Int × Int) (w : World) : Prop where
  dr : Drawn B w0 w b
  hB : B < w0.heap.size
  h3 : w0.heap.size < g3
  res : Blk w w0.heap.size [.int .i64 0, .int .i64 0]
  fr : Blk w g3 (encP p)
  ok : FracOk p
set_option maxRecDepth 100000 in
set_option maxHeartbeats 1000000 in
theorem wo1 (w0 : World) (B b : Nat) (hb : b ≤ 100000) (hS : Str B w0 b) : T3 Try.prog (fun a w => w = w0.alloc (.cells #[.int .i64 0, .int .i64 0] 61) ∧ Fr 33 [(0, .pointer (some ⟨B, 0, none⟩)), (2, .pointer (some ⟨w0.heap.size, 0, none⟩))] a) (sel [1, 0] worthB) (fun a w => ∃ (g3 : Nat) (p : Int × Int), Wo w0 B (b + 1) g3 p w ∧ Fr 33 [(0, .pointer (some ⟨B, 0, none⟩)), (2, .pointer (some ⟨w0.heap.size, 0, none⟩)), (3, .pointer (some ⟨g3, 0, none⟩))] a) No 9 (fun a w => ∃ p : Int × Int, Fr 33 [(2, .pointer (some ⟨w0.heap.size, 0, none⟩))] a ∧ Blk w w0.heap.size (encP p) ∧ FracOk p ∧ Drawn B w0 w (b + 3)) := by
  refine T3.leaf ?_
  rintro Q JS JX JT K hS_ hK hX hE hT hR a w ⟨hw, ⟨f, rfl, q0, q2, _⟩⟩
  have hlt := hS.lt
  have hD0 := (Drawn.refl hS).alloc (.cells #[.int .i64 0, .int .i64 0] 61)
  have hR := Blk.new w0 #[.int .i64 0, .int .i64 0] 61
  have hsz : (w0.alloc (.cells #[.int .i64 0, .int .i64 0] 61)).heap.size = w0.heap.size + 1 := by simp
  rw [← hw] at hD0 hR hsz
  clear hw
  have hL := Blk.new w #[.int .i64 1, .int .i64 1, .int .i64 4, .int .i64 1, .int .i64 1, .int .i64 25, .int .i64 1, .int .i64 2, .int .i64 (-2), .int .i64 1, .int .i64 0, .int .i64 1, .int .i64 7, .int .i64 100] 61
  replace hD0 := hD0.alloc (.cells #[.int .i64 1, .int .i64 1, .int .i64 4, .int .i64 1, .int .i64 1, .int .i64 25, .int .i64 1, .int .i64 2, .int .i64 (-2), .int .i64 1, .int .i64 0, .int .i64 1, .int .i64 7, .int .i64 100] 61)
  replace hR := hR.alloc (.cells #[.int .i64 1, .int .i64 1, .int .i64 4, .int .i64 1, .int .i64 1, .int .i64 25, .int .i64 1, .int .i64 2, .int .i64 (-2), .int .i64 1, .int .i64 0, .int .i64 1, .int .i64 7, .int .i64 100] 61)
  have hsz2 : (w.alloc (.cells #[.int .i64 1, .int .i64 1, .int .i64 4, .int .i64 1, .int .i64 1, .int .i64 25, .int .i64 1, .int .i64 2, .int .i64 (-2), .int .i64 1, .int .i64 0, .int .i64 1, .int .i64 7, .int .i64 100] 61)).heap.size = w0.heap.size + 2 := by simp; omega
  have Hz := Lib.hid hsz
  have Hz2 := Lib.hid hsz2
  clear hsz hsz2
  rw [frame33, show f 0 = .pointer (some ⟨B, 0, none⟩) from q0, show f 2 = .pointer (some ⟨w0.heap.size, 0, none⟩) from q2]
  clear q0 q2
  conv => arg 2; whnf
  go_wp2_with fail
  generalize w.alloc (.cells #[.int .i64 1, .int .i64 1, .int .i64 4, .int .i64 1, .int .i64 1, .int .i64 25, .int .i64 1, .int .i64 2, .int .i64 (-2), .int .i64 1, .int .i64 0, .int .i64 1, .int .i64 7, .int .i64 100] 61) = W at *
  refine (next_d B _ 7 _ hD0.str (by decide) (by decide) (by omega)).mono ?_
  rintro e w1 ⟨r, rfl, hr0, hr1, hd⟩
  have hz := Hz.out
  have hz2 := Hz2.out
  replace hD0 := hD0.trans hd
  replace hR := hR.drawn hd (by omega)
  replace hL := hL.drawn hd (by omega)
  have hs1 := hd.size
  obtain ⟨c0, c1⟩ := fr_cells (l := worthL) hL rfl r hr0 hr1
  have hok := frac_ok worthL_ok _ (geta_mem hr0 hr1)
  clear hd hL hz hz2
  generalize geta worthL r = p at *
  go_wp2_with fail
  have hz := Hz.out
  have hz2 := Hz2.out
  refine Met.intro (hS_ _ _ ?_)
  exact ⟨w1.heap.size, p, ⟨hD0.alloc _, hlt, by omega, hR.alloc _, Blk.new w1 #[.int .i64 p.1, .int .i64 p.2] _, hok⟩, Fr.of _ rfl ⟨rfl, rfl, rfl, trivial⟩⟩

set_option maxRecDepth 100000 in
set_option maxHeartbeats 1000000 in
theorem wo2 (w0 : World) (B b : Nat) (hb : b ≤ 100000) : T3 Try.prog (fun a w => ∃ (g3 : Nat) (p : Int × Int), Wo w0 B (b + 1) g3 p w ∧ Fr 33 [(0, .pointer (some ⟨B, 0, none⟩)), (2, .pointer (some ⟨w0.heap.size, 0, none⟩)), (3, .pointer (some ⟨g3, 0, none⟩))] a) (sel [1, 1, 0, 0] worthB) (fun a w => ∃ q, ∃ (g3 : Nat) (p : Int × Int), Wo w0 B (b + 2) g3 p w ∧ Fr 33 ((17, .bool q) :: [(0, .pointer (some ⟨B, 0, none⟩)), (2, .pointer (some ⟨w0.heap.size, 0, none⟩)), (3, .pointer (some ⟨g3, 0, none⟩))]) a) No 9 (fun a w => ∃ p : Int × Int, Fr 33 [(2, .pointer (some ⟨w0.heap.size, 0, none⟩))] a ∧ Blk w w0.heap.size (encP p) ∧ FracOk p ∧ Drawn B w0 w (b + 3)) := by
  refine T3.leaf ?_
  rintro Q JS JX JT K hS hK hX hE hT hR a w ⟨g3, p, hA, ⟨f, rfl, q0, q2, q3, _⟩⟩
  rw [frame33, show f 0 = .pointer (some ⟨B, 0, none⟩) from q0, show f 2 = .pointer (some ⟨w0.heap.size, 0, none⟩) from q2, show f 3 = .pointer (some ⟨g3, 0, none⟩) from q3]
  clear q0 q2 q3
  conv => arg 2; whnf
  go_wp2_with (go_at_call 11; refine (flip_d B _ _ _ hA.dr.str rfl (by omega)).mono ?_; rintro e w1 ⟨q, rfl, hd⟩)
  have hB := hA.hB
  have h3 := hA.h3
  refine Met.intro (hS _ _ ?_)
  exact ⟨q, g3, p, ⟨hA.dr.trans hd, hB, h3, hA.res.drawn hd (by omega), hA.fr.drawn hd (by omega), hA.ok⟩, Fr.of _ rfl ⟨rfl, rfl, rfl, rfl, trivial⟩⟩

set_option maxRecDepth 100000 in
set_option maxHeartbeats 1000000 in
theorem wo3 (w0 : World) (B b : Nat) (hb : b ≤ 100000) : T3 Try.prog (fun a w => ∃ (g3 : Nat) (p : Int × Int), Wo w0 B (b + 2) g3 p w ∧ Fr 33 [(17, .bool true), (0, .pointer (some ⟨B, 0, none⟩)), (2, .pointer (some ⟨w0.heap.size, 0, none⟩)), (3, .pointer (some ⟨g3, 0, none⟩))] a) (sel [1, 1, 0, 1, 2] worthB) (fun a w => ∃ (g3 : Nat) (p : Int × Int), Wo w0 B (b + 3) g3 p w ∧ Fr 33 [(0, .pointer (some ⟨B, 0, none⟩)), (2, .pointer (some ⟨w0.heap.size, 0, none⟩)), (3, .pointer (some ⟨g3, 0, none⟩))] a) No 9 (fun a w => ∃ p : Int × Int, Fr 33 [(2, .pointer (some ⟨w0.heap.size, 0, none⟩))] a ∧ Blk w w0.heap.size (encP p) ∧ FracOk p ∧ Drawn B w0 w (b + 3)) := by
  refine T3.leaf ?_
  rintro Q JS JX JT K hS hK hX hE hT hR a w ⟨g3, p, hA, ⟨f, rfl, q17, q0, q2, q3, _⟩⟩
  have hB := hA.hB
  have h3 := hA.h3
  have hD := hA.dr.alloc (.cells #[.int .i64 2, .int .i64 4, .int .i64 1, .int .i64 3, .int .i64 1, .int .i64 0, .int .i64 (-1), .int .i64 (-1), .int .i64 1, .int .i64 200, .int .i64 10001, .int .i64 1, .int .i64 (-9223372036854775808), .int .i64 1, .int .i64 1, .int .i64 4611686018427387904, .int .i64 0, .int .i64 2] 61)
  have hR := hA.res.alloc (.cells #[.int .i64 2, .int .i64 4, .int .i64 1, .int .i64 3, .int .i64 1, .int .i64 0, .int .i64 (-1), .int .i64 (-1), .int .i64 1, .int .i64 200, .int .i64 10001, .int .i64 1, .int .i64 (-9223372036854775808), .int .i64 1, .int .i64 1, .int .i64 4611686018427387904, .int .i64 0, .int .i64 2] 61)
  have hF := hA.fr.alloc (.cells #[.int .i64 2, .int .i64 4, .int .i64 1, .int .i64 3, .int .i64 1, .int .i64 0, .int .i64 (-1), .int .i64 (-1), .int .i64 1, .int .i64 200, .int .i64 10001, .int .i64 1, .int .i64 (-9223372036854775808), .int .i64 1, .int .i64 1, .int .i64 4611686018427387904, .int .i64 0, .int .i64 2] 61)
  have hL := Blk.new w #[.int .i64 2, .int .i64 4, .int .i64 1, .int .i64 3, .int .i64 1, .int .i64 0, .int .i64 (-1), .int .i64 (-1), .int .i64 1, .int .i64 200, .int .i64 10001, .int .i64 1, .int .i64 (-9223372036854775808), .int .i64 1, .int .i64 1, .int .i64 4611686018427387904, .int .i64 0, .int .i64 2] 61
  have hs0 := hA.fr.1
  clear hA
  rw [frame33, show f 17 = .bool true from q17, show f 0 = .pointer (some ⟨B, 0, none⟩) from q0, show f 2 = .pointer (some ⟨w0.heap.size, 0, none⟩) from q2, show f 3 = .pointer (some ⟨g3, 0, none⟩) from q3]
  clear q17 q0 q2 q3
  conv => arg 2; whnf
  go_wp2_with fail
  generalize w.alloc (.cells #[.int .i64 2, .int .i64 4, .int .i64 1, .int .i64 3, .int .i64 1, .int .i64 0, .int .i64 (-1), .int .i64 (-1), .int .i64 1, .int .i64 200, .int .i64 10001, .int .i64 1, .int .i64 (-9223372036854775808), .int .i64 1, .int .i64 1, .int .i64 4611686018427387904, .int .i64 0, .int .i64 2] 61) = W at *
  refine (next_d B _ 9 _ hD.str (by decide) (by decide) (by omega)).mono ?_
  rintro e w1 ⟨r, rfl, hr0, hr1, hd⟩
  replace hD := hD.trans hd
  replace hR := hR.drawn hd (by omega)
  replace hF := hF.drawn hd (by omega)
  replace hL := hL.drawn hd (by omega)
  obtain ⟨c0, c1⟩ := fr_cells (l := worthO) hL rfl r hr0 hr1
  have hok := frac_ok worthO_ok _ (geta_mem hr0 hr1)
  have d0 := hF.2.1 0 _ rfl
  have d1 := hF.2.1 1 _ rfl
  have f0 := hF.2.2 0
  have f1 := hF.2.2 1
  clear hd hL
  generalize geta worthO r = p' at *
  go_wp2_with fail
  refine Met.intro (hS _ _ ?_)
  exact ⟨g3, p', ⟨(hD.set _ (by omega) (by omega)).set _ (by omega) (by omega), hB, h3, (hR.other _ (by omega)).other _ (by omega), (hF.set 0 (by simp [encP]) _).set 1 (by simp [encP]) _, hok⟩, Fr.of _ rfl ⟨rfl, rfl, rfl, trivial⟩⟩

set_option maxRecDepth 100000 in
set_option maxHeartbeats 1000000 in
theorem wo4 (w0 : World) (B b : Nat) (hb : b ≤ 100000) : T3 Try.prog (fun a w => ∃ (g3 : Nat) (p : Int × Int), Wo w0 B (b + 3) g3 p w ∧ Fr 33 [(0, .pointer (some ⟨B, 0, none⟩)), (2, .pointer (some ⟨w0.heap.size, 0, none⟩)), (3, .pointer (some ⟨g3, 0, none⟩))] a) (sel [1, 1, 1, 0] worthB) (fun a w => ∃ p : Int × Int, Fr 33 [(2, .pointer (some ⟨w0.heap.size, 0, none⟩))] a ∧ Blk w w0.heap.size (encP p) ∧ FracOk p ∧ Drawn B w0 w (b + 3)) No 9 (fun a w => ∃ p : Int × Int, Fr 33 [(2, .pointer (some ⟨w0.heap.size, 0, none⟩))] a ∧ Blk w w0.heap.size (encP p) ∧ FracOk p ∧ Drawn B w0 w (b + 3)) := by
  refine T3.leaf ?_
  rintro Q JS JX JT K hS hK hX hE hT hR a w ⟨g3, p, hA, ⟨f, rfl, q0, q2, q3, _⟩⟩
  have hB := hA.hB
  rw [frame33, show f 0 = .pointer (some ⟨B, 0, none⟩) from q0, show f 2 = .pointer (some ⟨w0.heap.size, 0, none⟩) from q2, show f 3 = .pointer (some ⟨g3, 0, none⟩) from q3]
  clear q0 q2 q3
  conv => arg 2; whnf
  have c0 := hA.fr.2.1 0 _ rfl
  have c1 := hA.fr.2.1 1 _ rfl
  have d0 := hA.res.2.1 0 _ rfl
  have d1 := hA.res.2.1 1 _ rfl
  have f0 := hA.res.2.2 0
  have f1 := hA.res.2.2 1
  go_wp2_with fail
  refine Met.intro (hS _ _ ?_)
  exact ⟨p, Fr.of _ rfl ⟨rfl, trivial⟩, (hA.res.set 0 (by simp) _).set 1 (by simp) _, hA.ok, (hA.dr.set _ (Nat.le_refl _) hB).set _ (Nat.le_refl _) hB⟩

set_option maxRecDepth 100000 in
set_option maxHeartbeats 1000000 in
theorem worth_any (B b : Nat) (w0 : World) (hS : Str B w0 b) (hb : b ≤ 100000) :
    Calls Try.prog 27 #[.pointer (some ⟨B, 0, none⟩)] w0 fun e w' => ∃ p : Int × Int, e = .returned (.agg #[.int .i64 p.1, .int .i64 p.2]) ∧ FracOk p ∧ Drawn B w0 w' (b + 3) := by
  go_enter Try.func27, Try.ntmps27
  refine T3.done (P := Try.prog) (s := worthB) (R := fun a w => w = w0 ∧ Fr 33 [(0, .pointer (some ⟨B, 0, none⟩))] a)
    (T3.seq (s := (sel [0] worthB)) (c := (sel [1] worthB)) ?_ (T3.seq (s := (sel [1, 0] worthB)) (c := (sel [1, 1] worthB)) (wo1 w0 B b hb hS) (T3.seq (s := (sel [1, 1, 0] worthB)) (c := (sel [1, 1, 1] worthB)) (T3.seq (s := (sel [1, 1, 0, 0] worthB)) (c := (sel [1, 1, 0, 1] worthB)) (wo2 w0 B b hb) ?_) (T3.seq (s := (sel [1, 1, 1, 0] worthB)) (c := .ret) (wo4 w0 B b hb) (T3.ret (fun _ _ h => h)))))) ⟨rfl, Fr.of _ rfl ⟨rfl, trivial⟩⟩ ?_
  · refine T3.leaf ?_
    rintro Q JS JX JT K hS_ hK hX hE hT hR a w ⟨hw, ⟨f, rfl, q0, _⟩⟩
    subst hw
    rw [frame33, show f 0 = _ from q0]
    clear q0
    conv => arg 2; whnf
    go_wp2_with fail
    refine Met.intro (hS_ _ _ ?_)
    exact ⟨rfl, Fr.of _ rfl ⟨rfl, rfl, trivial⟩⟩
  · refine T3.ex fun q => ?_
    refine T3.cond (o := .tmp 17) (x := (sel [1, 1, 0, 1, 2] worthB)) (y := .skip) (fun a w => q = true ∧ ∃ (g3 : Nat) (p : Int × Int), Wo w0 B (b + 2) g3 p w ∧ Fr 33 [(17, .bool true), (0, .pointer (some ⟨B, 0, none⟩)), (2, .pointer (some ⟨w0.heap.size, 0, none⟩)), (3, .pointer (some ⟨g3, 0, none⟩))] a) (fun a w => ∃ (g3 : Nat) (p : Int × Int), Wo w0 B (b + 2) g3 p w ∧ Fr 33 [(0, .pointer (some ⟨B, 0, none⟩)), (2, .pointer (some ⟨w0.heap.size, 0, none⟩)), (3, .pointer (some ⟨g3, 0, none⟩))] a) ?_ ((wo3 w0 B b hb).pre (fun a w h => h.2)) (T3.skip ?_)
    · rintro a w ⟨g3, p, hA, hF⟩
      have he := hF.eval 17 (by decide) (v := .bool q) (by simp)
      cases q
      · exact .inr ⟨he, g3, p, hA, hF.tail⟩
      · exact .inl ⟨he, rfl, g3, p, hA, hF⟩
    · rintro a w ⟨g3, p, hA, hF⟩
      exact ⟨g3, p, ⟨hA.dr.mono (by omega), hA.hB, hA.h3, hA.res, hA.fr, hA.ok⟩, hF⟩
  · rintro a w ⟨p, ⟨f, rfl, q2, _⟩, hR, hok, hd⟩
    rw [frame33, show f 2 = _ from q2]
    have r0 := hR.2.1 0 _ rfl
    have r1 := hR.2.1 1 _ rfl
    exact bodyPost_ret (v := .agg #[.int .i64 p.1, .int .i64 p.2]) (by simp [results, Try.results27, go_sem, r0, r1]) rfl ⟨p, rfl, hok, hd⟩

end Go.Proofs.Ytnmdpphddimfbaa
/-
  Line-ups: scorers that the stream hands out, right or not. Conditions: the bounds that each theorem names.
-/
set_option linter.unusedVariables false
namespace Go.Proofs.Ytnmdpphddimfbaa
open Go.RowKit Go.Bw
theorem mem_mod {α : Type} {f : α → α} : ∀ {l : List α} {i : Nat} {x : α}, x ∈ l.modify i f → x ∈ l ∨ ∃ y ∈ l, x = f y
  | [], i, x, h => by simp at h
  | a :: l, 0, x, h => by
    simp at h
    rcases h with h | h
    · exact .inr ⟨a, by simp, h⟩
    · exact .inl (by simp [h])
  | a :: l, i + 1, x, h => by
    simp at h
    rcases h with h | h
    · exact .inl (by simp [h])
    · rcases mem_mod h with h | ⟨y, h1, h2⟩
      · exact .inl (by simp [h])
      · exact .inr ⟨y, by simp [h1], h2⟩
theorem cells_putSc (s : ByteArray) (p q : Int) : ∀ (L : List ScD) (i : Nat), i < L.length →
    (((cellsOf encSc L).set (i * 5) (.string s)).set (i * 5 + 2) (.int .i64 p)).set (i * 5 + 2 + 1) (.int .i64 q) = cellsOf encSc (L.modify i fun x => { x with pl := s, num := p, den := q })
  | [], i, h => by simp at h
  | x :: L, 0, h => by rw [cellsOf_cons]; simp [encSc, cellsOf_cons]
  | x :: L, i + 1, h => by
    have ih := cells_putSc s p q L i (by simpa using h)
    rw [show (i + 1) * 5 = i * 5 + 5 by omega, show i * 5 + 5 + 2 = i * 5 + 2 + 5 by omega, show i * 5 + 2 + 5 + 1 = i * 5 + 2 + 1 + 5 by omega, cellsOf_cons]
    simp only [encSc, List.cons_append, List.nil_append, List.set_cons_succ, List.modify_succ_cons, cellsOf_cons]
    rw [ih]
theorem ScO.put {B b n c g : Nat} {w0 w : World} {L : List ScD} (h : ScO B b w0 (.slice (some ⟨g, 0, none⟩) n c) L w) (hn : n = L.length) (i : Nat) (hi : i < L.length) (s : ByteArray) (hs : Sm s) (p q : Int)
    (hp : -9223372036854775808 ≤ p ∧ p ≤ 9223372036854775807) (hq : -9223372036854775808 ≤ q ∧ q ≤ 9223372036854775807) :
    ScO B b w0 (.slice (some ⟨g, 0, none⟩) n c) (L.modify i fun x => { x with pl := s, num := p, den := q }) (((w.setCell ⟨g, i * 5, none⟩ (.string s)).setCell ⟨g, i * 5 + 2, none⟩ (.int .i64 p)).setCell ⟨g, i * 5 + 2 + 1, none⟩ (.int .i64 q)) := by
  subst hn
  have hlt := (h.o.lt g rfl).1
  have hB := h.hB
  have o1 := owns_setC h.o (i * 5) (by omega) (.string s)
  have o2 := owns_setC o1 (i * 5 + 2) (by omega) (.int .i64 p)
  have o3 := owns_setC o2 (i * 5 + 2 + 1) (by omega) (.int .i64 q)
  rw [cells_putSc s p q L i hi] at o3
  have g1 := grown_setCell w g (i * 5) (.string s)
  have g2 := grown_setCell (w.setCell ⟨g, i * 5, none⟩ (.string s)) g (i * 5 + 2) (.int .i64 p)
  have g3 := grown_setCell ((w.setCell ⟨g, i * 5, none⟩ (.string s)).setCell ⟨g, i * 5 + 2, none⟩ (.int .i64 p)) g (i * 5 + 2 + 1) (.int .i64 q)
  have hi3 : ∀ x ∈ L, PsO B (((w.setCell ⟨g, i * 5, none⟩ (.string s)).setCell ⟨g, i * 5 + 2, none⟩ (.int .i64 p)).setCell ⟨g, i * 5 + 2 + 1, none⟩ (.int .i64 q)).heap.size (((w.setCell ⟨g, i * 5, none⟩ (.string s)).setCell ⟨g, i * 5 + 2, none⟩ (.int .i64 p)).setCell ⟨g, i * 5 + 2 + 1, none⟩ (.int .i64 q)) x.pv x.ps := fun x hx =>
    ((((h.i x hx).other h.o (by decide) g1).other o1 (by decide) g2).other o2 (by decide) g3).mono (Nat.le_trans g1.size (Nat.le_trans g2.size g3.size))
  refine ⟨((h.d.set _ hlt (by omega)).set _ hlt (by omega)).set _ hlt (by omega), h.hB, by rw [List.length_modify]; exact o3, fun x hx => ?_, fun x hx => ?_, fun x hx => ?_⟩
  · rcases mem_mod hx with hx | ⟨y, hy, rfl⟩
    · exact hi3 x hx
    · exact hi3 y hy
  · rcases mem_mod hx with hx | ⟨y, hy, rfl⟩
    · exact h.z x hx
    · exact hs
  · rcases mem_mod hx with hx | ⟨y, hy, rfl⟩
    · exact h.m x hx
    · exact ⟨hp, hq⟩
theorem sm3 {x s : ByteArray} (hx : Sm x) (h : s ∈ [x, ⟨#[]⟩, ⟨#[97, 110, 110]⟩]) : Sm s := by
  simp at h
  rcases h with rfl | rfl | rfl
  · exact hx
  · decide
  · decide
noncomputable def sqM : Code := (Try.f5.body).getD .skip
set_option maxRecDepth 100000 in
theorem fr_sqM (f : Nat → Value) : frame 36 f = ⟨#[f 0, f 1, f 2, f 3, f 4, f 5, f 6, f 7, f 8, f 9, f 10, f 11, f 12, f 13, f 14, f 15, f 16, f 17, f 18, f 19, f 20, f 21, f 22, f 23, f 24, f 25, f 26, f 27, f 28, f 29, f 30, f 31, f 32, f 33, f 34, f 35], []⟩ := by rfl
set_option maxRecDepth 100000 in
set_option maxHeartbeats 1000000 in
theorem sq0 (B b : Nat) (w0 : World) (hb : b ≤ 40000) : T3 Try.prog (fun a w => (Str B w b ∧ IsW w0 w) ∧ Fr 36 [(0, .pointer (some ⟨B, 0, none⟩))] a) (sel [0] sqM) (fun a w => (Str B w b ∧ IsW w0 w) ∧ Fr 36 [(0, .pointer (some ⟨B, 0, none⟩))] a) No 9 No := by
  refine T3.leaf ?_
  rintro Q JS JX JT K hS hK hX hE hT hR a w ⟨hW, ⟨fr, rfl, q0, _⟩⟩
  rw [fr_sqM, show fr 0 = _ from q0]
  clear q0
  conv => arg 2; whnf
  go_wp2_with fail
  refine Met.intro (hS _ _ ?_)
  exact ⟨hW, Fr.of _ rfl ⟨rfl, trivial⟩⟩

set_option maxRecDepth 100000 in
set_option maxHeartbeats 1000000 in
theorem sq1 (B b : Nat) (w0 : World) (hb : b ≤ 40000) : T3 Try.prog (fun a w => (Str B w b ∧ IsW w0 w) ∧ Fr 36 [(0, .pointer (some ⟨B, 0, none⟩))] a) (sel [1, 0] sqM) (fun a w => ∃ (v3 : Value) (L : List ScD), (L.length ≤ 6) ∧ (ScO B (b + 48) w0 v3 L w) ∧ Fr 36 [(0, .pointer (some ⟨B, 0, none⟩)), (3, v3)] a) No 9 No := by
  refine T3.leaf ?_
  rintro Q JS JX JT K hS hK hX hE hT hR a w ⟨⟨hS_, hW⟩, ⟨fr, rfl, q0, _⟩⟩
  obtain rfl : w = w0 := hW
  have HS := Lib.hid hS_
  rw [fr_sqM, show fr 0 = _ from q0]
  clear q0
  conv => arg 2; whnf
  go_wp2_with fail
  refine (rightScorers_any B b w HS.out (by omega)).mono ?_
  rintro e w1 ⟨v3, L, rfl, hn, h1⟩
  have H1 := Lib.hid h1
  have HN := Lib.hid hn
  obtain ⟨p3, c3, hv3⟩ := (Row.of_owns h1.o).shape
  subst hv3
  clear h1 hn
  go_wp2_with fail
  refine Met.intro (hS _ _ ?_)
  exact ⟨_, L, HN.out, H1.out, Fr.of _ rfl ⟨rfl, rfl, trivial⟩⟩

set_option maxRecDepth 100000 in
set_option maxHeartbeats 1000000 in
theorem sq2 (B b : Nat) (w0 : World) (hb : b ≤ 40000) (v3 : Value) (L : List ScD) (hn : L.length ≤ 6) : T3 Try.prog (fun a w => (ScO B (b + 48) w0 v3 L w) ∧ Fr 36 [(0, .pointer (some ⟨B, 0, none⟩)), (3, v3)] a) (sel [1, 1, 0, 0] sqM) (fun a w => ∃ q, Fr 36 ((13, .bool q) :: [(0, .pointer (some ⟨B, 0, none⟩)), (3, v3)]) a ∧ ((q = true → 0 < L.length) ∧ ScO B (b + 49) w0 v3 L w)) No 9 No := by
  refine T3.leaf ?_
  rintro Q JS JX JT K hS hK hX hE hT hR a w ⟨hW, ⟨fr, rfl, q0, q3, _⟩⟩
  obtain ⟨p3, c3, hv3⟩ := (Row.of_owns hW.o).shape
  subst hv3
  by_cases hp : (0 : Int) < L.length
  · have hpb : decide ((0 : Int) < L.length) = true := by simp; omega
    rw [fr_sqM, show fr 0 = _ from q0, show fr 3 = _ from q3]
    clear q0 q3
    conv => arg 2; whnf
    go_wp2_with fail
    refine (flip_d B (b + 48) _ w hW.d.str rfl (by omega)).mono ?_
    rintro e w1 ⟨q, rfl, hd⟩
    have HW := Lib.hid (hW.drawn hd)
    clear hd hW
    go_wp2_with fail
    refine Met.intro (hS _ _ ?_)
    exact ⟨_, Fr.of _ rfl ⟨rfl, rfl, rfl, trivial⟩, fun _ => by omega, HW.out⟩
  · have hpb : decide ((0 : Int) < L.length) = false := decide_eq_false hp
    have HW := Lib.hid (hW.mono (Nat.add_le_add_left (by decide : 48 ≤ 49) b))
    clear hW
    rw [fr_sqM, show fr 0 = _ from q0, show fr 3 = _ from q3]
    clear q0 q3
    conv => arg 2; whnf
    go_wp2_with fail
    refine Met.intro (hS _ _ ?_)
    exact ⟨_, Fr.of _ rfl ⟨rfl, rfl, rfl, trivial⟩, (fun h => by cases h), HW.out⟩

set_option maxRecDepth 100000 in
set_option maxHeartbeats 1000000 in
theorem sq3 (B b : Nat) (w0 : World) (hb : b ≤ 40000) (v3 : Value) (L : List ScD) (hn : L.length ≤ 6) (hpos : 0 < L.length) (g : Nat) (c : Nat) : T3 Try.prog (fun a w => (ScO B (b + 49) w0 (.slice (some ⟨g, 0, none⟩) L.length c) L w) ∧ Fr 36 [(0, .pointer (some ⟨B, 0, none⟩)), (3, .slice (some ⟨g, 0, none⟩) L.length c)] a) (sel [1, 1, 0, 1, 2, 0] sqM) (fun a w => ∃ (i : Int), (0 ≤ i ∧ i < L.length) ∧ (ScO B (b + 50) w0 (.slice (some ⟨g, 0, none⟩) L.length c) L w) ∧ Fr 36 [(0, .pointer (some ⟨B, 0, none⟩)), (3, .slice (some ⟨g, 0, none⟩) L.length c), (4, .pointer (some ⟨g, i.toNat * 5, none⟩))] a) No 9 No := by
  refine T3.leaf ?_
  rintro Q JS JX JT K hS hK hX hE hT hR a w ⟨hW, ⟨fr, rfl, q0, q3, _⟩⟩
  rw [fr_sqM, show fr 0 = _ from q0, show fr 3 = _ from q3]
  clear q0 q3
  conv => arg 2; whnf
  go_wp2_with fail
  refine (next_d B (b + 49) L.length w hW.d.str (by omega) (by omega) (by omega)).mono ?_
  rintro e w1 ⟨i, rfl, hi0, hi1, hd⟩
  have HW := Lib.hid (hW.drawn hd)
  clear hd hW
  go_wp2_with fail
  refine Met.intro (hS _ _ ?_)
  exact ⟨i, ⟨hi0, hi1⟩, HW.out, Fr.of _ rfl ⟨rfl, rfl, rfl, trivial⟩⟩

set_option maxRecDepth 100000 in
set_option maxHeartbeats 1000000 in
theorem sq4 (B b : Nat) (w0 : World) (hb : b ≤ 40000) (v3 : Value) (L : List ScD) (hn : L.length ≤ 6) (hpos : 0 < L.length) (g : Nat) (c : Nat) (i : Int) (hi : 0 ≤ i ∧ i < L.length) : T3 Try.prog (fun a w => (ScO B (b + 50) w0 (.slice (some ⟨g, 0, none⟩) L.length c) L w) ∧ Fr 36 [(0, .pointer (some ⟨B, 0, none⟩)), (3, .slice (some ⟨g, 0, none⟩) L.length c), (4, .pointer (some ⟨g, i.toNat * 5, none⟩))] a) (sel [1, 1, 0, 1, 2, 1] sqM) (fun a w => ∃ (L' : List ScD), (L'.length = L.length) ∧ (ScO B (b + 54) w0 (.slice (some ⟨g, 0, none⟩) L'.length c) L' w) ∧ Fr 36 [(3, .slice (some ⟨g, 0, none⟩) L.length c)] a) No 9 No := by
  refine T3.leaf ?_
  rintro Q JS JX JT K hS hK hX hE hT hR a w ⟨hW, ⟨fr, rfl, q0, q3, q4, _⟩⟩
  obtain ⟨hi0, hi1⟩ := hi
  obtain ⟨g', c', hv3, _, _, hn3, hm3⟩ := owns_shape hW.o (by omega)
  simp only [Value.slice.injEq, Option.some.injEq, Addr.mk.injEq] at hv3
  obtain ⟨⟨rfl, _⟩, _, rfl⟩ := hv3
  simp only [maxLen] at hm3
  obtain ⟨bz, off, hp, _, _, hcell⟩ := Row.nonnil ((Row.of_owns hW.o).mono (Nat.zero_le _)) (by omega)
  simp only [Option.some.injEq, Addr.mk.injEq] at hp
  obtain ⟨rfl, rfl, _⟩ := hp
  have t0 := Row.elAt encSc_length hcell hi0 (by omega) 0 _ (by decide) rfl
  rw [Nat.zero_add, Nat.add_zero] at t0
  have hz := hW.z _ (geta_mem hi0 (by omega))
  clear hcell
  generalize hx : (geta L i).pl = x at *
  rw [fr_sqM, show fr 0 = _ from q0, show fr 3 = _ from q3, show fr 4 = _ from q4]
  clear q0 q3 q4
  conv => arg 2; whnf
  go_wp2_with fail
  refine (some_lit B (b + 50) [x, ⟨#[]⟩, ⟨#[97, 110, 110]⟩] 3 _ _ _ rfl rfl (by decide) (by decide) hW.d.str (by omega)).mono ?_
  rintro e w1 ⟨s, rfl, hs, hd⟩
  have hsz : Sm s := sm3 hz hs
  have h1 := hW.drawn hd
  clear hd hW hs t0 hz
  go_wp2_with fail
  refine (worth_any B (b + 50 + 1) w1 h1.d.str (by omega)).mono ?_
  rintro e w2 ⟨p, rfl, hp, hd⟩
  have h2 := h1.drawn hd
  obtain ⟨hp1, hp2, hp3, hp4⟩ := hp
  clear hd h1
  obtain ⟨pn, pd⟩ := p
  have f0 := owns_frozenC h2.o (i.toNat * 5)
  have f2 := owns_frozenC h2.o (i.toNat * 5 + 2)
  have f3 := owns_frozenC h2.o (i.toNat * 5 + 3)
  obtain ⟨bz, off, hp, _, _, hcell⟩ := Row.nonnil ((Row.of_owns h2.o).mono (Nat.zero_le _)) (by omega)
  simp only [Option.some.injEq, Addr.mk.injEq] at hp
  obtain ⟨rfl, rfl, _⟩ := hp
  have t0 := Row.elAt encSc_length hcell hi0 (by omega) 0 _ (by decide) rfl
  have t2 := Row.elAt encSc_length hcell hi0 (by omega) 2 _ (by decide) rfl
  have t3 := Row.elAt encSc_length hcell hi0 (by omega) 3 _ (by decide) rfl
  rw [Nat.zero_add] at t0 t2 t3
  rw [Nat.add_zero] at t0
  clear hcell
  have H3 := Lib.hid (h2.put rfl i.toNat (by omega) s hsz pn pd ⟨hp1, hp2⟩ ⟨hp3, hp4⟩)
  clear h2
  go_wp2_with fail
  refine Met.intro (hS _ _ ?_)
  exact ⟨_, List.length_modify _ _ _, by rw [List.length_modify]; exact H3.out.mono (show b + 50 + 1 + 3 ≤ b + 54 by omega), Fr.of _ rfl ⟨rfl, trivial⟩⟩

set_option maxRecDepth 100000 in
set_option maxHeartbeats 1000000 in
theorem sq5 (B b : Nat) (w0 : World) (v3 : Value) (L : List ScD) : T3 Try.prog (fun a w => (ScO B (b + 54) w0 v3 L w) ∧ Fr 36 [(3, v3)] a) (sel [1, 1, 1, 0] sqM) (fun a w => (ScO B (b + 54) w0 v3 L w) ∧ Fr 36 [(2, v3)] a) No 9 No := by
  refine T3.leaf ?_
  rintro Q JS JX JT K hS hK hX hE hT hR a w ⟨hW, ⟨fr, rfl, q3, _⟩⟩
  have HW := Lib.hid hW
  obtain ⟨p3, c3, hv3⟩ := (Row.of_owns hW.o).shape
  subst hv3
  clear hW
  rw [fr_sqM, show fr 3 = _ from q3]
  clear q3
  conv => arg 2; whnf
  go_wp2_with fail
  refine Met.intro (hS _ _ ?_)
  exact ⟨HW.out, Fr.of _ rfl ⟨rfl, trivial⟩⟩

set_option maxRecDepth 100000 in
set_option maxHeartbeats 1000000 in
theorem sq_all (B b : Nat) (w0 : World) (hb : b ≤ 40000) : T3 Try.prog (fun a w => (Str B w b ∧ IsW w0 w) ∧ Fr 36 [(0, .pointer (some ⟨B, 0, none⟩))] a) sqM No No 9 (fun a w => ∃ (v3 : Value) (L : List ScD), (L.length ≤ 6) ∧ (ScO B (b + 54) w0 v3 L w) ∧ Fr 36 [(2, v3)] a) := by
  refine T3.seq (s := (sel [0] sqM)) (c := (sel [1] sqM)) (T3.noT (sq0 B b w0 hb)) ?_
  refine T3.seq (s := (sel [1, 0] sqM)) (c := (sel [1, 1] sqM)) (T3.noT (sq1 B b w0 hb)) ?_
  refine T3.ex fun v3 => T3.ex fun L => T3.pure fun hn => ?_
  refine T3.seq (s := (sel [1, 1, 0] sqM)) (c := (sel [1, 1, 1] sqM)) (S := (fun a w => ∃ (v3 : Value) (L : List ScD), (L.length ≤ 6) ∧ (ScO B (b + 54) w0 v3 L w) ∧ Fr 36 [(3, v3)] a)) ?_ (T3.ex fun v3 => T3.ex fun L => T3.pure fun hn => ?_)
  · refine T3.test (s := (sel [1, 1, 0, 0] sqM)) (x := (sel [1, 1, 0, 1, 2] sqM)) (y := .skip) (C := fun q => (q = true → 0 < L.length)) (W := fun w => ScO B (b + 49) w0 v3 L w) (by decide) (T3.noT (sq2 B b w0 hb v3 L hn)) ?_ (T3.skip ?_)
    · refine T3.pre (R := fun a w => (0 < L.length) ∧ ∃ (g : Nat) (c : Nat), (ScO B (b + 49) w0 (.slice (some ⟨g, 0, none⟩) L.length c) L w) ∧ Fr 36 [(0, .pointer (some ⟨B, 0, none⟩)), (3, .slice (some ⟨g, 0, none⟩) L.length c)] a) (T3.pure fun hpos => T3.ex fun g => T3.ex fun c => ?_) ?_
      · refine T3.seq (s := (sel [1, 1, 0, 1, 2, 0] sqM)) (c := (sel [1, 1, 0, 1, 2, 1] sqM)) (T3.noT (sq3 B b w0 hb v3 L hn hpos g c)) (T3.ex fun i => T3.pure fun hi => ?_)
        refine T3.post (T3.noT (sq4 B b w0 hb v3 L hn hpos g c i hi)) ?_
        rintro a w ⟨L', hl, hW, hF⟩
        exact ⟨_, L', by omega, hW, hl.symm ▸ hF⟩
      · rintro a w ⟨hF, hq, hW⟩
        have hpos := hq rfl
        obtain ⟨g, c, hv, _⟩ := owns_shape hW.o (by omega)
        subst hv
        exact ⟨hpos, g, c, hW, hF.sub (by simp)⟩
    · rintro a w ⟨hq, hW, hF⟩
      exact ⟨v3, L, hn, hW.mono (Nat.add_le_add_left (by decide : 49 ≤ 54) b), hF.sub (by simp)⟩
  exact T3.seq (s := (sel [1, 1, 1, 0] sqM)) (c := .ret) (T3.noT (sq5 B b w0 v3 L)) (T3.ret fun a w q => ⟨v3, L, hn, q⟩)

set_option maxRecDepth 100000 in
set_option maxHeartbeats 1000000 in
theorem scorersS_any (B b : Nat) (w0 : World) (hS : Str B w0 b) (hb : b ≤ 40000) : Calls Try.prog 5 #[.pointer (some ⟨B, 0, none⟩)] w0 fun e w' => ∃ (v3 : Value) (L : List ScD), e = .returned v3 ∧ L.length ≤ 6 ∧ ScO B (b + 54) w0 v3 L w' := by
  have hall := sq_all B b w0 hb
  go_enter Try.func5, Try.ntmps5
  refine T3.done (s := sqM) hall ⟨⟨hS, rfl⟩, Fr.of _ rfl ⟨rfl, trivial⟩⟩ ?_
  rintro a w ⟨v3, L, hn, hW, fr, rfl, q2, _⟩
  rw [fr_sqM, show fr 2 = _ from q2]
  go_ret
  exact ⟨v3, L, rfl, hn, hW⟩
end Go.Proofs.Ytnmdpphddimfbaa
/-
  As the schedules for regions that draw their order and hold calls; here two operations may come up in either order. No condition on a program.
-/
set_option linter.unusedVariables false
namespace Go.Bw
open Go.RowKit
/-- A schedule: a calm operation; the one that is left; one of two. -/
inductive Sch
  | done
  | calm (i : Nat) (r : Sch)
  | one (i : Nat) (r : Sch)
  | two (i j : Nat) (r s : Sch)
def Sch.len : Sch → Nat
  | .done => 0
  | .calm _ r => r.len + 1
  | .one _ r => r.len + 1
  | .two _ _ r _ => r.len + 1
def Sch.inB (n : Nat) : Sch → Bool
  | .done => true
  | .calm i r => decide (i < n) && r.inB n
  | .one i r => decide (i < n) && r.inB n
  | .two i j r s => decide (i < n) && decide (j < n) && r.inB n && s.inB n
section
variable {P : Program} {Q : Exit → Act → World → Prop} {S : World → Prop} {md : Region.Mode}
def schB (md : Region.Mode) (ops : Array Oper) : Sch → Array Bool → Bool
  | .done, listed => (Region.ready md ops listed).isEmpty
  | .calm i r, listed => Region.free md ops listed i && (Region.ready md ops listed).contains i && schB md ops r (listed.setIfInBounds i true)
  | .one i r, listed => decide (Region.ready md ops listed = [i]) && schB md ops r (listed.setIfInBounds i true)
  | .two i j r s, listed => decide (Region.ready md ops listed = [i, j]) && (r.len == s.len) && schB md ops r (listed.setIfInBounds i true) && schB md ops s (listed.setIfInBounds j true)
def wpDo (P : Program) (ops : Array Oper) (Q : Exit → Act → World → Prop) (S : World → Prop) (o : Oper) (K : Act → World → Prop) (a : Act) (w : World) : Prop :=
  if Region.wanted o (yielded ops a.tmps) then o.wp P a w (fun a w => S w ∧ K a w) Q ∨ (o.asks P a w ∧ LetsOut Q) else S w ∧ K (a.put o.dst undef) w
def wpSch (P : Program) (l : List Oper) (Q : Exit → Act → World → Prop) (S : World → Prop) : Sch → Act → World → Prop
  | .done, a, w => Q .normal a w
  | .calm i r, a, w => ∃ o, l[i]? = some o ∧ ∃ v, YieldsIf P l.toArray S o v a ∧ wpSch P l Q S r (a.put o.dst v) w
  | .one i r, a, w => ∃ o, l[i]? = some o ∧ wpDo P l.toArray Q S o (wpSch P l Q S r) a w
  | .two i j r s, a, w => (∃ o, l[i]? = some o ∧ wpDo P l.toArray Q S o (wpSch P l Q S r) a w) ∧ ∃ o, l[j]? = some o ∧ wpDo P l.toArray Q S o (wpSch P l Q S s) a w

theorem sch_op {l : List Oper} {i : Nat} {o : Oper} {K : Act → World → Prop} {a : Act} {w : World} (ho : l[i]? = some o) (h : wpDo P l.toArray Q S o K a w) : wpOp P l.toArray Q i (fun a w => S w ∧ K a w) a w := by
  unfold wpOp
  have : l.toArray[i]? = some o := by simpa using ho
  simp only [this]
  exact h

theorem sch_H {l : List Oper} (hs : Region.noSelect l.toArray = true) (hQ : ∀ c a d v w, Q (.panic c) (Act.put a d v) w → Q (.panic c) a w) :
    ∀ (c : Sch) (listed : Array Bool) (a : Act) (w : World), schB md l.toArray c listed = true → S w → wpSch P l Q S c a w → wpAnyH P md l.toArray Q S c.len listed a w
  | .done, listed, a, w, hB, _, h => ⟨by simpa [schB] using hB, h⟩
  | .calm i r, listed, a, w, hB, hS, h => by
    simp only [schB, Bool.and_eq_true] at hB
    obtain ⟨⟨hf, hr⟩, hB'⟩ := hB
    obtain ⟨o, ho, v, hy, hk⟩ := h
    exact wpAnyH_take (by simpa using ho) hs hf hr (fun c a w => hQ c a _ _ w) hy hS (sch_H hs hQ r _ _ w hB' hS hk)
  | .one i r, listed, a, w, hB, hS, h => by
    simp only [schB, Bool.and_eq_true, decide_eq_true_eq] at hB
    obtain ⟨hr, hB'⟩ := hB
    obtain ⟨o, ho, hk⟩ := h
    refine wpAnyH_all hr (by simp) fun j hj => ?_
    obtain rfl : j = i := by simpa using hj
    exact wpOp_mono (fun a' w' h' => ⟨h'.1, sch_H hs hQ r _ a' w' hB' h'.1 h'.2⟩) (sch_op ho hk)
  | .two i j r s, listed, a, w, hB, hS, h => by
    simp only [schB, Bool.and_eq_true, decide_eq_true_eq, beq_iff_eq] at hB
    obtain ⟨⟨⟨hr, hl⟩, hB1⟩, hB2⟩ := hB
    obtain ⟨⟨o1, ho1, hk1⟩, o2, ho2, hk2⟩ := h
    refine wpAnyH_all hr (by simp) fun k hk => ?_
    simp only [List.mem_cons, List.mem_nil_iff, or_false] at hk
    rcases hk with rfl | rfl
    · exact wpOp_mono (fun a' w' h' => ⟨h'.1, sch_H hs hQ r _ a' w' hB1 h'.1 h'.2⟩) (sch_op ho1 hk1)
    · exact wpOp_mono (fun a' w' h' => ⟨h'.1, by rw [hl]; exact sch_H hs hQ s _ a' w' hB2 h'.1 h'.2⟩) (sch_op ho2 hk2)

theorem wp_region_sch {id : Nat} {a : Act} {w : World} {l : List Oper} (row : Option Nat) (c : Sch) (hm : P.follows .mixedOrders = true)
    (hB : (Region.noSelect l.toArray && schB .any l.toArray c (Array.replicate l.length false) && decide (c.len = l.length)) = true)
    (hQ : ∀ c a d v w, Q (.panic c) (Act.put a d v) w → Q (.panic c) a w)
    (h : wpSch P l Q (fun w' => w.drew.grownBy w' row) c a w.drew) : (Code.region id l.toArray true).wp P Q a w := by
  simp only [Bool.and_eq_true, decide_eq_true_eq] at hB
  obtain ⟨⟨hs, hc⟩, hlen⟩ := hB
  refine wp_region_held hm (S := fun w' => w.drew.grownBy w' row) ?_
  have := sch_H hs hQ c (Array.replicate l.length false) a w.drew hc (grown_refl _ _) h
  rw [hlen] at this
  simpa using this

theorem sch_hide {w₁ : World} {row : Option Nat} {l : List Oper} {c : Sch} {a : Act} {w : World}
    (h : ∀ W : Sch → Act → World → Prop,
      Hid (∀ i o r a w, l[i]? = some o → (∀ K : Act → Prop, (∀ a, W r a w → K a) → if Region.wanted o (yielded l.toArray a.tmps) then Oper.heldAt P w₁ row o a K else K (a.put o.dst undef)) → W (.calm i r) a w) →
      Hid (∀ i o r a w, l[i]? = some o → Region.wanted o (yielded l.toArray a.tmps) = true → (∀ K : Act → World → Prop, Hid (∀ a w, w₁.grownBy w row → W r a w → K a w) → wpList P [bare o].toArray (Exit.then K Q) [bare o] a w) → W (.one i r) a w) →
      Hid (∀ i o r a w, l[i]? = some o → w₁.grownBy w row → Region.wanted o (yielded l.toArray a.tmps) = false → W r (a.put o.dst undef) w → W (.one i r) a w) →
      Hid (∀ i j r s a w, W (.one i r) a w → W (.one j s) a w → W (.two i j r s) a w) →
      Hid (∀ a w, Q .normal a w → W .done a w) → W c a w) : wpSch P l Q (fun w => w₁.grownBy w row) c a w := by
  refine h (wpSch P l Q (fun w => w₁.grownBy w row)) (Lib.hid fun i o r a w ho hk => ?_) (Lib.hid fun i o r a w ho hw hk => ?_) (Lib.hid fun i o r a w ho hS hw hk => ?_) (Lib.hid fun i j r s a w h1 h2 => ?_) (Lib.hid fun a w hk => hk)
  · have := hk _ (fun _ h => h)
    refine ⟨o, ho, ?_⟩
    split at this
    · rename_i hw
      obtain ⟨v, hv, hn⟩ := this
      exact ⟨v, .inl ⟨hw, fun w' hw' => by have := hv w'; rwa [wof_of hw'] at this⟩, hn⟩
    · rename_i hw
      exact ⟨undef, .inr ⟨by simpa using hw, rfl⟩, this⟩
  · have := hk (fun a w => w₁.grownBy w row ∧ wpSch P l Q (fun w => w₁.grownBy w row) r a w) (Lib.hid fun _ _ h1 h2 => ⟨h1, h2⟩)
    unfold wpList at this
    rw [if_pos (show Region.wanted (bare o) (yielded [bare o].toArray a.tmps) = true from rfl)] at this
    refine ⟨o, ho, ?_⟩
    unfold wpDo
    rw [if_pos hw]
    rcases this with h1 | ⟨h1, h2⟩
    · exact .inl (wp_then h1)
    · exact .inr ⟨h1, h2⟩
  · refine ⟨o, ho, ?_⟩
    unfold wpDo
    rw [if_neg (by simp [hw])]
    exact ⟨hS, hk⟩
  · exact ⟨h1, h2⟩
end
end Go.Bw
/-
  Line-ups: an order that the stream hands out (Order): so many numbers, each of them a place. Conditions: the bounds that each theorem names.
-/
set_option linter.unusedVariables false
namespace Go.Proofs.Ytnmdpphddimfbaa
open Go.RowKit Go.Bw
theorem el_intO : Elem Try.prog 22 3 (.int .i64 0) 1 8 := ⟨by kernel_rfl, by kernel_rfl, by kernel_rfl, by decide, by decide⟩
structure OrO (B b : Nat) (w0 : World) (v : Value) (l : List Int) (w : World) : Prop where
  d : Drawn B w0 w b
  hB : B < w0.heap.size
  o : w.ownsRow w0.heap.size 3 1 v l.length (l.map (.int .i64))
/-- Places among so many. -/
structure InN (n : Nat) (l : List Int) : Prop where
  h : ∀ x ∈ l, 0 ≤ x ∧ x < n
theorem InN.snoc {n : Nat} {l : List Int} {x : Int} (h : InN n l) (h0 : 0 ≤ x) (h1 : x < n) : InN n (l ++ [x]) := ⟨fun y hy => by rcases List.mem_append.1 hy with hy | hy; exact h.h y hy; simp at hy; rw [hy]; exact ⟨h0, h1⟩⟩
theorem InN.set {n : Nat} {l : List Int} {x : Int} (h : InN n l) (i : Nat) (h0 : 0 ≤ x) (h1 : x < n) : InN n (l.set i x) := ⟨fun y hy => by rcases List.mem_or_eq_of_mem_set hy with hy | rfl; exact h.h y hy; exact ⟨h0, h1⟩⟩
theorem geti_in {n : Nat} {l : List Int} (h : InN n l) {k : Int} (h0 : 0 ≤ k) (h1 : k < l.length) : 0 ≤ geti l k ∧ geti l k < n := by
  have hl : k.toNat < l.length := by omega
  refine h.h _ ?_
  unfold geti
  rw [List.getElem?_eq_getElem hl]
  exact List.getElem_mem _
section
variable {B b b' : Nat} {w0 w w' : World} {v v' : Value} {l : List Int}
theorem OrO.drawn (h : OrO B b w0 v l w) (d : Drawn B w w' b') : OrO B b' w0 v l w' := ⟨h.d.trans d, h.hB, owns_drawn h.o d h.hB⟩
theorem OrO.mono (h : OrO B b w0 v l w) (hb : b ≤ b') : OrO B b' w0 v l w := ⟨h.d.mono hb, h.hB, h.o⟩
theorem OrO.alloc (h : OrO B b w0 v l w) (ob : Obj) : OrO B b w0 v l (w.alloc ob) := h.drawn ((Drawn.refl h.d.str).alloc ob)
theorem OrO.app (h : OrO B b w0 v l w) {x : Int} (ho : w'.ownsRow w0.heap.size 3 1 v' (l.length + 1) (l.map (.int .i64) ++ [.int .i64 x])) (g : w.grownBy w' v.ownBlock) : OrO B b w0 v' (l ++ [x]) w' :=
  ⟨h.d.app h.o (Nat.le_refl _) h.hB g, h.hB, by rw [List.map_append, List.length_append]; exact ho⟩
theorem OrO.set {g c m : Nat} (h : OrO B b w0 (.slice (some ⟨g, 0, none⟩) m c) l w) (hm : m = l.length) (i : Nat) (hi : i < l.length) (u : Int) : OrO B b w0 (.slice (some ⟨g, 0, none⟩) m c) (l.set i u) (w.setCell ⟨g, i, none⟩ (.int .i64 u)) := by
  subst hm
  refine ⟨h.d.set _ (h.o.lt g rfl).1 (by have := (h.o.lt g rfl).1; have := h.hB; omega), h.hB, ?_⟩
  rw [List.length_set]
  exact owns_set h.o i hi u
end
noncomputable def orM : Code := (Try.f28.body).getD .skip
set_option maxRecDepth 100000 in
theorem fr_orM (f : Nat → Value) : frame 43 f = ⟨#[f 0, f 1, f 2, f 3, f 4, f 5, f 6, f 7, f 8, f 9, f 10, f 11, f 12, f 13, f 14, f 15, f 16, f 17, f 18, f 19, f 20, f 21, f 22, f 23, f 24, f 25, f 26, f 27, f 28, f 29, f 30, f 31, f 32, f 33, f 34, f 35, f 36, f 37, f 38, f 39, f 40, f 41, f 42], []⟩ := by rfl
set_option maxRecDepth 100000 in
set_option maxHeartbeats 1000000 in
theorem or0 (B b : Nat) (w0 : World) (n : Nat) (hn : n ≤ 1000) (hb : b ≤ 50000) : T3 Try.prog (fun a w => (Str B w b ∧ IsW w0 w) ∧ Fr 43 [(0, .pointer (some ⟨B, 0, none⟩)), (1, .int .i64 n)] a) (sel [0] orM) (fun a w => (Str B w b ∧ IsW w0 w) ∧ Fr 43 [(0, .pointer (some ⟨B, 0, none⟩)), (1, .int .i64 n)] a) No 9 No := by
  refine T3.leaf ?_
  rintro Q JS JX JT K hS hK hX hE hT hR a w ⟨hW, ⟨fr, rfl, q0, q1, _⟩⟩
  rw [fr_orM, show fr 0 = _ from q0, show fr 1 = _ from q1]
  clear q0 q1
  conv => arg 2; whnf
  go_wp2_with fail
  refine Met.intro (hS _ _ ?_)
  exact ⟨hW, Fr.of _ rfl ⟨rfl, rfl, trivial⟩⟩

set_option maxRecDepth 100000 in
set_option maxHeartbeats 1000000 in
theorem or1 (B b : Nat) (w0 : World) (n : Nat) (hn : n ≤ 1000) (hb : b ≤ 50000) : T3 Try.prog (fun a w => (Str B w b ∧ IsW w0 w) ∧ Fr 43 [(0, .pointer (some ⟨B, 0, none⟩)), (1, .int .i64 n)] a) (sel [1, 0] orM) (fun a w => (Str B w b ∧ IsW w0 w) ∧ Fr 43 [(0, .pointer (some ⟨B, 0, none⟩)), (1, .int .i64 n), (5, .slice none 0 0)] a) No 9 No := by
  refine T3.leaf ?_
  rintro Q JS JX JT K hS hK hX hE hT hR a w ⟨hW, ⟨fr, rfl, q0, q1, _⟩⟩
  rw [fr_orM, show fr 0 = _ from q0, show fr 1 = _ from q1]
  clear q0 q1
  conv => arg 2; whnf
  go_wp2_with fail
  refine Met.intro (hS _ _ ?_)
  exact ⟨hW, Fr.of _ rfl ⟨rfl, rfl, rfl, trivial⟩⟩

set_option maxRecDepth 100000 in
set_option maxHeartbeats 1000000 in
theorem or2 (B b : Nat) (w0 : World) (n : Nat) (hn : n ≤ 1000) (hb : b ≤ 50000) : T3 Try.prog (fun a w => (Str B w b ∧ IsW w0 w) ∧ Fr 43 [(0, .pointer (some ⟨B, 0, none⟩)), (1, .int .i64 n), (5, .slice none 0 0)] a) (sel [1, 1, 0, 0] orM) (fun a w => (0 ≤ (0 : Int) ∧ (0 : Int) ≤ n) ∧ ∃ (v5 : Value) (l : List Int), (CntI 0 l.length ∧ InN n l) ∧ (OrO B b w0 v5 l w) ∧ Fr 43 [(0, .pointer (some ⟨B, 0, none⟩)), (1, .int .i64 n), (5, v5), (9, .int .i64 n), (10, .int .i64 0)] a) No 9 No := by
  refine T3.leaf ?_
  rintro Q JS JX JT K hS hK hX hE hT hR a w ⟨⟨hS_, hW⟩, ⟨fr, rfl, q0, q1, q5, _⟩⟩
  obtain rfl : w = w0 := hW
  have hlt := hS_.lt
  rw [fr_orM, show fr 0 = _ from q0, show fr 1 = _ from q1, show fr 5 = _ from q5]
  clear q0 q1 q5
  conv => arg 2; whnf
  go_wp2_with fail
  refine Met.intro (hS _ _ ?_)
  exact ⟨⟨by omega, by omega⟩, _, [], ⟨⟨by simp⟩, ⟨fun x hx => by cases hx⟩⟩, ⟨Drawn.refl hS_, hlt, World.ownsRow_nil _ _ _ _⟩, Fr.of _ rfl ⟨rfl, rfl, rfl, rfl, rfl, trivial⟩⟩

set_option maxRecDepth 100000 in
set_option maxHeartbeats 1000000 in
theorem or4 (B b : Nat) (w0 : World) (n : Nat) (hn : n ≤ 1000) (hb : b ≤ 50000) (k : Int) : T3 Try.prog (fun a w => ∃ (v5 : Value) (l : List Int), ((0 ≤ k ∧ k < n) ∧ CntI k l.length ∧ InN n l) ∧ (OrO B b w0 v5 l w) ∧ Fr 43 [(0, .pointer (some ⟨B, 0, none⟩)), (1, .int .i64 n), (5, v5), (9, .int .i64 n), (10, .int .i64 k)] a) (sel [1, 1, 0, 1, 4, 4, 1, 1, 0, 4, 0] orM) (fun a w => ∃ (v5 : Value) (l : List Int), ((0 ≤ k ∧ k < n) ∧ CntI k l.length ∧ InN n l) ∧ (OrO B b w0 v5 l w) ∧ Fr 43 [(0, .pointer (some ⟨B, 0, none⟩)), (1, .int .i64 n), (5, v5), (6, .int .i64 k), (9, .int .i64 n), (10, .int .i64 k)] a) No 9 No := by
  refine T3.leaf ?_
  rintro Q JS JX JT K hS hK hX hE hT hR a w ⟨v5, l, hpre, hW, ⟨fr, rfl, q0, q1, q5, q9, q10, _⟩⟩
  have hpp := Lib.hid hpre
  have HW := Lib.hid hW
  obtain ⟨p5, c5, hv5⟩ := (Row.of_owns hW.o).shape
  subst hv5
  clear hW
  rw [fr_orM, show fr 0 = _ from q0, show fr 1 = _ from q1, show fr 5 = _ from q5, show fr 9 = _ from q9, show fr 10 = _ from q10]
  clear q0 q1 q5 q9 q10
  conv => arg 2; whnf
  go_wp2_with fail
  refine Met.intro (hS _ _ ?_)
  exact ⟨_, _, hpp.out, HW.out, Fr.of _ rfl ⟨rfl, rfl, rfl, rfl, rfl, rfl, trivial⟩⟩

set_option maxRecDepth 100000 in
set_option maxHeartbeats 1000000 in
theorem or5 (B b : Nat) (w0 : World) (n : Nat) (hn : n ≤ 1000) (hb : b ≤ 50000) (k : Int) (v5 : Value) (l : List Int) : T3 Try.prog (fun a w => ((0 ≤ k ∧ k < n) ∧ CntI k l.length ∧ InN n l) ∧ (OrO B b w0 v5 l w) ∧ Fr 43 [(0, .pointer (some ⟨B, 0, none⟩)), (1, .int .i64 n), (5, v5), (6, .int .i64 k), (9, .int .i64 n), (10, .int .i64 k)] a) (sel [1, 1, 0, 1, 4, 4, 1, 1, 0, 4, 1] orM) (fun a w => ∃ (v5 : Value) (l : List Int), ((0 ≤ k ∧ k < n) ∧ CntI (k + 1) l.length ∧ InN n l) ∧ (OrO B b w0 v5 l w) ∧ Fr 43 [(0, .pointer (some ⟨B, 0, none⟩)), (1, .int .i64 n), (5, v5), (9, .int .i64 n), (10, .int .i64 k)] a) No 9 No := by
  refine T3.leaf ?_
  rintro Q JS JX JT K hS hK hX hE hT hR a w ⟨hpre, hW, ⟨fr, rfl, q0, q1, q5, q6, q9, q10, _⟩⟩
  have hpp := Lib.hid hpre
  obtain ⟨⟨hk0, hk1⟩, hl, _⟩ := hpre
  have hl4 : l.length ≤ 1000 := by have := hl.h; omega
  clear hl
  have hE := el_intO
  have hz := hW.d.size
  obtain ⟨p5, c5, hv5⟩ := (Row.of_owns hW.o).shape
  subst hv5
  rw [fr_orM, show fr 0 = _ from q0, show fr 1 = _ from q1, show fr 5 = _ from q5, show fr 6 = _ from q6, show fr 9 = _ from q9, show fr 10 = _ from q10]
  clear q0 q1 q5 q6 q9 q10
  conv => arg 2; whnf
  go_wp2_with (at_builtin; refine app_law rfl _ _ _ rfl hE (hW.o.alloc _) rfl [.int .i64 k] rfl rfl (cells_new w #[_] _) (by simp [Value.oneCell']) (by omega) (by simp; omega) ?_; intro v' w2 hown2 hgr2; have h2 := (hW.alloc _).app hown2 hgr2)
  refine Met.intro (hS _ _ ?_)
  exact ⟨_, _, ⟨hpp.out.1, ⟨by have := hpp.out.2.1.h; simp; omega⟩, hpp.out.2.2.snoc hpp.out.1.1 hpp.out.1.2⟩, h2, Fr.of _ rfl ⟨rfl, rfl, rfl, rfl, rfl, trivial⟩⟩

set_option maxRecDepth 100000 in
set_option maxHeartbeats 1000000 in
theorem orb (B b : Nat) (w0 : World) (n : Nat) (hn : n ≤ 1000) (hb : b ≤ 50000) (k : Int) : T3 Try.prog (fun a w => ∃ (v5 : Value) (l : List Int), ((0 ≤ k ∧ k < n) ∧ CntI k l.length ∧ InN n l) ∧ (OrO B b w0 v5 l w) ∧ Fr 43 [(0, .pointer (some ⟨B, 0, none⟩)), (1, .int .i64 n), (5, v5), (9, .int .i64 n), (10, .int .i64 k)] a) (sel [1, 1, 0, 1, 4, 4, 1, 1, 0] orM) (fun a w => ∃ (v5 : Value) (l : List Int), ((0 ≤ k ∧ k < n) ∧ CntI (k + 1) l.length ∧ InN n l) ∧ (OrO B b w0 v5 l w) ∧ Fr 43 [(0, .pointer (some ⟨B, 0, none⟩)), (1, .int .i64 n), (5, v5), (9, .int .i64 n), (10, .int .i64 k)] a) No 9 No := T3.block (id' := 1) (c := (sel [1, 1, 0, 1, 4, 4, 1, 1, 0, 4] orM)) (by decide) (T3.seq (s := (sel [1, 1, 0, 1, 4, 4, 1, 1, 0, 4, 0] orM)) (c := (sel [1, 1, 0, 1, 4, 4, 1, 1, 0, 4, 1] orM)) (or4 B b w0 n hn hb k) (T3.ex fun v5 => T3.ex fun l => or5 B b w0 n hn hb k v5 l))

def orAI (B b : Nat) (w0 : World) (n : Nat) (hn : n ≤ 1000) (hb : b ≤ 50000) (k : Int) (a : Act) (w : World) : Prop := (0 ≤ k ∧ k ≤ n) ∧ ∃ (v5 : Value) (l : List Int), (CntI k l.length ∧ InN n l) ∧ (OrO B b w0 v5 l w) ∧ Fr 43 [(0, .pointer (some ⟨B, 0, none⟩)), (1, .int .i64 n), (5, v5), (9, .int .i64 n), (10, .int .i64 k)] a
set_option maxRecDepth 100000 in
set_option maxHeartbeats 1000000 in
theorem orAt (B b : Nat) (w0 : World) (n : Nat) (hn : n ≤ 1000) (hb : b ≤ 50000) (k : Int) : T3 Try.prog (fun a w => orAI B b w0 n hn hb k a w) (sel [1, 1, 0, 1, 4, 4, 0] orM) (fun a w => ∃ q, Fr 43 ((11, .bool q) :: [(10, .int .i64 k)]) a ∧ ((q = true ↔ k < n) ∧ orAI B b w0 n hn hb k a w)) No 9 No := by
  refine T3.leaf ?_
  rintro Q JS JX JT K hS hK hX hE hT hR a w ⟨hk, v5, l, hpre, hW, ⟨fr, rfl, q0, q1, q5, q9, q10, _⟩⟩
  have hn1 := hn
  rw [fr_orM, show fr 0 = _ from q0, show fr 1 = _ from q1, show fr 5 = _ from q5, show fr 9 = _ from q9, show fr 10 = _ from q10]
  clear q0 q1 q5 q9 q10
  conv => arg 2; whnf
  by_cases hlt : k < n
  · go_wp2_with fail
    refine Met.intro (hS _ _ ?_)
    exact ⟨true, Fr.of _ rfl ⟨rfl, rfl, trivial⟩, ⟨fun _ => hlt, fun _ => rfl⟩, hk, v5, l, hpre, hW, Fr.of _ rfl ⟨rfl, rfl, rfl, rfl, rfl, trivial⟩⟩
  · have hpb : decide (k < (n)) = false := by simp; omega
    go_wp2_with fail
    refine Met.intro (hS _ _ ?_)
    exact ⟨false, Fr.of _ rfl ⟨rfl, rfl, trivial⟩, ⟨(fun h => by cases h), fun h => absurd h (by omega)⟩, hk, v5, l, hpre, hW, Fr.of _ rfl ⟨rfl, rfl, rfl, rfl, rfl, trivial⟩⟩

set_option maxRecDepth 100000 in
set_option maxHeartbeats 1000000 in
theorem orAn (B b : Nat) (w0 : World) (n : Nat) (hn : n ≤ 1000) (hb : b ≤ 50000) (k : Int) : T3 Try.prog (fun a w => (0 ≤ k ∧ k < n) ∧ ∃ (v5 : Value) (l : List Int), (CntI (k + 1) l.length ∧ InN n l) ∧ (OrO B b w0 v5 l w) ∧ Fr 43 [(0, .pointer (some ⟨B, 0, none⟩)), (1, .int .i64 n), (5, v5), (9, .int .i64 n), (10, .int .i64 k)] a) (sel [1, 1, 0, 1, 4, 4, 1, 1, 1] orM) (fun a w => orAI B b w0 n hn hb (k + 1) a w) No 9 No := by
  refine T3.leaf ?_
  rintro Q JS JX JT K hS hK hX hE hT hR a w ⟨hk, v5, l, hpre, hW, ⟨fr, rfl, q0, q1, q5, q9, q10, _⟩⟩
  obtain ⟨hk0, hk1⟩ := hk
  have hn1 := hn
  rw [fr_orM, show fr 0 = _ from q0, show fr 1 = _ from q1, show fr 5 = _ from q5, show fr 9 = _ from q9, show fr 10 = _ from q10]
  clear q0 q1 q5 q9 q10
  conv => arg 2; whnf
  go_wp2_with fail
  refine Met.intro (hS _ _ ?_)
  exact ⟨⟨by omega, by omega⟩, v5, l, hpre, hW, Fr.of _ rfl ⟨rfl, rfl, rfl, rfl, rfl, trivial⟩⟩

set_option maxRecDepth 100000 in
set_option maxHeartbeats 1000000 in
theorem orAloop (B b : Nat) (w0 : World) (n : Nat) (hn : n ≤ 1000) (hb : b ≤ 50000) : T3 Try.prog (fun a w => orAI B b w0 n hn hb 0 a w) (sel [1, 1, 0, 1] orM) (fun a w => ∃ (v5 : Value) (l : List Int), (CntI n l.length ∧ InN n l) ∧ (OrO B b w0 v5 l w) ∧ Fr 43 [(0, .pointer (some ⟨B, 0, none⟩)), (1, .int .i64 n), (5, v5)] a) No 9 No := by
  refine T3.loop (c := (sel [1, 1, 0, 1, 4, 4] orM)) (fun ng_ a w => ∃ k : Int, (ng_ : Int) = n - k ∧ orAI B b w0 n hn hb k a w) (fun a w h => ⟨(n : Int).toNat, 0, by have := h.1.2; omega, h⟩) (fun ng_ => T3.ex fun k => T3.pure fun hng_ => ?_)
  refine T3.seq (s := (sel [1, 1, 0, 1, 4, 4, 0] orM)) (c := (sel [1, 1, 0, 1, 4, 4, 1] orM)) ((orAt B b w0 n hn hb k).noX) ?_
  refine T3.seq (s := (sel [1, 1, 0, 1, 4, 4, 1, 0] orM)) (c := (sel [1, 1, 0, 1, 4, 4, 1, 1] orM)) (S := fun a w => (0 ≤ k ∧ k < n) ∧ ∃ (v5 : Value) (l : List Int), (CntI k l.length ∧ InN n l) ∧ (OrO B b w0 v5 l w) ∧ Fr 43 [(0, .pointer (some ⟨B, 0, none⟩)), (1, .int .i64 n), (5, v5), (9, .int .i64 n), (10, .int .i64 k)] a) ?_ (T3.seq (s := (sel [1, 1, 0, 1, 4, 4, 1, 1, 0] orM)) (c := (sel [1, 1, 0, 1, 4, 4, 1, 1, 1] orM)) (S := fun a w => (0 ≤ k ∧ k < n) ∧ ∃ (v5 : Value) (l : List Int), (CntI (k + 1) l.length ∧ InN n l) ∧ (OrO B b w0 v5 l w) ∧ Fr 43 [(0, .pointer (some ⟨B, 0, none⟩)), (1, .int .i64 n), (5, v5), (9, .int .i64 n), (10, .int .i64 k)] a) (T3.noX (T3.mono (R' := fun a w => (0 ≤ k ∧ k < n) ∧ ∃ (v5 : Value) (l : List Int), (CntI k l.length ∧ InN n l) ∧ (OrO B b w0 v5 l w) ∧ Fr 43 [(0, .pointer (some ⟨B, 0, none⟩)), (1, .int .i64 n), (5, v5), (9, .int .i64 n), (10, .int .i64 k)] a) (S' := fun a w => (0 ≤ k ∧ k < n) ∧ ∃ (v5 : Value) (l : List Int), (CntI (k + 1) l.length ∧ InN n l) ∧ (OrO B b w0 v5 l w) ∧ Fr 43 [(0, .pointer (some ⟨B, 0, none⟩)), (1, .int .i64 n), (5, v5), (9, .int .i64 n), (10, .int .i64 k)] a) (orb B b w0 n hn hb k) (fun a w ⟨hk, v5, l, hp, hI⟩ => ⟨v5, l, ⟨hk, hp⟩, hI⟩) (fun a w ⟨v5, l, ⟨hk, hp⟩, hI⟩ => ⟨hk, v5, l, hp, hI⟩) (fun _ _ q => q) (fun _ _ q => q))) ?_)
  · refine T3.cond (o := .tmp 11) (x := .skip) (y := .exit 0) (fun a w => k < n ∧ orAI B b w0 n hn hb k a w) (fun a w => ¬ k < n ∧ orAI B b w0 n hn hb k a w) ?_ (T3.skip ?_) (T3.exit ?_)
    · rintro a w ⟨q, hF, hq, hI⟩
      have he := hF.eval 11 (by decide) (v := .bool q) (by simp)
      cases q
      · exact .inr ⟨he, (fun h => by have := hq.2 h; cases this), hI⟩
      · exact .inl ⟨he, hq.1 rfl, hI⟩
    · rintro a w ⟨hlt, hk, hI⟩
      exact ⟨⟨hk.1, hlt⟩, hI⟩
    · rintro a w ⟨hlt, hk, hI⟩
      obtain rfl : k = n := by omega
      obtain ⟨v5, l, hl, hW, hF⟩ := hI
      exact ⟨v5, l, hl, hW, hF.sub (by simp)⟩
  · intro a w hx
    have hk := hx.1
    exact (((orAn B b w0 n hn hb k).noX).post (fun a w q => ⟨ng_ - 1, by omega, k + 1, by omega, q⟩)) a w hx
set_option maxRecDepth 100000 in
set_option maxHeartbeats 1000000 in
theorem or7 (B b : Nat) (w0 : World) (n : Nat) (hn : n ≤ 1000) (hb : b ≤ 50000) (v5 : Value) (l : List Int) (hc : CntI n l.length) (hi : InN n l) : T3 Try.prog (fun a w => (OrO B b w0 v5 l w) ∧ Fr 43 [(0, .pointer (some ⟨B, 0, none⟩)), (1, .int .i64 n), (5, v5)] a) (sel [1, 1, 1, 0, 0] orM) (fun a w => (OrO B b w0 v5 l w) ∧ Fr 43 [(0, .pointer (some ⟨B, 0, none⟩)), (1, .int .i64 n), (5, v5), (7, .int .i64 ((n : Int) - 1))] a) No 9 No := by
  refine T3.leaf ?_
  rintro Q JS JX JT K hS hK hX hE hT hR a w ⟨hW, ⟨fr, rfl, q0, q1, q5, _⟩⟩
  have HW := Lib.hid hW
  obtain ⟨p5, c5, hv5⟩ := (Row.of_owns hW.o).shape
  subst hv5
  clear hW
  have e1 : IntKind.i64.wrap ((n : Int) - 1) = (n : Int) - 1 := IntWalk.i64_in _ (by omega)
  rw [fr_orM, show fr 0 = _ from q0, show fr 1 = _ from q1, show fr 5 = _ from q5]
  clear q0 q1 q5
  conv => arg 2; whnf
  go_wp2_with fail
  refine Met.intro (hS _ _ ?_)
  exact ⟨HW.out, Fr.of _ rfl ⟨rfl, rfl, rfl, rfl, trivial⟩⟩

set_option maxRecDepth 100000 in
set_option maxHeartbeats 1000000 in
theorem or8 (B b : Nat) (w0 : World) (n : Nat) (hn : n ≤ 1000) (hb : b ≤ 50000) (v5 : Value) (l : List Int) (i : Int) (b2 : Nat) (hi0 : -1 ≤ i) (hin : i < n) : T3 Try.prog (fun a w => (OrO B b2 w0 v5 l w) ∧ Fr 43 [(0, .pointer (some ⟨B, 0, none⟩)), (1, .int .i64 n), (5, v5), (7, .int .i64 i)] a) (sel [1, 1, 1, 0, 1, 4, 4, 0, 0] orM) (fun a w => ∃ q, Fr 43 ((21, .bool q) :: [(0, .pointer (some ⟨B, 0, none⟩)), (1, .int .i64 n), (5, v5), (7, .int .i64 i)]) a ∧ ((q = decide (0 < i)) ∧ OrO B b2 w0 v5 l w)) No 9 No := by
  refine T3.leaf ?_
  rintro Q JS JX JT K hS hK hX hE hT hR a w ⟨hW, ⟨fr, rfl, q0, q1, q5, q7, _⟩⟩
  have HW := Lib.hid hW
  obtain ⟨p5, c5, hv5⟩ := (Row.of_owns hW.o).shape
  subst hv5
  clear hW
  rw [fr_orM, show fr 0 = _ from q0, show fr 1 = _ from q1, show fr 5 = _ from q5, show fr 7 = _ from q7]
  clear q0 q1 q5 q7
  conv => arg 2; whnf
  go_wp2_with fail
  refine Met.intro (hS _ _ ?_)
  exact ⟨_, Fr.of _ rfl ⟨rfl, rfl, rfl, rfl, rfl, trivial⟩, rfl, HW.out⟩

set_option maxRecDepth 100000 in
set_option maxHeartbeats 1000000 in
theorem or10 (B b : Nat) (w0 : World) (n : Nat) (hn : n ≤ 1000) (hb : b ≤ 50000) (v5 : Value) (l : List Int) (i : Int) (b2 : Nat) (hi0 : -1 ≤ i) (hin : i < n) (hpos : 0 < i) (hb2 : b2 ≤ 60000) : T3 Try.prog (fun a w => (OrO B b2 w0 v5 l w) ∧ Fr 43 [(0, .pointer (some ⟨B, 0, none⟩)), (1, .int .i64 n), (5, v5), (7, .int .i64 i)] a) (sel [1, 1, 1, 0, 1, 4, 4, 1, 0, 4, 0] orM) (fun a w => ∃ (k : Int), (0 ≤ k ∧ k ≤ i) ∧ (OrO B (b2 + 1) w0 v5 l w) ∧ Fr 43 [(0, .pointer (some ⟨B, 0, none⟩)), (1, .int .i64 n), (5, v5), (7, .int .i64 i), (8, .int .i64 k)] a) No 9 No := by
  refine T3.leaf ?_
  rintro Q JS JX JT K hS hK hX hE hT hR a w ⟨hW, ⟨fr, rfl, q0, q1, q5, q7, _⟩⟩
  have HW := Lib.hid hW
  obtain ⟨p5, c5, hv5⟩ := (Row.of_owns hW.o).shape
  subst hv5
  have e1 : IntKind.i64.wrap (i + 1) = i + 1 := IntWalk.i64_in _ (by omega)
  rw [fr_orM, show fr 0 = _ from q0, show fr 1 = _ from q1, show fr 5 = _ from q5, show fr 7 = _ from q7]
  clear q0 q1 q5 q7
  conv => arg 2; whnf
  go_wp2_with fail
  refine (next_d B b2 (i + 1) w hW.d.str (by omega) (by omega) (by omega)).mono ?_
  rintro e w1 ⟨k, rfl, hk0, hk1, hd⟩
  have HW1 := Lib.hid (HW.out.drawn hd)
  clear hW hd
  go_wp2_with fail
  refine Met.intro (hS _ _ ?_)
  exact ⟨k, ⟨hk0, by omega⟩, HW1.out, Fr.of _ rfl ⟨rfl, rfl, rfl, rfl, rfl, trivial⟩⟩

set_option maxRecDepth 100000 in
set_option maxHeartbeats 1000000 in
theorem or11 (B b : Nat) (w0 : World) (n : Nat) (hn : n ≤ 1000) (hb : b ≤ 50000) (v5 : Value) (l : List Int) (i : Int) (b2 : Nat) (hi0 : -1 ≤ i) (hin : i < n) (hpos : 0 < i) (hb2 : b2 ≤ 60000) (k : Int) (hk : 0 ≤ k ∧ k ≤ i) (hc : CntI n l.length) (hi : InN n l) : T3 Try.prog (fun a w => (OrO B (b2 + 1) w0 v5 l w) ∧ Fr 43 [(0, .pointer (some ⟨B, 0, none⟩)), (1, .int .i64 n), (5, v5), (7, .int .i64 i), (8, .int .i64 k)] a) (sel [1, 1, 1, 0, 1, 4, 4, 1, 0, 4, 1] orM) (fun a w => ∃ (l' : List Int), (CntI n l'.length ∧ InN n l') ∧ (OrO B (b2 + 1) w0 v5 l' w) ∧ Fr 43 [(0, .pointer (some ⟨B, 0, none⟩)), (1, .int .i64 n), (5, v5), (7, .int .i64 i)] a) No 9 No := by
  refine T3.leafN ?_
  rintro JS hS a w ⟨hW, ⟨fr, rfl, q0, q1, q5, q7, q8, _⟩⟩
  obtain ⟨hk0, hk1⟩ := hk
  have hl : (l.length : Int) = n := hc.h
  have hD := hW.drawn (Drawn.drewN (Drawn.refl hW.d.str) 1)
  have hD : OrO B (b2 + 1) w0 v5 l w.drew := hD
  obtain ⟨g5, c5, hv5, _, _, hn5, hm5⟩ := owns_shape hW.o (by omega)
  subst hv5
  simp only [maxLen] at hm5
  have t0 := ints_of_owns hD.o i (by omega) (by omega)
  have t1 := ints_of_owns hD.o k hk0 (by omega)
  have gi := geti_in hi (k := i) (by omega) (by omega)
  have gk := geti_in hi (k := k) hk0 (by omega)
  have f0 := owns_frozenC hD.o i.toNat
  have hs1 := hD.set rfl i.toNat (by omega) (geti l k)
  have ho1 := hs1.o
  rw [List.length_set] at ho1
  have f1 := owns_frozenC ho1 k.toNat
  have t2 := ints_of_owns ho1 k hk0 (by first | omega | (rw [List.length_set]; omega) | (simp; omega))
  clear ho1
  have hs2 := hs1.set (by simp) k.toNat (by simp; omega) (geti l i)
  have HF := Lib.hid hs2
  have HI := Lib.hid ((hi.set i.toNat gk.1 gk.2).set k.toNat gi.1 gi.2)
  have HC := Lib.hid hc
  have G1 := Lib.hid (grown_setCell w.drew g5 i.toNat (.int .i64 (geti l k)))
  have G2 := Lib.hid (grown_trans G1.out (grown_setCell (w.drew.setCell ⟨g5, i.toNat, none⟩ (.int .i64 (geti l k))) g5 k.toNat (.int .i64 (geti l i))))
  have ii : 0 ≤ i ∧ i < l.length := by omega
  have kk : 0 ≤ k ∧ k < l.length := by omega
  clear hs1 hs2 hD hW hc hi gi gk
  generalize hxi : geti l i = xi at *
  generalize hxk : geti l k = xk at *
  generalize geti (l.set i.toNat xk) k = xz at *
  clear hxi hxk
  have HL := Lib.hid hl
  clear hl
  rw [fr_orM, show fr 0 = _ from q0, show fr 1 = _ from q1, show fr 5 = _ from q5, show fr 7 = _ from q7, show fr 8 = _ from q8]
  clear q0 q1 q5 q7 q8
  conv => arg 2; whnf
  refine wp_region_sch (some g5) (.calm 0 (.calm 1 (.calm 2 (.calm 3 (.calm 4 (.calm 5 (.calm 8 (.calm 9 (.calm 6 (.calm 10 (.two 7 11 (.one 11 (.calm 12 (.one 13 (.calm 14 (.one 15 .done))))) (.one 7 (.calm 12 (.one 13 (.calm 14 (.one 15 .done)))))))))))))))) (by kernel_rfl) (by kernel_rfl) (by intro c a d v w h; cases d <;> exact h) ?_
  generalize hwd : w.drew = wd at *
  clear hwd
  refine sch_hide (fun W hH hC hN hT_ hE => ?_)
  refine hH.out _ _ _ _ _ rfl (fun K hK => ?_); go_simp; refine hK _ ?_; clear hK K
  refine hH.out _ _ _ _ _ rfl (fun K hK => ?_); go_simp; refine hK _ ?_; clear hK K
  refine hH.out _ _ _ _ _ rfl (fun K hK => ?_); go_simp; refine hK _ ?_; clear hK K
  refine hH.out _ _ _ _ _ rfl (fun K hK => ?_); go_simp; refine hK _ ?_; clear hK K
  refine hH.out _ _ _ _ _ rfl (fun K hK => ?_); go_simp; refine hK _ ?_; clear hK K
  refine hH.out _ _ _ _ _ rfl (fun K hK => ?_); go_simp; refine hK _ ?_; clear hK K
  refine hH.out _ _ _ _ _ rfl (fun K hK => ?_); go_simp; refine hK _ ?_; clear hK K
  refine hH.out _ _ _ _ _ rfl (fun K hK => ?_); go_simp; refine hK _ ?_; clear hK K
  refine hH.out _ _ _ _ _ rfl (fun K hK => ?_); go_simp; refine hK _ ?_; clear hK K
  refine hH.out _ _ _ _ _ rfl (fun K hK => ?_); go_simp; refine hK _ ?_; clear hK K
  refine hT_.out _ _ _ _ _ _ ?_ ?_
  · refine hC.out _ _ _ _ _ rfl (by first | rfl | go_simp) (fun K hK => ?_)
    simp only [bare]
    go_wp2_with fail
    refine hK.out _ _ (grown_refl _ _) ?_
    clear hK K
    refine hC.out _ _ _ _ _ rfl (by first | rfl | go_simp) (fun K hK => ?_)
    simp only [bare]
    go_wp2_with fail
    refine hK.out _ _ (grown_refl _ _) ?_
    clear hK K
    refine hH.out _ _ _ _ _ rfl (fun K hK => ?_); go_simp; refine hK _ ?_; clear hK K
    refine hC.out _ _ _ _ _ rfl (by first | rfl | go_simp) (fun K hK => ?_)
    simp only [bare]
    go_wp2_with fail
    generalize hw2 : wd.setCell ⟨g5, i.toNat, none⟩ (.int .i64 xk) = w2 at *
    clear hw2
    refine hK.out _ _ (G1.out) ?_
    clear hK K
    refine hH.out _ _ _ _ _ rfl (fun K hK => ?_); go_simp; refine hK _ ?_; clear hK K
    refine hC.out _ _ _ _ _ rfl (by first | rfl | go_simp) (fun K hK => ?_)
    simp only [bare]
    go_wp2_with fail
    refine hK.out _ _ (G2.out) ?_
    clear hK K
    refine hE.out _ _ ?_
    clear hH hC hN hT_ hE W
    show JS _ _
    refine hS _ _ ?_
    exact ⟨_, ⟨⟨by rw [List.length_set, List.length_set]; exact HC.out.h⟩, HI.out⟩, HF.out, Fr.of _ rfl ⟨rfl, rfl, rfl, rfl, trivial⟩⟩
  · refine hC.out _ _ _ _ _ rfl (by first | rfl | go_simp) (fun K hK => ?_)
    simp only [bare]
    go_wp2_with fail
    refine hK.out _ _ (grown_refl _ _) ?_
    clear hK K
    refine hC.out _ _ _ _ _ rfl (by first | rfl | go_simp) (fun K hK => ?_)
    simp only [bare]
    go_wp2_with fail
    refine hK.out _ _ (grown_refl _ _) ?_
    clear hK K
    refine hH.out _ _ _ _ _ rfl (fun K hK => ?_); go_simp; refine hK _ ?_; clear hK K
    refine hC.out _ _ _ _ _ rfl (by first | rfl | go_simp) (fun K hK => ?_)
    simp only [bare]
    go_wp2_with fail
    generalize hw2 : wd.setCell ⟨g5, i.toNat, none⟩ (.int .i64 xk) = w2 at *
    clear hw2
    refine hK.out _ _ (G1.out) ?_
    clear hK K
    refine hH.out _ _ _ _ _ rfl (fun K hK => ?_); go_simp; refine hK _ ?_; clear hK K
    refine hC.out _ _ _ _ _ rfl (by first | rfl | go_simp) (fun K hK => ?_)
    simp only [bare]
    go_wp2_with fail
    refine hK.out _ _ (G2.out) ?_
    clear hK K
    refine hE.out _ _ ?_
    clear hH hC hN hT_ hE W
    show JS _ _
    refine hS _ _ ?_
    exact ⟨_, ⟨⟨by rw [List.length_set, List.length_set]; exact HC.out.h⟩, HI.out⟩, HF.out, Fr.of _ rfl ⟨rfl, rfl, rfl, rfl, trivial⟩⟩

set_option maxRecDepth 100000 in
set_option maxHeartbeats 1000000 in
theorem or9 (B b : Nat) (w0 : World) (n : Nat) (hn : n ≤ 1000) (hb : b ≤ 50000) (v5 : Value) (l : List Int) (i : Int) (b2 : Nat) (hpos : 0 < i) (hin : i < n) : T3 Try.prog (fun a w => (OrO B b2 w0 v5 l w) ∧ Fr 43 [(0, .pointer (some ⟨B, 0, none⟩)), (1, .int .i64 n), (5, v5), (7, .int .i64 i)] a) (sel [1, 1, 1, 0, 1, 4, 4, 1, 1] orM) (fun a w => (OrO B b2 w0 v5 l w) ∧ Fr 43 [(0, .pointer (some ⟨B, 0, none⟩)), (1, .int .i64 n), (5, v5), (7, .int .i64 (i - 1))] a) No 9 No := by
  refine T3.leaf ?_
  rintro Q JS JX JT K hS hK hX hE hT hR a w ⟨hW, ⟨fr, rfl, q0, q1, q5, q7, _⟩⟩
  have HW := Lib.hid hW
  obtain ⟨p5, c5, hv5⟩ := (Row.of_owns hW.o).shape
  subst hv5
  clear hW
  have e1 : IntKind.i64.wrap (i - 1) = i - 1 := IntWalk.i64_in _ (by omega)
  rw [fr_orM, show fr 0 = _ from q0, show fr 1 = _ from q1, show fr 5 = _ from q5, show fr 7 = _ from q7]
  clear q0 q1 q5 q7
  conv => arg 2; whnf
  go_wp2_with fail
  refine Met.intro (hS _ _ ?_)
  exact ⟨HW.out, Fr.of _ rfl ⟨rfl, rfl, rfl, rfl, trivial⟩⟩

end Go.Proofs.Ytnmdpphddimfbaa
/-
  Line-ups: an order that the stream hands out, whole. Conditions: the bounds that each theorem names.
-/
set_option linter.unusedVariables false
namespace Go.Proofs.Ytnmdpphddimfbaa
open Go.RowKit Go.Bw
set_option maxRecDepth 100000 in
set_option maxHeartbeats 1000000 in
theorem orB (B b : Nat) (w0 : World) (n : Nat) (hn : n ≤ 1000) (hb : b ≤ 50000) (v5 : Value) (l : List Int) (hc : CntI n l.length) (hi : InN n l) : T3 Try.prog (fun a w => (OrO B b w0 v5 l w) ∧ Fr 43 [(0, .pointer (some ⟨B, 0, none⟩)), (1, .int .i64 n), (5, v5)] a) (sel [1, 1, 1, 0] orM) (fun a w => ∃ (v5 : Value) (l : List Int), (CntI n l.length ∧ InN n l) ∧ (OrO B (b + n) w0 v5 l w) ∧ Fr 43 [(5, v5)] a) No 9 No := by
  refine T3.seq (s := (sel [1, 1, 1, 0, 0] orM)) (c := (sel [1, 1, 1, 0, 1] orM)) (or7 B b w0 n hn hb v5 l hc hi) ?_
  refine T3.loop (c := (sel [1, 1, 1, 0, 1, 4, 4] orM)) (fun ng => (fun a w => ∃ (i : Int) (v5 : Value) (l : List Int), (ng = i.toNat ∧ (-1 ≤ i ∧ i < n) ∧ CntI n l.length ∧ InN n l) ∧ (OrO B (b + (n - i.toNat)) w0 v5 l w) ∧ Fr 43 [(0, .pointer (some ⟨B, 0, none⟩)), (1, .int .i64 n), (5, v5), (7, .int .i64 i)] a)) (fun a w q => ⟨((n : Int) - 1).toNat, (n : Int) - 1, v5, l, ⟨rfl, ⟨by omega, by omega⟩, hc, hi⟩, q.1.mono (by omega), q.2⟩) (fun ng => T3.ex fun i => T3.ex fun v5 => T3.ex fun l => T3.pure fun hp => ?_)
  obtain ⟨hng, ⟨hi0, hin⟩, hc, hi⟩ := hp
  refine T3.seq (s := (sel [1, 1, 1, 0, 1, 4, 4, 0] orM)) (c := (sel [1, 1, 1, 0, 1, 4, 4, 1] orM)) (S := fun a w => (0 < i) ∧ (OrO B (b + (n - i.toNat)) w0 v5 l w) ∧ Fr 43 [(0, .pointer (some ⟨B, 0, none⟩)), (1, .int .i64 n), (5, v5), (7, .int .i64 i)] a) ?_ (T3.pure fun hpos => ?_)
  · refine T3.test (s := (sel [1, 1, 1, 0, 1, 4, 4, 0, 0] orM)) (x := .skip) (y := .exit 2) (C := fun q => (q = decide (0 < i))) (W := fun w => OrO B (b + (n - i.toNat)) w0 v5 l w) (by decide) ((or8 B b w0 n hn hb v5 l i (b + (n - i.toNat)) hi0 hin).noX) (T3.skip ?_) (T3.exit ?_)
    · rintro a w ⟨hF, hq, hW⟩
      exact ⟨of_decide_eq_true hq.symm, hW, hF.tail⟩
    · rintro a w ⟨hq, hW, hF⟩
      exact ⟨v5, l, ⟨hc, hi⟩, hW.mono (by omega), hF.sub (by simp)⟩
  have hb2 : b + (n - i.toNat) ≤ 60000 := by omega
  refine T3.seq (s := (sel [1, 1, 1, 0, 1, 4, 4, 1, 0] orM)) (c := (sel [1, 1, 1, 0, 1, 4, 4, 1, 1] orM)) (S := fun a w => ∃ l' : List Int, (CntI n l'.length ∧ InN n l') ∧ (OrO B (b + (n - i.toNat) + 1) w0 v5 l' w) ∧ Fr 43 [(0, .pointer (some ⟨B, 0, none⟩)), (1, .int .i64 n), (5, v5), (7, .int .i64 i)] a) ?_ (T3.ex fun l' => T3.pure fun hl => ?_)
  · refine T3.block (id' := 3) (c := (sel [1, 1, 1, 0, 1, 4, 4, 1, 0, 4] orM)) (by decide) ?_
    refine T3.seq (s := (sel [1, 1, 1, 0, 1, 4, 4, 1, 0, 4, 0] orM)) (c := (sel [1, 1, 1, 0, 1, 4, 4, 1, 0, 4, 1] orM)) ((or10 B b w0 n hn hb v5 l i (b + (n - i.toNat)) hi0 hin hpos hb2).noX) (T3.ex fun k => T3.pure fun hk => ?_)
    exact (or11 B b w0 n hn hb v5 l i (b + (n - i.toNat)) hi0 hin hpos hb2 k hk hc hi).noX
  exact ((or9 B b w0 n hn hb v5 l' i (b + (n - i.toNat) + 1) hpos hin).noX).post (fun a w q => ⟨(i - 1).toNat, by omega, i - 1, v5, l', ⟨rfl, ⟨by omega, by omega⟩, hl⟩, q.1.mono (by omega), q.2⟩)

set_option maxRecDepth 100000 in
set_option maxHeartbeats 1000000 in
theorem or12 (B b : Nat) (w0 : World) (n : Nat) (v5 : Value) (l : List Int) : T3 Try.prog (fun a w => (OrO B (b + n) w0 v5 l w) ∧ Fr 43 [(5, v5)] a) (sel [1, 1, 1, 1, 0] orM) (fun a w => (OrO B (b + n) w0 v5 l w) ∧ Fr 43 [(4, v5)] a) No 9 No := by
  refine T3.leaf ?_
  rintro Q JS JX JT K hS hK hX hE hT hR a w ⟨hW, ⟨fr, rfl, q5, _⟩⟩
  have HW := Lib.hid hW
  obtain ⟨p5, c5, hv5⟩ := (Row.of_owns hW.o).shape
  subst hv5
  clear hW
  rw [fr_orM, show fr 5 = _ from q5]
  clear q5
  conv => arg 2; whnf
  go_wp2_with fail
  refine Met.intro (hS _ _ ?_)
  exact ⟨HW.out, Fr.of _ rfl ⟨rfl, trivial⟩⟩

set_option maxRecDepth 100000 in
set_option maxHeartbeats 1000000 in
theorem or_all (B b : Nat) (w0 : World) (n : Nat) (hn : n ≤ 1000) (hb : b ≤ 50000) : T3 Try.prog (fun a w => (Str B w b ∧ IsW w0 w) ∧ Fr 43 [(0, .pointer (some ⟨B, 0, none⟩)), (1, .int .i64 n)] a) orM No No 9 (fun a w => ∃ (v5 : Value) (l : List Int), (CntI n l.length ∧ InN n l) ∧ (OrO B (b + n) w0 v5 l w) ∧ Fr 43 [(4, v5)] a) := by
  refine T3.seq (s := (sel [0] orM)) (c := (sel [1] orM)) (T3.noT (or0 B b w0 n hn hb)) ?_
  refine T3.seq (s := (sel [1, 0] orM)) (c := (sel [1, 1] orM)) (T3.noT (or1 B b w0 n hn hb)) ?_
  refine T3.seq (s := (sel [1, 1, 0] orM)) (c := (sel [1, 1, 1] orM)) (T3.noT (T3.seq (s := (sel [1, 1, 0, 0] orM)) (c := (sel [1, 1, 0, 1] orM)) (or2 B b w0 n hn hb) (orAloop B b w0 n hn hb))) ?_
  refine T3.seq (s := (sel [1, 1, 1, 0] orM)) (c := (sel [1, 1, 1, 1] orM)) (T3.ex fun v5 => T3.ex fun l => T3.pure fun h => (orB B b w0 n hn hb v5 l h.1 h.2).noT) ?_
  refine T3.ex fun v5 => T3.ex fun l => T3.pure fun h => ?_
  exact T3.seq (s := (sel [1, 1, 1, 1, 0] orM)) (c := .ret) (T3.noT (or12 B b w0 n v5 l)) (T3.ret fun a w q => ⟨v5, l, h, q⟩)

set_option maxRecDepth 100000 in
set_option maxHeartbeats 1000000 in
theorem order_any (B b : Nat) (w0 : World) (n : Nat) (hS : Str B w0 b) (hn : n ≤ 1000) (hb : b ≤ 50000) : Calls Try.prog 28 #[.pointer (some ⟨B, 0, none⟩), .int .i64 n] w0 fun e w' => ∃ (v : Value) (l : List Int), e = .returned v ∧ (CntI n l.length ∧ InN n l) ∧ OrO B (b + n) w0 v l w' := by
  have hall := or_all B b w0 n hn hb
  go_enter Try.func28, Try.ntmps28
  refine T3.done (s := orM) hall ⟨⟨hS, rfl⟩, Fr.of _ rfl ⟨rfl, rfl, trivial⟩⟩ ?_
  rintro a w ⟨v, l, hn, hW, fr, rfl, q4, _⟩
  rw [fr_orM, show fr 4 = _ from q4]
  go_ret
  exact ⟨v, l, rfl, hn, hW⟩
end Go.Proofs.Ytnmdpphddimfbaa
