/-
  The program's Points; the law's own look that the package scores. Conditions: strings and numbers are no greater than Go's.
-/
import Derived.Test.YtbidnbcclibigaaDoorCounts
namespace Go.Proofs.YtbidnbcclibigaaDoor
open Go.RowKit Go.Bw
def pubN (rs : List RuleL) (ps : List ByteArray) (x : LineL) : Int := if askedE rs ps [x] = 0 then ofHn (ptsV rs ps x.stats) else 0
def pubD (rs : List RuleL) (ps : List ByteArray) (x : LineL) : Int := if askedE rs ps [x] = 0 then ofHd (ptsV rs ps x.stats) else 0

/-- The call's own blocks: the line, the result. -/
structure Pw (w0 w : World) (x : LineL) : Prop where
  line : CellsAt w w0.heap.size (encL x)
  res : CellsAt w (w0.heap.size + 1) [.int .i64 0, .int .i64 0]
  fr0 : w.frozen? ⟨w0.heap.size + 1, 0, none⟩ = false
  fr1 : w.frozen? ⟨w0.heap.size + 1, 1, none⟩ = false
  bel : Below w0.heap.size w0 w
theorem Pw.below {w0 w w' : World} {x : LineL} (h : Pw w0 w x) (b : Below w.heap.size w w') : Pw w0 w' x :=
  ⟨h.line.below b, h.res.below b, (b.frozen (p := ⟨w0.heap.size + 1, 0, none⟩) h.res.1).trans h.fr0, (b.frozen (p := ⟨w0.heap.size + 1, 1, none⟩) h.res.1).trans h.fr1, h.bel.trans (b.mono h.bel.size)⟩
theorem Pw.start (w0 : World) (x : LineL) : Pw w0 ((w0.alloc (.cells (encL x).toArray 32)).alloc (.cells #[.int .i64 0, .int .i64 0] 36)) x := by
  have h0 := CellsAt.new w0 (encL x).toArray 32
  have hb := (Below.refl (w0.alloc (.cells (encL x).toArray 32)).heap.size (w0.alloc (.cells (encL x).toArray 32))).alloc (Nat.le_refl _) (.cells #[.int .i64 0, .int .i64 0] 36)
  have h1 := CellsAt.new (w0.alloc (.cells (encL x).toArray 32)) #[.int .i64 0, .int .i64 0] 36
  have f0 := frozen_new0 (w0.alloc (.cells (encL x).toArray 32)) #[.int .i64 0, .int .i64 0] 36
  have hs : (w0.alloc (.cells (encL x).toArray 32)).heap.size = w0.heap.size + 1 := by simp
  rw [hs] at h1 f0
  exact ⟨h0.below hb, h1, f0 0, f0 1, ((Below.refl _ _).alloc (Nat.le_refl _) _).alloc (by simp) _⟩
theorem Pw.put {w0 w : World} {l : LineL} (h : Pw w0 w l) (x y : Value) :
    ((w.setCell ⟨w0.heap.size + 1, 0, none⟩ x).setCell ⟨w0.heap.size + 1, 1, none⟩ y).cell? ⟨w0.heap.size + 1, 0, none⟩ = some x ∧
    ((w.setCell ⟨w0.heap.size + 1, 0, none⟩ x).setCell ⟨w0.heap.size + 1, 1, none⟩ y).cell? ⟨w0.heap.size + 1, 1, none⟩ = some y ∧
    Below w0.heap.size w0 ((w.setCell ⟨w0.heap.size + 1, 0, none⟩ x).setCell ⟨w0.heap.size + 1, 1, none⟩ y) := by
  have k0 := h.res.2 0 _ rfl
  have k1 := h.res.2 1 _ rfl
  refine ⟨?_, ?_, (h.bel.setCell (by simp) _).setCell (by simp) _⟩
  · rw [World.cell?_setCell_other _ _ _ _ (by simp)]
    exact World.cell?_setCell_same' _ _ _ (by rw [k0]; rfl)
  · exact World.cell?_setCell_same' _ _ _ (by rw [World.cell?_setCell_other _ _ _ _ (by simp), k1]; rfl)

set_option maxRecDepth 100000 in
set_option maxHeartbeats 2000000 in
theorem pub_any (w0 : World) (vr vp : Value) (rs : List RuleL) (ps : List ByteArray) (x : LineL) (hz : ∀ r ∈ rs, RuleOk r) (hzp : ∀ s ∈ ps, s.size ≤ 9223372036854775807) (hx : LineOk x)
    (hrr : Row w0 0 7 vr rs.length (cellsOf encR rs)) (hpr : Row w0 0 1 vp ps.length (cellsOf encS ps)) (hla : Row w0 0 2 x.sv x.stats.length (cellsOf encT x.stats)) :
    Calls Tryd.prog 8 #[vr, vp, .agg #[.string x.player, .int .i64 x.week, x.sv]] w0 fun e w' => e = .returned (.tuple #[.agg #[.int .i64 (pubN rs ps x), .int .i64 (pubD rs ps x)], .int .i64 (askedE rs ps [x])]) ∧ Below w0.heap.size w0 w' := by
  obtain ⟨pl, wk, sv, ts⟩ := x
  dsimp only at hla ⊢
  obtain ⟨p1, c1, hv1⟩ := hla.shape
  subst hv1
  generalize hxx : (⟨pl, wk, .slice p1 ts.length c1, ts⟩ : LineL) = x at *
  have hsx : x.stats = ts ∧ x.sv = .slice p1 ts.length c1 := by subst hxx; exact ⟨rfl, rfl⟩
  have hP := Pw.start w0 x
  have hnew := (Below.refl ((w0.alloc (.cells (encL x).toArray 32)).alloc (.cells #[.int .i64 0, .int .i64 0] 36)).heap.size ((w0.alloc (.cells (encL x).toArray 32)).alloc (.cells #[.int .i64 0, .int .i64 0] 36))).alloc (Nat.le_refl _) (.cells (encL x).toArray 32)
  have hP2 := hP.below hnew
  have hlr : Row (((w0.alloc (.cells (encL x).toArray 32)).alloc (.cells #[.int .i64 0, .int .i64 0] 36)).alloc (.cells (encL x).toArray 32)) 0 3 (.slice (some ⟨w0.heap.size + 2, 0, none⟩) 1 1) [x].length (cellsOf encL [x]) := by
    have h := CellsAt.new ((w0.alloc (.cells (encL x).toArray 32)).alloc (.cells #[.int .i64 0, .int .i64 0] 36)) (encL x).toArray 32
    rw [show ((w0.alloc (.cells (encL x).toArray 32)).alloc (.cells #[.int .i64 0, .int .i64 0] 36)).heap.size = w0.heap.size + 2 by simp] at h
    exact ⟨rfl, .inr ⟨_, 0, 1, rfl, Nat.zero_le _, h.1, Nat.le_refl _, by decide, fun i u hu => by rw [Nat.zero_add]; exact h.2 i u hu⟩⟩
  have hlq : LinesAt (((w0.alloc (.cells (encL x).toArray 32)).alloc (.cells #[.int .i64 0, .int .i64 0] 36)).alloc (.cells (encL x).toArray 32)) [x] := fun y hy => by
    rw [List.mem_singleton.1 hy, hsx.1, hsx.2]; exact hla.below hP2.bel
  have HA := Lib.hid (asked_any _ vr vp _ rs ps [x] hz hzp (fun y hy => by rw [List.mem_singleton.1 hy]; exact hx) (hrr.below hP2.bel) (hpr.below hP2.bel) hlr hlq)
  obtain ⟨p0, c0, hv0⟩ := hrr.shape
  obtain ⟨p2, c2, hv2⟩ := hpr.shape
  have HE := Lib.hid (show ∀ e, askedE rs ps [x] = e → e ≠ 0 → pubN rs ps x = 0 ∧ pubD rs ps x = 0 from fun e h he => ⟨by unfold pubN; rw [h, if_neg he], by unfold pubD; rw [h, if_neg he]⟩)
  have HQ := Lib.hid (show askedE rs ps [x] = 0 → pubN rs ps x = ofHn (ptsV rs ps ts) ∧ pubD rs ps x = ofHd (ptsV rs ps ts) from fun h => by subst hxx; exact ⟨by unfold pubN; rw [h, if_pos rfl], by unfold pubD; rw [h, if_pos rfl]⟩)
  have HG := Lib.hid (show askedE rs ps [x] = 0 → (∀ r ∈ rs, RuleGood r) ∧ rs.length ≤ 100 ∧ (∀ t ∈ ts, -100000 ≤ t.count ∧ t.count ≤ 100000) from fun h => by
    obtain ⟨a1, a2, a3⟩ := asked_ok h
    exact ⟨rule_good hz a1, rules_len a1, by have hcx := lines_counts a3 x (by simp); unfold Counts at hcx; rwa [hsx.1] at hcx⟩)
  have hC : encL x = [.string pl, .int .i64 wk, .slice p1 ts.length c1] := by subst hxx; rfl
  rw [hC] at hP2 HA
  have HC := Lib.hid hC
  clear hlr hlq hnew hP hz hzp hx hxx hC hsx
  subst hv0
  subst hv2
  go_enter Tryd.func8, Tryd.ntmps8
  go_wp2_with fail
  change Hid (Calls _ _ _ (((w0.alloc (.cells #[.string pl, .int .i64 wk, .slice p1 ts.length c1] 32)).alloc (.cells #[.int .i64 0, .int .i64 0] 36)).alloc (.cells #[.string pl, .int .i64 wk, .slice p1 ts.length c1] 32)) _) at HA
  change Pw w0 (((w0.alloc (.cells #[.string pl, .int .i64 wk, .slice p1 ts.length c1] 32)).alloc (.cells #[.int .i64 0, .int .i64 0] 36)).alloc (.cells #[.string pl, .int .i64 wk, .slice p1 ts.length c1] 32)) x at hP2
  generalize ((w0.alloc (.cells #[.string pl, .int .i64 wk, .slice p1 ts.length c1] 32)).alloc (.cells #[.int .i64 0, .int .i64 0] 36)).alloc (.cells #[.string pl, .int .i64 wk, .slice p1 ts.length c1] 32) = W at *
  refine HA.out.mono ?_
  rintro e w1 ⟨rfl, hb⟩
  have hd := hP2.below hb
  clear hb HA hP2
  by_cases hA0 : askedE rs ps [x] = 0
  · obtain ⟨hg, hl, hcn⟩ := HG.out hA0
    obtain ⟨e1, e2⟩ := HQ.out hA0
    have HN := Lib.hid e1
    have HD := Lib.hid e2
    have HA0 := Lib.hid hA0
    rw [hA0]
    clear e1 e2 hA0 HE HQ HG
    have l0 := hd.line.2 0 _ (by rw [HC.out]; rfl)
    have l1 := hd.line.2 1 _ (by rw [HC.out]; rfl)
    have l2 := hd.line.2 2 _ (by rw [HC.out]; rfl)
    have hpb := ptsTo_le hg hl ps ts hcn (rs.length : Int) (by omega) (by omega)
    change -10000000000000 ≤ ptsV rs ps ts ∧ ptsV rs ps ts ≤ 10000000000000 at hpb
    have HPt := Lib.hid (points_prog w1 _ _ _ rs ps ts pl wk hg hl hcn (hrr.below hd.bel) (hla.below hd.bel) (hpr.below hd.bel))
    generalize ptsV rs ps ts = n at *
    go_wp2_with fail
    refine HPt.out.mono ?_
    rintro e w2 ⟨rfl, hb⟩
    replace hd := hd.below hb
    clear hb l0 l1 l2 HPt
    go_wp2_with fail
    refine (ofHundredths_prog n _ (by omega) (by omega)).mono ?_
    rintro e w3 ⟨rfl, hb⟩
    replace hd := hd.below hb
    clear hb
    obtain ⟨r0, r1, hB⟩ := hd.put (.int .i64 (ofHn n)) (.int .i64 (ofHd n))
    have k0 := hd.res.2 0 _ rfl
    have k1 := hd.res.2 1 _ rfl
    have kf := hd.fr0
    have kf1 := hd.fr1
    clear hd
    go_wp2_with fail
    exact bodyPost_ret (v := .tuple #[.agg #[.int .i64 (ofHn n), .int .i64 (ofHd n)], .int .i64 0]) (by simp [results, Tryd.results8, go_sem, r0, r1]) rfl ⟨by rw [HN.out, HD.out, HA0.out], hB⟩
  · obtain ⟨e1, e2⟩ := HE.out _ rfl hA0
    have HN := Lib.hid e1
    have HD := Lib.hid e2
    have hnb : (askedE rs ps [x] != 0) = true := by simp [hA0]
    clear e1 e2 hA0 HE HQ HG
    generalize hea : askedE rs ps [x] = ea at *
    have Hea := Lib.hid hea
    clear hea
    obtain ⟨r0, r1, hB⟩ := hd.put (.int .i64 0) (.int .i64 0)
    have k0 := hd.res.2 0 _ rfl
    have k1 := hd.res.2 1 _ rfl
    have kf := hd.fr0
    have kf1 := hd.fr1
    clear hd
    go_wp2_with fail
    exact bodyPost_ret (v := .tuple #[.agg #[.int .i64 0, .int .i64 0], .int .i64 ea]) (by simp [results, Tryd.results8, go_sem, r0, r1]) rfl ⟨by rw [HN.out, HD.out, Hea.out], hB⟩

def sRule : RuleL := ⟨⟨#[114]⟩, ⟨#[103, 111, 97, 108]⟩, ⟨#[]⟩, 1, 0, 1, 2⟩
def sStat : StatL := ⟨⟨#[103, 111, 97, 108]⟩, 3⟩
def sLine (v : Value) : LineL := ⟨⟨#[97]⟩, 1, v, [sStat]⟩
theorem s_asked (v : Value) : askedE [sRule] [] [sLine v] = 0 := by
  have h : lineE ⟨#[97]⟩ 1 [sStat] = 0 := by decide +kernel
  have h1 : rulesE [sRule] = 0 := by decide +kernel
  unfold askedE
  rw [if_neg (by rw [h1]; decide), if_neg (by decide +kernel)]
  unfold linesE
  exact firstErr_none (fun j h0 h1 => by
    obtain rfl : j = 0 := by simp at h1; omega
    exact h)
theorem s_pts : ptsV [sRule] [] [sStat] = 150 := by decide +kernel
theorem s_hn : ofHn 150 = 3 := by decide +kernel
theorem s_hd : ofHd 150 = 2 := by decide +kernel

set_option maxRecDepth 100000 in
set_option maxHeartbeats 2000000 in
theorem scored_any (w : World) : Calls Tryd.prog 19 #[] w fun e w' => e = .returned (.bool true) ∧ Below w.heap.size w w' := by
  go_enter Tryd.func19, Tryd.ntmps19
  go_wp2_with fail
  have hb1 := (Below.refl w.heap.size w).alloc (Nat.le_refl _) (.cells (encR sRule).toArray 57)
  have hb2 := (Below.refl (w.alloc (.cells (encR sRule).toArray 57)).heap.size (w.alloc (.cells (encR sRule).toArray 57))).alloc (Nat.le_refl _) (.cells (encT sStat).toArray 74)
  have hR := (CellsAt.new w (encR sRule).toArray 57).below hb2
  have hT := CellsAt.new (w.alloc (.cells (encR sRule).toArray 57)) (encT sStat).toArray 74
  have hsz : (w.alloc (.cells (encR sRule).toArray 57)).heap.size = w.heap.size + 1 := by simp
  rw [hsz] at hT
  have hall := hb1.trans (hb2.mono hb1.size)
  have hc := pub_any _ (.slice (some ⟨w.heap.size, 0, none⟩) 1 1) (.slice none 0 0) [sRule] [] (sLine (.slice (some ⟨w.heap.size + 1, 0, none⟩) 1 1)) (by
      intro r hr
      rw [List.mem_singleton.1 hr]
      exact ⟨by decide, by decide, by decide, by decide, by decide, by decide, by decide⟩) (by simp) ⟨by show (⟨#[97]⟩ : ByteArray).size ≤ _; decide, by
      intro t ht
      rw [List.mem_singleton.1 ht]
      show (⟨#[103, 111, 97, 108]⟩ : ByteArray).size ≤ _
      decide⟩
    ⟨rfl, .inr ⟨_, 0, 1, rfl, Nat.zero_le _, hR.1, Nat.le_refl _, by decide, fun i u hu => by rw [Nat.zero_add]; exact hR.2 i u hu⟩⟩ ⟨rfl, .inl ⟨rfl, rfl⟩⟩
    ⟨rfl, .inr ⟨_, 0, 1, rfl, Nat.zero_le _, hT.1, Nat.le_refl _, by decide, fun i u hu => by rw [Nat.zero_add]; exact hT.2 i u hu⟩⟩
  have e1 : pubN [sRule] [] (sLine (.slice (some ⟨w.heap.size + 1, 0, none⟩) 1 1)) = 3 := by
    unfold pubN; rw [if_pos (s_asked _)]; show ofHn (ptsV [sRule] [] [sStat]) = 3; rw [s_pts, s_hn]
  have e2 : pubD [sRule] [] (sLine (.slice (some ⟨w.heap.size + 1, 0, none⟩) 1 1)) = 2 := by
    unfold pubD; rw [if_pos (s_asked _)]; show ofHd (ptsV [sRule] [] [sStat]) = 2; rw [s_pts, s_hd]
  rw [e1, e2, s_asked] at hc
  have HC := Lib.hid hc
  clear hc e1 e2 hR hT hb1 hb2 hsz
  refine HC.out.mono ?_
  rintro e w1 ⟨rfl, hb⟩
  replace hall := hall.trans (hb.mono hall.size)
  clear hb HC
  go_wp2_with fail
  go_ret
  exact ⟨rfl, hall.alloc hall.size _⟩
end Go.Proofs.YtbidnbcclibigaaDoor
