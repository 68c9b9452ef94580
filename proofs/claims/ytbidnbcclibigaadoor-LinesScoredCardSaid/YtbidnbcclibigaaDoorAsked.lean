/-
  What is wrong with rules, positions and lines. Conditions: strings and numbers are no greater than Go's.
-/
import Derived.Test.YtbidnbcclibigaaDoorPoints
namespace Go.Bw
open Go.RowKit
structure LineL where
  player : ByteArray
  week : Int
  sv : Value
  stats : List StatL
instance : Inhabited LineL := ⟨⟨ByteArray.empty, 0, .slice none 0 0, []⟩⟩
def encL (x : LineL) : List Value := [.string x.player, .int .i64 x.week, x.sv]
theorem encL_length (x : LineL) : (encL x).length = 3 := rfl
/-- The lines' own rows. -/
def LinesAt (w : World) (l : List LineL) : Prop := ∀ x ∈ l, Row w 0 2 x.sv x.stats.length (cellsOf encT x.stats)
theorem LinesAt.below {w w' : World} {l : List LineL} (h : LinesAt w l) (b : Below w.heap.size w w') : LinesAt w' l := fun x hx => (h x hx).below b
structure LineOk (x : LineL) : Prop where
  player : x.player.size ≤ 9223372036854775807
  stats : ∀ t ∈ x.stats, StatOk t
end Go.Bw
namespace Go.Proofs.YtbidnbcclibigaaDoor
open Go.RowKit Go.Bw
def lineL (x : LineL) : Int := lineE x.player x.week x.stats
def linesE (l : List LineL) : Int := firstErr (fun i => lineL (geta l i)) l.length
def askedE (rs : List RuleL) (ps : List ByteArray) (ls : List LineL) : Int := if rulesE rs ≠ 0 then rulesE rs else if listE ps ≠ 0 then listE ps else linesE ls

set_option maxRecDepth 100000 in
set_option maxHeartbeats 2000000 in
theorem asked_any (w0 : World) (vr vp vl : Value) (rs : List RuleL) (ps : List ByteArray) (ls : List LineL) (hz : ∀ r ∈ rs, RuleOk r) (hzp : ∀ s ∈ ps, s.size ≤ 9223372036854775807) (hzl : ∀ x ∈ ls, LineOk x)
    (hrr : Row w0 0 7 vr rs.length (cellsOf encR rs)) (hpr : Row w0 0 1 vp ps.length (cellsOf encS ps)) (hlr : Row w0 0 3 vl ls.length (cellsOf encL ls)) (hla : LinesAt w0 ls) :
    Calls Tryd.prog 28 #[vr, vp, vl] w0 fun e w' => e = .returned (.int .i64 (askedE rs ps ls)) ∧ Below w0.heap.size w0 w' := by
  have hA := Lib.hid (show askedE rs ps ls = if rulesE rs ≠ 0 then rulesE rs else if listE ps ≠ 0 then listE ps else linesE ls from rfl)
  have hLs := Lib.hid (show listE ps = if 10 < ps.length then 2 else risingE ps from rfl)
  have HR := Lib.hid (rules_prog vr rs.length rs 0 w0 hrr hz)
  obtain ⟨p2, c2, hv2⟩ := hpr.shape
  obtain ⟨p3, c3, hv3⟩ := hlr.shape
  obtain ⟨p1, c1, hv1⟩ := hrr.shape
  by_cases h1 : rulesE rs = 0
  · rw [h1] at HR
    by_cases h10 : 10 < ps.length
    · have HE := Lib.hid (show askedE rs ps ls = 2 by rw [hA.out, h1, if_neg (by simp), hLs.out, if_pos h10, if_pos (by decide)])
      subst hv1
      subst hv2
      subst hv3
      clear h1
      go_enter Tryd.func28, Tryd.ntmps28
      go_wp2_with (go_at_call 17; refine HR.out.mono ?_; rintro e w1 ⟨rfl, hb⟩)
      go_ret
      exact ⟨ret_int HE.out.symm, hb⟩
    · have hd10 : decide ((10 : Int) < ps.length) = false := by simp; omega
      have HP := Lib.hid (fun w1 hb => rising_prog vp ps.length ps 0 w1 (hpr.below (w' := w1) hb) hzp)
      by_cases h2 : risingE ps = 0
      · rw [h2] at HP
        have HE := Lib.hid (show askedE rs ps ls = linesE ls by rw [hA.out, h1, if_neg (by simp), hLs.out, if_neg h10, h2, if_neg (by simp)])
        obtain ⟨_, hcs⟩ := hlr.els encL_length (by decide)
        subst hv1
        subst hv2
        subst hv3
        clear h1 h2
        go_enter Tryd.func28, Tryd.ntmps28
        go_wp2_with first
          | (go_at_call 17; refine HR.out.mono ?_; rintro e w1 ⟨rfl, hb⟩)
          | (go_at_call 47; refine (HP.out _ hb).mono ?_; rintro e w2 ⟨rfl, hb2⟩; replace hb := hb.trans (hb2.mono hb.size); clear hb2)
        go_loopw [27] (fun i wr => ∃ k : Int, 0 ≤ k ∧ k ≤ ls.length ∧ NoErr (fun i => lineL (geta ls i)) k ∧ i = .int .i64 k ∧ Below w0.heap.size w0 wr) (fun i _ => ls.length - (intOf i).toNat)
        case atStart => exact ⟨0, by omega, by omega, NoErr.zero _, rfl, hb⟩
        case round =>
          clear hb
          obtain ⟨k, hk0, hk1, hok, rfl, hb⟩ := hrel
          by_cases hlt : k < ls.length
          · rcases hcs with ⟨_, h0⟩ | ⟨b, off, cap, hv, _, hbs, hnc, hcm, hcell⟩
            · omega
            simp only [Value.slice.injEq] at hv
            obtain ⟨rfl, _, rfl⟩ := hv
            have tr : ∀ j u, (encL (geta ls k))[j]? = some u → wr.cell? ⟨b, off + k.toNat * 3 + j, none⟩ = some u := fun j u h => (hb.cell (p := ⟨b, off + k.toNat * 3 + j, none⟩) hbs).trans (hcell k hk0 hlt j u h)
            have t0 := tr 0 _ rfl
            have t1 := tr 1 _ rfl
            have t2 := tr 2 _ rfl
            rw [Nat.add_zero] at t0
            have hm := geta_mem (l := ls) hk0 hlt
            have hx := hzl _ hm
            have hxr := hla _ hm
            have hbn := hb.alloc hb.size (.cells (encL (geta ls k)).toArray 32)
            have HC := Lib.hid (line_prog (geta ls k).player (geta ls k).week (geta ls k).sv (geta ls k).stats.length (geta ls k).stats 0 _ hx.player (hxr.below hbn) hx.stats)
            have hst := Lib.hid (fun h => hok.step (f := fun i => lineL (geta ls i)) (i := k) h)
            have hHit := Lib.hid (fun h => firstErr_hit hok hk0 hlt h)
            have hLL := Lib.hid (show lineE (geta ls k).player (geta ls k).week (geta ls k).stats = lineL (geta ls k) from rfl)
            obtain ⟨p4, c4, hv4⟩ := hxr.shape
            have q0 := cells_new wr (encL (geta ls k)).toArray 32 0 _ rfl
            have q1 := cells_new wr (encL (geta ls k)).toArray 32 1 _ rfl
            have q2 := cells_new wr (encL (geta ls k)).toArray 32 2 _ rfl
            rw [hLL.out] at HC
            clear tr hcell hx hxr hm hok
            unfold encL at hbn HC q0 q1 q2
            rw [hv4] at t2 hbn HC q0 q1 q2
            clear hv4
            generalize (geta ls k).player = s1 at *
            generalize (geta ls k).week = n1 at *
            generalize (geta ls k).stats.length = n2 at *
            generalize hlv : lineL (geta ls k) = lv at *
            have HLV := Lib.hid hlv
            clear hlv hLL
            go_upto_region 12 with fail
            change Below w0.heap.size w0 (wr.alloc (.cells #[.string s1, .int .i64 n1, .slice p4 n2 c4] 32)) at hbn
            change Hid (Calls _ _ _ (wr.alloc (.cells #[.string s1, .int .i64 n1, .slice p4 n2 c4] 32)) _) at HC
            change (wr.alloc (.cells #[.string s1, .int .i64 n1, .slice p4 n2 c4] 32)).cell? _ = _ at q0
            change (wr.alloc (.cells #[.string s1, .int .i64 n1, .slice p4 n2 c4] 32)).cell? _ = _ at q1
            change (wr.alloc (.cells #[.string s1, .int .i64 n1, .slice p4 n2 c4] 32)).cell? _ = _ at q2
            generalize wr.alloc (.cells #[.string s1, .int .i64 n1, .slice p4 n2 c4] 32) = W2 at *
            generalize wr.heap.size = g at *
            clear t0 t1 t2
            by_cases hlv0 : lv = 0
            · subst hlv0
              go_wp2_with (go_at_call 16; refine HC.out.mono ?_; rintro e w3 ⟨rfl, hb3⟩; replace hbn := hbn.trans (hb3.mono hbn.size); clear hb3)
              go_roundw
              case rel => exact ⟨k + 1, by omega, by omega, by first | exact hst.out trivial | exact hst.out rfl | exact hst.out HLV.out, rfl, hbn⟩
              case measure => simp [intOf]; omega
            · have hnb : (lv != 0) = true := by simp [hlv0]
              have HF := Lib.hid (show linesE ls = lv by unfold linesE; first | exact hHit.out hlv0 | exact (hHit.out hlv0).trans HLV.out)
              clear hlv0
              go_wp2_with (go_at_call 16; refine HC.out.mono ?_; rintro e w3 ⟨rfl, hb3⟩; replace hbn := hbn.trans (hb3.mono hbn.size); clear hb3)
              go_ret
              exact ⟨ret_int (by rw [HE.out, HF.out]), hbn⟩
          · have hf := Lib.hid (show linesE ls = 0 from firstErr_none (fun j h0 h1 => hok j h0 (by omega)))
            clear hcs hok
            go_wp2_with fail
            go_ret
            exact ⟨ret_int (by rw [HE.out, hf.out]), hb⟩
      · have hnb : (risingE ps != 0) = true := by simp [h2]
        have HE := Lib.hid (show askedE rs ps ls = risingE ps by rw [hA.out, h1, if_neg (by simp), hLs.out, if_neg h10, if_pos h2])
        subst hv1
        subst hv2
        subst hv3
        clear h1 h2
        generalize risingE ps = e1 at *
        go_enter Tryd.func28, Tryd.ntmps28
        go_wp2_with first
          | (go_at_call 17; refine HR.out.mono ?_; rintro e w1 ⟨rfl, hb⟩)
          | (go_at_call 47; refine (HP.out _ hb).mono ?_; rintro e w2 ⟨rfl, hb2⟩; replace hb := hb.trans (hb2.mono hb.size); clear hb2)
        go_ret
        exact ⟨ret_int HE.out.symm, hb⟩
  · have hnb : (rulesE rs != 0) = true := by simp [h1]
    have HE := Lib.hid (show askedE rs ps ls = rulesE rs by rw [hA.out, if_pos h1])
    subst hv1
    subst hv2
    subst hv3
    clear h1
    generalize rulesE rs = e1 at *
    go_enter Tryd.func28, Tryd.ntmps28
    go_wp2_with (go_at_call 17; refine HR.out.mono ?_; rintro e w1 ⟨rfl, hb⟩)
    go_ret
    exact ⟨ret_int HE.out.symm, hb⟩
end Go.Proofs.YtbidnbcclibigaaDoor
