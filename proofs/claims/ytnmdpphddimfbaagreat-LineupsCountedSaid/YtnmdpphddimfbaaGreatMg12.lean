/-
  Contracts and lemmas towards the statement, of several parts; each part says ahead of it what it holds and under which conditions.
-/
import Derived.Test.YtnmdpphddimfbaaGreatMg11
import Derived.Test.YtnmdpphddimfbaaGreatMg2
import Derived.Test.YtnmdpphddimfbaaGreatMg8
set_option maxRecDepth 100000
set_option maxHeartbeats 1000000
set_option linter.unusedSectionVars false
/-
  What is wrong with rules, positions and lines. Conditions: strings and numbers are no greater than Go's.
-/
set_option linter.unusedVariables false
namespace Go.Bw
open Go.RowKit
structure LineL where
 player:ByteArray
 week:Int
 sv:Value
 stats:List StatL
instance:Inhabited LineL:=⟨⟨ByteArray.empty,0,.slice none 0 0,[]⟩⟩
def encL (x:LineL):List Value:=[.string x.player,.int .i64 x.week,x.sv]
theorem encL_length (x:LineL):(encL x).length=3:=rfl
/-- The lines' own rows. -/
def LinesAt (w:World)(l:List LineL):Prop:=∀x∈l,Row w 0 2 x.sv x.stats.length (cellsOf encT x.stats)
theorem LinesAt.below {w w':World}{l:List LineL}(h:LinesAt w l)(b:Below w.heap.size w w'):LinesAt w' l:=fun x hx=>(h x hx).below b
structure LineOk (x:LineL):Prop where
 player:x.player.size≤9223372036854775807
 stats:∀t∈x.stats,StatOk t
end Go.Bw
namespace Go.Proofs.YtnmdpphddimfbaaGreat
open Go.RowKit Go.Bw
def lineL (x:LineL):Int:=lineE x.player x.week x.stats
def linesE (l:List LineL):Int:=firstErr (fun i=>lineL (geta l i)) l.length
def askedE (rs:List RuleL)(ps:List ByteArray)(ls:List LineL):Int:=if rulesE rs≠0 then rulesE rs else if listE ps≠0 then listE ps else linesE ls
set_option maxHeartbeats 2000000 in
theorem asked_any (w0:World)(vr vp vl:Value)(rs:List RuleL)(ps:List ByteArray)(ls:List LineL)(hz:∀r∈rs,RuleOk r)(hzp:∀s∈ps,s.size≤9223372036854775807)(hzl:∀x∈ls,LineOk x)(hrr:Row w0 0 7 vr rs.length (cellsOf encR rs))(hpr:Row w0 0 1 vp ps.length (cellsOf encSt ps))(hlr:Row w0 0 3 vl ls.length (cellsOf encL ls))(hla:LinesAt w0 ls):
  Calls Tryz.prog 106 #[vr,vp,vl] w0 fun e w'=>e=.returned (.int .i64 (askedE rs ps ls))∧Below w0.heap.size w0 w':=by
 have hA:=Lib.hid (show askedE rs ps ls=if rulesE rs≠0 then rulesE rs else if listE ps≠0 then listE ps else linesE ls from rfl);have hLs:=Lib.hid (show listE ps=if 10<ps.length then 2 else risingE ps from rfl);have HR:=Lib.hid (rules_prog vr rs.length rs 0 w0 hrr hz);obtain⟨p2,c2,hv2⟩:=hpr.shape;obtain⟨p3,c3,hv3⟩:=hlr.shape;obtain⟨p1,c1,hv1⟩:=hrr.shape
 by_cases h1:rulesE rs=0
 ·rw [h1]at HR
  by_cases h10:10<ps.length
  ·have HE:=Lib.hid (show askedE rs ps ls=2 by rw [hA.out,h1,if_neg (by simp),hLs.out,if_pos h10,if_pos (by decide)]);subst hv1;subst hv2;subst hv3;clear h1
   go_enter Tryz.func106,Tryz.ntmps106
   go_wp2_with (go_at_call 115;refine HR.out.mono ?_;rintro e w1 ⟨rfl,hb⟩)
   go_ret
   exact⟨ret_int HE.out.symm,hb⟩
  ·have hd10:decide ((10:Int)<ps.length)=false:=by simp;omega
   have HP:=Lib.hid (fun w1 hb=>rising_prog vp ps.length ps 0 w1 (hpr.below (w':=w1) hb) hzp)
   by_cases h2:risingE ps=0
   ·rw [h2]at HP;have HE:=Lib.hid (show askedE rs ps ls=linesE ls by rw [hA.out,h1,if_neg (by simp),hLs.out,if_neg h10,h2,if_neg (by simp)]);obtain⟨_,hcs⟩:=hlr.els encL_length (by decide);subst hv1;subst hv2;subst hv3;clear h1 h2
    go_enter Tryz.func106,Tryz.ntmps106
    go_wp2_with first
     | (go_at_call 115;refine HR.out.mono ?_;rintro e w1 ⟨rfl,hb⟩)
     | (go_at_call 99;refine(HP.out _ hb).mono ?_;rintro e w2 ⟨rfl,hb2⟩;replace hb:=hb.trans (hb2.mono hb.size);clear hb2)
    go_loopw [27] (fun i wr=>∃k:Int,0≤k∧k≤ls.length∧NoErr (fun i=>lineL (geta ls i)) k∧i=.int .i64 k∧Below w0.heap.size w0 wr) (fun i _=>ls.length-(intOf i).toNat)
    case atStart=>exact⟨0,by omega,by omega,NoErr.zero _,rfl,hb⟩
    case round =>
     clear hb;obtain⟨k,hk0,hk1,hok,rfl,hb⟩:=hrel
     by_cases hlt:k<ls.length
     ·rcases hcs with ⟨_,h0⟩|⟨b,off,cap,hv,_,hbs,hnc,hcm,hcell⟩
      ·omega
      simp only [Value.slice.injEq]at hv;obtain⟨rfl,_,rfl⟩:=hv;have tr:∀j u,(encL (geta ls k))[j]?=some u→wr.cell? ⟨b,off+k.toNat*3+j,none⟩=some u:=fun j u h=>(hb.cell (p:=⟨b,off+k.toNat*3+j,none⟩) hbs).trans (hcell k hk0 hlt j u h)
      have t0:=tr 0 _ rfl;have t1:=tr 1 _ rfl;have t2:=tr 2 _ rfl;rw [Nat.add_zero]at t0;have hm:=geta_mem (l:=ls) hk0 hlt;have hx:=hzl _ hm;have hxr:=hla _ hm;have hbn:=hb.alloc hb.size (.cells (encL (geta ls k)).toArray 116);have HC:=Lib.hid (line_prog (geta ls k).player (geta ls k).week (geta ls k).sv (geta ls k).stats.length (geta ls k).stats 0 _ hx.player (hxr.below hbn) hx.stats);have hst:=Lib.hid (fun h=>hok.step (f:=fun i=>lineL (geta ls i)) (i:=k) h);have hHit:=Lib.hid (fun h=>firstErr_hit hok hk0 hlt h);have hLL:=Lib.hid (show lineE (geta ls k).player (geta ls k).week (geta ls k).stats=lineL (geta ls k)from rfl);obtain⟨p4,c4,hv4⟩:=hxr.shape;have q0:=cells_new wr (encL (geta ls k)).toArray 116 0 _ rfl;have q1:=cells_new wr (encL (geta ls k)).toArray 116 1 _ rfl;have q2:=cells_new wr (encL (geta ls k)).toArray 116 2 _ rfl;rw [hLL.out]at HC;clear tr hcell hx hxr hm hok;unfold encL at hbn HC q0 q1 q2;rw [hv4]at t2 hbn HC q0 q1 q2;clear hv4;generalize (geta ls k).player=s1 at *;generalize (geta ls k).week=n1 at *;generalize (geta ls k).stats.length=n2 at *;generalize hlv:lineL (geta ls k)=lv at *;have HLV:=Lib.hid hlv;clear hlv hLL
      go_upto_region 12 with fail
      change Below w0.heap.size w0 (wr.alloc (.cells #[.string s1,.int .i64 n1,.slice p4 n2 c4] 116))at hbn
      change Hid (Calls _ _ _ (wr.alloc (.cells #[.string s1,.int .i64 n1,.slice p4 n2 c4] 116)) _)at HC
      change (wr.alloc (.cells #[.string s1,.int .i64 n1,.slice p4 n2 c4] 116)).cell? _=_ at q0
      change (wr.alloc (.cells #[.string s1,.int .i64 n1,.slice p4 n2 c4] 116)).cell? _=_ at q1
      change (wr.alloc (.cells #[.string s1,.int .i64 n1,.slice p4 n2 c4] 116)).cell? _=_ at q2
      generalize wr.alloc (.cells #[.string s1,.int .i64 n1,.slice p4 n2 c4] 116)=W2 at *;generalize wr.heap.size=g at *;clear t0 t1 t2
      by_cases hlv0:lv=0
      ·subst hlv0;go_wp2_with (go_at_call 116;refine HC.out.mono ?_;rintro e w3 ⟨rfl,hb3⟩;replace hbn:=hbn.trans (hb3.mono hbn.size);clear hb3)
       go_roundw
       case rel=>exact⟨k+1,by omega,by omega,by first|exact hst.out trivial|exact hst.out rfl|exact hst.out HLV.out,rfl,hbn⟩
       case measure=>simp [intOf];omega
      ·have hnb:(lv != 0)=true:=by simp [hlv0]
       have HF:=Lib.hid (show linesE ls=lv by unfold linesE;first|exact hHit.out hlv0|exact(hHit.out hlv0).trans HLV.out);clear hlv0;go_wp2_with (go_at_call 116;refine HC.out.mono ?_;rintro e w3 ⟨rfl,hb3⟩;replace hbn:=hbn.trans (hb3.mono hbn.size);clear hb3)
       go_ret
       exact⟨ret_int (by rw [HE.out,HF.out]),hbn⟩
     ·have hf:=Lib.hid (show linesE ls=0 from firstErr_none (fun j h0 h1=>hok j h0 (by omega)));clear hcs hok;go_wp2_with fail
      go_ret
      exact⟨ret_int (by rw [HE.out,hf.out]),hb⟩
   ·have hnb:(risingE ps != 0)=true:=by simp [h2]
    have HE:=Lib.hid (show askedE rs ps ls=risingE ps by rw [hA.out,h1,if_neg (by simp),hLs.out,if_neg h10,if_pos h2]);subst hv1;subst hv2;subst hv3;clear h1 h2;generalize risingE ps=e1 at *
    go_enter Tryz.func106,Tryz.ntmps106
    go_wp2_with first
     | (go_at_call 115;refine HR.out.mono ?_;rintro e w1 ⟨rfl,hb⟩)
     | (go_at_call 99;refine(HP.out _ hb).mono ?_;rintro e w2 ⟨rfl,hb2⟩;replace hb:=hb.trans (hb2.mono hb.size);clear hb2)
    go_ret
    exact⟨ret_int HE.out.symm,hb⟩
 ·have hnb:(rulesE rs != 0)=true:=by simp [h1]
  have HE:=Lib.hid (show askedE rs ps ls=rulesE rs by rw [hA.out,if_pos h1]);subst hv1;subst hv2;subst hv3;clear h1;generalize rulesE rs=e1 at *
  go_enter Tryz.func106,Tryz.ntmps106
  go_wp2_with (go_at_call 115;refine HR.out.mono ?_;rintro e w1 ⟨rfl,hb⟩)
  go_ret
  exact⟨ret_int HE.out.symm,hb⟩
end Go.Proofs.YtnmdpphddimfbaaGreat
/-
  The sum of some weeks: plain lemmas. No condition.
-/
namespace Go.Proofs.YtnmdpphddimfbaaGreat
open Go.RowKit Go.Bw
def ordAt (ls:List LineL)(i:Int):Int:=if 0<i∧(geta ls i).week≤(geta ls (i-1)).week then 7 else 0
def orderE (ls:List LineL):Int:=firstErr (ordAt ls) ls.length
def windowB (f t:Int):Bool:=outB f 1 t || decide (61<t)
def inW (f t:Int)(x:LineL):Bool:=decide (f≤x.week)&&decide (x.week<t)
def weekV (rs:List RuleL)(ps:List ByteArray)(f t:Int)(x:LineL):Int:=if inW f t x=true then ptsV rs ps x.stats else 0
def totTo (rs:List RuleL)(ps:List ByteArray)(f t:Int)(ls:List LineL)(k:Int):Int:=((ls.take k.toNat).map fun x=>weekV rs ps f t x).sum
def totV (rs:List RuleL)(ps:List ByteArray)(f t:Int)(ls:List LineL):Int:=totTo rs ps f t ls ls.length
def Counts (x:LineL):Prop:=∀t∈x.stats,-100000≤t.count∧t.count≤100000
/-- A line that is right counts within bounds. -/
theorem line_counts {x:LineL}(h:lineL x=0):Counts x:=by
 intro t ht;obtain⟨i,hi,rfl⟩:=List.getElem_of_mem ht;unfold lineL lineE at h
 split at h
 ·cases h
 split at h
 ·cases h
 split at h
 ·cases h
 have hat:=firstErr_zero h i (by omega) (by omega);have hg:geta x.stats i=x.stats[i]:=geta_eq x.stats i (by omega) (by omega);unfold statAt at hat;rw [hg]at hat
 split at hat
 ·cases hat
 split at hat
 ·cases hat
 ·rename_i h2
  exact out_no (by simpa using h2)
theorem lines_counts {ls:List LineL}(h:linesE ls=0):∀x∈ls,Counts x:=by
 intro x hx;obtain⟨i,hi,rfl⟩:=List.getElem_of_mem hx;have hat:=firstErr_zero h i (by omega) (by omega);have hg:geta ls i=ls[i]:=geta_eq ls i (by omega) (by omega);rw [hg]at hat;exact line_counts hat
theorem asked_ok {rs:List RuleL}{ps:List ByteArray}{ls:List LineL}(h:askedE rs ps ls=0):rulesE rs=0∧listE ps=0∧linesE ls=0:=by
 unfold askedE at h
 by_cases h1:rulesE rs=0
 ·rw [if_neg (by simp [h1])]at h
  by_cases h2:listE ps=0
  ·rw [if_neg (by simp [h2])]at h;exact⟨h1,h2,h⟩
  ·rw [if_pos h2]at h;exact absurd h h2
 ·rw [if_pos h1]at h;exact absurd h h1
theorem rules_len {rs:List RuleL}(h:rulesE rs=0):rs.length≤100:=by
 unfold rulesE at h
 split at h
 ·cases h
 ·omega
def totalE (rs:List RuleL)(ps:List ByteArray)(ls:List LineL)(f t:Int):Int:=if askedE rs ps ls≠0 then askedE rs ps ls else if orderE ls≠0 then orderE ls else if windowB f t=true then 1 else 0
end Go.Proofs.YtnmdpphddimfbaaGreat
/-
  The program's Points; the law's own look that the package scores. Conditions: strings and numbers are no greater than Go's.
-/
namespace Go.Proofs.YtnmdpphddimfbaaGreat
open Go.RowKit Go.Bw
def pubN (rs:List RuleL)(ps:List ByteArray)(x:LineL):Int:=if askedE rs ps [x]=0 then ofHn (ptsV rs ps x.stats)else 0
def pubD (rs:List RuleL)(ps:List ByteArray)(x:LineL):Int:=if askedE rs ps [x]=0 then ofHd (ptsV rs ps x.stats)else 0
/-- The call's own blocks: the line, the result. -/
structure Pw (w0 w:World)(x:LineL):Prop where
 line:CellsAt w w0.heap.size (encL x)
 res:CellsAt w (w0.heap.size+1) [.int .i64 0,.int .i64 0]
 fr0:w.frozen? ⟨w0.heap.size+1,0,none⟩=false
 fr1:w.frozen? ⟨w0.heap.size+1,1,none⟩=false
 bel:Below w0.heap.size w0 w
theorem Pw.below {w0 w w':World}{x:LineL}(h:Pw w0 w x)(b:Below w.heap.size w w'):Pw w0 w' x :=
 ⟨h.line.below b,h.res.below b,(b.frozen (p:=⟨w0.heap.size+1,0,none⟩) h.res.1).trans h.fr0,(b.frozen (p:=⟨w0.heap.size+1,1,none⟩) h.res.1).trans h.fr1,h.bel.trans (b.mono h.bel.size)⟩
theorem Pw.start (w0:World)(x:LineL):Pw w0 ((w0.alloc (.cells (encL x).toArray 116)).alloc (.cells #[.int .i64 0,.int .i64 0] 34)) x:=by
 have h0:=CellsAt.new w0 (encL x).toArray 116;have hb:=(Below.refl (w0.alloc (.cells (encL x).toArray 116)).heap.size (w0.alloc (.cells (encL x).toArray 116))).alloc (Nat.le_refl _) (.cells #[.int .i64 0,.int .i64 0] 34);have h1:=CellsAt.new (w0.alloc (.cells (encL x).toArray 116)) #[.int .i64 0,.int .i64 0] 34;have f0:=frozen_new0 (w0.alloc (.cells (encL x).toArray 116)) #[.int .i64 0,.int .i64 0] 34;have hs:(w0.alloc (.cells (encL x).toArray 116)).heap.size=w0.heap.size+1:=by simp
 rw [hs]at h1 f0;exact⟨h0.below hb,h1,f0 0,f0 1,((Below.refl _ _).alloc (Nat.le_refl _) _).alloc (by simp) _⟩
theorem Pw.put {w0 w:World}{l:LineL}(h:Pw w0 w l)(x y:Value):
  ((w.setCell ⟨w0.heap.size+1,0,none⟩ x).setCell ⟨w0.heap.size+1,1,none⟩ y).cell? ⟨w0.heap.size+1,0,none⟩=some x ∧
  ((w.setCell ⟨w0.heap.size+1,0,none⟩ x).setCell ⟨w0.heap.size+1,1,none⟩ y).cell? ⟨w0.heap.size+1,1,none⟩=some y ∧
  Below w0.heap.size w0 ((w.setCell ⟨w0.heap.size+1,0,none⟩ x).setCell ⟨w0.heap.size+1,1,none⟩ y):=by
 have k0:=h.res.2 0 _ rfl;have k1:=h.res.2 1 _ rfl;refine⟨?_,?_,(h.bel.setCell (by simp) _).setCell (by simp) _⟩
 ·rw [World.cell?_setCell_other _ _ _ _ (by simp)];exact World.cell?_setCell_same' _ _ _ (by rw [k0];rfl)
 ·exact World.cell?_setCell_same' _ _ _ (by rw [World.cell?_setCell_other _ _ _ _ (by simp),k1];rfl)
set_option maxHeartbeats 2000000 in
theorem pub_any (w0:World)(vr vp:Value)(rs:List RuleL)(ps:List ByteArray)(x:LineL)(hz:∀r∈rs,RuleOk r)(hzp:∀s∈ps,s.size≤9223372036854775807)(hx:LineOk x)(hrr:Row w0 0 7 vr rs.length (cellsOf encR rs))(hpr:Row w0 0 1 vp ps.length (cellsOf encSt ps))(hla:Row w0 0 2 x.sv x.stats.length (cellsOf encT x.stats)):
  Calls Tryz.prog 71 #[vr,vp,.agg #[.string x.player,.int .i64 x.week,x.sv]] w0 fun e w'=>e=.returned (.tuple #[.agg #[.int .i64 (pubN rs ps x),.int .i64 (pubD rs ps x)],.int .i64 (askedE rs ps [x])])∧Below w0.heap.size w0 w':=by
 obtain⟨pl,wk,sv,ts⟩:=x
 dsimp only at hla ⊢
 obtain⟨p1,c1,hv1⟩:=hla.shape;subst hv1;generalize hxx:(⟨pl,wk,.slice p1 ts.length c1,ts⟩:LineL)=x at *;have hsx:x.stats=ts∧x.sv=.slice p1 ts.length c1:=by subst hxx;exact⟨rfl,rfl⟩
 have hP:=Pw.start w0 x;have hnew:=(Below.refl ((w0.alloc (.cells (encL x).toArray 116)).alloc (.cells #[.int .i64 0,.int .i64 0] 34)).heap.size ((w0.alloc (.cells (encL x).toArray 116)).alloc (.cells #[.int .i64 0,.int .i64 0] 34))).alloc (Nat.le_refl _) (.cells (encL x).toArray 116);have hP2:=hP.below hnew;have hlr:Row (((w0.alloc (.cells (encL x).toArray 116)).alloc (.cells #[.int .i64 0,.int .i64 0] 34)).alloc (.cells (encL x).toArray 116)) 0 3 (.slice (some ⟨w0.heap.size+2,0,none⟩) 1 1) [x].length (cellsOf encL [x]):=by
  have h:=CellsAt.new ((w0.alloc (.cells (encL x).toArray 116)).alloc (.cells #[.int .i64 0,.int .i64 0] 34)) (encL x).toArray 116;rw [show((w0.alloc (.cells (encL x).toArray 116)).alloc (.cells #[.int .i64 0,.int .i64 0] 34)).heap.size=w0.heap.size+2 by simp]at h;exact⟨rfl,.inr ⟨_,0,1,rfl,Nat.zero_le _,h.1,Nat.le_refl _,by decide,fun i u hu=>by rw [Nat.zero_add];exact h.2 i u hu⟩⟩
 have hlq:LinesAt (((w0.alloc (.cells (encL x).toArray 116)).alloc (.cells #[.int .i64 0,.int .i64 0] 34)).alloc (.cells (encL x).toArray 116)) [x]:=fun y hy=>by
  rw [List.mem_singleton.1 hy,hsx.1,hsx.2];exact hla.below hP2.bel
 have HA:=Lib.hid (asked_any _ vr vp _ rs ps [x] hz hzp (fun y hy=>by rw [List.mem_singleton.1 hy];exact hx) (hrr.below hP2.bel) (hpr.below hP2.bel) hlr hlq);obtain⟨p0,c0,hv0⟩:=hrr.shape;obtain⟨p2,c2,hv2⟩:=hpr.shape;have HE:=Lib.hid (show ∀e,askedE rs ps [x]=e→e≠0→pubN rs ps x=0∧pubD rs ps x=0 from fun e h he=>⟨by unfold pubN;rw [h,if_neg he],by unfold pubD;rw [h,if_neg he]⟩);have HQ:=Lib.hid (show askedE rs ps [x]=0→pubN rs ps x=ofHn (ptsV rs ps ts)∧pubD rs ps x=ofHd (ptsV rs ps ts)from fun h=>by subst hxx;exact⟨by unfold pubN;rw [h,if_pos rfl],by unfold pubD;rw [h,if_pos rfl]⟩);have HG:=Lib.hid (show askedE rs ps [x]=0→(∀r∈rs,RuleGood r)∧rs.length≤100∧(∀t∈ts,-100000≤t.count∧t.count≤100000)from fun h=>by
  obtain⟨a1,a2,a3⟩:=asked_ok h;exact⟨rule_good hz a1,rules_len a1,by have hcx:=lines_counts a3 x (by simp);unfold Counts at hcx;rwa [hsx.1]at hcx⟩)
 have hC:encL x=[.string pl,.int .i64 wk,.slice p1 ts.length c1]:=by subst hxx;rfl
 rw [hC]at hP2 HA;have HC:=Lib.hid hC;clear hlr hlq hnew hP hz hzp hx hxx hC hsx;subst hv0;subst hv2
 go_enter Tryz.func71,Tryz.ntmps71
 go_wp2_with fail
 change Hid (Calls _ _ _ (((w0.alloc (.cells #[.string pl,.int .i64 wk,.slice p1 ts.length c1] 116)).alloc (.cells #[.int .i64 0,.int .i64 0] 34)).alloc (.cells #[.string pl,.int .i64 wk,.slice p1 ts.length c1] 116)) _)at HA
 change Pw w0 (((w0.alloc (.cells #[.string pl,.int .i64 wk,.slice p1 ts.length c1] 116)).alloc (.cells #[.int .i64 0,.int .i64 0] 34)).alloc (.cells #[.string pl,.int .i64 wk,.slice p1 ts.length c1] 116)) x at hP2
 generalize ((w0.alloc (.cells #[.string pl,.int .i64 wk,.slice p1 ts.length c1] 116)).alloc (.cells #[.int .i64 0,.int .i64 0] 34)).alloc (.cells #[.string pl,.int .i64 wk,.slice p1 ts.length c1] 116)=W at *;refine HA.out.mono ?_;rintro e w1 ⟨rfl,hb⟩;have hd:=hP2.below hb;clear hb HA hP2
 by_cases hA0:askedE rs ps [x]=0
 ·obtain⟨hg,hl,hcn⟩:=HG.out hA0;obtain⟨e1,e2⟩:=HQ.out hA0;have HN:=Lib.hid e1;have HD:=Lib.hid e2;have HA0:=Lib.hid hA0;rw [hA0];clear e1 e2 hA0 HE HQ HG;have l0:=hd.line.2 0 _ (by rw [HC.out];rfl);have l1:=hd.line.2 1 _ (by rw [HC.out];rfl);have l2:=hd.line.2 2 _ (by rw [HC.out];rfl);have hpb:=ptsTo_le hg hl ps ts hcn (rs.length:Int) (by omega) (by omega)
  change -10000000000000≤ptsV rs ps ts∧ptsV rs ps ts≤10000000000000 at hpb
  have HPt:=Lib.hid (points_prog w1 _ _ _ rs ps ts pl wk hg hl hcn (hrr.below hd.bel) (hla.below hd.bel) (hpr.below hd.bel));generalize ptsV rs ps ts=n at *;go_wp2_with fail
  refine HPt.out.mono ?_;rintro e w2 ⟨rfl,hb⟩
  replace hd:=hd.below hb
  clear hb l0 l1 l2 HPt;go_wp2_with fail
  refine(ofHundredths_prog n _ (by omega) (by omega)).mono ?_;rintro e w3 ⟨rfl,hb⟩
  replace hd:=hd.below hb
  clear hb;obtain⟨r0,r1,hB⟩:=hd.put (.int .i64 (ofHn n)) (.int .i64 (ofHd n));have k0:=hd.res.2 0 _ rfl;have k1:=hd.res.2 1 _ rfl;have kf:=hd.fr0;have kf1:=hd.fr1;clear hd;go_wp2_with fail
  exact bodyPost_ret (v:=.tuple #[.agg #[.int .i64 (ofHn n),.int .i64 (ofHd n)],.int .i64 0]) (by simp [results,Tryz.results71,go_sem,r0,r1]) rfl ⟨by rw [HN.out,HD.out,HA0.out],hB⟩
 ·obtain⟨e1,e2⟩:=HE.out _ rfl hA0;have HN:=Lib.hid e1;have HD:=Lib.hid e2;have hnb:(askedE rs ps [x] != 0)=true:=by simp [hA0]
  clear e1 e2 hA0 HE HQ HG;generalize hea:askedE rs ps [x]=ea at *;have Hea:=Lib.hid hea;clear hea;obtain⟨r0,r1,hB⟩:=hd.put (.int .i64 0) (.int .i64 0);have k0:=hd.res.2 0 _ rfl;have k1:=hd.res.2 1 _ rfl;have kf:=hd.fr0;have kf1:=hd.fr1;clear hd;go_wp2_with fail
  exact bodyPost_ret (v:=.tuple #[.agg #[.int .i64 0,.int .i64 0],.int .i64 ea]) (by simp [results,Tryz.results71,go_sem,r0,r1]) rfl ⟨by rw [HN.out,HD.out,Hea.out],hB⟩
def sRule:RuleL:=⟨⟨#[114]⟩,⟨#[103,111,97,108]⟩,⟨#[]⟩,1,0,1,2⟩
def sStat:StatL:=⟨⟨#[103,111,97,108]⟩,3⟩
def sLine (v:Value):LineL:=⟨⟨#[97]⟩,1,v,[sStat]⟩
theorem s_asked (v:Value):askedE [sRule] [] [sLine v]=0:=by
 have h:lineE ⟨#[97]⟩ 1 [sStat]=0:=by decide +kernel
 have h1:rulesE [sRule]=0:=by decide +kernel
 unfold askedE;rw [if_neg (by rw [h1];decide),if_neg (by decide +kernel)];unfold linesE;exact firstErr_none (fun j h0 h1=>by
  obtain rfl:j=0:=by simp at h1;omega
  exact h)
theorem s_pts:ptsV [sRule] [] [sStat]=150:=by decide +kernel
theorem s_hn:ofHn 150=3:=by decide +kernel
theorem s_hd:ofHd 150=2:=by decide +kernel
set_option maxHeartbeats 2000000 in
theorem scored_any (w:World):Calls Tryz.prog 27 #[] w fun e w'=>e=.returned (.bool true)∧Below w.heap.size w w':=by
 go_enter Tryz.func27,Tryz.ntmps27
 go_wp2_with fail
 have hb1:=(Below.refl w.heap.size w).alloc (Nat.le_refl _) (.cells (encR sRule).toArray 110);have hb2:=(Below.refl (w.alloc (.cells (encR sRule).toArray 110)).heap.size (w.alloc (.cells (encR sRule).toArray 110))).alloc (Nat.le_refl _) (.cells (encT sStat).toArray 113);have hR:=(CellsAt.new w (encR sRule).toArray 110).below hb2;have hT:=CellsAt.new (w.alloc (.cells (encR sRule).toArray 110)) (encT sStat).toArray 113;have hsz:(w.alloc (.cells (encR sRule).toArray 110)).heap.size=w.heap.size+1:=by simp
 rw [hsz]at hT;have hall:=hb1.trans (hb2.mono hb1.size);have hc:=pub_any _ (.slice (some ⟨w.heap.size,0,none⟩) 1 1) (.slice none 0 0) [sRule] [] (sLine (.slice (some ⟨w.heap.size+1,0,none⟩) 1 1)) (by
   intro r hr;rw [List.mem_singleton.1 hr];exact⟨by decide,by decide,by decide,by decide,by decide,by decide,by decide⟩) (by simp) ⟨by show(⟨#[97]⟩:ByteArray).size≤_;decide,by
   intro t ht;rw [List.mem_singleton.1 ht];show(⟨#[103,111,97,108]⟩:ByteArray).size≤_;decide⟩
  ⟨rfl,.inr ⟨_,0,1,rfl,Nat.zero_le _,hR.1,Nat.le_refl _,by decide,fun i u hu=>by rw [Nat.zero_add];exact hR.2 i u hu⟩⟩ ⟨rfl,.inl ⟨rfl,rfl⟩⟩
  ⟨rfl,.inr ⟨_,0,1,rfl,Nat.zero_le _,hT.1,Nat.le_refl _,by decide,fun i u hu=>by rw [Nat.zero_add];exact hT.2 i u hu⟩⟩
 have e1:pubN [sRule] [] (sLine (.slice (some ⟨w.heap.size+1,0,none⟩) 1 1))=3:=by
  unfold pubN;rw [if_pos (s_asked _)];show ofHn (ptsV [sRule] [] [sStat])=3;rw [s_pts,s_hn]
 have e2:pubD [sRule] [] (sLine (.slice (some ⟨w.heap.size+1,0,none⟩) 1 1))=2:=by
  unfold pubD;rw [if_pos (s_asked _)];show ofHd (ptsV [sRule] [] [sStat])=2;rw [s_pts,s_hd]
 rw [e1,e2,s_asked]at hc;have HC:=Lib.hid hc;clear hc e1 e2 hR hT hb1 hb2 hsz;refine HC.out.mono ?_;rintro e w1 ⟨rfl,hb⟩
 replace hall:=hall.trans (hb.mono hall.size)
 clear hb HC;go_wp2_with fail
 go_ret
 exact⟨rfl,hall.alloc hall.size _⟩
end Go.Proofs.YtnmdpphddimfbaaGreat
/-
  An error, if something is so. No condition.
-/
namespace Go.Proofs.YtnmdpphddimfbaaGreat
open Go.RowKit Go.Bw
theorem when_any (q:Bool)(x:Int)(w:World):
  Calls Tryz.prog 16 #[.bool q,.int .i64 x] w fun e w'=>e=.returned (.int .i64 (if q=true then x else 0))∧w=w':=by
 cases q
 all_goals
  go_enter Tryz.func16,Tryz.ntmps16
  go_wp2_with fail
  go_ret
  exact⟨rfl,rfl⟩
end Go.Proofs.YtnmdpphddimfbaaGreat
/-
  The law LineupsCounted: its walk from end to end. No condition.
-/
namespace Go.Proofs.YtnmdpphddimfbaaGreat
open Go.RowKit Go.Bw
theorem cl_cap (s a:ByteArray)(x:ByteArray)(B:Nat)(w:World)(hB:w.cell? ⟨B,0,none⟩=some (.string x)):
  Calls Tryz.prog 18 #[.agg #[.string s,.string a],.pointer (some ⟨B,0,none⟩)] w fun e w'=>e=.returned (.bool (decide (a=x)))∧Below w.heap.size w w':=by
 have hlt:=World.block_lt_of_cell? w _ hB;have hw0:=(Below.refl w.heap.size w).alloc (Nat.le_refl _) (.cells #[.string s,.string a] 49);have c1:=(hw0.cell (p:=⟨B,0,none⟩) hlt).trans hB;have d0:=cells_new w #[.string s,.string a] 49 0 _ rfl;have d1:=cells_new w #[.string s,.string a] 49 1 _ rfl;have HW:=Lib.hid hw0;clear hw0 hB
 by_cases hx:a=x
 ·subst hx
  go_enter Tryz.func18,Tryz.ntmps18
  go_wp2_with fail
  go_ret
  exact⟨ret_bool (by simp),HW.out⟩
 ·have hx1:=toList_ne hx;have HX:=Lib.hid (show false=decide (a=x)by simp [hx]);clear hx
  go_enter Tryz.func18,Tryz.ntmps18
  go_wp2_with fail
  go_ret
  exact⟨ret_bool HX.out,HW.out⟩
theorem str_newC (w:World)(v:Value)(n:Nat)(zs:List Int)(e:TypeId)(h:SRow w v n zs w.heap.size):Str w.heap.size (w.alloc (.cells #[v,.int .i64 0] e)) 0:=by
 refine⟨v,n,zs,0,?_,?_,?_,by omega,by simp,h.swap (fun k hk=>(World.grownBy_alloc w _ none).block k hk (by simp)) (by simp)⟩
 ·rw [World.cell?_alloc_at _ _ _ _ rfl];rfl
 ·rw [World.cell?_alloc_at _ _ _ _ rfl];rfl
 ·exact frozen_new0 w #[v,.int .i64 0] e 1
theorem equal_strC (v1 v2:Value)(n:Nat)(l:List ByteArray)(b1 b2:Nat)(w:World)(h1:Row w b1 1 v1 n (cellsOf encSt l))(h2:Row w b2 1 v2 n (cellsOf encSt l)):
  Calls Tryz.prog 26 #[v1,v2] w fun e w'=>e=.returned (.bool true)∧Below w.heap.size w w':=by
 obtain⟨hl,hc⟩:=h1.els encSt_length (by decide);subst hl;obtain⟨_,hc2⟩:=h2.els encSt_length (by decide);obtain⟨p2,c2,hv2⟩:=h2.shape;rcases hc with ⟨rfl,h0⟩|⟨b,off,cap,rfl,_,hbs,hnc,hcm,hcell⟩
 ·subst hv2;rw [h0];refine(Tryz.slices_Equal_string_empty none p2 0 0 c2 w (by decide)).mono ?_;rintro e w' ⟨rfl,rfl⟩;exact⟨rfl,Below.refl _ _⟩
 ·rcases hc2 with ⟨rfl,h0⟩|⟨b',off',cap',rfl,_,hbs',hnc',hcm',hcell'⟩
  ·rw [h0];refine(Tryz.slices_Equal_string_empty _ none cap 0 0 w (by decide)).mono ?_;rintro e w' ⟨rfl,rfl⟩;exact⟨rfl,Below.refl _ _⟩
  ·refine(Tryz.slices_Equal_string b off l.length cap b' off' l.length cap' l l w (Nat.le_refl _) (Nat.le_refl _) (by omega) (by omega) (fun j hj=>?_) (fun j hj=>?_)).mono ?_
   ·have:=hcell (j:Int) (by omega) (by omega) 0 _ rfl;rw [geta_eq l j (by omega) (by omega)]at this
    simpa [List.getD,hj] using this
   ·have:=hcell' (j:Int) (by omega) (by omega) 0 _ rfl;rw [geta_eq l j (by omega) (by omega)]at this
    simpa [List.getD,hj] using this
   ·rintro e w' ⟨rfl,q,rfl⟩;exact⟨by simp,below_drewN (Below.refl _ _) q⟩
theorem smCap {s:ByteArray}(h:s∈[(⟨#[97,110,110]⟩:ByteArray),⟨#[98,101,97]⟩,⟨#[]⟩,⟨#[122,101,100]⟩]):Sm s:=by
 simp at h;rcases h with rfl|rfl|rfl|rfl <;> decide
section
variable {B b:Nat}{w0 w:World}{v:Value}
theorem SlO.H {S:List SlD}(h:SlO B b w0 v S w)(hn:S.length≤1000):SlH w v S :=
 ⟨(Row.of_owns h.o).mono (Nat.zero_le _),fun x hx=>⟨(h.i x hx).r.row,fun s hs=>Nat.le_trans ((h.i x hx).z s hs) (by decide),by have:=(h.i x hx).n;omega⟩,fun x hx=>Nat.le_trans (h.z x hx) (by decide),hn⟩
theorem ScO.H {L:List ScD}(h:ScO B b w0 v L w)(hn:L.length≤1000):ScH w v L :=
 ⟨(Row.of_owns h.o).mono (Nat.zero_le _),fun x hx=>⟨(h.i x hx).r.row,fun s hs=>Nat.le_trans ((h.i x hx).z s hs) (by decide),by have:=(h.i x hx).n;omega⟩,fun x hx=>Nat.le_trans (h.z x hx) (by decide),fun x hx=>⟨(h.m x hx).n.1,(h.m x hx).n.2,(h.m x hx).d.1,(h.m x hx).d.2⟩,hn⟩
theorem FlO.H {Fs:List FlD}(h:FlO B b w0 v Fs w)(hn:Fs.length≤1000):FlH w v Fs :=
 ⟨(Row.of_owns h.o).mono (Nat.zero_le _),fun x hx=>⟨Nat.le_trans (h.z x hx).1 (by decide),Nat.le_trans (h.z x hx).2 (by decide)⟩,hn⟩
end
/-- The data; the stream is left behind. -/
structure LK (n₀:Nat)(w0:World)(v4:Value)(S:List SlD)(v5:Value)(L:List ScD)(v6:Value)(Fs:List FlD)(A7:Nat)(cap:ByteArray)(w:World):Prop where
 bel:Below n₀ w0 w
 hz:n₀≤w.heap.size
 s:SlH w v4 S
 c:ScH w v5 L
 f:FlH w v6 Fs
 a7:w.cell? ⟨A7,0,none⟩=some (.string cap)
/-- What is small. -/
structure LN (S:List SlD)(L:List ScD)(Fs:List FlD)(cap:ByteArray):Prop where
 s:S.length≤4
 l:L.length≤6
 f:Fs.length≤4
 z:cap.size≤1000
/-- A fraction in a box. -/
structure Fx (w:World)(A:Nat)(p:Int×Int):Prop where
 c0:w.cell? ⟨A,0,none⟩=some (.int .i64 p.1)
 c1:w.cell? ⟨A,1,none⟩=some (.int .i64 p.2)
/-- And the program's answers. -/
structure LP (n₀:Nat)(w0:World)(v4:Value)(S:List SlD)(v5:Value)(L:List ScD)(v6:Value)(Fs:List FlD)(A7:Nat)(cap:ByteArray)(A8 A10:Nat)(v12:Value)(w:World):Prop where
 k:LK n₀ w0 v4 S v5 L v6 Fs A7 cap w
 f8:Fx w A8 (sumV S L Fs cap)
 f10:Fx w A10 (leftV S L Fs)
 r12:Row w 0 1 v12 (benV S L Fs).length (cellsOf encSt (benV S L Fs))
section
variable {n₀ A7 A8 A10 A:Nat}{w0 w w':World}{v4 v5 v6 v12:Value}{S:List SlD}{L:List ScD}{Fs:List FlD}{cap:ByteArray}{p:Int×Int}
theorem LK.below (h:LK n₀ w0 v4 S v5 L v6 Fs A7 cap w)(g:Below w.heap.size w w'):LK n₀ w0 v4 S v5 L v6 Fs A7 cap w' :=
 ⟨h.bel.trans (g.mono h.hz),Nat.le_trans h.hz g.size,h.s.below g,h.c.below g,h.f.below g,(g.cell (p:=⟨A7,0,none⟩) (World.block_lt_of_cell? w _ h.a7)).trans h.a7⟩
theorem Fx.below (h:Fx w A p)(g:Below w.heap.size w w'):Fx w' A p:=⟨(g.cell (World.block_lt_of_cell? w _ h.c0)).trans h.c0,(g.cell (World.block_lt_of_cell? w _ h.c1)).trans h.c1⟩
theorem LP.below (h:LP n₀ w0 v4 S v5 L v6 Fs A7 cap A8 A10 v12 w)(g:Below w.heap.size w w'):LP n₀ w0 v4 S v5 L v6 Fs A7 cap A8 A10 v12 w':=⟨h.k.below g,h.f8.below g,h.f10.below g,h.r12.below g⟩
theorem Fx.new (w:World)(a b:Int)(e:TypeId):Fx (w.alloc (.cells #[.int .i64 a,.int .i64 b] e)) w.heap.size (a,b):=⟨cells_new w _ e 0 _ rfl,cells_new w _ e 1 _ rfl⟩
end
section
variable {S:List SlD}{L:List ScD}{F:List FlD}
theorem allE_case (h:ssE S L=0):fillsE S L F=allE S L F:=(allE_fills h).symm
theorem oneE_err {cap:ByteArray}:err2 (allE S L F) (if capBad F cap=true then 8 else 0)=oneE S L F cap:=rfl
theorem oneE_all {cap:ByteArray}(h:oneE S L F cap=0):allE S L F=0:=by
 by_cases e:allE S L F=0
 ·exact e
 ·unfold oneE at h;rw [if_pos e]at h;exact h
end
noncomputable def leM:Code:=(Tryz.f3.body).getD .skip
theorem fr_leM (f:Nat→Value):frame 160 f=⟨#[f 0,f 1,f 2,f 3,f 4,f 5,f 6,f 7,f 8,f 9,f 10,f 11,f 12,f 13,f 14,f 15,f 16,f 17,f 18,f 19,f 20,f 21,f 22,f 23,f 24,f 25,f 26,f 27,f 28,f 29,f 30,f 31,f 32,f 33,f 34,f 35,f 36,f 37,f 38,f 39,f 40,f 41,f 42,f 43,f 44,f 45,f 46,f 47,f 48,f 49,f 50,f 51,f 52,f 53,f 54,f 55,f 56,f 57,f 58,f 59,f 60,f 61,f 62,f 63,f 64,f 65,f 66,f 67,f 68,f 69,f 70,f 71,f 72,f 73,f 74,f 75,f 76,f 77,f 78,f 79,f 80,f 81,f 82,f 83,f 84,f 85,f 86,f 87,f 88,f 89,f 90,f 91,f 92,f 93,f 94,f 95,f 96,f 97,f 98,f 99,f 100,f 101,f 102,f 103,f 104,f 105,f 106,f 107,f 108,f 109,f 110,f 111,f 112,f 113,f 114,f 115,f 116,f 117,f 118,f 119,f 120,f 121,f 122,f 123,f 124,f 125,f 126,f 127,f 128,f 129,f 130,f 131,f 132,f 133,f 134,f 135,f 136,f 137,f 138,f 139,f 140,f 141,f 142,f 143,f 144,f 145,f 146,f 147,f 148,f 149,f 150,f 151,f 152,f 153,f 154,f 155,f 156,f 157,f 158,f 159],[]⟩:=by rfl
theorem le0 (v:Value)(w0:World):T3 Tryz.prog (fun a w=>(IsW w0 w)∧Fr 160 [(0,v)] a) (sel [0] leM) (fun a w=>(IsW w0 w)∧Fr 160 [(0,v)] a) No 9 No:=by
 refine T3.leaf ?_;rintro Q JS JX JT K hS hK hX hE hT hR a w ⟨hw,⟨fr,rfl,q0,_⟩⟩;obtain rfl:w=w0:=hw;rw [fr_leM,fe q0];clear q0;conv=>arg 2;whnf
 go_wp2_with fail
 refine Met.intro (hS _ _ ?_);exact⟨rfl,Fr.of _ rfl ⟨rfl,trivial⟩⟩
theorem le1 (v:Value)(n:Nat)(zs:List Int)(w0:World)(h:SRow w0 v n zs w0.heap.size):T3 Tryz.prog (fun a w=>(IsW w0 w)∧Fr 160 [(0,v)] a) (sel [1,0] leM) (fun a w=>(Str w0.heap.size w 0∧Below w0.heap.size w0 w∧w0.heap.size+1≤w.heap.size)∧Fr 160 [(3,.pointer (some ⟨w0.heap.size,0,none⟩))] a) No 9 No:=by
 refine T3.leaf ?_;rintro Q JS JX JT K hS hK hX hE hT hR a w ⟨hw,⟨fr,rfl,q0,_⟩⟩;obtain rfl:w=w0:=hw;have hS0:=str_newC w v n zs 25 h;obtain⟨p,c,rfl⟩:∃a c,v=.slice a n c:=by
  rcases h with ⟨rfl,a,c,rfl⟩|⟨h,_⟩
  ·exact⟨_,_,rfl⟩
  ·rcases h.2 with ⟨rfl,rfl⟩|⟨b,off,cap,rfl,_⟩
   ·exact⟨_,_,rfl⟩
   ·exact⟨_,_,rfl⟩
 clear h;rw [fr_leM,fe q0];clear q0;conv=>arg 2;whnf
 go_wp2_with fail
 refine Met.intro (hS _ _ ?_);exact⟨⟨hS0,(Below.refl _ _).alloc (Nat.le_refl _) _,by simp⟩,Fr.of _ rfl ⟨rfl,trivial⟩⟩
section
variable (n₀:Nat)(w0:World)
theorem le2:T3 Tryz.prog (fun a w=>(Str n₀ w 0∧Below n₀ w0 w∧n₀+1≤w.heap.size)∧Fr 160 [(3,.pointer (some ⟨n₀,0,none⟩))] a) (sel [1,1,0] leM) (fun a w=>∃(ws wc:World) (v4:Value) (S:List SlD) (v5:Value) (L:List ScD),(S.length≤4∧L.length≤6)∧((Below n₀ w0 w∧n₀<w.heap.size)∧SlO n₀ 80 ws v4 S w∧ScO n₀ 80 wc v5 L w)∧Fr 160 [(3,.pointer (some ⟨n₀,0,none⟩)),(4,v4),(5,v5)] a) No 9 No:=by
 refine T3.leaf ?_;rintro Q JS JX JT K hS hK hX hE hT hR a w ⟨⟨hS_,hbel,hz⟩,⟨fr,rfl,q3,_⟩⟩;have HS:=Lib.hid hS_;have HB:=Lib.hid hbel;clear hS_ hbel;rw [fr_leM,fe q3];clear q3;conv=>arg 2;whnf
 go_wp2_with fail
 refine(slotsS_any n₀ 0 w HS.out (by decide)).mono ?_;rintro e w1 ⟨v4,S,rfl,hn,h1⟩;have H1:=Lib.hid h1;have HN:=Lib.hid hn;have HB1:=Lib.hid (below_str HB.out h1.d.gr (Nat.le_refl _) (by omega));have hz1:=h1.d.size;obtain⟨p4,c4,e4⟩:=(Row.of_owns h1.o).shape;subst e4;clear h1 hn;go_wp2_with fail
 refine(scorersS_any n₀ (0+26) w1 H1.out.d.str (by decide)).mono ?_;rintro e w2 ⟨v5,L,rfl,hn,h2⟩;have H2:=Lib.hid (show(Below n₀ w0 w2∧n₀<w2.heap.size)∧SlO n₀ 80 w (.slice p4 S.length c4) S w2∧ScO n₀ 80 w1 v5 L w2 from⟨⟨below_str HB1.out h2.d.gr (Nat.le_refl _) (by omega),by have:=h2.d.size;omega⟩,H1.out.drawn h2.d,h2⟩);have HN2:=Lib.hid hn;obtain⟨p5,c5,e5⟩:=(Row.of_owns h2.o).shape;subst e5;clear h2 hn;go_wp2_with fail
 refine Met.intro (hS _ _ ?_);exact⟨w,w1,_,S,_,L,⟨HN.out,HN2.out⟩,H2.out,Fr.of _ rfl ⟨rfl,rfl,rfl,trivial⟩⟩
theorem le3 (ws wc:World)(v4:Value)(S:List SlD)(v5:Value)(L:List ScD)(hn:S.length≤4∧L.length≤6):T3 Tryz.prog (fun a w=>((Below n₀ w0 w∧n₀<w.heap.size)∧SlO n₀ 80 ws v4 S w∧ScO n₀ 80 wc v5 L w)∧Fr 160 [(3,.pointer (some ⟨n₀,0,none⟩)),(4,v4),(5,v5)] a) (sel [1,1,1,0] leM) (fun a w=>∃(v6:Value) (Fs:List FlD) (A7:Nat) (cap:ByteArray),(LN S L Fs cap)∧(LK n₀ w0 v4 S v5 L v6 Fs A7 cap w)∧Fr 160 [(4,v4),(5,v5),(6,v6),(7,.pointer (some ⟨A7,0,none⟩))] a) No 9 No:=by
 refine T3.leaf ?_;rintro Q JS JX JT K hS hK hX hE hT hR a w ⟨⟨hbw,hSl,hL⟩,⟨fr,rfl,q3,q4,q5,_⟩⟩;obtain⟨hn1,hn2⟩:=hn;have hlt:=hbw.2;have HB:=Lib.hid hbw.1;obtain⟨p4,c4,e4⟩:=(Row.of_owns hSl.o).shape;subst e4;obtain⟨p5,c5,e5⟩:=(Row.of_owns hL.o).shape;subst e5;have HC:=Lib.hid (fills_any n₀ 80 80 80 w ws wc c4 c5 p4 p5 S L hSl hL hn1 hn2 (by decide) hL.d.str);have HS:=Lib.hid hSl;have HL:=Lib.hid hL;clear hSl hL hbw;rw [fr_leM,fe q3,fe q4,fe q5];clear q3 q4 q5;conv=>arg 2;whnf
 go_wp2_with fail
 refine HC.out.mono ?_;rintro e w1 ⟨v6,Fs,rfl,hnf,h1⟩;have H1:=Lib.hid h1;have HNF:=Lib.hid hnf;have HS1:=Lib.hid (HS.out.drawn h1.d);have HL1:=Lib.hid (HL.out.drawn h1.d);have HB1:=Lib.hid (below_str HB.out h1.d.gr (Nat.le_refl _) (by omega));have hz1:=h1.d.size;obtain⟨p6,c6,e6⟩:=(Row.of_owns h1.o).shape;subst e6;clear h1 hnf;go_wp2_with fail
 refine(some_lit n₀ (80+52) [⟨#[97,110,110]⟩,⟨#[98,101,97]⟩,⟨#[]⟩,⟨#[122,101,100]⟩] 4 _ _ _ rfl rfl (by decide) (by decide) HL1.out.d.str (by decide)).mono ?_;rintro e w2 ⟨cap,rfl,hcap,h2⟩;have hsm:=smCap hcap;have hba:=(Below.refl w2.heap.size w2).alloc (Nat.le_refl _) (.cells #[.string cap] 9);have hb2:=below_str HB1.out h2.gr (Nat.le_refl _) (by omega);have hz2:=h2.size;have H2:=Lib.hid (show LK n₀ w0 (.slice p4 S.length c4) S (.slice p5 L.length c5) L (.slice p6 Fs.length c6) Fs w2.heap.size cap (w2.alloc (.cells #[.string cap] 9))from
  ⟨hb2.trans (hba.mono (by omega)),by simp;omega,((HS1.out.drawn h2).H (by omega)).below hba,((HL1.out.drawn h2).H (by omega)).below hba,((H1.out.drawn h2).H (by have:=HNF.out;omega)).below hba,cells_new w2 _ _ 0 _ rfl⟩)
 have HN:=Lib.hid (show LN S L Fs cap from⟨hn1,hn2,HNF.out,Nat.le_trans hsm (by decide)⟩);clear h2 hcap hsm hba hb2;go_wp2_with fail
 refine Met.intro (hS _ _ ?_);exact⟨_,Fs,_,cap,HN.out,H2.out,Fr.of _ rfl ⟨rfl,rfl,rfl,rfl,trivial⟩⟩
end
section
variable (n₀:Nat)(w0:World)(v4:Value)(S:List SlD)(v5:Value)(L:List ScD)(v6:Value)(Fs:List FlD)(A7:Nat)(cap:ByteArray)
theorem le4 (hN:LN S L Fs cap):T3 Tryz.prog (fun a w=>(LK n₀ w0 v4 S v5 L v6 Fs A7 cap w)∧Fr 160 [(4,v4),(5,v5),(6,v6),(7,.pointer (some ⟨A7,0,none⟩))] a) (sel [1,1,1,1,0] leM) (fun a w=>∃(A8:Nat),(LK n₀ w0 v4 S v5 L v6 Fs A7 cap w∧Fx w A8 (sumV S L Fs cap))∧Fr 160 [(4,v4),(5,v5),(6,v6),(7,.pointer (some ⟨A7,0,none⟩)),(8,.pointer (some ⟨A8,0,none⟩)),(9,.int .i64 (oneE S L Fs cap))] a) No 9 No:=by
 refine T3.leaf ?_;rintro Q JS JX JT K hS hK hX hE hT hR a w ⟨hW,⟨fr,rfl,q4,q5,q6,q7,_⟩⟩;have HP:=Lib.hid (sumP w v4 v5 v6 S L Fs cap hW.s hW.c hW.f hN.z);have a7:=hW.a7;have HW:=Lib.hid hW;obtain⟨p4,c4,e4⟩:=hW.s.r.shape;subst e4;obtain⟨p5,c5,e5⟩:=hW.c.r.shape;subst e5;obtain⟨p6,c6,e6⟩:=hW.f.r.shape;subst e6;clear hW;generalize hsv:sumV S L Fs cap=sv at *;generalize oneE S L Fs cap=eo at *;obtain⟨s1,s2⟩:=sv;simp only at HP;clear hsv;rw [fr_leM,fe q4,fe q5,fe q6,fe q7];clear q4 q5 q6 q7;conv=>arg 2;whnf
 go_wp2_with fail
 refine HP.out.mono ?_;rintro e w1 ⟨rfl,hb⟩;have hba:=(Below.refl w1.heap.size w1).alloc (Nat.le_refl _) (.cells #[.int .i64 s1,.int .i64 s2] 34);have HR:=Lib.hid (And.intro ((HW.out.below hb).below hba) (Fx.new w1 s1 s2 34));clear hb hba a7;go_wp2_with fail
 refine Met.intro (hS _ _ ?_);exact⟨_,HR.out,Fr.of _ rfl ⟨rfl,rfl,rfl,rfl,rfl,rfl,trivial⟩⟩
theorem le5 (hN:LN S L Fs cap)(A8:Nat):T3 Tryz.prog (fun a w=>(LK n₀ w0 v4 S v5 L v6 Fs A7 cap w∧Fx w A8 (sumV S L Fs cap))∧Fr 160 [(4,v4),(5,v5),(6,v6),(7,.pointer (some ⟨A7,0,none⟩)),(8,.pointer (some ⟨A8,0,none⟩)),(9,.int .i64 (oneE S L Fs cap))] a) (sel [1,1,1,1,1,0] leM) (fun a w=>∃(A10:Nat),((LK n₀ w0 v4 S v5 L v6 Fs A7 cap w∧Fx w A8 (sumV S L Fs cap))∧Fx w A10 (leftV S L Fs))∧Fr 160 [(4,v4),(5,v5),(6,v6),(7,.pointer (some ⟨A7,0,none⟩)),(8,.pointer (some ⟨A8,0,none⟩)),(9,.int .i64 (oneE S L Fs cap)),(10,.pointer (some ⟨A10,0,none⟩)),(11,.int .i64 (allE S L Fs))] a) No 9 No:=by
 refine T3.leaf ?_;rintro Q JS JX JT K hS hK hX hE hT hR a w ⟨hW,⟨fr,rfl,q4,q5,q6,q7,q8,q9,_⟩⟩;have HP:=Lib.hid (leftP w v4 v5 v6 S L Fs hW.1.s hW.1.c hW.1.f hN.s hN.l);have HW:=Lib.hid hW;obtain⟨p4,c4,e4⟩:=hW.1.s.r.shape;subst e4;obtain⟨p5,c5,e5⟩:=hW.1.c.r.shape;subst e5;obtain⟨p6,c6,e6⟩:=hW.1.f.r.shape;subst e6;clear hW;generalize hsv:leftV S L Fs=sv at *;generalize sumV S L Fs cap=sw at *;generalize oneE S L Fs cap=eo at *;generalize allE S L Fs=ea at *;obtain⟨s1,s2⟩:=sv;simp only at HP;clear hsv;rw [fr_leM,fe q4,fe q5,fe q6,fe q7,fe q8,fe q9];clear q4 q5 q6 q7 q8 q9;conv=>arg 2;whnf
 go_wp2_with fail
 refine HP.out.mono ?_;rintro e w1 ⟨rfl,hb⟩;have hba:=(Below.refl w1.heap.size w1).alloc (Nat.le_refl _) (.cells #[.int .i64 s1,.int .i64 s2] 34);have HR:=Lib.hid (And.intro (And.intro ((HW.out.1.below hb).below hba) ((HW.out.2.below hb).below hba)) (Fx.new w1 s1 s2 34));clear hb hba;go_wp2_with fail
 refine Met.intro (hS _ _ ?_);exact⟨_,HR.out,Fr.of _ rfl ⟨rfl,rfl,rfl,rfl,rfl,rfl,rfl,rfl,trivial⟩⟩
theorem le6 (hN:LN S L Fs cap)(A8:Nat)(A10:Nat):T3 Tryz.prog (fun a w=>((LK n₀ w0 v4 S v5 L v6 Fs A7 cap w∧Fx w A8 (sumV S L Fs cap))∧Fx w A10 (leftV S L Fs))∧Fr 160 [(4,v4),(5,v5),(6,v6),(7,.pointer (some ⟨A7,0,none⟩)),(8,.pointer (some ⟨A8,0,none⟩)),(9,.int .i64 (oneE S L Fs cap)),(10,.pointer (some ⟨A10,0,none⟩)),(11,.int .i64 (allE S L Fs))] a) (sel [1,1,1,1,1,1,0] leM) (fun a w=>∃(v12:Value),(LP n₀ w0 v4 S v5 L v6 Fs A7 cap A8 A10 v12 w)∧Fr 160 [(4,v4),(5,v5),(6,v6),(7,.pointer (some ⟨A7,0,none⟩)),(8,.pointer (some ⟨A8,0,none⟩)),(9,.int .i64 (oneE S L Fs cap)),(10,.pointer (some ⟨A10,0,none⟩)),(11,.int .i64 (allE S L Fs)),(12,v12),(13,.int .i64 (allE S L Fs))] a) No 9 No:=by
 refine T3.leaf ?_;rintro Q JS JX JT K hS hK hX hE hT hR a w ⟨hW,⟨fr,rfl,q4,q5,q6,q7,q8,q9,q10,q11,_⟩⟩;have HP:=Lib.hid (benchP w v4 v5 v6 S L Fs hW.1.1.s hW.1.1.c hW.1.1.f);have HW:=Lib.hid hW;obtain⟨p4,c4,e4⟩:=hW.1.1.s.r.shape;subst e4;obtain⟨p5,c5,e5⟩:=hW.1.1.c.r.shape;subst e5;obtain⟨p6,c6,e6⟩:=hW.1.1.f.r.shape;subst e6;clear hW;generalize oneE S L Fs cap=eo at *;generalize allE S L Fs=ea at *;rw [fr_leM,fe q4,fe q5,fe q6,fe q7,fe q8,fe q9,fe q10,fe q11];clear q4 q5 q6 q7 q8 q9 q10 q11;conv=>arg 2;whnf
 go_wp2_with fail
 refine HP.out.mono ?_;rintro e w1 ⟨v12,rfl,ho,hb⟩;have HR:=Lib.hid (show LP n₀ w0 _ S _ L _ Fs A7 cap A8 A10 v12 w1 from⟨HW.out.1.1.below hb,HW.out.1.2.below hb,HW.out.2.below hb,(Row.of_owns ho).mono (Nat.zero_le _)⟩);obtain⟨p12,c12,e12⟩:=(Row.of_owns ho).shape;subst e12;clear ho hb;go_wp2_with fail
 refine Met.intro (hS _ _ ?_);exact⟨_,HR.out,Fr.of _ rfl ⟨rfl,rfl,rfl,rfl,rfl,rfl,rfl,rfl,rfl,rfl,trivial⟩⟩
theorem le7 (hN:LN S L Fs cap)(A8:Nat)(A10:Nat)(v12:Value):T3 Tryz.prog (fun a w=>(LP n₀ w0 v4 S v5 L v6 Fs A7 cap A8 A10 v12 w)∧Fr 160 [(4,v4),(5,v5),(6,v6),(7,.pointer (some ⟨A7,0,none⟩)),(8,.pointer (some ⟨A8,0,none⟩)),(9,.int .i64 (oneE S L Fs cap)),(10,.pointer (some ⟨A10,0,none⟩)),(11,.int .i64 (allE S L Fs)),(12,v12),(13,.int .i64 (allE S L Fs))] a) (sel [1,1,1,1,1,1,1,0] leM) (fun a w=>(LP n₀ w0 v4 S v5 L v6 Fs A7 cap A8 A10 v12 w)∧Fr 160 [(4,v4),(5,v5),(6,v6),(7,.pointer (some ⟨A7,0,none⟩)),(8,.pointer (some ⟨A8,0,none⟩)),(9,.int .i64 (oneE S L Fs cap)),(10,.pointer (some ⟨A10,0,none⟩)),(11,.int .i64 (allE S L Fs)),(12,v12),(13,.int .i64 (allE S L Fs)),(14,.int .i64 (ssE S L))] a) No 9 No:=by
 refine T3.leaf ?_;rintro Q JS JX JT K hS hK hX hE hT hR a w ⟨hW,⟨fr,rfl,q4,q5,q6,q7,q8,q9,q10,q11,q12,q13,_⟩⟩;have HS:=Lib.hid (slots_ref w v4 S hW.k.s);have HC:=Lib.hid (fun w' (b:Below w.heap.size w w')=>scorers_ref w' v5 L (hW.k.c.below b));have HQ:=Lib.hid (show err2 (slotsE S) (scorersE L)=ssE S L from rfl);have HW:=Lib.hid hW;obtain⟨p12,c12,e12⟩:=hW.r12.shape;subst e12;obtain⟨p4,c4,e4⟩:=hW.k.s.r.shape;subst e4;obtain⟨p5,c5,e5⟩:=hW.k.c.r.shape;subst e5;obtain⟨p6,c6,e6⟩:=hW.k.f.r.shape;subst e6;clear hW;generalize oneE S L Fs cap=eo at *;generalize allE S L Fs=ea at *;generalize ssE S L=eS at *;generalize slotsE S=e1 at *;generalize scorersE L=e2 at *;rw [fr_leM,fe q4,fe q5,fe q6,fe q7,fe q8,fe q9,fe q10,fe q11,fe q12,fe q13];clear q4 q5 q6 q7 q8 q9 q10 q11 q12 q13;conv=>arg 2;whnf
 go_wp2_with fail
 refine HS.out.mono ?_;rintro e w1 ⟨rfl,hb⟩;have B1:=Lib.hid hb;clear hb;go_wp2_with fail
 refine(HC.out w1 B1.out).mono ?_;rintro e w2 ⟨rfl,hb⟩;have B2:=Lib.hid (B1.out.trans (hb.mono B1.out.size));clear hb;go_wp2_with fail
 refine(errs_two e1 e2 w2 _).mono ?_;rw [HQ.out];rintro e w3 ⟨rfl,hb⟩;have HR:=Lib.hid (HW.out.below (B2.out.trans (hb.mono B2.out.size)));clear hb;go_wp2_with fail
 refine Met.intro (hS _ _ ?_);exact⟨HR.out,Fr.of _ rfl ⟨rfl,rfl,rfl,rfl,rfl,rfl,rfl,rfl,rfl,rfl,rfl,trivial⟩⟩
theorem le8 (hN:LN S L Fs cap)(A8:Nat)(A10:Nat)(v12:Value):T3 Tryz.prog (fun a w=>(LP n₀ w0 v4 S v5 L v6 Fs A7 cap A8 A10 v12 w)∧Fr 160 [(4,v4),(5,v5),(6,v6),(7,.pointer (some ⟨A7,0,none⟩)),(8,.pointer (some ⟨A8,0,none⟩)),(9,.int .i64 (oneE S L Fs cap)),(10,.pointer (some ⟨A10,0,none⟩)),(11,.int .i64 (allE S L Fs)),(12,v12),(13,.int .i64 (allE S L Fs)),(14,.int .i64 (ssE S L))] a) (sel [1,1,1,1,1,1,1,1,0,0] leM) (fun a w=>∃q,Fr 160 ((64,.bool q)::[(4,v4),(5,v5),(6,v6),(7,.pointer (some ⟨A7,0,none⟩)),(8,.pointer (some ⟨A8,0,none⟩)),(9,.int .i64 (oneE S L Fs cap)),(10,.pointer (some ⟨A10,0,none⟩)),(11,.int .i64 (allE S L Fs)),(12,v12),(13,.int .i64 (allE S L Fs)),(14,.int .i64 (ssE S L))]) a∧((q=(ssE S L==0))∧LP n₀ w0 v4 S v5 L v6 Fs A7 cap A8 A10 v12 w)) No 9 No:=by
 refine T3.leaf ?_;rintro Q JS JX JT K hS hK hX hE hT hR a w ⟨hW,⟨fr,rfl,q4,q5,q6,q7,q8,q9,q10,q11,q12,q13,q14,_⟩⟩;have HW:=Lib.hid hW;obtain⟨p12,c12,e12⟩:=hW.r12.shape;subst e12;obtain⟨p4,c4,e4⟩:=hW.k.s.r.shape;subst e4;obtain⟨p5,c5,e5⟩:=hW.k.c.r.shape;subst e5;obtain⟨p6,c6,e6⟩:=hW.k.f.r.shape;subst e6;clear hW;generalize oneE S L Fs cap=eo at *;generalize allE S L Fs=ea at *;generalize ssE S L=eS at *;rw [fr_leM,fe q4,fe q5,fe q6,fe q7,fe q8,fe q9,fe q10,fe q11,fe q12,fe q13,fe q14];clear q4 q5 q6 q7 q8 q9 q10 q11 q12 q13 q14;conv=>arg 2;whnf
 go_wp2_with fail
 refine Met.intro (hS _ _ ?_);exact⟨_,Fr.of _ rfl ⟨rfl,rfl,rfl,rfl,rfl,rfl,rfl,rfl,rfl,rfl,rfl,rfl,trivial⟩,rfl,HW.out⟩
theorem le9 (hN:LN S L Fs cap)(A8:Nat)(A10:Nat)(v12:Value)(hz:ssE S L=0):T3 Tryz.prog (fun a w=>(LP n₀ w0 v4 S v5 L v6 Fs A7 cap A8 A10 v12 w)∧Fr 160 [(4,v4),(5,v5),(6,v6),(7,.pointer (some ⟨A7,0,none⟩)),(8,.pointer (some ⟨A8,0,none⟩)),(9,.int .i64 (oneE S L Fs cap)),(10,.pointer (some ⟨A10,0,none⟩)),(11,.int .i64 (allE S L Fs)),(12,v12),(13,.int .i64 (allE S L Fs)),(14,.int .i64 (ssE S L))] a) (sel [1,1,1,1,1,1,1,1,0,1,2] leM) (fun a w=>(LP n₀ w0 v4 S v5 L v6 Fs A7 cap A8 A10 v12 w)∧Fr 160 [(4,v4),(5,v5),(6,v6),(7,.pointer (some ⟨A7,0,none⟩)),(8,.pointer (some ⟨A8,0,none⟩)),(9,.int .i64 (oneE S L Fs cap)),(10,.pointer (some ⟨A10,0,none⟩)),(11,.int .i64 (allE S L Fs)),(12,v12),(13,.int .i64 (allE S L Fs)),(14,.int .i64 (allE S L Fs))] a) No 9 No:=by
 refine T3.leaf ?_;rintro Q JS JX JT K hS hK hX hE hT hR a w ⟨hW,⟨fr,rfl,q4,q5,q6,q7,q8,q9,q10,q11,q12,q13,q14,_⟩⟩;have HF:=Lib.hid (fills_ref w v4 v5 v6 S L Fs hW.k.s hW.k.c hW.k.f);rw [allE_case hz]at HF;have HW:=Lib.hid hW;obtain⟨p12,c12,e12⟩:=hW.r12.shape;subst e12;obtain⟨p4,c4,e4⟩:=hW.k.s.r.shape;subst e4;obtain⟨p5,c5,e5⟩:=hW.k.c.r.shape;subst e5;obtain⟨p6,c6,e6⟩:=hW.k.f.r.shape;subst e6;clear hW hz;generalize oneE S L Fs cap=eo at *;generalize allE S L Fs=ea at *;generalize ssE S L=eS at *;rw [fr_leM,fe q4,fe q5,fe q6,fe q7,fe q8,fe q9,fe q10,fe q11,fe q12,fe q13,fe q14];clear q4 q5 q6 q7 q8 q9 q10 q11 q12 q13 q14;conv=>arg 2;whnf
 go_wp2_with fail
 refine HF.out.mono ?_;rintro e w1 ⟨rfl,hb⟩;have HR:=Lib.hid (HW.out.below hb);clear hb;go_wp2_with fail
 refine Met.intro (hS _ _ ?_);exact⟨HR.out,Fr.of _ rfl ⟨rfl,rfl,rfl,rfl,rfl,rfl,rfl,rfl,rfl,rfl,rfl,trivial⟩⟩
theorem le10 (hN:LN S L Fs cap)(A8:Nat)(A10:Nat)(v12:Value):T3 Tryz.prog (fun a w=>(LP n₀ w0 v4 S v5 L v6 Fs A7 cap A8 A10 v12 w)∧Fr 160 [(4,v4),(5,v5),(6,v6),(7,.pointer (some ⟨A7,0,none⟩)),(8,.pointer (some ⟨A8,0,none⟩)),(9,.int .i64 (oneE S L Fs cap)),(10,.pointer (some ⟨A10,0,none⟩)),(11,.int .i64 (allE S L Fs)),(12,v12),(13,.int .i64 (allE S L Fs)),(14,.int .i64 (allE S L Fs))] a) (sel [1,1,1,1,1,1,1,1,1,0] leM) (fun a w=>(LP n₀ w0 v4 S v5 L v6 Fs A7 cap A8 A10 v12 w)∧Fr 160 [(4,v4),(5,v5),(6,v6),(7,.pointer (some ⟨A7,0,none⟩)),(8,.pointer (some ⟨A8,0,none⟩)),(9,.int .i64 (oneE S L Fs cap)),(10,.pointer (some ⟨A10,0,none⟩)),(11,.int .i64 (allE S L Fs)),(12,v12),(13,.int .i64 (allE S L Fs)),(14,.int .i64 (allE S L Fs)),(15,.int .i64 (oneE S L Fs cap))] a) No 9 No:=by
 refine T3.leaf ?_;rintro Q JS JX JT K hS hK hX hE hT hR a w ⟨hW,⟨fr,rfl,q4,q5,q6,q7,q8,q9,q10,q11,q12,q13,q14,_⟩⟩;have a7:=hW.k.a7;have HI:=Lib.hid (any_fl 18 Tryz.call18 (.pointer (some ⟨A7,0,none⟩)) v6 Fs (fun y=>decide (y.pl=cap)) 0 w hW.k.f.r (by have:=hN.f;omega) (fun y _ w1 hb=>cl_cap y.sl y.pl cap A7 w1 ((hb.cell (p:=⟨A7,0,none⟩) (World.block_lt_of_cell? w _ a7)).trans a7)));have hE:(Fs.any fun y=>decide (y.pl=cap))=isInB Fs cap:=rfl;rw [hE]at HI;have HW:=Lib.hid hW;have HQ:=Lib.hid (oneE_err (S:=S) (L:=L) (F:=Fs) (cap:=cap));obtain⟨p12,c12,e12⟩:=hW.r12.shape;subst e12;obtain⟨p4,c4,e4⟩:=hW.k.s.r.shape;subst e4;obtain⟨p5,c5,e5⟩:=hW.k.c.r.shape;subst e5;obtain⟨p6,c6,e6⟩:=hW.k.f.r.shape;subst e6;clear hW hE;generalize oneE S L Fs cap=eo at *;generalize allE S L Fs=ea at *
 by_cases hx:cap=ByteArray.empty
 ·have HX:=Lib.hid (show false=capBad Fs cap by unfold capBad;simp [hx]);rw [←HX.out]at HQ;have HXX:=Lib.hid hx;rw [hx]at a7;clear hx HI;rw [fr_leM,fe q4,fe q5,fe q6,fe q7,fe q8,fe q9,fe q10,fe q11,fe q12,fe q13,fe q14];clear q4 q5 q6 q7 q8 q9 q10 q11 q12 q13 q14;conv=>arg 2;whnf
  go_wp2_with fail
  refine(when_any false 8 w).mono ?_;rintro e w1 ⟨rfl,rfl⟩;go_wp2_with fail
  refine(errs_two ea _ w _).mono ?_;rw [show err2 ea 0=eo from HQ.out];rintro e w3 ⟨rfl,hb⟩;have HR:=Lib.hid (HW.out.below hb);clear hb;go_wp2_with fail
  refine Met.intro (hS _ _ ?_);exact⟨HR.out,Fr.of _ rfl ⟨rfl,rfl,rfl,rfl,rfl,rfl,rfl,rfl,rfl,rfl,rfl,rfl,trivial⟩⟩
 ·have HX:=Lib.hid (show(!isInB Fs cap)=capBad Fs cap by unfold capBad;simp [hx]);rw [←HX.out]at HQ;have hx1:=toList_ne hx;have hx2:cap.toList.isEmpty=false:=by
   have hh:=hx1;rw [show ByteArray.empty.toList=[]by rw [ByteArray.toList_eq];rfl]at hh;cases hl:cap.toList with
   | nil=>rw [hl]at hh;exact absurd hh (by decide)
   | cons a b=>rfl
  clear hx;generalize isInB Fs cap=iq at *;cases iq
  ·rw [fr_leM,fe q4,fe q5,fe q6,fe q7,fe q8,fe q9,fe q10,fe q11,fe q12,fe q13,fe q14];clear q4 q5 q6 q7 q8 q9 q10 q11 q12 q13 q14;conv=>arg 2;whnf
   go_wp2_with fail
   refine HI.out.mono ?_;rintro e w1 ⟨rfl,hb⟩;have B1:=Lib.hid hb;clear hb;go_wp2_with fail
   refine(when_any true 8 w1).mono ?_;rintro e w2 ⟨rfl,rfl⟩;go_wp2_with fail
   refine(errs_two ea _ w1 _).mono ?_;rw [show err2 ea 8=eo from HQ.out];rintro e w3 ⟨rfl,hb⟩;have HR:=Lib.hid (HW.out.below (B1.out.trans (hb.mono B1.out.size)));clear hb;go_wp2_with fail
   refine Met.intro (hS _ _ ?_);exact⟨HR.out,Fr.of _ rfl ⟨rfl,rfl,rfl,rfl,rfl,rfl,rfl,rfl,rfl,rfl,rfl,rfl,trivial⟩⟩
  ·rw [fr_leM,fe q4,fe q5,fe q6,fe q7,fe q8,fe q9,fe q10,fe q11,fe q12,fe q13,fe q14];clear q4 q5 q6 q7 q8 q9 q10 q11 q12 q13 q14;conv=>arg 2;whnf
   go_wp2_with fail
   refine HI.out.mono ?_;rintro e w1 ⟨rfl,hb⟩;have B1:=Lib.hid hb;clear hb;go_wp2_with fail
   refine(when_any false 8 w1).mono ?_;rintro e w2 ⟨rfl,rfl⟩;go_wp2_with fail
   refine(errs_two ea _ w1 _).mono ?_;rw [show err2 ea 0=eo from HQ.out];rintro e w3 ⟨rfl,hb⟩;have HR:=Lib.hid (HW.out.below (B1.out.trans (hb.mono B1.out.size)));clear hb;go_wp2_with fail
   refine Met.intro (hS _ _ ?_);exact⟨HR.out,Fr.of _ rfl ⟨rfl,rfl,rfl,rfl,rfl,rfl,rfl,rfl,rfl,rfl,rfl,rfl,trivial⟩⟩
end
end Go.Proofs.YtnmdpphddimfbaaGreat
/-
  The law LineupsCounted: its walk from end to end, the second half. No condition.
-/
namespace Go.Proofs.YtnmdpphddimfbaaGreat
open Go.RowKit Go.Bw
/-- The reference's two fractions, in boxes of the law's own. -/
structure LQ (wM:World)(A16 A17:Nat)(p q:Int×Int)(w:World):Prop where
 b:Below wM.heap.size wM w
 o1:w.ownsRow wM.heap.size 34 2 (.slice (some ⟨A16,0,none⟩) 1 1) 1 [.int .i64 p.1,.int .i64 p.2]
 o2:w.ownsRow wM.heap.size 34 2 (.slice (some ⟨A17,0,none⟩) 1 1) 1 [.int .i64 q.1,.int .i64 q.2]
 ne:A16≠A17
section
variable {wM w w':World}{A16 A17:Nat}{p q:Int×Int}
theorem frac_cells {w:World}{base g:Nat}{a b:Value}(h:w.ownsRow base 34 2 (.slice (some ⟨g,0,none⟩) 1 1) 1 [a,b]):w.cell? ⟨g,0,none⟩=some a∧w.cell? ⟨g,1,none⟩=some b:=by
 rcases(Row.of_owns h).2 with ⟨h0,_⟩|⟨g',off,cap,hv,_,_,_,_,hc⟩
 ·cases h0
 ·simp only [Value.slice.injEq,Option.some.injEq,Addr.mk.injEq]at hv;obtain⟨⟨rfl,rfl,_⟩,_,_⟩:=hv;exact⟨hc 0 _ rfl,hc 1 _ rfl⟩
theorem LQ.below (h:LQ wM A16 A17 p q w)(g:Below w.heap.size w w'):LQ wM A16 A17 p q w':=⟨h.b.trans (g.mono h.b.size),owns_below h.o1 g (Nat.le_refl _),owns_below h.o2 g (Nat.le_refl _),h.ne⟩
theorem LQ.put1 (h:LQ wM A16 A17 p q w)(x y:Int):LQ wM A16 A17 (x,y) q ((w.setCell ⟨A16,0,none⟩ (.int .i64 x)).setCell ⟨A16,1,none⟩ (.int .i64 y)):=by
 have hg:=(h.o1.lt A16 rfl).1;have hn:(Value.slice (some ⟨A17,0,none⟩) 1 1).ownBlock≠some A16:=by simpa [Value.ownBlock] using fun e=>h.ne e.symm
 exact⟨(h.b.setCell (p:=⟨A16,0,none⟩) hg _).setCell (p:=⟨A16,1,none⟩) hg _,owns_setC (owns_setC h.o1 0 (by omega) (.int .i64 x)) 1 (by omega) (.int .i64 y),(h.o2.kept (grown_setCell w A16 0 _) (.inr hn)).kept (grown_setCell _ A16 1 _) (.inr hn),h.ne⟩
theorem LQ.put2 (h:LQ wM A16 A17 p q w)(x y:Int):LQ wM A16 A17 p (x,y) ((w.setCell ⟨A17,0,none⟩ (.int .i64 x)).setCell ⟨A17,1,none⟩ (.int .i64 y)):=by
 have hg:=(h.o2.lt A17 rfl).1;have hn:(Value.slice (some ⟨A16,0,none⟩) 1 1).ownBlock≠some A17:=by simpa [Value.ownBlock] using h.ne
 exact⟨(h.b.setCell (p:=⟨A17,0,none⟩) hg _).setCell (p:=⟨A17,1,none⟩) hg _,(h.o1.kept (grown_setCell w A17 0 _) (.inr hn)).kept (grown_setCell _ A17 1 _) (.inr hn),owns_setC (owns_setC h.o2 0 (by omega) (.int .i64 x)) 1 (by omega) (.int .i64 y),h.ne⟩
theorem LQ.new (wM:World):LQ wM wM.heap.size (wM.heap.size+1) (0,0) (0,0) ((wM.alloc (.cells #[.int .i64 0,.int .i64 0] 34)).alloc (.cells #[.int .i64 0,.int .i64 0] 34)):=by
 have h1:=owns_litZ wM wM.heap.size 34 #[.int .i64 0,.int .i64 0] 1 2 (by decide) rfl (Nat.le_refl _);have h2:=owns_litZ (wM.alloc (.cells #[.int .i64 0,.int .i64 0] 34)) wM.heap.size 34 #[.int .i64 0,.int .i64 0] 1 2 (by decide) rfl (by simp);have hb:=(Below.refl wM.heap.size wM).alloc (Nat.le_refl _) (.cells #[.int .i64 0,.int .i64 0] 34);have e:(wM.alloc (.cells #[.int .i64 0,.int .i64 0] 34)).heap.size=wM.heap.size+1:=by simp
 rw [e]at h2;exact⟨hb.alloc hb.size _,h1.alloc _,h2,by omega⟩
end
section
variable {S:List SlD}{L:List ScD}{F:List FlD}
theorem sumV_of {cap:ByteArray}(h:oneE S L F cap=0):(ofHn (sumK L F cap F.length),ofHd (sumK L F cap F.length))=sumV S L F cap:=by unfold sumV;rw [if_pos h]
theorem sumV_no {cap:ByteArray}(h:oneE S L F cap≠0):(0,0)=sumV S L F cap:=by unfold sumV;rw [if_neg h]
theorem leftV_of (g:AlG S L F)(hS:S.length≤12):(ofHn ((refX S L).sum-sumK L F ⟨#[]⟩ F.length),ofHd ((refX S L).sum-sumK L F ⟨#[]⟩ F.length))=leftV S L F:=by
 unfold leftV;rw [if_pos g.a,left_eq g hS];rfl
theorem leftV_no (h:allE S L F≠0):(0,0)=leftV S L F:=by unfold leftV;rw [if_neg h]
end
section
variable (n₀:Nat)(w0:World)(v4:Value)(S:List SlD)(v5:Value)(L:List ScD)(v6:Value)(Fs:List FlD)(A7:Nat)(cap:ByteArray)
theorem le11 (hN:LN S L Fs cap)(A8:Nat)(A10:Nat)(v12:Value)(wM:World)(hM:LP n₀ w0 v4 S v5 L v6 Fs A7 cap A8 A10 v12 wM):T3 Tryz.prog (fun a w=>(IsW wM w)∧Fr 160 [(4,v4),(5,v5),(6,v6),(7,.pointer (some ⟨A7,0,none⟩)),(8,.pointer (some ⟨A8,0,none⟩)),(9,.int .i64 (oneE S L Fs cap)),(10,.pointer (some ⟨A10,0,none⟩)),(11,.int .i64 (allE S L Fs)),(12,v12),(13,.int .i64 (allE S L Fs)),(14,.int .i64 (allE S L Fs)),(15,.int .i64 (oneE S L Fs cap))] a) (sel [1,1,1,1,1,1,1,1,1,1,0] leM) (fun a w=>∃(A16 A17:Nat),(LQ wM A16 A17 (0,0) (0,0) w)∧Fr 160 [(4,v4),(5,v5),(6,v6),(7,.pointer (some ⟨A7,0,none⟩)),(8,.pointer (some ⟨A8,0,none⟩)),(9,.int .i64 (oneE S L Fs cap)),(10,.pointer (some ⟨A10,0,none⟩)),(11,.int .i64 (allE S L Fs)),(12,v12),(13,.int .i64 (allE S L Fs)),(14,.int .i64 (allE S L Fs)),(15,.int .i64 (oneE S L Fs cap)),(16,.pointer (some ⟨A16,0,none⟩)),(17,.pointer (some ⟨A17,0,none⟩))] a) No 9 No:=by
 refine T3.leaf ?_;rintro Q JS JX JT K hS hK hX hE hT hR a w ⟨hW,⟨fr,rfl,q4,q5,q6,q7,q8,q9,q10,q11,q12,q13,q14,q15,_⟩⟩;obtain rfl:w=wM:=hW;have hq:=LQ.new w;obtain⟨r0,r1⟩:=frac_cells hq.o1;obtain⟨r2,r3⟩:=frac_cells hq.o2;have f0:=owns_frozenC hq.o1 0;have f1:=owns_frozenC hq.o1 1;have f2:=owns_frozenC hq.o2 0;have f3:=owns_frozenC hq.o2 1;have HF:=Lib.hid ((hq.put1 0 0).put2 0 0);have HG:=Lib.hid hq;obtain⟨p12,c12,e12⟩:=hM.r12.shape;subst e12;obtain⟨p4,c4,e4⟩:=hM.k.s.r.shape;subst e4;obtain⟨p5,c5,e5⟩:=hM.k.c.r.shape;subst e5;obtain⟨p6,c6,e6⟩:=hM.k.f.r.shape;subst e6;clear hM hq;generalize oneE S L Fs cap=eo at *;generalize allE S L Fs=ea at *;rw [fr_leM,fe q4,fe q5,fe q6,fe q7,fe q8,fe q9,fe q10,fe q11,fe q12,fe q13,fe q14,fe q15];clear q4 q5 q6 q7 q8 q9 q10 q11 q12 q13 q14 q15;conv=>arg 2;whnf
 go_wp2_with fail
 first
 | (refine Met.intro (hS _ _ ?_)
    exact⟨_,_,HF.out,Fr.of _ rfl ⟨rfl,rfl,rfl,rfl,rfl,rfl,rfl,rfl,rfl,rfl,rfl,rfl,rfl,rfl,trivial⟩⟩)
 | (refine Met.intro (hS _ _ ?_)
    exact⟨_,_,HG.out,Fr.of _ rfl ⟨rfl,rfl,rfl,rfl,rfl,rfl,rfl,rfl,rfl,rfl,rfl,rfl,rfl,rfl,trivial⟩⟩)
theorem le12 (hN:LN S L Fs cap)(A8:Nat)(A10:Nat)(v12:Value)(wM:World)(hM:LP n₀ w0 v4 S v5 L v6 Fs A7 cap A8 A10 v12 wM)(A16 A17:Nat):T3 Tryz.prog (fun a w=>(LQ wM A16 A17 (0,0) (0,0) w)∧Fr 160 [(4,v4),(5,v5),(6,v6),(7,.pointer (some ⟨A7,0,none⟩)),(8,.pointer (some ⟨A8,0,none⟩)),(9,.int .i64 (oneE S L Fs cap)),(10,.pointer (some ⟨A10,0,none⟩)),(11,.int .i64 (allE S L Fs)),(12,v12),(13,.int .i64 (allE S L Fs)),(14,.int .i64 (allE S L Fs)),(15,.int .i64 (oneE S L Fs cap)),(16,.pointer (some ⟨A16,0,none⟩)),(17,.pointer (some ⟨A17,0,none⟩))] a) (sel [1,1,1,1,1,1,1,1,1,1,1,0] leM) (fun a w=>(LQ wM A16 A17 (0,0) (0,0) w)∧Fr 160 [(4,v4),(5,v5),(6,v6),(7,.pointer (some ⟨A7,0,none⟩)),(8,.pointer (some ⟨A8,0,none⟩)),(9,.int .i64 (oneE S L Fs cap)),(10,.pointer (some ⟨A10,0,none⟩)),(11,.int .i64 (allE S L Fs)),(12,v12),(13,.int .i64 (allE S L Fs)),(14,.int .i64 (allE S L Fs)),(15,.int .i64 (oneE S L Fs cap)),(16,.pointer (some ⟨A16,0,none⟩)),(17,.pointer (some ⟨A17,0,none⟩)),(18,.slice none 0 0)] a) No 9 No:=by
 refine T3.leaf ?_;rintro Q JS JX JT K hS hK hX hE hT hR a w ⟨hW,⟨fr,rfl,q4,q5,q6,q7,q8,q9,q10,q11,q12,q13,q14,q15,q16,q17,_⟩⟩;have HW:=Lib.hid hW;obtain⟨p12,c12,e12⟩:=hM.r12.shape;subst e12;obtain⟨p4,c4,e4⟩:=hM.k.s.r.shape;subst e4;obtain⟨p5,c5,e5⟩:=hM.k.c.r.shape;subst e5;obtain⟨p6,c6,e6⟩:=hM.k.f.r.shape;subst e6;clear hM hW;generalize oneE S L Fs cap=eo at *;generalize allE S L Fs=ea at *;rw [fr_leM,fe q4,fe q5,fe q6,fe q7,fe q8,fe q9,fe q10,fe q11,fe q12,fe q13,fe q14,fe q15,fe q16,fe q17];clear q4 q5 q6 q7 q8 q9 q10 q11 q12 q13 q14 q15 q16 q17;conv=>arg 2;whnf
 go_wp2_with fail
 refine Met.intro (hS _ _ ?_);exact⟨HW.out,Fr.of _ rfl ⟨rfl,rfl,rfl,rfl,rfl,rfl,rfl,rfl,rfl,rfl,rfl,rfl,rfl,rfl,rfl,trivial⟩⟩
theorem le13 (hN:LN S L Fs cap)(A8:Nat)(A10:Nat)(v12:Value)(wM:World)(hM:LP n₀ w0 v4 S v5 L v6 Fs A7 cap A8 A10 v12 wM)(A16 A17:Nat):T3 Tryz.prog (fun a w=>(LQ wM A16 A17 (0,0) (0,0) w)∧Fr 160 [(4,v4),(5,v5),(6,v6),(7,.pointer (some ⟨A7,0,none⟩)),(8,.pointer (some ⟨A8,0,none⟩)),(9,.int .i64 (oneE S L Fs cap)),(10,.pointer (some ⟨A10,0,none⟩)),(11,.int .i64 (allE S L Fs)),(12,v12),(13,.int .i64 (allE S L Fs)),(14,.int .i64 (allE S L Fs)),(15,.int .i64 (oneE S L Fs cap)),(16,.pointer (some ⟨A16,0,none⟩)),(17,.pointer (some ⟨A17,0,none⟩)),(18,.slice none 0 0)] a) (sel [1,1,1,1,1,1,1,1,1,1,1,1,0,0] leM) (fun a w=>∃q,Fr 160 ((84,.bool q)::[(4,v4),(5,v5),(6,v6),(7,.pointer (some ⟨A7,0,none⟩)),(8,.pointer (some ⟨A8,0,none⟩)),(9,.int .i64 (oneE S L Fs cap)),(10,.pointer (some ⟨A10,0,none⟩)),(11,.int .i64 (allE S L Fs)),(12,v12),(13,.int .i64 (allE S L Fs)),(14,.int .i64 (allE S L Fs)),(15,.int .i64 (oneE S L Fs cap)),(16,.pointer (some ⟨A16,0,none⟩)),(17,.pointer (some ⟨A17,0,none⟩)),(18,.slice none 0 0)]) a∧((q=(oneE S L Fs cap==0))∧LQ wM A16 A17 (0,0) (0,0) w)) No 9 No:=by
 refine T3.leaf ?_;rintro Q JS JX JT K hS hK hX hE hT hR a w ⟨hW,⟨fr,rfl,q4,q5,q6,q7,q8,q9,q10,q11,q12,q13,q14,q15,q16,q17,q18,_⟩⟩;have HW:=Lib.hid hW;obtain⟨p12,c12,e12⟩:=hM.r12.shape;subst e12;obtain⟨p4,c4,e4⟩:=hM.k.s.r.shape;subst e4;obtain⟨p5,c5,e5⟩:=hM.k.c.r.shape;subst e5;obtain⟨p6,c6,e6⟩:=hM.k.f.r.shape;subst e6;clear hM hW;generalize oneE S L Fs cap=eo at *;generalize allE S L Fs=ea at *;rw [fr_leM,fe q4,fe q5,fe q6,fe q7,fe q8,fe q9,fe q10,fe q11,fe q12,fe q13,fe q14,fe q15,fe q16,fe q17,fe q18];clear q4 q5 q6 q7 q8 q9 q10 q11 q12 q13 q14 q15 q16 q17 q18;conv=>arg 2;whnf
 go_wp2_with fail
 refine Met.intro (hS _ _ ?_);exact⟨_,Fr.of _ rfl ⟨rfl,rfl,rfl,rfl,rfl,rfl,rfl,rfl,rfl,rfl,rfl,rfl,rfl,rfl,rfl,rfl,trivial⟩,rfl,HW.out⟩
theorem le14 (hN:LN S L Fs cap)(A8:Nat)(A10:Nat)(v12:Value)(wM:World)(hM:LP n₀ w0 v4 S v5 L v6 Fs A7 cap A8 A10 v12 wM)(A16 A17:Nat)(h1:oneE S L Fs cap=0):T3 Tryz.prog (fun a w=>(LQ wM A16 A17 (0,0) (0,0) w)∧Fr 160 [(4,v4),(5,v5),(6,v6),(7,.pointer (some ⟨A7,0,none⟩)),(8,.pointer (some ⟨A8,0,none⟩)),(9,.int .i64 (oneE S L Fs cap)),(10,.pointer (some ⟨A10,0,none⟩)),(11,.int .i64 (allE S L Fs)),(12,v12),(13,.int .i64 (allE S L Fs)),(14,.int .i64 (allE S L Fs)),(15,.int .i64 (oneE S L Fs cap)),(16,.pointer (some ⟨A16,0,none⟩)),(17,.pointer (some ⟨A17,0,none⟩)),(18,.slice none 0 0)] a) (sel [1,1,1,1,1,1,1,1,1,1,1,1,0,1,2] leM) (fun a w=>(LQ wM A16 A17 (sumV S L Fs cap) (0,0) w)∧Fr 160 [(4,v4),(5,v5),(6,v6),(7,.pointer (some ⟨A7,0,none⟩)),(8,.pointer (some ⟨A8,0,none⟩)),(9,.int .i64 (oneE S L Fs cap)),(10,.pointer (some ⟨A10,0,none⟩)),(11,.int .i64 (allE S L Fs)),(12,v12),(13,.int .i64 (allE S L Fs)),(14,.int .i64 (allE S L Fs)),(15,.int .i64 (oneE S L Fs cap)),(16,.pointer (some ⟨A16,0,none⟩)),(17,.pointer (some ⟨A17,0,none⟩)),(18,.slice none 0 0)] a) No 9 No:=by
 refine T3.leaf ?_;rintro Q JS JX JT K hS hK hX hE hT hR a w ⟨hW,⟨fr,rfl,q4,q5,q6,q7,q8,q9,q10,q11,q12,q13,q14,q15,q16,q17,q18,_⟩⟩;have g:AlG S L Fs:=⟨oneE_all h1⟩
 have hb:=hW.b;have K:=hM.k.below hb;have a7:=K.a7;have hsb:=sumK_b (scp_of g.sc) (cap:=cap) g.inF Fs.length (Nat.le_refl _);have hn12:=hN.f;have HC:=Lib.hid (sumOf_ref w v5 v6 L Fs cap K.c K.f (rise_of g.sc) (scp_of g.sc) g.inF);have HO:=Lib.hid (fun w'=>ofHundredths_ref (sumK L Fs cap Fs.length) w' (by omega) (by omega));have HV:=Lib.hid (sumV_of h1);have HW:=Lib.hid hW;obtain⟨p12,c12,e12⟩:=hM.r12.shape;subst e12;obtain⟨p4,c4,e4⟩:=hM.k.s.r.shape;subst e4;obtain⟨p5,c5,e5⟩:=hM.k.c.r.shape;subst e5;obtain⟨p6,c6,e6⟩:=hM.k.f.r.shape;subst e6;clear hM hW hb K g hsb h1;generalize oneE S L Fs cap=eo at *;generalize allE S L Fs=ea at *;generalize sumV S L Fs cap=sv at *;generalize sumK L Fs cap Fs.length=sk at *;rw [fr_leM,fe q4,fe q5,fe q6,fe q7,fe q8,fe q9,fe q10,fe q11,fe q12,fe q13,fe q14,fe q15,fe q16,fe q17,fe q18];clear q4 q5 q6 q7 q8 q9 q10 q11 q12 q13 q14 q15 q16 q17 q18;conv=>arg 2;whnf
 go_wp2_with fail
 refine HC.out.mono ?_;rintro e w1 ⟨rfl,hb1⟩;have H1:=Lib.hid (HW.out.below hb1);clear hb1;go_wp2_with fail
 refine(HO.out w1).mono ?_;rintro e w2 ⟨rfl,hb2⟩;have H2:=H1.out.below hb2;have HF:=H2.put1 (ofHn sk) (ofHd sk);rw [HV.out]at HF;have HFF:=Lib.hid HF;obtain⟨r0,r1⟩:=frac_cells H2.o1;have f0:=owns_frozenC H2.o1 0;have f1:=owns_frozenC H2.o1 1;clear hb2 H2 HF;go_wp2_with fail
 refine Met.intro (hS _ _ ?_);exact⟨HFF.out,Fr.of _ rfl ⟨rfl,rfl,rfl,rfl,rfl,rfl,rfl,rfl,rfl,rfl,rfl,rfl,rfl,rfl,rfl,trivial⟩⟩
theorem le15 (hN:LN S L Fs cap)(A8:Nat)(A10:Nat)(v12:Value)(wM:World)(hM:LP n₀ w0 v4 S v5 L v6 Fs A7 cap A8 A10 v12 wM)(A16 A17:Nat):T3 Tryz.prog (fun a w=>(LQ wM A16 A17 (sumV S L Fs cap) (0,0) w)∧Fr 160 [(4,v4),(5,v5),(6,v6),(7,.pointer (some ⟨A7,0,none⟩)),(8,.pointer (some ⟨A8,0,none⟩)),(9,.int .i64 (oneE S L Fs cap)),(10,.pointer (some ⟨A10,0,none⟩)),(11,.int .i64 (allE S L Fs)),(12,v12),(13,.int .i64 (allE S L Fs)),(14,.int .i64 (allE S L Fs)),(15,.int .i64 (oneE S L Fs cap)),(16,.pointer (some ⟨A16,0,none⟩)),(17,.pointer (some ⟨A17,0,none⟩)),(18,.slice none 0 0)] a) (sel [1,1,1,1,1,1,1,1,1,1,1,1,1,0,0] leM) (fun a w=>∃q,Fr 160 ((91,.bool q)::[(4,v4),(5,v5),(6,v6),(7,.pointer (some ⟨A7,0,none⟩)),(8,.pointer (some ⟨A8,0,none⟩)),(9,.int .i64 (oneE S L Fs cap)),(10,.pointer (some ⟨A10,0,none⟩)),(11,.int .i64 (allE S L Fs)),(12,v12),(13,.int .i64 (allE S L Fs)),(14,.int .i64 (allE S L Fs)),(15,.int .i64 (oneE S L Fs cap)),(16,.pointer (some ⟨A16,0,none⟩)),(17,.pointer (some ⟨A17,0,none⟩)),(18,.slice none 0 0)]) a∧((q=(allE S L Fs==0))∧LQ wM A16 A17 (sumV S L Fs cap) (0,0) w)) No 9 No:=by
 refine T3.leaf ?_;rintro Q JS JX JT K hS hK hX hE hT hR a w ⟨hW,⟨fr,rfl,q4,q5,q6,q7,q8,q9,q10,q11,q12,q13,q14,q15,q16,q17,q18,_⟩⟩;have HW:=Lib.hid hW;obtain⟨p12,c12,e12⟩:=hM.r12.shape;subst e12;obtain⟨p4,c4,e4⟩:=hM.k.s.r.shape;subst e4;obtain⟨p5,c5,e5⟩:=hM.k.c.r.shape;subst e5;obtain⟨p6,c6,e6⟩:=hM.k.f.r.shape;subst e6;clear hM hW;generalize oneE S L Fs cap=eo at *;generalize allE S L Fs=ea at *;generalize sumV S L Fs cap=sv at *;rw [fr_leM,fe q4,fe q5,fe q6,fe q7,fe q8,fe q9,fe q10,fe q11,fe q12,fe q13,fe q14,fe q15,fe q16,fe q17,fe q18];clear q4 q5 q6 q7 q8 q9 q10 q11 q12 q13 q14 q15 q16 q17 q18;conv=>arg 2;whnf
 go_wp2_with fail
 refine Met.intro (hS _ _ ?_);exact⟨_,Fr.of _ rfl ⟨rfl,rfl,rfl,rfl,rfl,rfl,rfl,rfl,rfl,rfl,rfl,rfl,rfl,rfl,rfl,rfl,trivial⟩,rfl,HW.out⟩
theorem le16 (hN:LN S L Fs cap)(A8:Nat)(A10:Nat)(v12:Value)(wM:World)(hM:LP n₀ w0 v4 S v5 L v6 Fs A7 cap A8 A10 v12 wM)(A16 A17:Nat)(g:AlG S L Fs):T3 Tryz.prog (fun a w=>(LQ wM A16 A17 (sumV S L Fs cap) (0,0) w)∧Fr 160 [(4,v4),(5,v5),(6,v6),(7,.pointer (some ⟨A7,0,none⟩)),(8,.pointer (some ⟨A8,0,none⟩)),(9,.int .i64 (oneE S L Fs cap)),(10,.pointer (some ⟨A10,0,none⟩)),(11,.int .i64 (allE S L Fs)),(12,v12),(13,.int .i64 (allE S L Fs)),(14,.int .i64 (allE S L Fs)),(15,.int .i64 (oneE S L Fs cap)),(16,.pointer (some ⟨A16,0,none⟩)),(17,.pointer (some ⟨A17,0,none⟩)),(18,.slice none 0 0)] a) (sel [1,1,1,1,1,1,1,1,1,1,1,1,1,0,1,2,0] leM) (fun a w=>(LQ wM A16 A17 (sumV S L Fs cap) (0,0) w)∧Fr 160 [(4,v4),(5,v5),(6,v6),(7,.pointer (some ⟨A7,0,none⟩)),(8,.pointer (some ⟨A8,0,none⟩)),(9,.int .i64 (oneE S L Fs cap)),(10,.pointer (some ⟨A10,0,none⟩)),(11,.int .i64 (allE S L Fs)),(12,v12),(13,.int .i64 (allE S L Fs)),(14,.int .i64 (allE S L Fs)),(15,.int .i64 (oneE S L Fs cap)),(16,.pointer (some ⟨A16,0,none⟩)),(17,.pointer (some ⟨A17,0,none⟩)),(18,.slice none 0 0),(20,.int .i64 (refX S L).sum)] a) No 9 No:=by
 refine T3.leaf ?_;rintro Q JS JX JT K hS hK hX hE hT hR a w ⟨hW,⟨fr,rfl,q4,q5,q6,q7,q8,q9,q10,q11,q12,q13,q14,q15,q16,q17,q18,_⟩⟩;have hb:=hW.b;have K:=hM.k.below hb;have HC:=Lib.hid (bestOf_ref v4 S v5 L w K.s K.c (scp_of g.sc) hN.s hN.l);have HW:=Lib.hid hW;obtain⟨p12,c12,e12⟩:=hM.r12.shape;subst e12;obtain⟨p4,c4,e4⟩:=hM.k.s.r.shape;subst e4;obtain⟨p5,c5,e5⟩:=hM.k.c.r.shape;subst e5;obtain⟨p6,c6,e6⟩:=hM.k.f.r.shape;subst e6;clear hM hW hb K g;generalize oneE S L Fs cap=eo at *;generalize allE S L Fs=ea at *;generalize sumV S L Fs cap=sv at *;generalize (refX S L).sum=rs at *;rw [fr_leM,fe q4,fe q5,fe q6,fe q7,fe q8,fe q9,fe q10,fe q11,fe q12,fe q13,fe q14,fe q15,fe q16,fe q17,fe q18];clear q4 q5 q6 q7 q8 q9 q10 q11 q12 q13 q14 q15 q16 q17 q18;conv=>arg 2;whnf
 go_wp2_with fail
 refine HC.out.mono ?_;rintro e w1 ⟨v9,rfl,ho,hb1⟩;have H1:=Lib.hid (HW.out.below hb1);obtain⟨p9,c9,e9⟩:=(Row.of_owns ho).shape;subst e9;clear hb1 ho;go_wp2_with fail
 refine Met.intro (hS _ _ ?_);exact⟨H1.out,Fr.of _ rfl ⟨rfl,rfl,rfl,rfl,rfl,rfl,rfl,rfl,rfl,rfl,rfl,rfl,rfl,rfl,rfl,rfl,trivial⟩⟩
end
theorem sep17 {w:World}{b1 b2 n k g:Nat}{v:Value}{xs ys:List Value}(h:w.ownsRow b1 9 1 v n xs)(h2:w.ownsRow b2 34 2 (.slice (some ⟨g,0,none⟩) k k) k ys):v.ownBlock≠some g:=by
 intro e;rcases h.2 with ⟨rfl,_⟩|⟨g1,cap1,cur1,rfl,_,hg1,_⟩
 ·cases e
 ·rcases h2.2 with ⟨h0,_⟩|⟨g2,cap2,cur2,hv,_,hg2,_⟩
  ·cases h0
  ·simp only [Value.slice.injEq,Option.some.injEq,Addr.mk.injEq]at hv;obtain⟨⟨rfl,_⟩,_,_⟩:=hv;simp [Value.ownBlock]at e;subst e;have h3:=hg1.symm.trans hg2;simp at h3
section
variable (n₀:Nat)(w0:World)(v4:Value)(S:List SlD)(v5:Value)(L:List ScD)(v6:Value)(Fs:List FlD)(A7:Nat)(cap:ByteArray)
theorem le17 (hN:LN S L Fs cap)(A8:Nat)(A10:Nat)(v12:Value)(wM:World)(hM:LP n₀ w0 v4 S v5 L v6 Fs A7 cap A8 A10 v12 wM)(A16 A17:Nat)(g:AlG S L Fs):T3 Tryz.prog (fun a w=>(LQ wM A16 A17 (sumV S L Fs cap) (0,0) w)∧Fr 160 [(4,v4),(5,v5),(6,v6),(7,.pointer (some ⟨A7,0,none⟩)),(8,.pointer (some ⟨A8,0,none⟩)),(9,.int .i64 (oneE S L Fs cap)),(10,.pointer (some ⟨A10,0,none⟩)),(11,.int .i64 (allE S L Fs)),(12,v12),(13,.int .i64 (allE S L Fs)),(14,.int .i64 (allE S L Fs)),(15,.int .i64 (oneE S L Fs cap)),(16,.pointer (some ⟨A16,0,none⟩)),(17,.pointer (some ⟨A17,0,none⟩)),(18,.slice none 0 0),(20,.int .i64 (refX S L).sum)] a) (sel [1,1,1,1,1,1,1,1,1,1,1,1,1,0,1,2,1] leM) (fun a w=>∃(v18:Value),(LQ wM A16 A17 (sumV S L Fs cap) (leftV S L Fs) w∧Row w 0 1 v18 (benV S L Fs).length (cellsOf encSt (benV S L Fs)))∧Fr 160 [(4,v4),(5,v5),(6,v6),(7,.pointer (some ⟨A7,0,none⟩)),(8,.pointer (some ⟨A8,0,none⟩)),(9,.int .i64 (oneE S L Fs cap)),(10,.pointer (some ⟨A10,0,none⟩)),(11,.int .i64 (allE S L Fs)),(12,v12),(13,.int .i64 (allE S L Fs)),(14,.int .i64 (allE S L Fs)),(15,.int .i64 (oneE S L Fs cap)),(16,.pointer (some ⟨A16,0,none⟩)),(17,.pointer (some ⟨A17,0,none⟩)),(18,v18)] a) No 9 No:=by
 refine T3.leaf ?_;rintro Q JS JX JT K hS hK hX hE hT hR a w ⟨hW,⟨fr,rfl,q4,q5,q6,q7,q8,q9,q10,q11,q12,q13,q14,q15,q16,q17,q18,q20,_⟩⟩;have hb:=hW.b;have K:=hM.k.below hb;have hsb:=sumK_b (scp_of g.sc) (cap:=⟨#[]⟩) g.inF Fs.length (Nat.le_refl _);have hlb:=luS_b (scp_of g.sc) (S:=S) S.length 0 (fun _=>false);have hrx:refX S L=luS S L S.length 0 (fun _=>false):=rfl;rw [←hrx]at hlb;have hn12:=hN.f;have hn4:=hN.s;have HC:=Lib.hid (sumOf_ref w v5 v6 L Fs ⟨#[]⟩ K.c K.f (rise_of g.sc) (scp_of g.sc) g.inF);have HO:=Lib.hid (fun w'=>ofHundredths_ref ((refX S L).sum-sumK L Fs ⟨#[]⟩ Fs.length) w' (by omega) (by omega));have HBn:=Lib.hid (fun(w':World) (b:Below w.heap.size w w')=>benchOf_ref w' v5 v6 L Fs (K.c.below b) (K.f.below b));have HV:=Lib.hid (leftV_of g (by omega));have HE:=Lib.hid (show benV S L Fs=benchK L Fs L.length by unfold benV;rw [if_pos g.a]);have HW:=Lib.hid hW;obtain⟨p12,c12,e12⟩:=hM.r12.shape;subst e12;obtain⟨p4,c4,e4⟩:=hM.k.s.r.shape;subst e4;obtain⟨p5,c5,e5⟩:=hM.k.c.r.shape;subst e5;obtain⟨p6,c6,e6⟩:=hM.k.f.r.shape;subst e6;clear hM hW hb K g hrx;generalize oneE S L Fs cap=eo at *;generalize allE S L Fs=ea at *;generalize sumV S L Fs cap=sv at *;generalize leftV S L Fs=lv at *;generalize benV S L Fs=bv at *;generalize (refX S L).sum=rs at *;generalize sumK L Fs ⟨#[]⟩ Fs.length=sk at *;rw [fr_leM,fe q4,fe q5,fe q6,fe q7,fe q8,fe q9,fe q10,fe q11,fe q12,fe q13,fe q14,fe q15,fe q16,fe q17,fe q18,fe q20];clear q4 q5 q6 q7 q8 q9 q10 q11 q12 q13 q14 q15 q16 q17 q18 q20;conv=>arg 2;whnf
 go_wp2_with fail
 refine HC.out.mono ?_;rintro e w1 ⟨rfl,hb1⟩;have B1:=Lib.hid hb1;clear hb1;go_wp2_with fail
 refine(HO.out w1).mono ?_;rintro e w2 ⟨rfl,hb2⟩;have B2:=Lib.hid (B1.out.trans (hb2.mono B1.out.size));clear hb2;go_wp2_with fail
 refine(HBn.out w2 B2.out).mono ?_;rintro e w3 ⟨v18,rfl,hbo⟩;have H3:=HW.out.below (B2.out.trans (hbo.bel.mono B2.out.size));have HF:=H3.put2 (ofHn (rs-sk)) (ofHd (rs-sk));rw [HV.out]at HF;have hr:=(Row.of_owns hbo.own).mono (Nat.zero_le _);rw [←HE.out]at hr;have o3:=hbo.own.kept (grown_setCell w3 A17 0 (.int .i64 (ofHn (rs-sk)))) (.inr (sep17 hbo.own H3.o2));have o4:=o3.kept (grown_setCell (w3.setCell ⟨A17,0,none⟩ (.int .i64 (ofHn (rs-sk)))) A17 1 (.int .i64 (ofHd (rs-sk)))) (.inr (sep17 hbo.own H3.o2));have hr4:=(Row.of_owns o4).mono (Nat.zero_le _);rw [←HE.out]at hr4;have HFF:=Lib.hid (And.intro HF hr4);obtain⟨r0,r1⟩:=frac_cells H3.o2;have f0:=owns_frozenC H3.o2 0;have f1:=owns_frozenC H3.o2 1;obtain⟨p18,c18,e18⟩:=hr.shape;subst e18;clear hbo H3 HF hr o3 o4 hr4;go_wp2_with fail
 refine Met.intro (hS _ _ ?_);exact⟨_,HFF.out,Fr.of _ rfl ⟨rfl,rfl,rfl,rfl,rfl,rfl,rfl,rfl,rfl,rfl,rfl,rfl,rfl,rfl,rfl,trivial⟩⟩
set_option maxHeartbeats 4000000 in
theorem le18 (hN:LN S L Fs cap)(A8:Nat)(A10:Nat)(v12:Value)(wM:World)(hM:LP n₀ w0 v4 S v5 L v6 Fs A7 cap A8 A10 v12 wM)(A16 A17:Nat)(v18:Value):T3 Tryz.prog (fun a w=>(LQ wM A16 A17 (sumV S L Fs cap) (leftV S L Fs) w∧Row w 0 1 v18 (benV S L Fs).length (cellsOf encSt (benV S L Fs)))∧Fr 160 [(4,v4),(5,v5),(6,v6),(7,.pointer (some ⟨A7,0,none⟩)),(8,.pointer (some ⟨A8,0,none⟩)),(9,.int .i64 (oneE S L Fs cap)),(10,.pointer (some ⟨A10,0,none⟩)),(11,.int .i64 (allE S L Fs)),(12,v12),(13,.int .i64 (allE S L Fs)),(14,.int .i64 (allE S L Fs)),(15,.int .i64 (oneE S L Fs cap)),(16,.pointer (some ⟨A16,0,none⟩)),(17,.pointer (some ⟨A17,0,none⟩)),(18,v18)] a) (sel [1,1,1,1,1,1,1,1,1,1,1,1,1,1,0] leM) (fun a w=>(Below n₀ w0 w)∧Fr 160 [(2,.bool true)] a) No 9 No:=by
 refine T3.leaf ?_;rintro Q JS JX JT K hS hK hX hE hT hR a w ⟨hW,⟨fr,rfl,q4,q5,q6,q7,q8,q9,q10,q11,q12,q13,q14,q15,q16,q17,q18,_⟩⟩;have hb:=hW.1.b;have HM:=Lib.hid (fun(w':World) (b:Below w.heap.size w w')=>hM.below (hb.trans (b.mono hb.size)));have HQ:=Lib.hid (fun(w':World) (b:Below w.heap.size w w')=>hW.1.below b);have M0:=hM.below hb;obtain⟨t8,t9⟩:=M0.f8;obtain⟨t10,t11⟩:=M0.f10;obtain⟨t16,t17⟩:=frac_cells hW.1.o1;obtain⟨t18,t19⟩:=frac_cells hW.1.o2;have HCE:=Lib.hid (fun(w':World) (b:Below w.heap.size w w') (A i:Nat) (x:Value) (hx:w.cell? ⟨A,i,none⟩=some x)=>(b.cell (p:=⟨A,i,none⟩) (World.block_lt_of_cell? w _ hx)).trans hx);have hr18:=hW.2;have HE:=Lib.hid (fun(w':World) (b:Below w.heap.size w w')=>equal_strC v12 v18 _ _ 0 0 w' (M0.r12.below b) (hr18.below b));have HBL:=Lib.hid (fun(w':World) (b:Below w.heap.size w w')=>(hM.below (hb.trans (b.mono hb.size))).k.bel);have H1:=Lib.hid (fun(w':World) (b:Below w.heap.size w w')=>slots_prog w' v4 S (M0.k.s.below b));have H2:=Lib.hid (fun(w':World) (b:Below w.heap.size w w')=>slots_ref w' v4 S (M0.k.s.below b));have H3:=Lib.hid (fun(w':World) (b:Below w.heap.size w w')=>scorers_prog w' v5 L (M0.k.c.below b));have H4:=Lib.hid (fun(w':World) (b:Below w.heap.size w w')=>scorers_ref w' v5 L (M0.k.c.below b));have H5:=Lib.hid (fun(w':World) (b:Below w.heap.size w w')=>fills_prog w' v4 v5 v6 S L Fs (M0.k.s.below b) (M0.k.c.below b) (M0.k.f.below b));obtain⟨p18,c18,e18⟩:=hr18.shape;subst e18;obtain⟨p12,c12,e12⟩:=hM.r12.shape;subst e12;obtain⟨p4,c4,e4⟩:=hM.k.s.r.shape;subst e4;obtain⟨p5,c5,e5⟩:=hM.k.c.r.shape;subst e5;obtain⟨p6,c6,e6⟩:=hM.k.f.r.shape;subst e6;clear hM hW hb M0 hr18;generalize oneE S L Fs cap=eo at *;generalize allE S L Fs=ea at *;generalize sumV S L Fs cap=sv at *;generalize leftV S L Fs=lv at *;generalize benV S L Fs=bv at *;generalize slotsE S=e1 at *;generalize scorersE L=e2 at *;obtain⟨s1,s2⟩:=sv;obtain⟨l1,l2⟩:=lv;simp only at t8 t9 t10 t11 t16 t17 t18 t19;rw [fr_leM,fe q4,fe q5,fe q6,fe q7,fe q8,fe q9,fe q10,fe q11,fe q12,fe q13,fe q14,fe q15,fe q16,fe q17,fe q18];clear q4 q5 q6 q7 q8 q9 q10 q11 q12 q13 q14 q15 q16 q17 q18;conv=>arg 2;whnf
 go_wp2_with fail
 refine(H1.out w (Below.refl _ _)).mono ?_;rintro e w1 ⟨rfl,hb⟩;have B1:=Lib.hid hb;clear hb;go_wp2_with fail
 refine(H2.out w1 B1.out).mono ?_;rintro e w2 ⟨rfl,hb⟩;have B2:=Lib.hid (B1.out.trans (hb.mono B1.out.size));clear hb;go_wp2_with fail
 refine(H3.out w2 B2.out).mono ?_;rintro e w3 ⟨rfl,hb⟩;have B3:=Lib.hid (B2.out.trans (hb.mono B2.out.size));clear hb;go_wp2_with fail
 refine(H4.out w3 B3.out).mono ?_;rintro e w4 ⟨rfl,hb⟩;have B4:=Lib.hid (B3.out.trans (hb.mono B3.out.size));clear hb;go_wp2_with fail
 refine(H5.out w4 B4.out).mono ?_;rintro e w5 ⟨rfl,hb⟩;have B5:=Lib.hid (B4.out.trans (hb.mono B4.out.size));clear hb;have u8:=HCE.out w5 B5.out _ _ _ t8;have u9:=HCE.out w5 B5.out _ _ _ t9;have u10:=HCE.out w5 B5.out _ _ _ t10;have u11:=HCE.out w5 B5.out _ _ _ t11;have u16:=HCE.out w5 B5.out _ _ _ t16;have u17:=HCE.out w5 B5.out _ _ _ t17;have u18:=HCE.out w5 B5.out _ _ _ t18;have u19:=HCE.out w5 B5.out _ _ _ t19;clear t8 t9 t10 t11 t16 t17 t18 t19;go_wp2_with fail
 refine(HE.out w5 B5.out).mono ?_;rintro e w6 ⟨rfl,hb⟩;have B6:=Lib.hid (B5.out.trans (hb.mono B5.out.size));clear hb;go_wp2_with fail
 refine(scored_any w6).mono ?_;rintro e w7 ⟨rfl,hb⟩;have HL:=Lib.hid (HBL.out w7 (B6.out.trans (hb.mono B6.out.size)));clear hb;go_wp2_with fail
 refine Met.intro (hS _ _ ?_);exact⟨HL.out,Fr.of _ rfl ⟨rfl,trivial⟩⟩
theorem le_end (hN:LN S L Fs cap)(A8:Nat)(A10:Nat)(v12:Value):T3 Tryz.prog (fun a w=>(LP n₀ w0 v4 S v5 L v6 Fs A7 cap A8 A10 v12 w)∧Fr 160 [(4,v4),(5,v5),(6,v6),(7,.pointer (some ⟨A7,0,none⟩)),(8,.pointer (some ⟨A8,0,none⟩)),(9,.int .i64 (oneE S L Fs cap)),(10,.pointer (some ⟨A10,0,none⟩)),(11,.int .i64 (allE S L Fs)),(12,v12),(13,.int .i64 (allE S L Fs)),(14,.int .i64 (allE S L Fs)),(15,.int .i64 (oneE S L Fs cap))] a) (sel [1,1,1,1,1,1,1,1,1,1] leM) No No 9 (fun a w=>Below n₀ w0 w∧Fr 160 [(2,.bool true)] a):=by
 refine T3.pre (R:=fun a w=>∃wM:World,(LP n₀ w0 v4 S v5 L v6 Fs A7 cap A8 A10 v12 wM)∧(IsW wM w)∧Fr 160 [(4,v4),(5,v5),(6,v6),(7,.pointer (some ⟨A7,0,none⟩)),(8,.pointer (some ⟨A8,0,none⟩)),(9,.int .i64 (oneE S L Fs cap)),(10,.pointer (some ⟨A10,0,none⟩)),(11,.int .i64 (allE S L Fs)),(12,v12),(13,.int .i64 (allE S L Fs)),(14,.int .i64 (allE S L Fs)),(15,.int .i64 (oneE S L Fs cap))] a) (T3.ex fun wM=>T3.pure fun hM=>?_) (fun a w ⟨hW,hF⟩=>⟨w,hW,rfl,hF⟩);refine T3.seq (s:=(sel [1,1,1,1,1,1,1,1,1,1,0] leM)) (c:=(sel [1,1,1,1,1,1,1,1,1,1,1] leM)) (T3.noT (le11 n₀ w0 v4 S v5 L v6 Fs A7 cap hN A8 A10 v12 wM hM)) ?_;refine T3.ex fun A16=>T3.ex fun A17=>?_
 refine T3.seq (s:=(sel [1,1,1,1,1,1,1,1,1,1,1,0] leM)) (c:=(sel [1,1,1,1,1,1,1,1,1,1,1,1] leM)) (T3.noT (le12 n₀ w0 v4 S v5 L v6 Fs A7 cap hN A8 A10 v12 wM hM A16 A17)) ?_;refine T3.seq (s:=(sel [1,1,1,1,1,1,1,1,1,1,1,1,0] leM)) (c:=(sel [1,1,1,1,1,1,1,1,1,1,1,1,1] leM)) (S:=fun a w=>(LQ wM A16 A17 (sumV S L Fs cap) (0,0) w)∧Fr 160 [(4,v4),(5,v5),(6,v6),(7,.pointer (some ⟨A7,0,none⟩)),(8,.pointer (some ⟨A8,0,none⟩)),(9,.int .i64 (oneE S L Fs cap)),(10,.pointer (some ⟨A10,0,none⟩)),(11,.int .i64 (allE S L Fs)),(12,v12),(13,.int .i64 (allE S L Fs)),(14,.int .i64 (allE S L Fs)),(15,.int .i64 (oneE S L Fs cap)),(16,.pointer (some ⟨A16,0,none⟩)),(17,.pointer (some ⟨A17,0,none⟩)),(18,.slice none 0 0)] a) ?_ ?_
 ·refine T3.test (s:=(sel [1,1,1,1,1,1,1,1,1,1,1,1,0,0] leM)) (x:=(sel [1,1,1,1,1,1,1,1,1,1,1,1,0,1,2] leM)) (y:=.skip) (C:=fun q=>(q=(oneE S L Fs cap==0))) (W:=fun w=>LQ wM A16 A17 (0,0) (0,0) w) (by decide) (T3.noT (le13 n₀ w0 v4 S v5 L v6 Fs A7 cap hN A8 A10 v12 wM hM A16 A17)) ?_ (T3.skip ?_)
  ·exact T3.pre (R:=fun a w=>(oneE S L Fs cap=0)∧(LQ wM A16 A17 (0,0) (0,0) w)∧Fr 160 [(4,v4),(5,v5),(6,v6),(7,.pointer (some ⟨A7,0,none⟩)),(8,.pointer (some ⟨A8,0,none⟩)),(9,.int .i64 (oneE S L Fs cap)),(10,.pointer (some ⟨A10,0,none⟩)),(11,.int .i64 (allE S L Fs)),(12,v12),(13,.int .i64 (allE S L Fs)),(14,.int .i64 (allE S L Fs)),(15,.int .i64 (oneE S L Fs cap)),(16,.pointer (some ⟨A16,0,none⟩)),(17,.pointer (some ⟨A17,0,none⟩)),(18,.slice none 0 0)] a) (T3.pure fun h1=>T3.noT (le14 n₀ w0 v4 S v5 L v6 Fs A7 cap hN A8 A10 v12 wM hM A16 A17 h1)) (fun a w ⟨hF,hq,hW⟩=>⟨by have:=hq.symm;simpa using this,hW,hF.tail⟩)
  ·rintro a w ⟨hq,hW,hF⟩;have hne:oneE S L Fs cap≠0:=by have:=hq.symm;simpa using this
   refine⟨?_,hF⟩;rw [←sumV_no hne];exact hW
 refine T3.seq (s:=(sel [1,1,1,1,1,1,1,1,1,1,1,1,1,0] leM)) (c:=(sel [1,1,1,1,1,1,1,1,1,1,1,1,1,1] leM)) (S:=fun a w=>∃(v18:Value),(LQ wM A16 A17 (sumV S L Fs cap) (leftV S L Fs) w∧Row w 0 1 v18 (benV S L Fs).length (cellsOf encSt (benV S L Fs)))∧Fr 160 [(4,v4),(5,v5),(6,v6),(7,.pointer (some ⟨A7,0,none⟩)),(8,.pointer (some ⟨A8,0,none⟩)),(9,.int .i64 (oneE S L Fs cap)),(10,.pointer (some ⟨A10,0,none⟩)),(11,.int .i64 (allE S L Fs)),(12,v12),(13,.int .i64 (allE S L Fs)),(14,.int .i64 (allE S L Fs)),(15,.int .i64 (oneE S L Fs cap)),(16,.pointer (some ⟨A16,0,none⟩)),(17,.pointer (some ⟨A17,0,none⟩)),(18,v18)] a) ?_ (T3.ex fun v18=>?_)
 ·refine T3.test (s:=(sel [1,1,1,1,1,1,1,1,1,1,1,1,1,0,0] leM)) (x:=(sel [1,1,1,1,1,1,1,1,1,1,1,1,1,0,1,2] leM)) (y:=.skip) (C:=fun q=>(q=(allE S L Fs==0))) (W:=fun w=>LQ wM A16 A17 (sumV S L Fs cap) (0,0) w) (by decide) (T3.noT (le15 n₀ w0 v4 S v5 L v6 Fs A7 cap hN A8 A10 v12 wM hM A16 A17)) ?_ (T3.skip ?_)
  ·refine T3.pre (R:=fun a w=>(allE S L Fs=0)∧(LQ wM A16 A17 (sumV S L Fs cap) (0,0) w)∧Fr 160 [(4,v4),(5,v5),(6,v6),(7,.pointer (some ⟨A7,0,none⟩)),(8,.pointer (some ⟨A8,0,none⟩)),(9,.int .i64 (oneE S L Fs cap)),(10,.pointer (some ⟨A10,0,none⟩)),(11,.int .i64 (allE S L Fs)),(12,v12),(13,.int .i64 (allE S L Fs)),(14,.int .i64 (allE S L Fs)),(15,.int .i64 (oneE S L Fs cap)),(16,.pointer (some ⟨A16,0,none⟩)),(17,.pointer (some ⟨A17,0,none⟩)),(18,.slice none 0 0)] a) (T3.pure fun ha=>?_) (fun a w ⟨hF,hq,hW⟩=>⟨by have:=hq.symm;simpa using this,hW,hF.tail⟩);exact T3.seq (s:=(sel [1,1,1,1,1,1,1,1,1,1,1,1,1,0,1,2,0] leM)) (c:=(sel [1,1,1,1,1,1,1,1,1,1,1,1,1,0,1,2,1] leM)) (T3.noT (le16 n₀ w0 v4 S v5 L v6 Fs A7 cap hN A8 A10 v12 wM hM A16 A17 ⟨ha⟩)) (T3.noT (le17 n₀ w0 v4 S v5 L v6 Fs A7 cap hN A8 A10 v12 wM hM A16 A17 ⟨ha⟩))
  ·rintro a w ⟨hq,hW,hF⟩;have hne:allE S L Fs≠0:=by have:=hq.symm;simpa using this
   refine⟨_,⟨?_,?_⟩,hF⟩
   ·rw [←leftV_no hne];exact hW
   ·have e:benV S L Fs=[]:=by unfold benV;rw [if_neg hne]
    rw [e];exact⟨rfl,.inl ⟨rfl,rfl⟩⟩
 exact T3.seq (s:=(sel [1,1,1,1,1,1,1,1,1,1,1,1,1,1,0] leM)) (c:=.ret) (T3.noT (le18 n₀ w0 v4 S v5 L v6 Fs A7 cap hN A8 A10 v12 wM hM A16 A17 v18)) (T3.ret (fun a w q=>q))
end
theorem counted_law (v:Value)(n:Nat)(zs:List Int)(w0:World)(h:SRow w0 v n zs w0.heap.size):
  Calls Tryz.prog 3 #[v] w0 fun e w'=>e=.returned (.bool true)∧Below w0.heap.size w0 w':=by
 have hall:T3 Tryz.prog (fun a w=>IsW w0 w∧Fr 160 [(0,v)] a) leM No No 9 (fun a w=>Below w0.heap.size w0 w∧Fr 160 [(2,.bool true)] a):=by
  refine T3.seq (s:=(sel [0] leM)) (c:=(sel [1] leM)) (T3.noT (le0 v w0)) ?_;refine T3.seq (s:=(sel [1,0] leM)) (c:=(sel [1,1] leM)) (T3.noT (le1 v n zs w0 h)) ?_;refine T3.seq (s:=(sel [1,1,0] leM)) (c:=(sel [1,1,1] leM)) (T3.noT (le2 _ w0)) ?_;refine T3.ex fun ws=>T3.ex fun wc=>T3.ex fun v4=>T3.ex fun S=>T3.ex fun v5=>T3.ex fun L=>T3.pure fun hn=>?_
  refine T3.seq (s:=(sel [1,1,1,0] leM)) (c:=(sel [1,1,1,1] leM)) (T3.noT (le3 _ w0 ws wc v4 S v5 L hn)) ?_;refine T3.ex fun v6=>T3.ex fun Fs=>T3.ex fun A7=>T3.ex fun cap=>T3.pure fun hN=>?_
  refine T3.seq (s:=(sel [1,1,1,1,0] leM)) (c:=(sel [1,1,1,1,1] leM)) (T3.noT (le4 _ w0 v4 S v5 L v6 Fs A7 cap hN)) ?_;refine T3.ex fun A8=>?_
  refine T3.seq (s:=(sel [1,1,1,1,1,0] leM)) (c:=(sel [1,1,1,1,1,1] leM)) (T3.noT (le5 _ w0 v4 S v5 L v6 Fs A7 cap hN A8)) ?_;refine T3.ex fun A10=>?_
  refine T3.seq (s:=(sel [1,1,1,1,1,1,0] leM)) (c:=(sel [1,1,1,1,1,1,1] leM)) (T3.noT (le6 _ w0 v4 S v5 L v6 Fs A7 cap hN A8 A10)) ?_;refine T3.ex fun v12=>?_
  refine T3.seq (s:=(sel [1,1,1,1,1,1,1,0] leM)) (c:=(sel [1,1,1,1,1,1,1,1] leM)) (T3.noT (le7 _ w0 v4 S v5 L v6 Fs A7 cap hN A8 A10 v12)) ?_;refine T3.seq (s:=(sel [1,1,1,1,1,1,1,1,0] leM)) (c:=(sel [1,1,1,1,1,1,1,1,1] leM)) (S:=fun a w=>(LP w0.heap.size w0 v4 S v5 L v6 Fs A7 cap A8 A10 v12 w)∧Fr 160 [(4,v4),(5,v5),(6,v6),(7,.pointer (some ⟨A7,0,none⟩)),(8,.pointer (some ⟨A8,0,none⟩)),(9,.int .i64 (oneE S L Fs cap)),(10,.pointer (some ⟨A10,0,none⟩)),(11,.int .i64 (allE S L Fs)),(12,v12),(13,.int .i64 (allE S L Fs)),(14,.int .i64 (allE S L Fs))] a) ?_ ?_
  ·refine T3.test (s:=(sel [1,1,1,1,1,1,1,1,0,0] leM)) (x:=(sel [1,1,1,1,1,1,1,1,0,1,2] leM)) (y:=.skip) (C:=fun q=>(q=(ssE S L==0))) (W:=fun w=>LP w0.heap.size w0 v4 S v5 L v6 Fs A7 cap A8 A10 v12 w) (by decide) (T3.noT (le8 _ w0 v4 S v5 L v6 Fs A7 cap hN A8 A10 v12)) ?_ (T3.skip ?_)
   ·exact T3.pre (R:=fun a w=>(ssE S L=0)∧(LP w0.heap.size w0 v4 S v5 L v6 Fs A7 cap A8 A10 v12 w)∧Fr 160 [(4,v4),(5,v5),(6,v6),(7,.pointer (some ⟨A7,0,none⟩)),(8,.pointer (some ⟨A8,0,none⟩)),(9,.int .i64 (oneE S L Fs cap)),(10,.pointer (some ⟨A10,0,none⟩)),(11,.int .i64 (allE S L Fs)),(12,v12),(13,.int .i64 (allE S L Fs)),(14,.int .i64 (ssE S L))] a) (T3.pure fun hz=>T3.noT (le9 _ w0 v4 S v5 L v6 Fs A7 cap hN A8 A10 v12 hz)) (fun a w ⟨hF,hq,hW⟩=>⟨by have:=hq.symm;simpa using this,hW,hF.tail⟩)
   ·rintro a w ⟨hq,hW,hF⟩;have hne:ssE S L≠0:=by have:=hq.symm;simpa using this
    have e:allE S L Fs=ssE S L:=allE_ss hne;refine⟨hW,?_⟩;rw [e]at hF ⊢;exact hF
  refine T3.seq (s:=(sel [1,1,1,1,1,1,1,1,1,0] leM)) (c:=(sel [1,1,1,1,1,1,1,1,1,1] leM)) (T3.noT (le10 _ w0 v4 S v5 L v6 Fs A7 cap hN A8 A10 v12)) ?_;exact le_end _ w0 v4 S v5 L v6 Fs A7 cap hN A8 A10 v12
 go_enter Tryz.func3,Tryz.ntmps3
 refine T3.done (s:=leM) hall ⟨rfl,Fr.of _ rfl ⟨rfl,trivial⟩⟩ ?_;rintro a w ⟨hb,fr,rfl,q2,_⟩;rw [fr_leM,fe q2]
 go_ret
 exact⟨rfl,hb⟩
end Go.Proofs.YtnmdpphddimfbaaGreat
