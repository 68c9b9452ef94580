/-
  Contracts and lemmas towards the statement, of several parts; each part says ahead of it what it holds and under which conditions.
-/
import Derived.Test.YtnmdpphddimfbaaGreatMg6
import Derived.Test.YtnmdpphddimfbaaGreatMg3
import Derived.Test.YtnmdpphddimfbaaGreatMg4
import Derived.Lib.SliceRun
import Derived.Maps.Own
import Derived.WideKeyArr
set_option maxRecDepth 100000
set_option maxHeartbeats 1000000
set_option linter.unusedSectionVars false
/-
  The points of fills, in hundredths. Conditions: scorers rise and their points are right; who is in a slot is a scorer.
-/
set_option linter.unusedVariables false
namespace Go.Proofs.YtnmdpphddimfbaaGreat
open Go.RowKit Go.Bw
def hxS (L:List ScD)(x:ByteArray):Int:=hund (geta L (scIdx L x)).num (geta L (scIdx L x)).den
def valF (L:List ScD)(cap:ByteArray)(x:FlD):Int:=if x.pl=ByteArray.empty then 0 else if x.pl=cap then hxS L x.pl*2 else hxS L x.pl
def sumK (L:List ScD)(F:List FlD)(cap:ByteArray):Nat→Int
 | 0=>0
 | n+1=>sumK L F cap n+valF L cap (geta F (n:Int))
/-- Who is in a slot is a scorer; names are short. -/
structure InF (L:List ScD)(F:List FlD):Prop where
 h:∀x∈F,x.pl≠ByteArray.empty→¬scIdx L x.pl<0
 n:F.length≤12
theorem hxS_b {L:List ScD}(hp:ScP L){x:ByteArray}(h:¬scIdx L x<0):-1000000≤hxS L x∧hxS L x≤1000000:=by
 have h1:=sc_mem h;have:=hp.h _ (geta_mem (i:=scIdx L x) (by omega) h1);exact⟨this.2.2.2.2.1,this.2.2.2.2.2⟩
theorem valF_b {L:List ScD}(hp:ScP L){x:FlD}{cap:ByteArray}(h:x.pl≠ByteArray.empty→¬scIdx L x.pl<0):-2000000≤valF L cap x∧valF L cap x≤2000000:=by
 unfold valF
 split
 ·decide
 ·rename_i hx
  have:=hxS_b hp (h hx)
  split <;> omega
theorem sumK_b {L:List ScD}(hp:ScP L){F:List FlD}{cap:ByteArray}(h:InF L F):∀n:Nat,n≤F.length→-2000000*n≤sumK L F cap n∧sumK L F cap n≤2000000*n
 | 0,_=>by simp [sumK]
 | n+1,hn=>by
  have h1:=sumK_b hp (cap:=cap) h n (by omega);have h2:=valF_b hp (cap:=cap) (h.h _ (geta_mem (l:=F) (i:=(n:Int)) (by omega) (by omega)));unfold sumK;omega
noncomputable def lsP:Code:=(Tryz.f48.body).getD .skip
theorem fr_lsP (f:Nat→Value):frame 40 f=⟨#[f 0,f 1,f 2,f 3,f 4,f 5,f 6,f 7,f 8,f 9,f 10,f 11,f 12,f 13,f 14,f 15,f 16,f 17,f 18,f 19,f 20,f 21,f 22,f 23,f 24,f 25,f 26,f 27,f 28,f 29,f 30,f 31,f 32,f 33,f 34,f 35,f 36,f 37,f 38,f 39],[]⟩:=by rfl
section
variable (w0:World)(vl vf:Value)(L:List ScD)(Fs:List FlD)(cap:ByteArray)(hl:ScH w0 vl L)(hf:FlH w0 vf Fs)(hr:ScRise L)(hp:ScP L)(hi:InF L Fs)
include cap hl hf hr hp hi
theorem lsp0:T3 Tryz.prog (fun a w=>(Below w0.heap.size w0 w)∧Fr 40 [(0,vl),(1,vf),(2,.string cap)] a) (sel [0] lsP) (fun a w=>(Below w0.heap.size w0 w)∧Fr 40 [(0,vl),(1,vf),(2,.string cap)] a) No 9 No:=by
 refine T3.leaf ?_;rintro Q JS JX JT K hS hK hX hE hT hR a w ⟨hW,⟨fr,rfl,q0,q1,q2,_⟩⟩;have HW:=Lib.hid hW;obtain⟨p1,c1,rfl⟩:=hl.r.shape;obtain⟨p2,c2,rfl⟩:=hf.r.shape;clear hW;rw [fr_lsP,fe q0,fe q1,fe q2];clear q0 q1 q2;conv=>arg 2;whnf
 go_wp2_with fail
 refine Met.intro (hS _ _ ?_);exact⟨HW.out,Fr.r rfl rfl⟩
theorem lsp1:T3 Tryz.prog (fun a w=>(Below w0.heap.size w0 w)∧Fr 40 [(0,vl),(1,vf),(2,.string cap)] a) (sel [1,0] lsP) (fun a w=>(Below w0.heap.size w0 w)∧Fr 40 [(0,vl),(1,vf),(2,.string cap),(7,.int .i64 0)] a) No 9 No:=by
 refine T3.leaf ?_;rintro Q JS JX JT K hS hK hX hE hT hR a w ⟨hW,⟨fr,rfl,q0,q1,q2,_⟩⟩;have HW:=Lib.hid hW;obtain⟨p1,c1,rfl⟩:=hl.r.shape;obtain⟨p2,c2,rfl⟩:=hf.r.shape;clear hW;rw [fr_lsP,fe q0,fe q1,fe q2];clear q0 q1 q2;conv=>arg 2;whnf
 go_wp2_with fail
 refine Met.intro (hS _ _ ?_);exact⟨HW.out,Fr.r rfl rfl⟩
theorem lsp2:T3 Tryz.prog (fun a w=>(Below w0.heap.size w0 w)∧Fr 40 [(0,vl),(1,vf),(2,.string cap),(7,.int .i64 0)] a) (sel [1,1,0,0] lsP) (fun a w=>(0≤(0:Int)∧(0:Int)≤Fs.length)∧(Below w0.heap.size w0 w)∧Fr 40 [(0,vl),(1,vf),(2,.string cap),(7,.int .i64 (sumK L Fs cap (0:Int).toNat)),(11,vf),(12,.int .i64 Fs.length),(13,.int .i64 0)] a) No 9 No:=by
 refine T3.leaf ?_;rintro Q JS JX JT K hS hK hX hE hT hR a w ⟨hW,⟨fr,rfl,q0,q1,q2,q7,_⟩⟩;have hn:=hi.n;have HW:=Lib.hid hW;obtain⟨p1,c1,rfl⟩:=hl.r.shape;obtain⟨p2,c2,rfl⟩:=hf.r.shape;clear hW;rw [fr_lsP,fe q0,fe q1,fe q2,fe q7];clear q0 q1 q2 q7;conv=>arg 2;whnf
 go_wp2_with fail
 refine Met.intro (hS _ _ ?_);exact⟨⟨by omega,by omega⟩,HW.out,Fr.r rfl rfl⟩
section
variable (k:Nat)(hk:k<Fs.length)
include hk
theorem lsp4:T3 Tryz.prog (fun a w=>(Below w0.heap.size w0 w)∧Fr 40 [(0,vl),(1,vf),(2,.string cap),(7,.int .i64 (sumK L Fs cap k)),(11,vf),(12,.int .i64 Fs.length),(13,.int .i64 (k:Int))] a) (sel [1,1,0,1,4,4,1,1,0,4,0] lsP) (fun a w=>∃(g:Nat),(Below w0.heap.size w0 w∧FlB w g (geta Fs (k:Int)))∧Fr 40 [(0,vl),(1,vf),(2,.string cap),(7,.int .i64 (sumK L Fs cap k)),(9,.pointer (some ⟨g,0,none⟩)),(11,vf),(12,.int .i64 Fs.length),(13,.int .i64 (k:Int))] a) No 9 No:=by
 refine T3.leaf ?_;rintro Q JS JX JT K hS hK hX hE hT hR a w ⟨hW,⟨fr,rfl,q0,q1,q2,q7,q11,q12,q13,_⟩⟩;have hR:=(hf.below hW).r;have HW:=Lib.hid hW;obtain⟨p1,c1,rfl⟩:=hl.r.shape;obtain⟨p2,c2,rfl⟩:=hf.r.shape;obtain⟨bz,off,rfl,hnc,hcm,hcell⟩:=Row.nonnil hR (by omega);have t0:=Row.elAt encFl_length hcell (k:=(k:Int)) (by omega) (by omega) 0 _ (by decide) rfl;have t1:=Row.elAt encFl_length hcell (k:=(k:Int)) (by omega) (by omega) 1 _ (by decide) rfl;rw [Int.toNat_natCast]at t0 t1;rw [Nat.add_zero]at t0;have HB:=Lib.hid (FlB.new w (geta Fs (k:Int)) 49);have HA:=Lib.hid (fun o=>(Below.refl w.heap.size w).alloc (Nat.le_refl _) o);have hsz:=hW.size;clear hcell hR hW hl hf hp hi;generalize sumK L Fs cap k=sk at *;generalize geta Fs (k:Int)=x at *;rw [fr_lsP,fe q0,fe q1,fe q2,fe q7,fe q11,fe q12,fe q13];clear q0 q1 q2 q7 q11 q12 q13;conv=>arg 2;whnf
 go_wp2_with fail
 refine Met.intro (hS _ _ ?_);exact⟨_,⟨HW.out.trans ((HA.out _).mono hsz),HB.out⟩,Fr.r rfl rfl⟩
theorem lsp5 (g:Nat):T3 Tryz.prog (fun a w=>(Below w0.heap.size w0 w∧FlB w g (geta Fs (k:Int)))∧Fr 40 [(0,vl),(1,vf),(2,.string cap),(7,.int .i64 (sumK L Fs cap k)),(9,.pointer (some ⟨g,0,none⟩)),(11,vf),(12,.int .i64 Fs.length),(13,.int .i64 (k:Int))] a) (sel [1,1,0,1,4,4,1,1,0,4,1,0,0] lsP) (fun a w=>∃q,Fr 40 ((19,.bool q)::[(0,vl),(1,vf),(2,.string cap),(7,.int .i64 (sumK L Fs cap k)),(9,.pointer (some ⟨g,0,none⟩)),(11,vf),(12,.int .i64 Fs.length),(13,.int .i64 (k:Int))]) a∧((q=decide ((geta Fs (k:Int)).pl=ByteArray.empty))∧Below w0.heap.size w0 w∧FlB w g (geta Fs (k:Int)))) No 9 No:=by
 refine T3.leaf ?_;rintro Q JS JX JT K hS hK hX hE hT hR a w ⟨hW,⟨fr,rfl,q0,q1,q2,q7,q9,q11,q12,q13,_⟩⟩;have t1:=hW.2.c1;have HW:=Lib.hid hW;obtain⟨p1,c1,rfl⟩:=hl.r.shape;obtain⟨p2,c2,rfl⟩:=hf.r.shape;clear hW hl hf hp hi;generalize sumK L Fs cap k=sk at *
 by_cases hx:(geta Fs (k:Int)).pl=ByteArray.empty
 ·have HX:=Lib.hid (show true=decide ((geta Fs (k:Int)).pl=ByteArray.empty)by simp [hx]);rw [hx]at t1;clear hx;rw [fr_lsP,fe q0,fe q1,fe q2,fe q7,fe q9,fe q11,fe q12,fe q13];clear q0 q1 q2 q7 q9 q11 q12 q13;conv=>arg 2;whnf
  go_wp2_with fail
  refine Met.intro (hS _ _ ?_);exact⟨_,Fr.r rfl rfl,HX.out,HW.out⟩
 ·have HX:=Lib.hid (show false=decide ((geta Fs (k:Int)).pl=ByteArray.empty)by simp [hx]);have hx1:=toList_ne hx;have hx2:(geta Fs (k:Int)).pl.toList.isEmpty=false:=by
   have hh:=hx1;rw [show ByteArray.empty.toList=[]by rw [ByteArray.toList_eq];rfl]at hh;cases hl:(geta Fs (k:Int)).pl.toList with
   | nil=>rw [hl]at hh;exact absurd hh (by decide)
   | cons a b=>rfl
  clear hx;generalize (geta Fs (k:Int)).pl=x at *;rw [fr_lsP,fe q0,fe q1,fe q2,fe q7,fe q9,fe q11,fe q12,fe q13];clear q0 q1 q2 q7 q9 q11 q12 q13;conv=>arg 2;whnf
  go_wp2_with fail
  refine Met.intro (hS _ _ ?_);exact⟨_,Fr.r rfl rfl,HX.out,HW.out⟩
theorem lsp6 (g:Nat)(hne:(geta Fs (k:Int)).pl≠ByteArray.empty):T3 Tryz.prog (fun a w=>(Below w0.heap.size w0 w∧FlB w g (geta Fs (k:Int)))∧Fr 40 [(0,vl),(1,vf),(2,.string cap),(7,.int .i64 (sumK L Fs cap k)),(9,.pointer (some ⟨g,0,none⟩)),(11,vf),(12,.int .i64 Fs.length),(13,.int .i64 (k:Int))] a) (sel [1,1,0,1,4,4,1,1,0,4,1,1,0] lsP) (fun a w=>(Below w0.heap.size w0 w∧FlB w g (geta Fs (k:Int)))∧Fr 40 [(0,vl),(1,vf),(2,.string cap),(7,.int .i64 (sumK L Fs cap k)),(9,.pointer (some ⟨g,0,none⟩)),(10,.int .i64 (hxS L (geta Fs (k:Int)).pl)),(11,vf),(12,.int .i64 Fs.length),(13,.int .i64 (k:Int))] a) No 9 No:=by
 refine T3.leaf ?_;rintro Q JS JX JT K hS hK hX hE hT hR a w ⟨hW,⟨fr,rfl,q0,q1,q2,q7,q9,q11,q12,q13,_⟩⟩;have t1:=hW.2.c1;have hix:=hi.h _ (geta_mem (l:=Fs) (i:=(k:Int)) (by omega) (by omega)) hne;have hiL:=sc_mem hix;have hi0:0≤scIdx L (geta Fs (k:Int)).pl:=by omega
 have HC:=Lib.hid (find_prog w vl L (geta Fs (k:Int)).pl (hl.below hW.1) hr);have HR0:=Lib.hid (fun w' (b:Below w.heap.size w w')=>((hl.below hW.1).below b).r);obtain⟨d1,d2,n1,n2,m1,m2⟩:=hp.h _ (geta_mem (i:=scIdx L (geta Fs (k:Int)).pl) hi0 hiL);have HH:=Lib.hid (fun w'=>hundredths_prog (geta L (scIdx L (geta Fs (k:Int)).pl)).num (geta L (scIdx L (geta Fs (k:Int)).pl)).den w' (by omega) (by omega) d1 (by omega));have HQ:=Lib.hid (show hund (geta L (scIdx L (geta Fs (k:Int)).pl)).num (geta L (scIdx L (geta Fs (k:Int)).pl)).den=hxS L (geta Fs (k:Int)).pl from rfl);have HW:=Lib.hid hW;have hsz:=hW.1.size;obtain⟨p1,c1,rfl⟩:=hl.r.shape;obtain⟨p2,c2,rfl⟩:=hf.r.shape;clear hW hl hf hp hi hix;generalize sumK L Fs cap k=sk at *;generalize hxS L (geta Fs (k:Int)).pl=hh at *;generalize scIdx L (geta Fs (k:Int)).pl=ix at *;have HNE:=Lib.hid hne;clear hne;generalize hxg:(geta Fs (k:Int)).pl=x at *;have HXG:=Lib.hid hxg;clear hxg;rw [fr_lsP,fe q0,fe q1,fe q2,fe q7,fe q9,fe q11,fe q12,fe q13];clear q0 q1 q2 q7 q9 q11 q12 q13;conv=>arg 2;whnf
 go_wp2_with fail
 refine HC.out.mono ?_;rintro e w1 ⟨rfl,hb⟩;have H1:=Lib.hid (show Below w0.heap.size w0 w1∧FlB w1 g (geta Fs (k:Int))from⟨HW.out.1.trans (hb.mono hsz),HW.out.2.below hb⟩);have hsz1:=H1.out.1.size;obtain⟨b2,o2,rfl,hn2,hm2,hcl⟩:=Row.nonnil (HR0.out w1 hb) (by omega);have u2:=Row.elAt encSc_length hcl hi0 hiL 2 _ (by decide) rfl;have u3:=Row.elAt encSc_length hcl hi0 hiL 3 _ (by decide) rfl;clear hb hcl;generalize (geta L ix).num=nn at *;generalize (geta L ix).den=dd at *;go_wp2_with fail
 refine(HH.out w1).mono ?_;rw [HQ.out];rintro e w2 ⟨rfl,hb⟩;have H2:=Lib.hid (show Below w0.heap.size w0 w2∧FlB w2 g (geta Fs (k:Int))from⟨H1.out.1.trans (hb.mono hsz1),H1.out.2.below hb⟩);clear hb;go_wp2_with fail
 refine Met.intro (hS _ _ ?_);exact⟨H2.out,Fr.r rfl rfl⟩
theorem lsp7 (g:Nat):T3 Tryz.prog (fun a w=>(Below w0.heap.size w0 w∧FlB w g (geta Fs (k:Int)))∧Fr 40 [(0,vl),(1,vf),(2,.string cap),(7,.int .i64 (sumK L Fs cap k)),(9,.pointer (some ⟨g,0,none⟩)),(10,.int .i64 (hxS L (geta Fs (k:Int)).pl)),(11,vf),(12,.int .i64 Fs.length),(13,.int .i64 (k:Int))] a) (sel [1,1,0,1,4,4,1,1,0,4,1,1,1,0,0] lsP) (fun a w=>∃q,Fr 40 ((32,.bool q)::[(0,vl),(1,vf),(2,.string cap),(7,.int .i64 (sumK L Fs cap k)),(9,.pointer (some ⟨g,0,none⟩)),(10,.int .i64 (hxS L (geta Fs (k:Int)).pl)),(11,vf),(12,.int .i64 Fs.length),(13,.int .i64 (k:Int))]) a∧((q=decide ((geta Fs (k:Int)).pl=cap))∧Below w0.heap.size w0 w∧FlB w g (geta Fs (k:Int)))) No 9 No:=by
 refine T3.leaf ?_;rintro Q JS JX JT K hS hK hX hE hT hR a w ⟨hW,⟨fr,rfl,q0,q1,q2,q7,q9,q10,q11,q12,q13,_⟩⟩;have t1:=hW.2.c1;have HW:=Lib.hid hW;obtain⟨p1,c1,rfl⟩:=hl.r.shape;obtain⟨p2,c2,rfl⟩:=hf.r.shape;clear hW hl hf hp hi;generalize sumK L Fs cap k=sk at *;generalize hxS L (geta Fs (k:Int)).pl=hh at *
 by_cases hx:(geta Fs (k:Int)).pl=cap
 ·have HX:=Lib.hid (show true=decide ((geta Fs (k:Int)).pl=cap)by simp [hx]);rw [hx]at t1;clear hx;rw [fr_lsP,fe q0,fe q1,fe q2,fe q7,fe q9,fe q10,fe q11,fe q12,fe q13];clear q0 q1 q2 q7 q9 q10 q11 q12 q13;conv=>arg 2;whnf
  go_wp2_with fail
  refine Met.intro (hS _ _ ?_);exact⟨_,Fr.r rfl rfl,HX.out,HW.out⟩
 ·have HX:=Lib.hid (show false=decide ((geta Fs (k:Int)).pl=cap)by simp [hx]);have hx1:=toList_ne hx;clear hx;generalize (geta Fs (k:Int)).pl=x at *;rw [fr_lsP,fe q0,fe q1,fe q2,fe q7,fe q9,fe q10,fe q11,fe q12,fe q13];clear q0 q1 q2 q7 q9 q10 q11 q12 q13;conv=>arg 2;whnf
  go_wp2_with fail
  refine Met.intro (hS _ _ ?_);exact⟨_,Fr.r rfl rfl,HX.out,HW.out⟩
section
variable (g:Nat)(hne:(geta Fs (k:Int)).pl≠ByteArray.empty)
include g hne
theorem lsp8:T3 Tryz.prog (fun a w=>(Below w0.heap.size w0 w∧FlB w g (geta Fs (k:Int)))∧Fr 40 [(0,vl),(1,vf),(2,.string cap),(7,.int .i64 (sumK L Fs cap k)),(9,.pointer (some ⟨g,0,none⟩)),(10,.int .i64 (hxS L (geta Fs (k:Int)).pl)),(11,vf),(12,.int .i64 Fs.length),(13,.int .i64 (k:Int))] a) (sel [1,1,0,1,4,4,1,1,0,4,1,1,1,0,1,2] lsP) (fun a w=>(Below w0.heap.size w0 w∧FlB w g (geta Fs (k:Int)))∧Fr 40 [(0,vl),(1,vf),(2,.string cap),(7,.int .i64 (sumK L Fs cap k)),(9,.pointer (some ⟨g,0,none⟩)),(10,.int .i64 ((hxS L (geta Fs (k:Int)).pl)*2)),(11,vf),(12,.int .i64 Fs.length),(13,.int .i64 (k:Int))] a) No 9 No:=by
 refine T3.leaf ?_;rintro Q JS JX JT K hS hK hX hE hT hR a w ⟨hW,⟨fr,rfl,q0,q1,q2,q7,q9,q10,q11,q12,q13,_⟩⟩;have hix:=hi.h _ (geta_mem (l:=Fs) (i:=(k:Int)) (by omega) (by omega)) hne;have hhb:=hxS_b hp hix;have hsb:=sumK_b hp (cap:=cap) hi k (by omega);have hn:=hi.n;have HW:=Lib.hid hW;obtain⟨p1,c1,rfl⟩:=hl.r.shape;obtain⟨p2,c2,rfl⟩:=hf.r.shape;clear hW;clear hl hf hp hi hix hne;generalize sumK L Fs cap k=sk at *;generalize hxS L (geta Fs (k:Int)).pl=hh at *;rw [fr_lsP,fe q0,fe q1,fe q2,fe q7,fe q9,fe q10,fe q11,fe q12,fe q13];clear q0 q1 q2 q7 q9 q10 q11 q12 q13;conv=>arg 2;whnf
 go_wp2_with fail
 refine Met.intro (hS _ _ ?_);exact⟨HW.out,Fr.r rfl rfl⟩
theorem lsp9 (y:Int)(hy:-2000000≤y∧y≤2000000):T3 Tryz.prog (fun a w=>(Below w0.heap.size w0 w∧FlB w g (geta Fs (k:Int)))∧Fr 40 [(0,vl),(1,vf),(2,.string cap),(7,.int .i64 (sumK L Fs cap k)),(9,.pointer (some ⟨g,0,none⟩)),(10,.int .i64 y),(11,vf),(12,.int .i64 Fs.length),(13,.int .i64 (k:Int))] a) (sel [1,1,0,1,4,4,1,1,0,4,1,1,1,1] lsP) (fun a w=>(Below w0.heap.size w0 w)∧Fr 40 [(0,vl),(1,vf),(2,.string cap),(7,.int .i64 (sumK L Fs cap k+y)),(11,vf),(12,.int .i64 Fs.length),(13,.int .i64 (k:Int))] a) No 9 No:=by
 refine T3.leaf ?_;rintro Q JS JX JT K hS hK hX hE hT hR a w ⟨hW,⟨fr,rfl,q0,q1,q2,q7,q9,q10,q11,q12,q13,_⟩⟩;have hix:=hi.h _ (geta_mem (l:=Fs) (i:=(k:Int)) (by omega) (by omega)) hne;have hhb:=hxS_b hp hix;have hsb:=sumK_b hp (cap:=cap) hi k (by omega);have hn:=hi.n;have HW:=Lib.hid hW.1;obtain⟨p1,c1,rfl⟩:=hl.r.shape;obtain⟨p2,c2,rfl⟩:=hf.r.shape;clear hW hl hf hp hi hix hne hhb;generalize sumK L Fs cap k=sk at *;rw [fr_lsP,fe q0,fe q1,fe q2,fe q7,fe q9,fe q10,fe q11,fe q12,fe q13];clear q0 q1 q2 q7 q9 q10 q11 q12 q13;conv=>arg 2;whnf
 go_wp2_with fail
 refine Met.intro (hS _ _ ?_);exact⟨HW.out,Fr.r rfl rfl⟩
end
theorem lspR:T3 Tryz.prog (fun a w=>(Below w0.heap.size w0 w)∧Fr 40 [(0,vl),(1,vf),(2,.string cap),(7,.int .i64 (sumK L Fs cap k)),(11,vf),(12,.int .i64 Fs.length),(13,.int .i64 (k:Int))] a) (sel [1,1,0,1,4,4,1,1,0] lsP) (fun a w=>(Below w0.heap.size w0 w)∧Fr 40 [(0,vl),(1,vf),(2,.string cap),(7,.int .i64 (sumK L Fs cap (k+1))),(11,vf),(12,.int .i64 Fs.length),(13,.int .i64 (k:Int))] a) No 9 No:=by
 refine T3.blockX (id:=1) (c:=(sel [1,1,0,1,4,4,1,1,0,4] lsP)) ?_;refine T3.sq rfl ((lsp4 w0 vl vf L Fs cap hl hf hr hp hi k hk).noX) (T3.ex fun g=>?_);refine T3.sq rfl (S:=fun a w=>((geta Fs (k:Int)).pl≠ByteArray.empty)∧(Below w0.heap.size w0 w∧FlB w g (geta Fs (k:Int)))∧Fr 40 [(0,vl),(1,vf),(2,.string cap),(7,.int .i64 (sumK L Fs cap k)),(9,.pointer (some ⟨g,0,none⟩)),(11,vf),(12,.int .i64 Fs.length),(13,.int .i64 (k:Int))] a) ?_ (T3.pure fun hne=>?_)
 ·refine T3.test (s:=(sel [1,1,0,1,4,4,1,1,0,4,1,0,0] lsP)) (x:=.exit 1) (y:=.skip) (C:=fun q=>(q=decide ((geta Fs (k:Int)).pl=ByteArray.empty))) (W:=fun w=>Below w0.heap.size w0 w∧FlB w g (geta Fs (k:Int))) (by decide) ((lsp5 w0 vl vf L Fs cap hl hf hr hp hi k hk g).noX) (T3.exit ?_) (T3.skip ?_)
  ·rintro a w ⟨hF,hq,hW⟩;have hv:valF L cap (geta Fs (k:Int))=0:=by unfold valF;rw [if_pos (of_decide_eq_true hq.symm)]
   refine⟨hW.1,?_⟩;show Fr _ _ _;unfold sumK;rw [hv,Int.add_zero];exact hF.sub (by simp)
  ·rintro a w ⟨hq,hW,hF⟩;exact⟨of_decide_eq_false hq.symm,hW,hF⟩
 have hix:=hi.h _ (geta_mem (l:=Fs) (i:=(k:Int)) (by omega) (by omega)) hne;have hhb:=hxS_b hp hix;refine T3.sq rfl ((lsp6 w0 vl vf L Fs cap hl hf hr hp hi k hk g hne).noX) ?_;refine T3.sq rfl (S:=fun a w=>∃y:Int,(valF L cap (geta Fs (k:Int))=y)∧(Below w0.heap.size w0 w∧FlB w g (geta Fs (k:Int)))∧Fr 40 [(0,vl),(1,vf),(2,.string cap),(7,.int .i64 (sumK L Fs cap k)),(9,.pointer (some ⟨g,0,none⟩)),(10,.int .i64 y),(11,vf),(12,.int .i64 Fs.length),(13,.int .i64 (k:Int))] a) ?_ (T3.ex fun y=>T3.pure fun hy=>?_)
 ·refine T3.tt rfl (C:=fun q=>(q=decide ((geta Fs (k:Int)).pl=cap))) (W:=fun w=>Below w0.heap.size w0 w∧FlB w g (geta Fs (k:Int))) (by decide) ((lsp7 w0 vl vf L Fs cap hl hf hr hp hi k hk g).noX) ?_ (T3.skip ?_)
  ·refine T3.pre (R:=fun a w=>((geta Fs (k:Int)).pl=cap)∧(Below w0.heap.size w0 w∧FlB w g (geta Fs (k:Int)))∧Fr 40 [(0,vl),(1,vf),(2,.string cap),(7,.int .i64 (sumK L Fs cap k)),(9,.pointer (some ⟨g,0,none⟩)),(10,.int .i64 (hxS L (geta Fs (k:Int)).pl)),(11,vf),(12,.int .i64 Fs.length),(13,.int .i64 (k:Int))] a) (T3.pure fun he=>((lsp8 w0 vl vf L Fs cap hl hf hr hp hi k hk g hne).noX).post (fun a w q=>⟨_,by unfold valF;rw [if_neg hne,if_pos he],q⟩)) (fun a w ⟨hF,hq,hW⟩=>⟨of_decide_eq_true hq.symm,hW,hF.tail⟩)
  ·rintro a w ⟨hq,hW,hF⟩;exact⟨_,by unfold valF;rw [if_neg hne,if_neg (of_decide_eq_false hq.symm)],hW,hF⟩
 ·have hyb:=valF_b hp (cap:=cap) (x:=(geta Fs (k:Int))) (fun _=>hix);rw [hy]at hyb;refine((lsp9 w0 vl vf L Fs cap hl hf hr hp hi k hk g hne y hyb).noX).post ?_;rintro a w ⟨hW,hF⟩;unfold sumK;rw [hy];exact⟨hW,hF⟩
end
theorem lspb (k:Int):T3 Tryz.prog (fun a w=>(0≤k∧k<Fs.length)∧(Below w0.heap.size w0 w)∧Fr 40 [(0,vl),(1,vf),(2,.string cap),(7,.int .i64 (sumK L Fs cap (k:Int).toNat)),(11,vf),(12,.int .i64 Fs.length),(13,.int .i64 k)] a) (sel [1,1,0,1,4,4,1,1,0] lsP) (fun a w=>(0≤k∧k<Fs.length)∧(Below w0.heap.size w0 w)∧Fr 40 [(0,vl),(1,vf),(2,.string cap),(7,.int .i64 (sumK L Fs cap ((k+1):Int).toNat)),(11,vf),(12,.int .i64 Fs.length),(13,.int .i64 k)] a) No 9 No:=by
 refine T3.pure fun hh=>?_
 obtain⟨i,rfl⟩:=Int.eq_ofNat_of_zero_le hh.1;refine T3.mono (lspR w0 vl vf L Fs cap hl hf hr hp hi i (by omega)) ?_ ?_ (fun _ _ q=>q) (fun _ _ q=>q)
 ·rintro a w ⟨hW,hF⟩;rw [Int.toNat_natCast]at hF;exact⟨hW,hF⟩
 ·rintro a w ⟨hW,hF⟩;refine⟨hh,hW,?_⟩;rw [show((i:Int)+1).toNat=i+1 by omega];exact hF
def lspAI (w0:World)(vl vf:Value)(L:List ScD)(Fs:List FlD)(cap:ByteArray)(hl:ScH w0 vl L)(hf:FlH w0 vf Fs)(hr:ScRise L)(hp:ScP L)(hi:InF L Fs)(k:Int)(a:Act)(w:World):Prop:=(0≤k∧k≤Fs.length)∧(Below w0.heap.size w0 w)∧Fr 40 [(0,vl),(1,vf),(2,.string cap),(7,.int .i64 (sumK L Fs cap (k:Int).toNat)),(11,vf),(12,.int .i64 Fs.length),(13,.int .i64 k)] a
theorem lspAt (k:Int):T3 Tryz.prog (fun a w=>lspAI w0 vl vf L Fs cap hl hf hr hp hi k a w) (sel [1,1,0,1,4,4,0] lsP) (fun a w=>∃q,Fr 40 ((14,.bool q)::[(13,.int .i64 k)]) a∧((q=true↔k<Fs.length)∧lspAI w0 vl vf L Fs cap hl hf hr hp hi k a w)) No 9 No:=by
 refine T3.leaf ?_;rintro Q JS JX JT K hS hK hX hE hT hR a w ⟨hk,hW,⟨fr,rfl,q0,q1,q2,q7,q11,q12,q13,_⟩⟩;have hn9:=hf.n;rw [fr_lsP,fe q0,fe q1,fe q2,fe q7,fe q11,fe q12,fe q13];clear q0 q1 q2 q7 q11 q12 q13;conv=>arg 2;whnf
 by_cases hlt:k<Fs.length
 ·go_wp2_with fail
  refine Met.intro (hS _ _ ?_);exact⟨true,Fr.r rfl rfl,⟨fun _=>hlt,fun _=>rfl⟩,hk,hW,Fr.r rfl rfl⟩
 ·have hpb:decide (k<(Fs.length:Int))=false:=by simp;omega
  go_wp2_with fail
  refine Met.intro (hS _ _ ?_);exact⟨false,Fr.r rfl rfl,⟨(fun h=>by cases h),fun h=>absurd h (by omega)⟩,hk,hW,Fr.r rfl rfl⟩
theorem lspAn (k:Int):T3 Tryz.prog (fun a w=>(0≤k∧k<Fs.length)∧(Below w0.heap.size w0 w)∧Fr 40 [(0,vl),(1,vf),(2,.string cap),(7,.int .i64 (sumK L Fs cap ((k+1):Int).toNat)),(11,vf),(12,.int .i64 Fs.length),(13,.int .i64 k)] a) (sel [1,1,0,1,4,4,1,1,1] lsP) (fun a w=>lspAI w0 vl vf L Fs cap hl hf hr hp hi (k+1) a w) No 9 No:=by
 refine T3.leaf ?_;rintro Q JS JX JT K hS hK hX hE hT hR a w ⟨hk,hW,⟨fr,rfl,q0,q1,q2,q7,q11,q12,q13,_⟩⟩;obtain⟨hk0,hk1⟩:=hk;have hn9:=hf.n;rw [fr_lsP,fe q0,fe q1,fe q2,fe q7,fe q11,fe q12,fe q13];clear q0 q1 q2 q7 q11 q12 q13;conv=>arg 2;whnf
 go_wp2_with fail
 refine Met.intro (hS _ _ ?_);exact⟨⟨by omega,by omega⟩,hW,Fr.r rfl rfl⟩
theorem lspAloop:T3 Tryz.prog (fun a w=>lspAI w0 vl vf L Fs cap hl hf hr hp hi 0 a w) (sel [1,1,0,1] lsP) (fun a w=>(Below w0.heap.size w0 w)∧Fr 40 [(7,.int .i64 (sumK L Fs cap Fs.length))] a) No 9 No :=
 T3.range (I:=lspAI w0 vl vf L Fs cap hl hf hr hp hi) rfl (by decide) (lspAt w0 vl vf L Fs cap hl hf hr hp hi) (lspAn w0 vl vf L Fs cap hl hf hr hp hi) (fun _ _ _ h=>h.1) (fun k hk=>T3.pre (lspb w0 vl vf L Fs cap hl hf hr hp hi k) (fun a w q=>⟨hk,q.2⟩)) (fun a w hI=>by
  obtain⟨hk,hI⟩:=hI;obtain⟨hW,hF⟩:=hI;rw [Int.toNat_natCast]at hF;exact⟨hW,hF.sub (by simp)⟩)
theorem lsp11:T3 Tryz.prog (fun a w=>(Below w0.heap.size w0 w)∧Fr 40 [(7,.int .i64 (sumK L Fs cap Fs.length))] a) (sel [1,1,1,0] lsP) (fun a w=>(Below w0.heap.size w0 w)∧Fr 40 [(6,.int .i64 (sumK L Fs cap Fs.length))] a) No 9 No:=by
 refine T3.leaf ?_;rintro Q JS JX JT K hS hK hX hE hT hR a w ⟨hW,⟨fr,rfl,q7,_⟩⟩;have HW:=Lib.hid hW;obtain⟨p1,c1,rfl⟩:=hl.r.shape;obtain⟨p2,c2,rfl⟩:=hf.r.shape;clear hW;clear hl hf hp hi;generalize sumK L Fs cap Fs.length=sk at *;rw [fr_lsP,fe q7];clear q7;conv=>arg 2;whnf
 go_wp2_with fail
 refine Met.intro (hS _ _ ?_);exact⟨HW.out,Fr.of _ rfl ⟨rfl,trivial⟩⟩
theorem lsp_all:T3 Tryz.prog (fun a w=>(Below w0.heap.size w0 w)∧Fr 40 [(0,vl),(1,vf),(2,.string cap)] a) lsP No No 9 (fun a w=>(Below w0.heap.size w0 w)∧Fr 40 [(6,.int .i64 (sumK L Fs cap Fs.length))] a):=by
 refine T3.seq (s:=(sel [0] lsP)) (c:=(sel [1] lsP)) (T3.noT (lsp0 w0 vl vf L Fs cap hl hf hr hp hi)) ?_;refine T3.sq rfl (T3.noT (lsp1 w0 vl vf L Fs cap hl hf hr hp hi)) ?_;refine T3.sq rfl (T3.noT (T3.seq (s:=(sel [1,1,0,0] lsP)) (c:=(sel [1,1,0,1] lsP)) (lsp2 w0 vl vf L Fs cap hl hf hr hp hi) (lspAloop w0 vl vf L Fs cap hl hf hr hp hi))) ?_;exact T3.sr rfl (T3.noT (lsp11 w0 vl vf L Fs cap hl hf hr hp hi)) (T3.ret fun a w q=>q)
theorem sum_prog:Calls Tryz.prog 48 #[vl,vf,.string cap] w0 fun e w'=>e=.returned (.int .i64 (sumK L Fs cap Fs.length))∧Below w0.heap.size w0 w':=by
 have hall:=lsp_all w0 vl vf L Fs cap hl hf hr hp hi
 go_enter Tryz.func48,Tryz.ntmps48
 refine T3.done (s:=lsP) hall ⟨Below.refl _ _,Fr.r rfl rfl⟩ ?_;rintro a w ⟨hb,fr,rfl,q6,_⟩;rw [fr_lsP,fe q6]
 go_ret
 exact⟨rfl,hb⟩
end
noncomputable def lsR:Code:=(Tryz.f20.body).getD .skip
def lsrAI (w0:World)(vl vf:Value)(L:List ScD)(Fs:List FlD)(cap:ByteArray)(hl:ScH w0 vl L)(hf:FlH w0 vf Fs)(hr:ScRise L)(hp:ScP L)(hi:InF L Fs)(k:Int)(a:Act)(w:World):Prop:=(0≤k∧k≤Fs.length)∧(Below w0.heap.size w0 w)∧Fr 40 [(0,vl),(1,vf),(2,.string cap),(7,.int .i64 (sumK L Fs cap (k:Int).toNat)),(11,vf),(12,.int .i64 Fs.length),(13,.int .i64 k)] a
end Go.Proofs.YtnmdpphddimfbaaGreat
/-
  Line-ups: who comes in (Subbed). Conditions: at most 1000 of each; strings of at most 1000 bytes; whole numbers are Go's.
-/
namespace Go.Proofs.YtnmdpphddimfbaaGreat
open Go.RowKit Go.Bw
theorem cellsFl_set:∀ (l:List FlD)(i:Nat)(p:ByteArray) ,i<l.length→(cellsOf encFl l).set (i*2+1) (.string p)=cellsOf encFl (l.set i ⟨(geta l (i:Int)).sl,p⟩)
 | [],_,_,h=>by simp at h
 | x::l,0,p,_=>rfl
 | x::l,i+1,p,h=>by
  have ih:=cellsFl_set l i p (by simpa using h);rw [List.set_cons_succ,cellsOf_cons,cellsOf_cons];show([Value.string x.sl,Value.string x.pl]++cellsOf encFl l).set ((i+1)*2+1) (.string p)=[Value.string x.sl,Value.string x.pl]++_;rw [show(i+1)*2+1=(i*2+1)+1+1 by omega];show Value.string x.sl::Value.string x.pl::(cellsOf encFl l).set (i*2+1) (.string p)=_;rw [ih];have e:geta (x::l) ((i+1:Nat):Int)=geta l (i:Int):=by
   unfold geta;rw [show(((i+1:Nat):Int)).toNat=i+1 by omega,show((i:Nat):Int).toNat=i by omega,List.getElem?_cons_succ]
  rw [e];rfl
def subE (S:List SlD)(L:List ScD)(F:List FlD)(K:List ByteArray):Int:=if allE S L F≠0 then allE S L F else benchE L F K
def subR (S:List SlD)(L:List ScD)(F:List FlD)(K:List ByteArray):List FlD:=if subE S L F K=0 then subL S L F K else []
/-- All is right. -/
structure SuG (S:List SlD)(L:List ScD)(F:List FlD)(K:List ByteArray):Prop where
 a:allE S L F=0
 b:benchE L F K=0
section
variable {S:List SlD}{L:List ScD}{F:List FlD}{K:List ByteArray}
section
variable (h:SuG S L F K)
include h
theorem SuG.e:subE S L F K=0:=by unfold subE;rw [if_neg (by simp [h.a])];exact h.b
theorem SuG.r:subR S L F K=subL S L F K:=by unfold subR;rw [if_pos h.e]
theorem SuG.ss:ssE S L=0:=by
 by_cases e:ssE S L=0
 ·exact e
 ·have:=allE_ss (F:=F) e;rw [h.a]at this;exact absurd this.symm e
theorem SuG.f:fillsE S L F=0:=by rw [←allE_fills (F:=F) h.ss];exact h.a
theorem SuG.len:F.length=S.length:=by
 have:=h.f;unfold fillsE at this
 split at this
 ·cases this
 ·rename_i e;omega
theorem SuG.fill {k:Int}(h0:0≤k)(h1:k<F.length):fillAt S L F k=0:=by
 have:=h.f;unfold fillsE at this
 split at this
 ·cases this
 ·exact firstErr_zero this k h0 h1
theorem SuG.bench {k:Int}(h0:0≤k)(h1:k<K.length):¬scIdx L (geta K k)<0:=by
 have:=h.b;unfold benchE at this
 split at this
 ·cases this
 ·have:=firstErr_zero this k h0 h1;unfold benchAt at this
  split at this
  ·cases this
  ·assumption
theorem SuG.sc:scorersE L=0:=by
 have:=h.ss;unfold ssE at this
 split at this
 ·rename_i e;exact absurd this e
 ·exact this
end
end
/-- The fills so far, the call's own. -/
structure SuW (w0:World)(S:List SlD)(L:List ScD)(F:List FlD)(K:List ByteArray)(v12:Value)(k:Nat)(w:World):Prop where
 bel:Below w0.heap.size w0 w
 own:w.ownsRow w0.heap.size 49 2 v12 F.length (cellsOf encFl (subK S L F K k))
theorem SuW.below {w0 w w':World}{S:List SlD}{L:List ScD}{F:List FlD}{K:List ByteArray}{v12:Value}{k:Nat}(h:SuW w0 S L F K v12 k w)(b:Below w.heap.size w w'):SuW w0 S L F K v12 k w':=⟨h.bel.trans (b.mono h.bel.size),owns_below h.own b (Nat.le_refl _)⟩
section
variable {w0 w:World}{S:List SlD}{L:List ScD}{F:List FlD}{K:List ByteArray}
include w0 w S L F K
theorem SuW.step {v12:Value}{k:Nat}(h:SuW w0 S L F K v12 k w)(e:subK S L F K (k+1)=subK S L F K k):SuW w0 S L F K v12 (k+1) w:=⟨h.bel,by rw [e];exact h.own⟩
theorem SuW.put {g c:Nat}{k:Nat}(h:SuW w0 S L F K (.slice (some ⟨g,0,none⟩) F.length c) k w)(hk:k<F.length){p:ByteArray}(e:subK S L F K (k+1)=(subK S L F K k).set k ⟨(geta (subK S L F K k) (k:Int)).sl,p⟩):
  SuW w0 S L F K (.slice (some ⟨g,0,none⟩) F.length c) (k+1) (w.setCell ⟨g,k*2+1,none⟩ (.string p)):=by
 refine⟨h.bel.grown (grown_setCell w g _ _) h.bel.size (fun j hj=>by cases hj;exact(h.own.lt g rfl).1),?_⟩;rw [e,←cellsFl_set _ _ _ (by rw [subK_length];exact hk)];exact owns_setC h.own _ (by omega) _
end
def suLI (w0:World)(vs vl vf vk:Value)(S:List SlD)(L:List ScD)(Fs:List FlD)(K:List ByteArray)(hs:SlH w0 vs S)(hl:ScH w0 vl L)(hf:FlH w0 vf Fs)(hb:BnH w0 vk K)(g:SuG S L Fs K)(v12:Value)(k:Int)(a:Act)(w:World):Prop:=(0≤k∧k≤Fs.length)∧(SuW w0 S L Fs K v12 ((k:Int).toNat) w)∧Fr 95 [(0,vs),(1,vl),(2,vf),(3,vk),(12,v12),(34,vf),(35,.int .i64 Fs.length),(36,.int .i64 k)] a
end Go.Proofs.YtnmdpphddimfbaaGreat
/-
  Line-ups: who sits on the bench, who comes in, the reference's look (BenchOf, SubbedOf). Conditions: right slots, scorers, fills and benches; strings of at most 1000 bytes.
-/
namespace Go.Proofs.YtnmdpphddimfbaaGreat
open Go.RowKit Go.Bw
theorem el_stJ:Elem Tryz.prog 39 9 (.string ByteArray.empty) 1 16:=⟨by kernel_rfl,by kernel_rfl,by kernel_rfl,by decide,by decide⟩
def benchK (L:List ScD)(F:List FlD):Nat→List ByteArray
 | 0=>[]
 | k+1=>if isInB F (geta L (k:Int)).pl=true then benchK L F k else benchK L F k++[(geta L (k:Int)).pl]
/-- The bench so far. -/
structure BoW (w0:World)(L:List ScD)(F:List FlD)(v5:Value)(k:Nat)(w:World):Prop where
 bel:Below w0.heap.size w0 w
 own:w.ownsRow w0.heap.size 9 1 v5 (benchK L F k).length (cellsOf encSt (benchK L F k))
theorem BoW.below {w0 w w':World}{L:List ScD}{F:List FlD}{v5:Value}{k:Nat}(h:BoW w0 L F v5 k w)(b:Below w.heap.size w w'):BoW w0 L F v5 k w':=⟨h.bel.trans (b.mono h.bel.size),owns_below h.own b (Nat.le_refl _)⟩
theorem BoW.step {w0 w:World}{L:List ScD}{F:List FlD}{v5:Value}{k:Nat}(h:BoW w0 L F v5 k w)(e:isInB F (geta L (k:Int)).pl=true):BoW w0 L F v5 (k+1) w:=by
 have e2:benchK L F (k+1)=benchK L F k:=if_pos e;exact⟨h.bel,by rw [e2];exact h.own⟩
theorem BoW.app {w0 w w':World}{L:List ScD}{F:List FlD}{v5 v':Value}{k:Nat}(h:BoW w0 L F v5 k w)(e:isInB F (geta L (k:Int)).pl=false)(ho:w'.ownsRow w0.heap.size 9 1 v' ((benchK L F k).length+1) (cellsOf encSt (benchK L F k)++[.string (geta L (k:Int)).pl]))(g:w.grownBy w' v5.ownBlock):BoW w0 L F v' (k+1) w':=by
 have e2:benchK L F (k+1)=benchK L F k++[(geta L (k:Int)).pl]:=if_neg (by rw [e];decide);refine⟨h.bel.grown g h.bel.size (fun j hj=>(h.own.lt j hj).1),?_⟩;rw [e2,cellsOf_snoc,List.length_append];exact ho
noncomputable def boR:Code:=(Tryz.f22.body).getD .skip
def boLI (w0:World)(vl vf:Value)(L:List ScD)(Fs:List FlD)(hl:ScH w0 vl L)(hf:FlH w0 vf Fs)(k:Int)(a:Act)(w:World):Prop:=(0≤k∧k≤L.length)∧∃(v5:Value),(BoW w0 L Fs v5 (k:Int).toNat w)∧Fr 25 [(0,vl),(1,vf),(5,v5),(8,vl),(9,.int .i64 L.length),(10,.int .i64 k)] a
def sxLI (w0:World)(vs vl vf vk:Value)(S:List SlD)(L:List ScD)(Fs:List FlD)(K:List ByteArray)(hs:SlH w0 vs S)(hl:ScH w0 vl L)(hf:FlH w0 vf Fs)(hb:BnH w0 vk K)(g:SuG S L Fs K)(v9:Value)(k:Int)(a:Act)(w:World):Prop:=(0≤k∧k≤Fs.length)∧(SuW w0 S L Fs K v9 ((k:Int).toNat) w)∧Fr 75 [(0,vs),(1,vl),(2,vf),(3,vk),(9,v9),(17,v9),(18,.int .i64 Fs.length),(19,.int .i64 k)] a
end Go.Proofs.YtnmdpphddimfbaaGreat
/-
  Sum, Left and Bench of package score. Conditions: at most 4 slots and 6 scorers (Left).
-/
namespace Go.Proofs.YtnmdpphddimfbaaGreat
open Go.RowKit Go.Bw
/-- The two cells of the answer. -/
structure Pz (w0:World)(a b:Int)(w:World):Prop where
 r0:w.cell? ⟨w0.heap.size,0,none⟩=some (.int .i64 a)
 r1:w.cell? ⟨w0.heap.size,1,none⟩=some (.int .i64 b)
 f0:w.frozen? ⟨w0.heap.size,0,none⟩=false
 f1:w.frozen? ⟨w0.heap.size,1,none⟩=false
 bel:Below w0.heap.size w0 w
theorem Pz.new (w0:World)(a b:Int)(e:TypeId):Pz w0 a b (w0.alloc (.cells #[.int .i64 a,.int .i64 b] e)) :=
 ⟨cells_new w0 _ e 0 _ rfl,cells_new w0 _ e 1 _ rfl,frozen_new0 w0 _ e 0,frozen_new0 w0 _ e 1,(Below.refl _ _).alloc (Nat.le_refl _) _⟩
theorem Pz.below {w0 w w':World}{a b:Int}(h:Pz w0 a b w)(g:Below w.heap.size w w'):Pz w0 a b w' :=
 ⟨(g.cell (World.block_lt_of_cell? w _ h.r0)).trans h.r0,(g.cell (World.block_lt_of_cell? w _ h.r1)).trans h.r1,(g.frozen (p:=⟨w0.heap.size,0,none⟩) (World.block_lt_of_cell? w _ h.r0)).trans h.f0,(g.frozen (p:=⟨w0.heap.size,1,none⟩) (World.block_lt_of_cell? w _ h.r1)).trans h.f1,h.bel.trans (g.mono h.bel.size)⟩
theorem Pz.put {w0 w:World}{a b:Int}(h:Pz w0 a b w)(x y:Int):Pz w0 x y ((w.setCell ⟨w0.heap.size,0,none⟩ (.int .i64 x)).setCell ⟨w0.heap.size,1,none⟩ (.int .i64 y)):=by
 refine⟨?_,?_,by simpa using h.f0,by simpa using h.f1,(h.bel.setCell (by simp) _).setCell (by simp) _⟩
 ·rw [World.cell?_setCell_other _ _ _ _ (by simp)];exact World.cell?_setCell_same' _ _ _ (by rw [h.r0];rfl)
 ·exact World.cell?_setCell_same' _ _ _ (by rw [World.cell?_setCell_other _ _ _ _ (by simp),h.r1];rfl)
def capBad (F:List FlD)(cap:ByteArray):Bool:=!decide (cap=ByteArray.empty)&&!isInB F cap
def oneE (S:List SlD)(L:List ScD)(F:List FlD)(cap:ByteArray):Int:=if allE S L F≠0 then allE S L F else if capBad F cap=true then 8 else 0
def sumV (S:List SlD)(L:List ScD)(F:List FlD)(cap:ByteArray):Int×Int:=if oneE S L F cap=0 then(ofHn (sumK L F cap F.length),ofHd (sumK L F cap F.length))else(0,0)
def leftK (S:List SlD)(L:List ScD)(F:List FlD):Int:=sumK L (bestF S L) ⟨#[]⟩ (bestF S L).length-sumK L F ⟨#[]⟩ F.length
def leftV (S:List SlD)(L:List ScD)(F:List FlD):Int×Int:=if allE S L F=0 then(ofHn (leftK S L F),ofHd (leftK S L F))else(0,0)
def benV (S:List SlD)(L:List ScD)(F:List FlD):List ByteArray:=if allE S L F=0 then benchK L F L.length else []
/-- All is right. -/
structure AlG (S:List SlD)(L:List ScD)(F:List FlD):Prop where
 a:allE S L F=0
section
variable {S:List SlD}{L:List ScD}{F:List FlD}
section
variable (h:AlG S L F)
include h
theorem AlG.ss:ssE S L=0:=by
 by_cases e:ssE S L=0
 ·exact e
 ·have:=allE_ss (F:=F) e;rw [h.a]at this;exact absurd this.symm e
theorem AlG.f:fillsE S L F=0:=by rw [←allE_fills (F:=F) h.ss];exact h.a
theorem AlG.sl:slotsE S=0:=by
 have:=h.ss;unfold ssE at this
 split at this
 ·rename_i e;exact absurd this e
 ·rename_i e;simpa using e
theorem AlG.sc:scorersE L=0:=by
 have:=h.ss;unfold ssE at this
 split at this
 ·rename_i e;exact absurd this e
 ·exact this
end
theorem slots_len (h:slotsE S=0):S.length≤12:=by
 unfold slotsE at h
 split at h
 ·cases h
 ·split at h
  ·cases h
  ·omega
theorem geta_cases {α:Type} [Inhabited α] (l:List α) (i:Int):geta l i∈l∨geta l i=default:=by
 unfold geta;cases h:l[i.toNat]? with
 | none=>exact .inr rfl
 | some x=>exact .inl (List.mem_of_getElem? h)
theorem fillsOf_z (h1:∀x∈S,x.key.size≤1000)(h2:∀x∈L,x.pl.size≤1000):∀(l:List (Option Nat)) (i:Nat),∀x∈fillsOf S L i l,x.sl.size≤1000∧x.pl.size≤1000
 | [],_,x,hx=>by cases hx
 | o::l,i,x,hx=>by
  have hk:(geta S (i:Int)).key.size≤1000:=by
   rcases geta_cases S (i:Int)with h|h
   ·exact h1 _ h
   ·rw [h];decide
  cases o with
  | none =>
   rcases List.mem_cons.1 hx with rfl|hx
   ·exact⟨hk,by show(⟨#[]⟩:ByteArray).size≤1000;decide⟩
   ·exact fillsOf_z h1 h2 l (i+1) x hx
  | some k =>
   rcases List.mem_cons.1 hx with rfl|hx
   ·refine⟨hk,?_⟩;show(geta L (k:Int)).pl.size≤1000;rcases geta_cases L (k:Int)with h|h
    ·exact h2 _ h
    ·rw [h];decide
   ·exact fillsOf_z h1 h2 l (i+1) x hx
theorem best_z {w:World}{vs vl:Value}(hs:SlH w vs S)(hl:ScH w vl L):∀x∈bestF S L,x.sl.size≤1000∧x.pl.size≤1000:=fillsOf_z hs.z hl.z _ _
theorem pl_ne (h:scorersE L=0){k:Nat}(hk:k<L.length):(geta L (k:Int)).pl≠ByteArray.empty:=by
 intro e;unfold scorersE at h
 split at h
 ·cases h
 ·have h1:=firstErr_zero h (k:Int) (by omega) (by omega);unfold scorerAt at h1;rw [e,keyB_empty rfl]at h1;simp at h1
theorem scIdx_at (h:ScRise L){k:Nat}(hk:k<L.length):scIdx L (geta L (k:Int)).pl=k:=by
 unfold scIdx;refine idxI_hit (by omega) (by omega) (fun j h0 h1=>?_) (by simp);have h2:=h.h j k h0 h1 (by omega);rw [decide_eq_false_iff_not];intro e;rw [e]at h2;exact absurd h2 (List.lt_irrefl _)
theorem fillsOf_in (hr:ScRise L):∀(l:List (Option Nat)) (i:Nat),(∀k,some k∈l→k<L.length)→∀x∈fillsOf S L i l,x.pl≠ByteArray.empty→¬scIdx L x.pl<0
 | [],_,_,x,hx,_=>by cases hx
 | none::l,i,h,x,hx,hne=>by
  rcases List.mem_cons.1 hx with rfl|hx
  ·exact absurd rfl hne
  ·exact fillsOf_in hr l (i+1) (fun k hk=>h k (List.mem_cons_of_mem _ hk)) x hx hne
 | some k::l,i,h,x,hx,hne=>by
  rcases List.mem_cons.1 hx with rfl|hx
  ·show ¬scIdx L (geta L (k:Int)).pl<0;rw [scIdx_at hr (h k (by simp))];omega
  ·exact fillsOf_in hr l (i+1) (fun k hk=>h k (List.mem_cons_of_mem _ hk)) x hx hne
theorem pairs_mem:∀ (l:List (Option Nat))(i k:Nat) ,some k∈l→∃j,(j,k)∈pairsF i l
 | [],_,_,h=>by cases h
 | none::l,i,k,h=>by
  rcases List.mem_cons.1 h with h|h
  ·cases h
  ·exact pairs_mem l (i+1) k h
 | some m::l,i,k,h=>by
  rcases List.mem_cons.1 h with h|h
  ·cases h
   exact⟨i,by simp [pairsF]⟩
  ·obtain⟨j,hj⟩:=pairs_mem l (i+1) k h;exact⟨j,List.mem_cons_of_mem _ hj⟩
theorem bestF_in (hr:ScRise L)(hS:S.length≤12):InF L (bestF S L):=by
 refine⟨fillsOf_in hr _ _ (fun k hk=>?_),by rw [bestF_len];exact hS⟩;obtain⟨j,hj⟩:=pairs_mem _ 0 k hk;exact((greed_mt (fitK S L) (wK L) L.length S.length 0 (fun _=>false)).1.f _ hj).2.1.1
end
noncomputable def lgS:Code:=(Tryz.f9.body).getD .skip
noncomputable def lgL:Code:=(Tryz.f10.body).getD .skip
noncomputable def lgB:Code:=(Tryz.f11.body).getD .skip
def lgbLI (w0:World)(vs vl vf:Value)(S:List SlD)(L:List ScD)(Fs:List FlD)(hs:SlH w0 vs S)(hl:ScH w0 vl L)(hf:FlH w0 vf Fs)(k:Int)(a:Act)(w:World):Prop:=(0≤k∧k≤L.length)∧∃(v5:Value),(BoW w0 L Fs v5 (k:Int).toNat w)∧Fr 37 [(0,vs),(1,vl),(2,vf),(9,v5),(19,vl),(20,.int .i64 L.length),(21,.int .i64 k)] a
end Go.Proofs.YtnmdpphddimfbaaGreat
/-
  The reference's ways of line-ups, in plain words; which way is better; they bring as much as the program's fills. Condition: points are right.
-/
namespace Go.Proofs.YtnmdpphddimfbaaGreat
open Go.RowKit Go.Bw
/-- A way of line-ups: the sum, how many, who. -/
structure LuR where
 sum:Int
 many:Int
 who:List ByteArray
def betterB (x y:LuR):Bool:=if x.sum≠y.sum then decide (y.sum<x.sum)else if x.many≠y.many then decide (x.many<y.many)else decide (cmpL x.who y.who<0)
/-- The best of some ways, from a first one on. -/
def luTo (c:Nat→Bool)(y:Nat→LuR)(b:LuR):Nat→LuR
 | 0=>b
 | k+1=>if c k=true then(if betterB (y k) (luTo c y b k)=true then y k else luTo c y b k)else luTo c y b k
def posK (L:List ScD)(k:Nat):Bool:=decide (0<(geta L (k:Int)).num)
def fitP (S:List SlD)(L:List ScD)(k i:Nat):Bool:=fitK S L k i&&posK L k
def luY (L:List ScD)(x:LuR)(k:Nat):LuR:=⟨x.sum+hnK L k,x.many+1,(geta L (k:Int)).pl::x.who⟩
def luZ (x:LuR):LuR:=⟨x.sum,x.many,⟨#[]⟩::x.who⟩
def luS (S:List SlD)(L:List ScD):Nat→Nat→(Nat→Bool)→LuR
 | 0,_,_=>⟨0,0,[]⟩
 | r+1,i,U=>luTo (fun k=>!U k&&fitP S L k i) (fun k=>luY L (luS S L r (i+1) (updU U k)) k) (luZ (luS S L r (i+1) U)) L.length
theorem better_ge {x y:LuR}(h:betterB x y=true):y.sum≤x.sum:=by
 unfold betterB at h
 split at h
 ·have:=of_decide_eq_true h;omega
 ·rename_i e
  simp only [ne_eq,Decidable.not_not]at e;omega
theorem better_le {x y:LuR}(h:¬betterB x y=true):x.sum≤y.sum:=by
 unfold betterB at h
 split at h
 ·rename_i e
  simp only [decide_eq_true_eq]at h;omega
 ·rename_i e
  simp only [ne_eq,Decidable.not_not]at e;omega
section
variable {c:Nat→Bool}{y:Nat→LuR}{b:LuR}
theorem luTo_ge:∀ n,b.sum≤(luTo c y b n).sum
 | 0=>Int.le_refl _
 | n+1=>by
  have:=luTo_ge n;unfold luTo
  split
  ·split
   ·rename_i h;have:=better_ge h;omega
   ·omega
  ·omega
theorem luTo_le {k:Nat}(hc:c k=true):∀n,k<n→(y k).sum≤(luTo c y b n).sum
 | 0,h=>by omega
 | n+1,h=>by
  unfold luTo
  by_cases e:k=n
  ·subst e;rw [if_pos hc]
   split
   ·exact Int.le_refl _
   ·rename_i h;exact better_le h
  ·have:=luTo_le hc n (by omega)
   split
   ·split
    ·rename_i h;have:=better_ge h;omega
    ·omega
   ·omega
theorem luTo_at:∀ n,(luTo c y b n).sum=b.sum∨∃k,k<n∧c k=true∧(luTo c y b n).sum=(y k).sum
 | 0=>.inl rfl
 | n+1=>by
  have ih:=luTo_at n;have up:((luTo c y b n).sum=b.sum∨∃k,k<n∧c k=true∧(luTo c y b n).sum=(y k).sum)→((luTo c y b n).sum=b.sum∨∃k,k<n+1∧c k=true∧(luTo c y b n).sum=(y k).sum):=by
   rintro(h|⟨k,h1,h2,h3⟩)
   ·exact .inl h
   ·exact .inr ⟨k,by omega,h2,h3⟩
  unfold luTo
  split
  ·rename_i hc
   split
   ·exact .inr ⟨n,by omega,hc,rfl⟩
   ·exact up ih
  ·exact up ih
end
theorem luS_max (S:List SlD)(L:List ScD):∀r i U,IsMax (fitP S L) (hnK L) (fun s=>i≤s∧s<i+r) (fun k=>k<L.length∧U k=false) (luS S L r i U).sum
 | 0,i,U=>IsMax.noT (fun s h=>by omega)
 | r+1,i,U=>by
  have h0:=luS_max S L r (i+1) U;refine(IsMax.slot (i:=i) (vk:=fun k=>(luS S L r (i+1) (updU U k)).sum) (v:=(luS S L (r+1) i U).sum) h0 (by omega) (fun k hk hf=>?_) (luTo_ge _) (fun k hk hf=>?_) ?_).congr (fun j=>by omega) (fun _=>Iff.rfl)
  ·refine(luS_max S L r (i+1) (updU U k)).congr (fun _=>Iff.rfl) (fun j=>?_);unfold updU;simp only [Bool.or_eq_false_iff,decide_eq_false_iff_not];constructor
   ·rintro⟨a,b,c⟩;exact⟨⟨a,b⟩,c⟩
   ·rintro⟨⟨a,b⟩,c⟩;exact⟨a,b,c⟩
  ·exact luTo_le (c:=fun k=>!U k&&fitP S L k i) (y:=fun k=>luY L (luS S L r (i+1) (updU U k)) k) (by simp [hk.2,hf]) L.length hk.1
  ·rcases luTo_at (c:=fun k=>!U k&&fitP S L k i) (y:=fun k=>luY L (luS S L r (i+1) (updU U k)) k) (b:=luZ (luS S L r (i+1) U)) L.length with h|⟨k,h1,h2,h3⟩
   ·exact .inl h
   ·simp only [Bool.and_eq_true,Bool.not_eq_true']at h2;exact .inr ⟨k,⟨h1,h2.1⟩,h2.2,h3⟩
theorem luTo_who {c:Nat→Bool}{y:Nat→LuR}{b:LuR}{p:LuR→Prop}(hb:p b)(hy:∀k,p (y k)):∀n,p (luTo c y b n)
 | 0=>hb
 | n+1=>by
  have ih:=luTo_who (c:=c) hb hy n;unfold luTo
  split
  ·split
   ·exact hy n
   ·exact ih
  ·exact ih
theorem luS_len (S:List SlD)(L:List ScD):∀r i U,(luS S L r i U).who.length=r
 | 0,i,U=>rfl
 | r+1,i,U=>by
  refine luTo_who (p:=fun x=>x.who.length=r+1) ?_ (fun k=>?_) L.length
  ·show(⟨#[]⟩::(luS S L r (i+1) U).who).length=r+1;rw [List.length_cons,luS_len S L r]
  ·show(_::(luS S L r (i+1) (updU U k)).who).length=r+1;rw [List.length_cons,luS_len S L r]
theorem luS_many (S:List SlD)(L:List ScD):∀r i U,0≤(luS S L r i U).many∧(luS S L r i U).many≤r
 | 0,i,U=>by show(0:Int)≤0∧_;simp [luS]
 | r+1,i,U=>by
  refine luTo_who (p:=fun x=>0≤x.many∧x.many≤((r+1:Nat):Int)) ?_ (fun k=>?_) L.length
  ·have:=luS_many S L r (i+1) U;show 0≤(luS S L r (i+1) U).many∧(luS S L r (i+1) U).many≤_;omega
  ·have:=luS_many S L r (i+1) (updU U k);show 0≤(luS S L r (i+1) (updU U k)).many+1∧(luS S L r (i+1) (updU U k)).many+1≤_;omega
/-- Sums are small. -/
theorem luS_b {S:List SlD}{L:List ScD}(hp:ScP L):∀r i U,0≤(luS S L r i U).sum∧(luS S L r i U).sum≤1000000*r
 | 0,i,U=>by show(0:Int)≤0∧_;simp [luS]
 | r+1,i,U=>by
  refine⟨(luS_max S L (r+1) i U).nonneg,?_⟩;rcases luTo_at (c:=fun k=>!U k&&fitP S L k i) (y:=fun k=>luY L (luS S L r (i+1) (updU U k)) k) (b:=luZ (luS S L r (i+1) U)) L.length with h|⟨k,h1,h2,h3⟩
  ·have:=luS_b hp (S:=S) r (i+1) U;show(luTo _ _ _ L.length).sum≤_;rw [h];show(luS S L r (i+1) U).sum≤_;omega
  ·have:=luS_b hp (S:=S) r (i+1) (updU U k);have:=hp.hnK h1;show(luTo _ _ _ L.length).sum≤_;rw [h3];show(luS S L r (i+1) (updU U k)).sum+hnK L k≤_;omega
/-- As many pairs as slots at most. -/
theorem Mt.len {fit:Nat→Nat→Bool}:∀(r i:Nat) (K:Nat→Prop) (ps:List (Nat×Nat)),Mt fit (fun s=>i≤s∧s<i+r) K ps→ps.length≤r
 | 0,i,K,ps,h=>by
  cases ps with
  | nil=>exact Nat.le_refl _
  | cons p ps=>have:=(h.f p (by simp)).1;omega
 | r+1,i,K,ps,h=>by
  by_cases hu:∃k,(i,k)∈ps
  ·obtain⟨k,hu⟩:=hu;have h1:=Mt.len r (i+1) _ _ ((h.erase hu).mono (T':=fun s=>i+1≤s∧s<i+1+r) (fun s hs=>by omega) (fun _ q=>q));rw [List.length_erase_of_mem hu]at h1;omega
  ·have h1:=Mt.len r (i+1) K ps ⟨fun p hp=>⟨by
    have h2:=(h.f p hp).1;have h3:p.1≠i:=fun e=>hu ⟨p.2,by rw [←e];exact hp⟩
    omega,(h.f p hp).2⟩,h.a,h.b,h.n⟩
   omega
theorem valM_wK (L:List ScD):∀ps:List (Nat×Nat),valM (wK L) ps=64*valM (hnK L) ps-ps.length
 | []=>rfl
 | p::ps=>by
  have:=valM_wK L ps;show wK L p.2+valM (wK L) ps=64*(hnK L p.2+valM (hnK L) ps)-((ps.length+1:Nat):Int);have hw:wK L p.2=64*hnK L p.2-1:=rfl;omega
theorem valM_filter {L:List ScD}(hneg:∀k,k<L.length→posK L k=false→hnK L k≤0):∀ps:List (Nat×Nat),(∀p∈ps,p.2<L.length)→valM (hnK L) ps≤valM (hnK L) (ps.filter fun p=>posK L p.2)
 | [],_=>Int.le_refl _
 | p::ps,h=>by
  have ih:=valM_filter hneg ps (fun q hq=>h q (List.mem_cons_of_mem _ hq));rw [List.filter_cons];cases hp:posK L p.2
  ·have:=hneg p.2 (h p (by simp)) hp;show hnK L p.2+valM (hnK L) ps≤_;simp only [Bool.false_eq_true,if_false];omega
  ·simp only [if_true];show hnK L p.2+valM (hnK L) ps≤hnK L p.2+_;omega
theorem hn_neg {L:List ScD}(hp:ScP L){k:Nat}(hk:k<L.length)(h:posK L k=false):hnK L k≤0:=by
 have h1:=hp.h _ (geta_mem (l:=L) (i:=(k:Int)) (by omega) (by omega));unfold posK at h;have h2:¬0<(geta L (k:Int)).num:=of_decide_eq_false h;have h3:0≤100 / (geta L (k:Int)).den:=Int.ediv_nonneg (by decide) (by omega);unfold hnK hund;exact Int.mul_nonpos_of_nonpos_of_nonneg (by omega) h3
/-- The program's fills bring what the reference's best way brings. -/
theorem best_sum {S:List SlD}{L:List ScD}(hp:ScP L)(hS:S.length≤12):valM (hnK L) (pairsF 0 (grF S L S.length 0 (fun _=>false)))=(luS S L S.length 0 (fun _=>false)).sum:=by
 obtain⟨hm,hv⟩:=greed_mt (fitK S L) (wK L) L.length S.length 0 (fun _=>false);have hM:=luS_max S L S.length 0 (fun _=>false);have hV:=slotV_max (fitK S L) (wK L) L.length S.length 0 (fun _=>false);obtain⟨qs,h1,h2⟩:=hM.at_;have hq:Mt (fitK S L) (fun s=>0≤s∧s<0+S.length) (fun k=>k<L.length∧(fun _=>false) k=false) qs:=by
  refine⟨fun p hp=>⟨(h1.f p hp).1,(h1.f p hp).2.1,?_⟩,h1.a,h1.b,h1.n⟩;have:=(h1.f p hp).2.2;unfold fitP at this;rw [Bool.and_eq_true]at this;exact this.1
 have h3:=hV.le qs hq;rw [←hv,valM_wK,valM_wK,h2]at h3;have h4:=Mt.len S.length 0 _ qs hq;have h5:valM (hnK L) (pairsF 0 (greedF (fitK S L) (wK L) L.length S.length 0 (fun _=>false)))≤(luS S L S.length 0 (fun _=>false)).sum:=by
  refine Int.le_trans (valM_filter (fun k hk h=>hn_neg hp hk h) _ (fun p hp=>(hm.f p hp).2.1.1)) (hM.le _ ⟨fun p hq=>?_,fun p hp q hq=>hm.a p (List.mem_filter.1 hp).1 q (List.mem_filter.1 hq).1,fun p hp q hq=>hm.b p (List.mem_filter.1 hp).1 q (List.mem_filter.1 hq).1,hm.n.filter _⟩);obtain⟨h6,h7⟩:=List.mem_filter.1 hq;obtain⟨a,b,c⟩:=hm.f p h6;exact⟨a,b,by unfold fitP;rw [c,h7];rfl⟩
 unfold grF;omega
def sumL (L:List ScD)(cap:ByteArray):List FlD→Int
 | []=>0
 | x::F=>valF L cap x+sumL L cap F
theorem sumK_cons (L:List ScD)(cap:ByteArray)(x:FlD)(F:List FlD):∀n:Nat,sumK L (x::F) cap (n+1)=valF L cap x+sumK L F cap n
 | 0=>by simp [sumK,geta]
 | n+1=>by
  have ih:=sumK_cons L cap x F n;show sumK L (x::F) cap (n+1)+valF L cap (geta (x::F) ((n+1:Nat):Int))=valF L cap x+(sumK L F cap n+valF L cap (geta F (n:Int)));rw [ih];have e:geta (x::F) ((n+1:Nat):Int)=geta F (n:Int):=by
   unfold geta;rw [Int.toNat_natCast,Int.toNat_natCast,List.getElem?_cons_succ]
  rw [e];omega
theorem sumK_sumL (L:List ScD)(cap:ByteArray):∀F:List FlD,sumK L F cap F.length=sumL L cap F
 | []=>rfl
 | x::F=>by rw [List.length_cons,sumK_cons,sumK_sumL L cap F];rfl
theorem sumL_fills {S:List SlD}{L:List ScD}(hr:ScRise L)(hsc:scorersE L=0):∀(l:List (Option Nat)) (i:Nat),(∀k,some k∈l→k<L.length)→sumL L ⟨#[]⟩ (fillsOf S L i l)=valM (hnK L) (pairsF i l)
 | [],_,_=>rfl
 | none::l,i,h=>by
  have ih:=sumL_fills (S:=S) hr hsc l (i+1) (fun k hk=>h k (List.mem_cons_of_mem _ hk));show valF L ⟨#[]⟩ ⟨(geta S (i:Int)).key,⟨#[]⟩⟩+sumL L ⟨#[]⟩ (fillsOf S L (i+1) l)=valM (hnK L) (pairsF (i+1) l);rw [ih,show valF L ⟨#[]⟩ ⟨(geta S (i:Int)).key,⟨#[]⟩⟩=0 from if_pos rfl];omega
 | some k::l,i,h=>by
  have ih:=sumL_fills (S:=S) hr hsc l (i+1) (fun k hk=>h k (List.mem_cons_of_mem _ hk));have hk:=h k (by simp);have hne:=pl_ne hsc hk;show valF L ⟨#[]⟩ ⟨(geta S (i:Int)).key,(geta L (k:Int)).pl⟩+sumL L ⟨#[]⟩ (fillsOf S L (i+1) l)=hnK L k+valM (hnK L) (pairsF (i+1) l);have hv:valF L ⟨#[]⟩ ⟨(geta S (i:Int)).key,(geta L (k:Int)).pl⟩=hnK L k:=by
   unfold valF;rw [if_neg hne,if_neg (show ¬(geta L (k:Int)).pl=(⟨#[]⟩:ByteArray)from hne)];unfold hxS hnK;rw [show scIdx L (⟨(geta S (i:Int)).key,(geta L (k:Int)).pl⟩:FlD).pl=(k:Int)from scIdx_at hr hk]
  rw [ih,hv]
theorem better_ref (x y:LuR)(sx sy:Value)(w:World)(hx:Row w 0 1 sx x.who.length (cellsOf encSt x.who))(hy:Row w 0 1 sy y.who.length (cellsOf encSt y.who))(hnx:x.who.length≤1000)(hny:y.who.length≤1000):
  Calls Tryz.prog 62 #[.agg #[.int .i64 x.sum,.int .i64 x.many,sx],.agg #[.int .i64 y.sum,.int .i64 y.many,sy]] w fun e w'=>e=.returned (.bool (betterB x y))∧Below w.heap.size w w':=by
 obtain⟨x1,x2,x3⟩:=x;obtain⟨y1,y2,y3⟩:=y;simp only at hx hy hnx hny ⊢;obtain⟨p1,c1,rfl⟩:=hx.shape;obtain⟨p2,c2,rfl⟩:=hy.shape;have hw1:=(Below.refl w.heap.size w).alloc (Nat.le_refl _) (.cells #[.int .i64 x1,.int .i64 x2,.slice p1 x3.length c1] 103);have hw2:=hw1.alloc (by simp) (.cells #[.int .i64 y1,.int .i64 y2,.slice p2 y3.length c2] 103);have HC:=Lib.hid (compare_strs (.slice p1 x3.length c1) (.slice p2 y3.length c2) x3 y3 _ (hx.below hw2) (hy.below hw2) hnx hny);have HW:=Lib.hid hw2;have hb1:=(Below.refl (w.alloc (.cells #[.int .i64 x1,.int .i64 x2,.slice p1 x3.length c1] 103)).heap.size (w.alloc (.cells #[.int .i64 x1,.int .i64 x2,.slice p1 x3.length c1] 103))).alloc (Nat.le_refl _) (.cells #[.int .i64 y1,.int .i64 y2,.slice p2 y3.length c2] 103);have k0:=(hb1.cell (p:=⟨w.heap.size,0,none⟩) (by simp)).trans (cells_new w #[.int .i64 x1,.int .i64 x2,.slice p1 x3.length c1] 103 0 _ rfl);have k1:=(hb1.cell (p:=⟨w.heap.size,1,none⟩) (by simp)).trans (cells_new w #[.int .i64 x1,.int .i64 x2,.slice p1 x3.length c1] 103 1 _ rfl);have k2:=(hb1.cell (p:=⟨w.heap.size,2,none⟩) (by simp)).trans (cells_new w #[.int .i64 x1,.int .i64 x2,.slice p1 x3.length c1] 103 2 _ rfl);have m0:=cells_at (w.alloc (.cells #[.int .i64 x1,.int .i64 x2,.slice p1 x3.length c1] 103)) #[.int .i64 y1,.int .i64 y2,.slice p2 y3.length c2] 103 (w.heap.size+1) (by simp) 0 _ rfl;have m1:=cells_at (w.alloc (.cells #[.int .i64 x1,.int .i64 x2,.slice p1 x3.length c1] 103)) #[.int .i64 y1,.int .i64 y2,.slice p2 y3.length c2] 103 (w.heap.size+1) (by simp) 1 _ rfl;have m2:=cells_at (w.alloc (.cells #[.int .i64 x1,.int .i64 x2,.slice p1 x3.length c1] 103)) #[.int .i64 y1,.int .i64 y2,.slice p2 y3.length c2] 103 (w.heap.size+1) (by simp) 2 _ rfl;clear hx hy hw1 hw2 hb1 hnx hny
 by_cases h1:x1=y1
 ·by_cases h2:x2=y2
  ·have HQ:=Lib.hid (show decide (cmpL x3 y3<0)=betterB ⟨x1,x2,x3⟩ ⟨y1,y2,y3⟩by unfold betterB;simp [h1,h2]);subst h1;subst h2;generalize cmpL x3 y3=cc at *;generalize betterB ⟨x1,x2,x3⟩ ⟨x1,x2,y3⟩=bb at *
   go_enter Tryz.func62,Tryz.ntmps62
   go_wp2_with fail
   refine HC.out.mono ?_;rintro e w1 ⟨rfl,rfl⟩;go_wp2_with fail
   go_ret
   exact⟨ret_bool HQ.out,HW.out⟩
  ·have HQ:=Lib.hid (show decide (x2<y2)=betterB ⟨x1,x2,x3⟩ ⟨y1,y2,y3⟩by unfold betterB;simp [h1,h2]);have hne:(x2 != y2)=true:=by simpa using h2
   subst h1;clear h2 HC;generalize betterB ⟨x1,x2,x3⟩ ⟨x1,y2,y3⟩=bb at *
   go_enter Tryz.func62,Tryz.ntmps62
   go_wp2_with fail
   go_ret
   exact⟨ret_bool HQ.out,HW.out⟩
 ·have HQ:=Lib.hid (show decide (y1<x1)=betterB ⟨x1,x2,x3⟩ ⟨y1,y2,y3⟩by unfold betterB;simp [h1]);have hne:(x1 != y1)=true:=by simpa using h1
  clear h1 HC;generalize betterB ⟨x1,x2,x3⟩ ⟨y1,y2,y3⟩=bb at *
  go_enter Tryz.func62,Tryz.ntmps62
  go_wp2_with fail
  go_ret
  exact⟨ret_bool HQ.out,HW.out⟩
end Go.Proofs.YtnmdpphddimfbaaGreat
/-
  The map of the reference's best ways, while it fills. No condition.
-/
namespace Go.Proofs.YtnmdpphddimfbaaGreat
open Go.RowKit Go.Bw Go.Maps Go.ChangeMaps Go.MapKept
open Go.WideElems (Fit)
theorem arr_key:Go.WideMaps.ArrKey Tryz.prog 105 3 2:=⟨by kernel_rfl,by kernel_rfl,by kernel_rfl,by kernel_rfl⟩
theorem arr_keyed:Keyed Tryz.prog 105:=Keyed.of_law arr_key.law
theorem und_memo:Tryz.prog.underlying 100=some (.map 105 103):=by kernel_rfl
def keyV (i u:Nat):Value:=.agg #[.int .i64 (i:Int),.int .i64 (u:Int)]
theorem key_some:∀ i:Nat,i<5→∀u:Nat,u<64→(keyOf Tryz.prog 105 (keyV i u)).isSome=true:=by decide +kernel
theorem key_ok {i u:Nat}(hi:i<5)(hu:u<64):∃kl,keyOf Tryz.prog 105 (keyV i u)=some kl:=Option.isSome_iff_exists.1 (key_some i hi u hu)
theorem keyV_inj {i u i' u':Nat}(h:keyV i u=keyV i' u'):i=i'∧u=u':=by
 unfold keyV at h;simp at h;omega
/-- A way in memory. -/
def LuV (m:Nat)(w:World)(x:LuR)(v:Value):Prop:=∃sv,v=.agg #[.int .i64 x.sum,.int .i64 x.many,sv]∧RHd 9 m w.heap.size w x.who.length sv (cellsOf encSt x.who)
def bitU (u:Nat):Nat→Bool:=fun j=>u.testBit j
def luM (S:List SlD)(L:List ScD)(i u:Nat):LuR:=luS S L (S.length-i) i (bitU u)
def memR:Value→Option (DataW Unit×List MemPlace):=fun _=>some (.nil,[])
/-- The map: each entry is the best way of its key. -/
def MapL (w:World)(m n:Nat)(S:List SlD)(L:List ScD):Prop :=
 ∃es clock,w.heap[m]?=some (.map es clock)∧Fit Tryz.prog 105 memR es clock∧es.size≤n∧∀e∈es.toList,∃i u:Nat,e.key=keyV i u∧LuV m w (luM S L i u) e.val
/-- Block m is a map. -/
def IsM (w:World)(m:Nat):Prop:=∃es clock,w.heap[m]?=some (.map es clock)
theorem MapL.ism {w:World}{m n:Nat}{S:List SlD}{L:List ScD}(h:MapL w m n S L):IsM w m:=by
 obtain⟨es,cl,h,_⟩:=h;exact⟨es,cl,h⟩
section
variable {w w':World}{m n:Nat}{S:List SlD}{L:List ScD}
theorem IsM.cell (h:IsM w m){A i:Nat}{v:Value}(hc:w.cell? ⟨A,i,none⟩=some v):A≠m:=by
 obtain⟨es,cl,hb⟩:=h;rintro rfl;simp [World.cell?,hb]at hc
section
variable (h:IsM w m)(g:w.grownBy w' (some m))
include h g
theorem IsM.keep {A i:Nat}{v:Value}(hc:w.cell? ⟨A,i,none⟩=some v):w'.cell? ⟨A,i,none⟩=some v :=
 (World.cell?_of_block (a:=⟨A,i,none⟩) (g.block A (World.block_lt_of_cell? w _ hc) (fun e=>h.cell hc (by cases e;rfl)))).trans hc
theorem IsM.row {sz n:Nat}{v:Value}{cs:List Value}(hr:Row w 0 sz v n cs):Row w' 0 sz v n cs:=by
 refine⟨hr.1,?_⟩;rcases hr.2 with h2|⟨b,off,cap,rfl,hb,hl,hn,hc,hcell⟩
 ·exact .inl h2
 ·exact .inr ⟨b,off,cap,rfl,hb,Nat.lt_of_lt_of_le hl g.size,hn,hc,fun i u hu=>h.keep g (hcell i u hu)⟩
end
theorem LuV.keep {x:LuR}{v:Value}(hv:LuV m w x v)(g:w.grownBy w' (some m)):LuV m w' x v:=by
 obtain⟨sv,e,hr⟩:=hv;exact⟨sv,e,(hr.str g).mono g.size⟩
theorem LuV.below {x:LuR}{v:Value}(hv:LuV m w x v)(g:Below w.heap.size w w'):LuV m w' x v:=by
 obtain⟨sv,e,hr⟩:=hv;exact⟨sv,e,(hr.under g).mono g.size⟩
/-- Growth beside the map. -/
theorem MapL.below (h:MapL w m n S L)(g:Below w.heap.size w w'):MapL w' m n S L:=by
 have hm:=h.ism;obtain⟨es,cl,hb,F,hs,he⟩:=h;have hlt:m<w.heap.size:=(Array.getElem?_eq_some_iff.1 hb).1;have gr:=grown_of_below (row:=none) g;refine⟨es,cl,(gr.block m hlt (by simp)).trans hb,F,hs,fun e h1=>?_⟩;obtain⟨i,u,h2,h3⟩:=he e h1;exact⟨i,u,h2,h3.below g⟩
theorem MapL.mono {n':Nat}(h:MapL w m n S L)(hn:n≤n'):MapL w m n' S L:=by
 obtain⟨es,cl,hb,F,hs,he⟩:=h;exact⟨es,cl,hb,F,Nat.le_trans hs hn,he⟩
theorem MapL.made (w:World):MapL (w.alloc (.map #[] 0)) w.heap.size 0 S L:=by
 obtain⟨es,cl,hb,F,hs,_⟩:=World.ownsMap_made w Tryz.prog 105 memR;have:es.size=0:=by omega
 have he:es=#[]:=Array.eq_empty_of_size_eq_zero this;subst he;exact⟨#[],cl,hb,F,Nat.le_refl _,fun e h1=>by simp at h1⟩
theorem zero_lu (w:World):(zeroValue 103).run Tryz.prog w=.ok (.agg #[.int .i64 0,.int .i64 0,.slice none 0 0]) w:=by kernel_rfl
section
variable (h:MapL w m n S L){i u:Nat}(hi:i<5)(hu:u<64)
include h hi hu
theorem MapL.look :
  (Instr.lookup 100 (.map (some m)) (keyV i u) true).run Tryz.prog w=.ok (.tuple #[.agg #[.int .i64 0,.int .i64 0,.slice none 0 0],.bool false]) w ∨
  ∃v,LuV m w (luM S L i u) v∧(Instr.lookup 100 (.map (some m)) (keyV i u) true).run Tryz.prog w=.ok (.tuple #[v,.bool true]) w:=by
 obtain⟨es,cl,hb,F,hs,he⟩:=h;obtain⟨kl,hkey⟩:=key_ok hi hu;rcases Maps.fit_look true arr_keyed und_memo (zero_lu w) hb F hkey with ⟨hrun,_,_⟩|⟨e0,y,h1,h2,hrun,_,_,_⟩
 ·exact .inl hrun
 ·obtain⟨i',u',h3,h4⟩:=he e0 h1;rw [h2]at h3;obtain⟨rfl,rfl⟩:=keyV_inj h3;exact .inr ⟨e0.val,h4,hrun⟩
theorem MapL.store (hn:n≤1000000){v:Value}(hv:LuV m w (luM S L i u) v):
  ∃w',(Instr.mapUpdate 100 (.map (some m)) (keyV i u) v).run Tryz.prog w=.ok () w'∧MapL w' m (n+1) S L∧w.grownBy w' (some m):=by
 obtain⟨es,cl,hb,F,hs,he⟩:=h;obtain⟨kl,hkey⟩:=key_ok hi hu;obtain⟨es',clock',hrun,F',hput,_,_,hall⟩:=Maps.fit_store (R':=memR) arr_keyed und_memo hb F (by unfold maxLen;omega) (fun _ _ _ _ hz=>hz) hkey (yv:=(.nil,[])) rfl;have gr:w.grownBy (setBlock w m (.map es' clock')) (some m):=⟨rfl,rfl,rfl,by simp [setBlock],fun i _ hi=>heap_setBlock_other hb _ (fun e=>hi (by rw [e]))⟩
 refine⟨_,hrun,⟨es',clock',heap_setBlock_same hb _,F',?_,fun e h1=>?_⟩,gr⟩
 ·have e1:es'.size=((es'.toList.map (Go.WideElems.rg Tryz.prog 105 memR)).foldr DataW.insert []).length:=by rw [length_sorted];simp
  rw [e1,hput];unfold putKey;rw [length_insert];have e2:=List.length_filter_le (notKey kl) ((es.toList.map (Go.WideElems.rg Tryz.prog 105 memR)).foldr DataW.insert []);rw [length_sorted]at e2;simp at e2;omega
 ·rcases hall e h1 with ⟨h2,_⟩|⟨h2,h3⟩
  ·obtain⟨i',u',h4,h5⟩:=he e h2;exact⟨i',u',h4,h5.keep gr⟩
  ·exact⟨i,u,h2,by rw [h3];exact hv.keep gr⟩
end
/-- A store into a row of another type. -/
theorem MapL.other (h:MapL w m n S L){base e sz k:Nat}{v:Value}{xs:List Value}(ho:w.ownsRow base e sz v k xs)(he:9≠e)(hb:m<base)(g:w.grownBy w' v.ownBlock):MapL w' m n S L:=by
 obtain⟨es,cl,hb',F,hs,hen⟩:=h;have hlt:m<w.heap.size:=(Array.getElem?_eq_some_iff.1 hb').1;refine⟨es,cl,(g.block m hlt (fun q=>by have:=(ho.lt m q.symm).1;omega)).trans hb',F,hs,fun x hx=>?_⟩;obtain⟨i,u,h2,sv,h3,h4⟩:=hen x hx;exact⟨i,u,h2,sv,h3,(h4.other ho he g).mono g.size⟩
/-- The cells of a box of a way. -/
structure Bx3 (m:Nat)(w:World)(g:Nat)(x:LuR)(sv:Value):Prop where
 c0:w.cell? ⟨g,0,none⟩=some (.int .i64 x.sum)
 c1:w.cell? ⟨g,1,none⟩=some (.int .i64 x.many)
 c2:w.cell? ⟨g,2,none⟩=some sv
 r:RHd 9 m w.heap.size w x.who.length sv (cellsOf encSt x.who)
theorem Bx3.below {g:Nat}{x:LuR}{sv:Value}(h:Bx3 m w g x sv)(b:Below w.heap.size w w'):Bx3 m w' g x sv :=
 ⟨(b.cell (World.block_lt_of_cell? w _ h.c0)).trans h.c0,(b.cell (World.block_lt_of_cell? w _ h.c1)).trans h.c1,(b.cell (World.block_lt_of_cell? w _ h.c2)).trans h.c2,(h.r.under b).mono b.size⟩
/-- A box of the call's own, that holds a way. -/
structure BxO (m base:Nat)(w:World)(g:Nat)(x:LuR)(sv:Value):Prop where
 o:w.ownsRow base 103 3 (.slice (some ⟨g,0,none⟩) 1 1) 1 [.int .i64 x.sum,.int .i64 x.many,sv]
 r:RHd 9 m w.heap.size w x.who.length sv (cellsOf encSt x.who)
section
variable {base g:Nat}{x:LuR}{sv:Value}(h:BxO m base w g x sv)
include h
theorem BxO.b:Bx3 m w g x sv:=by
 rcases(Row.of_owns h.o).2 with ⟨h0,_⟩|⟨g',off,cap,hv,_,_,_,_,hc⟩
 ·cases h0
 ·simp only [Value.slice.injEq,Option.some.injEq,Addr.mk.injEq]at hv;obtain⟨⟨rfl,rfl,_⟩,_,_⟩:=hv;exact⟨hc 0 _ rfl,hc 1 _ rfl,hc 2 _ rfl,h.r⟩
theorem BxO.below (b:Below w.heap.size w w'):BxO m base w' g x sv:=⟨owns_below h.o b (Nat.le_refl _),(h.r.under b).mono b.size⟩
theorem BxO.keep (gr:w.grownBy w' (some m))(hm:m<base):BxO m base w' g x sv :=
 ⟨h.o.kept gr (.inr (fun e=>by have:=(h.o.lt m e).1;omega)),(h.r.str gr).mono gr.size⟩
end
/-- A way is put into a box of the call's own. -/
theorem BxO.put {base g:Nat}{a b c:Value}(h:w.ownsRow base 103 3 (.slice (some ⟨g,0,none⟩) 1 1) 1 [a,b,c]){y:LuR}{sy:Value}(hr:RHd 9 m w.heap.size w y.who.length sy (cellsOf encSt y.who)):
  BxO m base (((w.setCell ⟨g,0,none⟩ (.int .i64 y.sum)).setCell ⟨g,1,none⟩ (.int .i64 y.many)).setCell ⟨g,2,none⟩ sy) g y sy:=by
 have o1:=owns_setC h 0 (by omega) (.int .i64 y.sum);have o2:=owns_setC o1 1 (by omega) (.int .i64 y.many);have o3:=owns_setC o2 2 (by omega) sy;have g1:=grown_setCell w g 0 (.int .i64 y.sum);have g2:=grown_setCell (w.setCell ⟨g,0,none⟩ (.int .i64 y.sum)) g 1 (.int .i64 y.many);have g3:=grown_setCell ((w.setCell ⟨g,0,none⟩ (.int .i64 y.sum)).setCell ⟨g,1,none⟩ (.int .i64 y.many)) g 2 sy;exact⟨o3,(((hr.other h (by decide) g1).other o1 (by decide) g2).other o2 (by decide) g3).mono (Nat.le_trans g1.size (Nat.le_trans g2.size g3.size))⟩
theorem MapL.put3 {base g:Nat}{a b c:Value}(hm:MapL w m n S L)(h:w.ownsRow base 103 3 (.slice (some ⟨g,0,none⟩) 1 1) 1 [a,b,c])(hb:m<base)(x y z:Value):
  MapL (((w.setCell ⟨g,0,none⟩ x).setCell ⟨g,1,none⟩ y).setCell ⟨g,2,none⟩ z) m n S L:=by
 have o1:=owns_setC h 0 (by omega) x;have o2:=owns_setC o1 1 (by omega) y;exact((hm.other h (by decide) hb (grown_setCell w g 0 x)).other o1 (by decide) hb (grown_setCell _ g 1 y)).other o2 (by decide) hb (grown_setCell _ g 2 z)
/-- What the reference's function of itself sees. -/
structure ClX (w:World)(b2 b3 b4 b5 m n:Nat)(vs:Value)(S:List SlD)(vl:Value)(L:List ScD):Prop where
 c2:w.cell? ⟨b2,0,none⟩=some vs
 c3:w.cell? ⟨b3,0,none⟩=some (.map (some m))
 c4:w.cell? ⟨b4,0,none⟩=some (.func (.func 61) #[] #[.pointer (some ⟨b2,0,none⟩),.pointer (some ⟨b3,0,none⟩),.pointer (some ⟨b4,0,none⟩),.pointer (some ⟨b5,0,none⟩)])
 c5:w.cell? ⟨b5,0,none⟩=some vl
 s:SlH w vs S
 c:ScH w vl L
 mp:MapL w m n S L
theorem ClX.grow {b2 b3 b4 b5 n':Nat}{vs vl:Value}(h:ClX w b2 b3 b4 b5 m n vs S vl L)(g:w.grownBy w' (some m))(mp:MapL w' m n' S L):ClX w' b2 b3 b4 b5 m n' vs S vl L:=by
 have hm:=h.mp.ism;exact⟨hm.keep g h.c2,hm.keep g h.c3,hm.keep g h.c4,hm.keep g h.c5,⟨hm.row g h.s.r,fun x hx=>⟨hm.row g (h.s.p x hx).r,(h.s.p x hx).z,(h.s.p x hx).n⟩,h.s.z,h.s.n⟩,
  ⟨hm.row g h.c.r,fun x hx=>⟨hm.row g (h.c.p x hx).r,(h.c.p x hx).z,(h.c.p x hx).n⟩,h.c.z,h.c.i,h.c.n⟩,mp⟩
/-- The world within a call: what was there is there but for the map. -/
structure ClS (w0 w:World)(m n:Nat)(S:List SlD)(L:List ScD):Prop where
 g:w0.grownBy w (some m)
 mp:MapL w m n S L
section
variable {w0:World}
include w0
theorem ClS.below (h:ClS w0 w m n S L)(b:Below w.heap.size w w'):ClS w0 w' m n S L:=⟨grown_trans h.g (grown_of_below b),h.mp.below b⟩
theorem ClS.call {n':Nat}(h:ClS w0 w m n S L)(g:w.grownBy w' (some m))(mp:MapL w' m n' S L):ClS w0 w' m n' S L:=⟨grown_trans h.g g,mp⟩
theorem grown_newer {g:Nat}{row:Option Nat}(h:w0.grownBy w row)(hg:w0.heap.size≤g)(gr:w.grownBy w' (some g)):w0.grownBy w' row :=
 ⟨gr.os.trans h.os,gr.tape.trans h.tape,gr.output.trans h.output,Nat.le_trans h.size gr.size,fun k hk hne=>by
  rw [gr.block k (Nat.lt_of_lt_of_le hk h.size) (fun e=>by cases e;omega),h.block k hk hne]⟩
theorem ClS.put3 {g:Nat}{a b c:Value}(h:ClS w0 w m n S L)(ho:w.ownsRow w0.heap.size 103 3 (.slice (some ⟨g,0,none⟩) 1 1) 1 [a,b,c])(hb:m<w0.heap.size)(x y z:Value):
  ClS w0 (((w.setCell ⟨g,0,none⟩ x).setCell ⟨g,1,none⟩ y).setCell ⟨g,2,none⟩ z) m n S L:=by
 have hg:=(ho.lt g rfl).1;exact⟨grown_newer (grown_newer (grown_newer h.g hg (grown_setCell w g 0 x)) hg (grown_setCell _ g 1 y)) hg (grown_setCell _ g 2 z),h.mp.put3 ho hb x y z⟩
theorem ClS.x {b2 b3 b4 b5 n0:Nat}{vs vl:Value}(h:ClS w0 w m n S L)(h0:ClX w0 b2 b3 b4 b5 m n0 vs S vl L):ClX w b2 b3 b4 b5 m n vs S vl L:=h0.grow h.g h.mp
end
/-- A box of the call's own stays while another one is written. -/
theorem owns_put3 {base g g':Nat}{a b c:Value}{e:TypeId}{sz k:Nat}{cs:List Value}(h:w.ownsRow base e sz (.slice (some ⟨g',0,none⟩) k k) k cs)(hne:g'≠g)(x y z:Value):
  (((w.setCell ⟨g,0,none⟩ x).setCell ⟨g,1,none⟩ y).setCell ⟨g,2,none⟩ z).ownsRow base e sz (.slice (some ⟨g',0,none⟩) k k) k cs:=by
 have hn:(Value.slice (some ⟨g',0,none⟩) k k).ownBlock≠some g:=by simpa [Value.ownBlock] using hne
 exact((h.kept (grown_setCell w g 0 x) (.inr hn)).kept (grown_setCell _ g 1 y) (.inr hn)).kept (grown_setCell _ g 2 z) (.inr hn)
end
end Go.Proofs.YtnmdpphddimfbaaGreat
