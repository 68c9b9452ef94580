/-
  Contracts and lemmas towards the statement, of several parts; each part says ahead of it what it holds and under which conditions.
-/
import Derived.Test.YtnmdpphddimfbaaGreatMg2
set_option maxRecDepth 100000
set_option maxHeartbeats 1000000
set_option linter.unusedSectionVars false
/-
  Line-ups: what is wrong with scorers (CheckScorers, ScorersFault). Conditions: at most 1000 scorers; strings of at most 1000 bytes; whole numbers are Go's.
-/
set_option linter.unusedVariables false
namespace Go.Proofs.YtnmdpphddimfbaaGreat
open Go.RowKit Go.Bw
/-- A scorer in a box. -/
structure ScB (w:World)(g:Nat)(x:ScD):Prop where
 c0:w.cell? ⟨g,0,none⟩=some (.string x.pl)
 c1:w.cell? ⟨g,1,none⟩=some x.pv
 c2:w.cell? ⟨g,2,none⟩=some (.int .i64 x.num)
 c3:w.cell? ⟨g,3,none⟩=some (.int .i64 x.den)
 c4:w.cell? ⟨g,4,none⟩=some (.bool x.pd)
theorem ScB.new (w:World)(x:ScD)(e:TypeId):ScB (w.alloc (.cells #[.string x.pl,x.pv,.int .i64 x.num,.int .i64 x.den,.bool x.pd] e)) w.heap.size x :=
 ⟨cells_new w _ _ 0 _ rfl,cells_new w _ _ 1 _ rfl,cells_new w _ _ 2 _ rfl,cells_new w _ _ 3 _ rfl,cells_new w _ _ 4 _ rfl⟩
theorem ScB.below {w w':World}{g:Nat}{x:ScD}(h:ScB w g x)(b:Below w.heap.size w w'):ScB w' g x :=
 ⟨(b.cell (World.block_lt_of_cell? w _ h.c0)).trans h.c0,(b.cell (World.block_lt_of_cell? w _ h.c1)).trans h.c1,(b.cell (World.block_lt_of_cell? w _ h.c2)).trans h.c2,(b.cell (World.block_lt_of_cell? w _ h.c3)).trans h.c3,(b.cell (World.block_lt_of_cell? w _ h.c4)).trans h.c4⟩
theorem scorersE_big {L:List ScD}(h:20<L.length):scorersE L=2:=by unfold scorersE;rw [if_pos h]
theorem scorersE_hit {L:List ScD}(h:L.length≤20){k:Int}(h0:0≤k)(h1:k<L.length)(hn:NoErr (scorerAt L) k)(hk:scorerAt L k≠0):scorersE L=scorerAt L k:=by unfold scorersE;rw [if_neg (by omega)];exact firstErr_hit hn h0 h1 hk
theorem scorersE_ok {L:List ScD}(h:L.length≤20)(hn:NoErr (scorerAt L) L.length):scorersE L=0:=by unfold scorersE;rw [if_neg (by omega)];exact firstErr_none hn
/-- What is wrong with positions and points. -/
def ppE (x:ScD):Int:=if posE x.ps≠0 then posE x.ps else amountE x.num x.den 10000
theorem scAt_key {L:List ScD}{k:Int}(h:keyB (geta L k).pl=false):scorerAt L k=5:=by unfold scorerAt;rw [if_pos h]
section
variable {L:List ScD}{k:Int}(h:keyB (geta L k).pl=true)
include h
theorem scAt_ord (h':ordBad L k=true):scorerAt L k=7:=by unfold scorerAt;rw [if_neg (by rw [h];decide),if_pos h']
theorem scAt_pp (h':ordBad L k=false):scorerAt L k=ppE (geta L k):=by unfold scorerAt ppE;rw [if_neg (by rw [h];decide),if_neg (by rw [h'];decide)]
end
/-- The one before. -/
def lastS (L:List ScD)(k:Int):ByteArray:=if k≤0 then⟨#[]⟩else(geta L (k-1)).pl
theorem lastS_succ (L:List ScD){k:Int}(h:0≤k):lastS L (k+1)=(geta L k).pl:=by
 unfold lastS;rw [if_neg (by omega),show k+1-1=k by omega]
theorem ord_last {L:List ScD}{k:Int}(hk:0≤k)(h:keyB (geta L k).pl=true):leB (geta L k).pl (lastS L k)=ordBad L k:=by
 unfold lastS ordBad
 by_cases h0:k≤0
 ·rw [if_pos h0];have e:decide (0<k)=false:=by simp;omega
  rw [e];have hne:(geta L k).pl≠⟨#[]⟩:=fun e=>by rw [e,keyB_empty rfl]at h;cases h
  have h1:=toList_ne hne;have e2:(⟨#[]⟩:ByteArray).toList=[]:=by rw [ByteArray.toList_eq]
  unfold leB;rw [h1,e2];cases (geta L k).pl.toList <;> rfl
 ·rw [if_neg h0];have e:decide (0<k)=true:=by simp;omega
  rw [e];rfl
noncomputable def cpP:Code:=(Tryz.f24.body).getD .skip
theorem fr_cpP (f:Nat→Value):frame 47 f=⟨#[f 0,f 1,f 2,f 3,f 4,f 5,f 6,f 7,f 8,f 9,f 10,f 11,f 12,f 13,f 14,f 15,f 16,f 17,f 18,f 19,f 20,f 21,f 22,f 23,f 24,f 25,f 26,f 27,f 28,f 29,f 30,f 31,f 32,f 33,f 34,f 35,f 36,f 37,f 38,f 39,f 40,f 41,f 42,f 43,f 44,f 45,f 46],[]⟩:=by rfl
section
variable (w0:World)(v:Value)(L:List ScD)(h:ScH w0 v L)
include h
theorem cp0:T3 Tryz.prog (fun a w=>(Below w0.heap.size w0 w)∧Fr 47 [(0,v)] a) (sel [0] cpP) (fun a w=>(Below w0.heap.size w0 w)∧Fr 47 [(0,v)] a) No 9 (fun a w=>Fr 47 [(2,.int .i64 (scorersE L))] a∧Below w0.heap.size w0 w):=by
 refine T3.leaf ?_;rintro Q JS JX JT K hS hK hX hE hT hR a w ⟨hW,⟨fr,rfl,q0,_⟩⟩;have HW:=Lib.hid hW;have hsn:=h.n;obtain⟨p1,c1,rfl⟩:=h.r.shape;clear hW;rw [fr_cpP,fe q0];clear q0;conv=>arg 2;whnf
 go_wp2_with fail
 refine Met.intro (hS _ _ ?_);exact⟨HW.out,Fr.of _ rfl ⟨rfl,trivial⟩⟩
theorem cp1:T3 Tryz.prog (fun a w=>(Below w0.heap.size w0 w)∧Fr 47 [(0,v)] a) (sel [1,0,0] cpP) (fun a w=>∃q,Fr 47 ((8,.bool q)::[(0,v)]) a∧((q=decide ((20:Int)<(L.length:Int)))∧Below w0.heap.size w0 w)) No 9 (fun a w=>Fr 47 [(2,.int .i64 (scorersE L))] a∧Below w0.heap.size w0 w):=by
 refine T3.leaf ?_;rintro Q JS JX JT K hS hK hX hE hT hR a w ⟨hW,⟨fr,rfl,q0,_⟩⟩;have HW:=Lib.hid hW;have hsn:=h.n;obtain⟨p1,c1,rfl⟩:=h.r.shape;clear hW;rw [fr_cpP,fe q0];clear q0;conv=>arg 2;whnf
 go_wp2_with fail
 refine Met.intro (hS _ _ ?_);exact⟨_,Fr.r rfl rfl,rfl,HW.out⟩
theorem cp2:T3 Tryz.prog (fun a w=>(Below w0.heap.size w0 w)∧Fr 47 [(0,v)] a) (sel [1,0,1,2,0] cpP) (fun a w=>(Below w0.heap.size w0 w)∧Fr 47 [(2,.int .i64 2)] a) No 9 (fun a w=>Fr 47 [(2,.int .i64 (scorersE L))] a∧Below w0.heap.size w0 w):=by
 refine T3.leaf ?_;rintro Q JS JX JT K hS hK hX hE hT hR a w ⟨hW,⟨fr,rfl,q0,_⟩⟩;have HW:=Lib.hid hW;have hsn:=h.n;obtain⟨p1,c1,rfl⟩:=h.r.shape;clear hW;rw [fr_cpP,fe q0];clear q0;conv=>arg 2;whnf
 go_wp2_with fail
 refine Met.intro (hS _ _ ?_);exact⟨HW.out,Fr.of _ rfl ⟨rfl,trivial⟩⟩
theorem cp5 (h20:L.length≤20):T3 Tryz.prog (fun a w=>(Below w0.heap.size w0 w)∧Fr 47 [(0,v)] a) (sel [1,1,0,0] cpP) (fun a w=>(0≤(0:Int)∧(0:Int)≤L.length)∧(NoErr (scorerAt L) 0)∧(Below w0.heap.size w0 w)∧Fr 47 [(0,v),(9,v),(10,.int .i64 L.length),(11,.int .i64 0)] a) No 9 (fun a w=>Fr 47 [(2,.int .i64 (scorersE L))] a∧Below w0.heap.size w0 w):=by
 refine T3.leaf ?_;rintro Q JS JX JT K hS hK hX hE hT hR a w ⟨hW,⟨fr,rfl,q0,_⟩⟩;have HW:=Lib.hid hW;have hsn:=h.n;obtain⟨p1,c1,rfl⟩:=h.r.shape;clear hW;rw [fr_cpP,fe q0];clear q0;conv=>arg 2;whnf
 go_wp2_with fail
 refine Met.intro (hS _ _ ?_);exact⟨⟨by omega,by omega⟩,NoErr.zero _,HW.out,Fr.r rfl rfl⟩
theorem cp7 (h20:L.length≤20)(k:Int):T3 Tryz.prog (fun a w=>((0≤k∧k<L.length)∧NoErr (scorerAt L) k)∧(Below w0.heap.size w0 w)∧Fr 47 [(0,v),(9,v),(10,.int .i64 L.length),(11,.int .i64 k)] a) (sel [1,1,0,1,4,4,1,1,0,4,0] cpP) (fun a w=>∃(g4:Nat),((0≤k∧k<L.length)∧NoErr (scorerAt L) k)∧(Below w0.heap.size w0 w∧ScB w g4 (geta L k))∧Fr 47 [(0,v),(3,.int .i64 k),(4,.pointer (some ⟨g4,0,none⟩)),(9,v),(10,.int .i64 L.length),(11,.int .i64 k)] a) No 9 (fun a w=>Fr 47 [(2,.int .i64 (scorersE L))] a∧Below w0.heap.size w0 w):=by
 refine T3.leaf ?_;rintro Q JS JX JT K hS hK hX hE hT hR a w ⟨hpre,hW,⟨fr,rfl,q0,q9,q10,q11,_⟩⟩;have hpp:=Lib.hid hpre;obtain⟨⟨hk0,hk1⟩,_⟩:=hpre;have hsn:=h.n;have hHW:=Lib.hid hW;obtain⟨_,hcs⟩:=(h.below hW).r.els encSc_length (by decide);rcases hcs with ⟨rfl,h0⟩|⟨bz,off,cap,rfl,_,hbz,hnc,hcm,hcell⟩
 ·omega
 have t0:=hcell k hk0 hk1 0 _ rfl;have t1:=hcell k hk0 hk1 1 _ rfl;have t2:=hcell k hk0 hk1 2 _ rfl;have t3:=hcell k hk0 hk1 3 _ rfl;have t4:=hcell k hk0 hk1 4 _ rfl;rw [Nat.add_zero]at t0;have HB:=Lib.hid (ScB.new w (geta L k) 77);have HA:=Lib.hid (fun o=>(Below.refl w.heap.size w).alloc (Nat.le_refl _) o);obtain⟨q,d,hq⟩:=(h.p _ (geta_mem hk0 hk1)).r.shape;clear hcell hW h;generalize geta L k=x at *;obtain⟨xk,xv,xps,xn,xd,xp⟩:=x;simp only at hq t0 t1 t2 t3 t4;subst hq;rw [fr_cpP,fe q0,fe q9,fe q10,fe q11];clear q0 q9 q10 q11;conv=>arg 2;whnf
 go_wp2_with fail
 refine Met.intro (hS _ _ ?_);exact⟨_,hpp.out,⟨hHW.out.trans ((HA.out _).mono hHW.out.size),HB.out⟩,Fr.r rfl rfl⟩
end
section
variable (w0:World)(v:Value)(L:List ScD)(h:ScH w0 v L)(h20:L.length≤20)(k:Int)(g4:Nat)
include h h20 k g4
theorem cp8:T3 Tryz.prog (fun a w=>((0≤k∧k<L.length)∧NoErr (scorerAt L) k)∧(Below w0.heap.size w0 w∧ScB w g4 (geta L k))∧Fr 47 [(0,v),(3,.int .i64 k),(4,.pointer (some ⟨g4,0,none⟩)),(9,v),(10,.int .i64 L.length),(11,.int .i64 k)] a) (sel [1,1,0,1,4,4,1,1,0,4,1,0,4,0] cpP) (fun a w=>∃q,Fr 47 ((16,.bool q)::[(0,v),(3,.int .i64 k),(4,.pointer (some ⟨g4,0,none⟩)),(9,v),(10,.int .i64 L.length),(11,.int .i64 k)]) a∧((((0≤k∧k<L.length)∧NoErr (scorerAt L) k)∧q=!keyB (geta L k).pl)∧Below w0.heap.size w0 w∧ScB w g4 (geta L k))) No 9 (fun a w=>Fr 47 [(2,.int .i64 (scorersE L))] a∧Below w0.heap.size w0 w):=by
 refine T3.leaf ?_;rintro Q JS JX JT K hS hK hX hE hT hR a w ⟨hpre,hW,⟨fr,rfl,q0,q3,q4,q9,q10,q11,_⟩⟩;have hpp:=Lib.hid hpre;obtain⟨⟨hk0,hk1⟩,_⟩:=hpre;have hsn:=h.n;have HW:=Lib.hid hW;have hz:=h.z _ (geta_mem hk0 hk1);have HK:=Lib.hid (key_prog (geta L k).pl w (by omega));have t0:=hW.2.c0;obtain⟨p1,c1,rfl⟩:=h.r.shape;clear h hW hz;generalize (geta L k).pl=x at *;generalize keyB x=q at *;rw [fr_cpP,fe q0,fe q3,fe q4,fe q9,fe q10,fe q11];clear q0 q3 q4 q9 q10 q11;conv=>arg 2;whnf
 go_wp2_with fail
 refine HK.out.mono ?_;rintro e w1 ⟨rfl,rfl⟩;go_wp2_with fail
 have hpre:=hpp.out;refine Met.intro (hS _ _ ?_);exact⟨_,Fr.r rfl rfl,⟨hpre,rfl⟩,HW.out⟩
theorem cp9:T3 Tryz.prog (fun a w=>(Below w0.heap.size w0 w∧ScB w g4 (geta L k))∧Fr 47 [(0,v),(3,.int .i64 k),(4,.pointer (some ⟨g4,0,none⟩)),(9,v),(10,.int .i64 L.length),(11,.int .i64 k)] a) (sel [1,1,0,1,4,4,1,1,0,4,1,0,4,1,2,0] cpP) (fun a w=>(Below w0.heap.size w0 w)∧Fr 47 [(2,.int .i64 5)] a) No 9 (fun a w=>Fr 47 [(2,.int .i64 (scorersE L))] a∧Below w0.heap.size w0 w):=by
 refine T3.leaf ?_;rintro Q JS JX JT K hS hK hX hE hT hR a w ⟨hW,⟨fr,rfl,q0,q3,q4,q9,q10,q11,_⟩⟩;have HW:=Lib.hid hW;clear hW;obtain⟨p1,c1,rfl⟩:=h.r.shape;rw [fr_cpP,fe q0,fe q3,fe q4,fe q9,fe q10,fe q11];clear q0 q3 q4 q9 q10 q11;conv=>arg 2;whnf
 go_wp2_with fail
 refine Met.intro (hS _ _ ?_);exact⟨HW.out.1,Fr.of _ rfl ⟨rfl,trivial⟩⟩
theorem cp10:T3 Tryz.prog (fun a w=>((0≤k∧k<L.length)∧NoErr (scorerAt L) k)∧(Below w0.heap.size w0 w∧ScB w g4 (geta L k))∧Fr 47 [(0,v),(3,.int .i64 k),(4,.pointer (some ⟨g4,0,none⟩)),(9,v),(10,.int .i64 L.length),(11,.int .i64 k)] a) (sel [1,1,0,1,4,4,1,1,0,4,1,0,4,1,3,0] cpP) (fun a w=>∃q,Fr 47 ((21,.bool q)::[(0,v),(3,.int .i64 k),(4,.pointer (some ⟨g4,0,none⟩)),(9,v),(10,.int .i64 L.length),(11,.int .i64 k)]) a∧((((0≤k∧k<L.length)∧NoErr (scorerAt L) k)∧q=ordBad L k)∧Below w0.heap.size w0 w∧ScB w g4 (geta L k))) No 9 (fun a w=>Fr 47 [(2,.int .i64 (scorersE L))] a∧Below w0.heap.size w0 w):=by
 refine T3.leafN ?_;rintro JS hS a w ⟨hpre,hW,⟨fr,rfl,q0,q3,q4,q9,q10,q11,_⟩⟩;have hpp:=Lib.hid hpre;obtain⟨⟨hk0,hk1⟩,_⟩:=hpre;have hsn:=h.n;have HW:=Lib.hid hW;have HW1:=Lib.hid (show Below w0.heap.size w0 w.drew∧ScB w.drew g4 (geta L k)from⟨hW.1.trans ((show Below w.heap.size w w.drew from below_drewN (Below.refl _ _) 1).mono hW.1.size),hW.2.below (below_drewN (Below.refl _ _) 1)⟩);have t0:=hW.2.c0;have hR:=(h.below hW.1).r
 by_cases hk:0<k
 ·obtain⟨_,hcs⟩:=hR.els encSc_length (by decide);rcases hcs with ⟨rfl,h0⟩|⟨bz,off,cap,rfl,_,hbz,hnc,hcm,hcell⟩
  ·omega
  have t1:=hcell (k-1) (by omega) (by omega) 0 _ rfl;rw [Nat.add_zero,show(k-1).toNat=k.toNat-1 by omega]at t1;have HE:=Lib.hid (show leB (geta L k).pl (geta L (k-1)).pl=ordBad L k by unfold ordBad;rw [show decide (0<k)=true by simp [hk]];rfl);have e1:IntKind.i64.wrap (k-1)=k-1:=IntWalk.i64_in _ (by omega);have i0:1≤k:=by omega
  have i1:k-1<L.length:=by omega
  have hkb:decide (0<k)=true:=by simp [hk]
  unfold leB at HE;clear hcell hR hW h;generalize (geta L k).pl=x at *;generalize (geta L (k-1)).pl=y at *;rw [fr_cpP,fe q0,fe q3,fe q4,fe q9,fe q10,fe q11];clear q0 q3 q4 q9 q10 q11;conv=>arg 2;whnf
  refine wp_region_mix (none) [(true,0),(true,1),(true,2),(true,3),(true,5),(true,6),(true,4),(true,7),(true,8),(true,9),(true,10),(true,11),(true,12),(true,13)] (by kernel_rfl) (by kernel_rfl) (by intro c a d v w h;cases d <;> exact h) ?_;simp only [pickFlat,List.filterMap_cons,List.filterMap_nil,List.getElem?_cons_succ,List.getElem?_cons_zero,Option.map_some];have A0:=wof_at (w₁:=w.drew) (row:=none) (a:=⟨g4,0,none⟩) t0 (by simp);have A1:=wof_at (w₁:=w.drew) (row:=none) (a:=⟨bz,off+(k.toNat-1)*5,none⟩) t1 (by simp);refine flat_hide (fun W hH hC hN hE=>?_)
  iterate 14 (refine hH.out _ _ _ _ (fun K hK=>?_);go_simp;refine hK _ ?_;clear hK K)
  refine hE.out _ _ ?_;clear hH hC hN hE W;show JS _ _;refine hS _ _ ?_;exact⟨_,Fr.r rfl rfl,⟨hpp.out,HE.out⟩,HW1.out⟩
 ·obtain rfl:k=0:=by omega
  have HE:=Lib.hid (show false=ordBad L 0 from rfl);obtain⟨p1,c1,rfl⟩:=h.r.shape;clear hR hW h hk;generalize (geta L 0).pl=x at *;rw [fr_cpP,fe q0,fe q3,fe q4,fe q9,fe q10,fe q11];clear q0 q3 q4 q9 q10 q11;conv=>arg 2;whnf
  refine wp_region_mix (none) [(true,0),(true,1),(true,2),(true,3),(true,5),(true,6),(true,4),(true,7),(true,8),(true,9),(true,10),(true,11),(true,12),(true,13)] (by kernel_rfl) (by kernel_rfl) (by intro c a d v w h;cases d <;> exact h) ?_;simp only [pickFlat,List.filterMap_cons,List.filterMap_nil,List.getElem?_cons_succ,List.getElem?_cons_zero,Option.map_some];have A0:=wof_at (w₁:=w.drew) (row:=none) (a:=⟨g4,0,none⟩) t0 (by simp);refine flat_hide (fun W hH hC hN hE=>?_)
  iterate 14 (refine hH.out _ _ _ _ (fun K hK=>?_);go_simp;refine hK _ ?_;clear hK K)
  refine hE.out _ _ ?_;clear hH hC hN hE W;show JS _ _;refine hS _ _ ?_;exact⟨_,Fr.r rfl rfl,⟨hpp.out,HE.out⟩,HW1.out⟩
theorem cp11:T3 Tryz.prog (fun a w=>(Below w0.heap.size w0 w∧ScB w g4 (geta L k))∧Fr 47 [(0,v),(3,.int .i64 k),(4,.pointer (some ⟨g4,0,none⟩)),(9,v),(10,.int .i64 L.length),(11,.int .i64 k)] a) (sel [1,1,0,1,4,4,1,1,0,4,1,0,4,1,3,1,2,0] cpP) (fun a w=>(Below w0.heap.size w0 w)∧Fr 47 [(2,.int .i64 7)] a) No 9 (fun a w=>Fr 47 [(2,.int .i64 (scorersE L))] a∧Below w0.heap.size w0 w):=by
 refine T3.leaf ?_;rintro Q JS JX JT K hS hK hX hE hT hR a w ⟨hW,⟨fr,rfl,q0,q3,q4,q9,q10,q11,_⟩⟩;have HW:=Lib.hid hW;clear hW;obtain⟨p1,c1,rfl⟩:=h.r.shape;rw [fr_cpP,fe q0,fe q3,fe q4,fe q9,fe q10,fe q11];clear q0 q3 q4 q9 q10 q11;conv=>arg 2;whnf
 go_wp2_with fail
 refine Met.intro (hS _ _ ?_);exact⟨HW.out.1,Fr.of _ rfl ⟨rfl,trivial⟩⟩
theorem cp12:T3 Tryz.prog (fun a w=>((0≤k∧k<L.length)∧NoErr (scorerAt L) k)∧(Below w0.heap.size w0 w∧ScB w g4 (geta L k))∧Fr 47 [(0,v),(3,.int .i64 k),(4,.pointer (some ⟨g4,0,none⟩)),(9,v),(10,.int .i64 L.length),(11,.int .i64 k)] a) (sel [1,1,0,1,4,4,1,1,0,4,1,1,0] cpP) (fun a w=>((0≤k∧k<L.length)∧NoErr (scorerAt L) k)∧(Below w0.heap.size w0 w∧ScB w g4 (geta L k))∧Fr 47 [(0,v),(3,.int .i64 k),(4,.pointer (some ⟨g4,0,none⟩)),(5,.int .i64 (ppE (geta L k))),(9,v),(10,.int .i64 L.length),(11,.int .i64 k)] a) No 9 (fun a w=>Fr 47 [(2,.int .i64 (scorersE L))] a∧Below w0.heap.size w0 w):=by
 refine T3.leafN ?_;rintro JS hS a w ⟨hpre,hW,⟨fr,rfl,q0,q3,q4,q9,q10,q11,_⟩⟩;have hpp:=Lib.hid hpre;obtain⟨⟨hk0,hk1⟩,_⟩:=hpre;have hsn:=h.n;have HW:=Lib.hid hW;have HW1:=Lib.hid (fun w' (hb:Below w.drew.heap.size w.drew w')=>(show Below w0.heap.size w0 w'∧ScB w' g4 (geta L k)from⟨hW.1.trans (((show Below w.heap.size w w.drew from below_drewN (Below.refl _ _) 1).trans hb).mono hW.1.size),hW.2.below ((show Below w.heap.size w w.drew from below_drewN (Below.refl _ _) 1).trans hb)⟩));have hbd:Below w.heap.size w w.drew:=below_drewN (Below.refl _ _) 1;have t1:=hW.2.c1;have t2:=hW.2.c2;have t3:=hW.2.c3;have hi:=h.i _ (geta_mem hk0 hk1);have HP:=Lib.hid (positions_prog (geta L k).pv (geta L k).ps w.drew (((h.p _ (geta_mem hk0 hk1)).below hW.1).below hbd));have HC:=Lib.hid (fun w' (_:Below w.drew.heap.size w.drew w')=>amount_prog (geta L k).num (geta L k).den 10000 w' hi.1 hi.2.1 hi.2.2.1 hi.2.2.2 (by decide) (by decide));have HN:=Lib.hid (fun w' x y=>first_prog2 _ _ [x,y] (es_new w' x y 35));have HF:=Lib.hid (show fstE [posE (geta L k).ps,amountE (geta L k).num (geta L k).den 10000]=ppE (geta L k)by rw [fst2];rfl);obtain⟨q,d,hq⟩:=(h.p _ (geta_mem hk0 hk1)).r.shape;obtain⟨p1,c1,rfl⟩:=h.r.shape;clear h hW hi hbd;generalize ppE (geta L k)=e0 at *;generalize posE (geta L k).ps=e1 at *;generalize amountE (geta L k).num (geta L k).den 10000=e2 at *;generalize hx:(geta L k).pv=x at *;subst hq;generalize (geta L k).num=xn at *;generalize (geta L k).den=xd at *;rw [fr_cpP,fe q0,fe q3,fe q4,fe q9,fe q10,fe q11];clear q0 q3 q4 q9 q10 q11;conv=>arg 2;whnf
 refine wp_region_mix (none) [(true,0),(true,3),(true,1),(true,4),(false,2),(false,5),(false,6),(false,7),(true,8)] (by kernel_rfl) (by kernel_rfl) (by intro c a d v w h;cases d <;> exact h) ?_;simp only [pickFlat,List.filterMap_cons,List.filterMap_nil,List.getElem?_cons_succ,List.getElem?_cons_zero,Option.map_some];have A1:=wof_at (w₁:=w.drew) (row:=none) (a:=⟨g4,1,none⟩) t1 (by simp);have A2:=wof_at (w₁:=w.drew) (row:=none) (a:=⟨g4,2,none⟩) t2 (by simp);have A3:=wof_at (w₁:=w.drew) (row:=none) (a:=⟨g4,3,none⟩) t3 (by simp);refine flat_hide (fun W hH hC hN hE=>?_)
 iterate 4 (refine hH.out _ _ _ _ (fun K hK=>?_);go_simp;refine hK _ ?_;clear hK K)
 refine hC.out _ _ _ _ (by first|rfl|go_simp) (fun K hK=>?_);simp only [bare];go_wp2_with fail
 refine(HP.out).mono ?_;rintro e w2 ⟨rfl,hb2⟩;have HB2:=Lib.hid hb2;have HC2:=Lib.hid (HC.out w2 hb2);go_wp2_with fail
 refine hK.out _ _ (grown_of_below HB2.out) ?_;clear hK K;refine hC.out _ _ _ _ (by first|rfl|go_simp) (fun K hK=>?_);simp only [bare];go_wp2_with fail
 refine(HC2.out).mono ?_;rintro e w3 ⟨rfl,hb3⟩;have HB3:=Lib.hid (HB2.out.trans (hb3.mono HB2.out.size));go_wp2_with fail
 refine hK.out _ _ (grown_of_below HB3.out) ?_;clear hK K;refine hC.out _ _ _ _ (by first|rfl|go_simp) (fun K hK=>?_);simp only [bare];go_wp2_with fail
 have HB4:=Lib.hid (HB3.out.alloc HB3.out.size (.cells #[.int .i64 e1,.int .i64 e2] 35));refine hK.out _ _ (grown_of_below HB4.out) ?_;clear hK K;refine hC.out _ _ _ _ (by first|rfl|go_simp) (fun K hK=>?_);simp only [bare];go_wp2_with fail
 refine(HN.out w3 e1 e2).mono ?_;rintro e w4 ⟨rfl,rfl⟩;go_wp2_with fail
 refine hK.out _ _ (grown_of_below HB4.out) ?_;clear hK K
 iterate 1 (refine hH.out _ _ _ _ (fun K hK=>?_);go_simp;refine hK _ ?_;clear hK K)
 refine hE.out _ _ ?_;clear hH hC hN hE W;show JS _ _;refine hS _ _ ?_;rw [HF.out];exact⟨hpp.out,HW1.out _ HB4.out,Fr.r rfl rfl⟩
theorem cp13:T3 Tryz.prog (fun a w=>((0≤k∧k<L.length)∧NoErr (scorerAt L) k)∧(Below w0.heap.size w0 w∧ScB w g4 (geta L k))∧Fr 47 [(0,v),(3,.int .i64 k),(4,.pointer (some ⟨g4,0,none⟩)),(5,.int .i64 (ppE (geta L k))),(9,v),(10,.int .i64 L.length),(11,.int .i64 k)] a) (sel [1,1,0,1,4,4,1,1,0,4,1,1,1,0] cpP) (fun a w=>∃q,Fr 47 ((44,.bool q)::[(0,v),(3,.int .i64 k),(4,.pointer (some ⟨g4,0,none⟩)),(5,.int .i64 (ppE (geta L k))),(9,v),(10,.int .i64 L.length),(11,.int .i64 k)]) a∧((((0≤k∧k<L.length)∧NoErr (scorerAt L) k)∧q=(ppE (geta L k) != 0))∧Below w0.heap.size w0 w∧ScB w g4 (geta L k))) No 9 (fun a w=>Fr 47 [(2,.int .i64 (scorersE L))] a∧Below w0.heap.size w0 w):=by
 refine T3.leaf ?_;rintro Q JS JX JT K hS hK hX hE hT hR a w ⟨hpre,hW,⟨fr,rfl,q0,q3,q4,q5,q9,q10,q11,_⟩⟩;have hpp:=Lib.hid hpre;obtain⟨⟨hk0,hk1⟩,_⟩:=hpre;have hsn:=h.n;have HW:=Lib.hid hW;obtain⟨p1,c1,rfl⟩:=h.r.shape;clear hW;generalize ppE (geta L k)=e0 at *;generalize hqq:(e0 != 0)=qq at *;rw [fr_cpP,fe q0,fe q3,fe q4,fe q5,fe q9,fe q10,fe q11];clear q0 q3 q4 q5 q9 q10 q11;conv=>arg 2;whnf
 go_wp2_with fail
 have hpre:=hpp.out;refine Met.intro (hS _ _ ?_);exact⟨_,Fr.r rfl rfl,⟨hpre,rfl⟩,HW.out⟩
theorem cp14:T3 Tryz.prog (fun a w=>(Below w0.heap.size w0 w∧ScB w g4 (geta L k))∧Fr 47 [(0,v),(3,.int .i64 k),(4,.pointer (some ⟨g4,0,none⟩)),(5,.int .i64 (ppE (geta L k))),(9,v),(10,.int .i64 L.length),(11,.int .i64 k)] a) (sel [1,1,0,1,4,4,1,1,0,4,1,1,1,1,2,0] cpP) (fun a w=>(Below w0.heap.size w0 w)∧Fr 47 [(2,.int .i64 (ppE (geta L k)))] a) No 9 (fun a w=>Fr 47 [(2,.int .i64 (scorersE L))] a∧Below w0.heap.size w0 w):=by
 refine T3.leaf ?_;rintro Q JS JX JT K hS hK hX hE hT hR a w ⟨hW,⟨fr,rfl,q0,q3,q4,q5,q9,q10,q11,_⟩⟩;have HW:=Lib.hid hW;clear hW;obtain⟨p1,c1,rfl⟩:=h.r.shape;generalize ppE (geta L k)=e0 at *;rw [fr_cpP,fe q0,fe q3,fe q4,fe q5,fe q9,fe q10,fe q11];clear q0 q3 q4 q5 q9 q10 q11;conv=>arg 2;whnf
 go_wp2_with fail
 refine Met.intro (hS _ _ ?_);exact⟨HW.out.1,Fr.of _ rfl ⟨rfl,trivial⟩⟩
end
section
variable (w0:World)(v:Value)(L:List ScD)(h:ScH w0 v L)
include h
theorem cp20:T3 Tryz.prog (fun a w=>(Below w0.heap.size w0 w)∧Fr 47 [] a) (sel [1,1,1,0] cpP) (fun a w=>(Below w0.heap.size w0 w)∧Fr 47 [(2,.int .i64 0)] a) No 9 (fun a w=>Fr 47 [(2,.int .i64 (scorersE L))] a∧Below w0.heap.size w0 w):=by
 refine T3.leaf ?_;rintro Q JS JX JT K hS hK hX hE hT hR a w ⟨hW,⟨fr,rfl,_⟩⟩;have HW:=Lib.hid hW;clear hW;rw [fr_cpP];conv=>arg 2;whnf
 go_wp2_with fail
 refine Met.intro (hS _ _ ?_);exact⟨HW.out,Fr.of _ rfl ⟨rfl,trivial⟩⟩
section
variable (h20:L.length≤20)
include h20
theorem cpb (k:Int):T3 Tryz.prog (fun a w=>((0≤k∧k<L.length)∧NoErr (scorerAt L) k)∧(Below w0.heap.size w0 w)∧Fr 47 [(0,v),(9,v),(10,.int .i64 L.length),(11,.int .i64 k)] a) (sel [1,1,0,1,4,4,1,1,0] cpP) (fun a w=>((0≤k∧k<L.length)∧NoErr (scorerAt L) (k+1))∧(Below w0.heap.size w0 w)∧Fr 47 [(0,v),(9,v),(10,.int .i64 L.length),(11,.int .i64 k)] a) No 100 (fun a w=>Fr 47 [(2,.int .i64 (scorersE L))] a∧Below w0.heap.size w0 w):=by
 refine T3.block (id':=1) (c:=(sel [1,1,0,1,4,4,1,1,0,4] cpP)) (by decide) ?_;refine T3.sq rfl ((cp7 w0 v L h h20 k).noX) (T3.ex fun g4=>?_);refine T3.sq rfl (S:=fun a w=>(keyB (geta L k).pl=true∧ordBad L k=false)∧((0≤k∧k<L.length)∧NoErr (scorerAt L) k)∧(Below w0.heap.size w0 w∧ScB w g4 (geta L k))∧Fr 47 [(0,v),(3,.int .i64 k),(4,.pointer (some ⟨g4,0,none⟩)),(9,v),(10,.int .i64 L.length),(11,.int .i64 k)] a) ?_ (T3.pure fun hkd=>?_)
 ·refine T3.block (id':=2) (c:=(sel [1,1,0,1,4,4,1,1,0,4,1,0,4] cpP)) (by decide) ?_;refine T3.test (s:=(sel [1,1,0,1,4,4,1,1,0,4,1,0,4,0] cpP)) (x:=(sel [1,1,0,1,4,4,1,1,0,4,1,0,4,1,2] cpP)) (y:=(sel [1,1,0,1,4,4,1,1,0,4,1,0,4,1,3] cpP)) (C:=fun q=>(((0≤k∧k<L.length)∧NoErr (scorerAt L) k)∧q=!keyB (geta L k).pl)) (W:=fun w=>Below w0.heap.size w0 w∧ScB w g4 (geta L k)) (by decide) ((cp8 w0 v L h h20 k g4).noX) ?_ ?_
  ·refine T3.sr rfl (t3_seqx (p:=((0≤k∧k<L.length)∧NoErr (scorerAt L) k)∧keyB (geta L k).pl=false) ((cp9 w0 v L h h20 k g4).noX) ?_) (T3.ret ?_)
   ·rintro a w ⟨hF,⟨hk,hq⟩,hW⟩;exact⟨⟨hk,by simpa using hq.symm⟩,hW,hF.tail⟩
   ·rintro a w ⟨⟨hk,hne⟩,hW,hF⟩;have e:scorerAt L k=5:=scAt_key hne;exact⟨by rw [scorersE_hit h20 hk.1.1 hk.1.2 hk.2 (by rw [e];decide),e];exact hF,hW⟩
  ·refine T3.pre (R:=fun a w=>(keyB (geta L k).pl=true)∧((0≤k∧k<L.length)∧NoErr (scorerAt L) k)∧(Below w0.heap.size w0 w∧ScB w g4 (geta L k))∧Fr 47 [(0,v),(3,.int .i64 k),(4,.pointer (some ⟨g4,0,none⟩)),(9,v),(10,.int .i64 L.length),(11,.int .i64 k)] a) (T3.pure fun hky=>?_) (fun a w q=>⟨by simpa using q.1.2.symm,q.1.1,q.2.1,q.2.2⟩);refine T3.tt rfl (C:=fun q=>(((0≤k∧k<L.length)∧NoErr (scorerAt L) k)∧q=ordBad L k)) (W:=fun w=>Below w0.heap.size w0 w∧ScB w g4 (geta L k)) (by decide) ((cp10 w0 v L h h20 k g4).noX) ?_ (T3.skip ?_)
   ·refine T3.sr rfl (t3_seqx (p:=((0≤k∧k<L.length)∧NoErr (scorerAt L) k)∧(keyB (geta L k).pl=true∧ordBad L k=true)) ((cp11 w0 v L h h20 k g4).noX) ?_) (T3.ret ?_)
    ·rintro a w ⟨hF,⟨hk,hq⟩,hW⟩;exact⟨⟨hk,⟨hky,hq.symm⟩⟩,hW,hF.tail⟩
    ·rintro a w ⟨⟨hk,hne⟩,hW,hF⟩;have e:scorerAt L k=7:=scAt_ord hne.1 hne.2;exact⟨by rw [scorersE_hit h20 hk.1.1 hk.1.2 hk.2 (by rw [e];decide),e];exact hF,hW⟩
   ·rintro a w ⟨⟨hk,hq⟩,hW,hF⟩;exact⟨⟨hky,hq.symm⟩,hk,hW,hF⟩
 refine T3.sq rfl ((cp12 w0 v L h h20 k g4).noX) ?_;refine T3.tt rfl (C:=fun q=>(((0≤k∧k<L.length)∧NoErr (scorerAt L) k)∧q=(ppE (geta L k) != 0))) (W:=fun w=>Below w0.heap.size w0 w∧ScB w g4 (geta L k)) (by decide) ((cp13 w0 v L h h20 k g4).noX) ?_ (T3.skip ?_)
 ·refine T3.sr rfl (t3_seqx (p:=((0≤k∧k<L.length)∧NoErr (scorerAt L) k)∧ppE (geta L k)≠0) ((cp14 w0 v L h h20 k g4).noX) ?_) (T3.ret ?_)
  ·rintro a w ⟨hF,⟨hk,hq⟩,hW⟩;exact⟨⟨hk,by simpa using hq.symm⟩,hW,hF.tail⟩
  ·rintro a w ⟨⟨hk,hne⟩,hW,hF⟩;have e:scorerAt L k=ppE (geta L k):=scAt_pp hkd.1 hkd.2;exact⟨by rw [scorersE_hit h20 hk.1.1 hk.1.2 hk.2 (by rw [e];exact hne),e];exact hF,hW⟩
 ·rintro a w ⟨⟨hk,hq⟩,hW,hF⟩;refine⟨⟨hk.1,hk.2.step ?_⟩,hW.1,hF.sub (by simp)⟩;rw [scAt_pp hkd.1 hkd.2]
  simpa using hq.symm
def cpLI (w0:World)(v:Value)(L:List ScD)(h:ScH w0 v L)(h20:L.length≤20)(k:Int)(a:Act)(w:World):Prop:=(0≤k∧k≤L.length)∧(NoErr (scorerAt L) k)∧(Below w0.heap.size w0 w)∧Fr 47 [(0,v),(9,v),(10,.int .i64 L.length),(11,.int .i64 k)] a
theorem cpLt (k:Int):T3 Tryz.prog (fun a w=>cpLI w0 v L h h20 k a w) (sel [1,1,0,1,4,4,0] cpP) (fun a w=>∃q,Fr 47 ((12,.bool q)::[(11,.int .i64 k)]) a∧((q=true↔k<L.length)∧cpLI w0 v L h h20 k a w)) No 9 (fun a w=>Fr 47 [(2,.int .i64 (scorersE L))] a∧Below w0.heap.size w0 w):=by
 refine T3.leaf ?_;rintro Q JS JX JT K hS hK hX hE hT hR a w ⟨hk,hpre,hW,⟨fr,rfl,q0,q9,q10,q11,_⟩⟩;have hln:=h.n;rw [fr_cpP,fe q0,fe q9,fe q10,fe q11];clear q0 q9 q10 q11;conv=>arg 2;whnf
 by_cases hlt:k<L.length
 ·go_wp2_with fail
  refine Met.intro (hS _ _ ?_);exact⟨true,Fr.r rfl rfl,⟨fun _=>hlt,fun _=>rfl⟩,hk,hpre,hW,Fr.r rfl rfl⟩
 ·have hpb:decide (k<(L.length:Int))=false:=by simp;omega
  go_wp2_with fail
  refine Met.intro (hS _ _ ?_);exact⟨false,Fr.r rfl rfl,⟨(fun h=>by cases h),fun h=>absurd h (by omega)⟩,hk,hpre,hW,Fr.r rfl rfl⟩
theorem cpLn (k:Int):T3 Tryz.prog (fun a w=>(0≤k∧k<L.length)∧(NoErr (scorerAt L) (k+1))∧(Below w0.heap.size w0 w)∧Fr 47 [(0,v),(9,v),(10,.int .i64 L.length),(11,.int .i64 k)] a) (sel [1,1,0,1,4,4,1,1,1] cpP) (fun a w=>cpLI w0 v L h h20 (k+1) a w) No 9 (fun a w=>Fr 47 [(2,.int .i64 (scorersE L))] a∧Below w0.heap.size w0 w):=by
 refine T3.leaf ?_;rintro Q JS JX JT K hS hK hX hE hT hR a w ⟨hk,hpre,hW,⟨fr,rfl,q0,q9,q10,q11,_⟩⟩;obtain⟨hk0,hk1⟩:=hk;have hln:=h.n;rw [fr_cpP,fe q0,fe q9,fe q10,fe q11];clear q0 q9 q10 q11;conv=>arg 2;whnf
 go_wp2_with fail
 refine Met.intro (hS _ _ ?_);exact⟨⟨by omega,by omega⟩,hpre,hW,Fr.r rfl rfl⟩
theorem cpLloop:T3 Tryz.prog (fun a w=>cpLI w0 v L h h20 0 a w) (sel [1,1,0,1] cpP) (fun a w=>(NoErr (scorerAt L) L.length)∧(Below w0.heap.size w0 w)∧Fr 47 [] a) No 9 (fun a w=>Fr 47 [(2,.int .i64 (scorersE L))] a∧Below w0.heap.size w0 w) :=
 T3.range (I:=cpLI w0 v L h h20) rfl (by decide) (cpLt w0 v L h h20) (cpLn w0 v L h h20) (fun _ _ _ h=>h.1) (fun k hk=>T3.mono (cpb w0 v L h h20 k) (fun a w ⟨_,hp,hI⟩=>⟨⟨hk,hp⟩,hI⟩) (fun a w ⟨⟨hk,hp⟩,hI⟩=>⟨hk,hp,hI⟩) (fun _ _ q=>q) (fun _ _ q=>q)) (fun a w hI=>by
  obtain⟨hk,hI⟩:=hI;obtain⟨hn,hW,hF⟩:=hI;exact⟨hn,hW,hF.sub (by simp)⟩)
end
theorem cp_all:T3 Tryz.prog (fun a w=>(Below w0.heap.size w0 w)∧Fr 47 [(0,v)] a) cpP No No 9 (fun a w=>Fr 47 [(2,.int .i64 (scorersE L))] a∧Below w0.heap.size w0 w):=by
 refine T3.seq (s:=(sel [0] cpP)) (c:=(sel [1] cpP)) (cp0 w0 v L h) ?_;refine T3.sq rfl (S:=fun a w=>(L.length≤20)∧(Below w0.heap.size w0 w)∧Fr 47 [(0,v)] a) ?_ (T3.pure fun h20=>?_)
 ·refine T3.tt rfl (C:=fun q=>(q=decide ((20:Int)<(L.length:Int)))) (W:=fun w=>Below w0.heap.size w0 w) (by decide) (cp1 w0 v L h) ?_ (T3.skip ?_)
  ·refine T3.sr rfl (t3_seqx (p:=20<L.length) (cp2 w0 v L h) ?_) (T3.ret ?_)
   ·rintro a w ⟨hF,hq,hW⟩;exact⟨by have:=of_decide_eq_true hq.symm;omega,hW,hF.tail⟩
   ·rintro a w ⟨hp,hW,hF⟩;exact⟨by rw [scorersE_big hp];exact hF,hW⟩
  ·rintro a w ⟨hq,hW,hF⟩;exact⟨by have:=of_decide_eq_false hq.symm;omega,hW,hF⟩
 refine T3.sq rfl (T3.seq (s:=(sel [1,1,0,0] cpP)) (c:=(sel [1,1,0,1] cpP)) (cp5 w0 v L h h20) (cpLloop w0 v L h h20)) (T3.pure fun hn=>?_);refine T3.sr rfl (cp20 w0 v L h) (T3.ret ?_);rintro a w ⟨hW,hF⟩;exact⟨by rw [scorersE_ok h20 hn];exact hF,hW⟩
theorem scorers_prog:Calls Tryz.prog 24 #[v] w0 fun e w'=>e=.returned (.int .i64 (scorersE L))∧Below w0.heap.size w0 w':=by
 have hall:=cp_all w0 v L h
 go_enter Tryz.func24,Tryz.ntmps24
 refine T3.done (s:=cpP) hall ⟨Below.refl _ _,Fr.of _ rfl ⟨rfl,trivial⟩⟩ ?_;rintro a w ⟨⟨fr,rfl,q2,_⟩,hw⟩;rw [fr_cpP,fe q2]
 go_ret
 exact⟨rfl,hw⟩
end
noncomputable def crR:Code:=(Tryz.f14.body).getD .skip
theorem fr_crR (f:Nat→Value):frame 40 f=⟨#[f 0,f 1,f 2,f 3,f 4,f 5,f 6,f 7,f 8,f 9,f 10,f 11,f 12,f 13,f 14,f 15,f 16,f 17,f 18,f 19,f 20,f 21,f 22,f 23,f 24,f 25,f 26,f 27,f 28,f 29,f 30,f 31,f 32,f 33,f 34,f 35,f 36,f 37,f 38,f 39],[]⟩:=by rfl
section
variable (w0:World)(v:Value)(L:List ScD)(h:ScH w0 v L)
include h
theorem cr0:T3 Tryz.prog (fun a w=>(Below w0.heap.size w0 w)∧Fr 40 [(0,v)] a) (sel [0] crR) (fun a w=>(Below w0.heap.size w0 w)∧Fr 40 [(0,v)] a) No 9 (fun a w=>Fr 40 [(2,.int .i64 (scorersE L))] a∧Below w0.heap.size w0 w):=by
 refine T3.leaf ?_;rintro Q JS JX JT K hS hK hX hE hT hR a w ⟨hW,⟨fr,rfl,q0,_⟩⟩;have HW:=Lib.hid hW;have hsn:=h.n;obtain⟨p1,c1,rfl⟩:=h.r.shape;clear hW;rw [fr_crR,fe q0];clear q0;conv=>arg 2;whnf
 go_wp2_with fail
 refine Met.intro (hS _ _ ?_);exact⟨HW.out,Fr.of _ rfl ⟨rfl,trivial⟩⟩
theorem cr1:T3 Tryz.prog (fun a w=>(Below w0.heap.size w0 w)∧Fr 40 [(0,v)] a) (sel [1,0,0] crR) (fun a w=>∃q,Fr 40 ((10,.bool q)::[(0,v)]) a∧((q=decide ((20:Int)<(L.length:Int)))∧Below w0.heap.size w0 w)) No 9 (fun a w=>Fr 40 [(2,.int .i64 (scorersE L))] a∧Below w0.heap.size w0 w):=by
 refine T3.leaf ?_;rintro Q JS JX JT K hS hK hX hE hT hR a w ⟨hW,⟨fr,rfl,q0,_⟩⟩;have HW:=Lib.hid hW;have hsn:=h.n;obtain⟨p1,c1,rfl⟩:=h.r.shape;clear hW;rw [fr_crR,fe q0];clear q0;conv=>arg 2;whnf
 go_wp2_with fail
 refine Met.intro (hS _ _ ?_);exact⟨_,Fr.r rfl rfl,rfl,HW.out⟩
theorem cr2:T3 Tryz.prog (fun a w=>(Below w0.heap.size w0 w)∧Fr 40 [(0,v)] a) (sel [1,0,1,2,0] crR) (fun a w=>(Below w0.heap.size w0 w)∧Fr 40 [(2,.int .i64 2)] a) No 9 (fun a w=>Fr 40 [(2,.int .i64 (scorersE L))] a∧Below w0.heap.size w0 w):=by
 refine T3.leaf ?_;rintro Q JS JX JT K hS hK hX hE hT hR a w ⟨hW,⟨fr,rfl,q0,_⟩⟩;have HW:=Lib.hid hW;have hsn:=h.n;obtain⟨p1,c1,rfl⟩:=h.r.shape;clear hW;rw [fr_crR,fe q0];clear q0;conv=>arg 2;whnf
 go_wp2_with fail
 refine Met.intro (hS _ _ ?_);exact⟨HW.out,Fr.of _ rfl ⟨rfl,trivial⟩⟩
section
variable (h20:L.length≤20)
include h20
theorem cr3:T3 Tryz.prog (fun a w=>(Below w0.heap.size w0 w)∧Fr 40 [(0,v)] a) (sel [1,1,0] crR) (fun a w=>(Below w0.heap.size w0 w)∧Fr 40 [(0,v),(3,.string (lastS L 0))] a) No 9 (fun a w=>Fr 40 [(2,.int .i64 (scorersE L))] a∧Below w0.heap.size w0 w):=by
 refine T3.leaf ?_;rintro Q JS JX JT K hS hK hX hE hT hR a w ⟨hW,⟨fr,rfl,q0,_⟩⟩;have HW:=Lib.hid hW;have hsn:=h.n;obtain⟨p1,c1,rfl⟩:=h.r.shape;clear hW;rw [fr_crR,fe q0];clear q0;conv=>arg 2;whnf
 go_wp2_with fail
 refine Met.intro (hS _ _ ?_);exact⟨HW.out,Fr.r rfl rfl⟩
theorem cr5:T3 Tryz.prog (fun a w=>(Below w0.heap.size w0 w)∧Fr 40 [(0,v),(3,.string (lastS L 0))] a) (sel [1,1,1,0,0] crR) (fun a w=>(0≤(0:Int)∧(0:Int)≤L.length)∧(NoErr (scorerAt L) 0)∧(Below w0.heap.size w0 w)∧Fr 40 [(0,v),(3,.string (lastS L 0)),(11,v),(12,.int .i64 L.length),(13,.int .i64 0)] a) No 9 (fun a w=>Fr 40 [(2,.int .i64 (scorersE L))] a∧Below w0.heap.size w0 w):=by
 refine T3.leaf ?_;rintro Q JS JX JT K hS hK hX hE hT hR a w ⟨hW,⟨fr,rfl,q0,q3,_⟩⟩;have HW:=Lib.hid hW;have hsn:=h.n;obtain⟨p1,c1,rfl⟩:=h.r.shape;clear hW;generalize lastS L 0=ls at *;rw [fr_crR,fe q0,fe q3];clear q0 q3;conv=>arg 2;whnf
 go_wp2_with fail
 refine Met.intro (hS _ _ ?_);exact⟨⟨by omega,by omega⟩,NoErr.zero _,HW.out,Fr.r rfl rfl⟩
theorem cr7 (k:Int):T3 Tryz.prog (fun a w=>((0≤k∧k<L.length)∧NoErr (scorerAt L) k)∧(Below w0.heap.size w0 w)∧Fr 40 [(0,v),(3,.string (lastS L k)),(11,v),(12,.int .i64 L.length),(13,.int .i64 k)] a) (sel [1,1,1,0,1,4,4,1,1,0,4,0] crR) (fun a w=>∃(g4:Nat),((0≤k∧k<L.length)∧NoErr (scorerAt L) k)∧(Below w0.heap.size w0 w∧ScB w g4 (geta L k))∧Fr 40 [(0,v),(3,.string (lastS L k)),(5,.pointer (some ⟨g4,0,none⟩)),(11,v),(12,.int .i64 L.length),(13,.int .i64 k)] a) No 9 (fun a w=>Fr 40 [(2,.int .i64 (scorersE L))] a∧Below w0.heap.size w0 w):=by
 refine T3.leaf ?_;rintro Q JS JX JT K hS hK hX hE hT hR a w ⟨hpre,hW,⟨fr,rfl,q0,q3,q11,q12,q13,_⟩⟩;have hpp:=Lib.hid hpre;obtain⟨⟨hk0,hk1⟩,_⟩:=hpre;have hsn:=h.n;have hHW:=Lib.hid hW;obtain⟨_,hcs⟩:=(h.below hW).r.els encSc_length (by decide);rcases hcs with ⟨rfl,h0⟩|⟨bz,off,cap,rfl,_,hbz,hnc,hcm,hcell⟩
 ·omega
 have t0:=hcell k hk0 hk1 0 _ rfl;have t1:=hcell k hk0 hk1 1 _ rfl;have t2:=hcell k hk0 hk1 2 _ rfl;have t3:=hcell k hk0 hk1 3 _ rfl;have t4:=hcell k hk0 hk1 4 _ rfl;rw [Nat.add_zero]at t0;have HB:=Lib.hid (ScB.new w (geta L k) 77);have HA:=Lib.hid (fun o=>(Below.refl w.heap.size w).alloc (Nat.le_refl _) o);obtain⟨q,d,hq⟩:=(h.p _ (geta_mem hk0 hk1)).r.shape;clear hcell hW h;generalize lastS L k=ls at *;generalize geta L k=x at *;obtain⟨xk,xv,xps,xn,xd,xp⟩:=x;simp only at hq t0 t1 t2 t3 t4;subst hq;rw [fr_crR,fe q0,fe q3,fe q11,fe q12,fe q13];clear q0 q3 q11 q12 q13;conv=>arg 2;whnf
 go_wp2_with fail
 refine Met.intro (hS _ _ ?_);exact⟨_,hpp.out,⟨hHW.out.trans ((HA.out _).mono hHW.out.size),HB.out⟩,Fr.r rfl rfl⟩
end
end
section
variable (w0:World)(v:Value)(L:List ScD)(h:ScH w0 v L)(h20:L.length≤20)(k:Int)(g4:Nat)
include h h20 k g4
theorem cr8:T3 Tryz.prog (fun a w=>((0≤k∧k<L.length)∧NoErr (scorerAt L) k)∧(Below w0.heap.size w0 w∧ScB w g4 (geta L k))∧Fr 40 [(0,v),(3,.string (lastS L k)),(5,.pointer (some ⟨g4,0,none⟩)),(11,v),(12,.int .i64 L.length),(13,.int .i64 k)] a) (sel [1,1,1,0,1,4,4,1,1,0,4,1,0,0] crR) (fun a w=>∃q,Fr 40 ((20,.bool q)::[(0,v),(3,.string (lastS L k)),(5,.pointer (some ⟨g4,0,none⟩)),(11,v),(12,.int .i64 L.length),(13,.int .i64 k)]) a∧((((0≤k∧k<L.length)∧NoErr (scorerAt L) k)∧q=!keyB (geta L k).pl)∧Below w0.heap.size w0 w∧ScB w g4 (geta L k))) No 9 (fun a w=>Fr 40 [(2,.int .i64 (scorersE L))] a∧Below w0.heap.size w0 w):=by
 refine T3.leaf ?_;rintro Q JS JX JT K hS hK hX hE hT hR a w ⟨hpre,hW,⟨fr,rfl,q0,q3,q5,q11,q12,q13,_⟩⟩;have hpp:=Lib.hid hpre;obtain⟨⟨hk0,hk1⟩,_⟩:=hpre;have hsn:=h.n;have HW:=Lib.hid hW;have hz:=h.z _ (geta_mem hk0 hk1);have HK:=Lib.hid (key_ref (geta L k).pl w (by omega));have t0:=hW.2.c0;obtain⟨p1,c1,rfl⟩:=h.r.shape;clear h hW hz;generalize lastS L k=ls at *;generalize (geta L k).pl=x at *;generalize keyB x=q at *;rw [fr_crR,fe q0,fe q3,fe q5,fe q11,fe q12,fe q13];clear q0 q3 q5 q11 q12 q13;conv=>arg 2;whnf
 go_wp2_with fail
 refine HK.out.mono ?_;rintro e w1 ⟨rfl,rfl⟩;go_wp2_with fail
 have hpre:=hpp.out;refine Met.intro (hS _ _ ?_);exact⟨_,Fr.r rfl rfl,⟨hpre,rfl⟩,HW.out⟩
theorem cr9:T3 Tryz.prog (fun a w=>(Below w0.heap.size w0 w∧ScB w g4 (geta L k))∧Fr 40 [(0,v),(3,.string (lastS L k)),(5,.pointer (some ⟨g4,0,none⟩)),(11,v),(12,.int .i64 L.length),(13,.int .i64 k)] a) (sel [1,1,1,0,1,4,4,1,1,0,4,1,0,1,2,0] crR) (fun a w=>(Below w0.heap.size w0 w)∧Fr 40 [(2,.int .i64 5)] a) No 9 (fun a w=>Fr 40 [(2,.int .i64 (scorersE L))] a∧Below w0.heap.size w0 w):=by
 refine T3.leaf ?_;rintro Q JS JX JT K hS hK hX hE hT hR a w ⟨hW,⟨fr,rfl,q0,q3,q5,q11,q12,q13,_⟩⟩;have HW:=Lib.hid hW;clear hW;obtain⟨p1,c1,rfl⟩:=h.r.shape;generalize lastS L k=ls at *;rw [fr_crR,fe q0,fe q3,fe q5,fe q11,fe q12,fe q13];clear q0 q3 q5 q11 q12 q13;conv=>arg 2;whnf
 go_wp2_with fail
 refine Met.intro (hS _ _ ?_);exact⟨HW.out.1,Fr.of _ rfl ⟨rfl,trivial⟩⟩
theorem cr10:T3 Tryz.prog (fun a w=>((0≤k∧k<L.length)∧NoErr (scorerAt L) k)∧(Below w0.heap.size w0 w∧ScB w g4 (geta L k))∧Fr 40 [(0,v),(3,.string (lastS L k)),(5,.pointer (some ⟨g4,0,none⟩)),(11,v),(12,.int .i64 L.length),(13,.int .i64 k)] a) (sel [1,1,1,0,1,4,4,1,1,0,4,1,1,0,0] crR) (fun a w=>∃q,Fr 40 ((24,.bool q)::[(0,v),(3,.string (lastS L k)),(5,.pointer (some ⟨g4,0,none⟩)),(11,v),(12,.int .i64 L.length),(13,.int .i64 k)]) a∧((((0≤k∧k<L.length)∧NoErr (scorerAt L) k)∧q=leB (geta L k).pl (lastS L k))∧Below w0.heap.size w0 w∧ScB w g4 (geta L k))) No 9 (fun a w=>Fr 40 [(2,.int .i64 (scorersE L))] a∧Below w0.heap.size w0 w):=by
 refine T3.leaf ?_;rintro Q JS JX JT K hS hK hX hE hT hR a w ⟨hpre,hW,⟨fr,rfl,q0,q3,q5,q11,q12,q13,_⟩⟩;have hpp:=Lib.hid hpre;obtain⟨⟨hk0,hk1⟩,_⟩:=hpre;have hsn:=h.n;have HW:=Lib.hid hW;have t0:=hW.2.c0;obtain⟨p1,c1,rfl⟩:=h.r.shape;clear h hW;generalize lastS L k=ls at *;generalize (geta L k).pl=x at *;rw [fr_crR,fe q0,fe q3,fe q5,fe q11,fe q12,fe q13];clear q0 q3 q5 q11 q12 q13;conv=>arg 2;whnf
 go_wp2_with fail
 have hpre:=hpp.out;refine Met.intro (hS _ _ ?_);exact⟨_,Fr.r rfl rfl,⟨hpre,rfl⟩,HW.out⟩
theorem cr11:T3 Tryz.prog (fun a w=>(Below w0.heap.size w0 w∧ScB w g4 (geta L k))∧Fr 40 [(0,v),(3,.string (lastS L k)),(5,.pointer (some ⟨g4,0,none⟩)),(11,v),(12,.int .i64 L.length),(13,.int .i64 k)] a) (sel [1,1,1,0,1,4,4,1,1,0,4,1,1,0,1,2,0] crR) (fun a w=>(Below w0.heap.size w0 w)∧Fr 40 [(2,.int .i64 7)] a) No 9 (fun a w=>Fr 40 [(2,.int .i64 (scorersE L))] a∧Below w0.heap.size w0 w):=by
 refine T3.leaf ?_;rintro Q JS JX JT K hS hK hX hE hT hR a w ⟨hW,⟨fr,rfl,q0,q3,q5,q11,q12,q13,_⟩⟩;have HW:=Lib.hid hW;clear hW;obtain⟨p1,c1,rfl⟩:=h.r.shape;generalize lastS L k=ls at *;rw [fr_crR,fe q0,fe q3,fe q5,fe q11,fe q12,fe q13];clear q0 q3 q5 q11 q12 q13;conv=>arg 2;whnf
 go_wp2_with fail
 refine Met.intro (hS _ _ ?_);exact⟨HW.out.1,Fr.of _ rfl ⟨rfl,trivial⟩⟩
theorem cr12:T3 Tryz.prog (fun a w=>((0≤k∧k<L.length)∧NoErr (scorerAt L) k)∧(Below w0.heap.size w0 w∧ScB w g4 (geta L k))∧Fr 40 [(0,v),(3,.string (lastS L k)),(5,.pointer (some ⟨g4,0,none⟩)),(11,v),(12,.int .i64 L.length),(13,.int .i64 k)] a) (sel [1,1,1,0,1,4,4,1,1,0,4,1,1,1,0,0] crR) (fun a w=>((0≤k∧k<L.length)∧NoErr (scorerAt L) k)∧(Below w0.heap.size w0 w∧ScB w g4 (geta L k))∧Fr 40 [(0,v),(3,.string (lastS L k)),(5,.pointer (some ⟨g4,0,none⟩)),(6,.int .i64 (posE (geta L k).ps)),(11,v),(12,.int .i64 L.length),(13,.int .i64 k)] a) No 9 (fun a w=>Fr 40 [(2,.int .i64 (scorersE L))] a∧Below w0.heap.size w0 w):=by
 refine T3.leaf ?_;rintro Q JS JX JT K hS hK hX hE hT hR a w ⟨hpre,hW,⟨fr,rfl,q0,q3,q5,q11,q12,q13,_⟩⟩;have hpp:=Lib.hid hpre;obtain⟨⟨hk0,hk1⟩,_⟩:=hpre;have hsn:=h.n;have HW:=Lib.hid hW;have HK:=Lib.hid (listNeed_ref (geta L k).pv (geta L k).ps w ((h.p _ (geta_mem hk0 hk1)).below hW.1));have t1:=hW.2.c1;obtain⟨q,d,hq⟩:=(h.p _ (geta_mem hk0 hk1)).r.shape;obtain⟨p1,c1,rfl⟩:=h.r.shape;clear h hW;generalize lastS L k=ls at *;generalize posE (geta L k).ps=e0 at *;generalize hx:(geta L k).pv=x at *;subst hq;rw [fr_crR,fe q0,fe q3,fe q5,fe q11,fe q12,fe q13];clear q0 q3 q5 q11 q12 q13;conv=>arg 2;whnf
 go_wp2_with fail
 refine HK.out.mono ?_;rintro e w1 ⟨rfl,hb⟩;have HR:=Lib.hid (show Below w0.heap.size w0 w1∧ScB w1 g4 (geta L k)from⟨HW.out.1.trans (hb.mono HW.out.1.size),HW.out.2.below hb⟩);clear hb;go_wp2_with fail
 refine Met.intro (hS _ _ ?_);exact⟨hpp.out,HR.out,Fr.r rfl rfl⟩
theorem cr13:T3 Tryz.prog (fun a w=>((0≤k∧k<L.length)∧NoErr (scorerAt L) k)∧(Below w0.heap.size w0 w∧ScB w g4 (geta L k))∧Fr 40 [(0,v),(3,.string (lastS L k)),(5,.pointer (some ⟨g4,0,none⟩)),(6,.int .i64 (posE (geta L k).ps)),(11,v),(12,.int .i64 L.length),(13,.int .i64 k)] a) (sel [1,1,1,0,1,4,4,1,1,0,4,1,1,1,0,1,0] crR) (fun a w=>∃q,Fr 40 ((29,.bool q)::[(0,v),(3,.string (lastS L k)),(5,.pointer (some ⟨g4,0,none⟩)),(6,.int .i64 (posE (geta L k).ps)),(11,v),(12,.int .i64 L.length),(13,.int .i64 k)]) a∧((((0≤k∧k<L.length)∧NoErr (scorerAt L) k)∧q=(posE (geta L k).ps != 0))∧Below w0.heap.size w0 w∧ScB w g4 (geta L k))) No 9 (fun a w=>Fr 40 [(2,.int .i64 (scorersE L))] a∧Below w0.heap.size w0 w):=by
 refine T3.leaf ?_;rintro Q JS JX JT K hS hK hX hE hT hR a w ⟨hpre,hW,⟨fr,rfl,q0,q3,q5,q6,q11,q12,q13,_⟩⟩;have hpp:=Lib.hid hpre;obtain⟨⟨hk0,hk1⟩,_⟩:=hpre;have hsn:=h.n;have HW:=Lib.hid hW;obtain⟨p1,c1,rfl⟩:=h.r.shape;clear hW;generalize lastS L k=ls at *;generalize posE (geta L k).ps=e0 at *;generalize hqq:(e0 != 0)=qq at *;rw [fr_crR,fe q0,fe q3,fe q5,fe q6,fe q11,fe q12,fe q13];clear q0 q3 q5 q6 q11 q12 q13;conv=>arg 2;whnf
 go_wp2_with fail
 have hpre:=hpp.out;refine Met.intro (hS _ _ ?_);exact⟨_,Fr.r rfl rfl,⟨hpre,rfl⟩,HW.out⟩
theorem cr14:T3 Tryz.prog (fun a w=>(Below w0.heap.size w0 w∧ScB w g4 (geta L k))∧Fr 40 [(0,v),(3,.string (lastS L k)),(5,.pointer (some ⟨g4,0,none⟩)),(6,.int .i64 (posE (geta L k).ps)),(11,v),(12,.int .i64 L.length),(13,.int .i64 k)] a) (sel [1,1,1,0,1,4,4,1,1,0,4,1,1,1,0,1,1,2,0] crR) (fun a w=>(Below w0.heap.size w0 w)∧Fr 40 [(2,.int .i64 (posE (geta L k).ps))] a) No 9 (fun a w=>Fr 40 [(2,.int .i64 (scorersE L))] a∧Below w0.heap.size w0 w):=by
 refine T3.leaf ?_;rintro Q JS JX JT K hS hK hX hE hT hR a w ⟨hW,⟨fr,rfl,q0,q3,q5,q6,q11,q12,q13,_⟩⟩;have HW:=Lib.hid hW;clear hW;obtain⟨p1,c1,rfl⟩:=h.r.shape;generalize lastS L k=ls at *;generalize posE (geta L k).ps=e0 at *;rw [fr_crR,fe q0,fe q3,fe q5,fe q6,fe q11,fe q12,fe q13];clear q0 q3 q5 q6 q11 q12 q13;conv=>arg 2;whnf
 go_wp2_with fail
 refine Met.intro (hS _ _ ?_);exact⟨HW.out.1,Fr.of _ rfl ⟨rfl,trivial⟩⟩
theorem cr15:T3 Tryz.prog (fun a w=>((0≤k∧k<L.length)∧NoErr (scorerAt L) k)∧(Below w0.heap.size w0 w∧ScB w g4 (geta L k))∧Fr 40 [(0,v),(3,.string (lastS L k)),(5,.pointer (some ⟨g4,0,none⟩)),(11,v),(12,.int .i64 L.length),(13,.int .i64 k)] a) (sel [1,1,1,0,1,4,4,1,1,0,4,1,1,1,1,0,0] crR) (fun a w=>((0≤k∧k<L.length)∧NoErr (scorerAt L) k)∧(Below w0.heap.size w0 w∧ScB w g4 (geta L k))∧Fr 40 [(0,v),(3,.string (lastS L k)),(5,.pointer (some ⟨g4,0,none⟩)),(7,.int .i64 (amountE (geta L k).num (geta L k).den 10000)),(11,v),(12,.int .i64 L.length),(13,.int .i64 k)] a) No 9 (fun a w=>Fr 40 [(2,.int .i64 (scorersE L))] a∧Below w0.heap.size w0 w):=by
 refine T3.leaf ?_;rintro Q JS JX JT K hS hK hX hE hT hR a w ⟨hpre,hW,⟨fr,rfl,q0,q3,q5,q11,q12,q13,_⟩⟩;have hpp:=Lib.hid hpre;obtain⟨⟨hk0,hk1⟩,_⟩:=hpre;have hsn:=h.n;have HW:=Lib.hid hW;have hi:=h.i _ (geta_mem hk0 hk1);have HK:=Lib.hid (pointsFault_ref (geta L k).num (geta L k).den 10000 w hi.1 hi.2.1 hi.2.2.1 hi.2.2.2 (by decide) (by decide));have t2:=hW.2.c2;have t3:=hW.2.c3;obtain⟨p1,c1,rfl⟩:=h.r.shape;clear h hW hi;generalize lastS L k=ls at *;generalize amountE (geta L k).num (geta L k).den 10000=e0 at *;generalize (geta L k).num=xn at *;generalize (geta L k).den=xd at *;rw [fr_crR,fe q0,fe q3,fe q5,fe q11,fe q12,fe q13];clear q0 q3 q5 q11 q12 q13;conv=>arg 2;whnf
 go_wp2_with fail
 refine HK.out.mono ?_;rintro e w1 ⟨rfl,hb⟩;have HR:=Lib.hid (show Below w0.heap.size w0 w1∧ScB w1 g4 (geta L k)from⟨HW.out.1.trans (hb.mono HW.out.1.size),HW.out.2.below hb⟩);clear hb;go_wp2_with fail
 refine Met.intro (hS _ _ ?_);exact⟨hpp.out,HR.out,Fr.r rfl rfl⟩
theorem cr16:T3 Tryz.prog (fun a w=>((0≤k∧k<L.length)∧NoErr (scorerAt L) k)∧(Below w0.heap.size w0 w∧ScB w g4 (geta L k))∧Fr 40 [(0,v),(3,.string (lastS L k)),(5,.pointer (some ⟨g4,0,none⟩)),(7,.int .i64 (amountE (geta L k).num (geta L k).den 10000)),(11,v),(12,.int .i64 L.length),(13,.int .i64 k)] a) (sel [1,1,1,0,1,4,4,1,1,0,4,1,1,1,1,0,1,0] crR) (fun a w=>∃q,Fr 40 ((35,.bool q)::[(0,v),(3,.string (lastS L k)),(5,.pointer (some ⟨g4,0,none⟩)),(7,.int .i64 (amountE (geta L k).num (geta L k).den 10000)),(11,v),(12,.int .i64 L.length),(13,.int .i64 k)]) a∧((((0≤k∧k<L.length)∧NoErr (scorerAt L) k)∧q=(amountE (geta L k).num (geta L k).den 10000 != 0))∧Below w0.heap.size w0 w∧ScB w g4 (geta L k))) No 9 (fun a w=>Fr 40 [(2,.int .i64 (scorersE L))] a∧Below w0.heap.size w0 w):=by
 refine T3.leaf ?_;rintro Q JS JX JT K hS hK hX hE hT hR a w ⟨hpre,hW,⟨fr,rfl,q0,q3,q5,q7,q11,q12,q13,_⟩⟩;have hpp:=Lib.hid hpre;obtain⟨⟨hk0,hk1⟩,_⟩:=hpre;have hsn:=h.n;have HW:=Lib.hid hW;obtain⟨p1,c1,rfl⟩:=h.r.shape;clear hW;generalize lastS L k=ls at *;generalize amountE (geta L k).num (geta L k).den 10000=e0 at *;generalize hqq:(e0 != 0)=qq at *;rw [fr_crR,fe q0,fe q3,fe q5,fe q7,fe q11,fe q12,fe q13];clear q0 q3 q5 q7 q11 q12 q13;conv=>arg 2;whnf
 go_wp2_with fail
 have hpre:=hpp.out;refine Met.intro (hS _ _ ?_);exact⟨_,Fr.r rfl rfl,⟨hpre,rfl⟩,HW.out⟩
theorem cr17:T3 Tryz.prog (fun a w=>(Below w0.heap.size w0 w∧ScB w g4 (geta L k))∧Fr 40 [(0,v),(3,.string (lastS L k)),(5,.pointer (some ⟨g4,0,none⟩)),(7,.int .i64 (amountE (geta L k).num (geta L k).den 10000)),(11,v),(12,.int .i64 L.length),(13,.int .i64 k)] a) (sel [1,1,1,0,1,4,4,1,1,0,4,1,1,1,1,0,1,1,2,0] crR) (fun a w=>(Below w0.heap.size w0 w)∧Fr 40 [(2,.int .i64 (amountE (geta L k).num (geta L k).den 10000))] a) No 9 (fun a w=>Fr 40 [(2,.int .i64 (scorersE L))] a∧Below w0.heap.size w0 w):=by
 refine T3.leaf ?_;rintro Q JS JX JT K hS hK hX hE hT hR a w ⟨hW,⟨fr,rfl,q0,q3,q5,q7,q11,q12,q13,_⟩⟩;have HW:=Lib.hid hW;clear hW;obtain⟨p1,c1,rfl⟩:=h.r.shape;generalize lastS L k=ls at *;generalize amountE (geta L k).num (geta L k).den 10000=e0 at *;rw [fr_crR,fe q0,fe q3,fe q5,fe q7,fe q11,fe q12,fe q13];clear q0 q3 q5 q7 q11 q12 q13;conv=>arg 2;whnf
 go_wp2_with fail
 refine Met.intro (hS _ _ ?_);exact⟨HW.out.1,Fr.of _ rfl ⟨rfl,trivial⟩⟩
theorem cr18 (hk0:0≤k):T3 Tryz.prog (fun a w=>(Below w0.heap.size w0 w∧ScB w g4 (geta L k))∧Fr 40 [(0,v),(3,.string (lastS L k)),(5,.pointer (some ⟨g4,0,none⟩)),(11,v),(12,.int .i64 L.length),(13,.int .i64 k)] a) (sel [1,1,1,0,1,4,4,1,1,0,4,1,1,1,1,1] crR) (fun a w=>(Below w0.heap.size w0 w)∧Fr 40 [(0,v),(3,.string (lastS L (k+1))),(11,v),(12,.int .i64 L.length),(13,.int .i64 k)] a) No 9 (fun a w=>Fr 40 [(2,.int .i64 (scorersE L))] a∧Below w0.heap.size w0 w):=by
 refine T3.leaf ?_;rintro Q JS JX JT K hS hK hX hE hT hR a w ⟨hW,⟨fr,rfl,q0,q3,q5,q11,q12,q13,_⟩⟩;have HW:=Lib.hid hW;have t0:=hW.2.c0;have HE:=Lib.hid (lastS_succ L hk0);obtain⟨p1,c1,rfl⟩:=h.r.shape;clear h hW;generalize lastS L k=ls at *;generalize lastS L (k+1)=ls1 at *;generalize (geta L k).pl=x at *;rw [fr_crR,fe q0,fe q3,fe q5,fe q11,fe q12,fe q13];clear q0 q3 q5 q11 q12 q13;conv=>arg 2;whnf
 go_wp2_with fail
 refine Met.intro (hS _ _ ?_);rw [HE.out];exact⟨HW.out.1,Fr.r rfl rfl⟩
end
section
variable (w0:World)(v:Value)(L:List ScD)(h:ScH w0 v L)
include h
theorem cr20:T3 Tryz.prog (fun a w=>(Below w0.heap.size w0 w)∧Fr 40 [] a) (sel [1,1,1,1,0] crR) (fun a w=>(Below w0.heap.size w0 w)∧Fr 40 [(2,.int .i64 0)] a) No 9 (fun a w=>Fr 40 [(2,.int .i64 (scorersE L))] a∧Below w0.heap.size w0 w):=by
 refine T3.leaf ?_;rintro Q JS JX JT K hS hK hX hE hT hR a w ⟨hW,⟨fr,rfl,_⟩⟩;have HW:=Lib.hid hW;clear hW;rw [fr_crR];conv=>arg 2;whnf
 go_wp2_with fail
 refine Met.intro (hS _ _ ?_);exact⟨HW.out,Fr.of _ rfl ⟨rfl,trivial⟩⟩
section
variable (h20:L.length≤20)
include h20
theorem crb (k:Int):T3 Tryz.prog (fun a w=>((0≤k∧k<L.length)∧NoErr (scorerAt L) k)∧(Below w0.heap.size w0 w)∧Fr 40 [(0,v),(3,.string (lastS L k)),(11,v),(12,.int .i64 L.length),(13,.int .i64 k)] a) (sel [1,1,1,0,1,4,4,1,1,0] crR) (fun a w=>((0≤k∧k<L.length)∧NoErr (scorerAt L) (k+1))∧(Below w0.heap.size w0 w)∧Fr 40 [(0,v),(3,.string (lastS L (k+1))),(11,v),(12,.int .i64 L.length),(13,.int .i64 k)] a) No 100 (fun a w=>Fr 40 [(2,.int .i64 (scorersE L))] a∧Below w0.heap.size w0 w):=by
 refine T3.block (id':=1) (c:=(sel [1,1,1,0,1,4,4,1,1,0,4] crR)) (by decide) ?_;refine T3.sq rfl ((cr7 w0 v L h h20 k).noX) (T3.ex fun g4=>?_);refine T3.sq rfl (S:=fun a w=>(keyB (geta L k).pl=true)∧((0≤k∧k<L.length)∧NoErr (scorerAt L) k)∧(Below w0.heap.size w0 w∧ScB w g4 (geta L k))∧Fr 40 [(0,v),(3,.string (lastS L k)),(5,.pointer (some ⟨g4,0,none⟩)),(11,v),(12,.int .i64 L.length),(13,.int .i64 k)] a) ?_ (T3.pure fun hky=>?_)
 ·refine T3.tt rfl (C:=fun q=>(((0≤k∧k<L.length)∧NoErr (scorerAt L) k)∧q=!keyB (geta L k).pl)) (W:=fun w=>Below w0.heap.size w0 w∧ScB w g4 (geta L k)) (by decide) ((cr8 w0 v L h h20 k g4).noX) ?_ (T3.skip ?_)
  ·refine T3.sr rfl (t3_seqx (p:=((0≤k∧k<L.length)∧NoErr (scorerAt L) k)∧keyB (geta L k).pl=false) ((cr9 w0 v L h h20 k g4).noX) ?_) (T3.ret ?_)
   ·rintro a w ⟨hF,⟨hk,hq⟩,hW⟩;exact⟨⟨hk,by simpa using hq.symm⟩,hW,hF.tail⟩
   ·rintro a w ⟨⟨hk,hne⟩,hW,hF⟩;have e:scorerAt L k=5:=scAt_key hne;exact⟨by rw [scorersE_hit h20 hk.1.1 hk.1.2 hk.2 (by rw [e];decide),e];exact hF,hW⟩
  ·rintro a w ⟨⟨hk,hq⟩,hW,hF⟩;exact⟨by simpa using hq.symm,hk,hW,hF⟩
 refine T3.sq rfl (S:=fun a w=>(keyB (geta L k).pl=true∧ordBad L k=false)∧((0≤k∧k<L.length)∧NoErr (scorerAt L) k)∧(Below w0.heap.size w0 w∧ScB w g4 (geta L k))∧Fr 40 [(0,v),(3,.string (lastS L k)),(5,.pointer (some ⟨g4,0,none⟩)),(11,v),(12,.int .i64 L.length),(13,.int .i64 k)] a) ?_ (T3.pure fun hkd=>?_)
 ·refine T3.tt rfl (C:=fun q=>(((0≤k∧k<L.length)∧NoErr (scorerAt L) k)∧q=leB (geta L k).pl (lastS L k))) (W:=fun w=>Below w0.heap.size w0 w∧ScB w g4 (geta L k)) (by decide) ((cr10 w0 v L h h20 k g4).noX) ?_ (T3.skip ?_)
  ·refine T3.sr rfl (t3_seqx (p:=((0≤k∧k<L.length)∧NoErr (scorerAt L) k)∧(keyB (geta L k).pl=true∧ordBad L k=true)) ((cr11 w0 v L h h20 k g4).noX) ?_) (T3.ret ?_)
   ·rintro a w ⟨hF,⟨hk,hq⟩,hW⟩;exact⟨⟨hk,⟨hky,by rw [←ord_last hk.1.1 hky];exact hq.symm⟩⟩,hW,hF.tail⟩
   ·rintro a w ⟨⟨hk,hne⟩,hW,hF⟩;have e:scorerAt L k=7:=scAt_ord hne.1 hne.2;exact⟨by rw [scorersE_hit h20 hk.1.1 hk.1.2 hk.2 (by rw [e];decide),e];exact hF,hW⟩
  ·rintro a w ⟨⟨hk,hq⟩,hW,hF⟩;exact⟨⟨hky,by rw [←ord_last hk.1.1 hky];exact hq.symm⟩,hk,hW,hF⟩
 refine T3.sq rfl (S:=fun a w=>(posE (geta L k).ps=0)∧((0≤k∧k<L.length)∧NoErr (scorerAt L) k)∧(Below w0.heap.size w0 w∧ScB w g4 (geta L k))∧Fr 40 [(0,v),(3,.string (lastS L k)),(5,.pointer (some ⟨g4,0,none⟩)),(11,v),(12,.int .i64 L.length),(13,.int .i64 k)] a) ?_ (T3.pure fun hz=>?_)
 ·refine T3.sq rfl ((cr12 w0 v L h h20 k g4).noX) ?_;refine T3.tt rfl (C:=fun q=>(((0≤k∧k<L.length)∧NoErr (scorerAt L) k)∧q=(posE (geta L k).ps != 0))) (W:=fun w=>Below w0.heap.size w0 w∧ScB w g4 (geta L k)) (by decide) ((cr13 w0 v L h h20 k g4).noX) ?_ (T3.skip ?_)
  ·refine T3.sr rfl (t3_seqx (p:=((0≤k∧k<L.length)∧NoErr (scorerAt L) k)∧posE (geta L k).ps≠0) ((cr14 w0 v L h h20 k g4).noX) ?_) (T3.ret ?_)
   ·rintro a w ⟨hF,⟨hk,hq⟩,hW⟩;exact⟨⟨hk,by simpa using hq.symm⟩,hW,hF.tail⟩
   ·rintro a w ⟨⟨hk,hne⟩,hW,hF⟩;have e:scorerAt L k=posE (geta L k).ps:=by rw [scAt_pp hkd.1 hkd.2];unfold ppE;rw [if_pos hne]
    exact⟨by rw [scorersE_hit h20 hk.1.1 hk.1.2 hk.2 (by rw [e];exact hne),e];exact hF,hW⟩
  ·rintro a w ⟨⟨hk,hq⟩,hW,hF⟩;exact⟨by simpa using hq.symm,hk,hW,hF.sub (by simp)⟩
 refine T3.sq rfl (S:=fun a w=>(scorerAt L k=0)∧((0≤k∧k<L.length)∧NoErr (scorerAt L) k)∧(Below w0.heap.size w0 w∧ScB w g4 (geta L k))∧Fr 40 [(0,v),(3,.string (lastS L k)),(5,.pointer (some ⟨g4,0,none⟩)),(11,v),(12,.int .i64 L.length),(13,.int .i64 k)] a) ?_ (T3.pure fun hz2=>?_)
 ·refine T3.sq rfl ((cr15 w0 v L h h20 k g4).noX) ?_;refine T3.tt rfl (C:=fun q=>(((0≤k∧k<L.length)∧NoErr (scorerAt L) k)∧q=(amountE (geta L k).num (geta L k).den 10000 != 0))) (W:=fun w=>Below w0.heap.size w0 w∧ScB w g4 (geta L k)) (by decide) ((cr16 w0 v L h h20 k g4).noX) ?_ (T3.skip ?_)
  ·refine T3.sr rfl (t3_seqx (p:=((0≤k∧k<L.length)∧NoErr (scorerAt L) k)∧amountE (geta L k).num (geta L k).den 10000≠0) ((cr17 w0 v L h h20 k g4).noX) ?_) (T3.ret ?_)
   ·rintro a w ⟨hF,⟨hk,hq⟩,hW⟩;exact⟨⟨hk,by simpa using hq.symm⟩,hW,hF.tail⟩
   ·rintro a w ⟨⟨hk,hne⟩,hW,hF⟩;have e:scorerAt L k=amountE (geta L k).num (geta L k).den 10000:=by rw [scAt_pp hkd.1 hkd.2];unfold ppE;rw [if_neg (by simp [hz])]
    exact⟨by rw [scorersE_hit h20 hk.1.1 hk.1.2 hk.2 (by rw [e];exact hne),e];exact hF,hW⟩
  ·rintro a w ⟨⟨hk,hq⟩,hW,hF⟩;exact⟨by rw [scAt_pp hkd.1 hkd.2];unfold ppE;rw [if_neg (by simp [hz])];simpa using hq.symm,hk,hW,hF.sub (by simp)⟩
 refine T3.pre (R:=fun a w=>((0≤k∧k<L.length)∧NoErr (scorerAt L) k)∧(Below w0.heap.size w0 w∧ScB w g4 (geta L k))∧Fr 40 [(0,v),(3,.string (lastS L k)),(5,.pointer (some ⟨g4,0,none⟩)),(11,v),(12,.int .i64 L.length),(13,.int .i64 k)] a) (T3.pure fun hk=>?_) (fun a w q=>q);exact((cr18 w0 v L h h20 k g4 hk.1.1).noX).post (fun a w q=>⟨⟨hk.1,hk.2.step hz2⟩,q⟩)
def crLI (w0:World)(v:Value)(L:List ScD)(h:ScH w0 v L)(h20:L.length≤20)(k:Int)(a:Act)(w:World):Prop:=(0≤k∧k≤L.length)∧(NoErr (scorerAt L) k)∧(Below w0.heap.size w0 w)∧Fr 40 [(0,v),(3,.string (lastS L k)),(11,v),(12,.int .i64 L.length),(13,.int .i64 k)] a
theorem crLt (k:Int):T3 Tryz.prog (fun a w=>crLI w0 v L h h20 k a w) (sel [1,1,1,0,1,4,4,0] crR) (fun a w=>∃q,Fr 40 ((14,.bool q)::[(13,.int .i64 k)]) a∧((q=true↔k<L.length)∧crLI w0 v L h h20 k a w)) No 9 (fun a w=>Fr 40 [(2,.int .i64 (scorersE L))] a∧Below w0.heap.size w0 w):=by
 refine T3.leaf ?_;rintro Q JS JX JT K hS hK hX hE hT hR a w ⟨hk,hpre,hW,⟨fr,rfl,q0,q3,q11,q12,q13,_⟩⟩;have hln:=h.n;rw [fr_crR,fe q0,fe q3,fe q11,fe q12,fe q13];clear q0 q3 q11 q12 q13;conv=>arg 2;whnf
 by_cases hlt:k<L.length
 ·go_wp2_with fail
  refine Met.intro (hS _ _ ?_);exact⟨true,Fr.r rfl rfl,⟨fun _=>hlt,fun _=>rfl⟩,hk,hpre,hW,Fr.r rfl rfl⟩
 ·have hpb:decide (k<(L.length:Int))=false:=by simp;omega
  go_wp2_with fail
  refine Met.intro (hS _ _ ?_);exact⟨false,Fr.r rfl rfl,⟨(fun h=>by cases h),fun h=>absurd h (by omega)⟩,hk,hpre,hW,Fr.r rfl rfl⟩
theorem crLn (k:Int):T3 Tryz.prog (fun a w=>(0≤k∧k<L.length)∧(NoErr (scorerAt L) (k+1))∧(Below w0.heap.size w0 w)∧Fr 40 [(0,v),(3,.string (lastS L (k+1))),(11,v),(12,.int .i64 L.length),(13,.int .i64 k)] a) (sel [1,1,1,0,1,4,4,1,1,1] crR) (fun a w=>crLI w0 v L h h20 (k+1) a w) No 9 (fun a w=>Fr 40 [(2,.int .i64 (scorersE L))] a∧Below w0.heap.size w0 w):=by
 refine T3.leaf ?_;rintro Q JS JX JT K hS hK hX hE hT hR a w ⟨hk,hpre,hW,⟨fr,rfl,q0,q3,q11,q12,q13,_⟩⟩;obtain⟨hk0,hk1⟩:=hk;have hln:=h.n;rw [fr_crR,fe q0,fe q3,fe q11,fe q12,fe q13];clear q0 q3 q11 q12 q13;conv=>arg 2;whnf
 go_wp2_with fail
 refine Met.intro (hS _ _ ?_);exact⟨⟨by omega,by omega⟩,hpre,hW,Fr.r rfl rfl⟩
theorem crLloop:T3 Tryz.prog (fun a w=>crLI w0 v L h h20 0 a w) (sel [1,1,1,0,1] crR) (fun a w=>(NoErr (scorerAt L) L.length)∧(Below w0.heap.size w0 w)∧Fr 40 [] a) No 9 (fun a w=>Fr 40 [(2,.int .i64 (scorersE L))] a∧Below w0.heap.size w0 w) :=
 T3.range (I:=crLI w0 v L h h20) rfl (by decide) (crLt w0 v L h h20) (crLn w0 v L h h20) (fun _ _ _ h=>h.1) (fun k hk=>T3.mono (crb w0 v L h h20 k) (fun a w ⟨_,hp,hI⟩=>⟨⟨hk,hp⟩,hI⟩) (fun a w ⟨⟨hk,hp⟩,hI⟩=>⟨hk,hp,hI⟩) (fun _ _ q=>q) (fun _ _ q=>q)) (fun a w hI=>by
  obtain⟨hk,hI⟩:=hI;obtain⟨hn,hW,hF⟩:=hI;exact⟨hn,hW,hF.sub (by simp)⟩)
end
theorem cr_all:T3 Tryz.prog (fun a w=>(Below w0.heap.size w0 w)∧Fr 40 [(0,v)] a) crR No No 9 (fun a w=>Fr 40 [(2,.int .i64 (scorersE L))] a∧Below w0.heap.size w0 w):=by
 refine T3.seq (s:=(sel [0] crR)) (c:=(sel [1] crR)) (cr0 w0 v L h) ?_;refine T3.sq rfl (S:=fun a w=>(L.length≤20)∧(Below w0.heap.size w0 w)∧Fr 40 [(0,v)] a) ?_ (T3.pure fun h20=>?_)
 ·refine T3.tt rfl (C:=fun q=>(q=decide ((20:Int)<(L.length:Int)))) (W:=fun w=>Below w0.heap.size w0 w) (by decide) (cr1 w0 v L h) ?_ (T3.skip ?_)
  ·refine T3.sr rfl (t3_seqx (p:=20<L.length) (cr2 w0 v L h) ?_) (T3.ret ?_)
   ·rintro a w ⟨hF,hq,hW⟩;exact⟨by have:=of_decide_eq_true hq.symm;omega,hW,hF.tail⟩
   ·rintro a w ⟨hp,hW,hF⟩;exact⟨by rw [scorersE_big hp];exact hF,hW⟩
  ·rintro a w ⟨hq,hW,hF⟩;exact⟨by have:=of_decide_eq_false hq.symm;omega,hW,hF⟩
 refine T3.sq rfl (cr3 w0 v L h h20) ?_;refine T3.sq rfl (T3.seq (s:=(sel [1,1,1,0,0] crR)) (c:=(sel [1,1,1,0,1] crR)) (cr5 w0 v L h h20) (crLloop w0 v L h h20)) (T3.pure fun hn=>?_);refine T3.sr rfl (cr20 w0 v L h) (T3.ret ?_);rintro a w ⟨hW,hF⟩;exact⟨by rw [scorersE_ok h20 hn];exact hF,hW⟩
theorem scorers_ref:Calls Tryz.prog 14 #[v] w0 fun e w'=>e=.returned (.int .i64 (scorersE L))∧Below w0.heap.size w0 w':=by
 have hall:=cr_all w0 v L h
 go_enter Tryz.func14,Tryz.ntmps14
 refine T3.done (s:=crR) hall ⟨Below.refl _ _,Fr.of _ rfl ⟨rfl,trivial⟩⟩ ?_;rintro a w ⟨⟨fr,rfl,q2,_⟩,hw⟩;rw [fr_crR,fe q2]
 go_ret
 exact⟨rfl,hw⟩
end
end Go.Proofs.YtnmdpphddimfbaaGreat
/-
  Line-ups: where a scorer is (find, the library's BinarySearchFunc). Conditions: at most 1000 scorers (who is found only where they rise); strings of at most 1000 bytes.
-/
namespace Go.Proofs.YtnmdpphddimfbaaGreat
open Go.RowKit Go.Bw
def cmpS (a b:ByteArray):Int:=Lib.compareBytes a.data.toList b.data.toList
theorem cmpS_lt (a b:ByteArray):cmpS a b<0↔a.toList<b.toList:=by
 rw [ByteArray.toList_eq,ByteArray.toList_eq];exact cmp_lt _ _
theorem cmpS_eq (a b:ByteArray):cmpS a b=0↔a=b:=by
 unfold cmpS;rw [cmp_eq];exact⟨fun h=>bytes_inj (by rw [ByteArray.toList_eq,ByteArray.toList_eq];exact h),fun h=>by rw [h]⟩
theorem cl_find (a:ByteArray)(pv:Value)(num den:Int)(pd:Bool)(x:ByteArray)(w:World):
  Calls Tryz.prog 103 #[.agg #[.string a,pv,.int .i64 num,.int .i64 den,.bool pd],.string x] w fun e w'=>e=.returned (.int .i64 (cmpS a x))∧Below w.heap.size w w':=by
 have hw0:=(Below.refl w.heap.size w).alloc (Nat.le_refl _) (.cells #[.string a,pv,.int .i64 num,.int .i64 den,.bool pd] 77);have d0:=cells_new w #[.string a,pv,.int .i64 num,.int .i64 den,.bool pd] 77 0 _ rfl;have HS:=Lib.hid (Tryz.strings_Compare a x);have HE:=Lib.hid (show Lib.compareBytes a.data.toList x.data.toList=cmpS a x from rfl);rw [HE.out]at HS;have HW:=Lib.hid hw0;clear hw0;generalize cmpS a x=r at *
 go_enter Tryz.func103,Tryz.ntmps103
 go_wp2_with fail
 refine(HS.out _).mono ?_;rintro e w1 ⟨rfl,rfl⟩;go_wp2_with fail
 go_ret
 exact⟨rfl,HW.out⟩
/-- Where it is cut; of rising scorers the cut tells. -/
structure CutW (L:List ScD)(x:ByteArray)(i j:Int):Prop where
 i0:0≤i
 ij:i≤j
 jn:j≤L.length
 c:ScRise L→CutAt L x i j
theorem CutW.start (L:List ScD)(x:ByteArray):CutW L x 0 L.length:=⟨by omega,by omega,by omega,fun _=>CutAt.start L x⟩
section
variable {L:List ScD}{x:ByteArray}{i j m:Int}(h:CutW L x i j)(h0:i≤m)(h1:m<j)
include h h0 h1
theorem CutW.up (hm:(geta L m).pl.toList<x.toList):CutW L x (m+1) j:=⟨by have:=h.i0;omega,by omega,h.jn,fun r=>(h.c r).up r h0 h1 hm⟩
theorem CutW.down (hm:¬(geta L m).pl.toList<x.toList):CutW L x i m:=⟨h.i0,h0,by have:=h.jn;omega,fun r=>(h.c r).down r h0 h1 hm⟩
end
noncomputable def bsP:Code:=(Tryz.f102.body).getD .skip
theorem fr_bsP (f:Nat→Value):frame 49 f=⟨#[f 0,f 1,f 2,f 3,f 4,f 5,f 6,f 7,f 8,f 9,f 10,f 11,f 12,f 13,f 14,f 15,f 16,f 17,f 18,f 19,f 20,f 21,f 22,f 23,f 24,f 25,f 26,f 27,f 28,f 29,f 30,f 31,f 32,f 33,f 34,f 35,f 36,f 37,f 38,f 39,f 40,f 41,f 42,f 43,f 44,f 45,f 46,f 47,f 48],[]⟩:=by rfl
section
variable (w0:World)(v:Value)(L:List ScD)(x:ByteArray)(h:ScH w0 v L)
include x h
theorem bs0:T3 Tryz.prog (fun a w=>(Below w0.heap.size w0 w)∧Fr 49 [(0,v),(1,.string x),(2,.func (.func 103) #[] #[])] a) (sel [0] bsP) (fun a w=>(Below w0.heap.size w0 w)∧Fr 49 [(0,v),(1,.string x),(2,.func (.func 103) #[] #[])] a) No 9 No:=by
 refine T3.leaf ?_;rintro Q JS JX JT K hS hK hX hE hT hR a w ⟨hW,⟨fr,rfl,q0,q1,q2,_⟩⟩;have HW:=Lib.hid hW;have hsn:=h.n;obtain⟨p1,c1,rfl⟩:=h.r.shape;clear hW;rw [fr_bsP,fe q0,fe q1,fe q2];clear q0 q1 q2;conv=>arg 2;whnf
 go_wp2_with fail
 refine Met.intro (hS _ _ ?_);exact⟨HW.out,Fr.r rfl rfl⟩
theorem bs1:T3 Tryz.prog (fun a w=>(Below w0.heap.size w0 w)∧Fr 49 [(0,v),(1,.string x),(2,.func (.func 103) #[] #[])] a) (sel [1,0] bsP) (fun a w=>(Below w0.heap.size w0 w)∧Fr 49 [(0,v),(1,.string x),(2,.func (.func 103) #[] #[]),(8,.int .i64 L.length)] a) No 9 No:=by
 refine T3.leaf ?_;rintro Q JS JX JT K hS hK hX hE hT hR a w ⟨hW,⟨fr,rfl,q0,q1,q2,_⟩⟩;have HW:=Lib.hid hW;have hsn:=h.n;obtain⟨p1,c1,rfl⟩:=h.r.shape;clear hW;rw [fr_bsP,fe q0,fe q1,fe q2];clear q0 q1 q2;conv=>arg 2;whnf
 go_wp2_with fail
 refine Met.intro (hS _ _ ?_);exact⟨HW.out,Fr.r rfl rfl⟩
theorem bs2:T3 Tryz.prog (fun a w=>(Below w0.heap.size w0 w)∧Fr 49 [(0,v),(1,.string x),(2,.func (.func 103) #[] #[]),(8,.int .i64 L.length)] a) (sel [1,1,0] bsP) (fun a w=>(Below w0.heap.size w0 w)∧Fr 49 [(0,v),(1,.string x),(2,.func (.func 103) #[] #[]),(8,.int .i64 L.length),(9,.int .i64 0),(10,.int .i64 L.length)] a) No 9 No:=by
 refine T3.leaf ?_;rintro Q JS JX JT K hS hK hX hE hT hR a w ⟨hW,⟨fr,rfl,q0,q1,q2,q8,_⟩⟩;have HW:=Lib.hid hW;have hsn:=h.n;obtain⟨p1,c1,rfl⟩:=h.r.shape;clear hW;rw [fr_bsP,fe q0,fe q1,fe q2,fe q8];clear q0 q1 q2 q8;conv=>arg 2;whnf
 go_wp2_with fail
 refine Met.intro (hS _ _ ?_);exact⟨HW.out,Fr.r rfl rfl⟩
theorem bs3 (i j:Int)(hc:CutW L x i j):T3 Tryz.prog (fun a w=>(Below w0.heap.size w0 w)∧Fr 49 [(0,v),(1,.string x),(2,.func (.func 103) #[] #[]),(8,.int .i64 L.length),(9,.int .i64 i),(10,.int .i64 j)] a) (sel [1,1,1,0,4,4,0,0] bsP) (fun a w=>∃q,Fr 49 ((17,.bool q)::[(0,v),(1,.string x),(2,.func (.func 103) #[] #[]),(8,.int .i64 L.length),(9,.int .i64 i),(10,.int .i64 j)]) a∧((q=decide (i<j))∧Below w0.heap.size w0 w)) No 9 No:=by
 refine T3.leaf ?_;rintro Q JS JX JT K hS hK hX hE hT hR a w ⟨hW,⟨fr,rfl,q0,q1,q2,q8,q9,q10,_⟩⟩;have HW:=Lib.hid hW;have hsn:=h.n;obtain⟨p1,c1,rfl⟩:=h.r.shape;clear hW;rw [fr_bsP,fe q0,fe q1,fe q2,fe q8,fe q9,fe q10];clear q0 q1 q2 q8 q9 q10;conv=>arg 2;whnf
 go_wp2_with fail
 refine Met.intro (hS _ _ ?_);exact⟨_,Fr.r rfl rfl,rfl,HW.out⟩
section
variable (i j:Int)(hc:CutW L x i j)(hl:i<j)
include hc hl
theorem bs4:T3 Tryz.prog (fun a w=>(Below w0.heap.size w0 w)∧Fr 49 [(0,v),(1,.string x),(2,.func (.func 103) #[] #[]),(8,.int .i64 L.length),(9,.int .i64 i),(10,.int .i64 j)] a) (sel [1,1,1,0,4,4,1,4,0] bsP) (fun a w=>(Below w0.heap.size w0 w)∧Fr 49 [(0,v),(1,.string x),(2,.func (.func 103) #[] #[]),(8,.int .i64 L.length),(9,.int .i64 i),(10,.int .i64 j),(11,.int .i64 ((i+j) / 2))] a) No 9 No:=by
 refine T3.leaf ?_;rintro Q JS JX JT K hS hK hX hE hT hR a w ⟨hW,⟨fr,rfl,q0,q1,q2,q8,q9,q10,_⟩⟩;have i0:=hc.i0;have jn:=hc.jn;have HW:=Lib.hid hW;have hsn:=h.n;obtain⟨p1,c1,rfl⟩:=h.r.shape;clear hW;have e1:IntKind.i64.wrap (i+j)=i+j:=IntWalk.i64_in _ (by omega);have e2:IntKind.u64.wrap (i+j)=i+j:=IntWalk.u64_in _ (by omega);have e3:IntKind.i64.wrap ((i+j) / 2)=(i+j) / 2:=IntWalk.i64_in _ (by omega);have e4:wrap64 ((i+j) / 2)=(i+j) / 2:=by unfold wrap64;omega
 have e5:IntKind.u64.wrap ((i+j) / 2)=(i+j) / 2:=IntWalk.u64_in _ (by omega);clear hc h;rw [fr_bsP,fe q0,fe q1,fe q2,fe q8,fe q9,fe q10];clear q0 q1 q2 q8 q9 q10;conv=>arg 2;whnf
 go_wp2_with fail
 refine Met.intro (hS _ _ ?_);exact⟨HW.out,Fr.r rfl rfl⟩
theorem bs5:T3 Tryz.prog (fun a w=>(Below w0.heap.size w0 w)∧Fr 49 [(0,v),(1,.string x),(2,.func (.func 103) #[] #[]),(8,.int .i64 L.length),(9,.int .i64 i),(10,.int .i64 j),(11,.int .i64 ((i+j) / 2))] a) (sel [1,1,1,0,4,4,1,4,1,0] bsP) (fun a w=>∃q,Fr 49 ((31,.bool q)::[(0,v),(1,.string x),(2,.func (.func 103) #[] #[]),(8,.int .i64 L.length),(9,.int .i64 i),(10,.int .i64 j),(11,.int .i64 ((i+j) / 2))]) a∧((q=decide (cmpS (geta L ((i+j) / 2)).pl x<0))∧Below w0.heap.size w0 w)) No 9 No:=by
 refine T3.leaf ?_;rintro Q JS JX JT K hS hK hX hE hT hR a w ⟨hW,⟨fr,rfl,q0,q1,q2,q8,q9,q10,q11,_⟩⟩;have i0:=hc.i0;have jn:=hc.jn;have hsn:=h.n;have m0:0≤(i+j) / 2:=by omega
 have m1:(i+j) / 2<L.length:=by omega
 have HW:=Lib.hid hW;obtain⟨_,hcs⟩:=(h.below hW).r.els encSc_length (by decide);rcases hcs with ⟨rfl,h0⟩|⟨bz,off,cap,rfl,_,hbz,hnc,hcm,hcell⟩
 ·omega
 have t0:=hcell ((i+j) / 2) (by omega) (by omega) 0 _ rfl;have t1:=hcell ((i+j) / 2) (by omega) (by omega) 1 _ rfl;have t2:=hcell ((i+j) / 2) (by omega) (by omega) 2 _ rfl;have t3:=hcell ((i+j) / 2) (by omega) (by omega) 3 _ rfl;have t4:=hcell ((i+j) / 2) (by omega) (by omega) 4 _ rfl;rw [Nat.add_zero]at t0;obtain⟨q,d,hq⟩:=(h.p _ (geta_mem (l:=L) (i:=((i+j) / 2)) (by omega) (by omega))).r.shape;generalize (i+j) / 2=m at *;clear hcell hW hc h;generalize geta L m=y at *;obtain⟨xk,xv,xps,xn,xd,xp⟩:=y;simp only at hq t0 t1 t2 t3 t4;subst hq;have HC:=Lib.hid (cl_find xk (.slice q xps.length d) xn xd xp x w);generalize cmpS xk x=cc at *;rw [fr_bsP,fe q0,fe q1,fe q2,fe q8,fe q9,fe q10,fe q11];clear q0 q1 q2 q8 q9 q10 q11;conv=>arg 2;whnf
 go_wp2_with fail
 refine HC.out.mono ?_;rintro e w1 ⟨rfl,hb⟩;have HR:=Lib.hid (HW.out.trans (hb.mono HW.out.size));clear hb;go_wp2_with fail
 refine Met.intro (hS _ _ ?_);exact⟨_,Fr.r rfl rfl,rfl,HR.out⟩
theorem bs6:T3 Tryz.prog (fun a w=>(Below w0.heap.size w0 w)∧Fr 49 [(0,v),(1,.string x),(2,.func (.func 103) #[] #[]),(8,.int .i64 L.length),(9,.int .i64 i),(10,.int .i64 j),(11,.int .i64 ((i+j) / 2))] a) (sel [1,1,1,0,4,4,1,4,1,1,2] bsP) (fun a w=>(Below w0.heap.size w0 w)∧Fr 49 [(0,v),(1,.string x),(2,.func (.func 103) #[] #[]),(8,.int .i64 L.length),(9,.int .i64 (((i+j) / 2)+1)),(10,.int .i64 j)] a) No 9 No:=by
 refine T3.leaf ?_;rintro Q JS JX JT K hS hK hX hE hT hR a w ⟨hW,⟨fr,rfl,q0,q1,q2,q8,q9,q10,q11,_⟩⟩;have i0:=hc.i0;have jn:=hc.jn;have HW:=Lib.hid hW;have hsn:=h.n;obtain⟨p1,c1,rfl⟩:=h.r.shape;clear hW;have e1:IntKind.i64.wrap ((i+j) / 2+1)=(i+j) / 2+1:=IntWalk.i64_in _ (by omega);generalize (i+j) / 2=m at *;clear h hc;rw [fr_bsP,fe q0,fe q1,fe q2,fe q8,fe q9,fe q10,fe q11];clear q0 q1 q2 q8 q9 q10 q11;conv=>arg 2;whnf
 go_wp2_with fail
 refine Met.intro (hS _ _ ?_);exact⟨HW.out,Fr.r rfl rfl⟩
theorem bs7:T3 Tryz.prog (fun a w=>(Below w0.heap.size w0 w)∧Fr 49 [(0,v),(1,.string x),(2,.func (.func 103) #[] #[]),(8,.int .i64 L.length),(9,.int .i64 i),(10,.int .i64 j),(11,.int .i64 ((i+j) / 2))] a) (sel [1,1,1,0,4,4,1,4,1,1,3] bsP) (fun a w=>(Below w0.heap.size w0 w)∧Fr 49 [(0,v),(1,.string x),(2,.func (.func 103) #[] #[]),(8,.int .i64 L.length),(9,.int .i64 i),(10,.int .i64 ((i+j) / 2))] a) No 9 No:=by
 refine T3.leaf ?_;rintro Q JS JX JT K hS hK hX hE hT hR a w ⟨hW,⟨fr,rfl,q0,q1,q2,q8,q9,q10,q11,_⟩⟩;have HW:=Lib.hid hW;have hsn:=h.n;obtain⟨p1,c1,rfl⟩:=h.r.shape;clear hW;generalize (i+j) / 2=m at *;clear h hc;rw [fr_bsP,fe q0,fe q1,fe q2,fe q8,fe q9,fe q10,fe q11];clear q0 q1 q2 q8 q9 q10 q11;conv=>arg 2;whnf
 go_wp2_with fail
 refine Met.intro (hS _ _ ?_);exact⟨HW.out,Fr.r rfl rfl⟩
end
theorem bs8 (i:Int)(hc:CutW L x i i):T3 Tryz.prog (fun a w=>(Below w0.heap.size w0 w)∧Fr 49 [(0,v),(1,.string x),(2,.func (.func 103) #[] #[]),(8,.int .i64 L.length),(9,.int .i64 i),(10,.int .i64 i)] a) (sel [1,1,1,1,0] bsP) (fun a w=>(Below w0.heap.size w0 w)∧Fr 49 [(6,.int .i64 i),(7,.bool (decide (i<L.length)&&decide (cmpS (geta L i).pl x=0)))] a) No 9 No:=by
 refine T3.leaf ?_;rintro Q JS JX JT K hS hK hX hE hT hR a w ⟨hW,⟨fr,rfl,q0,q1,q2,q8,q9,q10,_⟩⟩;have i0:=hc.i0;have hsn:=h.n;have HW:=Lib.hid hW
 by_cases hl:i<L.length
 ·have HB:=Lib.hid (show decide (cmpS (geta L i).pl x=0)=(decide (i<L.length)&&decide (cmpS (geta L i).pl x=0))by rw [show decide (i<(L.length:Int))=true by simp [hl]];rfl);obtain⟨_,hcs⟩:=(h.below hW).r.els encSc_length (by decide);rcases hcs with ⟨rfl,h0⟩|⟨bz,off,cap,rfl,_,hbz,hnc,hcm,hcell⟩
  ·omega
  have t0:=hcell i (by omega) (by omega) 0 _ rfl;have t1:=hcell i (by omega) (by omega) 1 _ rfl;have t2:=hcell i (by omega) (by omega) 2 _ rfl;have t3:=hcell i (by omega) (by omega) 3 _ rfl;have t4:=hcell i (by omega) (by omega) 4 _ rfl;rw [Nat.add_zero]at t0;obtain⟨q,d,hq⟩:=(h.p _ (geta_mem (l:=L) (i:=i) (by omega) (by omega))).r.shape;clear hcell hW hc h;generalize geta L i=y at *;obtain⟨xk,xv,xps,xn,xd,xp⟩:=y;simp only at hq t0 t1 t2 t3 t4;subst hq;have HC:=Lib.hid (cl_find xk (.slice q xps.length d) xn xd xp x w);simp only at HB;generalize hcc:cmpS xk x=cc at *;have HQ:=Lib.hid (show(cc==0)=decide (cc=0)by by_cases e:cc=0 <;> simp [e]);rw [fr_bsP,fe q0,fe q1,fe q2,fe q8,fe q9,fe q10];clear q0 q1 q2 q8 q9 q10;conv=>arg 2;whnf
  go_wp2_with fail
  refine HC.out.mono ?_;rintro e w1 ⟨rfl,hb⟩;have HR:=Lib.hid (HW.out.trans (hb.mono HW.out.size));clear hb;generalize hqq:(cc==0)=qq at *;go_wp2_with fail
  refine Met.intro (hS _ _ ?_);rw [←HB.out,←HQ.out];exact⟨HR.out,Fr.r rfl rfl⟩
 ·have HB:=Lib.hid (show false=(decide (i<L.length)&&decide (cmpS (geta L i).pl x=0))by rw [show decide (i<(L.length:Int))=false by simp;omega];rfl);obtain⟨p1,c1,rfl⟩:=h.r.shape;have hlb:decide (i<(L.length:Int))=false:=by simp;omega
  clear hW hc h;rw [fr_bsP,fe q0,fe q1,fe q2,fe q8,fe q9,fe q10];clear q0 q1 q2 q8 q9 q10;conv=>arg 2;whnf
  go_wp2_with fail
  refine Met.intro (hS _ _ ?_);rw [←HB.out];exact⟨HW.out,Fr.r rfl rfl⟩
theorem bsloop:T3 Tryz.prog (fun a w=>(Below w0.heap.size w0 w)∧Fr 49 [(0,v),(1,.string x),(2,.func (.func 103) #[] #[]),(8,.int .i64 L.length),(9,.int .i64 0),(10,.int .i64 L.length)] a) (sel [1,1,1,0] bsP) (fun a w=>∃i:Int,CutW L x i i∧(Below w0.heap.size w0 w)∧Fr 49 [(0,v),(1,.string x),(2,.func (.func 103) #[] #[]),(8,.int .i64 L.length),(9,.int .i64 i),(10,.int .i64 i)] a) No 9 No:=by
 refine T3.loop (c:=(sel [1,1,1,0,4,4] bsP)) (fun ng=>(fun a w=>∃i j:Int,(((ng:Int)=j-i)∧CutW L x i j)∧(Below w0.heap.size w0 w)∧Fr 49 [(0,v),(1,.string x),(2,.func (.func 103) #[] #[]),(8,.int .i64 L.length),(9,.int .i64 i),(10,.int .i64 j)] a)) (fun a w q=>⟨L.length,0,L.length,⟨by omega,CutW.start L x⟩,q⟩) (fun ng=>T3.ex fun i=>T3.ex fun j=>T3.pure fun hk=>?_);obtain⟨hng,hc⟩:=hk;have hij:=hc.ij;refine T3.sq rfl (S:=fun a w=>(i<j)∧(Below w0.heap.size w0 w)∧Fr 49 [(0,v),(1,.string x),(2,.func (.func 103) #[] #[]),(8,.int .i64 L.length),(9,.int .i64 i),(10,.int .i64 j)] a) ?_ (T3.pure fun hl=>?_)
 ·refine T3.sq rfl ((bs3 w0 v L x h i j hc).noX) ?_;refine T3.iff (x:=.skip) (y:=.exit 0) (M:=fun q w=>(q=decide (i<j))∧Below w0.heap.size w0 w) (by decide) (T3.skip fun a w q=>⟨of_decide_eq_true q.2.1.symm,q.2.2,q.1.tail⟩) (T3.exit fun a w q=>?_);have he:=of_decide_eq_false q.2.1.symm;obtain rfl:i=j:=by omega
  exact⟨i,hc,q.2.2,q.1.tail⟩
 refine T3.block (id':=1) (c:=(sel [1,1,1,0,4,4,1,4] bsP)) (by decide) ?_;refine T3.sq rfl ((bs4 w0 v L x h i j hc hl).noX) ?_;refine T3.test (s:=(sel [1,1,1,0,4,4,1,4,1,0] bsP)) (x:=(sel [1,1,1,0,4,4,1,4,1,1,2] bsP)) (y:=(sel [1,1,1,0,4,4,1,4,1,1,3] bsP)) (C:=fun q=>(q=decide (cmpS (geta L ((i+j) / 2)).pl x<0))) (W:=fun w=>Below w0.heap.size w0 w) (by decide) ((bs5 w0 v L x h i j hc hl).noX) ?_ ?_
 ·refine T3.pre (R:=fun a w=>(cmpS (geta L ((i+j) / 2)).pl x<0)∧(Below w0.heap.size w0 w)∧Fr 49 [(0,v),(1,.string x),(2,.func (.func 103) #[] #[]),(8,.int .i64 L.length),(9,.int .i64 i),(10,.int .i64 j),(11,.int .i64 ((i+j) / 2))] a) (T3.pure fun hm=>?_) (fun a w q=>⟨of_decide_eq_true q.2.1.symm,q.2.2,q.1.tail⟩);exact((bs6 w0 v L x h i j hc hl).noX).post (fun a w q=>⟨(j-(((i+j) / 2)+1)).toNat,by omega,_,_,⟨by omega,hc.up (by omega) (by omega) ((cmpS_lt _ _).1 hm)⟩,q⟩)
 ·refine T3.pre (R:=fun a w=>(¬cmpS (geta L ((i+j) / 2)).pl x<0)∧(Below w0.heap.size w0 w)∧Fr 49 [(0,v),(1,.string x),(2,.func (.func 103) #[] #[]),(8,.int .i64 L.length),(9,.int .i64 i),(10,.int .i64 j),(11,.int .i64 ((i+j) / 2))] a) (T3.pure fun hm=>?_) (fun a w q=>⟨of_decide_eq_false q.1.symm,q.2⟩);exact((bs7 w0 v L x h i j hc hl).noX).post (fun a w q=>⟨(((i+j) / 2)-i).toNat,by omega,_,_,⟨by omega,hc.down (by omega) (by omega) (fun e=>hm ((cmpS_lt _ _).2 e))⟩,q⟩)
theorem bs_all:T3 Tryz.prog (fun a w=>(Below w0.heap.size w0 w)∧Fr 49 [(0,v),(1,.string x),(2,.func (.func 103) #[] #[])] a) bsP No No 9 (fun a w=>∃i:Int,CutW L x i i∧(Below w0.heap.size w0 w)∧Fr 49 [(6,.int .i64 i),(7,.bool (decide (i<L.length)&&decide (cmpS (geta L i).pl x=0)))] a):=by
 refine T3.seq (s:=(sel [0] bsP)) (c:=(sel [1] bsP)) (T3.noT (bs0 w0 v L x h)) ?_;refine T3.sq rfl (T3.noT (bs1 w0 v L x h)) ?_;refine T3.sq rfl (T3.noT (bs2 w0 v L x h)) ?_;refine T3.sq rfl (T3.noT (bsloop w0 v L x h)) ?_;refine T3.ex fun i=>T3.pure fun hc=>?_
 exact T3.sr rfl (T3.noT (bs8 w0 v L x h i hc)) (T3.ret fun a w q=>⟨i,hc,q⟩)
theorem bsearch:Calls Tryz.prog 102 #[v,.string x,.func (.func 103) #[] #[]] w0 fun e w'=>∃(i:Int) (q:Bool),e=.returned (.tuple #[.int .i64 i,.bool q])∧(ScRise L→q=true→scIdx L x=i)∧(ScRise L→q=false→scIdx L x=-1)∧Below w0.heap.size w0 w':=by
 have hall:=bs_all w0 v L x h
 go_enter Tryz.func102,Tryz.ntmps102
 refine T3.done (s:=bsP) hall ⟨Below.refl _ _,Fr.r rfl rfl⟩ ?_;rintro a w ⟨i,hc,hw,fr,rfl,q6,q7,_⟩;rw [fr_bsP,fe q6,fe q7];have h1:ScRise L→(decide (i<L.length)&&decide (cmpS (geta L i).pl x=0))=true→scIdx L x=i:=fun r e=>by
  rw [Bool.and_eq_true]at e;exact(hc.c r).found (of_decide_eq_true e.1) ((cmpS_eq _ _).1 (of_decide_eq_true e.2))
 have h2:ScRise L→(decide (i<L.length)&&decide (cmpS (geta L i).pl x=0))=false→scIdx L x=-1:=fun r e=>by
  refine(hc.c r).none r fun hi he=>?_
  rw [Bool.and_eq_false_iff]at e;rcases e with e|e
  ·exact(of_decide_eq_false e) hi
  ·exact(of_decide_eq_false e) ((cmpS_eq _ _).2 he)
 generalize (decide (i<L.length)&&decide (cmpS (geta L i).pl x=0))=q at *
 go_ret2
 exact⟨i,q,rfl,h1,h2,hw⟩
theorem find_any:Calls Tryz.prog 69 #[v,.string x] w0 fun e w'=>∃i:Int,e=.returned (.int .i64 i)∧(ScRise L→i=scIdx L x)∧Below w0.heap.size w0 w':=by
 have HB:=Lib.hid (bsearch w0 v L x h);obtain⟨p1,c1,rfl⟩:=h.r.shape;generalize scIdx L x=r0 at *;clear h
 go_enter Tryz.func69,Tryz.ntmps69
 go_wp2_with fail
 refine HB.out.mono ?_;rintro e w1 ⟨i,q,rfl,h1,h2,hb⟩;have HW:=Lib.hid hb;clear hb;cases q
 ·have HE:=Lib.hid (fun r=>h2 r rfl);clear h1 h2;go_wp2_with fail
  go_ret
  exact⟨_,rfl,fun r=>(HE.out r).symm,HW.out⟩
 ·have HE:=Lib.hid (fun r=>h1 r rfl);clear h1 h2;go_wp2_with fail
  go_ret
  exact⟨_,rfl,fun r=>(HE.out r).symm,HW.out⟩
theorem find_prog (r:ScRise L):Calls Tryz.prog 69 #[v,.string x] w0 fun e w'=>e=.returned (.int .i64 (scIdx L x))∧Below w0.heap.size w0 w' :=
 (find_any w0 v L x h).mono fun _ _ ⟨_,he,hi,hb⟩=>⟨by rw [he,hi r],hb⟩
end
end Go.Proofs.YtnmdpphddimfbaaGreat
/-
  Line-ups: what is wrong with who sits on the bench (subsFault, BenchFault). Conditions: at most 1000 of each; strings of at most 1000 bytes; the program's: rising scorers.
-/
namespace Go.Proofs.YtnmdpphddimfbaaGreat
open Go.RowKit Go.Bw
/-- A string in a box. -/
def StB (w:World)(g:Nat)(x:ByteArray):Prop:=w.cell? ⟨g,0,none⟩=some (.string x)
theorem StB.below {w w':World}{g:Nat}{x:ByteArray}(h:StB w g x)(b:Below w.heap.size w w'):StB w' g x:=(b.cell (World.block_lt_of_cell? w _ h)).trans h
theorem StB.new (w:World)(x:ByteArray)(e:TypeId):StB (w.alloc (.cells #[.string x] e)) w.heap.size x:=cells_new w _ _ 0 _ rfl
theorem rise_of {L:List ScD}(h:scorersE L=0):ScRise L:=by
 refine ScRise.of fun k h0 h1=>?_
 unfold scorersE at h
 split at h
 ·cases h
 ·have:=firstErr_zero h k (by omega) h1;unfold scorerAt at this
  split at this
  ·cases this
  ·cases ho:ordBad L k with
   | false=>rfl
   | true=>rw [ho]at this;simp at this
def sbLI (w0:World)(vl vf vk:Value)(L:List ScD)(Fs:List FlD)(K:List ByteArray)(hl:ScH w0 vl L)(hf:FlH w0 vf Fs)(hb:BnH w0 vk K)(r:ScRise L)(h20:K.length≤20)(k:Int)(a:Act)(w:World):Prop:=(0≤k∧k≤K.length)∧(NoErr (benchAt L Fs K) k)∧(Below w0.heap.size w0 w)∧Fr 35 [(0,vl),(1,vf),(2,vk),(12,vk),(13,.int .i64 K.length),(14,.int .i64 k)] a
def bfLI (w0:World)(vl vf vk:Value)(L:List ScD)(Fs:List FlD)(K:List ByteArray)(hl:ScH w0 vl L)(hf:FlH w0 vf Fs)(hb:BnH w0 vk K)(h20:K.length≤20)(k:Int)(a:Act)(w:World):Prop:=(0≤k∧k≤K.length)∧(NoErr (benchAt L Fs K) k)∧(Below w0.heap.size w0 w)∧Fr 35 [(0,vl),(1,vf),(2,vk),(12,vk),(13,.int .i64 K.length),(14,.int .i64 k)] a
end Go.Proofs.YtnmdpphddimfbaaGreat
