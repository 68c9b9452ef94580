/-
  Contracts and lemmas towards the statement, of several parts; each part says ahead of it what it holds and under which conditions.
-/
import Derived.Test.YtnmdpphddimfbaaGreatMg4
import Derived.Lib.SliceRun
import Derived.Test.YtnmdpphddimfbaaGreatMg6
import Derived.Test.YtnmdpphddimfbaaGreatMg2
import Derived.Maps.Own
import Derived.WideKeyArr
set_option maxRecDepth 100000
set_option maxHeartbeats 1000000
set_option linter.unusedSectionVars false
/-
  Line-ups: who comes in (Subbed). Conditions: at most 1000 of each; strings of at most 1000 bytes; whole numbers are Go's.
-/
set_option linter.unusedVariables false
namespace Go.Proofs.YtnmdpphddimfbaaGreat
open Go.RowKit Go.Bw
theorem cellsFl_set:∀ (l:List FlD)(i:Nat)(p:ByteArray) ,i<l.length→(cellsOf encFl l).set (i*2+1) (.string p)=cellsOf encFl (l.set i ⟨(geta l (i:Int)).sl,p⟩)
 | [],_,_,h=>by simp at h
 | x::l,0,p,_=>rfl
 | x::l,i+1,p,h=>by
  have ih:=cellsFl_set l i p (by simpa using h);rw [List.set_cons_succ,cellsOf_cons,cellsOf_cons];show([Value.string x.sl,Value.string x.pl]++cellsOf encFl l).set ((i+1)*2+1) (.string p)=[Value.string x.sl,Value.string x.pl]++_;rw [show(i+1)*2+1=(i*2+1)+1+1 by omega];show Value.string x.sl::Value.string x.pl::(cellsOf encFl l).set (i*2+1) (.string p)=_;rw [ih];have e:geta (x::l) ((i+1:Nat):Int)=geta l (i:Int):=by
   unfold geta;rw [show(((i+1:Nat):Int)).toNat=i+1 by omega,show((i:Nat):Int).toNat=i by omega,List.getElem?_cons_succ]
  rw [e];rfl
def subE (S:List SlD)(L:List ScD)(F:List FlD)(K:List ByteArray):Int:=if allE S L F≠0 then allE S L F else benchE L F K
def subR (S:List SlD)(L:List ScD)(F:List FlD)(K:List ByteArray):List FlD:=if subE S L F K=0 then subL S L F K else []
/-- All is right. -/
structure SuG (S:List SlD)(L:List ScD)(F:List FlD)(K:List ByteArray):Prop where
 a:allE S L F=0
 b:benchE L F K=0
section
variable {S:List SlD}{L:List ScD}{F:List FlD}{K:List ByteArray}
theorem SuG.e (h:SuG S L F K):subE S L F K=0:=by unfold subE;rw [if_neg (by simp [h.a])];exact h.b
theorem SuG.r (h:SuG S L F K):subR S L F K=subL S L F K:=by unfold subR;rw [if_pos h.e]
theorem SuG.ss (h:SuG S L F K):ssE S L=0:=by
 by_cases e:ssE S L=0
 ·exact e
 ·have:=allE_ss (F:=F) e;rw [h.a]at this;exact absurd this.symm e
theorem SuG.f (h:SuG S L F K):fillsE S L F=0:=by rw [←allE_fills (F:=F) h.ss];exact h.a
theorem SuG.len (h:SuG S L F K):F.length=S.length:=by
 have:=h.f;unfold fillsE at this
 split at this
 ·cases this
 ·rename_i e;omega
theorem SuG.fill (h:SuG S L F K){k:Int}(h0:0≤k)(h1:k<F.length):fillAt S L F k=0:=by
 have:=h.f;unfold fillsE at this
 split at this
 ·cases this
 ·exact firstErr_zero this k h0 h1
theorem SuG.bench (h:SuG S L F K){k:Int}(h0:0≤k)(h1:k<K.length):¬scIdx L (geta K k)<0:=by
 have:=h.b;unfold benchE at this
 split at this
 ·cases this
 ·have:=firstErr_zero this k h0 h1;unfold benchAt at this
  split at this
  ·cases this
  ·assumption
theorem SuG.sc (h:SuG S L F K):scorersE L=0:=by
 have:=h.ss;unfold ssE at this
 split at this
 ·rename_i e;exact absurd this e
 ·exact this
end
/-- The fills so far, the call's own. -/
structure SuW (w0:World)(S:List SlD)(L:List ScD)(F:List FlD)(K:List ByteArray)(v12:Value)(k:Nat)(w:World):Prop where
 bel:Below w0.heap.size w0 w
 own:w.ownsRow w0.heap.size 49 2 v12 F.length (cellsOf encFl (subK S L F K k))
theorem SuW.below {w0 w w':World}{S:List SlD}{L:List ScD}{F:List FlD}{K:List ByteArray}{v12:Value}{k:Nat}(h:SuW w0 S L F K v12 k w)(b:Below w.heap.size w w'):SuW w0 S L F K v12 k w':=⟨h.bel.trans (b.mono h.bel.size),owns_below h.own b (Nat.le_refl _)⟩
section
variable {w0 w:World}{S:List SlD}{L:List ScD}{F:List FlD}{K:List ByteArray}
theorem SuW.step {v12:Value}{k:Nat}(h:SuW w0 S L F K v12 k w)(e:subK S L F K (k+1)=subK S L F K k):SuW w0 S L F K v12 (k+1) w:=⟨h.bel,by rw [e];exact h.own⟩
theorem SuW.put {g c:Nat}{k:Nat}(h:SuW w0 S L F K (.slice (some ⟨g,0,none⟩) F.length c) k w)(hk:k<F.length){p:ByteArray}(e:subK S L F K (k+1)=(subK S L F K k).set k ⟨(geta (subK S L F K k) (k:Int)).sl,p⟩):
  SuW w0 S L F K (.slice (some ⟨g,0,none⟩) F.length c) (k+1) (w.setCell ⟨g,k*2+1,none⟩ (.string p)):=by
 refine⟨h.bel.grown (grown_setCell w g _ _) h.bel.size (fun j hj=>by cases hj;exact(h.own.lt g rfl).1),?_⟩;rw [e,←cellsFl_set _ _ _ (by rw [subK_length];exact hk)];exact owns_setC h.own _ (by omega) _
end
def suLI (w0:World)(vs vl vf vk:Value)(S:List SlD)(L:List ScD)(Fs:List FlD)(K:List ByteArray)(hs:SlH w0 vs S)(hl:ScH w0 vl L)(hf:FlH w0 vf Fs)(hb:BnH w0 vk K)(g:SuG S L Fs K)(v12:Value)(k:Int)(a:Act)(w:World):Prop:=(0≤k∧k≤Fs.length)∧(SuW w0 S L Fs K v12 ((k:Int).toNat) w)∧Fr 95 [(0,vs),(1,vl),(2,vf),(3,vk),(12,v12),(34,vf),(35,.int .i64 Fs.length),(36,.int .i64 k)] a
end Go.Proofs.YtnmdpphddimfbaaGreat
/-
  Line-ups: who sits on the bench, who comes in, the reference's look (BenchOf, SubbedOf). Conditions: right slots, scorers, fills and benches; strings of at most 1000 bytes.
-/
namespace Go.Proofs.YtnmdpphddimfbaaGreat
open Go.RowKit Go.Bw
theorem el_stJ:Elem Tryz.prog 39 9 (.string ByteArray.empty) 1 16:=⟨by kernel_rfl,by kernel_rfl,by kernel_rfl,by decide,by decide⟩
def benchK (L:List ScD)(F:List FlD):Nat→List ByteArray
 | 0=>[]
 | k+1=>if isInB F (geta L (k:Int)).pl=true then benchK L F k else benchK L F k++[(geta L (k:Int)).pl]
theorem benchK_le (L:List ScD)(F:List FlD):∀k,(benchK L F k).length≤k
 | 0=>Nat.le_refl _
 | k+1=>by
  have ih:=benchK_le L F k;show(if isInB F (geta L (k:Int)).pl=true then benchK L F k else benchK L F k++[(geta L (k:Int)).pl]).length≤k+1
  split
  ·omega
  ·simp;omega
/-- The bench so far. -/
structure BoW (w0:World)(L:List ScD)(F:List FlD)(v5:Value)(k:Nat)(w:World):Prop where
 bel:Below w0.heap.size w0 w
 own:w.ownsRow w0.heap.size 9 1 v5 (benchK L F k).length (cellsOf encSt (benchK L F k))
theorem BoW.below {w0 w w':World}{L:List ScD}{F:List FlD}{v5:Value}{k:Nat}(h:BoW w0 L F v5 k w)(b:Below w.heap.size w w'):BoW w0 L F v5 k w':=⟨h.bel.trans (b.mono h.bel.size),owns_below h.own b (Nat.le_refl _)⟩
theorem BoW.step {w0 w:World}{L:List ScD}{F:List FlD}{v5:Value}{k:Nat}(h:BoW w0 L F v5 k w)(e:isInB F (geta L (k:Int)).pl=true):BoW w0 L F v5 (k+1) w:=by
 have e2:benchK L F (k+1)=benchK L F k:=if_pos e;exact⟨h.bel,by rw [e2];exact h.own⟩
theorem BoW.app {w0 w w':World}{L:List ScD}{F:List FlD}{v5 v':Value}{k:Nat}(h:BoW w0 L F v5 k w)(e:isInB F (geta L (k:Int)).pl=false)(ho:w'.ownsRow w0.heap.size 9 1 v' ((benchK L F k).length+1) (cellsOf encSt (benchK L F k)++[.string (geta L (k:Int)).pl]))(g:w.grownBy w' v5.ownBlock):BoW w0 L F v' (k+1) w':=by
 have e2:benchK L F (k+1)=benchK L F k++[(geta L (k:Int)).pl]:=if_neg (by rw [e];decide);refine⟨h.bel.grown g h.bel.size (fun j hj=>(h.own.lt j hj).1),?_⟩;rw [e2,cellsOf_snoc,List.length_append];exact ho
noncomputable def boR:Code:=(Tryz.f22.body).getD .skip
theorem fr_boR (f:Nat→Value):frame 25 f=⟨#[f 0,f 1,f 2,f 3,f 4,f 5,f 6,f 7,f 8,f 9,f 10,f 11,f 12,f 13,f 14,f 15,f 16,f 17,f 18,f 19,f 20,f 21,f 22,f 23,f 24],[]⟩:=by rfl
section
variable (w0:World)(vl vf:Value)(L:List ScD)(Fs:List FlD)
theorem bo0 (hl:ScH w0 vl L)(hf:FlH w0 vf Fs):T3 Tryz.prog (fun a w=>(Below w0.heap.size w0 w)∧Fr 25 [(0,vl),(1,vf)] a) (sel [0] boR) (fun a w=>(Below w0.heap.size w0 w)∧Fr 25 [(0,vl),(1,vf)] a) No 9 No:=by
 refine T3.leaf ?_;rintro Q JS JX JT K_ hS hK hX hE hT hR a w ⟨hW,⟨fr,rfl,q0,q1,_⟩⟩;have HW:=Lib.hid hW;obtain⟨p2,c2,hv2⟩:=hl.r.shape;subst hv2;obtain⟨p3,c3,hv3⟩:=hf.r.shape;subst hv3;clear hW;rw [fr_boR,fe q0,fe q1];clear q0 q1;conv=>arg 2;whnf
 go_wp2_with fail
 refine Met.intro (hS _ _ ?_);exact⟨HW.out,Fr.of _ rfl ⟨rfl,rfl,trivial⟩⟩
theorem bo1 (hl:ScH w0 vl L)(hf:FlH w0 vf Fs):T3 Tryz.prog (fun a w=>(Below w0.heap.size w0 w)∧Fr 25 [(0,vl),(1,vf)] a) (sel [1,0] boR) (fun a w=>(BoW w0 L Fs (.slice none 0 0) 0 w)∧Fr 25 [(0,vl),(1,vf),(5,.slice none 0 0)] a) No 9 No:=by
 refine T3.leaf ?_;rintro Q JS JX JT K_ hS hK hX hE hT hR a w ⟨hW,⟨fr,rfl,q0,q1,_⟩⟩;have HB:=Lib.hid (show BoW w0 L Fs (.slice none 0 0) 0 w from⟨hW,World.ownsRow_nil _ _ _ _⟩);have HW:=Lib.hid hW;obtain⟨p2,c2,hv2⟩:=hl.r.shape;subst hv2;obtain⟨p3,c3,hv3⟩:=hf.r.shape;subst hv3;clear hW;rw [fr_boR,fe q0,fe q1];clear q0 q1;conv=>arg 2;whnf
 go_wp2_with fail
 refine Met.intro (hS _ _ ?_);exact⟨HB.out,Fr.of _ rfl ⟨rfl,rfl,rfl,trivial⟩⟩
theorem bo2 (hl:ScH w0 vl L)(hf:FlH w0 vf Fs):T3 Tryz.prog (fun a w=>(BoW w0 L Fs (.slice none 0 0) 0 w)∧Fr 25 [(0,vl),(1,vf),(5,.slice none 0 0)] a) (sel [1,1,0,0] boR) (fun a w=>(0≤(0:Int)∧(0:Int)≤L.length)∧∃(v5:Value),(BoW w0 L Fs v5 (0:Int).toNat w)∧Fr 25 [(0,vl),(1,vf),(5,v5),(8,vl),(9,.int .i64 L.length),(10,.int .i64 0)] a) No 9 No:=by
 refine T3.leaf ?_;rintro Q JS JX JT K_ hS hK hX hE hT hR a w ⟨hW,⟨fr,rfl,q0,q1,q5,_⟩⟩;have hln:=hl.n;have HW:=Lib.hid hW;obtain⟨p2,c2,hv2⟩:=hl.r.shape;subst hv2;obtain⟨p3,c3,hv3⟩:=hf.r.shape;subst hv3;clear hW;rw [fr_boR,fe q0,fe q1,fe q5];clear q0 q1 q5;conv=>arg 2;whnf
 go_wp2_with fail
 refine Met.intro (hS _ _ ?_);exact⟨⟨by omega,by omega⟩,_,HW.out,Fr.of _ rfl ⟨rfl,rfl,rfl,rfl,rfl,rfl,trivial⟩⟩
theorem bo4 (hl:ScH w0 vl L)(hf:FlH w0 vf Fs)(k:Int):T3 Tryz.prog (fun a w=>∃(v5:Value),(0≤k∧k<L.length)∧(BoW w0 L Fs v5 (k:Int).toNat w)∧Fr 25 [(0,vl),(1,vf),(5,v5),(8,vl),(9,.int .i64 L.length),(10,.int .i64 k)] a) (sel [1,1,0,1,4,4,1,1,0,4,0] boR) (fun a w=>∃(v5:Value) (g7:Nat),(0≤k∧k<L.length)∧(BoW w0 L Fs v5 k.toNat w∧ScB w g7 (geta L k))∧Fr 25 [(0,vl),(1,vf),(5,v5),(7,.pointer (some ⟨g7,0,none⟩)),(8,vl),(9,.int .i64 L.length),(10,.int .i64 k)] a) No 9 No:=by
 refine T3.leaf ?_;rintro Q JS JX JT K_ hS hK hX hE hT hR a w ⟨v5,hpre,hW,⟨fr,rfl,q0,q1,q5,q8,q9,q10,_⟩⟩;have hpp:=Lib.hid hpre;obtain⟨hk0,hk1⟩:=hpre;have hln:=hl.n;have hHW:=Lib.hid hW;have hR:=(hl.below hW.bel).r;obtain⟨qq,dd,hq⟩:=(hl.p _ (geta_mem hk0 hk1)).r.shape;obtain⟨p5,c5,hv5⟩:=(Row.of_owns hW.own).shape;subst hv5;obtain⟨p2,c2,hv2⟩:=hl.r.shape;subst hv2;obtain⟨p3,c3,hv3⟩:=hf.r.shape;subst hv3;obtain⟨bz,off,rfl,hnc,hcm,hcell⟩:=Row.nonnil hR (by omega);have t0:=Row.elAt encSc_length hcell hk0 hk1 0 _ (by decide) rfl;have t1:=Row.elAt encSc_length hcell hk0 hk1 1 _ (by decide) rfl;have t2:=Row.elAt encSc_length hcell hk0 hk1 2 _ (by decide) rfl;have t3:=Row.elAt encSc_length hcell hk0 hk1 3 _ (by decide) rfl;have t4:=Row.elAt encSc_length hcell hk0 hk1 4 _ (by decide) rfl;rw [Nat.add_zero]at t0;have HB:=Lib.hid (ScB.new w (geta L k) 77);have HA:=Lib.hid (fun o=>(Below.refl w.heap.size w).alloc (Nat.le_refl _) o);clear hcell hR hW hl hf;generalize geta L k=x at *;obtain⟨xk,xv,xps,xn,xd,xp⟩:=x;simp only at hq t0 t1 t2 t3 t4;subst hq;rw [fr_boR,fe q0,fe q1,fe q5,fe q8,fe q9,fe q10];clear q0 q1 q5 q8 q9 q10;conv=>arg 2;whnf
 go_wp2_with fail
 refine Met.intro (hS _ _ ?_);exact⟨_,_,hpp.out,⟨hHW.out.below (HA.out _),HB.out⟩,Fr.of _ rfl ⟨rfl,rfl,rfl,rfl,rfl,rfl,rfl,trivial⟩⟩
theorem bo5 (hl:ScH w0 vl L)(hf:FlH w0 vf Fs)(k:Int)(v5:Value)(g7:Nat):T3 Tryz.prog (fun a w=>(0≤k∧k<L.length)∧(BoW w0 L Fs v5 k.toNat w∧ScB w g7 (geta L k))∧Fr 25 [(0,vl),(1,vf),(5,v5),(7,.pointer (some ⟨g7,0,none⟩)),(8,vl),(9,.int .i64 L.length),(10,.int .i64 k)] a) (sel [1,1,0,1,4,4,1,1,0,4,1,0] boR) (fun a w=>∃q,Fr 25 ((17,.bool q)::[(0,vl),(1,vf),(5,v5),(7,.pointer (some ⟨g7,0,none⟩)),(8,vl),(9,.int .i64 L.length),(10,.int .i64 k)]) a∧(((0≤k∧k<L.length)∧q=!isInB Fs (geta L k).pl)∧BoW w0 L Fs v5 k.toNat w∧ScB w g7 (geta L k))) No 9 No:=by
 refine T3.leaf ?_;rintro Q JS JX JT K_ hS hK hX hE hT hR a w ⟨hpre,hW,⟨fr,rfl,q0,q1,q5,q7,q8,q9,q10,_⟩⟩;have hpp:=Lib.hid hpre;have HW:=Lib.hid hW;have HC:=Lib.hid (any_fl 63 Tryz.call63 (.pointer (some ⟨g7,0,none⟩)) vf Fs (fun y=>decide (y.pl=(geta L k).pl)) 0 w (hf.below hW.1.bel).r (by have:=hf.n;omega) (fun y _ w1 hb1=>cl_flO y.sl y.pl (geta L k).pl g7 w1 (hW.2.below hb1).c0));have hE:(Fs.any fun y=>decide (y.pl=(geta L k).pl))=isInB Fs (geta L k).pl:=rfl;rw [hE]at HC;obtain⟨p5,c5,hv5⟩:=(Row.of_owns hW.1.own).shape;subst hv5;obtain⟨p2,c2,hv2⟩:=hl.r.shape;subst hv2;obtain⟨p3,c3,hv3⟩:=hf.r.shape;subst hv3;clear hW hl hf hE;generalize isInB Fs (geta L k).pl=iq at *;rw [fr_boR,fe q0,fe q1,fe q5,fe q7,fe q8,fe q9,fe q10];clear q0 q1 q5 q7 q8 q9 q10;conv=>arg 2;whnf
 go_wp2_with fail
 refine HC.out.mono ?_;rintro e w1 ⟨rfl,hb1⟩;have HR:=Lib.hid (show BoW w0 L Fs _ k.toNat w1∧ScB w1 g7 (geta L k)from⟨HW.out.1.below hb1,HW.out.2.below hb1⟩);clear hb1;go_wp2_with fail
 have hpre:=hpp.out;refine Met.intro (hS _ _ ?_);exact⟨_,Fr.of _ rfl ⟨rfl,rfl,rfl,rfl,rfl,rfl,rfl,rfl,trivial⟩,⟨hpre,rfl⟩,HR.out⟩
theorem bo6 (hl:ScH w0 vl L)(hf:FlH w0 vf Fs)(k:Int)(v5:Value)(g7:Nat)(hin:isInB Fs (geta L k).pl=false):T3 Tryz.prog (fun a w=>(0≤k∧k<L.length)∧(BoW w0 L Fs v5 k.toNat w∧ScB w g7 (geta L k))∧Fr 25 [(0,vl),(1,vf),(5,v5),(7,.pointer (some ⟨g7,0,none⟩)),(8,vl),(9,.int .i64 L.length),(10,.int .i64 k)] a) (sel [1,1,0,1,4,4,1,1,0,4,1,1,2] boR) (fun a w=>∃(v5:Value),(0≤k∧k<L.length)∧(BoW w0 L Fs v5 ((k+1):Int).toNat w)∧Fr 25 [(0,vl),(1,vf),(5,v5),(8,vl),(9,.int .i64 L.length),(10,.int .i64 k)] a) No 9 No:=by
 refine T3.leaf ?_;rintro Q JS JX JT K_ hS hK hX hE hT hR a w ⟨hpre,hW,⟨fr,rfl,q0,q1,q5,q7,q8,q9,q10,_⟩⟩;have hpp:=Lib.hid hpre;obtain⟨hk0,hk1⟩:=hpre;have hln:=hl.n;have hble:=benchK_le L Fs k.toNat;have hE1:=el_stJ;have t0:=hW.2.c0;have ek:((k.toNat:Nat):Int)=k:=Int.toNat_of_nonneg hk0;have HA:=Lib.hid (fun v' w' ho g=>BoW.app (k:=k.toNat) (v':=v') (w':=w') (hW.1.below ((Below.refl w.heap.size w).alloc (Nat.le_refl _) (.cells #[.string (geta L k).pl] 9))) (by rw [ek];exact hin) (by rw [ek];exact ho) g);have e1:(k+1).toNat=k.toNat+1:=by omega
 rw [←e1]at HA;have hown:=hW.1.own.alloc (.cells #[.string (geta L k).pl] 9);have hbs:w0.heap.size≤(w.alloc (.cells #[.string (geta L k).pl] 9)).heap.size:=by simp;have:=hW.1.bel.size;omega
 obtain⟨p5,c5,hv5⟩:=(Row.of_owns hW.1.own).shape;subst hv5;obtain⟨p2,c2,hv2⟩:=hl.r.shape;subst hv2;obtain⟨p3,c3,hv3⟩:=hf.r.shape;subst hv3;clear hW hl hf ek e1 hin;generalize (geta L k).pl=x at *;rw [fr_boR,fe q0,fe q1,fe q5,fe q7,fe q8,fe q9,fe q10];clear q0 q1 q5 q7 q8 q9 q10;conv=>arg 2;whnf
 go_wp2_with (at_builtin;refine app_law rfl _ _ _ rfl hE1 hown rfl [.string x] rfl rfl (cells_new w #[_] _) (by simp [Value.oneCell']) (by omega) hbs ?_;intro v' w3 hown3 hgr)
 refine Met.intro (hS _ _ ?_);exact⟨_,hpp.out,HA.out _ _ hown3 hgr,Fr.of _ rfl ⟨rfl,rfl,rfl,rfl,rfl,rfl,trivial⟩⟩
theorem bo_b (hl:ScH w0 vl L)(hf:FlH w0 vf Fs)(k:Int):T3 Tryz.prog (fun a w=>∃(v5:Value),(0≤k∧k<L.length)∧(BoW w0 L Fs v5 (k:Int).toNat w)∧Fr 25 [(0,vl),(1,vf),(5,v5),(8,vl),(9,.int .i64 L.length),(10,.int .i64 k)] a) (sel [1,1,0,1,4,4,1,1,0] boR) (fun a w=>∃(v5:Value),(0≤k∧k<L.length)∧(BoW w0 L Fs v5 ((k+1):Int).toNat w)∧Fr 25 [(0,vl),(1,vf),(5,v5),(8,vl),(9,.int .i64 L.length),(10,.int .i64 k)] a) No 100 No:=by
 refine T3.block (id':=1) (c:=(sel [1,1,0,1,4,4,1,1,0,4] boR)) (by decide) ?_;refine T3.seq (s:=(sel [1,1,0,1,4,4,1,1,0,4,0] boR)) (c:=(sel [1,1,0,1,4,4,1,1,0,4,1] boR)) ((bo4 w0 vl vf L Fs hl hf k).noX) (T3.ex fun v5=>T3.ex fun g7=>?_);refine T3.test (s:=(sel [1,1,0,1,4,4,1,1,0,4,1,0] boR)) (x:=(sel [1,1,0,1,4,4,1,1,0,4,1,1,2] boR)) (y:=.skip) (C:=fun q=>((0≤k∧k<L.length)∧q=!isInB Fs (geta L k).pl)) (W:=fun w=>BoW w0 L Fs v5 k.toNat w∧ScB w g7 (geta L k)) (by decide) ((bo5 w0 vl vf L Fs hl hf k v5 g7).noX) ?_ (T3.skip ?_)
 ·refine T3.pre (R:=fun a w=>(isInB Fs (geta L k).pl=false)∧(0≤k∧k<L.length)∧(BoW w0 L Fs v5 k.toNat w∧ScB w g7 (geta L k))∧Fr 25 [(0,vl),(1,vf),(5,v5),(7,.pointer (some ⟨g7,0,none⟩)),(8,vl),(9,.int .i64 L.length),(10,.int .i64 k)] a) (T3.pure fun hin=>(bo6 w0 vl vf L Fs hl hf k v5 g7 hin).noX) (fun a w q=>⟨by simpa using q.2.1.2.symm,q.2.1.1,q.2.2,q.1.tail⟩)
 ·rintro a w ⟨⟨hk,hq⟩,hW,hF⟩;refine⟨v5,hk,?_,hF.sub (by simp)⟩;rw [show(k+1).toNat=k.toNat+1 by omega];exact hW.1.step (by rw [Int.toNat_of_nonneg hk.1];simpa using hq.symm)
end
def boLI (w0:World)(vl vf:Value)(L:List ScD)(Fs:List FlD)(hl:ScH w0 vl L)(hf:FlH w0 vf Fs)(k:Int)(a:Act)(w:World):Prop:=(0≤k∧k≤L.length)∧∃(v5:Value),(BoW w0 L Fs v5 (k:Int).toNat w)∧Fr 25 [(0,vl),(1,vf),(5,v5),(8,vl),(9,.int .i64 L.length),(10,.int .i64 k)] a
section
variable (w0:World)(vl vf:Value)(L:List ScD)(Fs:List FlD)
section
variable (hl:ScH w0 vl L)(hf:FlH w0 vf Fs)
theorem boLt (k:Int):T3 Tryz.prog (fun a w=>boLI w0 vl vf L Fs hl hf k a w) (sel [1,1,0,1,4,4,0] boR) (fun a w=>∃q,Fr 25 ((11,.bool q)::[(10,.int .i64 k)]) a∧((q=true↔k<L.length)∧boLI w0 vl vf L Fs hl hf k a w)) No 9 No:=by
 refine T3.leaf ?_;rintro Q JS JX JT K_ hS hK hX hE hT hR a w ⟨hk,v5,hW,⟨fr,rfl,q0,q1,q5,q8,q9,q10,_⟩⟩;have hln:=hl.n;rw [fr_boR,fe q0,fe q1,fe q5,fe q8,fe q9,fe q10];clear q0 q1 q5 q8 q9 q10;conv=>arg 2;whnf
 by_cases hlt:k<L.length
 ·go_wp2_with fail
  refine Met.intro (hS _ _ ?_);exact⟨true,Fr.of _ rfl ⟨rfl,rfl,trivial⟩,⟨fun _=>hlt,fun _=>rfl⟩,hk,v5,hW,Fr.of _ rfl ⟨rfl,rfl,rfl,rfl,rfl,rfl,trivial⟩⟩
 ·have hpb:decide (k<(L.length:Int))=false:=by simp;omega
  go_wp2_with fail
  refine Met.intro (hS _ _ ?_);exact⟨false,Fr.of _ rfl ⟨rfl,rfl,trivial⟩,⟨(fun h=>by cases h),fun h=>absurd h (by omega)⟩,hk,v5,hW,Fr.of _ rfl ⟨rfl,rfl,rfl,rfl,rfl,rfl,trivial⟩⟩
theorem boLn (k:Int):T3 Tryz.prog (fun a w=>(0≤k∧k<L.length)∧∃(v5:Value),(BoW w0 L Fs v5 ((k+1):Int).toNat w)∧Fr 25 [(0,vl),(1,vf),(5,v5),(8,vl),(9,.int .i64 L.length),(10,.int .i64 k)] a) (sel [1,1,0,1,4,4,1,1,1] boR) (fun a w=>boLI w0 vl vf L Fs hl hf (k+1) a w) No 9 No:=by
 refine T3.leaf ?_;rintro Q JS JX JT K_ hS hK hX hE hT hR a w ⟨hk,v5,hW,⟨fr,rfl,q0,q1,q5,q8,q9,q10,_⟩⟩;obtain⟨hk0,hk1⟩:=hk;have hln:=hl.n;rw [fr_boR,fe q0,fe q1,fe q5,fe q8,fe q9,fe q10];clear q0 q1 q5 q8 q9 q10;conv=>arg 2;whnf
 go_wp2_with fail
 refine Met.intro (hS _ _ ?_);exact⟨⟨by omega,by omega⟩,v5,hW,Fr.of _ rfl ⟨rfl,rfl,rfl,rfl,rfl,rfl,trivial⟩⟩
theorem boLloop:T3 Tryz.prog (fun a w=>boLI w0 vl vf L Fs hl hf 0 a w) (sel [1,1,0,1] boR) (fun a w=>∃(v5:Value),(BoW w0 L Fs v5 L.length w)∧Fr 25 [(5,v5)] a) No 9 No:=by
 refine T3.loop (c:=(sel [1,1,0,1,4,4] boR)) (fun ng_ a w=>∃k:Int,(ng_:Int)=L.length-k∧boLI w0 vl vf L Fs hl hf k a w) (fun a w h=>⟨(L.length:Int).toNat,0,by have:=h.1.2;omega,h⟩) (fun ng_=>T3.ex fun k=>T3.pure fun hng_=>?_);refine T3.seq (s:=(sel [1,1,0,1,4,4,0] boR)) (c:=(sel [1,1,0,1,4,4,1] boR)) ((boLt w0 vl vf L Fs hl hf k).noX) ?_;refine T3.seq (s:=(sel [1,1,0,1,4,4,1,0] boR)) (c:=(sel [1,1,0,1,4,4,1,1] boR)) (S:=fun a w=>(0≤k∧k<L.length)∧∃(v5:Value),(BoW w0 L Fs v5 (k:Int).toNat w)∧Fr 25 [(0,vl),(1,vf),(5,v5),(8,vl),(9,.int .i64 L.length),(10,.int .i64 k)] a) ?_ (T3.seq (s:=(sel [1,1,0,1,4,4,1,1,0] boR)) (c:=(sel [1,1,0,1,4,4,1,1,1] boR)) (S:=fun a w=>(0≤k∧k<L.length)∧∃(v5:Value),(BoW w0 L Fs v5 ((k+1):Int).toNat w)∧Fr 25 [(0,vl),(1,vf),(5,v5),(8,vl),(9,.int .i64 L.length),(10,.int .i64 k)] a) (T3.noX (T3.mono (R':=fun a w=>(0≤k∧k<L.length)∧∃(v5:Value),(BoW w0 L Fs v5 (k:Int).toNat w)∧Fr 25 [(0,vl),(1,vf),(5,v5),(8,vl),(9,.int .i64 L.length),(10,.int .i64 k)] a) (S':=fun a w=>(0≤k∧k<L.length)∧∃(v5:Value),(BoW w0 L Fs v5 ((k+1):Int).toNat w)∧Fr 25 [(0,vl),(1,vf),(5,v5),(8,vl),(9,.int .i64 L.length),(10,.int .i64 k)] a) (bo_b w0 vl vf L Fs hl hf k) (fun a w ⟨hk,v5,hI⟩=>⟨v5,hk,hI⟩) (fun a w ⟨v5,hk,hI⟩=>⟨hk,v5,hI⟩) (fun _ _ q=>q) (fun _ _ q=>q))) ?_)
 ·refine T3.cond (o:=.tmp 11) (x:=.skip) (y:=.exit 0) (fun a w=>k<L.length∧boLI w0 vl vf L Fs hl hf k a w) (fun a w=>¬k<L.length∧boLI w0 vl vf L Fs hl hf k a w) ?_ (T3.skip ?_) (T3.exit ?_)
  ·rintro a w ⟨q,hF,hq,hI⟩;have he:=hF.eval 11 (by decide) (v:=.bool q) (by simp);cases q
   ·exact .inr ⟨he,(fun h=>by have:=hq.2 h;cases this),hI⟩
   ·exact .inl ⟨he,hq.1 rfl,hI⟩
  ·rintro a w ⟨hlt,hk,hI⟩;exact⟨⟨hk.1,hlt⟩,hI⟩
  ·rintro a w ⟨hlt,hk,hI⟩;obtain rfl:k=L.length:=by omega
   obtain⟨v5,hW,hF⟩:=hI;rw [show((L.length:Nat):Int).toNat=L.length by omega]at hW;exact⟨v5,hW,hF.sub (by simp)⟩
 ·intro a w hx;have hk:=hx.1;exact(((boLn w0 vl vf L Fs hl hf k).noX).post (fun a w q=>⟨ng_-1,by omega,k+1,by omega,q⟩)) a w hx
end
theorem bo8 (hl:ScH w0 vl L)(hf:FlH w0 vf Fs)(v5:Value):T3 Tryz.prog (fun a w=>(BoW w0 L Fs v5 L.length w)∧Fr 25 [(5,v5)] a) (sel [1,1,1,0] boR) (fun a w=>(BoW w0 L Fs v5 L.length w)∧Fr 25 [(4,v5)] a) No 9 No:=by
 refine T3.leaf ?_;rintro Q JS JX JT K_ hS hK hX hE hT hR a w ⟨hW,⟨fr,rfl,q5,_⟩⟩;have HW:=Lib.hid hW;obtain⟨p5,c5,hv5⟩:=(Row.of_owns hW.own).shape;subst hv5;clear hW;rw [fr_boR,fe q5];clear q5;conv=>arg 2;whnf
 go_wp2_with fail
 refine Met.intro (hS _ _ ?_);exact⟨HW.out,Fr.of _ rfl ⟨rfl,trivial⟩⟩
theorem bo_all (hl:ScH w0 vl L)(hf:FlH w0 vf Fs):T3 Tryz.prog (fun a w=>(Below w0.heap.size w0 w)∧Fr 25 [(0,vl),(1,vf)] a) boR No No 9 (fun a w=>∃v5:Value,(BoW w0 L Fs v5 L.length w)∧Fr 25 [(4,v5)] a):=by
 refine T3.seq (s:=(sel [0] boR)) (c:=(sel [1] boR)) (T3.noT (bo0 w0 vl vf L Fs hl hf)) ?_;refine T3.seq (s:=(sel [1,0] boR)) (c:=(sel [1,1] boR)) (T3.noT (bo1 w0 vl vf L Fs hl hf)) ?_;refine T3.seq (s:=(sel [1,1,0] boR)) (c:=(sel [1,1,1] boR)) (T3.noT (T3.seq (s:=(sel [1,1,0,0] boR)) (c:=(sel [1,1,0,1] boR)) (bo2 w0 vl vf L Fs hl hf) (boLloop w0 vl vf L Fs hl hf))) ?_;refine T3.ex fun v5=>?_
 exact T3.seq (s:=(sel [1,1,1,0] boR)) (c:=.ret) (T3.noT (bo8 w0 vl vf L Fs hl hf v5)) (T3.ret fun a w q=>⟨v5,q⟩)
theorem benchOf_ref (hl:ScH w0 vl L)(hf:FlH w0 vf Fs):Calls Tryz.prog 22 #[vl,vf] w0 fun e w'=>∃v5:Value,e=.returned v5∧BoW w0 L Fs v5 L.length w':=by
 have hall:=bo_all w0 vl vf L Fs hl hf
 go_enter Tryz.func22,Tryz.ntmps22
 refine T3.done (s:=boR) hall ⟨Below.refl _ _,Fr.of _ rfl ⟨rfl,rfl,trivial⟩⟩ ?_;rintro a w ⟨v5,hW,fr,rfl,q4,_⟩;rw [fr_boR,fe q4]
 go_ret
 exact⟨v5,rfl,hW⟩
end
def sxLI (w0:World)(vs vl vf vk:Value)(S:List SlD)(L:List ScD)(Fs:List FlD)(K:List ByteArray)(hs:SlH w0 vs S)(hl:ScH w0 vl L)(hf:FlH w0 vf Fs)(hb:BnH w0 vk K)(g:SuG S L Fs K)(v9:Value)(k:Int)(a:Act)(w:World):Prop:=(0≤k∧k≤Fs.length)∧(SuW w0 S L Fs K v9 ((k:Int).toNat) w)∧Fr 75 [(0,vs),(1,vl),(2,vf),(3,vk),(9,v9),(17,v9),(18,.int .i64 Fs.length),(19,.int .i64 k)] a
end Go.Proofs.YtnmdpphddimfbaaGreat
/-
  Sum, Left and Bench of package score. Conditions: at most 4 slots and 6 scorers (Left).
-/
namespace Go.Proofs.YtnmdpphddimfbaaGreat
open Go.RowKit Go.Bw
/-- The two cells of the answer. -/
structure Pz (w0:World)(a b:Int)(w:World):Prop where
 r0:w.cell? ⟨w0.heap.size,0,none⟩=some (.int .i64 a)
 r1:w.cell? ⟨w0.heap.size,1,none⟩=some (.int .i64 b)
 f0:w.frozen? ⟨w0.heap.size,0,none⟩=false
 f1:w.frozen? ⟨w0.heap.size,1,none⟩=false
 bel:Below w0.heap.size w0 w
theorem Pz.new (w0:World)(a b:Int)(e:TypeId):Pz w0 a b (w0.alloc (.cells #[.int .i64 a,.int .i64 b] e)) :=
 ⟨cells_new w0 _ e 0 _ rfl,cells_new w0 _ e 1 _ rfl,frozen_new0 w0 _ e 0,frozen_new0 w0 _ e 1,(Below.refl _ _).alloc (Nat.le_refl _) _⟩
theorem Pz.below {w0 w w':World}{a b:Int}(h:Pz w0 a b w)(g:Below w.heap.size w w'):Pz w0 a b w' :=
 ⟨(g.cell (World.block_lt_of_cell? w _ h.r0)).trans h.r0,(g.cell (World.block_lt_of_cell? w _ h.r1)).trans h.r1,(g.frozen (p:=⟨w0.heap.size,0,none⟩) (World.block_lt_of_cell? w _ h.r0)).trans h.f0,(g.frozen (p:=⟨w0.heap.size,1,none⟩) (World.block_lt_of_cell? w _ h.r1)).trans h.f1,h.bel.trans (g.mono h.bel.size)⟩
theorem Pz.put {w0 w:World}{a b:Int}(h:Pz w0 a b w)(x y:Int):Pz w0 x y ((w.setCell ⟨w0.heap.size,0,none⟩ (.int .i64 x)).setCell ⟨w0.heap.size,1,none⟩ (.int .i64 y)):=by
 refine⟨?_,?_,by simpa using h.f0,by simpa using h.f1,(h.bel.setCell (by simp) _).setCell (by simp) _⟩
 ·rw [World.cell?_setCell_other _ _ _ _ (by simp)];exact World.cell?_setCell_same' _ _ _ (by rw [h.r0];rfl)
 ·exact World.cell?_setCell_same' _ _ _ (by rw [World.cell?_setCell_other _ _ _ _ (by simp),h.r1];rfl)
def capBad (F:List FlD)(cap:ByteArray):Bool:=!decide (cap=ByteArray.empty)&&!isInB F cap
def oneE (S:List SlD)(L:List ScD)(F:List FlD)(cap:ByteArray):Int:=if allE S L F≠0 then allE S L F else if capBad F cap=true then 8 else 0
def sumV (S:List SlD)(L:List ScD)(F:List FlD)(cap:ByteArray):Int×Int:=if oneE S L F cap=0 then(ofHn (sumK L F cap F.length),ofHd (sumK L F cap F.length))else(0,0)
def leftK (S:List SlD)(L:List ScD)(F:List FlD):Int:=sumK L (bestF S L) ⟨#[]⟩ (bestF S L).length-sumK L F ⟨#[]⟩ F.length
def leftV (S:List SlD)(L:List ScD)(F:List FlD):Int×Int:=if allE S L F=0 then(ofHn (leftK S L F),ofHd (leftK S L F))else(0,0)
def benV (S:List SlD)(L:List ScD)(F:List FlD):List ByteArray:=if allE S L F=0 then benchK L F L.length else []
/-- All is right. -/
structure AlG (S:List SlD)(L:List ScD)(F:List FlD):Prop where
 a:allE S L F=0
section
variable {S:List SlD}{L:List ScD}{F:List FlD}
theorem AlG.ss (h:AlG S L F):ssE S L=0:=by
 by_cases e:ssE S L=0
 ·exact e
 ·have:=allE_ss (F:=F) e;rw [h.a]at this;exact absurd this.symm e
theorem AlG.f (h:AlG S L F):fillsE S L F=0:=by rw [←allE_fills (F:=F) h.ss];exact h.a
theorem AlG.sl (h:AlG S L F):slotsE S=0:=by
 have:=h.ss;unfold ssE at this
 split at this
 ·rename_i e;exact absurd this e
 ·rename_i e;simpa using e
theorem AlG.sc (h:AlG S L F):scorersE L=0:=by
 have:=h.ss;unfold ssE at this
 split at this
 ·rename_i e;exact absurd this e
 ·exact this
theorem slots_len (h:slotsE S=0):S.length≤12:=by
 unfold slotsE at h
 split at h
 ·cases h
 ·split at h
  ·cases h
  ·omega
theorem AlG.inF (h:AlG S L F):InF L F:=by
 have hf:=h.f;have hn:=slots_len h.sl;unfold fillsE at hf
 split at hf
 ·cases hf
 ·rename_i hlen
  refine⟨fun x hx hne=>?_,by omega⟩;obtain⟨j,hj,rfl⟩:=List.getElem_of_mem hx;have h1:=firstErr_zero hf (j:Int) (by omega) (by omega);have hg:=geta_eq F (j:Int) (by omega) (by omega);simp only [Int.toNat_natCast]at hg;rw [←hg]at hne ⊢;unfold fillAt at h1
  split at h1
  ·cases h1
  ·split at h1
   ·cases h1
   ·assumption
theorem geta_cases {α:Type} [Inhabited α] (l:List α) (i:Int):geta l i∈l∨geta l i=default:=by
 unfold geta;cases h:l[i.toNat]? with
 | none=>exact .inr rfl
 | some x=>exact .inl (List.mem_of_getElem? h)
theorem fillsOf_z (h1:∀x∈S,x.key.size≤1000)(h2:∀x∈L,x.pl.size≤1000):∀(l:List (Option Nat)) (i:Nat),∀x∈fillsOf S L i l,x.sl.size≤1000∧x.pl.size≤1000
 | [],_,x,hx=>by cases hx
 | o::l,i,x,hx=>by
  have hk:(geta S (i:Int)).key.size≤1000:=by
   rcases geta_cases S (i:Int)with h|h
   ·exact h1 _ h
   ·rw [h];decide
  cases o with
  | none =>
   rcases List.mem_cons.1 hx with rfl|hx
   ·exact⟨hk,by show(⟨#[]⟩:ByteArray).size≤1000;decide⟩
   ·exact fillsOf_z h1 h2 l (i+1) x hx
  | some k =>
   rcases List.mem_cons.1 hx with rfl|hx
   ·refine⟨hk,?_⟩;show(geta L (k:Int)).pl.size≤1000;rcases geta_cases L (k:Int)with h|h
    ·exact h2 _ h
    ·rw [h];decide
   ·exact fillsOf_z h1 h2 l (i+1) x hx
theorem best_z {w:World}{vs vl:Value}(hs:SlH w vs S)(hl:ScH w vl L):∀x∈bestF S L,x.sl.size≤1000∧x.pl.size≤1000:=fillsOf_z hs.z hl.z _ _
theorem pl_ne (h:scorersE L=0){k:Nat}(hk:k<L.length):(geta L (k:Int)).pl≠ByteArray.empty:=by
 intro e;unfold scorersE at h
 split at h
 ·cases h
 ·have h1:=firstErr_zero h (k:Int) (by omega) (by omega);unfold scorerAt at h1;rw [e,keyB_empty rfl]at h1;simp at h1
theorem scIdx_at (h:ScRise L){k:Nat}(hk:k<L.length):scIdx L (geta L (k:Int)).pl=k:=by
 unfold scIdx;refine idxI_hit (by omega) (by omega) (fun j h0 h1=>?_) (by simp);have h2:=h.h j k h0 h1 (by omega);rw [decide_eq_false_iff_not];intro e;rw [e]at h2;exact absurd h2 (List.lt_irrefl _)
theorem fillsOf_in (hr:ScRise L):∀(l:List (Option Nat)) (i:Nat),(∀k,some k∈l→k<L.length)→∀x∈fillsOf S L i l,x.pl≠ByteArray.empty→¬scIdx L x.pl<0
 | [],_,_,x,hx,_=>by cases hx
 | none::l,i,h,x,hx,hne=>by
  rcases List.mem_cons.1 hx with rfl|hx
  ·exact absurd rfl hne
  ·exact fillsOf_in hr l (i+1) (fun k hk=>h k (List.mem_cons_of_mem _ hk)) x hx hne
 | some k::l,i,h,x,hx,hne=>by
  rcases List.mem_cons.1 hx with rfl|hx
  ·show ¬scIdx L (geta L (k:Int)).pl<0;rw [scIdx_at hr (h k (by simp))];omega
  ·exact fillsOf_in hr l (i+1) (fun k hk=>h k (List.mem_cons_of_mem _ hk)) x hx hne
theorem pairs_mem:∀ (l:List (Option Nat))(i k:Nat) ,some k∈l→∃j,(j,k)∈pairsF i l
 | [],_,_,h=>by cases h
 | none::l,i,k,h=>by
  rcases List.mem_cons.1 h with h|h
  ·cases h
  ·exact pairs_mem l (i+1) k h
 | some m::l,i,k,h=>by
  rcases List.mem_cons.1 h with h|h
  ·cases h
   exact⟨i,by simp [pairsF]⟩
  ·obtain⟨j,hj⟩:=pairs_mem l (i+1) k h;exact⟨j,List.mem_cons_of_mem _ hj⟩
theorem bestF_in (hr:ScRise L)(hS:S.length≤12):InF L (bestF S L):=by
 refine⟨fillsOf_in hr _ _ (fun k hk=>?_),by rw [bestF_len];exact hS⟩;obtain⟨j,hj⟩:=pairs_mem _ 0 k hk;exact((greed_mt (fitK S L) (wK L) L.length S.length 0 (fun _=>false)).1.f _ hj).2.1.1
end
noncomputable def lgS:Code:=(Tryz.f9.body).getD .skip
theorem fr_lgS (f:Nat→Value):frame 33 f=⟨#[f 0,f 1,f 2,f 3,f 4,f 5,f 6,f 7,f 8,f 9,f 10,f 11,f 12,f 13,f 14,f 15,f 16,f 17,f 18,f 19,f 20,f 21,f 22,f 23,f 24,f 25,f 26,f 27,f 28,f 29,f 30,f 31,f 32],[]⟩:=by rfl
section
variable (w0:World)(vs vl vf:Value)(S:List SlD)(L:List ScD)(Fs:List FlD)(cap:ByteArray)
theorem lgs0 (hs:SlH w0 vs S)(hl:ScH w0 vl L)(hf:FlH w0 vf Fs)(hcap:cap.size≤1000):T3 Tryz.prog (fun a w=>(IsW w0 w)∧Fr 33 [(0,vs),(1,vl),(2,vf),(3,.string cap)] a) (sel [0] lgS) (fun a w=>(Pz w0 0 0 w)∧Fr 33 [(0,vs),(1,vl),(2,vf),(3,.string cap),(8,.pointer (some ⟨w0.heap.size,0,none⟩))] a) No 9 No:=by
 refine T3.leaf ?_;rintro Q JS JX JT K hS hK hX hE hT hR a w ⟨hW,⟨fr,rfl,q0,q1,q2,q3,_⟩⟩;obtain rfl:w=w0:=hW;obtain⟨p1,c1,hv1⟩:=hs.r.shape;subst hv1;obtain⟨p2,c2,hv2⟩:=hl.r.shape;subst hv2;obtain⟨p3,c3,hv3⟩:=hf.r.shape;subst hv3;have HP:=Lib.hid (Pz.new w 0 0 34);rw [fr_lgS,fe q0,fe q1,fe q2,fe q3];clear q0 q1 q2 q3;conv=>arg 2;whnf
 go_wp2_with fail
 refine Met.intro (hS _ _ ?_);exact⟨HP.out,Fr.of _ rfl ⟨rfl,rfl,rfl,rfl,rfl,trivial⟩⟩
theorem lgs1 (hs:SlH w0 vs S)(hl:ScH w0 vl L)(hf:FlH w0 vf Fs)(hcap:cap.size≤1000):T3 Tryz.prog (fun a w=>(Pz w0 0 0 w)∧Fr 33 [(0,vs),(1,vl),(2,vf),(3,.string cap),(8,.pointer (some ⟨w0.heap.size,0,none⟩))] a) (sel [1,0,0] lgS) (fun a w=>(Pz w0 0 0 w)∧Fr 33 [(0,vs),(1,vl),(2,vf),(3,.string cap),(8,.pointer (some ⟨w0.heap.size,0,none⟩)),(10,.int .i64 (allE S L Fs))] a) No 9 No:=by
 refine T3.leaf ?_;rintro Q JS JX JT K hS hK hX hE hT hR a w ⟨hW,⟨fr,rfl,q0,q1,q2,q3,q8,_⟩⟩;have HC:=Lib.hid (fills_prog w vs vl vf S L Fs (hs.below hW.bel) (hl.below hW.bel) (hf.below hW.bel));have HW:=Lib.hid hW;obtain⟨p1,c1,hv1⟩:=hs.r.shape;subst hv1;obtain⟨p2,c2,hv2⟩:=hl.r.shape;subst hv2;obtain⟨p3,c3,hv3⟩:=hf.r.shape;subst hv3;clear hW;generalize allE S L Fs=e0 at *;rw [fr_lgS,fe q0,fe q1,fe q2,fe q3,fe q8];clear q0 q1 q2 q3 q8;conv=>arg 2;whnf
 go_wp2_with fail
 refine HC.out.mono ?_;rintro e w1 ⟨rfl,hb1⟩;have HR:=Lib.hid (HW.out.below hb1);clear hb1;go_wp2_with fail
 refine Met.intro (hS _ _ ?_);exact⟨HR.out,Fr.of _ rfl ⟨rfl,rfl,rfl,rfl,rfl,rfl,trivial⟩⟩
theorem lgs2 (hs:SlH w0 vs S)(hl:ScH w0 vl L)(hf:FlH w0 vf Fs)(hcap:cap.size≤1000):T3 Tryz.prog (fun a w=>(Pz w0 0 0 w)∧Fr 33 [(0,vs),(1,vl),(2,vf),(3,.string cap),(8,.pointer (some ⟨w0.heap.size,0,none⟩)),(10,.int .i64 (allE S L Fs))] a) (sel [1,0,1,0] lgS) (fun a w=>∃q,Fr 33 ((16,.bool q)::[(0,vs),(1,vl),(2,vf),(3,.string cap),(8,.pointer (some ⟨w0.heap.size,0,none⟩)),(10,.int .i64 (allE S L Fs))]) a∧((q=(allE S L Fs != 0))∧Pz w0 0 0 w)) No 9 No:=by
 refine T3.leaf ?_;rintro Q JS JX JT K hS hK hX hE hT hR a w ⟨hW,⟨fr,rfl,q0,q1,q2,q3,q8,q10,_⟩⟩;have HW:=Lib.hid hW;obtain⟨p1,c1,hv1⟩:=hs.r.shape;subst hv1;obtain⟨p2,c2,hv2⟩:=hl.r.shape;subst hv2;obtain⟨p3,c3,hv3⟩:=hf.r.shape;subst hv3;clear hW;generalize allE S L Fs=e0 at *;generalize hqq:(e0 != 0)=qq at *;rw [fr_lgS,fe q0,fe q1,fe q2,fe q3,fe q8,fe q10];clear q0 q1 q2 q3 q8 q10;conv=>arg 2;whnf
 go_wp2_with fail
 refine Met.intro (hS _ _ ?_);exact⟨_,Fr.of _ rfl ⟨rfl,rfl,rfl,rfl,rfl,rfl,rfl,trivial⟩,rfl,HW.out⟩
theorem lgs3 (hs:SlH w0 vs S)(hl:ScH w0 vl L)(hf:FlH w0 vf Fs)(hcap:cap.size≤1000):T3 Tryz.prog (fun a w=>(Pz w0 0 0 w)∧Fr 33 [(0,vs),(1,vl),(2,vf),(3,.string cap),(8,.pointer (some ⟨w0.heap.size,0,none⟩)),(10,.int .i64 (allE S L Fs))] a) (sel [1,0,1,1,2,0] lgS) (fun a w=>(Pz w0 0 0 w)∧Fr 33 [(8,.pointer (some ⟨w0.heap.size,0,none⟩)),(9,.int .i64 (allE S L Fs))] a) No 9 No:=by
 refine T3.leaf ?_;rintro Q JS JX JT K hS hK hX hE hT hR a w ⟨hW,⟨fr,rfl,q0,q1,q2,q3,q8,q10,_⟩⟩;have HF:=Lib.hid (hW.put 0 0);have r0:=hW.r0;have r1:=hW.r1;have f0:=hW.f0;have f1:=hW.f1;obtain⟨p1,c1,hv1⟩:=hs.r.shape;subst hv1;obtain⟨p2,c2,hv2⟩:=hl.r.shape;subst hv2;obtain⟨p3,c3,hv3⟩:=hf.r.shape;subst hv3;clear hW;generalize allE S L Fs=e0 at *;rw [fr_lgS,fe q0,fe q1,fe q2,fe q3,fe q8,fe q10];clear q0 q1 q2 q3 q8 q10;conv=>arg 2;whnf
 go_wp2_with fail
 refine Met.intro (hS _ _ ?_);exact⟨HF.out,Fr.of _ rfl ⟨rfl,rfl,trivial⟩⟩
theorem lgs4 (hs:SlH w0 vs S)(hl:ScH w0 vl L)(hf:FlH w0 vf Fs)(hcap:cap.size≤1000):T3 Tryz.prog (fun a w=>(Pz w0 0 0 w)∧Fr 33 [(0,vs),(1,vl),(2,vf),(3,.string cap),(8,.pointer (some ⟨w0.heap.size,0,none⟩))] a) (sel [1,1,0,0] lgS) (fun a w=>∃q,Fr 33 ((26,.bool q)::[(0,vs),(1,vl),(2,vf),(3,.string cap),(8,.pointer (some ⟨w0.heap.size,0,none⟩))]) a∧((q=capBad Fs cap)∧Pz w0 0 0 w)) No 9 No:=by
 refine T3.leaf ?_;rintro Q JS JX JT K hS hK hX hE hT hR a w ⟨hW,⟨fr,rfl,q0,q1,q2,q3,q8,_⟩⟩;have HI:=Lib.hid (isIn_prog vf Fs cap w (hf.below hW.bel));have HW:=Lib.hid hW;obtain⟨p1,c1,hv1⟩:=hs.r.shape;subst hv1;obtain⟨p2,c2,hv2⟩:=hl.r.shape;subst hv2;obtain⟨p3,c3,hv3⟩:=hf.r.shape;subst hv3;clear hW
 by_cases hx:cap=ByteArray.empty
 ·have HX:=Lib.hid (show false=capBad Fs cap by unfold capBad;simp [hx]);subst hx;rw [fr_lgS,fe q0,fe q1,fe q2,fe q3,fe q8];clear q0 q1 q2 q3 q8;conv=>arg 2;whnf
  go_wp2_with fail
  refine Met.intro (hS _ _ ?_);exact⟨_,Fr.of _ rfl ⟨rfl,rfl,rfl,rfl,rfl,rfl,trivial⟩,HX.out,HW.out⟩
 ·have HX:=Lib.hid (show(!isInB Fs cap)=capBad Fs cap by unfold capBad;simp [hx]);have hx1:=toList_ne hx;have hx2:cap.toList.isEmpty=false:=by
   have hh:=hx1;rw [show ByteArray.empty.toList=[]by rw [ByteArray.toList_eq];rfl]at hh;cases hl:cap.toList with
   | nil=>rw [hl]at hh;exact absurd hh (by decide)
   | cons a b=>rfl
  clear hx;generalize isInB Fs cap=iq at *;rw [fr_lgS,fe q0,fe q1,fe q2,fe q3,fe q8];clear q0 q1 q2 q3 q8;conv=>arg 2;whnf
  go_wp2_with fail
  refine HI.out.mono ?_;rintro e w1 ⟨rfl,hb⟩;have H1:=Lib.hid (HW.out.below hb);clear hb;go_wp2_with fail
  refine Met.intro (hS _ _ ?_);exact⟨_,Fr.of _ rfl ⟨rfl,rfl,rfl,rfl,rfl,rfl,trivial⟩,HX.out,H1.out⟩
theorem lgs5 (hs:SlH w0 vs S)(hl:ScH w0 vl L)(hf:FlH w0 vf Fs)(hcap:cap.size≤1000):T3 Tryz.prog (fun a w=>(Pz w0 0 0 w)∧Fr 33 [(0,vs),(1,vl),(2,vf),(3,.string cap),(8,.pointer (some ⟨w0.heap.size,0,none⟩))] a) (sel [1,1,0,1,2,0] lgS) (fun a w=>(Pz w0 0 0 w)∧Fr 33 [(8,.pointer (some ⟨w0.heap.size,0,none⟩)),(9,.int .i64 8)] a) No 9 No:=by
 refine T3.leaf ?_;rintro Q JS JX JT K hS hK hX hE hT hR a w ⟨hW,⟨fr,rfl,q0,q1,q2,q3,q8,_⟩⟩;have HF:=Lib.hid (hW.put 0 0);have r0:=hW.r0;have r1:=hW.r1;have f0:=hW.f0;have f1:=hW.f1;obtain⟨p1,c1,hv1⟩:=hs.r.shape;subst hv1;obtain⟨p2,c2,hv2⟩:=hl.r.shape;subst hv2;obtain⟨p3,c3,hv3⟩:=hf.r.shape;subst hv3;clear hW;rw [fr_lgS,fe q0,fe q1,fe q2,fe q3,fe q8];clear q0 q1 q2 q3 q8;conv=>arg 2;whnf
 go_wp2_with fail
 refine Met.intro (hS _ _ ?_);exact⟨HF.out,Fr.of _ rfl ⟨rfl,rfl,trivial⟩⟩
theorem lgs6 (hs:SlH w0 vs S)(hl:ScH w0 vl L)(hf:FlH w0 vf Fs)(hcap:cap.size≤1000)(g:AlG S L Fs):T3 Tryz.prog (fun a w=>(Pz w0 0 0 w)∧Fr 33 [(0,vs),(1,vl),(2,vf),(3,.string cap),(8,.pointer (some ⟨w0.heap.size,0,none⟩))] a) (sel [1,1,1,0] lgS) (fun a w=>(Pz w0 (ofHn (sumK L Fs cap Fs.length)) (ofHd (sumK L Fs cap Fs.length)) w)∧Fr 33 [(8,.pointer (some ⟨w0.heap.size,0,none⟩)),(9,.int .i64 0)] a) No 9 No:=by
 refine T3.leaf ?_;rintro Q JS JX JT K hS hK hX hE hT hR a w ⟨hW,⟨fr,rfl,q0,q1,q2,q3,q8,_⟩⟩;have hb:=sumK_b (scp_of g.sc) (cap:=cap) g.inF Fs.length (Nat.le_refl _);have hn12:=g.inF.n;have HC:=Lib.hid (sum_prog w vl vf L Fs cap (hl.below hW.bel) (hf.below hW.bel) (rise_of g.sc) (scp_of g.sc) g.inF);have HO:=Lib.hid (fun w'=>ofHundredths_prog (sumK L Fs cap Fs.length) w' (by omega) (by omega));have HW:=Lib.hid hW;obtain⟨p1,c1,hv1⟩:=hs.r.shape;subst hv1;obtain⟨p2,c2,hv2⟩:=hl.r.shape;subst hv2;obtain⟨p3,c3,hv3⟩:=hf.r.shape;subst hv3;clear hW;clear g hb;generalize sumK L Fs cap Fs.length=sk at *;rw [fr_lgS,fe q0,fe q1,fe q2,fe q3,fe q8];clear q0 q1 q2 q3 q8;conv=>arg 2;whnf
 go_wp2_with fail
 refine HC.out.mono ?_;rintro e w1 ⟨rfl,hb1⟩;have H1:=Lib.hid (HW.out.below hb1);clear hb1;go_wp2_with fail
 refine(HO.out w1).mono ?_;rintro e w2 ⟨rfl,hb2⟩;have H2:=H1.out.below hb2;have HF:=Lib.hid (H2.put (ofHn sk) (ofHd sk));have r0:=H2.r0;have r1:=H2.r1;have f0:=H2.f0;have f1:=H2.f1;clear hb2 H2;go_wp2_with fail
 refine Met.intro (hS _ _ ?_);exact⟨HF.out,Fr.of _ rfl ⟨rfl,rfl,trivial⟩⟩
theorem lgs_all (hs:SlH w0 vs S)(hl:ScH w0 vl L)(hf:FlH w0 vf Fs)(hcap:cap.size≤1000):T3 Tryz.prog (fun a w=>(IsW w0 w)∧Fr 33 [(0,vs),(1,vl),(2,vf),(3,.string cap)] a) lgS No No 9 (fun a w=>∃(x y e:Int),((x,y)=sumV S L Fs cap∧e=oneE S L Fs cap)∧(Pz w0 x y w)∧Fr 33 [(8,.pointer (some ⟨w0.heap.size,0,none⟩)),(9,.int .i64 e)] a):=by
 refine T3.seq (s:=(sel [0] lgS)) (c:=(sel [1] lgS)) (T3.noT (lgs0 w0 vs vl vf S L Fs cap hs hl hf hcap)) ?_;refine T3.seq (s:=(sel [1,0] lgS)) (c:=(sel [1,1] lgS)) (S:=fun a w=>(allE S L Fs=0)∧(Pz w0 0 0 w)∧Fr 33 [(0,vs),(1,vl),(2,vf),(3,.string cap),(8,.pointer (some ⟨w0.heap.size,0,none⟩))] a) ?_ (T3.pure fun ha=>?_)
 ·refine T3.seq (s:=(sel [1,0,0] lgS)) (c:=(sel [1,0,1] lgS)) (T3.noT (lgs1 w0 vs vl vf S L Fs cap hs hl hf hcap)) ?_;refine T3.test (s:=(sel [1,0,1,0] lgS)) (x:=(sel [1,0,1,1,2] lgS)) (y:=.skip) (C:=fun q=>(q=(allE S L Fs != 0))) (W:=fun w=>Pz w0 0 0 w) (by decide) (T3.noT (lgs2 w0 vs vl vf S L Fs cap hs hl hf hcap)) ?_ (T3.skip ?_)
  ·refine T3.pre (R:=fun a w=>(allE S L Fs≠0)∧(Pz w0 0 0 w)∧Fr 33 [(0,vs),(1,vl),(2,vf),(3,.string cap),(8,.pointer (some ⟨w0.heap.size,0,none⟩)),(10,.int .i64 (allE S L Fs))] a) (T3.pure fun hne=>?_) (fun a w ⟨hF,hq,hW⟩=>⟨by have:=hq.symm;simpa using this,hW,hF.tail⟩);refine T3.seq (s:=(sel [1,0,1,1,2,0] lgS)) (c:=.ret) (T3.noT (lgs3 w0 vs vl vf S L Fs cap hs hl hf hcap)) (T3.ret fun a w q=>⟨0,0,_,⟨?_,?_⟩,q⟩)
   ·unfold sumV oneE;rw [if_pos hne,if_neg hne]
   ·unfold oneE;rw [if_pos hne]
  ·rintro a w ⟨hq,hW,hF⟩;exact⟨by have:=hq.symm;simpa using this,hW,hF.sub (by simp)⟩
 refine T3.seq (s:=(sel [1,1,0] lgS)) (c:=(sel [1,1,1] lgS)) (S:=fun a w=>(capBad Fs cap=false)∧(Pz w0 0 0 w)∧Fr 33 [(0,vs),(1,vl),(2,vf),(3,.string cap),(8,.pointer (some ⟨w0.heap.size,0,none⟩))] a) ?_ (T3.pure fun hc=>?_)
 ·refine T3.test (s:=(sel [1,1,0,0] lgS)) (x:=(sel [1,1,0,1,2] lgS)) (y:=.skip) (C:=fun q=>(q=capBad Fs cap)) (W:=fun w=>Pz w0 0 0 w) (by decide) (T3.noT (lgs4 w0 vs vl vf S L Fs cap hs hl hf hcap)) ?_ (T3.skip ?_)
  ·refine T3.pre (R:=fun a w=>(capBad Fs cap=true)∧(Pz w0 0 0 w)∧Fr 33 [(0,vs),(1,vl),(2,vf),(3,.string cap),(8,.pointer (some ⟨w0.heap.size,0,none⟩))] a) (T3.pure fun hc=>?_) (fun a w ⟨hF,hq,hW⟩=>⟨hq.symm,hW,hF.tail⟩);have h8:oneE S L Fs cap=8:=by unfold oneE;rw [if_neg (by simp [ha]),if_pos hc]
   refine T3.seq (s:=(sel [1,1,0,1,2,0] lgS)) (c:=.ret) (T3.noT (lgs5 w0 vs vl vf S L Fs cap hs hl hf hcap)) (T3.ret fun a w q=>⟨0,0,_,⟨?_,?_⟩,q⟩)
   ·unfold sumV;rw [h8];rfl
   ·exact h8.symm
  ·rintro a w ⟨hq,hW,hF⟩;exact⟨hq.symm,hW,hF⟩
 have h0:oneE S L Fs cap=0:=by unfold oneE;rw [if_neg (by simp [ha]),if_neg (by rw [hc];decide)]
 refine T3.seq (s:=(sel [1,1,1,0] lgS)) (c:=.ret) (T3.noT (lgs6 w0 vs vl vf S L Fs cap hs hl hf hcap ⟨ha⟩)) (T3.ret fun a w q=>⟨_,_,_,⟨?_,?_⟩,q⟩)
 ·unfold sumV;rw [if_pos h0]
 ·exact h0.symm
theorem sumP (hs:SlH w0 vs S)(hl:ScH w0 vl L)(hf:FlH w0 vf Fs)(hcap:cap.size≤1000):Calls Tryz.prog 9 #[vs,vl,vf,.string cap] w0 fun e w'=>e=.returned (.tuple #[.agg #[.int .i64 (sumV S L Fs cap).1,.int .i64 (sumV S L Fs cap).2],.int .i64 (oneE S L Fs cap)])∧Below w0.heap.size w0 w':=by
 have hall:=lgs_all w0 vs vl vf S L Fs cap hs hl hf hcap
 go_enter Tryz.func9,Tryz.ntmps9
 refine T3.done (s:=lgS) hall ⟨rfl,Fr.of _ rfl ⟨rfl,rfl,rfl,rfl,trivial⟩⟩ ?_;rintro a w ⟨x,y,e,⟨hxy,rfl⟩,hz,fr,rfl,q8,q9,_⟩;rw [fr_lgS,fe q8,fe q9];have r0:=hz.r0;have r1:=hz.r1;rw [←hxy];exact bodyPost_ret (v:=.tuple #[.agg #[.int .i64 x,.int .i64 y],.int .i64 (oneE S L Fs cap)]) (by simp [results,Tryz.results9,go_sem,r0,r1]) rfl ⟨rfl,hz.bel⟩
end
noncomputable def lgL:Code:=(Tryz.f10.body).getD .skip
theorem fr_lgL (f:Nat→Value):frame 29 f=⟨#[f 0,f 1,f 2,f 3,f 4,f 5,f 6,f 7,f 8,f 9,f 10,f 11,f 12,f 13,f 14,f 15,f 16,f 17,f 18,f 19,f 20,f 21,f 22,f 23,f 24,f 25,f 26,f 27,f 28],[]⟩:=by rfl
section
variable (w0:World)(vs vl vf:Value)(S:List SlD)(L:List ScD)(Fs:List FlD)
theorem lgl0 (hs:SlH w0 vs S)(hl:ScH w0 vl L)(hf:FlH w0 vf Fs)(hS4:S.length≤4)(hL6:L.length≤6):T3 Tryz.prog (fun a w=>(IsW w0 w)∧Fr 29 [(0,vs),(1,vl),(2,vf)] a) (sel [0] lgL) (fun a w=>(Pz w0 0 0 w)∧Fr 29 [(0,vs),(1,vl),(2,vf),(6,.pointer (some ⟨w0.heap.size,0,none⟩))] a) No 9 No:=by
 refine T3.leaf ?_;rintro Q JS JX JT K hS hK hX hE hT hR a w ⟨hW,⟨fr,rfl,q0,q1,q2,_⟩⟩;obtain rfl:w=w0:=hW;obtain⟨p1,c1,hv1⟩:=hs.r.shape;subst hv1;obtain⟨p2,c2,hv2⟩:=hl.r.shape;subst hv2;obtain⟨p3,c3,hv3⟩:=hf.r.shape;subst hv3;have HP:=Lib.hid (Pz.new w 0 0 34);rw [fr_lgL,fe q0,fe q1,fe q2];clear q0 q1 q2;conv=>arg 2;whnf
 go_wp2_with fail
 refine Met.intro (hS _ _ ?_);exact⟨HP.out,Fr.of _ rfl ⟨rfl,rfl,rfl,rfl,trivial⟩⟩
theorem lgl1 (hs:SlH w0 vs S)(hl:ScH w0 vl L)(hf:FlH w0 vf Fs)(hS4:S.length≤4)(hL6:L.length≤6):T3 Tryz.prog (fun a w=>(Pz w0 0 0 w)∧Fr 29 [(0,vs),(1,vl),(2,vf),(6,.pointer (some ⟨w0.heap.size,0,none⟩))] a) (sel [1,0,0] lgL) (fun a w=>(Pz w0 0 0 w)∧Fr 29 [(0,vs),(1,vl),(2,vf),(6,.pointer (some ⟨w0.heap.size,0,none⟩)),(8,.int .i64 (allE S L Fs))] a) No 9 No:=by
 refine T3.leaf ?_;rintro Q JS JX JT K hS hK hX hE hT hR a w ⟨hW,⟨fr,rfl,q0,q1,q2,q6,_⟩⟩;have HC:=Lib.hid (fills_prog w vs vl vf S L Fs (hs.below hW.bel) (hl.below hW.bel) (hf.below hW.bel));have HW:=Lib.hid hW;obtain⟨p1,c1,hv1⟩:=hs.r.shape;subst hv1;obtain⟨p2,c2,hv2⟩:=hl.r.shape;subst hv2;obtain⟨p3,c3,hv3⟩:=hf.r.shape;subst hv3;clear hW;generalize allE S L Fs=e0 at *;rw [fr_lgL,fe q0,fe q1,fe q2,fe q6];clear q0 q1 q2 q6;conv=>arg 2;whnf
 go_wp2_with fail
 refine HC.out.mono ?_;rintro e w1 ⟨rfl,hb1⟩;have HR:=Lib.hid (HW.out.below hb1);clear hb1;go_wp2_with fail
 refine Met.intro (hS _ _ ?_);exact⟨HR.out,Fr.of _ rfl ⟨rfl,rfl,rfl,rfl,rfl,trivial⟩⟩
theorem lgl2 (hs:SlH w0 vs S)(hl:ScH w0 vl L)(hf:FlH w0 vf Fs)(hS4:S.length≤4)(hL6:L.length≤6):T3 Tryz.prog (fun a w=>(Pz w0 0 0 w)∧Fr 29 [(0,vs),(1,vl),(2,vf),(6,.pointer (some ⟨w0.heap.size,0,none⟩)),(8,.int .i64 (allE S L Fs))] a) (sel [1,0,1,0] lgL) (fun a w=>∃q,Fr 29 ((14,.bool q)::[(0,vs),(1,vl),(2,vf),(6,.pointer (some ⟨w0.heap.size,0,none⟩)),(8,.int .i64 (allE S L Fs))]) a∧((q=(allE S L Fs != 0))∧Pz w0 0 0 w)) No 9 No:=by
 refine T3.leaf ?_;rintro Q JS JX JT K hS hK hX hE hT hR a w ⟨hW,⟨fr,rfl,q0,q1,q2,q6,q8,_⟩⟩;have HW:=Lib.hid hW;obtain⟨p1,c1,hv1⟩:=hs.r.shape;subst hv1;obtain⟨p2,c2,hv2⟩:=hl.r.shape;subst hv2;obtain⟨p3,c3,hv3⟩:=hf.r.shape;subst hv3;clear hW;generalize allE S L Fs=e0 at *;generalize hqq:(e0 != 0)=qq at *;rw [fr_lgL,fe q0,fe q1,fe q2,fe q6,fe q8];clear q0 q1 q2 q6 q8;conv=>arg 2;whnf
 go_wp2_with fail
 refine Met.intro (hS _ _ ?_);exact⟨_,Fr.of _ rfl ⟨rfl,rfl,rfl,rfl,rfl,rfl,trivial⟩,rfl,HW.out⟩
theorem lgl3 (hs:SlH w0 vs S)(hl:ScH w0 vl L)(hf:FlH w0 vf Fs)(hS4:S.length≤4)(hL6:L.length≤6):T3 Tryz.prog (fun a w=>(Pz w0 0 0 w)∧Fr 29 [(0,vs),(1,vl),(2,vf),(6,.pointer (some ⟨w0.heap.size,0,none⟩)),(8,.int .i64 (allE S L Fs))] a) (sel [1,0,1,1,2,0] lgL) (fun a w=>(Pz w0 0 0 w)∧Fr 29 [(6,.pointer (some ⟨w0.heap.size,0,none⟩)),(7,.int .i64 (allE S L Fs))] a) No 9 No:=by
 refine T3.leaf ?_;rintro Q JS JX JT K hS hK hX hE hT hR a w ⟨hW,⟨fr,rfl,q0,q1,q2,q6,q8,_⟩⟩;have HF:=Lib.hid (hW.put 0 0);have r0:=hW.r0;have r1:=hW.r1;have f0:=hW.f0;have f1:=hW.f1;obtain⟨p1,c1,hv1⟩:=hs.r.shape;subst hv1;obtain⟨p2,c2,hv2⟩:=hl.r.shape;subst hv2;obtain⟨p3,c3,hv3⟩:=hf.r.shape;subst hv3;clear hW;generalize allE S L Fs=e0 at *;rw [fr_lgL,fe q0,fe q1,fe q2,fe q6,fe q8];clear q0 q1 q2 q6 q8;conv=>arg 2;whnf
 go_wp2_with fail
 refine Met.intro (hS _ _ ?_);exact⟨HF.out,Fr.of _ rfl ⟨rfl,rfl,trivial⟩⟩
theorem lgl4 (hs:SlH w0 vs S)(hl:ScH w0 vl L)(hf:FlH w0 vf Fs)(hS4:S.length≤4)(hL6:L.length≤6)(g:AlG S L Fs):T3 Tryz.prog (fun a w=>(Pz w0 0 0 w)∧Fr 29 [(0,vs),(1,vl),(2,vf),(6,.pointer (some ⟨w0.heap.size,0,none⟩))] a) (sel [1,1,0] lgL) (fun a w=>(Pz w0 (ofHn (leftK S L Fs)) (ofHd (leftK S L Fs)) w)∧Fr 29 [(6,.pointer (some ⟨w0.heap.size,0,none⟩)),(7,.int .i64 0)] a) No 9 No:=by
 refine T3.leaf ?_;rintro Q JS JX JT K hS hK hX hE hT hR a w ⟨hW,⟨fr,rfl,q0,q1,q2,q6,_⟩⟩;have hp:=scp_of g.sc;have hr:=rise_of g.sc;have hib:=bestF_in (S:=S) hr (by omega);have hb1:=sumK_b hp (cap:=⟨#[]⟩) g.inF Fs.length (Nat.le_refl _);have hb2:=sumK_b hp (cap:=⟨#[]⟩) hib (bestF S L).length (Nat.le_refl _);have hn12:=g.inF.n;have hn13:=hib.n;have hbl:Below w.heap.size w (w.alloc (.cells #[vs,vl] 88)):=(Below.refl _ _).alloc (Nat.le_refl _) _;have hs1:=(hs.below hW.bel).below hbl;have hl1:=(hl.below hW.bel).below hbl;have hf1:=(hf.below hW.bel).below hbl;have hbo:BoH (w.alloc (.cells #[vs,vl] 88)) w.heap.size vs S vl L:=⟨cells_new w _ _ 0 _ rfl,cells_new w _ _ 1 _ rfl,hs1,hl1⟩
 have HB:=Lib.hid (best_prog w.heap.size vl vs S L (w.alloc (.cells #[vs,vl] 88)) hbo hp hS4 hL6);have HC:=Lib.hid (fun w' v5 (b:Below (w.alloc (.cells #[vs,vl] 88)).heap.size (w.alloc (.cells #[vs,vl] 88)) w') (hfl:FlH w' v5 (bestF S L))=>sum_prog w' vl v5 L (bestF S L) ⟨#[]⟩ (hl1.below b) hfl hr hp hib);have HD:=Lib.hid (fun w' (b:Below (w.alloc (.cells #[vs,vl] 88)).heap.size (w.alloc (.cells #[vs,vl] 88)) w')=>sum_prog w' vl vf L Fs ⟨#[]⟩ (hl1.below b) (hf1.below b) hr hp g.inF);have HO:=Lib.hid (fun w'=>ofHundredths_prog (leftK S L Fs) w' (by unfold leftK;omega) (by unfold leftK;omega));have HQ:=Lib.hid (show sumK L (bestF S L) ⟨#[]⟩ (bestF S L).length-sumK L Fs ⟨#[]⟩ Fs.length=leftK S L Fs from rfl);have HZ:=Lib.hid (best_z hs hl (S:=S) (L:=L));have HW1:=Lib.hid (hW.below hbl);obtain⟨p1,c1,hv1⟩:=hs.r.shape;subst hv1;obtain⟨p2,c2,hv2⟩:=hl.r.shape;subst hv2;obtain⟨p3,c3,hv3⟩:=hf.r.shape;subst hv3;clear hW g hp hr hib hs1 hl1 hf1 hbl hbo hs hl hf;generalize leftK S L Fs=lk at *;generalize sumK L Fs ⟨#[]⟩ Fs.length=sf at *;generalize hbb:sumK L (bestF S L) ⟨#[]⟩ (bestF S L).length=sb at *;have HBB:=Lib.hid hbb;clear hbb;rw [fr_lgL,fe q0,fe q1,fe q2,fe q6];clear q0 q1 q2 q6;conv=>arg 2;whnf
 go_wp2_with fail
 generalize w.alloc (.cells #[.slice p1 S.length c1,.slice p2 L.length c2] 88)=W at *;refine HB.out.mono ?_;rintro e w1 ⟨v5,rfl,ho,hb⟩;have HW2:=Lib.hid (HW1.out.below hb);have H1:=Lib.hid (HC.out w1 v5 hb ⟨(Row.of_owns ho).mono (Nat.zero_le _),HZ.out,by omega⟩);have HB1:=Lib.hid hb;obtain⟨p5,c5,hv5⟩:=(Row.of_owns ho).shape;subst hv5;clear hb ho;go_wp2_with fail
 refine H1.out.mono ?_;rintro e w2 ⟨rfl,hb⟩;have HW3:=Lib.hid (HW2.out.below hb);have HB2:=Lib.hid (HB1.out.trans (hb.mono HB1.out.size));clear hb;go_wp2_with fail
 refine(HD.out w2 HB2.out).mono ?_;rintro e w3 ⟨rfl,hb⟩;have HW4:=Lib.hid (HW3.out.below hb);clear hb;go_wp2_with fail
 rw [HQ.out];refine(HO.out w3).mono ?_;rintro e w4 ⟨rfl,hb⟩;have H5:=HW4.out.below hb;have HF:=Lib.hid (H5.put (ofHn lk) (ofHd lk));have r0:=H5.r0;have r1:=H5.r1;have f0:=H5.f0;have f1:=H5.f1;clear hb H5;go_wp2_with fail
 refine Met.intro (hS _ _ ?_);exact⟨HF.out,Fr.of _ rfl ⟨rfl,rfl,trivial⟩⟩
theorem lgl_all (hs:SlH w0 vs S)(hl:ScH w0 vl L)(hf:FlH w0 vf Fs)(hS4:S.length≤4)(hL6:L.length≤6):T3 Tryz.prog (fun a w=>(IsW w0 w)∧Fr 29 [(0,vs),(1,vl),(2,vf)] a) lgL No No 9 (fun a w=>∃(x y e:Int),((x,y)=leftV S L Fs∧e=allE S L Fs)∧(Pz w0 x y w)∧Fr 29 [(6,.pointer (some ⟨w0.heap.size,0,none⟩)),(7,.int .i64 e)] a):=by
 refine T3.seq (s:=(sel [0] lgL)) (c:=(sel [1] lgL)) (T3.noT (lgl0 w0 vs vl vf S L Fs hs hl hf hS4 hL6)) ?_;refine T3.seq (s:=(sel [1,0] lgL)) (c:=(sel [1,1] lgL)) (S:=fun a w=>(allE S L Fs=0)∧(Pz w0 0 0 w)∧Fr 29 [(0,vs),(1,vl),(2,vf),(6,.pointer (some ⟨w0.heap.size,0,none⟩))] a) ?_ (T3.pure fun ha=>?_)
 ·refine T3.seq (s:=(sel [1,0,0] lgL)) (c:=(sel [1,0,1] lgL)) (T3.noT (lgl1 w0 vs vl vf S L Fs hs hl hf hS4 hL6)) ?_;refine T3.test (s:=(sel [1,0,1,0] lgL)) (x:=(sel [1,0,1,1,2] lgL)) (y:=.skip) (C:=fun q=>(q=(allE S L Fs != 0))) (W:=fun w=>Pz w0 0 0 w) (by decide) (T3.noT (lgl2 w0 vs vl vf S L Fs hs hl hf hS4 hL6)) ?_ (T3.skip ?_)
  ·refine T3.pre (R:=fun a w=>(allE S L Fs≠0)∧(Pz w0 0 0 w)∧Fr 29 [(0,vs),(1,vl),(2,vf),(6,.pointer (some ⟨w0.heap.size,0,none⟩)),(8,.int .i64 (allE S L Fs))] a) (T3.pure fun hne=>?_) (fun a w ⟨hF,hq,hW⟩=>⟨by have:=hq.symm;simpa using this,hW,hF.tail⟩);refine T3.seq (s:=(sel [1,0,1,1,2,0] lgL)) (c:=.ret) (T3.noT (lgl3 w0 vs vl vf S L Fs hs hl hf hS4 hL6)) (T3.ret fun a w q=>⟨0,0,_,⟨?_,rfl⟩,q⟩);unfold leftV;rw [if_neg hne]
  ·rintro a w ⟨hq,hW,hF⟩;exact⟨by have:=hq.symm;simpa using this,hW,hF.sub (by simp)⟩
 refine T3.seq (s:=(sel [1,1,0] lgL)) (c:=.ret) (T3.noT (lgl4 w0 vs vl vf S L Fs hs hl hf hS4 hL6 ⟨ha⟩)) (T3.ret fun a w q=>⟨_,_,_,⟨?_,?_⟩,q⟩)
 ·unfold leftV;rw [if_pos ha]
 ·exact ha.symm
theorem leftP (hs:SlH w0 vs S)(hl:ScH w0 vl L)(hf:FlH w0 vf Fs)(hS4:S.length≤4)(hL6:L.length≤6):Calls Tryz.prog 10 #[vs,vl,vf] w0 fun e w'=>e=.returned (.tuple #[.agg #[.int .i64 (leftV S L Fs).1,.int .i64 (leftV S L Fs).2],.int .i64 (allE S L Fs)])∧Below w0.heap.size w0 w':=by
 have hall:=lgl_all w0 vs vl vf S L Fs hs hl hf hS4 hL6
 go_enter Tryz.func10,Tryz.ntmps10
 refine T3.done (s:=lgL) hall ⟨rfl,Fr.of _ rfl ⟨rfl,rfl,rfl,trivial⟩⟩ ?_;rintro a w ⟨x,y,e,⟨hxy,rfl⟩,hz,fr,rfl,q8,q9,_⟩;rw [fr_lgL,show fr 6=_ from q8,show fr 7=_ from q9];have r0:=hz.r0;have r1:=hz.r1;rw [←hxy];exact bodyPost_ret (v:=.tuple #[.agg #[.int .i64 x,.int .i64 y],.int .i64 (allE S L Fs)]) (by simp [results,Tryz.results10,go_sem,r0,r1]) rfl ⟨rfl,hz.bel⟩
end
noncomputable def lgB:Code:=(Tryz.f11.body).getD .skip
theorem fr_lgB (f:Nat→Value):frame 37 f=⟨#[f 0,f 1,f 2,f 3,f 4,f 5,f 6,f 7,f 8,f 9,f 10,f 11,f 12,f 13,f 14,f 15,f 16,f 17,f 18,f 19,f 20,f 21,f 22,f 23,f 24,f 25,f 26,f 27,f 28,f 29,f 30,f 31,f 32,f 33,f 34,f 35,f 36],[]⟩:=by rfl
section
variable (w0:World)(vs vl vf:Value)(S:List SlD)(L:List ScD)(Fs:List FlD)
theorem lgb0 (hs:SlH w0 vs S)(hl:ScH w0 vl L)(hf:FlH w0 vf Fs):T3 Tryz.prog (fun a w=>(Below w0.heap.size w0 w)∧Fr 37 [(0,vs),(1,vl),(2,vf)] a) (sel [0] lgB) (fun a w=>(Below w0.heap.size w0 w)∧Fr 37 [(0,vs),(1,vl),(2,vf)] a) No 9 No:=by
 refine T3.leaf ?_;rintro Q JS JX JT K hS hK hX hE hT hR a w ⟨hW,⟨fr,rfl,q0,q1,q2,_⟩⟩;have HW:=Lib.hid hW;obtain⟨p1,c1,hv1⟩:=hs.r.shape;subst hv1;obtain⟨p2,c2,hv2⟩:=hl.r.shape;subst hv2;obtain⟨p3,c3,hv3⟩:=hf.r.shape;subst hv3;clear hW;rw [fr_lgB,fe q0,fe q1,fe q2];clear q0 q1 q2;conv=>arg 2;whnf
 go_wp2_with fail
 refine Met.intro (hS _ _ ?_);exact⟨HW.out,Fr.of _ rfl ⟨rfl,rfl,rfl,trivial⟩⟩
theorem lgb1 (hs:SlH w0 vs S)(hl:ScH w0 vl L)(hf:FlH w0 vf Fs):T3 Tryz.prog (fun a w=>(Below w0.heap.size w0 w)∧Fr 37 [(0,vs),(1,vl),(2,vf)] a) (sel [1,0,0] lgB) (fun a w=>(Below w0.heap.size w0 w)∧Fr 37 [(0,vs),(1,vl),(2,vf),(8,.int .i64 (allE S L Fs))] a) No 9 No:=by
 refine T3.leaf ?_;rintro Q JS JX JT K hS hK hX hE hT hR a w ⟨hW,⟨fr,rfl,q0,q1,q2,_⟩⟩;have HC:=Lib.hid (fills_prog w vs vl vf S L Fs (hs.below hW) (hl.below hW) (hf.below hW));have HW:=Lib.hid hW;obtain⟨p1,c1,hv1⟩:=hs.r.shape;subst hv1;obtain⟨p2,c2,hv2⟩:=hl.r.shape;subst hv2;obtain⟨p3,c3,hv3⟩:=hf.r.shape;subst hv3;clear hW;generalize allE S L Fs=e0 at *;rw [fr_lgB,fe q0,fe q1,fe q2];clear q0 q1 q2;conv=>arg 2;whnf
 go_wp2_with fail
 refine HC.out.mono ?_;rintro e w1 ⟨rfl,hb1⟩;have HR:=Lib.hid (HW.out.trans (hb1.mono HW.out.size));clear hb1;go_wp2_with fail
 refine Met.intro (hS _ _ ?_);exact⟨HR.out,Fr.of _ rfl ⟨rfl,rfl,rfl,rfl,trivial⟩⟩
theorem lgb2 (hs:SlH w0 vs S)(hl:ScH w0 vl L)(hf:FlH w0 vf Fs):T3 Tryz.prog (fun a w=>(Below w0.heap.size w0 w)∧Fr 37 [(0,vs),(1,vl),(2,vf),(8,.int .i64 (allE S L Fs))] a) (sel [1,0,1,0] lgB) (fun a w=>∃q,Fr 37 ((17,.bool q)::[(0,vs),(1,vl),(2,vf),(8,.int .i64 (allE S L Fs))]) a∧((q=(allE S L Fs != 0))∧Below w0.heap.size w0 w)) No 9 No:=by
 refine T3.leaf ?_;rintro Q JS JX JT K hS hK hX hE hT hR a w ⟨hW,⟨fr,rfl,q0,q1,q2,q8,_⟩⟩;have HW:=Lib.hid hW;obtain⟨p1,c1,hv1⟩:=hs.r.shape;subst hv1;obtain⟨p2,c2,hv2⟩:=hl.r.shape;subst hv2;obtain⟨p3,c3,hv3⟩:=hf.r.shape;subst hv3;clear hW;generalize allE S L Fs=e0 at *;generalize hqq:(e0 != 0)=qq at *;rw [fr_lgB,fe q0,fe q1,fe q2,fe q8];clear q0 q1 q2 q8;conv=>arg 2;whnf
 go_wp2_with fail
 refine Met.intro (hS _ _ ?_);exact⟨_,Fr.of _ rfl ⟨rfl,rfl,rfl,rfl,rfl,trivial⟩,rfl,HW.out⟩
theorem lgb3 (hs:SlH w0 vs S)(hl:ScH w0 vl L)(hf:FlH w0 vf Fs):T3 Tryz.prog (fun a w=>(Below w0.heap.size w0 w)∧Fr 37 [(0,vs),(1,vl),(2,vf),(8,.int .i64 (allE S L Fs))] a) (sel [1,0,1,1,2,0] lgB) (fun a w=>(Below w0.heap.size w0 w)∧Fr 37 [(6,.slice none 0 0),(7,.int .i64 (allE S L Fs))] a) No 9 No:=by
 refine T3.leaf ?_;rintro Q JS JX JT K hS hK hX hE hT hR a w ⟨hW,⟨fr,rfl,q0,q1,q2,q8,_⟩⟩;have HW:=Lib.hid hW;obtain⟨p1,c1,hv1⟩:=hs.r.shape;subst hv1;obtain⟨p2,c2,hv2⟩:=hl.r.shape;subst hv2;obtain⟨p3,c3,hv3⟩:=hf.r.shape;subst hv3;clear hW;generalize allE S L Fs=e0 at *;rw [fr_lgB,fe q0,fe q1,fe q2,fe q8];clear q0 q1 q2 q8;conv=>arg 2;whnf
 go_wp2_with fail
 refine Met.intro (hS _ _ ?_);exact⟨HW.out,Fr.of _ rfl ⟨rfl,rfl,trivial⟩⟩
theorem lgb4 (hs:SlH w0 vs S)(hl:ScH w0 vl L)(hf:FlH w0 vf Fs):T3 Tryz.prog (fun a w=>(Below w0.heap.size w0 w)∧Fr 37 [(0,vs),(1,vl),(2,vf)] a) (sel [1,1,0] lgB) (fun a w=>(BoW w0 L Fs (.slice none 0 0) 0 w)∧Fr 37 [(0,vs),(1,vl),(2,vf),(9,.slice none 0 0)] a) No 9 No:=by
 refine T3.leaf ?_;rintro Q JS JX JT K hS hK hX hE hT hR a w ⟨hW,⟨fr,rfl,q0,q1,q2,_⟩⟩;have HB:=Lib.hid (show BoW w0 L Fs (.slice none 0 0) 0 w from⟨hW,World.ownsRow_nil _ _ _ _⟩);have HW:=Lib.hid hW;obtain⟨p1,c1,hv1⟩:=hs.r.shape;subst hv1;obtain⟨p2,c2,hv2⟩:=hl.r.shape;subst hv2;obtain⟨p3,c3,hv3⟩:=hf.r.shape;subst hv3;clear hW;rw [fr_lgB,fe q0,fe q1,fe q2];clear q0 q1 q2;conv=>arg 2;whnf
 go_wp2_with fail
 refine Met.intro (hS _ _ ?_);exact⟨HB.out,Fr.of _ rfl ⟨rfl,rfl,rfl,rfl,trivial⟩⟩
theorem lgb5 (hs:SlH w0 vs S)(hl:ScH w0 vl L)(hf:FlH w0 vf Fs):T3 Tryz.prog (fun a w=>(BoW w0 L Fs (.slice none 0 0) 0 w)∧Fr 37 [(0,vs),(1,vl),(2,vf),(9,.slice none 0 0)] a) (sel [1,1,1,0,0] lgB) (fun a w=>(0≤(0:Int)∧(0:Int)≤L.length)∧∃(v5:Value),(BoW w0 L Fs v5 (0:Int).toNat w)∧Fr 37 [(0,vs),(1,vl),(2,vf),(9,v5),(19,vl),(20,.int .i64 L.length),(21,.int .i64 0)] a) No 9 No:=by
 refine T3.leaf ?_;rintro Q JS JX JT K hS hK hX hE hT hR a w ⟨hW,⟨fr,rfl,q0,q1,q2,q9,_⟩⟩;have hln:=hl.n;have HW:=Lib.hid hW;obtain⟨p1,c1,hv1⟩:=hs.r.shape;subst hv1;obtain⟨p2,c2,hv2⟩:=hl.r.shape;subst hv2;obtain⟨p3,c3,hv3⟩:=hf.r.shape;subst hv3;clear hW;rw [fr_lgB,fe q0,fe q1,fe q2,fe q9];clear q0 q1 q2 q9;conv=>arg 2;whnf
 go_wp2_with fail
 refine Met.intro (hS _ _ ?_);exact⟨⟨by omega,by omega⟩,_,HW.out,Fr.of _ rfl ⟨rfl,rfl,rfl,rfl,rfl,rfl,rfl,trivial⟩⟩
theorem lgb7 (hs:SlH w0 vs S)(hl:ScH w0 vl L)(hf:FlH w0 vf Fs)(k:Int):T3 Tryz.prog (fun a w=>∃(v5:Value),(0≤k∧k<L.length)∧(BoW w0 L Fs v5 (k:Int).toNat w)∧Fr 37 [(0,vs),(1,vl),(2,vf),(9,v5),(19,vl),(20,.int .i64 L.length),(21,.int .i64 k)] a) (sel [1,1,1,0,1,4,4,1,1,0,4,0] lgB) (fun a w=>∃(v5:Value) (g7:Nat),(0≤k∧k<L.length)∧(BoW w0 L Fs v5 k.toNat w∧ScB w g7 (geta L k))∧Fr 37 [(0,vs),(1,vl),(2,vf),(9,v5),(11,.pointer (some ⟨g7,0,none⟩)),(19,vl),(20,.int .i64 L.length),(21,.int .i64 k)] a) No 9 No:=by
 refine T3.leaf ?_;rintro Q JS JX JT K hS hK hX hE hT hR a w ⟨v5,hpre,hW,⟨fr,rfl,q0,q1,q2,q9,q19,q20,q21,_⟩⟩;have hpp:=Lib.hid hpre;obtain⟨hk0,hk1⟩:=hpre;have hln:=hl.n;have hHW:=Lib.hid hW;have hR:=(hl.below hW.bel).r;obtain⟨qq,dd,hq⟩:=(hl.p _ (geta_mem hk0 hk1)).r.shape;obtain⟨p5,c5,hv5⟩:=(Row.of_owns hW.own).shape;subst hv5;obtain⟨p1,c1,hv1⟩:=hs.r.shape;subst hv1;obtain⟨p2,c2,hv2⟩:=hl.r.shape;subst hv2;obtain⟨p3,c3,hv3⟩:=hf.r.shape;subst hv3;obtain⟨bz,off,rfl,hnc,hcm,hcell⟩:=Row.nonnil hR (by omega);have t0:=Row.elAt encSc_length hcell hk0 hk1 0 _ (by decide) rfl;have t1:=Row.elAt encSc_length hcell hk0 hk1 1 _ (by decide) rfl;have t2:=Row.elAt encSc_length hcell hk0 hk1 2 _ (by decide) rfl;have t3:=Row.elAt encSc_length hcell hk0 hk1 3 _ (by decide) rfl;have t4:=Row.elAt encSc_length hcell hk0 hk1 4 _ (by decide) rfl;rw [Nat.add_zero]at t0;have HB:=Lib.hid (ScB.new w (geta L k) 77);have HA:=Lib.hid (fun o=>(Below.refl w.heap.size w).alloc (Nat.le_refl _) o);clear hcell hR hW hs hl hf;generalize geta L k=x at *;obtain⟨xk,xv,xps,xn,xd,xp⟩:=x;simp only at hq t0 t1 t2 t3 t4;subst hq;rw [fr_lgB,fe q0,fe q1,fe q2,fe q9,fe q19,fe q20,fe q21];clear q0 q1 q2 q9 q19 q20 q21;conv=>arg 2;whnf
 go_wp2_with fail
 refine Met.intro (hS _ _ ?_);exact⟨_,_,hpp.out,⟨hHW.out.below (HA.out _),HB.out⟩,Fr.of _ rfl ⟨rfl,rfl,rfl,rfl,rfl,rfl,rfl,rfl,trivial⟩⟩
theorem lgb8 (hs:SlH w0 vs S)(hl:ScH w0 vl L)(hf:FlH w0 vf Fs)(k:Int)(v5:Value)(g7:Nat):T3 Tryz.prog (fun a w=>(0≤k∧k<L.length)∧(BoW w0 L Fs v5 k.toNat w∧ScB w g7 (geta L k))∧Fr 37 [(0,vs),(1,vl),(2,vf),(9,v5),(11,.pointer (some ⟨g7,0,none⟩)),(19,vl),(20,.int .i64 L.length),(21,.int .i64 k)] a) (sel [1,1,1,0,1,4,4,1,1,0,4,1,0] lgB) (fun a w=>∃q,Fr 37 ((29,.bool q)::[(0,vs),(1,vl),(2,vf),(9,v5),(11,.pointer (some ⟨g7,0,none⟩)),(19,vl),(20,.int .i64 L.length),(21,.int .i64 k)]) a∧(((0≤k∧k<L.length)∧q=!isInB Fs (geta L k).pl)∧BoW w0 L Fs v5 k.toNat w∧ScB w g7 (geta L k))) No 9 No:=by
 refine T3.leaf ?_;rintro Q JS JX JT K hS hK hX hE hT hR a w ⟨hpre,hW,⟨fr,rfl,q0,q1,q2,q9,q11,q19,q20,q21,_⟩⟩;have hpp:=Lib.hid hpre;have t0:=hW.2.c0;have HW:=Lib.hid hW;have HC:=Lib.hid (isIn_prog vf Fs (geta L k).pl w (hf.below hW.1.bel));obtain⟨p5,c5,hv5⟩:=(Row.of_owns hW.1.own).shape;subst hv5;obtain⟨p1,c1,hv1⟩:=hs.r.shape;subst hv1;obtain⟨p2,c2,hv2⟩:=hl.r.shape;subst hv2;obtain⟨p3,c3,hv3⟩:=hf.r.shape;subst hv3;clear hW hs hl hf;generalize isInB Fs (geta L k).pl=iq at *;generalize (geta L k).pl=xpl at *;rw [fr_lgB,fe q0,fe q1,fe q2,fe q9,fe q11,fe q19,fe q20,fe q21];clear q0 q1 q2 q9 q11 q19 q20 q21;conv=>arg 2;whnf
 go_wp2_with fail
 refine HC.out.mono ?_;rintro e w1 ⟨rfl,hb1⟩;have HR:=Lib.hid (show BoW w0 L Fs _ k.toNat w1∧ScB w1 g7 (geta L k)from⟨HW.out.1.below hb1,HW.out.2.below hb1⟩);clear hb1;go_wp2_with fail
 have hpre:=hpp.out;refine Met.intro (hS _ _ ?_);exact⟨_,Fr.of _ rfl ⟨rfl,rfl,rfl,rfl,rfl,rfl,rfl,rfl,rfl,trivial⟩,⟨hpre,rfl⟩,HR.out⟩
theorem lgb9 (hs:SlH w0 vs S)(hl:ScH w0 vl L)(hf:FlH w0 vf Fs)(k:Int)(v5:Value)(g7:Nat)(hin:isInB Fs (geta L k).pl=false):T3 Tryz.prog (fun a w=>(0≤k∧k<L.length)∧(BoW w0 L Fs v5 k.toNat w∧ScB w g7 (geta L k))∧Fr 37 [(0,vs),(1,vl),(2,vf),(9,v5),(11,.pointer (some ⟨g7,0,none⟩)),(19,vl),(20,.int .i64 L.length),(21,.int .i64 k)] a) (sel [1,1,1,0,1,4,4,1,1,0,4,1,1,2] lgB) (fun a w=>∃(v5:Value),(0≤k∧k<L.length)∧(BoW w0 L Fs v5 ((k+1):Int).toNat w)∧Fr 37 [(0,vs),(1,vl),(2,vf),(9,v5),(19,vl),(20,.int .i64 L.length),(21,.int .i64 k)] a) No 9 No:=by
 refine T3.leaf ?_;rintro Q JS JX JT K hS hK hX hE hT hR a w ⟨hpre,hW,⟨fr,rfl,q0,q1,q2,q9,q11,q19,q20,q21,_⟩⟩;have hpp:=Lib.hid hpre;obtain⟨hk0,hk1⟩:=hpre;have hln:=hl.n;have hble:=benchK_le L Fs k.toNat;have hE1:=el_stJ;have t0:=hW.2.c0;have ek:((k.toNat:Nat):Int)=k:=Int.toNat_of_nonneg hk0;have HA:=Lib.hid (fun v' w' ho g=>BoW.app (k:=k.toNat) (v':=v') (w':=w') (hW.1.below ((Below.refl w.heap.size w).alloc (Nat.le_refl _) (.cells #[.string (geta L k).pl] 9))) (by rw [ek];exact hin) (by rw [ek];exact ho) g);have e1:(k+1).toNat=k.toNat+1:=by omega
 rw [←e1]at HA;have hown:=hW.1.own.alloc (.cells #[.string (geta L k).pl] 9);have hbs:w0.heap.size≤(w.alloc (.cells #[.string (geta L k).pl] 9)).heap.size:=by simp;have:=hW.1.bel.size;omega
 obtain⟨p5,c5,hv5⟩:=(Row.of_owns hW.1.own).shape;subst hv5;obtain⟨p1,c1,hv1⟩:=hs.r.shape;subst hv1;obtain⟨p2,c2,hv2⟩:=hl.r.shape;subst hv2;obtain⟨p3,c3,hv3⟩:=hf.r.shape;subst hv3;clear hW hs hl hf ek e1 hin;generalize (geta L k).pl=x at *;rw [fr_lgB,fe q0,fe q1,fe q2,fe q9,fe q11,fe q19,fe q20,fe q21];clear q0 q1 q2 q9 q11 q19 q20 q21;conv=>arg 2;whnf
 go_wp2_with (at_builtin;refine app_law rfl _ _ _ rfl hE1 hown rfl [.string x] rfl rfl (cells_new w #[_] _) (by simp [Value.oneCell']) (by omega) hbs ?_;intro v' w3 hown3 hgr)
 refine Met.intro (hS _ _ ?_);exact⟨_,hpp.out,HA.out _ _ hown3 hgr,Fr.of _ rfl ⟨rfl,rfl,rfl,rfl,rfl,rfl,rfl,trivial⟩⟩
theorem lgb_b (hs:SlH w0 vs S)(hl:ScH w0 vl L)(hf:FlH w0 vf Fs)(k:Int):T3 Tryz.prog (fun a w=>∃(v5:Value),(0≤k∧k<L.length)∧(BoW w0 L Fs v5 (k:Int).toNat w)∧Fr 37 [(0,vs),(1,vl),(2,vf),(9,v5),(19,vl),(20,.int .i64 L.length),(21,.int .i64 k)] a) (sel [1,1,1,0,1,4,4,1,1,0] lgB) (fun a w=>∃(v5:Value),(0≤k∧k<L.length)∧(BoW w0 L Fs v5 ((k+1):Int).toNat w)∧Fr 37 [(0,vs),(1,vl),(2,vf),(9,v5),(19,vl),(20,.int .i64 L.length),(21,.int .i64 k)] a) No 100 No:=by
 refine T3.block (id':=1) (c:=(sel [1,1,1,0,1,4,4,1,1,0,4] lgB)) (by decide) ?_;refine T3.seq (s:=(sel [1,1,1,0,1,4,4,1,1,0,4,0] lgB)) (c:=(sel [1,1,1,0,1,4,4,1,1,0,4,1] lgB)) ((lgb7 w0 vs vl vf S L Fs hs hl hf k).noX) (T3.ex fun v5=>T3.ex fun g7=>?_);refine T3.test (s:=(sel [1,1,1,0,1,4,4,1,1,0,4,1,0] lgB)) (x:=(sel [1,1,1,0,1,4,4,1,1,0,4,1,1,2] lgB)) (y:=.skip) (C:=fun q=>((0≤k∧k<L.length)∧q=!isInB Fs (geta L k).pl)) (W:=fun w=>BoW w0 L Fs v5 k.toNat w∧ScB w g7 (geta L k)) (by decide) ((lgb8 w0 vs vl vf S L Fs hs hl hf k v5 g7).noX) ?_ (T3.skip ?_)
 ·refine T3.pre (R:=fun a w=>(isInB Fs (geta L k).pl=false)∧(0≤k∧k<L.length)∧(BoW w0 L Fs v5 k.toNat w∧ScB w g7 (geta L k))∧Fr 37 [(0,vs),(1,vl),(2,vf),(9,v5),(11,.pointer (some ⟨g7,0,none⟩)),(19,vl),(20,.int .i64 L.length),(21,.int .i64 k)] a) (T3.pure fun hin=>(lgb9 w0 vs vl vf S L Fs hs hl hf k v5 g7 hin).noX) (fun a w q=>⟨by simpa using q.2.1.2.symm,q.2.1.1,q.2.2,q.1.tail⟩)
 ·rintro a w ⟨⟨hk,hq⟩,hW,hF⟩;refine⟨v5,hk,?_,hF.sub (by simp)⟩;rw [show(k+1).toNat=k.toNat+1 by omega];exact hW.1.step (by rw [Int.toNat_of_nonneg hk.1];simpa using hq.symm)
end
def lgbLI (w0:World)(vs vl vf:Value)(S:List SlD)(L:List ScD)(Fs:List FlD)(hs:SlH w0 vs S)(hl:ScH w0 vl L)(hf:FlH w0 vf Fs)(k:Int)(a:Act)(w:World):Prop:=(0≤k∧k≤L.length)∧∃(v5:Value),(BoW w0 L Fs v5 (k:Int).toNat w)∧Fr 37 [(0,vs),(1,vl),(2,vf),(9,v5),(19,vl),(20,.int .i64 L.length),(21,.int .i64 k)] a
section
variable (w0:World)(vs vl vf:Value)(S:List SlD)(L:List ScD)(Fs:List FlD)(hs:SlH w0 vs S)(hl:ScH w0 vl L)(hf:FlH w0 vf Fs)
theorem lgbLt (k:Int):T3 Tryz.prog (fun a w=>lgbLI w0 vs vl vf S L Fs hs hl hf k a w) (sel [1,1,1,0,1,4,4,0] lgB) (fun a w=>∃q,Fr 37 ((22,.bool q)::[(21,.int .i64 k)]) a∧((q=true↔k<L.length)∧lgbLI w0 vs vl vf S L Fs hs hl hf k a w)) No 9 No:=by
 refine T3.leaf ?_;rintro Q JS JX JT K hS hK hX hE hT hR a w ⟨hk,v5,hW,⟨fr,rfl,q0,q1,q2,q9,q19,q20,q21,_⟩⟩;have hln:=hl.n;rw [fr_lgB,fe q0,fe q1,fe q2,fe q9,fe q19,fe q20,fe q21];clear q0 q1 q2 q9 q19 q20 q21;conv=>arg 2;whnf
 by_cases hlt:k<L.length
 ·go_wp2_with fail
  refine Met.intro (hS _ _ ?_);exact⟨true,Fr.of _ rfl ⟨rfl,rfl,trivial⟩,⟨fun _=>hlt,fun _=>rfl⟩,hk,v5,hW,Fr.of _ rfl ⟨rfl,rfl,rfl,rfl,rfl,rfl,rfl,trivial⟩⟩
 ·have hpb:decide (k<(L.length:Int))=false:=by simp;omega
  go_wp2_with fail
  refine Met.intro (hS _ _ ?_);exact⟨false,Fr.of _ rfl ⟨rfl,rfl,trivial⟩,⟨(fun h=>by cases h),fun h=>absurd h (by omega)⟩,hk,v5,hW,Fr.of _ rfl ⟨rfl,rfl,rfl,rfl,rfl,rfl,rfl,trivial⟩⟩
theorem lgbLn (k:Int):T3 Tryz.prog (fun a w=>(0≤k∧k<L.length)∧∃(v5:Value),(BoW w0 L Fs v5 ((k+1):Int).toNat w)∧Fr 37 [(0,vs),(1,vl),(2,vf),(9,v5),(19,vl),(20,.int .i64 L.length),(21,.int .i64 k)] a) (sel [1,1,1,0,1,4,4,1,1,1] lgB) (fun a w=>lgbLI w0 vs vl vf S L Fs hs hl hf (k+1) a w) No 9 No:=by
 refine T3.leaf ?_;rintro Q JS JX JT K hS hK hX hE hT hR a w ⟨hk,v5,hW,⟨fr,rfl,q0,q1,q2,q9,q19,q20,q21,_⟩⟩;obtain⟨hk0,hk1⟩:=hk;have hln:=hl.n;rw [fr_lgB,fe q0,fe q1,fe q2,fe q9,fe q19,fe q20,fe q21];clear q0 q1 q2 q9 q19 q20 q21;conv=>arg 2;whnf
 go_wp2_with fail
 refine Met.intro (hS _ _ ?_);exact⟨⟨by omega,by omega⟩,v5,hW,Fr.of _ rfl ⟨rfl,rfl,rfl,rfl,rfl,rfl,rfl,trivial⟩⟩
theorem lgbLloop:T3 Tryz.prog (fun a w=>lgbLI w0 vs vl vf S L Fs hs hl hf 0 a w) (sel [1,1,1,0,1] lgB) (fun a w=>∃(v5:Value),(BoW w0 L Fs v5 L.length w)∧Fr 37 [(9,v5)] a) No 9 No:=by
 refine T3.loop (c:=(sel [1,1,1,0,1,4,4] lgB)) (fun ng_ a w=>∃k:Int,(ng_:Int)=L.length-k∧lgbLI w0 vs vl vf S L Fs hs hl hf k a w) (fun a w h=>⟨(L.length:Int).toNat,0,by have:=h.1.2;omega,h⟩) (fun ng_=>T3.ex fun k=>T3.pure fun hng_=>?_);refine T3.seq (s:=(sel [1,1,1,0,1,4,4,0] lgB)) (c:=(sel [1,1,1,0,1,4,4,1] lgB)) ((lgbLt w0 vs vl vf S L Fs hs hl hf k).noX) ?_;refine T3.seq (s:=(sel [1,1,1,0,1,4,4,1,0] lgB)) (c:=(sel [1,1,1,0,1,4,4,1,1] lgB)) (S:=fun a w=>(0≤k∧k<L.length)∧∃(v5:Value),(BoW w0 L Fs v5 (k:Int).toNat w)∧Fr 37 [(0,vs),(1,vl),(2,vf),(9,v5),(19,vl),(20,.int .i64 L.length),(21,.int .i64 k)] a) ?_ (T3.seq (s:=(sel [1,1,1,0,1,4,4,1,1,0] lgB)) (c:=(sel [1,1,1,0,1,4,4,1,1,1] lgB)) (S:=fun a w=>(0≤k∧k<L.length)∧∃(v5:Value),(BoW w0 L Fs v5 ((k+1):Int).toNat w)∧Fr 37 [(0,vs),(1,vl),(2,vf),(9,v5),(19,vl),(20,.int .i64 L.length),(21,.int .i64 k)] a) (T3.noX (T3.mono (R':=fun a w=>(0≤k∧k<L.length)∧∃(v5:Value),(BoW w0 L Fs v5 (k:Int).toNat w)∧Fr 37 [(0,vs),(1,vl),(2,vf),(9,v5),(19,vl),(20,.int .i64 L.length),(21,.int .i64 k)] a) (S':=fun a w=>(0≤k∧k<L.length)∧∃(v5:Value),(BoW w0 L Fs v5 ((k+1):Int).toNat w)∧Fr 37 [(0,vs),(1,vl),(2,vf),(9,v5),(19,vl),(20,.int .i64 L.length),(21,.int .i64 k)] a) (lgb_b w0 vs vl vf S L Fs hs hl hf k) (fun a w ⟨hk,v5,hI⟩=>⟨v5,hk,hI⟩) (fun a w ⟨v5,hk,hI⟩=>⟨hk,v5,hI⟩) (fun _ _ q=>q) (fun _ _ q=>q))) ?_)
 ·refine T3.cond (o:=.tmp 22) (x:=.skip) (y:=.exit 0) (fun a w=>k<L.length∧lgbLI w0 vs vl vf S L Fs hs hl hf k a w) (fun a w=>¬k<L.length∧lgbLI w0 vs vl vf S L Fs hs hl hf k a w) ?_ (T3.skip ?_) (T3.exit ?_)
  ·rintro a w ⟨q,hF,hq,hI⟩;have he:=hF.eval 22 (by decide) (v:=.bool q) (by simp);cases q
   ·exact .inr ⟨he,(fun h=>by have:=hq.2 h;cases this),hI⟩
   ·exact .inl ⟨he,hq.1 rfl,hI⟩
  ·rintro a w ⟨hlt,hk,hI⟩;exact⟨⟨hk.1,hlt⟩,hI⟩
  ·rintro a w ⟨hlt,hk,hI⟩;obtain rfl:k=L.length:=by omega
   obtain⟨v5,hW,hF⟩:=hI;rw [show((L.length:Nat):Int).toNat=L.length by omega]at hW;exact⟨v5,hW,hF.sub (by simp)⟩
 ·intro a w hx;have hk:=hx.1;exact(((lgbLn w0 vs vl vf S L Fs hs hl hf k).noX).post (fun a w q=>⟨ng_-1,by omega,k+1,by omega,q⟩)) a w hx
end
section
variable (w0:World)(vs vl vf:Value)(S:List SlD)(L:List ScD)(Fs:List FlD)
theorem lgb11 (hs:SlH w0 vs S)(hl:ScH w0 vl L)(hf:FlH w0 vf Fs)(v5:Value):T3 Tryz.prog (fun a w=>(BoW w0 L Fs v5 L.length w)∧Fr 37 [(9,v5)] a) (sel [1,1,1,1,0] lgB) (fun a w=>(BoW w0 L Fs v5 L.length w)∧Fr 37 [(6,v5),(7,.int .i64 0)] a) No 9 No:=by
 refine T3.leaf ?_;rintro Q JS JX JT K hS hK hX hE hT hR a w ⟨hW,⟨fr,rfl,q9,_⟩⟩;have HW:=Lib.hid hW;obtain⟨p5,c5,hv5⟩:=(Row.of_owns hW.own).shape;subst hv5;clear hW;rw [fr_lgB,fe q9];clear q9;conv=>arg 2;whnf
 go_wp2_with fail
 refine Met.intro (hS _ _ ?_);exact⟨HW.out,Fr.of _ rfl ⟨rfl,rfl,trivial⟩⟩
theorem lgb_all (hs:SlH w0 vs S)(hl:ScH w0 vl L)(hf:FlH w0 vf Fs):T3 Tryz.prog (fun a w=>(Below w0.heap.size w0 w)∧Fr 37 [(0,vs),(1,vl),(2,vf)] a) lgB No No 9 (fun a w=>∃(v5:Value) (e:Int),(e=allE S L Fs∧w.ownsRow w0.heap.size 9 1 v5 (benV S L Fs).length (cellsOf encSt (benV S L Fs))∧Below w0.heap.size w0 w)∧Fr 37 [(6,v5),(7,.int .i64 e)] a):=by
 refine T3.seq (s:=(sel [0] lgB)) (c:=(sel [1] lgB)) (T3.noT (lgb0 w0 vs vl vf S L Fs hs hl hf)) ?_;refine T3.seq (s:=(sel [1,0] lgB)) (c:=(sel [1,1] lgB)) (S:=fun a w=>(allE S L Fs=0)∧(Below w0.heap.size w0 w)∧Fr 37 [(0,vs),(1,vl),(2,vf)] a) ?_ (T3.pure fun ha=>?_)
 ·refine T3.seq (s:=(sel [1,0,0] lgB)) (c:=(sel [1,0,1] lgB)) (T3.noT (lgb1 w0 vs vl vf S L Fs hs hl hf)) ?_;refine T3.test (s:=(sel [1,0,1,0] lgB)) (x:=(sel [1,0,1,1,2] lgB)) (y:=.skip) (C:=fun q=>(q=(allE S L Fs != 0))) (W:=fun w=>Below w0.heap.size w0 w) (by decide) (T3.noT (lgb2 w0 vs vl vf S L Fs hs hl hf)) ?_ (T3.skip ?_)
  ·refine T3.pre (R:=fun a w=>(allE S L Fs≠0)∧(Below w0.heap.size w0 w)∧Fr 37 [(0,vs),(1,vl),(2,vf),(8,.int .i64 (allE S L Fs))] a) (T3.pure fun hne=>?_) (fun a w ⟨hF,hq,hW⟩=>⟨by have:=hq.symm;simpa using this,hW,hF.tail⟩);refine T3.seq (s:=(sel [1,0,1,1,2,0] lgB)) (c:=.ret) (T3.noT (lgb3 w0 vs vl vf S L Fs hs hl hf)) (T3.ret fun a w ⟨hW,hF⟩=>⟨_,_,⟨rfl,?_,hW⟩,hF⟩);unfold benV;rw [if_neg hne];exact World.ownsRow_nil _ _ _ _
  ·rintro a w ⟨hq,hW,hF⟩;exact⟨by have:=hq.symm;simpa using this,hW,hF.sub (by simp)⟩
 refine T3.seq (s:=(sel [1,1,0] lgB)) (c:=(sel [1,1,1] lgB)) (T3.noT (lgb4 w0 vs vl vf S L Fs hs hl hf)) ?_;refine T3.seq (s:=(sel [1,1,1,0] lgB)) (c:=(sel [1,1,1,1] lgB)) (T3.noT (T3.seq (s:=(sel [1,1,1,0,0] lgB)) (c:=(sel [1,1,1,0,1] lgB)) (lgb5 w0 vs vl vf S L Fs hs hl hf) (lgbLloop w0 vs vl vf S L Fs hs hl hf))) ?_;refine T3.ex fun v5=>?_
 refine T3.seq (s:=(sel [1,1,1,1,0] lgB)) (c:=.ret) (T3.noT (lgb11 w0 vs vl vf S L Fs hs hl hf v5)) (T3.ret fun a w ⟨hW,hF⟩=>⟨_,_,⟨ha.symm,?_,hW.bel⟩,hF⟩);unfold benV;rw [if_pos ha];exact hW.own
theorem benchP (hs:SlH w0 vs S)(hl:ScH w0 vl L)(hf:FlH w0 vf Fs):Calls Tryz.prog 11 #[vs,vl,vf] w0 fun e w'=>∃v5:Value,e=.returned (.tuple #[v5,.int .i64 (allE S L Fs)])∧w'.ownsRow w0.heap.size 9 1 v5 (benV S L Fs).length (cellsOf encSt (benV S L Fs))∧Below w0.heap.size w0 w':=by
 have hall:=lgb_all w0 vs vl vf S L Fs hs hl hf
 go_enter Tryz.func11,Tryz.ntmps11
 refine T3.done (s:=lgB) hall ⟨Below.refl _ _,Fr.of _ rfl ⟨rfl,rfl,rfl,trivial⟩⟩ ?_;rintro a w ⟨v5,e,⟨rfl,ho,hb⟩,fr,rfl,q6,q7,_⟩;rw [fr_lgB,fe q6,fe q7]
 go_ret2
 exact⟨v5,rfl,ho,hb⟩
end
end Go.Proofs.YtnmdpphddimfbaaGreat
/-
  cmp.Compare, slices.Compare at strings; which way of line-ups is better. Condition: at most 1000 strings.
-/
namespace Go.Proofs.YtnmdpphddimfbaaGreat
open Go.RowKit Go.Bw
theorem isNaN_str (x:ByteArray)(w:World):Calls Tryz.prog 121 #[.string x] w fun e w'=>e=.returned (.bool false)∧w=w':=by
 go_enter Tryz.func121,Tryz.ntmps121
 go_wp2_with fail
 go_ret
 exact⟨rfl,rfl⟩
def cmpB (a b:ByteArray):Int:=if Op.bytesLess a.toList b.toList=true then -1 else if(a.toList==b.toList)=true then 0 else 1
theorem compare_str (x y:ByteArray)(w:World):Calls Tryz.prog 113 #[.string x,.string y] w fun e w'=>e=.returned (.int .i64 (cmpB x y))∧w=w':=by
 have H1:=Lib.hid (isNaN_str x w);have H2:=Lib.hid (isNaN_str y w);cases h1:Op.bytesLess x.toList y.toList
 ·cases h2:(x.toList==y.toList)
  ·have HQ:=Lib.hid (show(1:Int)=cmpB x y by unfold cmpB;rw [h1,h2];rfl);have h3:(!x.toList==y.toList)=true:=by rw [h2];rfl
   clear h2
   go_enter Tryz.func113,Tryz.ntmps113
   go_wp2_with fail
   refine H1.out.mono ?_;rintro e w1 ⟨rfl,rfl⟩;go_wp2_with fail
   refine H2.out.mono ?_;rintro e w1 ⟨rfl,rfl⟩;go_wp2_with fail
   go_ret
   exact⟨ret_int HQ.out,rfl⟩
  ·have HQ:=Lib.hid (show(0:Int)=cmpB x y by unfold cmpB;rw [h1,h2];rfl);have h3:(!x.toList==y.toList)=false:=by rw [h2];rfl
   clear h2
   go_enter Tryz.func113,Tryz.ntmps113
   go_wp2_with fail
   refine H1.out.mono ?_;rintro e w1 ⟨rfl,rfl⟩;go_wp2_with fail
   refine H2.out.mono ?_;rintro e w1 ⟨rfl,rfl⟩;go_wp2_with fail
   go_ret
   exact⟨ret_int HQ.out,rfl⟩
 ·have HQ:=Lib.hid (show(-1:Int)=cmpB x y by unfold cmpB;rw [h1];rfl)
  go_enter Tryz.func113,Tryz.ntmps113
  go_wp2_with fail
  refine H1.out.mono ?_;rintro e w1 ⟨rfl,rfl⟩;go_wp2_with fail
  refine H2.out.mono ?_;rintro e w1 ⟨rfl,rfl⟩;go_wp2_with fail
  go_ret
  exact⟨ret_int HQ.out,rfl⟩
def cmpL:List ByteArray→List ByteArray→Int
 | [],[]=>0
 | [],_::_=>-1
 | _::_,[]=>1
 | a::r,b::s=>if cmpB a b≠0 then cmpB a b else cmpL r s
theorem drop_geta {α:Type} [Inhabited α] {l:List α} {k:Int} (h0:0≤k) (h1:k<l.length):l.drop k.toNat=geta l k::l.drop (k+1).toNat:=by
 have hk:k.toNat<l.length:=by omega
 rw [List.drop_eq_getElem_cons hk,geta_eq l k h0 h1,show(k+1).toNat=k.toNat+1 by omega]
set_option maxHeartbeats 2000000 in
theorem compare_strs (va vb:Value)(a b:List ByteArray)(w:World)(ha:Row w 0 1 va a.length (cellsOf encSt a))(hb:Row w 0 1 vb b.length (cellsOf encSt b))(hna:a.length≤1000)(hnb:b.length≤1000):
  Calls Tryz.prog 98 #[va,vb] w fun e w'=>e=.returned (.int .i64 (cmpL a b))∧w=w':=by
 obtain⟨p1,c1,hv1⟩:=ha.shape;subst hv1;obtain⟨p2,c2,hv2⟩:=hb.shape;subst hv2;have HA:=Lib.hid ha;have HB:=Lib.hid hb;clear ha hb
 go_enter Tryz.func98,Tryz.ntmps98
 go_wp2_with fail
 go_loopw [11] (fun i wr=>∃k:Int,0≤k∧k≤a.length∧k≤b.length∧i=.int .i64 k∧Hid (cmpL (a.drop k.toNat) (b.drop k.toNat)=cmpL a b)∧Hid (w=wr)) (fun i _=>a.length-(intOf i).toNat)
 case atStart=>exact⟨0,by omega,by omega,by omega,rfl,Lib.hid rfl,Lib.hid rfl⟩
 case round =>
  obtain⟨k,hk0,hka,hkb,rfl,hz,hw⟩:=hrel;obtain rfl:=hw.out
  by_cases hlt:k<a.length
  ·by_cases hlb:k<b.length
   ·obtain⟨z1,o1,rfl,_,_,hc1⟩:=Row.nonnil HA.out (by omega);obtain⟨z2,o2,rfl,_,_,hc2⟩:=Row.nonnil HB.out (by omega);have t1:=Row.elAt encSt_length hc1 hk0 hlt 0 _ (by decide) rfl;have t2:=Row.elAt encSt_length hc2 hk0 hlb 0 _ (by decide) rfl;rw [Nat.mul_one,Nat.add_zero]at t1 t2;have hge:¬(b.length:Int)≤k:=by omega
    have HC:=Lib.hid (compare_str (geta a k) (geta b k) w);have hd1:=drop_geta hk0 hlt;have hd2:=drop_geta hk0 hlb;have hzz:=hz.out;rw [hd1,hd2]at hzz
    by_cases he:cmpB (geta a k) (geta b k)=0
    ·have HZ:=Lib.hid (show cmpL (a.drop (k+1).toNat) (b.drop (k+1).toNat)=cmpL a b by
      rw [←hzz];show _=if cmpB (geta a k) (geta b k)≠0 then _ else _
      rw [if_neg (by simp [he])])
     rw [he]at HC;clear hc1 hc2 hd1 hd2 hzz he hz;generalize geta a k=x at *;generalize geta b k=y at *;go_wp2_with fail
     refine HC.out.mono ?_;rintro e w1 ⟨rfl,rfl⟩;go_wp2_with fail
     go_roundw
     case rel=>exact⟨k+1,by omega,by omega,by omega,rfl,HZ,Lib.hid (by first|rfl|trivial)⟩
     case measure=>simp [intOf];omega
    ·have HQ:=Lib.hid (show cmpB (geta a k) (geta b k)=cmpL a b by
      rw [←hzz];show _=if cmpB (geta a k) (geta b k)≠0 then _ else _
      rw [if_pos he])
     have hne:(cmpB (geta a k) (geta b k) != 0)=true:=by simpa using he
     clear hc1 hc2 hd1 hd2 hzz he hz;generalize cmpB (geta a k) (geta b k)=cc at *;generalize geta a k=x at *;generalize geta b k=y at *;go_wp2_with fail
     refine HC.out.mono ?_;rintro e w1 ⟨rfl,rfl⟩;go_wp2_with fail
     go_ret
     exact⟨ret_int HQ.out,rfl⟩
   ·obtain⟨z1,o1,rfl,_,_,hc1⟩:=Row.nonnil HA.out (by omega);have t1:=Row.elAt encSt_length hc1 hk0 hlt 0 _ (by decide) rfl;rw [Nat.mul_one,Nat.add_zero]at t1;have hd1:=drop_geta hk0 hlt;have hzz:=hz.out;rw [hd1,show b.drop k.toNat=[]from List.drop_of_length_le (by omega)]at hzz;have HQ:=Lib.hid (show(1:Int)=cmpL a b from hzz);have hge:(b.length:Int)≤k:=by omega
    clear hc1 hd1 hzz hz;generalize geta a k=x at *;go_wp2_with fail
    go_ret
    exact⟨ret_int HQ.out,rfl⟩
  ·have hzz:=hz.out;rw [show a.drop k.toNat=[]from List.drop_of_length_le (by omega)]at hzz
   by_cases hl:a.length<b.length
   ·have HQ:=Lib.hid (show(-1:Int)=cmpL a b by
     rw [←hzz,drop_geta hk0 (by omega)];rfl)
    clear hz hzz;go_wp2_with fail
    go_ret
    exact⟨ret_int HQ.out,rfl⟩
   ·have HQ:=Lib.hid (show(0:Int)=cmpL a b by
     rw [←hzz,show b.drop k.toNat=[]from List.drop_of_length_le (by omega)];rfl)
    clear hz hzz;go_wp2_with fail
    go_ret
    exact⟨ret_int HQ.out,rfl⟩
end Go.Proofs.YtnmdpphddimfbaaGreat
/-
  The reference's ways of line-ups, in plain words; which way is better; they bring as much as the program's fills. Condition: points are right.
-/
namespace Go.Proofs.YtnmdpphddimfbaaGreat
open Go.RowKit Go.Bw
/-- A way of line-ups: the sum, how many, who. -/
structure LuR where
 sum:Int
 many:Int
 who:List ByteArray
def betterB (x y:LuR):Bool:=if x.sum≠y.sum then decide (y.sum<x.sum)else if x.many≠y.many then decide (x.many<y.many)else decide (cmpL x.who y.who<0)
/-- The best of some ways, from a first one on. -/
def luTo (c:Nat→Bool)(y:Nat→LuR)(b:LuR):Nat→LuR
 | 0=>b
 | k+1=>if c k=true then(if betterB (y k) (luTo c y b k)=true then y k else luTo c y b k)else luTo c y b k
def posK (L:List ScD)(k:Nat):Bool:=decide (0<(geta L (k:Int)).num)
def fitP (S:List SlD)(L:List ScD)(k i:Nat):Bool:=fitK S L k i&&posK L k
def luY (L:List ScD)(x:LuR)(k:Nat):LuR:=⟨x.sum+hnK L k,x.many+1,(geta L (k:Int)).pl::x.who⟩
def luZ (x:LuR):LuR:=⟨x.sum,x.many,⟨#[]⟩::x.who⟩
def luS (S:List SlD)(L:List ScD):Nat→Nat→(Nat→Bool)→LuR
 | 0,_,_=>⟨0,0,[]⟩
 | r+1,i,U=>luTo (fun k=>!U k&&fitP S L k i) (fun k=>luY L (luS S L r (i+1) (updU U k)) k) (luZ (luS S L r (i+1) U)) L.length
theorem better_ge {x y:LuR}(h:betterB x y=true):y.sum≤x.sum:=by
 unfold betterB at h
 split at h
 ·have:=of_decide_eq_true h;omega
 ·rename_i e
  simp only [ne_eq,Decidable.not_not]at e;omega
theorem better_le {x y:LuR}(h:¬betterB x y=true):x.sum≤y.sum:=by
 unfold betterB at h
 split at h
 ·rename_i e
  simp only [decide_eq_true_eq]at h;omega
 ·rename_i e
  simp only [ne_eq,Decidable.not_not]at e;omega
section
variable {c:Nat→Bool}{y:Nat→LuR}{b:LuR}
theorem luTo_ge:∀ n,b.sum≤(luTo c y b n).sum
 | 0=>Int.le_refl _
 | n+1=>by
  have:=luTo_ge n;unfold luTo
  split
  ·split
   ·rename_i h;have:=better_ge h;omega
   ·omega
  ·omega
theorem luTo_le {k:Nat}(hc:c k=true):∀n,k<n→(y k).sum≤(luTo c y b n).sum
 | 0,h=>by omega
 | n+1,h=>by
  unfold luTo
  by_cases e:k=n
  ·subst e;rw [if_pos hc]
   split
   ·exact Int.le_refl _
   ·rename_i h;exact better_le h
  ·have:=luTo_le hc n (by omega)
   split
   ·split
    ·rename_i h;have:=better_ge h;omega
    ·omega
   ·omega
theorem luTo_at:∀ n,(luTo c y b n).sum=b.sum∨∃k,k<n∧c k=true∧(luTo c y b n).sum=(y k).sum
 | 0=>.inl rfl
 | n+1=>by
  have ih:=luTo_at n;have up:((luTo c y b n).sum=b.sum∨∃k,k<n∧c k=true∧(luTo c y b n).sum=(y k).sum)→((luTo c y b n).sum=b.sum∨∃k,k<n+1∧c k=true∧(luTo c y b n).sum=(y k).sum):=by
   rintro(h|⟨k,h1,h2,h3⟩)
   ·exact .inl h
   ·exact .inr ⟨k,by omega,h2,h3⟩
  unfold luTo
  split
  ·rename_i hc
   split
   ·exact .inr ⟨n,by omega,hc,rfl⟩
   ·exact up ih
  ·exact up ih
end
theorem luS_max (S:List SlD)(L:List ScD):∀r i U,IsMax (fitP S L) (hnK L) (fun s=>i≤s∧s<i+r) (fun k=>k<L.length∧U k=false) (luS S L r i U).sum
 | 0,i,U=>IsMax.noT (fun s h=>by omega)
 | r+1,i,U=>by
  have h0:=luS_max S L r (i+1) U;refine(IsMax.slot (i:=i) (vk:=fun k=>(luS S L r (i+1) (updU U k)).sum) (v:=(luS S L (r+1) i U).sum) h0 (by omega) (fun k hk hf=>?_) (luTo_ge _) (fun k hk hf=>?_) ?_).congr (fun j=>by omega) (fun _=>Iff.rfl)
  ·refine(luS_max S L r (i+1) (updU U k)).congr (fun _=>Iff.rfl) (fun j=>?_);unfold updU;simp only [Bool.or_eq_false_iff,decide_eq_false_iff_not];constructor
   ·rintro⟨a,b,c⟩;exact⟨⟨a,b⟩,c⟩
   ·rintro⟨⟨a,b⟩,c⟩;exact⟨a,b,c⟩
  ·exact luTo_le (c:=fun k=>!U k&&fitP S L k i) (y:=fun k=>luY L (luS S L r (i+1) (updU U k)) k) (by simp [hk.2,hf]) L.length hk.1
  ·rcases luTo_at (c:=fun k=>!U k&&fitP S L k i) (y:=fun k=>luY L (luS S L r (i+1) (updU U k)) k) (b:=luZ (luS S L r (i+1) U)) L.length with h|⟨k,h1,h2,h3⟩
   ·exact .inl h
   ·simp only [Bool.and_eq_true,Bool.not_eq_true']at h2;exact .inr ⟨k,⟨h1,h2.1⟩,h2.2,h3⟩
theorem luTo_who {c:Nat→Bool}{y:Nat→LuR}{b:LuR}{p:LuR→Prop}(hb:p b)(hy:∀k,p (y k)):∀n,p (luTo c y b n)
 | 0=>hb
 | n+1=>by
  have ih:=luTo_who (c:=c) hb hy n;unfold luTo
  split
  ·split
   ·exact hy n
   ·exact ih
  ·exact ih
theorem luS_len (S:List SlD)(L:List ScD):∀r i U,(luS S L r i U).who.length=r
 | 0,i,U=>rfl
 | r+1,i,U=>by
  refine luTo_who (p:=fun x=>x.who.length=r+1) ?_ (fun k=>?_) L.length
  ·show(⟨#[]⟩::(luS S L r (i+1) U).who).length=r+1;rw [List.length_cons,luS_len S L r]
  ·show(_::(luS S L r (i+1) (updU U k)).who).length=r+1;rw [List.length_cons,luS_len S L r]
theorem luS_many (S:List SlD)(L:List ScD):∀r i U,0≤(luS S L r i U).many∧(luS S L r i U).many≤r
 | 0,i,U=>by show(0:Int)≤0∧_;simp [luS]
 | r+1,i,U=>by
  refine luTo_who (p:=fun x=>0≤x.many∧x.many≤((r+1:Nat):Int)) ?_ (fun k=>?_) L.length
  ·have:=luS_many S L r (i+1) U;show 0≤(luS S L r (i+1) U).many∧(luS S L r (i+1) U).many≤_;omega
  ·have:=luS_many S L r (i+1) (updU U k);show 0≤(luS S L r (i+1) (updU U k)).many+1∧(luS S L r (i+1) (updU U k)).many+1≤_;omega
/-- Sums are small. -/
theorem luS_b {S:List SlD}{L:List ScD}(hp:ScP L):∀r i U,0≤(luS S L r i U).sum∧(luS S L r i U).sum≤1000000*r
 | 0,i,U=>by show(0:Int)≤0∧_;simp [luS]
 | r+1,i,U=>by
  refine⟨(luS_max S L (r+1) i U).nonneg,?_⟩;rcases luTo_at (c:=fun k=>!U k&&fitP S L k i) (y:=fun k=>luY L (luS S L r (i+1) (updU U k)) k) (b:=luZ (luS S L r (i+1) U)) L.length with h|⟨k,h1,h2,h3⟩
  ·have:=luS_b hp (S:=S) r (i+1) U;show(luTo _ _ _ L.length).sum≤_;rw [h];show(luS S L r (i+1) U).sum≤_;omega
  ·have:=luS_b hp (S:=S) r (i+1) (updU U k);have:=hp.hnK h1;show(luTo _ _ _ L.length).sum≤_;rw [h3];show(luS S L r (i+1) (updU U k)).sum+hnK L k≤_;omega
/-- As many pairs as slots at most. -/
theorem Mt.len {fit:Nat→Nat→Bool}:∀(r i:Nat) (K:Nat→Prop) (ps:List (Nat×Nat)),Mt fit (fun s=>i≤s∧s<i+r) K ps→ps.length≤r
 | 0,i,K,ps,h=>by
  cases ps with
  | nil=>exact Nat.le_refl _
  | cons p ps=>have:=(h.f p (by simp)).1;omega
 | r+1,i,K,ps,h=>by
  by_cases hu:∃k,(i,k)∈ps
  ·obtain⟨k,hu⟩:=hu;have h1:=Mt.len r (i+1) _ _ ((h.erase hu).mono (T':=fun s=>i+1≤s∧s<i+1+r) (fun s hs=>by omega) (fun _ q=>q));rw [List.length_erase_of_mem hu]at h1;omega
  ·have h1:=Mt.len r (i+1) K ps ⟨fun p hp=>⟨by
    have h2:=(h.f p hp).1;have h3:p.1≠i:=fun e=>hu ⟨p.2,by rw [←e];exact hp⟩
    omega,(h.f p hp).2⟩,h.a,h.b,h.n⟩
   omega
theorem valM_wK (L:List ScD):∀ps:List (Nat×Nat),valM (wK L) ps=64*valM (hnK L) ps-ps.length
 | []=>rfl
 | p::ps=>by
  have:=valM_wK L ps;show wK L p.2+valM (wK L) ps=64*(hnK L p.2+valM (hnK L) ps)-((ps.length+1:Nat):Int);have hw:wK L p.2=64*hnK L p.2-1:=rfl;omega
theorem valM_filter {L:List ScD}(hneg:∀k,k<L.length→posK L k=false→hnK L k≤0):∀ps:List (Nat×Nat),(∀p∈ps,p.2<L.length)→valM (hnK L) ps≤valM (hnK L) (ps.filter fun p=>posK L p.2)
 | [],_=>Int.le_refl _
 | p::ps,h=>by
  have ih:=valM_filter hneg ps (fun q hq=>h q (List.mem_cons_of_mem _ hq));rw [List.filter_cons];cases hp:posK L p.2
  ·have:=hneg p.2 (h p (by simp)) hp;show hnK L p.2+valM (hnK L) ps≤_;simp only [Bool.false_eq_true,if_false];omega
  ·simp only [if_true];show hnK L p.2+valM (hnK L) ps≤hnK L p.2+_;omega
theorem hn_neg {L:List ScD}(hp:ScP L){k:Nat}(hk:k<L.length)(h:posK L k=false):hnK L k≤0:=by
 have h1:=hp.h _ (geta_mem (l:=L) (i:=(k:Int)) (by omega) (by omega));unfold posK at h;have h2:¬0<(geta L (k:Int)).num:=of_decide_eq_false h;have h3:0≤100 / (geta L (k:Int)).den:=Int.ediv_nonneg (by decide) (by omega);unfold hnK hund;exact Int.mul_nonpos_of_nonpos_of_nonneg (by omega) h3
/-- The program's fills bring what the reference's best way brings. -/
theorem best_sum {S:List SlD}{L:List ScD}(hp:ScP L)(hS:S.length≤12):valM (hnK L) (pairsF 0 (grF S L S.length 0 (fun _=>false)))=(luS S L S.length 0 (fun _=>false)).sum:=by
 obtain⟨hm,hv⟩:=greed_mt (fitK S L) (wK L) L.length S.length 0 (fun _=>false);have hM:=luS_max S L S.length 0 (fun _=>false);have hV:=slotV_max (fitK S L) (wK L) L.length S.length 0 (fun _=>false);obtain⟨qs,h1,h2⟩:=hM.at_;have hq:Mt (fitK S L) (fun s=>0≤s∧s<0+S.length) (fun k=>k<L.length∧(fun _=>false) k=false) qs:=by
  refine⟨fun p hp=>⟨(h1.f p hp).1,(h1.f p hp).2.1,?_⟩,h1.a,h1.b,h1.n⟩;have:=(h1.f p hp).2.2;unfold fitP at this;rw [Bool.and_eq_true]at this;exact this.1
 have h3:=hV.le qs hq;rw [←hv,valM_wK,valM_wK,h2]at h3;have h4:=Mt.len S.length 0 _ qs hq;have h5:valM (hnK L) (pairsF 0 (greedF (fitK S L) (wK L) L.length S.length 0 (fun _=>false)))≤(luS S L S.length 0 (fun _=>false)).sum:=by
  refine Int.le_trans (valM_filter (fun k hk h=>hn_neg hp hk h) _ (fun p hp=>(hm.f p hp).2.1.1)) (hM.le _ ⟨fun p hq=>?_,fun p hp q hq=>hm.a p (List.mem_filter.1 hp).1 q (List.mem_filter.1 hq).1,fun p hp q hq=>hm.b p (List.mem_filter.1 hp).1 q (List.mem_filter.1 hq).1,hm.n.filter _⟩);obtain⟨h6,h7⟩:=List.mem_filter.1 hq;obtain⟨a,b,c⟩:=hm.f p h6;exact⟨a,b,by unfold fitP;rw [c,h7];rfl⟩
 unfold grF;omega
def sumL (L:List ScD)(cap:ByteArray):List FlD→Int
 | []=>0
 | x::F=>valF L cap x+sumL L cap F
theorem sumK_cons (L:List ScD)(cap:ByteArray)(x:FlD)(F:List FlD):∀n:Nat,sumK L (x::F) cap (n+1)=valF L cap x+sumK L F cap n
 | 0=>by simp [sumK,geta]
 | n+1=>by
  have ih:=sumK_cons L cap x F n;show sumK L (x::F) cap (n+1)+valF L cap (geta (x::F) ((n+1:Nat):Int))=valF L cap x+(sumK L F cap n+valF L cap (geta F (n:Int)));rw [ih];have e:geta (x::F) ((n+1:Nat):Int)=geta F (n:Int):=by
   unfold geta;rw [Int.toNat_natCast,Int.toNat_natCast,List.getElem?_cons_succ]
  rw [e];omega
theorem sumK_sumL (L:List ScD)(cap:ByteArray):∀F:List FlD,sumK L F cap F.length=sumL L cap F
 | []=>rfl
 | x::F=>by rw [List.length_cons,sumK_cons,sumK_sumL L cap F];rfl
theorem sumL_fills {S:List SlD}{L:List ScD}(hr:ScRise L)(hsc:scorersE L=0):∀(l:List (Option Nat)) (i:Nat),(∀k,some k∈l→k<L.length)→sumL L ⟨#[]⟩ (fillsOf S L i l)=valM (hnK L) (pairsF i l)
 | [],_,_=>rfl
 | none::l,i,h=>by
  have ih:=sumL_fills (S:=S) hr hsc l (i+1) (fun k hk=>h k (List.mem_cons_of_mem _ hk));show valF L ⟨#[]⟩ ⟨(geta S (i:Int)).key,⟨#[]⟩⟩+sumL L ⟨#[]⟩ (fillsOf S L (i+1) l)=valM (hnK L) (pairsF (i+1) l);rw [ih,show valF L ⟨#[]⟩ ⟨(geta S (i:Int)).key,⟨#[]⟩⟩=0 from if_pos rfl];omega
 | some k::l,i,h=>by
  have ih:=sumL_fills (S:=S) hr hsc l (i+1) (fun k hk=>h k (List.mem_cons_of_mem _ hk));have hk:=h k (by simp);have hne:=pl_ne hsc hk;show valF L ⟨#[]⟩ ⟨(geta S (i:Int)).key,(geta L (k:Int)).pl⟩+sumL L ⟨#[]⟩ (fillsOf S L (i+1) l)=hnK L k+valM (hnK L) (pairsF (i+1) l);have hv:valF L ⟨#[]⟩ ⟨(geta S (i:Int)).key,(geta L (k:Int)).pl⟩=hnK L k:=by
   unfold valF;rw [if_neg hne,if_neg (show ¬(geta L (k:Int)).pl=(⟨#[]⟩:ByteArray)from hne)];unfold hxS hnK;rw [show scIdx L (⟨(geta S (i:Int)).key,(geta L (k:Int)).pl⟩:FlD).pl=(k:Int)from scIdx_at hr hk]
  rw [ih,hv]
/-- What is left. -/
theorem left_eq {S:List SlD}{L:List ScD}{F:List FlD}(g:AlG S L F)(hS:S.length≤12):leftK S L F=(luS S L S.length 0 (fun _=>false)).sum-sumK L F ⟨#[]⟩ F.length:=by
 unfold leftK;rw [sumK_sumL L _ (bestF S L),←best_sum (scp_of g.sc) hS];unfold bestF;rw [sumL_fills (rise_of g.sc) g.sc _ 0 (fun k hk=>by
  obtain⟨j,hj⟩:=pairs_mem _ 0 k hk;exact((greed_mt (fitK S L) (wK L) L.length S.length 0 (fun _=>false)).1.f _ hj).2.1.1)]
theorem better_ref (x y:LuR)(sx sy:Value)(w:World)(hx:Row w 0 1 sx x.who.length (cellsOf encSt x.who))(hy:Row w 0 1 sy y.who.length (cellsOf encSt y.who))(hnx:x.who.length≤1000)(hny:y.who.length≤1000):
  Calls Tryz.prog 62 #[.agg #[.int .i64 x.sum,.int .i64 x.many,sx],.agg #[.int .i64 y.sum,.int .i64 y.many,sy]] w fun e w'=>e=.returned (.bool (betterB x y))∧Below w.heap.size w w':=by
 obtain⟨x1,x2,x3⟩:=x;obtain⟨y1,y2,y3⟩:=y;simp only at hx hy hnx hny ⊢;obtain⟨p1,c1,hv1⟩:=hx.shape;subst hv1;obtain⟨p2,c2,hv2⟩:=hy.shape;subst hv2;have hw1:=(Below.refl w.heap.size w).alloc (Nat.le_refl _) (.cells #[.int .i64 x1,.int .i64 x2,.slice p1 x3.length c1] 103);have hw2:=hw1.alloc (by simp) (.cells #[.int .i64 y1,.int .i64 y2,.slice p2 y3.length c2] 103);have HC:=Lib.hid (compare_strs (.slice p1 x3.length c1) (.slice p2 y3.length c2) x3 y3 _ (hx.below hw2) (hy.below hw2) hnx hny);have HW:=Lib.hid hw2;have hb1:=(Below.refl (w.alloc (.cells #[.int .i64 x1,.int .i64 x2,.slice p1 x3.length c1] 103)).heap.size (w.alloc (.cells #[.int .i64 x1,.int .i64 x2,.slice p1 x3.length c1] 103))).alloc (Nat.le_refl _) (.cells #[.int .i64 y1,.int .i64 y2,.slice p2 y3.length c2] 103);have k0:=(hb1.cell (p:=⟨w.heap.size,0,none⟩) (by simp)).trans (cells_new w #[.int .i64 x1,.int .i64 x2,.slice p1 x3.length c1] 103 0 _ rfl);have k1:=(hb1.cell (p:=⟨w.heap.size,1,none⟩) (by simp)).trans (cells_new w #[.int .i64 x1,.int .i64 x2,.slice p1 x3.length c1] 103 1 _ rfl);have k2:=(hb1.cell (p:=⟨w.heap.size,2,none⟩) (by simp)).trans (cells_new w #[.int .i64 x1,.int .i64 x2,.slice p1 x3.length c1] 103 2 _ rfl);have m0:=cells_at (w.alloc (.cells #[.int .i64 x1,.int .i64 x2,.slice p1 x3.length c1] 103)) #[.int .i64 y1,.int .i64 y2,.slice p2 y3.length c2] 103 (w.heap.size+1) (by simp) 0 _ rfl;have m1:=cells_at (w.alloc (.cells #[.int .i64 x1,.int .i64 x2,.slice p1 x3.length c1] 103)) #[.int .i64 y1,.int .i64 y2,.slice p2 y3.length c2] 103 (w.heap.size+1) (by simp) 1 _ rfl;have m2:=cells_at (w.alloc (.cells #[.int .i64 x1,.int .i64 x2,.slice p1 x3.length c1] 103)) #[.int .i64 y1,.int .i64 y2,.slice p2 y3.length c2] 103 (w.heap.size+1) (by simp) 2 _ rfl;clear hx hy hw1 hw2 hb1 hnx hny
 by_cases h1:x1=y1
 ·by_cases h2:x2=y2
  ·have HQ:=Lib.hid (show decide (cmpL x3 y3<0)=betterB ⟨x1,x2,x3⟩ ⟨y1,y2,y3⟩by unfold betterB;simp [h1,h2]);subst h1;subst h2;generalize cmpL x3 y3=cc at *;generalize betterB ⟨x1,x2,x3⟩ ⟨x1,x2,y3⟩=bb at *
   go_enter Tryz.func62,Tryz.ntmps62
   go_wp2_with fail
   refine HC.out.mono ?_;rintro e w1 ⟨rfl,rfl⟩;go_wp2_with fail
   go_ret
   exact⟨ret_bool HQ.out,HW.out⟩
  ·have HQ:=Lib.hid (show decide (x2<y2)=betterB ⟨x1,x2,x3⟩ ⟨y1,y2,y3⟩by unfold betterB;simp [h1,h2]);have hne:(x2 != y2)=true:=by simpa using h2
   subst h1;clear h2 HC;generalize betterB ⟨x1,x2,x3⟩ ⟨x1,y2,y3⟩=bb at *
   go_enter Tryz.func62,Tryz.ntmps62
   go_wp2_with fail
   go_ret
   exact⟨ret_bool HQ.out,HW.out⟩
 ·have HQ:=Lib.hid (show decide (y1<x1)=betterB ⟨x1,x2,x3⟩ ⟨y1,y2,y3⟩by unfold betterB;simp [h1]);have hne:(x1 != y1)=true:=by simpa using h1
  clear h1 HC;generalize betterB ⟨x1,x2,x3⟩ ⟨y1,y2,y3⟩=bb at *
  go_enter Tryz.func62,Tryz.ntmps62
  go_wp2_with fail
  go_ret
  exact⟨ret_bool HQ.out,HW.out⟩
end Go.Proofs.YtnmdpphddimfbaaGreat
/-
  The map of the reference's best ways, while it fills. No condition.
-/
namespace Go.Proofs.YtnmdpphddimfbaaGreat
open Go.RowKit Go.Bw Go.Maps Go.ChangeMaps Go.MapKept
open Go.WideElems (Fit)
theorem arr_key:Go.WideMaps.ArrKey Tryz.prog 105 3 2:=⟨by kernel_rfl,by kernel_rfl,by kernel_rfl,by kernel_rfl⟩
theorem arr_keyed:Keyed Tryz.prog 105:=Keyed.of_law arr_key.law
theorem und_memo:Tryz.prog.underlying 100=some (.map 105 103):=by kernel_rfl
def keyV (i u:Nat):Value:=.agg #[.int .i64 (i:Int),.int .i64 (u:Int)]
theorem key_some:∀ i:Nat,i<5→∀u:Nat,u<64→(keyOf Tryz.prog 105 (keyV i u)).isSome=true:=by decide +kernel
theorem key_ok {i u:Nat}(hi:i<5)(hu:u<64):∃kl,keyOf Tryz.prog 105 (keyV i u)=some kl:=Option.isSome_iff_exists.1 (key_some i hi u hu)
theorem keyV_inj {i u i' u':Nat}(h:keyV i u=keyV i' u'):i=i'∧u=u':=by
 unfold keyV at h;simp at h;omega
/-- A way in memory. -/
def LuV (m:Nat)(w:World)(x:LuR)(v:Value):Prop:=∃sv,v=.agg #[.int .i64 x.sum,.int .i64 x.many,sv]∧RHd 9 m w.heap.size w x.who.length sv (cellsOf encSt x.who)
def bitU (u:Nat):Nat→Bool:=fun j=>u.testBit j
def luM (S:List SlD)(L:List ScD)(i u:Nat):LuR:=luS S L (S.length-i) i (bitU u)
def memR:Value→Option (DataW Unit×List MemPlace):=fun _=>some (.nil,[])
/-- The map: each entry is the best way of its key. -/
def MapL (w:World)(m n:Nat)(S:List SlD)(L:List ScD):Prop :=
 ∃es clock,w.heap[m]?=some (.map es clock)∧Fit Tryz.prog 105 memR es clock∧es.size≤n∧∀e∈es.toList,∃i u:Nat,e.key=keyV i u∧LuV m w (luM S L i u) e.val
/-- Block m is a map. -/
def IsM (w:World)(m:Nat):Prop:=∃es clock,w.heap[m]?=some (.map es clock)
theorem MapL.ism {w:World}{m n:Nat}{S:List SlD}{L:List ScD}(h:MapL w m n S L):IsM w m:=by
 obtain⟨es,cl,h,_⟩:=h;exact⟨es,cl,h⟩
section
variable {w w':World}{m n:Nat}{S:List SlD}{L:List ScD}
theorem IsM.cell (h:IsM w m){A i:Nat}{v:Value}(hc:w.cell? ⟨A,i,none⟩=some v):A≠m:=by
 obtain⟨es,cl,hb⟩:=h;rintro rfl;simp [World.cell?,hb]at hc
theorem IsM.keep (h:IsM w m)(g:w.grownBy w' (some m)){A i:Nat}{v:Value}(hc:w.cell? ⟨A,i,none⟩=some v):w'.cell? ⟨A,i,none⟩=some v :=
 (World.cell?_of_block (a:=⟨A,i,none⟩) (g.block A (World.block_lt_of_cell? w _ hc) (fun e=>h.cell hc (by cases e;rfl)))).trans hc
theorem IsM.row (h:IsM w m)(g:w.grownBy w' (some m)){sz n:Nat}{v:Value}{cs:List Value}(hr:Row w 0 sz v n cs):Row w' 0 sz v n cs:=by
 refine⟨hr.1,?_⟩;rcases hr.2 with h2|⟨b,off,cap,rfl,hb,hl,hn,hc,hcell⟩
 ·exact .inl h2
 ·exact .inr ⟨b,off,cap,rfl,hb,Nat.lt_of_lt_of_le hl g.size,hn,hc,fun i u hu=>h.keep g (hcell i u hu)⟩
theorem LuV.keep {x:LuR}{v:Value}(hv:LuV m w x v)(g:w.grownBy w' (some m)):LuV m w' x v:=by
 obtain⟨sv,e,hr⟩:=hv;exact⟨sv,e,(hr.str g).mono g.size⟩
theorem LuV.below {x:LuR}{v:Value}(hv:LuV m w x v)(g:Below w.heap.size w w'):LuV m w' x v:=by
 obtain⟨sv,e,hr⟩:=hv;exact⟨sv,e,(hr.under g).mono g.size⟩
/-- Growth beside the map. -/
theorem MapL.below (h:MapL w m n S L)(g:Below w.heap.size w w'):MapL w' m n S L:=by
 have hm:=h.ism;obtain⟨es,cl,hb,F,hs,he⟩:=h;have hlt:m<w.heap.size:=(Array.getElem?_eq_some_iff.1 hb).1;have gr:=grown_of_below (row:=none) g;refine⟨es,cl,(gr.block m hlt (by simp)).trans hb,F,hs,fun e h1=>?_⟩;obtain⟨i,u,h2,h3⟩:=he e h1;exact⟨i,u,h2,h3.below g⟩
theorem MapL.mono {n':Nat}(h:MapL w m n S L)(hn:n≤n'):MapL w m n' S L:=by
 obtain⟨es,cl,hb,F,hs,he⟩:=h;exact⟨es,cl,hb,F,Nat.le_trans hs hn,he⟩
theorem MapL.made (w:World):MapL (w.alloc (.map #[] 0)) w.heap.size 0 S L:=by
 obtain⟨es,cl,hb,F,hs,_⟩:=World.ownsMap_made w Tryz.prog 105 memR;have:es.size=0:=by omega
 have he:es=#[]:=Array.eq_empty_of_size_eq_zero this;subst he;exact⟨#[],cl,hb,F,Nat.le_refl _,fun e h1=>by simp at h1⟩
theorem zero_lu (w:World):(zeroValue 103).run Tryz.prog w=.ok (.agg #[.int .i64 0,.int .i64 0,.slice none 0 0]) w:=by kernel_rfl
theorem MapL.look (h:MapL w m n S L){i u:Nat}(hi:i<5)(hu:u<64):
  (Instr.lookup 100 (.map (some m)) (keyV i u) true).run Tryz.prog w=.ok (.tuple #[.agg #[.int .i64 0,.int .i64 0,.slice none 0 0],.bool false]) w ∨
  ∃v,LuV m w (luM S L i u) v∧(Instr.lookup 100 (.map (some m)) (keyV i u) true).run Tryz.prog w=.ok (.tuple #[v,.bool true]) w:=by
 obtain⟨es,cl,hb,F,hs,he⟩:=h;obtain⟨kl,hkey⟩:=key_ok hi hu;rcases Maps.fit_look true arr_keyed und_memo (zero_lu w) hb F hkey with ⟨hrun,_,_⟩|⟨e0,y,h1,h2,hrun,_,_,_⟩
 ·exact .inl hrun
 ·obtain⟨i',u',h3,h4⟩:=he e0 h1;rw [h2]at h3;obtain⟨rfl,rfl⟩:=keyV_inj h3;exact .inr ⟨e0.val,h4,hrun⟩
theorem MapL.store (h:MapL w m n S L){i u:Nat}(hi:i<5)(hu:u<64)(hn:n≤1000000){v:Value}(hv:LuV m w (luM S L i u) v):
  ∃w',(Instr.mapUpdate 100 (.map (some m)) (keyV i u) v).run Tryz.prog w=.ok () w'∧MapL w' m (n+1) S L∧w.grownBy w' (some m):=by
 obtain⟨es,cl,hb,F,hs,he⟩:=h;obtain⟨kl,hkey⟩:=key_ok hi hu;obtain⟨es',clock',hrun,F',hput,_,_,hall⟩:=Maps.fit_store (R':=memR) arr_keyed und_memo hb F (by unfold maxLen;omega) (fun _ _ _ _ hz=>hz) hkey (yv:=(.nil,[])) rfl;have gr:w.grownBy (setBlock w m (.map es' clock')) (some m):=⟨rfl,rfl,rfl,by simp [setBlock],fun i _ hi=>heap_setBlock_other hb _ (fun e=>hi (by rw [e]))⟩
 refine⟨_,hrun,⟨es',clock',heap_setBlock_same hb _,F',?_,fun e h1=>?_⟩,gr⟩
 ·have e1:es'.size=((es'.toList.map (Go.WideElems.rg Tryz.prog 105 memR)).foldr DataW.insert []).length:=by rw [length_sorted];simp
  rw [e1,hput];unfold putKey;rw [length_insert];have e2:=List.length_filter_le (notKey kl) ((es.toList.map (Go.WideElems.rg Tryz.prog 105 memR)).foldr DataW.insert []);rw [length_sorted]at e2;simp at e2;omega
 ·rcases hall e h1 with ⟨h2,_⟩|⟨h2,h3⟩
  ·obtain⟨i',u',h4,h5⟩:=he e h2;exact⟨i',u',h4,h5.keep gr⟩
  ·exact⟨i,u,h2,by rw [h3];exact hv.keep gr⟩
/-- A store into a row of another type. -/
theorem MapL.other (h:MapL w m n S L){base e sz k:Nat}{v:Value}{xs:List Value}(ho:w.ownsRow base e sz v k xs)(he:9≠e)(hb:m<base)(g:w.grownBy w' v.ownBlock):MapL w' m n S L:=by
 obtain⟨es,cl,hb',F,hs,hen⟩:=h;have hlt:m<w.heap.size:=(Array.getElem?_eq_some_iff.1 hb').1;refine⟨es,cl,(g.block m hlt (fun q=>by have:=(ho.lt m q.symm).1;omega)).trans hb',F,hs,fun x hx=>?_⟩;obtain⟨i,u,h2,sv,h3,h4⟩:=hen x hx;exact⟨i,u,h2,sv,h3,(h4.other ho he g).mono g.size⟩
/-- The cells of a box of a way. -/
structure Bx3 (m:Nat)(w:World)(g:Nat)(x:LuR)(sv:Value):Prop where
 c0:w.cell? ⟨g,0,none⟩=some (.int .i64 x.sum)
 c1:w.cell? ⟨g,1,none⟩=some (.int .i64 x.many)
 c2:w.cell? ⟨g,2,none⟩=some sv
 r:RHd 9 m w.heap.size w x.who.length sv (cellsOf encSt x.who)
theorem Bx3.below {g:Nat}{x:LuR}{sv:Value}(h:Bx3 m w g x sv)(b:Below w.heap.size w w'):Bx3 m w' g x sv :=
 ⟨(b.cell (World.block_lt_of_cell? w _ h.c0)).trans h.c0,(b.cell (World.block_lt_of_cell? w _ h.c1)).trans h.c1,(b.cell (World.block_lt_of_cell? w _ h.c2)).trans h.c2,(h.r.under b).mono b.size⟩
/-- A box of the call's own, that holds a way. -/
structure BxO (m base:Nat)(w:World)(g:Nat)(x:LuR)(sv:Value):Prop where
 o:w.ownsRow base 103 3 (.slice (some ⟨g,0,none⟩) 1 1) 1 [.int .i64 x.sum,.int .i64 x.many,sv]
 r:RHd 9 m w.heap.size w x.who.length sv (cellsOf encSt x.who)
section
variable {base g:Nat}{x:LuR}{sv:Value}
theorem BxO.b (h:BxO m base w g x sv):Bx3 m w g x sv:=by
 rcases(Row.of_owns h.o).2 with ⟨h0,_⟩|⟨g',off,cap,hv,_,_,_,_,hc⟩
 ·cases h0
 ·simp only [Value.slice.injEq,Option.some.injEq,Addr.mk.injEq]at hv;obtain⟨⟨rfl,rfl,_⟩,_,_⟩:=hv;exact⟨hc 0 _ rfl,hc 1 _ rfl,hc 2 _ rfl,h.r⟩
theorem BxO.below (h:BxO m base w g x sv)(b:Below w.heap.size w w'):BxO m base w' g x sv:=⟨owns_below h.o b (Nat.le_refl _),(h.r.under b).mono b.size⟩
theorem BxO.keep (h:BxO m base w g x sv)(gr:w.grownBy w' (some m))(hm:m<base):BxO m base w' g x sv :=
 ⟨h.o.kept gr (.inr (fun e=>by have:=(h.o.lt m e).1;omega)),(h.r.str gr).mono gr.size⟩
end
section
variable {base g:Nat}{a b c:Value}
/-- A way is put into a box of the call's own. -/
theorem BxO.put (h:w.ownsRow base 103 3 (.slice (some ⟨g,0,none⟩) 1 1) 1 [a,b,c]){y:LuR}{sy:Value}(hr:RHd 9 m w.heap.size w y.who.length sy (cellsOf encSt y.who)):
  BxO m base (((w.setCell ⟨g,0,none⟩ (.int .i64 y.sum)).setCell ⟨g,1,none⟩ (.int .i64 y.many)).setCell ⟨g,2,none⟩ sy) g y sy:=by
 have o1:=owns_setC h 0 (by omega) (.int .i64 y.sum);have o2:=owns_setC o1 1 (by omega) (.int .i64 y.many);have o3:=owns_setC o2 2 (by omega) sy;have g1:=grown_setCell w g 0 (.int .i64 y.sum);have g2:=grown_setCell (w.setCell ⟨g,0,none⟩ (.int .i64 y.sum)) g 1 (.int .i64 y.many);have g3:=grown_setCell ((w.setCell ⟨g,0,none⟩ (.int .i64 y.sum)).setCell ⟨g,1,none⟩ (.int .i64 y.many)) g 2 sy;exact⟨o3,(((hr.other h (by decide) g1).other o1 (by decide) g2).other o2 (by decide) g3).mono (Nat.le_trans g1.size (Nat.le_trans g2.size g3.size))⟩
theorem MapL.put3 (hm:MapL w m n S L)(h:w.ownsRow base 103 3 (.slice (some ⟨g,0,none⟩) 1 1) 1 [a,b,c])(hb:m<base)(x y z:Value):
  MapL (((w.setCell ⟨g,0,none⟩ x).setCell ⟨g,1,none⟩ y).setCell ⟨g,2,none⟩ z) m n S L:=by
 have o1:=owns_setC h 0 (by omega) x;have o2:=owns_setC o1 1 (by omega) y;exact((hm.other h (by decide) hb (grown_setCell w g 0 x)).other o1 (by decide) hb (grown_setCell _ g 1 y)).other o2 (by decide) hb (grown_setCell _ g 2 z)
end
/-- What the reference's function of itself sees. -/
structure ClX (w:World)(b2 b3 b4 b5 m n:Nat)(vs:Value)(S:List SlD)(vl:Value)(L:List ScD):Prop where
 c2:w.cell? ⟨b2,0,none⟩=some vs
 c3:w.cell? ⟨b3,0,none⟩=some (.map (some m))
 c4:w.cell? ⟨b4,0,none⟩=some (.func (.func 61) #[] #[.pointer (some ⟨b2,0,none⟩),.pointer (some ⟨b3,0,none⟩),.pointer (some ⟨b4,0,none⟩),.pointer (some ⟨b5,0,none⟩)])
 c5:w.cell? ⟨b5,0,none⟩=some vl
 s:SlH w vs S
 c:ScH w vl L
 mp:MapL w m n S L
theorem ClX.grow {b2 b3 b4 b5 n':Nat}{vs vl:Value}(h:ClX w b2 b3 b4 b5 m n vs S vl L)(g:w.grownBy w' (some m))(mp:MapL w' m n' S L):ClX w' b2 b3 b4 b5 m n' vs S vl L:=by
 have hm:=h.mp.ism;exact⟨hm.keep g h.c2,hm.keep g h.c3,hm.keep g h.c4,hm.keep g h.c5,⟨hm.row g h.s.r,fun x hx=>⟨hm.row g (h.s.p x hx).r,(h.s.p x hx).z,(h.s.p x hx).n⟩,h.s.z,h.s.n⟩,
  ⟨hm.row g h.c.r,fun x hx=>⟨hm.row g (h.c.p x hx).r,(h.c.p x hx).z,(h.c.p x hx).n⟩,h.c.z,h.c.i,h.c.n⟩,mp⟩
/-- The world within a call: what was there is there but for the map. -/
structure ClS (w0 w:World)(m n:Nat)(S:List SlD)(L:List ScD):Prop where
 g:w0.grownBy w (some m)
 mp:MapL w m n S L
section
variable {w0:World}
theorem ClS.below (h:ClS w0 w m n S L)(b:Below w.heap.size w w'):ClS w0 w' m n S L:=⟨grown_trans h.g (grown_of_below b),h.mp.below b⟩
theorem ClS.call {n':Nat}(h:ClS w0 w m n S L)(g:w.grownBy w' (some m))(mp:MapL w' m n' S L):ClS w0 w' m n' S L:=⟨grown_trans h.g g,mp⟩
theorem grown_newer {g:Nat}{row:Option Nat}(h:w0.grownBy w row)(hg:w0.heap.size≤g)(gr:w.grownBy w' (some g)):w0.grownBy w' row :=
 ⟨gr.os.trans h.os,gr.tape.trans h.tape,gr.output.trans h.output,Nat.le_trans h.size gr.size,fun k hk hne=>by
  rw [gr.block k (Nat.lt_of_lt_of_le hk h.size) (fun e=>by cases e;omega),h.block k hk hne]⟩
theorem ClS.put3 {g:Nat}{a b c:Value}(h:ClS w0 w m n S L)(ho:w.ownsRow w0.heap.size 103 3 (.slice (some ⟨g,0,none⟩) 1 1) 1 [a,b,c])(hb:m<w0.heap.size)(x y z:Value):
  ClS w0 (((w.setCell ⟨g,0,none⟩ x).setCell ⟨g,1,none⟩ y).setCell ⟨g,2,none⟩ z) m n S L:=by
 have hg:=(ho.lt g rfl).1;exact⟨grown_newer (grown_newer (grown_newer h.g hg (grown_setCell w g 0 x)) hg (grown_setCell _ g 1 y)) hg (grown_setCell _ g 2 z),h.mp.put3 ho hb x y z⟩
theorem ClS.x {b2 b3 b4 b5 n0:Nat}{vs vl:Value}(h:ClS w0 w m n S L)(h0:ClX w0 b2 b3 b4 b5 m n0 vs S vl L):ClX w b2 b3 b4 b5 m n vs S vl L:=h0.grow h.g h.mp
end
/-- A box of the call's own stays while another one is written. -/
theorem owns_put3 {base g g':Nat}{a b c:Value}{e:TypeId}{sz k:Nat}{cs:List Value}(h:w.ownsRow base e sz (.slice (some ⟨g',0,none⟩) k k) k cs)(hne:g'≠g)(x y z:Value):
  (((w.setCell ⟨g,0,none⟩ x).setCell ⟨g,1,none⟩ y).setCell ⟨g,2,none⟩ z).ownsRow base e sz (.slice (some ⟨g',0,none⟩) k k) k cs:=by
 have hn:(Value.slice (some ⟨g',0,none⟩) k k).ownBlock≠some g:=by simpa [Value.ownBlock] using hne
 exact((h.kept (grown_setCell w g 0 x) (.inr hn)).kept (grown_setCell _ g 1 y) (.inr hn)).kept (grown_setCell _ g 2 z) (.inr hn)
end
end Go.Proofs.YtnmdpphddimfbaaGreat
/-
  Line-ups: the stream's Fills, up to its loops. Conditions: the bounds that each theorem names.
-/
namespace Go.Bw
open Go.RowKit Go.Maps
end Go.Bw
namespace Go.Proofs.YtnmdpphddimfbaaGreat
open Go.RowKit Go.Bw Go.Maps
theorem und_str:Tryz.prog.underlying 9=some .string:=by kernel_rfl
theorem und_bool:Tryz.prog.underlying 4=some .bool:=by kernel_rfl
theorem und_map:Tryz.prog.underlying 79=some (.map 9 4):=by kernel_rfl
noncomputable def fjM:Code:=(Tryz.f7.body).getD .skip
theorem fr_fjM (f:Nat→Value):frame 105 f=⟨#[f 0,f 1,f 2,f 3,f 4,f 5,f 6,f 7,f 8,f 9,f 10,f 11,f 12,f 13,f 14,f 15,f 16,f 17,f 18,f 19,f 20,f 21,f 22,f 23,f 24,f 25,f 26,f 27,f 28,f 29,f 30,f 31,f 32,f 33,f 34,f 35,f 36,f 37,f 38,f 39,f 40,f 41,f 42,f 43,f 44,f 45,f 46,f 47,f 48,f 49,f 50,f 51,f 52,f 53,f 54,f 55,f 56,f 57,f 58,f 59,f 60,f 61,f 62,f 63,f 64,f 65,f 66,f 67,f 68,f 69,f 70,f 71,f 72,f 73,f 74,f 75,f 76,f 77,f 78,f 79,f 80,f 81,f 82,f 83,f 84,f 85,f 86,f 87,f 88,f 89,f 90,f 91,f 92,f 93,f 94,f 95,f 96,f 97,f 98,f 99,f 100,f 101,f 102,f 103,f 104],[]⟩:=by rfl
section
variable (B b:Nat)(w0:World)(c1 c:Nat)(p1 pL:Option Addr)(S:List SlD)(L:List ScD)
theorem fj0 (hb:b≤20000):T3 Tryz.prog (fun a w=>(Str B w b∧IsW w0 w)∧Fr 105 [(0,.pointer (some ⟨B,0,none⟩)),(1,.slice p1 S.length c1),(2,.slice pL L.length c)] a) (sel [0] fjM) (fun a w=>∃(A1:Nat),((Drawn B w0 w b∧B<w0.heap.size)∧w0.heap.size≤A1∧RHd 28 B w.heap.size w 1 (.slice (some ⟨A1,0,none⟩) 1 1) [.slice pL L.length c])∧Fr 105 [(0,.pointer (some ⟨B,0,none⟩)),(1,.slice p1 S.length c1),(5,.pointer (some ⟨A1,0,none⟩))] a) No 9 No:=by
 refine T3.leaf ?_;rintro Q JS JX JT K hS hK hX hE hT hR a w ⟨⟨hS_,hW⟩,⟨fr,rfl,q0,q1,q2,_⟩⟩;obtain rfl:w=w0:=hW;have hlt:=hS_.lt;have HO:=Lib.hid (show(Drawn B w (w.alloc (.cells #[.slice pL L.length c] 28)) b∧B<w.heap.size)∧w.heap.size≤w.heap.size∧RHd 28 B (w.alloc (.cells #[.slice pL L.length c] 28)).heap.size (w.alloc (.cells #[.slice pL L.length c] 28)) 1 (.slice (some ⟨w.heap.size,0,none⟩) 1 1) [.slice pL L.length c]from
  ⟨⟨(Drawn.refl hS_).alloc _,hlt⟩,Nat.le_refl _,RHd.of_owns (owns_lit w w.heap.size 28 #[.slice pL L.length c] 1 (by decide) rfl (Nat.le_refl _)) hlt⟩)
 rw [fr_fjM,fe q0,fe q1,fe q2];clear q0 q1 q2;conv=>arg 2;whnf
 go_wp2_with fail
 refine Met.intro (hS _ _ ?_);exact⟨_,HO.out,Fr.of _ rfl ⟨rfl,rfl,rfl,trivial⟩⟩
theorem fj1 (hb:b≤20000)(A1:Nat):T3 Tryz.prog (fun a w=>((Drawn B w0 w b∧B<w0.heap.size)∧w0.heap.size≤A1∧RHd 28 B w.heap.size w 1 (.slice (some ⟨A1,0,none⟩) 1 1) [.slice pL L.length c])∧Fr 105 [(0,.pointer (some ⟨B,0,none⟩)),(1,.slice p1 S.length c1),(5,.pointer (some ⟨A1,0,none⟩))] a) (sel [1,0] fjM) (fun a w=>((Drawn B w0 w b∧B<w0.heap.size)∧w0.heap.size≤A1∧RHd 28 B w.heap.size w 1 (.slice (some ⟨A1,0,none⟩) 1 1) [.slice pL L.length c])∧Fr 105 [(0,.pointer (some ⟨B,0,none⟩)),(1,.slice p1 S.length c1),(5,.pointer (some ⟨A1,0,none⟩)),(7,.slice none 0 0)] a) No 9 No:=by
 refine T3.leaf ?_;rintro Q JS JX JT K hS hK hX hE hT hR a w ⟨hW,⟨fr,rfl,q0,q1,q5,_⟩⟩;have HW:=Lib.hid hW;clear hW;rw [fr_fjM,fe q0,fe q1,fe q5];clear q0 q1 q5;conv=>arg 2;whnf
 go_wp2_with fail
 refine Met.intro (hS _ _ ?_);exact⟨HW.out,Fr.of _ rfl ⟨rfl,rfl,rfl,rfl,trivial⟩⟩
theorem fj2 (hb:b≤20000)(A1:Nat):T3 Tryz.prog (fun a w=>((Drawn B w0 w b∧B<w0.heap.size)∧w0.heap.size≤A1∧RHd 28 B w.heap.size w 1 (.slice (some ⟨A1,0,none⟩) 1 1) [.slice pL L.length c])∧Fr 105 [(0,.pointer (some ⟨B,0,none⟩)),(1,.slice p1 S.length c1),(5,.pointer (some ⟨A1,0,none⟩)),(7,.slice none 0 0)] a) (sel [1,1,0] fjM) (fun a w=>∃(m:Nat),(FiO B b w0 A1 m 1 (.slice pL L.length c) (.slice none 0 0) [] w)∧Fr 105 [(0,.pointer (some ⟨B,0,none⟩)),(1,.slice p1 S.length c1),(5,.pointer (some ⟨A1,0,none⟩)),(7,.slice none 0 0),(8,.map (some m))] a) No 9 No:=by
 refine T3.leaf ?_;rintro Q JS JX JT K hS hK hX hE hT hR a w ⟨hW,⟨fr,rfl,q0,q1,q5,q7,_⟩⟩;obtain⟨⟨hd,hB⟩,hA,hbx⟩:=hW;have hmm:=@run_makeMap Tryz.prog;have hs:=hd.size;have hM:=World.ownsMap_made (H:=Unit) w Tryz.prog 9 (plainElem Tryz.prog 4);have hd2:=hd.alloc (.map #[] 0);have hbx2:=hbx.alloc (.map #[] 0);have hne:A1≠w.heap.size:=by have:=(hbx.lt A1 rfl).2.1;omega
 obtain⟨w2,hrun,hm2,hg2⟩:=hM.update (t:=79) (key:=.string ⟨#[]⟩) (val:=.bool true) (string_keyed und_str) und_map (by unfold maxLen;omega) (Go.WideMaps.keyOf_string_mk und_str (by decide)) (plainElem_bool und_bool true);rw [fr_fjM,fe q0,fe q1,fe q5,fe q7];clear q0 q1 q5 q7;conv=>arg 2;whnf
 go_wp2_with fail
 refine Met.intro (hS _ _ ?_);exact⟨w.heap.size,⟨hd2.newer hg2 hs (by omega),hB,hA,hs,(hbx2.grow hg2 (fun k hk=>by cases hk;simpa [Value.ownBlock] using hne)).mono (Nat.le_trans (by simp) hg2.size),⟨_,hm2⟩,World.ownsRow_nil _ _ _ _,fun x hx=>by cases hx⟩,Fr.of _ rfl ⟨rfl,rfl,rfl,rfl,rfl,trivial⟩⟩
end
end Go.Proofs.YtnmdpphddimfbaaGreat
/-
  Line-ups: the stream's Fills, its rounds. Conditions: the bounds that each theorem names.
-/
namespace Go.Proofs.YtnmdpphddimfbaaGreat
open Go.RowKit Go.Bw Go.Maps
theorem fj3 (B b bs bx:Nat)(w0 ws w1:World)(c1 c:Nat)(p1 pL:Option Addr)(S:List SlD)(L:List ScD)(hSl:SlO B bs ws (.slice p1 S.length c1) S w0)(hL:ScO B bx w1 (.slice pL L.length c) L w0)(hS4:S.length≤4)(hL6:L.length≤6)(hb:b≤20000)(A1 m:Nat):T3 Tryz.prog (fun a w=>(FiO B b w0 A1 m 1 (.slice pL L.length c) (.slice none 0 0) [] w)∧Fr 105 [(0,.pointer (some ⟨B,0,none⟩)),(1,.slice p1 S.length c1),(5,.pointer (some ⟨A1,0,none⟩)),(7,.slice none 0 0),(8,.map (some m))] a) (sel [1,1,1,0,0] fjM) (fun a w=>(0≤(0:Int)∧(0:Int)≤S.length)∧∃(v7:Value) (Fs:List FlD),(CntI 0 Fs.length)∧(FiO B (b+12*(0:Int).toNat) w0 A1 m (1+(0:Int).toNat) (.slice pL L.length c) v7 Fs w)∧Fr 105 [(0,.pointer (some ⟨B,0,none⟩)),(5,.pointer (some ⟨A1,0,none⟩)),(7,v7),(8,.map (some m)),(18,.slice p1 S.length c1),(19,.int .i64 S.length),(20,.int .i64 0)] a) No 9 No:=by
 refine T3.leaf ?_;rintro Q JS JX JT K hS hK hX hE hT hR a w ⟨hW,⟨fr,rfl,q0,q1,q5,q7,q8,_⟩⟩;have HW:=Lib.hid hW;clear hW hSl hL;rw [fr_fjM,fe q0,fe q1,fe q5,fe q7,fe q8];clear q0 q1 q5 q7 q8;conv=>arg 2;whnf
 go_wp2_with fail
 refine Met.intro (hS _ _ ?_);exact⟨⟨by omega,by omega⟩,_,[],⟨by simp⟩,HW.out,Fr.of _ rfl ⟨rfl,rfl,rfl,rfl,rfl,rfl,rfl,trivial⟩⟩
theorem FiO.apart {B b A1 m n:Nat}{w0 w:World}{vL v:Value}{Fs:List FlD}(h:FiO B b w0 A1 m n vL v Fs w):w0.heap.size≤w.heap.size∧w.heap.size≠A1∧w.heap.size≠m∧v.ownBlock≠some w.heap.size:=by
 refine⟨h.d.size,?_,?_,fun e=>?_⟩
 ·have:=(h.a.lt A1 rfl).2.1;omega
 ·obtain⟨D,hD⟩:=h.mp;have:=hD.lt;omega
 ·have:=(h.o.lt _ e).2;omega
theorem fj5 (B b bs bx:Nat)(w0 ws w1:World)(c1 c:Nat)(p1 pL:Option Addr)(S:List SlD)(L:List ScD)(hSl:SlO B bs ws (.slice p1 S.length c1) S w0)(hL:ScO B bx w1 (.slice pL L.length c) L w0)(hS4:S.length≤4)(hL6:L.length≤6)(hb:b≤20000)(A1 m:Nat)(k:Int):T3 Tryz.prog (fun a w=>∃(v7:Value) (Fs:List FlD),((0≤k∧k<S.length)∧CntI k Fs.length)∧(FiO B (b+12*(k:Int).toNat) w0 A1 m (1+(k:Int).toNat) (.slice pL L.length c) v7 Fs w)∧Fr 105 [(0,.pointer (some ⟨B,0,none⟩)),(5,.pointer (some ⟨A1,0,none⟩)),(7,v7),(8,.map (some m)),(18,.slice p1 S.length c1),(19,.int .i64 S.length),(20,.int .i64 k)] a) (sel [1,1,1,0,1,4,4,1,1,0,4,0] fjM) (fun a w=>∃(v7:Value) (Fs:List FlD) (A2:Nat),((0≤k∧k<S.length)∧CntI k Fs.length)∧(FiO B (b+12*(k:Int).toNat) w0 A1 m (1+(k:Int).toNat) (.slice pL L.length c) v7 Fs w∧RHd 72 B w.heap.size w 2 (.slice (some ⟨A2,0,none⟩) 2 2) [.string (geta S k).key,(geta S k).pv]∧(w0.heap.size≤A2∧A2≠A1∧A2≠m∧v7.ownBlock≠some A2))∧Fr 105 [(0,.pointer (some ⟨B,0,none⟩)),(5,.pointer (some ⟨A1,0,none⟩)),(7,v7),(8,.map (some m)),(10,.pointer (some ⟨A2,0,none⟩)),(18,.slice p1 S.length c1),(19,.int .i64 S.length),(20,.int .i64 k)] a) No 9 No:=by
 refine T3.leaf ?_;rintro Q JS JX JT K hS hK hX hE hT hR a w ⟨v7,Fs,hpre,hW,⟨fr,rfl,q0,q5,q7,q8,q18,q19,q20,_⟩⟩;have hpp:=Lib.hid hpre;obtain⟨⟨hk0,hk1⟩,hl⟩:=hpre;have hSw:=hSl.drawn hW.d;obtain⟨bz,off,hp,_,_,hcell⟩:=Row.nonnil ((Row.of_owns hSw.o).mono (Nat.zero_le _)) (by omega);subst hp;have t0:=Row.elAt encSl_length hcell hk0 hk1 0 _ (by decide) rfl;have t1:=Row.elAt encSl_length hcell hk0 hk1 1 _ (by decide) rfl;rw [Nat.add_zero]at t0;obtain⟨q,d,hq⟩:=(hSw.i _ (geta_mem hk0 hk1)).r.row.shape;have hlB:=hW.d.str.lt;have HF:=Lib.hid (And.intro (hW.alloc (.cells #[.string (geta S k).key,(geta S k).pv] 72)) (And.intro (RHd.of_owns (owns_lit w w.heap.size 72 #[.string (geta S k).key,(geta S k).pv] 2 (by decide) rfl (Nat.le_refl _)) hlB) hW.apart));obtain⟨p7,c7,hv7⟩:=(Row.of_owns hW.o).shape;subst hv7;clear hcell hSw hSl hL hW hl;generalize geta S k=x at *;obtain⟨xk,xv,xps⟩:=x;simp only at t0 t1 hq;subst hq;rw [fr_fjM,fe q0,fe q5,fe q7,fe q8,fe q18,fe q19,fe q20];clear q0 q5 q7 q8 q18 q19 q20;conv=>arg 2;whnf
 go_wp2_with fail
 refine Met.intro (hS _ _ ?_);exact⟨_,Fs,w.heap.size,hpp.out,HF.out,Fr.of _ rfl ⟨rfl,rfl,rfl,rfl,rfl,rfl,rfl,rfl,trivial⟩⟩
end Go.Proofs.YtnmdpphddimfbaaGreat
/-
  Line-ups: the world within a round of the stream's Fills. Conditions: the bounds that each theorem names.
-/
namespace Go.Proofs.YtnmdpphddimfbaaGreat
open Go.RowKit Go.Bw Go.Maps
/-- A round of Fills: the box of its slot and the box of its fill. -/
structure FiR (B b:Nat)(w0:World)(A1 m n:Nat)(vL v:Value)(Fs:List FlD)(A2 A3:Nat)(x:SlD)(pl:ByteArray)(w:World):Prop where
 f:FiO B b w0 A1 m n vL v Fs w
 b2:RHd 72 B w.heap.size w 2 (.slice (some ⟨A2,0,none⟩) 2 2) [.string x.key,x.pv]
 b3:w.ownsRow w0.heap.size 49 2 (.slice (some ⟨A3,0,none⟩) 1 1) 1 [.string x.key,.string pl]
 n1:A1≠A3
 n2:m≠A3
 n3:v.ownBlock≠some A3
 z:Sm x.key∧Sm pl
section
variable {B b b' A1 m n A2 A3:Nat}{w0 w w':World}{vL v:Value}{Fs:List FlD}{x:SlD}{pl:ByteArray}
theorem FiR.drawn (h:FiR B b w0 A1 m n vL v Fs A2 A3 x pl w)(d:Drawn B w w' b'):FiR B b' w0 A1 m n vL v Fs A2 A3 x pl w' :=
 ⟨h.f.drawn d,(h.b2.str d.gr).mono d.size,owns_drawn h.b3 d h.f.hB,h.n1,h.n2,h.n3,h.z⟩
theorem FiR.mono (h:FiR B b w0 A1 m n vL v Fs A2 A3 x pl w)(hb:b≤b'):FiR B b' w0 A1 m n vL v Fs A2 A3 x pl w:=⟨h.f.mono hb,h.b2,h.b3,h.n1,h.n2,h.n3,h.z⟩
theorem FiR.alloc (h:FiR B b w0 A1 m n vL v Fs A2 A3 x pl w)(ob:Obj):FiR B b w0 A1 m n vL v Fs A2 A3 x pl (w.alloc ob):=h.drawn ((Drawn.refl h.f.d.str).alloc ob)
theorem FiR.below (h:FiR B b w0 A1 m n vL v Fs A2 A3 x pl w)(g:Below w.heap.size w w'):FiR B b w0 A1 m n vL v Fs A2 A3 x pl w':=h.drawn ((Drawn.refl h.f.d.str).below g)
theorem FiR.slot (h:FiR B b w0 A1 m n vL v Fs A2 A3 x pl w):w.cell? ⟨A2,0,none⟩=some (.string x.key)∧w.cell? ⟨A2,1,none⟩=some x.pv:=by
 rcases h.b2.row.2 with ⟨h0,_⟩|⟨g,off,cap,hv,_,_,_,_,hc⟩
 ·cases h0
 ·simp only [Value.slice.injEq,Option.some.injEq,Addr.mk.injEq]at hv;obtain⟨⟨rfl,rfl,_⟩,_,_⟩:=hv;exact⟨hc 0 _ rfl,hc 1 _ rfl⟩
theorem FiR.fill (h:FiR B b w0 A1 m n vL v Fs A2 A3 x pl w):w.cell? ⟨A3,0,none⟩=some (.string x.key)∧w.cell? ⟨A3,1,none⟩=some (.string pl):=by
 rcases(Row.of_owns h.b3).2 with ⟨h0,_⟩|⟨g,off,cap,hv,_,_,_,_,hc⟩
 ·cases h0
 ·simp only [Value.slice.injEq,Option.some.injEq,Addr.mk.injEq]at hv;obtain⟨⟨rfl,rfl,_⟩,_,_⟩:=hv;exact⟨hc 0 _ rfl,hc 1 _ rfl⟩
theorem FiR.put (h:FiR B b w0 A1 m n vL v Fs A2 A3 x pl w)(q:ByteArray)(hq:Sm q):FiR B b w0 A1 m n vL v Fs A2 A3 x q (w.setCell ⟨A3,1,none⟩ (.string q)):=by
 have g1:=grown_setCell w A3 1 (.string q);refine⟨h.f.put A3 g1 (h.b3.lt A3 rfl).1 h.n1 h.n2 h.n3,(h.b2.other h.b3 (by decide) g1).mono g1.size,?_,h.n1,h.n2,h.n3,⟨h.z.1,hq⟩⟩;exact owns_setC h.b3 1 (by omega) (.string q)
end
end Go.Proofs.YtnmdpphddimfbaaGreat
/-
  Line-ups: the stream's Fills, within a round. Conditions: the bounds that each theorem names.
-/
namespace Go.Bw
open Go.RowKit
/-- A row of elements of several cells, just made. -/
theorem owns_litZ (w:World)(base e:TypeId)(cs:Array Value)(n sz:Nat)(hn:n≤1099511627776)(hs:cs.size=n*sz)(hb:base≤w.heap.size):
  (w.alloc (.cells cs e)).ownsRow base e sz (.slice (some ⟨w.heap.size,0,none⟩) n n) n cs.toList :=
 ⟨by simp [hs],.inr ⟨w.heap.size,n,cs,rfl,hb,heap_alloc_new w _,Nat.le_refl _,by unfold maxLen;omega,by simp [hs],by rw [List.take_of_length_le (by simp [hs])]⟩⟩
end Go.Bw
namespace Go.Proofs.YtnmdpphddimfbaaGreat
open Go.RowKit Go.Bw Go.Maps
theorem fj6 (B b bs bx:Nat)(w0 ws w1:World)(c1 c:Nat)(p1 pL:Option Addr)(S:List SlD)(L:List ScD)(hSl:SlO B bs ws (.slice p1 S.length c1) S w0)(hL:ScO B bx w1 (.slice pL L.length c) L w0)(hS4:S.length≤4)(hL6:L.length≤6)(hb:b≤20000)(A1 m:Nat)(k:Int)(hk:0≤k∧k<S.length)(v7:Value)(Fs:List FlD)(hc:CntI k Fs.length)(A2:Nat):T3 Tryz.prog (fun a w=>(FiO B (b+12*(k:Int).toNat) w0 A1 m (1+(k:Int).toNat) (.slice pL L.length c) v7 Fs w∧RHd 72 B w.heap.size w 2 (.slice (some ⟨A2,0,none⟩) 2 2) [.string (geta S k).key,(geta S k).pv]∧(w0.heap.size≤A2∧A2≠A1∧A2≠m∧v7.ownBlock≠some A2))∧Fr 105 [(0,.pointer (some ⟨B,0,none⟩)),(5,.pointer (some ⟨A1,0,none⟩)),(7,v7),(8,.map (some m)),(10,.pointer (some ⟨A2,0,none⟩)),(18,.slice p1 S.length c1),(19,.int .i64 S.length),(20,.int .i64 k)] a) (sel [1,1,1,0,1,4,4,1,1,0,4,1,0] fjM) (fun a w=>∃(A3:Nat),(FiR B (b+12*k.toNat) w0 A1 m (1+k.toNat) (.slice pL L.length c) v7 Fs A2 A3 (geta S k) ⟨#[]⟩ w)∧Fr 105 [(0,.pointer (some ⟨B,0,none⟩)),(5,.pointer (some ⟨A1,0,none⟩)),(7,v7),(8,.map (some m)),(10,.pointer (some ⟨A2,0,none⟩)),(11,.pointer (some ⟨A3,0,none⟩)),(18,.slice p1 S.length c1),(19,.int .i64 S.length),(20,.int .i64 k)] a) No 9 No:=by
 refine T3.leaf ?_;rintro Q JS JX JT K hS hK hX hE hT hR a w ⟨⟨hW,hB2,hne⟩,⟨fr,rfl,q0,q5,q7,q8,q10,q18,q19,q20,_⟩⟩;have hz:=hSl.z _ (geta_mem hk.1 hk.2);have hap:=hW.apart;have hR:FiR B (b+12*k.toNat) w0 A1 m (1+k.toNat) (.slice pL L.length c) v7 Fs A2 w.heap.size (geta S k) ⟨#[]⟩ (w.alloc (.cells #[.string (geta S k).key,.string ⟨#[]⟩] 49)) :=
  ⟨hW.alloc _,(hB2.alloc _).mono (by simp),owns_litZ w w0.heap.size 49 #[.string (geta S k).key,.string ⟨#[]⟩] 1 2 (by decide) rfl hap.1,fun e=>hap.2.1 e.symm,fun e=>hap.2.2.1 e.symm,hap.2.2.2,hz,by decide⟩
 have HR:=Lib.hid hR;have t0:w.cell? ⟨A2,0,none⟩=some (.string (geta S k).key):=by
  rcases hB2.row.2 with ⟨h0,_⟩|⟨g,off,cap,hv,_,_,_,_,hcl⟩
  ·cases h0
  ·simp only [Value.slice.injEq,Option.some.injEq,Addr.mk.injEq]at hv;obtain⟨⟨rfl,rfl,_⟩,_,_⟩:=hv;exact hcl 0 _ rfl
 obtain⟨p7,c7,hv7⟩:=(Row.of_owns hW.o).shape;subst hv7;clear hR hW hB2 hSl hL hne hap hz hc;rw [fr_fjM,fe q0,fe q5,fe q7,fe q8,fe q10,fe q18,fe q19,fe q20];clear q0 q5 q7 q8 q10 q18 q19 q20;conv=>arg 2;whnf
 go_wp2_with fail
 refine Met.intro (hS _ _ ?_);exact⟨w.heap.size,HR.out,Fr.of _ rfl ⟨rfl,rfl,rfl,rfl,rfl,rfl,rfl,rfl,rfl,trivial⟩⟩
end Go.Proofs.YtnmdpphddimfbaaGreat
