/-
  Contracts and lemmas towards the statement, of several parts; each part says ahead of it what it holds and under which conditions.
-/
import Derived.Test.YtnmdpphddimfbaaGreatMg1
import Derived.Lib.Bytealg
import Derived.Sort.Walk0
import Derived.Deep.Cut
import Derived.Lib.MinMax
set_option maxRecDepth 100000
set_option maxHeartbeats 1000000
set_option linter.unusedSectionVars false
/-
  Line-ups: the order of scorers, and where one of them must be, plain. No condition on a program.
-/
set_option linter.unusedVariables false
namespace Go.Bw
open Go.RowKit
theorem u8_lt {a b:UInt8}:a<b↔a.toNat<b.toNat:=UInt8.lt_iff_toNat_lt
theorem u8_eq {a b:UInt8}(h:¬a<b)(h':¬b<a):a=b:=by
 rw [u8_lt]at h h';exact UInt8.toNat_inj.1 (by omega)
theorem cmp_lt:∀ x y:List UInt8,Lib.compareBytes x y<0↔x<y
 | [],[]=>by simp [Lib.compareBytes]
 | [],b::m=>by simp [Lib.compareBytes]
 | a::l,[]=>by simp [Lib.compareBytes]
 | a::l,b::m=>by
  have ih:=cmp_lt l m;rw [List.cons_lt_cons_iff];unfold Lib.compareBytes
  by_cases h:a<b
  ·simp [h]
  ·by_cases h':b<a
   ·rw [if_neg h,if_pos h'];have hne:a≠b:=fun e=>h (by rw [e]at h' ⊢;exact h')
    simp [h,hne]
   ·rw [if_neg h,if_neg h',ih];have:=u8_eq h h';simp [h,this]
theorem cmp_eq:∀ x y:List UInt8,Lib.compareBytes x y=0↔x=y
 | [],[]=>by simp [Lib.compareBytes]
 | [],b::m=>by simp [Lib.compareBytes]
 | a::l,[]=>by simp [Lib.compareBytes]
 | a::l,b::m=>by
  have ih:=cmp_eq l m;unfold Lib.compareBytes
  by_cases h:a<b
  ·have hne:a≠b:=fun e=>by rw [e,u8_lt]at h;omega
   simp [h,hne]
  ·by_cases h':b<a
   ·have hne:a≠b:=fun e=>by rw [e,u8_lt]at h';omega
    simp [h,h',hne]
   ·rw [if_neg h,if_neg h',ih];have:=u8_eq h h';simp [this]
theorem lst_asymm {x y:List UInt8}(h:x<y):¬y<x:=fun h'=>List.lt_irrefl x (List.lt_trans h h')
theorem leB_not {x y:ByteArray}(h:leB x y=false):y.toList<x.toList:=by
 unfold leB at h;rw [Go.Proofs.bytesLess_eq,Bool.or_eq_false_iff]at h;obtain⟨h1,h2⟩:=h;have h1:=of_decide_eq_false h1;have h2:x.toList≠y.toList:=by simpa using h2
 have h3:¬Lib.compareBytes x.toList y.toList<0:=fun e=>h1 ((cmp_lt _ _).1 e)
 have h4:Lib.compareBytes x.toList y.toList≠0:=fun e=>h2 ((cmp_eq _ _).1 e)
 have tri:∀a b:List UInt8,a<b∨a=b∨b<a:=by
  intro a
  induction a with
  | nil=>intro b;cases b with
   | nil=>exact .inr (.inl rfl)
   | cons b m=>exact .inl (by simp)
  | cons a l ih=>intro b;cases b with
   | nil=>exact .inr (.inr (by simp))
   | cons b m =>
    rw [List.cons_lt_cons_iff,List.cons_lt_cons_iff]
    by_cases h:a<b
    ·exact .inl (.inl h)
    ·by_cases h':b<a
     ·exact .inr (.inr (.inl h'))
     ·have e:=u8_eq h h';rcases ih m with q|q|q
      ·exact .inl (.inr ⟨e,q⟩)
      ·exact .inr (.inl (by rw [e,q]))
      ·exact .inr (.inr (.inr ⟨e.symm,q⟩))
 rcases tri x.toList y.toList with q|q|q
 ·exact absurd q h1
 ·exact absurd q h2
 ·exact q
end Go.Bw
namespace Go.Proofs.YtnmdpphddimfbaaGreat
open Go.RowKit Go.Bw
/-- The scorers rise. -/
structure ScRise (L:List ScD):Prop where
 h:∀i j:Int,0≤i→i<j→j<L.length→(geta L i).pl.toList<(geta L j).pl.toList
theorem ScRise.of {L:List ScD}(h:∀k:Int,0<k→k<L.length→ordBad L k=false):ScRise L:=by
 refine⟨fun i j h0 hij hj=>?_⟩;have step:∀k:Int,0<k→k<L.length→(geta L (k-1)).pl.toList<(geta L k).pl.toList:=fun k hk hkl=>by
  have:=h k hk hkl;unfold ordBad at this;rw [Bool.and_eq_false_iff]at this;rcases this with e|e
  ·have:=of_decide_eq_false e;omega
  ·exact leB_not e
 have key:∀(d:Nat) (j:Int),j=i+1+d→j<L.length→(geta L i).pl.toList<(geta L j).pl.toList:=by
  intro d
  induction d with
  | zero =>
   intro j e hj;have:=step j (by omega) hj
   rwa [show j-1=i by omega]at this
  | succ d ih =>
   intro j e hj;exact List.lt_trans (ih (j-1) (by omega) (by omega)) (step j (by omega) hj)
 exact key (j-i-1).toNat j (by omega) hj
/-- All before i are less than x, all from i on are not. -/
structure CutAt (L:List ScD)(x:ByteArray)(i j:Int):Prop where
 i0:0≤i
 ij:i≤j
 jn:j≤L.length
 lo:∀k:Int,0≤k→k<i→(geta L k).pl.toList<x.toList
 hi:∀k:Int,j≤k→k<L.length→¬(geta L k).pl.toList<x.toList
theorem CutAt.start (L:List ScD)(x:ByteArray):CutAt L x 0 L.length:=⟨by omega,by omega,by omega,fun k h0 h1=>by omega,fun k h0 h1=>by omega⟩
section
variable {L:List ScD}{x:ByteArray}{i j m:Int}(r:ScRise L)(h:CutAt L x i j)(h0:i≤m)(h1:m<j)
include r h h0 h1
theorem CutAt.up (hm:(geta L m).pl.toList<x.toList):CutAt L x (m+1) j :=
 ⟨by have:=h.i0;omega,by omega,h.jn,fun k a b=>by
  by_cases e:k=m
  ·rw [e];exact hm
  ·exact List.lt_trans (r.h k m a (by omega) (by have:=h.jn;omega)) hm,h.hi⟩
theorem CutAt.down (hm:¬(geta L m).pl.toList<x.toList):CutAt L x i m :=
 ⟨h.i0,h0,by have:=h.jn;omega,h.lo,fun k a b hlt=>by
  by_cases e:k=m
  ·rw [e]at hlt;exact hm hlt
  ·exact hm (List.lt_trans (r.h m k (by have:=h.i0;omega) (by omega) b) hlt)⟩
end
theorem bytes_inj {x y:ByteArray}(h:x.toList=y.toList):x=y:=by
 rw [ByteArray.toList_eq,ByteArray.toList_eq]at h;cases x;cases y
 simp only [ByteArray.mk.injEq];exact Array.toList_inj.1 h
theorem CutAt.found {L:List ScD}{x:ByteArray}{i:Int}(h:CutAt L x i i)(hi:i<L.length)(he:(geta L i).pl=x):scIdx L x=i:=by
 refine idxI_hit h.i0 hi (fun k a b=>?_) (by simp [he]);have:=h.lo k a b;simp only [decide_eq_false_iff_not];intro e;rw [e]at this;exact List.lt_irrefl _ this
theorem CutAt.none {L:List ScD}{x:ByteArray}{i:Int}(r:ScRise L)(h:CutAt L x i i)(he:i<L.length→(geta L i).pl≠x):scIdx L x=-1:=by
 refine idxI_none fun k a b=>?_
 simp only [decide_eq_false_iff_not];intro e
 by_cases hk:k<i
 ·have:=h.lo k a hk;rw [e]at this;exact List.lt_irrefl _ this
 ·by_cases hki:k=i
  ·rw [hki]at e b;exact he b e
  ·have h1:=h.hi i (by omega) (by omega);have h2:=r.h i k h.i0 (by omega) b;rw [e]at h2;exact h1 h2
end Go.Proofs.YtnmdpphddimfbaaGreat
/-
  Line-ups: who is where, who fits (ScorerAt, isIn, fit, Common, Positions, ListFault). Conditions: at most 1000 elements; strings of at most 1000 bytes.
-/
namespace Go.Proofs.YtnmdpphddimfbaaGreat
open Go.RowKit Go.Bw
section
variable (a:ByteArray)(pv:Value)(x:ByteArray)(B:Nat)(w:World)(hB:w.cell? ⟨B,0,none⟩=some (.string x))
include a pv hB
theorem cl_slF :
  Calls Tryz.prog 52 #[.agg #[.string a,pv],.pointer (some ⟨B,0,none⟩)] w fun e w'=>e=.returned (.bool (decide (a=x)))∧Below w.heap.size w w':=by
 have hlt:=World.block_lt_of_cell? w _ hB;have hw0:=(Below.refl w.heap.size w).alloc (Nat.le_refl _) (.cells #[.string a,pv] 72);have c1:=(hw0.cell (p:=⟨B,0,none⟩) hlt).trans hB;have d0:=cells_new w #[.string a,pv] 72 0 _ rfl;have d1:=cells_new w #[.string a,pv] 72 1 _ rfl;have HW:=Lib.hid hw0;clear hw0 hB
 by_cases hx:a=x
 ·subst hx
  go_enter Tryz.func52,Tryz.ntmps52
  go_wp2_with fail
  go_ret
  exact⟨ret_bool (by simp),HW.out⟩
 ·have hx1:=toList_ne hx;have HX:=Lib.hid (show false=decide (a=x)by simp [hx]);clear hx
  go_enter Tryz.func52,Tryz.ntmps52
  go_wp2_with fail
  go_ret
  exact⟨ret_bool HX.out,HW.out⟩
theorem cl_slC :
  Calls Tryz.prog 65 #[.agg #[.string a,pv],.pointer (some ⟨B,0,none⟩)] w fun e w'=>e=.returned (.bool (decide (a=x)))∧Below w.heap.size w w':=by
 have hlt:=World.block_lt_of_cell? w _ hB;have hw0:=(Below.refl w.heap.size w).alloc (Nat.le_refl _) (.cells #[.string a,pv] 72);have c1:=(hw0.cell (p:=⟨B,0,none⟩) hlt).trans hB;have d0:=cells_new w #[.string a,pv] 72 0 _ rfl;have d1:=cells_new w #[.string a,pv] 72 1 _ rfl;have HW:=Lib.hid hw0;clear hw0 hB
 by_cases hx:a=x
 ·subst hx
  go_enter Tryz.func65,Tryz.ntmps65
  go_wp2_with fail
  go_ret
  exact⟨ret_bool (by simp),HW.out⟩
 ·have hx1:=toList_ne hx;have HX:=Lib.hid (show false=decide (a=x)by simp [hx]);clear hx
  go_enter Tryz.func65,Tryz.ntmps65
  go_wp2_with fail
  go_ret
  exact⟨ret_bool HX.out,HW.out⟩
end
theorem cl_scA (a:ByteArray)(pv:Value)(num den:Int)(pd:Bool)(x:ByteArray)(B:Nat)(w:World)(hB:w.cell? ⟨B,0,none⟩=some (.string x)):
  Calls Tryz.prog 96 #[.agg #[.string a,pv,.int .i64 num,.int .i64 den,.bool pd],.pointer (some ⟨B,0,none⟩)] w fun e w'=>e=.returned (.bool (decide (a=x)))∧Below w.heap.size w w':=by
 have hlt:=World.block_lt_of_cell? w _ hB;have hw0:=(Below.refl w.heap.size w).alloc (Nat.le_refl _) (.cells #[.string a,pv,.int .i64 num,.int .i64 den,.bool pd] 77);have c1:=(hw0.cell (p:=⟨B,0,none⟩) hlt).trans hB;have d0:=cells_new w #[.string a,pv,.int .i64 num,.int .i64 den,.bool pd] 77 0 _ rfl;have d1:=cells_new w #[.string a,pv,.int .i64 num,.int .i64 den,.bool pd] 77 1 _ rfl;have d2:=cells_new w #[.string a,pv,.int .i64 num,.int .i64 den,.bool pd] 77 2 _ rfl;have d3:=cells_new w #[.string a,pv,.int .i64 num,.int .i64 den,.bool pd] 77 3 _ rfl;have d4:=cells_new w #[.string a,pv,.int .i64 num,.int .i64 den,.bool pd] 77 4 _ rfl;have HW:=Lib.hid hw0;clear hw0 hB
 by_cases hx:a=x
 ·subst hx
  go_enter Tryz.func96,Tryz.ntmps96
  go_wp2_with fail
  go_ret
  exact⟨ret_bool (by simp),HW.out⟩
 ·have hx1:=toList_ne hx;have HX:=Lib.hid (show false=decide (a=x)by simp [hx]);clear hx
  go_enter Tryz.func96,Tryz.ntmps96
  go_wp2_with fail
  go_ret
  exact⟨ret_bool HX.out,HW.out⟩
theorem scorerAt_ref (v:Value)(L:List ScD)(x:ByteArray)(w:World)(h:ScH w v L):
  Calls Tryz.prog 55 #[v,.string x] w fun e w'=>e=.returned (.int .i64 (scIdx L x))∧Below w.heap.size w w':=by
 have hw0:=(Below.refl w.heap.size w).alloc (Nat.le_refl _) (.cells #[.string x] 9);have c0:=cells_new w #[.string x] 9 0 _ rfl;have H1:=Lib.hid (idx_sc 96 Tryz.call96 (.pointer (some ⟨w.heap.size,0,none⟩)) v L (fun y=>decide (y.pl=x)) 0 _ (h.r.below hw0) (by have:=h.n;omega) (fun y _ w1 hb=>cl_scA y.pl y.pv y.num y.den y.pd x _ w1 ((hb.cell (p:=⟨w.heap.size,0,none⟩) (by simp)).trans c0)));obtain⟨q,d,hv⟩:=h.r.shape;clear h;subst hv;have HW:=Lib.hid hw0;have HE:=Lib.hid (show scIdx L x=idxI L (fun y=>decide (y.pl=x))from rfl);clear hw0 c0;generalize idxI L (fun y=>decide (y.pl=x))=r at *
 go_enter Tryz.func55,Tryz.ntmps55
 go_wp2_with fail
 refine H1.out.mono ?_;rintro e w1 ⟨rfl,hb⟩;have HB:=Lib.hid (HW.out.trans (hb.mono HW.out.size));clear hb;go_wp2_with fail
 go_ret
 exact⟨ret_int HE.out.symm,HB.out⟩
section
variable (s:ByteArray)(pv:Value)(zs:List ByteArray)(B:Nat)(w:World)(h:PsH w pv zs)
include s B h
theorem cl_fit (hB:w.cell? ⟨B,1,none⟩=some pv):
  Calls Tryz.prog 97 #[.string s,.pointer (some ⟨B,0,none⟩)] w fun e w'=>e=.returned (.bool (hasS zs s))∧Below w.heap.size w w':=by
 have H1:=Lib.hid (contains_str pv zs.length zs s 0 w h.r);obtain⟨q,d,hv⟩:=h.r.shape;clear h;subst hv;generalize hasS zs s=r at *
 go_enter Tryz.func97,Tryz.ntmps97
 go_wp2_with fail
 refine H1.out.mono ?_;rintro e w1 ⟨rfl,rfl⟩;go_wp2_with fail
 go_ret
 exact⟨rfl,Below.refl _ _⟩
theorem cl_com (hB:w.cell? ⟨B,0,none⟩=some pv):
  Calls Tryz.prog 105 #[.string s,.pointer (some ⟨B,0,none⟩)] w fun e w'=>e=.returned (.bool (hasS zs s))∧Below w.heap.size w w':=by
 have H1:=Lib.hid (contains_str pv zs.length zs s 0 w h.r);obtain⟨q,d,hv⟩:=h.r.shape;clear h;subst hv;generalize hasS zs s=r at *
 go_enter Tryz.func105,Tryz.ntmps105
 go_wp2_with fail
 refine H1.out.mono ?_;rintro e w1 ⟨rfl,rfl⟩;go_wp2_with fail
 go_ret
 exact⟨rfl,Below.refl _ _⟩
end
theorem common_two (va vb:Value)(a b:List ByteArray)(w:World)(ha:PsH w va a)(hb:PsH w vb b):
  Calls Tryz.prog 70 #[va,vb] w fun e w'=>e=.returned (.bool (commonB a b))∧Below w.heap.size w w':=by
 have hw0:=(Below.refl w.heap.size w).alloc (Nat.le_refl _) (.cells #[vb] 39);have c0:=cells_new w #[vb] 39 0 _ rfl;have H1:=Lib.hid (any_st 105 Tryz.call105 (.pointer (some ⟨w.heap.size,0,none⟩)) va a (fun s=>hasS b s) 0 _ (ha.r.below hw0) (by have:=ha.n;omega) (fun s _ w1 hb1=>cl_com s vb b _ w1 ((hb.below hw0).below hb1) ((hb1.cell (p:=⟨w.heap.size,0,none⟩) (by simp)).trans c0)));obtain⟨q,d,rfl⟩:=ha.r.shape;obtain⟨q2,d2,rfl⟩:=hb.r.shape;clear ha hb;have HW:=Lib.hid hw0;have HE:=Lib.hid (show commonB a b=a.any (fun s=>hasS b s)from rfl);clear hw0 c0;generalize a.any (fun s=>hasS b s)=r at *
 go_enter Tryz.func70,Tryz.ntmps70
 go_wp2_with fail
 refine H1.out.mono ?_;rintro e w1 ⟨rfl,hb⟩;have HB:=Lib.hid (HW.out.trans (hb.mono HW.out.size));clear hb;go_wp2_with fail
 go_ret
 exact⟨ret_bool HE.out.symm,HB.out⟩
theorem fit_ref (s:SlD)(x:ScD)(w:World)(hs:PsH w s.pv s.ps)(hx:PsH w x.pv x.ps):
  Calls Tryz.prog 57 #[.agg #[.string s.key,s.pv],.agg #[.string x.pl,x.pv,.int .i64 x.num,.int .i64 x.den,.bool x.pd]] w fun e w'=>e=.returned (.bool (commonB s.ps x.ps))∧Below w.heap.size w w':=by
 obtain⟨key,pv,ps⟩:=s;obtain⟨pl,qv,qs,num,den,pd⟩:=x;simp only at hs hx;have hw0:=(Below.refl w.heap.size w).alloc (Nat.le_refl _) (.cells #[.string key,pv] 72);have hw1:=hw0.alloc (by simp) (.cells #[.string pl,qv,.int .i64 num,.int .i64 den,.bool pd] 77);have hw1':=(Below.refl (w.alloc (.cells #[.string key,pv] 72)).heap.size (w.alloc (.cells #[.string key,pv] 72))).alloc (Nat.le_refl _) (.cells #[.string pl,qv,.int .i64 num,.int .i64 den,.bool pd] 77);have d0:=(hw1'.cell (p:=⟨w.heap.size,1,none⟩) (by simp)).trans (cells_new w #[.string key,pv] 72 1 _ rfl);have c0:=cells_at (w.alloc (.cells #[.string key,pv] 72)) #[.string pl,qv,.int .i64 num,.int .i64 den,.bool pd] 77 (w.heap.size+1) (by simp) 1 _ rfl;have H1:=Lib.hid (any_st 97 Tryz.call97 (.pointer (some ⟨w.heap.size+1,0,none⟩)) pv ps (fun s=>hasS qs s) 0 _ (hs.r.below hw1) (by have:=hs.n;omega) (fun s _ w1 hb1=>cl_fit s qv qs _ w1 ((hx.below hw1).below hb1) ((hb1.cell (p:=⟨w.heap.size+1,1,none⟩) (by simp)).trans c0)));obtain⟨q,d,rfl⟩:=hs.r.shape;obtain⟨q2,d2,rfl⟩:=hx.r.shape;clear hs hx;have HW:=Lib.hid hw1;have HE:=Lib.hid (show commonB ps qs=ps.any (fun s=>hasS qs s)from rfl);clear hw0 hw1 hw1' c0;generalize ps.any (fun s=>hasS qs s)=r at *
 go_enter Tryz.func57,Tryz.ntmps57
 go_wp2_with fail
 refine H1.out.mono ?_;rintro e w1 ⟨rfl,hb⟩;have HB:=Lib.hid (HW.out.trans (hb.mono HW.out.size));clear hb;go_wp2_with fail
 go_ret
 exact⟨ret_bool HE.out.symm,HB.out⟩
theorem positions_prog (v:Value)(l:List ByteArray)(w:World)(h:PsH w v l):
  Calls Tryz.prog 66 #[v] w fun e w'=>e=.returned (.int .i64 (posE l))∧Below w.heap.size w w':=by
 have H1:=Lib.hid (rising_prog v l.length l 0 w h.r (fun s hs=>by have:=h.z s hs;omega));obtain⟨q,d,rfl⟩:=h.r.shape;have hn:=h.n;clear h
 by_cases h0:l.length=0
 ·have HE:=Lib.hid (show(8:Int)=posE l by unfold posE;rw [if_pos h0]);rw [h0];clear H1 h0 hn
  go_enter Tryz.func66,Tryz.ntmps66
  go_wp2_with fail
  go_ret
  exact⟨ret_int HE.out,Below.refl _ _⟩
 ·have hb0:((l.length:Int)==0)=false:=by simp;intro e;exact h0 (by rw [e];rfl)
  by_cases h1:10<l.length
  ·have HE:=Lib.hid (show(2:Int)=posE l by unfold posE listE;rw [if_neg h0,if_pos h1]);clear H1 h0;generalize l.length=n at *;have h1:(10:Int)<n:=by omega
   go_enter Tryz.func66,Tryz.ntmps66
   go_wp2_with fail
   go_ret
   exact⟨ret_int HE.out,Below.refl _ _⟩
  ·have HE:=Lib.hid (show risingE l=posE l by unfold posE listE;rw [if_neg h0,if_neg h1]);clear h0;generalize risingE l=r at *;have h1:decide ((10:Int)<l.length)=false:=by simp;omega
   go_enter Tryz.func66,Tryz.ntmps66
   go_wp2_with fail
   refine H1.out.mono ?_;rintro e w1 ⟨rfl,hb⟩;have HB:=Lib.hid hb;clear hb;go_wp2_with fail
   go_ret
   exact⟨ret_int HE.out,HB.out⟩
end Go.Proofs.YtnmdpphddimfbaaGreat
/-
  Walks cut into pieces: what a statement makes of a relation on frames and worlds. No condition.
-/
namespace Go.Bw
open Go.RowKit
/-- A part of a text: 0, 1: left and right of a sequence; 2, 3: the ways of an if; 4: inside a block, a loop, a scope. -/
def sel:List Nat→Code→Code
 | 0::l,.seq a _=>sel l a
 | 1::l,.seq _ b=>sel l b
 | 2::l,.cond _ a _=>sel l a
 | 3::l,.cond _ _ b=>sel l b
 | 4::l,.block _ c=>sel l c
 | 4::l,.loop c=>sel l c
 | 4::l,.scope c=>sel l c
 | _,c=>c
/-- A frame of n slots. -/
def frame (n:Nat)(f:Nat→Value):Act:=⟨((List.range n).map f).toArray,[]⟩
def AllAt (f:Nat→Value):List (Nat×Value)→Prop
 | []=>True
 | p::l=>f p.1=p.2∧AllAt f l
/-- The frame has n slots, and those of the list hold what it says. -/
def Fr (n:Nat)(l:List (Nat×Value))(a:Act):Prop:=∃f,a=frame n f∧AllAt f l
theorem Fr.of {n:Nat}{l:List (Nat×Value)}(xs:List Value)(hn:xs.length=n)(h:AllAt (fun i=>xs.getD i undef) l):Fr n l ⟨xs.toArray,[]⟩:=by
 refine⟨_,?_,h⟩;unfold frame
 congr 2
 apply List.ext_getElem
 ·simp [hn]
 ·intro i h1 h2;simp [List.getD,h1]
theorem AllAt.get {f:Nat→Value}{l:List (Nat×Value)}(h:AllAt f l){p:Nat×Value}(hp:p∈l):f p.1=p.2:=by
 induction l with
 | nil=>cases hp
 | cons q l ih =>
  rcases List.mem_cons.1 hp with rfl|hp
  ·exact h.1
  ·exact ih h.2 hp
theorem Fr.eval {n:Nat}{l:List (Nat×Value)}{a:Act}(h:Fr n l a)(i:Nat)(hi:i<n){v:Value}(hv:(i,v)∈l):a.eval (.tmp i)=v:=by
 obtain⟨f,rfl,hf⟩:=h;have:=hf.get hv;simp only at this;simp only [Act.eval,frame];rw [Array.getD_eq_getD_getElem?];simp [hi,this]
theorem AllAt.sub {f:Nat→Value}{l l':List (Nat×Value)}(h:AllAt f l)(hs:∀p∈l',p∈l):AllAt f l':=by
 induction l' with
 | nil=>trivial
 | cons q l' ih=>exact⟨h.get (hs q (by simp)),ih fun p hp=>hs p (by simp [hp])⟩
theorem Fr.sub {n:Nat}{l l':List (Nat×Value)}{a:Act}(h:Fr n l a)(hs:∀p∈l',p∈l):Fr n l' a:=by
 obtain⟨f,rfl,hf⟩:=h;exact⟨f,rfl,hf.sub hs⟩
theorem Fr.tail {n:Nat}{p:Nat×Value}{l:List (Nat×Value)}{a:Act}(h:Fr n (p::l) a):Fr n l a:=h.sub (by simp +contextual)
/-- The statement s takes R to S. -/
def Tri (P:Program)(R:Act→World→Prop)(s:Code)(S:Act→World→Prop):Prop :=
 ∀(Q:Exit→Act→World→Prop) (J K:Act→World→Prop),(∀a w,S a w→J a w)→(∀a w,Met J a w→K a w)→∀a w,R a w→s.wp P (Exit.then K Q) a w
section
variable {P:Program}{R S T X:Act→World→Prop}{s c:Code}{Q:Exit→Act→World→Prop}{K:Act→World→Prop}{a:Act}{w:World}
theorem Tri.go (h:Tri P R s S)(hR:R a w)(rest:∀a w,S a w→K a w):s.wp P (Exit.then K Q) a w:=h Q S K (fun _ _ h=>h) rest a w hR
theorem Tri.seq (h:Tri P R s S)(k:Tri P S c T):Tri P R (.seq s c) T:=by
 intro Q J K hJ hK a w hR;refine wp_seq (wp_mono (h.go (Q:=Exit.then K Q) (K:=c.wp P (Exit.then K Q)) hR fun a w hS=>k.go hS fun a w hT=>hK a w (hJ a w hT)) ?_);intro e a w q;exact q
theorem Tri.skip (h:∀a w,R a w→S a w):Tri P R .skip S:=fun _ _ _ hJ hK a w hR=>wp_skip (hK a w (hJ a w (h a w hR)))
theorem Tri.mono {R' S':Act→World→Prop}(h:Tri P R s S)(h1:∀a w,R' a w→R a w)(h2:∀a w,S a w→S' a w):Tri P R' s S' :=
 fun Q J K hJ hK a w hR=>h Q J K (fun a w q=>hJ a w (h2 a w q)) hK a w (h1 a w hR)
theorem Tri.cond {o:Operand}{x y:Code}(R1 R2:Act→World→Prop)(h:∀a w,R a w→(a.eval o=.bool true∧R1 a w)∨(a.eval o=.bool false∧R2 a w))(hx:Tri P R1 x S)(hy:Tri P R2 y S):Tri P R (.cond o x y) S:=by
 intro Q J K hJ hK a w hR;rcases h a w hR with ⟨he,h1⟩|⟨he,h1⟩
 ·exact wp_cond_true he (hx Q J K hJ hK a w h1)
 ·exact wp_cond_false he (hy Q J K hJ hK a w h1)
/-- One round of a loop in block id, at the number n. -/
def Rnd (P:Program)(I:Nat→Act→World→Prop)(id:Nat)(c:Code)(X:Act→World→Prop):Prop :=
 ∀(n:Nat) (Q:Exit→Act→World→Prop) (J J' K:Act→World→Prop),(∀m a w,m<n→I m a w→J a w)→(∀a w,Met J a w→K a w) →
  (∀a w,X a w→J' a w)→(∀a w,Met J' a w→Q (.exit id) a w)→∀a w,I n a w→c.wp P (Exit.then K Q) a w
theorem Tri.loop {id:Nat}(I:Nat→Act→World→Prop)(h0:∀a w,R a w→∃n,I n a w)(h:Rnd P I id c X):Tri P R (.block id (.loop c)) X:=by
 intro Q J K hJ hK a w hR;obtain⟨n,hI⟩:=h0 a w hR;refine wp_block (wp_loop_ghost I n hI fun n a w hI=>?_);refine h n _ (fun a w=>∃m,m<n∧I m a w) X _ (fun m a w hm hI=>⟨m,hm,hI⟩) (fun a w q=>q) (fun _ _ q=>q) ?_ a w hI;intro a w q;show Exit.inBlock id _ (.exit id) a w;simp only [Exit.inBlock,if_true];exact hK a w (hJ a w q)
end
end Go.Bw
/-
  Walks cut into pieces, with returns and exits. No condition.
-/
namespace Go.Bw
open Go.RowKit
abbrev Rel:Type:=Act→World→Prop
def No:Rel:=fun _ _=>False
/-- Where a statement may come out: at its end (S), by leaving block id (X), by a return (T). -/
def Post (S X:Rel)(id:Nat)(T:Rel):Exit→Act→World→Prop
 | .normal,a,w=>S a w
 | .exit i,a,w=>i=id∧X a w
 | .ret,a,w=>T a w
 | _,_,_=>False
def T3 (P:Program)(R:Rel)(s:Code)(S X:Rel)(id:Nat)(T:Rel):Prop:=∀a w,R a w→s.wp P (Post S X id T) a w
section
variable {P:Program}{R R' S S' X X' T T':Rel}{s c:Code}{id id':Nat}
theorem T3.leaf (h:∀(Q:Exit→Act→World→Prop) (JS JX JT K:Rel),(∀a w,S a w→JS a w)→(∀a w,Met JS a w→K a w)→(∀a w,X a w→JX a w)→(∀a w,Met JX a w→Q (.exit id) a w) →
  (∀a w,T a w→JT a w)→(∀a w,Met JT a w→Q .ret a w)→∀a w,R a w→s.wp P (Exit.then K Q) a w):T3 P R s S X id T:=by
 intro a w hR;refine wp_mono (h (Post S X id T) S X T S (fun _ _ q=>q) (fun _ _ q=>q) (fun _ _ q=>q) (fun _ _ q=>⟨rfl,q⟩) (fun _ _ q=>q) (fun _ _ q=>q) a w hR) ?_;intro e a w q;cases e <;> exact q
theorem T3.mono (h:T3 P R s S X id T)(hR:∀a w,R' a w→R a w)(hS:∀a w,S a w→S' a w)(hT:∀a w,T a w→T' a w)(hX:∀a w,X a w→X' a w):T3 P R' s S' X' id T':=by
 intro a w q;refine wp_mono (h a w (hR a w q)) ?_;intro e a w q;cases e with
 | normal=>exact hS a w q
 | exit i=>exact⟨q.1,hX a w q.2⟩
 | ret=>exact hT a w q
 | goto l=>exact q
 | panic ch=>exact q
 | outgrown=>exact q
theorem T3.seq (h:T3 P R s S X id T)(k:T3 P S c S' X id T):T3 P R (.seq s c) S' X id T:=by
 intro a w hR;refine wp_seq (wp_mono (h a w hR) ?_);intro e a w q;cases e with
 | normal=>exact k a w q
 | exit i=>exact q
 | ret=>exact q
 | goto l=>exact q
 | panic ch=>exact q
 | outgrown=>exact q
theorem T3.skip (h:∀a w,R a w→S a w):T3 P R .skip S X id T:=fun a w q=>wp_skip (h a w q)
theorem T3.ret (h:∀a w,R a w→T a w):T3 P R .ret S X id T:=fun a w q=>wp_ret (h a w q)
theorem T3.exit (h:∀a w,R a w→X a w):T3 P R (.exit id) S X id T:=fun a w q=>wp_exit ⟨rfl,h a w q⟩
theorem T3.cond {o:Operand}{x y:Code}(R1 R2:Rel)(h:∀a w,R a w→(a.eval o=.bool true∧R1 a w)∨(a.eval o=.bool false∧R2 a w))(hx:T3 P R1 x S X id T)(hy:T3 P R2 y S X id T):T3 P R (.cond o x y) S X id T:=by
 intro a w hR;rcases h a w hR with ⟨he,h1⟩|⟨he,h1⟩
 ·exact wp_cond_true he (hx a w h1)
 ·exact wp_cond_false he (hy a w h1)
/-- A block that nobody leaves but by its end. -/
theorem T3.block (hid:id≠id')(h:T3 P R c S X id T):T3 P R (.block id' c) S X id T:=by
 intro a w hR;refine wp_block (wp_mono (h a w hR) ?_);intro e a w q;cases e with
 | normal=>exact q
 | exit i =>
  obtain⟨rfl,q⟩:=q;show Exit.inBlock id' _ (.exit i) a w;simp only [Exit.inBlock,hid,if_false];exact⟨rfl,q⟩
 | ret=>exact q
 | goto l=>exact q
 | panic ch=>exact q
 | outgrown=>exact q
theorem T3.loop (I:Nat→Rel)(h0:∀a w,R a w→∃n,I n a w)(h:∀n,T3 P (I n) c (fun a w=>∃m,m<n∧I m a w) S id T):T3 P R (.block id (.loop c)) S X id' T:=by
 intro a w hR;obtain⟨n,hI⟩:=h0 a w hR;refine wp_block (wp_loop_ghost I n hI fun n a w hI=>wp_mono (h n a w hI) ?_);intro e a w q;cases e with
 | normal=>exact q
 | exit i =>
  obtain⟨rfl,q⟩:=q;show Exit.inBlock i _ (.exit i) a w;simp only [Exit.inBlock,if_true];exact q
 | ret=>exact q
 | goto l=>exact q
 | panic ch=>exact q
 | outgrown=>exact q
/-- Nobody leaves block id. -/
theorem T3.noX (h:T3 P R s S No id T):T3 P R s S X id' T:=by
 intro a w hR;refine wp_mono (h a w hR) ?_;intro e a w q;cases e with
 | normal=>exact q
 | exit i=>exact q.2.elim
 | ret=>exact q
 | goto l=>exact q
 | panic ch=>exact q
 | outgrown=>exact q
theorem T3.pure {p:Prop}(h:p→T3 P R s S X id T):T3 P (fun a w=>p∧R a w) s S X id T:=fun a w q=>h q.1 a w q.2
theorem T3.ex {α:Type}{R:α→Rel}(h:∀x,T3 P (R x) s S X id T):T3 P (fun a w=>∃x,R x a w) s S X id T:=fun a w ⟨x,q⟩=>h x a w q
/-- The whole text of a function: it ends by a return. -/
theorem T3.done {Q:Exit→Act→World→Prop}{a:Act}{w:World}(h:T3 P R s No No id T)(hR:R a w)(hT:∀a w,T a w→Q .ret a w):s.wp P Q a w:=by
 refine wp_mono (h a w hR) ?_;intro e a w q;cases e with
 | normal=>exact q.elim
 | exit i=>exact q.2.elim
 | ret=>exact hT a w q
 | goto l=>exact q.elim
 | panic ch=>exact q.elim
 | outgrown=>exact q.elim
section
variable {n i:Nat}{x y:Code}{l:List (Nat×Value)}
include n i x y l
/-- An if on a slot that holds a known Boolean. -/
theorem T3.iff {M:Bool→World→Prop}(hi:i<n)(hx:T3 P (fun a w=>Fr n ((i,.bool true)::l) a∧M true w) x S X id T)(hy:T3 P (fun a w=>Fr n ((i,.bool false)::l) a∧M false w) y S X id T):T3 P (fun a w=>∃q,Fr n ((i,.bool q)::l) a∧M q w) (.cond (.tmp i) x y) S X id T:=by
 refine T3.cond _ _ ?_ hx hy;rintro a w ⟨q,hF,hM⟩;have he:=hF.eval i hi (v:=.bool q) (by simp);cases q
 ·exact .inr ⟨he,hF,hM⟩
 ·exact .inl ⟨he,hF,hM⟩
/-- A statement that finds a Boolean, and the if on it. -/
theorem T3.test {C:Bool→Prop}{W:World→Prop}(hi:i<n)(h:T3 P R s (fun a w=>∃q,Fr n ((i,.bool q)::l) a∧(C q∧W w)) X id T)(hx:T3 P (fun a w=>Fr n ((i,.bool true)::l) a∧C true∧W w) x S X id T)(hy:T3 P (fun a w=>C false∧W w∧Fr n l a) y S X id T):T3 P R (.seq s (.cond (.tmp i) x y)) S X id T :=
 h.seq (T3.iff (M:=fun q w=>C q∧W w) hi hx (hy.mono (fun _ _ q=>⟨q.2.1,q.2.2,q.1.tail⟩) (fun _ _ q=>q) (fun _ _ q=>q) (fun _ _ q=>q)))
end
theorem T3.pre (h:T3 P R s S X id T)(hR:∀a w,R' a w→R a w):T3 P R' s S X id T:=h.mono hR (fun _ _ q=>q) (fun _ _ q=>q) (fun _ _ q=>q)
theorem T3.post (h:T3 P R s S X id T)(hS:∀a w,S a w→S' a w):T3 P R s S' X id T:=h.mono (fun _ _ q=>q) hS (fun _ _ q=>q) (fun _ _ q=>q)
section
variable {P:Program}{R S S' X T:Rel}{id n i:Nat}{F:Code}{p:List Nat}{l:List (Nat×Value)}
theorem T3.sq (e:sel p F=.seq (sel (p++[0]) F) (sel (p++[1]) F))(h:T3 P R (sel (p++[0]) F) S X id T)(k:T3 P S (sel (p++[1]) F) S' X id T):T3 P R (sel p F) S' X id T:=by rw [e];exact h.seq k
theorem T3.sr (e:sel p F=.seq (sel (p++[0]) F) .ret)(h:T3 P R (sel (p++[0]) F) S X id T)(k:T3 P S .ret S' X id T):T3 P R (sel p F) S' X id T:=by rw [e];exact h.seq k
theorem T3.tt {C:Bool→Prop}{W:World→Prop}(e:sel p F=.seq (sel (p++[0]) F) (.cond (.tmp i) (sel (p++[1,2]) F) .skip))(hi:i<n)(h:T3 P R (sel (p++[0]) F) (fun a w=>∃q,Fr n ((i,.bool q)::l) a∧(C q∧W w)) X id T)(hx:T3 P (fun a w=>Fr n ((i,.bool true)::l) a∧C true∧W w) (sel (p++[1,2]) F) S X id T)(hy:T3 P (fun a w=>C false∧W w∧Fr n l a) .skip S X id T):T3 P R (sel p F) S X id T:=by rw [e];exact T3.test hi h hx hy
theorem Fr.r {xs:List Value}(hn:xs.length=n)(h:l.map (fun p=>xs.getD p.1 undef)=l.map Prod.snd):Fr n l ⟨xs.toArray,[]⟩:=by
 refine Fr.of xs hn ?_
 induction l with
 | nil=>trivial
 | cons q l ih =>
  simp only [List.map_cons,List.cons.injEq]at h;exact⟨h.1,ih h.2⟩
/-- A range loop: its counter goes from 0 to N. -/
theorem T3.range {b t c:Nat}{N:Int}{I J:Int→Rel}{l:Int→List (Nat×Value)}(e:sel p F=.block b (.loop (.seq (sel (p++[4,4,0]) F) (.seq (.cond (.tmp t) .skip (.exit b)) (.seq (sel (p++[4,4,1,1,0]) F) (sel (p++[4,4,1,1,1]) F))))))(ht:t<n)(test:∀k,T3 P (I k) (sel (p++[4,4,0]) F) (fun a w=>∃q,Fr n ((t,.bool q)::l k) a∧((q=true↔k<N)∧I k a w)) No 9 T)(inc:∀k,T3 P (J k) (sel (p++[4,4,1,1,1]) F) (I (k+1)) No 9 T)(hk:∀k a w,I k a w→0≤k∧k≤N)(body:∀k,0≤k∧k<N→T3 P (I k) (sel (p++[4,4,1,1,0]) F) (J k) No c T)(done:∀a w,I N a w→S a w):T3 P (I 0) (sel p F) S X id T:=by
 rw [e];refine T3.loop (fun ng a w=>∃k:Int,(ng:Int)=N-k∧I k a w) (fun a w h=>⟨N.toNat,0,by have:=hk 0 a w h;omega,h⟩) (fun ng=>T3.ex fun k=>T3.pure fun hng=>?_);refine T3.seq (test k).noX ?_;refine T3.seq (S:=fun a w=>(0≤k∧k<N)∧I k a w) ?_ (T3.pure fun hlt=>T3.seq (body k hlt).noX (T3.post (inc k).noX fun a w q=>⟨ng-1,by omega,k+1,by omega,q⟩));refine T3.cond (fun a w=>k<N∧I k a w) (fun a w=>¬k<N∧I k a w) ?_ (T3.skip fun a w q=>⟨⟨(hk k a w q.2).1,q.1⟩,q.2⟩) (T3.exit fun a w q=>?_)
 ·rintro a w ⟨q,hF,hq,hI⟩;have he:=hF.eval t ht (v:=.bool q) (by simp);cases q
  ·exact .inr ⟨he,(fun h=>by have:=hq.2 h;cases this),hI⟩
  ·exact .inl ⟨he,hq.1 rfl,hI⟩
 ·have:=(hk k a w q.2).2;obtain rfl:k=N:=by omega
  exact done a w q.2
end
theorem T3.noS (h:T3 P R s No X id T):T3 P R s S X id T:=h.post (fun _ _ q=>q.elim)
end
end Go.Bw
/-
  A region that draws its order and holds calls, met by a schedule: operations that read old cells or only compute are taken as soon as they may come up; of the others one at a time is left. No condition on a program.
-/
namespace Go.Bw
open Go.RowKit
section
variable {P:Program}{ops:Array Oper}{Q:Exit→Act→World→Prop}{S:World→Prop}{md:Region.Mode}
/-- The operation by itself. -/
def bare (o:Oper):Oper:={ o with after:=#[],guard:=none }
theorem wp_then {o:Oper}{a:Act}{w:World}{K K':Act→World→Prop}(h:o.wp P a w K (Exit.then K' Q)):o.wp P a w K Q:=by
 unfold Oper.wp at *;generalize (execOp a.eval o).run P w=r at *;cases r with
 | ok n w' =>
  cases n <;> simp only [Oper.upon]at h ⊢ <;>
   first
    | exact h
    | exact Calls.mono h (fun e w'' he=>by cases e <;> exact he)
 | halt x w'=>cases x <;> simp only [Oper.upon]at h ⊢ <;> exact h
def wpFlat (P:Program)(ops:Array Oper)(Q:Exit→Act→World→Prop)(S:World→Prop):List (Bool×Oper)→Act→World→Prop
 | [],a,w=>Q .normal a w
 | (true,o)::r,a,w=>∃v,YieldsIf P ops S o v a∧wpFlat P ops Q S r (a.put o.dst v) w
 | (false,o)::r,a,w=>if Region.wanted o (yielded ops a.tmps)then o.wp P a w (fun a w=>S w∧wpFlat P ops Q S r a w) Q∨(o.asks P a w∧LetsOut Q)else S w∧wpFlat P ops Q S r (a.put o.dst undef) w
def flatB (md:Region.Mode)(ops:Array Oper):List (Bool×Nat)→Array Bool→Bool
 | [],listed=>(Region.ready md ops listed).isEmpty
 | (true,i)::r,listed=>Region.free md ops listed i&&(Region.ready md ops listed).contains i&&flatB md ops r (listed.setIfInBounds i true)
 | (false,i)::r,listed=>decide (Region.ready md ops listed=[i])&&flatB md ops r (listed.setIfInBounds i true)
def pickFlat (l:List Oper)(is:List (Bool×Nat)):List (Bool×Oper):=is.filterMap fun p=>(l[p.2]?).map fun o=>(p.1,o)
theorem flat_H {l:List Oper}(hs:Region.noSelect l.toArray=true)(hQ:∀c a d v w,Q (.panic c) (Act.put a d v) w→Q (.panic c) a w):
  ∀(is:List (Bool×Nat)) (listed:Array Bool) (a:Act) (w:World),flatB md l.toArray is listed=true→(∀p∈is,p.2<l.length)→S w →
   wpFlat P l.toArray Q S (pickFlat l is) a w→wpAnyH P md l.toArray Q S is.length listed a w
 | [],listed,a,w,hB,_,_,h=>⟨by simpa [flatB] using hB,h⟩
 | (true,i)::is,listed,a,w,hB,hl,hS,h=>by
  simp only [flatB,Bool.and_eq_true]at hB;obtain⟨⟨hf,hr⟩,hB'⟩:=hB;have hi:i<l.length:=hl (true,i) (by simp);have h0:l.toArray[i]?=some l[i]:=by simp [hi]
  have hp:pickFlat l ((true,i)::is)=(true,l[i])::pickFlat l is:=by simp [pickFlat,List.getElem?_eq_getElem hi]
  rw [hp]at h;obtain⟨v,hy,hk⟩:=h;exact wpAnyH_take h0 hs hf hr (fun c a w=>hQ c a _ _ w) hy hS (flat_H hs hQ is _ _ w hB' (fun p hp=>hl p (by simp [hp])) hS hk)
 | (false,i)::is,listed,a,w,hB,hl,hS,h=>by
  simp only [flatB,Bool.and_eq_true,decide_eq_true_eq]at hB;obtain⟨hr,hB'⟩:=hB;have hi:i<l.length:=hl (false,i) (by simp);have hp:pickFlat l ((false,i)::is)=(false,l[i])::pickFlat l is:=by simp [pickFlat,List.getElem?_eq_getElem hi]
  rw [hp]at h;refine wpAnyH_all hr (by simp) fun j hj=>?_
  obtain rfl:j=i:=by simpa using hj
  have hw:wpOp P l.toArray Q j (fun a w=>S w∧wpFlat P l.toArray Q S (pickFlat l is) a w) a w:=by
   unfold wpOp;simp only [List.getElem?_toArray,List.getElem?_eq_getElem hi];exact h
  exact wpOp_mono (fun a' w' h'=>⟨h'.1,flat_H hs hQ is _ a' w' hB' (fun p hp=>hl p (by simp [hp])) h'.1 h'.2⟩) hw
theorem wp_region_flat {id:Nat}{a:Act}{w:World}{l:List Oper}(is:List (Bool×Nat))(hm:P.follows .mixedOrders=true)(hB:(Region.noSelect l.toArray&&flatB .any l.toArray is (Array.replicate l.length false)&&is.all (fun p=>decide (p.2<l.length))&&decide (is.length=l.length))=true)(hQ:∀c a d v w,Q (.panic c) (Act.put a d v) w→Q (.panic c) a w)(hS:S w.drew)(h:wpFlat P l.toArray Q S (pickFlat l is) a w.drew):(Code.region id l.toArray true).wp P Q a w:=by
 simp only [Bool.and_eq_true,decide_eq_true_eq,List.all_eq_true]at hB;obtain⟨⟨⟨hs,hc⟩,hlt⟩,hlen⟩:=hB;refine wp_region_held hm (S:=S) ?_;have:=flat_H hs hQ is (Array.replicate l.length false) a w.drew hc (fun p hp=>hlt p hp) hS h;rw [hlen]at this
 simpa using this
open Classical in
/-- The worlds that keep what there was, but for one row. -/
noncomputable def wof (w₁:World)(row:Option Nat)(i:World):World:=if w₁.grownBy i row then i else w₁
theorem wof_of {w₁ i:World}{row:Option Nat}(h:w₁.grownBy i row):wof w₁ row i=i:=by unfold wof;rw [if_pos h]
theorem wof_grown (w₁:World)(row:Option Nat)(i:World):w₁.grownBy (wof w₁ row i) row:=by
 unfold wof
 split
 ·assumption
 ·exact grown_refl _ _
theorem wof_at {w₁:World}{row:Option Nat}{a:Addr}{v:Value}(h:w₁.cell? a=some v)(hne:row≠some a.block)(i:World):(wof w₁ row i).cell? a=some v:=by
 have hlt:=World.block_lt_of_cell? w₁ a h;exact(World.cell?_of_block ((wof_grown w₁ row i).block a.block hlt (fun e=>hne e.symm))).trans h
/-- The same value in every world that keeps what there was, and nothing else. -/
def Oper.heldAt (P:Program)(w₁:World)(row:Option Nat)(o:Oper)(a:Act)(next:Act→Prop):Prop :=
 ∃v,(∀i,(execOp a.eval o).run P (wof w₁ row i)=.ok (.value v) (wof w₁ row i))∧next (a.put o.dst v)
attribute [go_sem] Oper.heldAt
/-- The schedule, met at a relation that hides what is to come. -/
theorem flat_hide {w₁:World} {row:Option Nat} {l:List (Bool×Oper)} {a:Act} {w:World} (h:∀W:List (Bool×Oper)→Act→World→Prop,
   Hid (∀o r a w,(∀K:Act→Prop,(∀a,W r a w→K a)→if Region.wanted o (yielded ops a.tmps)then Oper.heldAt P w₁ row o a K else K (a.put o.dst undef))→W ((true,o)::r) a w) →
   Hid (∀o r a w,Region.wanted o (yielded ops a.tmps)=true→(∀K:Act→World→Prop,Hid (∀a w,w₁.grownBy w row→W r a w→K a w)→wpList P [bare o].toArray (Exit.then K Q) [bare o] a w)→W ((false,o)::r) a w) →
   Hid (∀o r a w,w₁.grownBy w row→Region.wanted o (yielded ops a.tmps)=false→W r (a.put o.dst undef) w→W ((false,o)::r) a w) →
   Hid (∀a w,Q .normal a w→W [] a w)→W l a w):wpFlat P ops Q (fun w=>w₁.grownBy w row) l a w:=by
 refine h (wpFlat P ops Q (fun w=>w₁.grownBy w row)) (Lib.hid fun o r a w hk=>?_) (Lib.hid fun o r a w hw hk=>?_) (Lib.hid fun o r a w hS hw hk=>?_) (Lib.hid fun a w hk=>hk)
 ·have:=hk _ (fun _ h=>h);unfold wpFlat
  split at this
  ·rename_i hw
   obtain⟨v,hv,hn⟩:=this;exact⟨v,.inl ⟨hw,fun w' hw'=>by have:=hv w';rwa [wof_of hw']at this⟩,hn⟩
  ·rename_i hw
   exact⟨undef,.inr ⟨by simpa using hw,rfl⟩,this⟩
 ·have:=hk (fun a w=>w₁.grownBy w row∧wpFlat P ops Q (fun w=>w₁.grownBy w row) r a w) (Lib.hid fun _ _ h1 h2=>⟨h1,h2⟩);unfold wpList at this;rw [if_pos (show Region.wanted (bare o) (yielded [bare o].toArray a.tmps)=true from rfl)]at this;unfold wpFlat;rw [if_pos hw];rcases this with h1|⟨h1,h2⟩
  ·exact .inl (wp_then h1)
  ·exact .inr ⟨h1,h2⟩
 ·unfold wpFlat;rw [if_neg (by simp [hw])];exact⟨hS,hk⟩
/-- The region, met so. -/
theorem wp_region_mix {id:Nat}{a:Act}{w:World}{l:List Oper}(row:Option Nat)(is:List (Bool×Nat))(hm:P.follows .mixedOrders=true)(hB:(Region.noSelect l.toArray&&flatB .any l.toArray is (Array.replicate l.length false)&&is.all (fun p=>decide (p.2<l.length))&&decide (is.length=l.length))=true)(hQ:∀c a d v w,Q (.panic c) (Act.put a d v) w→Q (.panic c) a w)(h:wpFlat P l.toArray Q (fun w'=>w.drew.grownBy w' row) (pickFlat l is) a w.drew):(Code.region id l.toArray true).wp P Q a w :=
 wp_region_flat is hm hB hQ (grown_refl _ _) h
end
end Go.Bw
/-
  More on pieces: those that only go on; those that do not return. No condition on a program.
-/
namespace Go.Bw
open Go.RowKit
/-- An ending that only goes on. -/
def OnlyN (J:Rel):Exit→Act→World→Prop
 | .normal,a,w=>J a w
 | _,_,_=>False
theorem T3.leafN {P:Program}{R S X T:Rel}{s:Code}{id:Nat}(h:∀JS:Rel,(∀a w,S a w→JS a w)→∀a w,R a w→s.wp P (OnlyN JS) a w):T3 P R s S X id T:=by
 intro a w hR;refine wp_mono (h S (fun _ _ q=>q) a w hR) ?_;intro e a w q;cases e with
 | normal=>exact q
 | _=>exact q.elim
theorem T3.noT {P:Program}{R S X T:Rel}{s:Code}{id:Nat}(h:T3 P R s S X id No):T3 P R s S X id T :=
 h.mono (fun _ _ q=>q) (fun _ _ q=>q) (fun _ _ q=>q.elim) (fun _ _ q=>q)
end Go.Bw
/-
  Line-ups: what is wrong with slots (CheckSlots, SlotsFault). Conditions: at most 1000 slots; strings of at most 1000 bytes.
-/
namespace Go.Bw
open Go.RowKit
theorem t3x {P:Program}{n i:Nat}{l:List (Nat×Value)}{s:Code}{S X T:Rel}{id:Nat}{p:Prop}{C:Prop}{W:World→Prop}{R:Rel}(h:T3 P R s S X id T)(hR:∀a w,Fr n ((i,.bool true)::l) a∧C∧W w→p∧R a w):
  T3 P (fun a w=>Fr n ((i,.bool true)::l) a∧C∧W w) s (fun a w=>p∧S a w) X id T:=by
 intro a w q;obtain⟨hp,hr⟩:=hR a w q;refine wp_mono (h a w hr) ?_;intro e a w q;cases e with
 | normal=>exact⟨hp,q⟩
 | exit i=>exact q
 | ret=>exact q
 | goto l=>exact q
 | panic ch=>exact q
 | outgrown=>exact q
end Go.Bw
namespace Go.Proofs.YtnmdpphddimfbaaGreat
open Go.RowKit Go.Bw
theorem listNeed_ref (v:Value)(l:List ByteArray)(w:World)(h:PsH w v l):
  Calls Tryz.prog 53 #[v,.bool true] w fun e w'=>e=.returned (.int .i64 (posE l))∧Below w.heap.size w w':=by
 have H1:=Lib.hid (rising_ref v l.length l 0 w h.r (fun s hs=>by have:=h.z s hs;omega));obtain⟨q,d,rfl⟩:=h.r.shape;have hn:=h.n;clear h
 by_cases h0:l.length=0
 ·have HE:=Lib.hid (show(8:Int)=posE l by unfold posE;rw [if_pos h0]);rw [h0];clear H1 h0 hn
  go_enter Tryz.func53,Tryz.ntmps53
  go_wp2_with fail
  go_ret
  exact⟨ret_int HE.out,Below.refl _ _⟩
 ·have hb0:((l.length:Int)==0)=false:=by simp;intro e;exact h0 (by rw [e];rfl)
  by_cases h1:10<l.length
  ·have HE:=Lib.hid (show(2:Int)=posE l by unfold posE listE;rw [if_neg h0,if_pos h1]);clear H1 h0;generalize l.length=n at *;have h1:(10:Int)<n:=by omega
   go_enter Tryz.func53,Tryz.ntmps53
   go_wp2_with fail
   go_ret
   exact⟨ret_int HE.out,Below.refl _ _⟩
  ·have HE:=Lib.hid (show risingE l=posE l by unfold posE listE;rw [if_neg h0,if_neg h1]);clear h0;generalize risingE l=r at *;have h1:decide ((10:Int)<l.length)=false:=by simp;omega
   go_enter Tryz.func53,Tryz.ntmps53
   go_wp2_with fail
   refine H1.out.mono ?_;rintro e w1 ⟨rfl,hb⟩;have HB:=Lib.hid hb;clear hb;go_wp2_with fail
   go_ret
   exact⟨ret_int HE.out,HB.out⟩
/-- A slot in a box. -/
structure SlB (w:World)(g:Nat)(x:SlD):Prop where
 c0:w.cell? ⟨g,0,none⟩=some (.string x.key)
 c1:w.cell? ⟨g,1,none⟩=some x.pv
theorem SlB.new (w:World)(x:SlD)(e:TypeId):SlB (w.alloc (.cells #[.string x.key,x.pv] e)) w.heap.size x:=⟨cells_new w _ _ 0 _ rfl,cells_new w _ _ 1 _ rfl⟩
theorem SlB.below {w w':World}{g:Nat}{x:SlD}(h:SlB w g x)(b:Below w.heap.size w w'):SlB w' g x :=
 ⟨(b.cell (World.block_lt_of_cell? w _ h.c0)).trans h.c0,(b.cell (World.block_lt_of_cell? w _ h.c1)).trans h.c1⟩
/-- How many slots. -/
structure SlN (S:List SlD):Prop where
 lo:S.length≠0
 hi:S.length≤12
section
variable {S:List SlD}
include S
theorem slotsE_none (h:S.length=0):slotsE S=8:=by unfold slotsE;rw [if_pos h]
theorem slotsE_big (h0:S.length≠0)(h:12<S.length):slotsE S=2:=by unfold slotsE;rw [if_neg h0,if_pos h]
theorem slotsE_in (h:SlN S):slotsE S=firstErr (slotAt S) S.length:=by unfold slotsE;rw [if_neg h.lo,if_neg (by have:=h.hi;omega)]
theorem slotsE_hit (h:SlN S){k:Int}(h0:0≤k)(h1:k<S.length)(hn:NoErr (slotAt S) k)(hk:slotAt S k≠0):slotsE S=slotAt S k:=by rw [slotsE_in h];exact firstErr_hit hn h0 h1 hk
theorem slotsE_ok (h:SlN S)(hn:NoErr (slotAt S) S.length):slotsE S=0:=by rw [slotsE_in h];exact firstErr_none hn
end
theorem Row.firstN {α:Type}{enc:α→List Value}{sz:Nat}(henc:∀x,(enc x).length=sz){w:World}{cap b off:Nat}{l:List α}(h:Row w 0 sz (.slice (some ⟨b,off,none⟩) l.length cap) l.length (cellsOf enc l)){k:Int}(h0:0≤k)(hk:k≤l.length):
  Row w 0 sz (.slice (some ⟨b,off,none⟩) k.toNat cap) (l.take k.toNat).length (cellsOf enc (l.take k.toNat)):=by
 have e:(l.take k.toNat).length=k.toNat:=by rw [List.length_take];omega
 rw [e];exact Row.first henc h rfl (by omega)
noncomputable def spP:Code:=(Tryz.f23.body).getD .skip
theorem fr_spP (f:Nat→Value):frame 39 f=⟨#[f 0,f 1,f 2,f 3,f 4,f 5,f 6,f 7,f 8,f 9,f 10,f 11,f 12,f 13,f 14,f 15,f 16,f 17,f 18,f 19,f 20,f 21,f 22,f 23,f 24,f 25,f 26,f 27,f 28,f 29,f 30,f 31,f 32,f 33,f 34,f 35,f 36,f 37,f 38],[]⟩:=by rfl
section
variable (w0:World)(v:Value)(S:List SlD)(h:SlH w0 v S)
include h
theorem sp0:T3 Tryz.prog (fun a w=>(Below w0.heap.size w0 w)∧Fr 39 [(0,v)] a) (sel [0] spP) (fun a w=>(Below w0.heap.size w0 w)∧Fr 39 [(0,v)] a) No 9 (fun a w=>Fr 39 [(2,.int .i64 (slotsE S))] a∧Below w0.heap.size w0 w):=by
 refine T3.leaf ?_;rintro Q JS JX JT K hS hK hX hE hT hR a w ⟨hW,⟨fr,rfl,q0,_⟩⟩;have HW:=Lib.hid hW;have hsn:=h.n;obtain⟨p1,c1,rfl⟩:=h.r.shape;clear hW;rw [fr_spP,fe q0];clear q0;conv=>arg 2;whnf
 go_wp2_with fail
 refine Met.intro (hS _ _ ?_);exact⟨HW.out,Fr.of _ rfl ⟨rfl,trivial⟩⟩
theorem sp1:T3 Tryz.prog (fun a w=>(Below w0.heap.size w0 w)∧Fr 39 [(0,v)] a) (sel [1,0,4,0] spP) (fun a w=>∃q,Fr 39 ((6,.bool q)::[(0,v)]) a∧((q=((S.length:Int)==0))∧Below w0.heap.size w0 w)) No 9 (fun a w=>Fr 39 [(2,.int .i64 (slotsE S))] a∧Below w0.heap.size w0 w):=by
 refine T3.leaf ?_;rintro Q JS JX JT K hS hK hX hE hT hR a w ⟨hW,⟨fr,rfl,q0,_⟩⟩;have HW:=Lib.hid hW;have hsn:=h.n;obtain⟨p1,c1,rfl⟩:=h.r.shape;clear hW;generalize hq:((S.length:Int)==0)=q at *;rw [fr_spP,fe q0];clear q0;conv=>arg 2;whnf
 go_wp2_with fail
 refine Met.intro (hS _ _ ?_);exact⟨_,Fr.r rfl rfl,rfl,HW.out⟩
theorem sp2:T3 Tryz.prog (fun a w=>(Below w0.heap.size w0 w)∧Fr 39 [(0,v)] a) (sel [1,0,4,1,2,0] spP) (fun a w=>(Below w0.heap.size w0 w)∧Fr 39 [(2,.int .i64 8)] a) No 9 (fun a w=>Fr 39 [(2,.int .i64 (slotsE S))] a∧Below w0.heap.size w0 w):=by
 refine T3.leaf ?_;rintro Q JS JX JT K hS hK hX hE hT hR a w ⟨hW,⟨fr,rfl,q0,_⟩⟩;have HW:=Lib.hid hW;have hsn:=h.n;obtain⟨p1,c1,rfl⟩:=h.r.shape;clear hW;rw [fr_spP,fe q0];clear q0;conv=>arg 2;whnf
 go_wp2_with fail
 refine Met.intro (hS _ _ ?_);exact⟨HW.out,Fr.of _ rfl ⟨rfl,trivial⟩⟩
theorem sp3:T3 Tryz.prog (fun a w=>(Below w0.heap.size w0 w)∧Fr 39 [(0,v)] a) (sel [1,0,4,1,3,0] spP) (fun a w=>∃q,Fr 39 ((10,.bool q)::[(0,v)]) a∧((q=decide ((12:Int)<(S.length:Int)))∧Below w0.heap.size w0 w)) No 9 (fun a w=>Fr 39 [(2,.int .i64 (slotsE S))] a∧Below w0.heap.size w0 w):=by
 refine T3.leaf ?_;rintro Q JS JX JT K hS hK hX hE hT hR a w ⟨hW,⟨fr,rfl,q0,_⟩⟩;have HW:=Lib.hid hW;have hsn:=h.n;obtain⟨p1,c1,rfl⟩:=h.r.shape;clear hW;rw [fr_spP,fe q0];clear q0;conv=>arg 2;whnf
 go_wp2_with fail
 refine Met.intro (hS _ _ ?_);exact⟨_,Fr.r rfl rfl,rfl,HW.out⟩
theorem sp4:T3 Tryz.prog (fun a w=>(Below w0.heap.size w0 w)∧Fr 39 [(0,v)] a) (sel [1,0,4,1,3,1,2,0] spP) (fun a w=>(Below w0.heap.size w0 w)∧Fr 39 [(2,.int .i64 2)] a) No 9 (fun a w=>Fr 39 [(2,.int .i64 (slotsE S))] a∧Below w0.heap.size w0 w):=by
 refine T3.leaf ?_;rintro Q JS JX JT K hS hK hX hE hT hR a w ⟨hW,⟨fr,rfl,q0,_⟩⟩;have HW:=Lib.hid hW;have hsn:=h.n;obtain⟨p1,c1,rfl⟩:=h.r.shape;clear hW;rw [fr_spP,fe q0];clear q0;conv=>arg 2;whnf
 go_wp2_with fail
 refine Met.intro (hS _ _ ?_);exact⟨HW.out,Fr.of _ rfl ⟨rfl,trivial⟩⟩
theorem sp5 (hN:SlN S):T3 Tryz.prog (fun a w=>(Below w0.heap.size w0 w)∧Fr 39 [(0,v)] a) (sel [1,1,0,0] spP) (fun a w=>(0≤(0:Int)∧(0:Int)≤S.length)∧(NoErr (slotAt S) 0)∧(Below w0.heap.size w0 w)∧Fr 39 [(0,v),(14,v),(15,.int .i64 S.length),(16,.int .i64 0)] a) No 9 (fun a w=>Fr 39 [(2,.int .i64 (slotsE S))] a∧Below w0.heap.size w0 w):=by
 refine T3.leaf ?_;rintro Q JS JX JT K hS hK hX hE hT hR a w ⟨hW,⟨fr,rfl,q0,_⟩⟩;have HW:=Lib.hid hW;have hsn:=h.n;obtain⟨p1,c1,rfl⟩:=h.r.shape;clear hW;rw [fr_spP,fe q0];clear q0;conv=>arg 2;whnf
 go_wp2_with fail
 refine Met.intro (hS _ _ ?_);exact⟨⟨by omega,by omega⟩,NoErr.zero _,HW.out,Fr.r rfl rfl⟩
theorem sp7 (hN:SlN S)(k:Int):T3 Tryz.prog (fun a w=>((0≤k∧k<S.length)∧NoErr (slotAt S) k)∧(Below w0.heap.size w0 w)∧Fr 39 [(0,v),(14,v),(15,.int .i64 S.length),(16,.int .i64 k)] a) (sel [1,1,0,1,4,4,1,1,0,4,0] spP) (fun a w=>∃(g4:Nat),((0≤k∧k<S.length)∧NoErr (slotAt S) k)∧(Below w0.heap.size w0 w∧SlB w g4 (geta S k))∧Fr 39 [(0,v),(3,.int .i64 k),(4,.pointer (some ⟨g4,0,none⟩)),(14,v),(15,.int .i64 S.length),(16,.int .i64 k)] a) No 9 (fun a w=>Fr 39 [(2,.int .i64 (slotsE S))] a∧Below w0.heap.size w0 w):=by
 refine T3.leaf ?_;rintro Q JS JX JT K hS hK hX hE hT hR a w ⟨hpre,hW,⟨fr,rfl,q0,q14,q15,q16,_⟩⟩;have hpp:=Lib.hid hpre;obtain⟨⟨hk0,hk1⟩,_⟩:=hpre;have hsn:=h.n;have hHW:=Lib.hid hW;obtain⟨_,hcs⟩:=(h.below hW).r.els encSl_length (by decide);rcases hcs with ⟨rfl,h0⟩|⟨bz,off,cap,rfl,_,hbz,hnc,hcm,hcell⟩
 ·omega
 have t0:=hcell k hk0 hk1 0 _ rfl;have t1:=hcell k hk0 hk1 1 _ rfl;rw [Nat.add_zero]at t0;have HB:=Lib.hid (SlB.new w (geta S k) 72);have HA:=Lib.hid (fun o=>(Below.refl w.heap.size w).alloc (Nat.le_refl _) o);obtain⟨q,d,hq⟩:=(h.p _ (geta_mem hk0 hk1)).r.shape;clear hcell hW h;generalize geta S k=x at *;obtain⟨xk,xv,xps⟩:=x;simp only at hq t0 t1;subst hq;rw [fr_spP,fe q0,fe q14,fe q15,fe q16];clear q0 q14 q15 q16;conv=>arg 2;whnf
 go_wp2_with fail
 refine Met.intro (hS _ _ ?_);exact⟨_,hpp.out,⟨hHW.out.trans ((HA.out _).mono hHW.out.size),HB.out⟩,Fr.r rfl rfl⟩
section
variable (hN:SlN S)(k:Int)(g4:Nat)
include hN k g4
theorem sp8:T3 Tryz.prog (fun a w=>((0≤k∧k<S.length)∧NoErr (slotAt S) k)∧(Below w0.heap.size w0 w∧SlB w g4 (geta S k))∧Fr 39 [(0,v),(3,.int .i64 k),(4,.pointer (some ⟨g4,0,none⟩)),(14,v),(15,.int .i64 S.length),(16,.int .i64 k)] a) (sel [1,1,0,1,4,4,1,1,0,4,1,0,4,0] spP) (fun a w=>∃q,Fr 39 ((21,.bool q)::[(0,v),(3,.int .i64 k),(4,.pointer (some ⟨g4,0,none⟩)),(14,v),(15,.int .i64 S.length),(16,.int .i64 k)]) a∧((((0≤k∧k<S.length)∧NoErr (slotAt S) k)∧q=!keyB (geta S k).key)∧Below w0.heap.size w0 w∧SlB w g4 (geta S k))) No 9 (fun a w=>Fr 39 [(2,.int .i64 (slotsE S))] a∧Below w0.heap.size w0 w):=by
 refine T3.leaf ?_;rintro Q JS JX JT K hS hK hX hE hT hR a w ⟨hpre,hW,⟨fr,rfl,q0,q3,q4,q14,q15,q16,_⟩⟩;have hpp:=Lib.hid hpre;obtain⟨⟨hk0,hk1⟩,_⟩:=hpre;have hsn:=h.n;have HW:=Lib.hid hW;have hz:=h.z _ (geta_mem hk0 hk1);have HK:=Lib.hid (key_prog (geta S k).key w (by omega));have t0:=hW.2.c0;obtain⟨p1,c1,rfl⟩:=h.r.shape;clear h hW hz;generalize (geta S k).key=x at *;generalize keyB x=q at *;rw [fr_spP,fe q0,fe q3,fe q4,fe q14,fe q15,fe q16];clear q0 q3 q4 q14 q15 q16;conv=>arg 2;whnf
 go_wp2_with fail
 refine HK.out.mono ?_;rintro e w1 ⟨rfl,rfl⟩;go_wp2_with fail
 have hpre:=hpp.out;refine Met.intro (hS _ _ ?_);exact⟨_,Fr.r rfl rfl,⟨hpre,rfl⟩,HW.out⟩
theorem sp9:T3 Tryz.prog (fun a w=>(Below w0.heap.size w0 w∧SlB w g4 (geta S k))∧Fr 39 [(0,v),(3,.int .i64 k),(4,.pointer (some ⟨g4,0,none⟩)),(14,v),(15,.int .i64 S.length),(16,.int .i64 k)] a) (sel [1,1,0,1,4,4,1,1,0,4,1,0,4,1,2,0] spP) (fun a w=>(Below w0.heap.size w0 w)∧Fr 39 [(2,.int .i64 5)] a) No 9 (fun a w=>Fr 39 [(2,.int .i64 (slotsE S))] a∧Below w0.heap.size w0 w):=by
 refine T3.leaf ?_;rintro Q JS JX JT K hS hK hX hE hT hR a w ⟨hW,⟨fr,rfl,q0,q3,q4,q14,q15,q16,_⟩⟩;have HW:=Lib.hid hW;clear hW;obtain⟨p1,c1,rfl⟩:=h.r.shape;rw [fr_spP,fe q0,fe q3,fe q4,fe q14,fe q15,fe q16];clear q0 q3 q4 q14 q15 q16;conv=>arg 2;whnf
 go_wp2_with fail
 refine Met.intro (hS _ _ ?_);exact⟨HW.out.1,Fr.of _ rfl ⟨rfl,trivial⟩⟩
theorem sp10:T3 Tryz.prog (fun a w=>((0≤k∧k<S.length)∧NoErr (slotAt S) k)∧(Below w0.heap.size w0 w∧SlB w g4 (geta S k))∧Fr 39 [(0,v),(3,.int .i64 k),(4,.pointer (some ⟨g4,0,none⟩)),(14,v),(15,.int .i64 S.length),(16,.int .i64 k)] a) (sel [1,1,0,1,4,4,1,1,0,4,1,0,4,1,3,0] spP) (fun a w=>∃q,Fr 39 ((26,.bool q)::[(0,v),(3,.int .i64 k),(4,.pointer (some ⟨g4,0,none⟩)),(14,v),(15,.int .i64 S.length),(16,.int .i64 k)]) a∧((((0≤k∧k<S.length)∧NoErr (slotAt S) k)∧q=slotDup S k)∧Below w0.heap.size w0 w∧SlB w g4 (geta S k))) No 9 (fun a w=>Fr 39 [(2,.int .i64 (slotsE S))] a∧Below w0.heap.size w0 w):=by
 refine T3.leaf ?_;rintro Q JS JX JT K hS hK hX hE hT hR a w ⟨hpre,hW,⟨fr,rfl,q0,q3,q4,q14,q15,q16,_⟩⟩;have hpp:=Lib.hid hpre;obtain⟨⟨hk0,hk1⟩,_⟩:=hpre;have hsn:=h.n;have HW:=Lib.hid hW;have hR:=(h.below hW.1).r;have hb4:=hW.2.c0;rcases hR.2 with ⟨hv,h0⟩|⟨bz,off,cap,hv,_,hbz,hnc,hcm,hcell⟩
 ·omega
 subst hv;simp only [maxLen]at hcm;have HC:=Lib.hid (any_sl 65 Tryz.call65 (.pointer (some ⟨g4,0,none⟩)) _ (S.take k.toNat) (fun y=>decide (y.key=(geta S k).key)) 0 w (Row.firstN encSl_length hR hk0 (by omega)) (by rw [List.length_take];omega) (fun y _ w1 hb=>cl_slC y.key y.pv (geta S k).key g4 w1 ((hb.cell (World.block_lt_of_cell? w _ hb4)).trans hb4)));have hbq:(0:Int)≤k∧k≤S.length∧(S.length:Int)≤cap:=by omega
 have HE:=Lib.hid (show(S.take k.toNat).any (fun y=>decide (y.key=(geta S k).key))=slotDup S k from rfl);rw [HE.out]at HC;clear hcell hR h hb4 hW;generalize slotDup S k=q at *;rw [fr_spP,fe q0,fe q3,fe q4,fe q14,fe q15,fe q16];clear q0 q3 q4 q14 q15 q16;conv=>arg 2;whnf
 go_wp2_with fail
 refine HC.out.mono ?_;rintro e w1 ⟨rfl,hb⟩;have HR:=Lib.hid (show Below w0.heap.size w0 w1∧SlB w1 g4 (geta S k)from⟨HW.out.1.trans (hb.mono HW.out.1.size),HW.out.2.below hb⟩);clear hb;go_wp2_with fail
 have hpre:=hpp.out;refine Met.intro (hS _ _ ?_);exact⟨_,Fr.r rfl rfl,⟨hpre,rfl⟩,HR.out⟩
theorem sp11:T3 Tryz.prog (fun a w=>(Below w0.heap.size w0 w∧SlB w g4 (geta S k))∧Fr 39 [(0,v),(3,.int .i64 k),(4,.pointer (some ⟨g4,0,none⟩)),(14,v),(15,.int .i64 S.length),(16,.int .i64 k)] a) (sel [1,1,0,1,4,4,1,1,0,4,1,0,4,1,3,1,2,0] spP) (fun a w=>(Below w0.heap.size w0 w)∧Fr 39 [(2,.int .i64 6)] a) No 9 (fun a w=>Fr 39 [(2,.int .i64 (slotsE S))] a∧Below w0.heap.size w0 w):=by
 refine T3.leaf ?_;rintro Q JS JX JT K hS hK hX hE hT hR a w ⟨hW,⟨fr,rfl,q0,q3,q4,q14,q15,q16,_⟩⟩;have HW:=Lib.hid hW;clear hW;obtain⟨p1,c1,rfl⟩:=h.r.shape;rw [fr_spP,fe q0,fe q3,fe q4,fe q14,fe q15,fe q16];clear q0 q3 q4 q14 q15 q16;conv=>arg 2;whnf
 go_wp2_with fail
 refine Met.intro (hS _ _ ?_);exact⟨HW.out.1,Fr.of _ rfl ⟨rfl,trivial⟩⟩
theorem sp12:T3 Tryz.prog (fun a w=>((0≤k∧k<S.length)∧NoErr (slotAt S) k)∧(Below w0.heap.size w0 w∧SlB w g4 (geta S k))∧Fr 39 [(0,v),(3,.int .i64 k),(4,.pointer (some ⟨g4,0,none⟩)),(14,v),(15,.int .i64 S.length),(16,.int .i64 k)] a) (sel [1,1,0,1,4,4,1,1,0,4,1,1,0] spP) (fun a w=>((0≤k∧k<S.length)∧NoErr (slotAt S) k)∧(Below w0.heap.size w0 w∧SlB w g4 (geta S k))∧Fr 39 [(0,v),(3,.int .i64 k),(4,.pointer (some ⟨g4,0,none⟩)),(5,.int .i64 (posE (geta S k).ps)),(14,v),(15,.int .i64 S.length),(16,.int .i64 k)] a) No 9 (fun a w=>Fr 39 [(2,.int .i64 (slotsE S))] a∧Below w0.heap.size w0 w):=by
 refine T3.leaf ?_;rintro Q JS JX JT K hS hK hX hE hT hR a w ⟨hpre,hW,⟨fr,rfl,q0,q3,q4,q14,q15,q16,_⟩⟩;have hpp:=Lib.hid hpre;obtain⟨⟨hk0,hk1⟩,_⟩:=hpre;have hsn:=h.n;have HW:=Lib.hid hW;have HK:=Lib.hid (positions_prog (geta S k).pv (geta S k).ps w ((h.p _ (geta_mem hk0 hk1)).below hW.1));have t1:=hW.2.c1;obtain⟨q,d,hq⟩:=(h.p _ (geta_mem hk0 hk1)).r.shape;obtain⟨p1,c1,rfl⟩:=h.r.shape;clear h hW;generalize posE (geta S k).ps=e0 at *;generalize hx:(geta S k).pv=x at *;subst hq;rw [fr_spP,fe q0,fe q3,fe q4,fe q14,fe q15,fe q16];clear q0 q3 q4 q14 q15 q16;conv=>arg 2;whnf
 go_wp2_with fail
 refine HK.out.mono ?_;rintro e w1 ⟨rfl,hb⟩;have HR:=Lib.hid (show Below w0.heap.size w0 w1∧SlB w1 g4 (geta S k)from⟨HW.out.1.trans (hb.mono HW.out.1.size),HW.out.2.below hb⟩);clear hb;go_wp2_with fail
 refine Met.intro (hS _ _ ?_);exact⟨hpp.out,HR.out,Fr.r rfl rfl⟩
theorem sp13:T3 Tryz.prog (fun a w=>((0≤k∧k<S.length)∧NoErr (slotAt S) k)∧(Below w0.heap.size w0 w∧SlB w g4 (geta S k))∧Fr 39 [(0,v),(3,.int .i64 k),(4,.pointer (some ⟨g4,0,none⟩)),(5,.int .i64 (posE (geta S k).ps)),(14,v),(15,.int .i64 S.length),(16,.int .i64 k)] a) (sel [1,1,0,1,4,4,1,1,0,4,1,1,1,0] spP) (fun a w=>∃q,Fr 39 ((36,.bool q)::[(0,v),(3,.int .i64 k),(4,.pointer (some ⟨g4,0,none⟩)),(5,.int .i64 (posE (geta S k).ps)),(14,v),(15,.int .i64 S.length),(16,.int .i64 k)]) a∧((((0≤k∧k<S.length)∧NoErr (slotAt S) k)∧q=(posE (geta S k).ps != 0))∧Below w0.heap.size w0 w∧SlB w g4 (geta S k))) No 9 (fun a w=>Fr 39 [(2,.int .i64 (slotsE S))] a∧Below w0.heap.size w0 w):=by
 refine T3.leaf ?_;rintro Q JS JX JT K hS hK hX hE hT hR a w ⟨hpre,hW,⟨fr,rfl,q0,q3,q4,q5,q14,q15,q16,_⟩⟩;have hpp:=Lib.hid hpre;obtain⟨⟨hk0,hk1⟩,_⟩:=hpre;have hsn:=h.n;have HW:=Lib.hid hW;obtain⟨p1,c1,rfl⟩:=h.r.shape;clear hW;generalize posE (geta S k).ps=e0 at *;generalize hqq:(e0 != 0)=qq at *;rw [fr_spP,fe q0,fe q3,fe q4,fe q5,fe q14,fe q15,fe q16];clear q0 q3 q4 q5 q14 q15 q16;conv=>arg 2;whnf
 go_wp2_with fail
 have hpre:=hpp.out;refine Met.intro (hS _ _ ?_);exact⟨_,Fr.r rfl rfl,⟨hpre,rfl⟩,HW.out⟩
theorem sp14:T3 Tryz.prog (fun a w=>(Below w0.heap.size w0 w∧SlB w g4 (geta S k))∧Fr 39 [(0,v),(3,.int .i64 k),(4,.pointer (some ⟨g4,0,none⟩)),(5,.int .i64 (posE (geta S k).ps)),(14,v),(15,.int .i64 S.length),(16,.int .i64 k)] a) (sel [1,1,0,1,4,4,1,1,0,4,1,1,1,1,2,0] spP) (fun a w=>(Below w0.heap.size w0 w)∧Fr 39 [(2,.int .i64 (posE (geta S k).ps))] a) No 9 (fun a w=>Fr 39 [(2,.int .i64 (slotsE S))] a∧Below w0.heap.size w0 w):=by
 refine T3.leaf ?_;rintro Q JS JX JT K hS hK hX hE hT hR a w ⟨hW,⟨fr,rfl,q0,q3,q4,q5,q14,q15,q16,_⟩⟩;have HW:=Lib.hid hW;clear hW;obtain⟨p1,c1,rfl⟩:=h.r.shape;generalize posE (geta S k).ps=e0 at *;rw [fr_spP,fe q0,fe q3,fe q4,fe q5,fe q14,fe q15,fe q16];clear q0 q3 q4 q5 q14 q15 q16;conv=>arg 2;whnf
 go_wp2_with fail
 refine Met.intro (hS _ _ ?_);exact⟨HW.out.1,Fr.of _ rfl ⟨rfl,trivial⟩⟩
end
theorem sp16:T3 Tryz.prog (fun a w=>(Below w0.heap.size w0 w)∧Fr 39 [] a) (sel [1,1,1,0] spP) (fun a w=>(Below w0.heap.size w0 w)∧Fr 39 [(2,.int .i64 0)] a) No 9 (fun a w=>Fr 39 [(2,.int .i64 (slotsE S))] a∧Below w0.heap.size w0 w):=by
 refine T3.leaf ?_;rintro Q JS JX JT K hS hK hX hE hT hR a w ⟨hW,⟨fr,rfl,_⟩⟩;have HW:=Lib.hid hW;clear hW;rw [fr_spP];conv=>arg 2;whnf
 go_wp2_with fail
 refine Met.intro (hS _ _ ?_);exact⟨HW.out,Fr.of _ rfl ⟨rfl,trivial⟩⟩
section
variable (hN:SlN S)(k:Int)
include hN k
theorem spb:T3 Tryz.prog (fun a w=>((0≤k∧k<S.length)∧NoErr (slotAt S) k)∧(Below w0.heap.size w0 w)∧Fr 39 [(0,v),(14,v),(15,.int .i64 S.length),(16,.int .i64 k)] a) (sel [1,1,0,1,4,4,1,1,0] spP) (fun a w=>((0≤k∧k<S.length)∧NoErr (slotAt S) (k+1))∧(Below w0.heap.size w0 w)∧Fr 39 [(0,v),(14,v),(15,.int .i64 S.length),(16,.int .i64 k)] a) No 100 (fun a w=>Fr 39 [(2,.int .i64 (slotsE S))] a∧Below w0.heap.size w0 w):=by
 refine T3.block (id':=2) (c:=(sel [1,1,0,1,4,4,1,1,0,4] spP)) (by decide) ?_;refine T3.sq rfl ((sp7 w0 v S h hN k).noX) (T3.ex fun g4=>?_);refine T3.sq rfl (S:=fun a w=>(keyB (geta S k).key=true∧slotDup S k=false)∧((0≤k∧k<S.length)∧NoErr (slotAt S) k)∧(Below w0.heap.size w0 w∧SlB w g4 (geta S k))∧Fr 39 [(0,v),(3,.int .i64 k),(4,.pointer (some ⟨g4,0,none⟩)),(14,v),(15,.int .i64 S.length),(16,.int .i64 k)] a) ?_ (T3.pure fun hkd=>?_)
 ·refine T3.block (id':=3) (c:=(sel [1,1,0,1,4,4,1,1,0,4,1,0,4] spP)) (by decide) ?_;refine T3.test (s:=(sel [1,1,0,1,4,4,1,1,0,4,1,0,4,0] spP)) (x:=(sel [1,1,0,1,4,4,1,1,0,4,1,0,4,1,2] spP)) (y:=(sel [1,1,0,1,4,4,1,1,0,4,1,0,4,1,3] spP)) (C:=fun q=>(((0≤k∧k<S.length)∧NoErr (slotAt S) k)∧q=!keyB (geta S k).key)) (W:=fun w=>Below w0.heap.size w0 w∧SlB w g4 (geta S k)) (by decide) ((sp8 w0 v S h hN k g4).noX) ?_ ?_
  ·refine T3.sr rfl (t3x (p:=((0≤k∧k<S.length)∧NoErr (slotAt S) k)∧keyB (geta S k).key=false) ((sp9 w0 v S h hN k g4).noX) ?_) (T3.ret ?_)
   ·rintro a w ⟨hF,⟨hk,hq⟩,hW⟩;exact⟨⟨hk,by simpa using hq.symm⟩,hW,hF.tail⟩
   ·rintro a w ⟨⟨hk,hne⟩,hW,hF⟩;have e:slotAt S k=5:=by unfold slotAt;rw [if_pos hne]
    exact⟨by rw [slotsE_hit hN hk.1.1 hk.1.2 hk.2 (by rw [e];decide),e];exact hF,hW⟩
  ·refine T3.pre (R:=fun a w=>(keyB (geta S k).key=true)∧((0≤k∧k<S.length)∧NoErr (slotAt S) k)∧(Below w0.heap.size w0 w∧SlB w g4 (geta S k))∧Fr 39 [(0,v),(3,.int .i64 k),(4,.pointer (some ⟨g4,0,none⟩)),(14,v),(15,.int .i64 S.length),(16,.int .i64 k)] a) (T3.pure fun hky=>?_) (fun a w q=>⟨by simpa using q.1.2.symm,q.1.1,q.2.1,q.2.2⟩);refine T3.tt rfl (C:=fun q=>(((0≤k∧k<S.length)∧NoErr (slotAt S) k)∧q=slotDup S k)) (W:=fun w=>Below w0.heap.size w0 w∧SlB w g4 (geta S k)) (by decide) ((sp10 w0 v S h hN k g4).noX) ?_ (T3.skip ?_)
   ·refine T3.sr rfl (t3x (p:=((0≤k∧k<S.length)∧NoErr (slotAt S) k)∧(keyB (geta S k).key=true∧slotDup S k=true)) ((sp11 w0 v S h hN k g4).noX) ?_) (T3.ret ?_)
    ·rintro a w ⟨hF,⟨hk,hq⟩,hW⟩;exact⟨⟨hk,hky,hq.symm⟩,hW,hF.tail⟩
    ·rintro a w ⟨⟨hk,hne⟩,hW,hF⟩;have e:slotAt S k=6:=by unfold slotAt;rw [if_neg (by rw [hne.1];decide),if_pos hne.2]
     exact⟨by rw [slotsE_hit hN hk.1.1 hk.1.2 hk.2 (by rw [e];decide),e];exact hF,hW⟩
   ·rintro a w ⟨⟨hk,hq⟩,hW,hF⟩;exact⟨⟨hky,hq.symm⟩,hk,hW,hF⟩
 refine T3.sq rfl ((sp12 w0 v S h hN k g4).noX) ?_;refine T3.tt rfl (C:=fun q=>(((0≤k∧k<S.length)∧NoErr (slotAt S) k)∧q=(posE (geta S k).ps != 0))) (W:=fun w=>Below w0.heap.size w0 w∧SlB w g4 (geta S k)) (by decide) ((sp13 w0 v S h hN k g4).noX) ?_ (T3.skip ?_)
 ·refine T3.sr rfl (t3x (p:=((0≤k∧k<S.length)∧NoErr (slotAt S) k)∧(keyB (geta S k).key=true∧slotDup S k=false∧posE (geta S k).ps≠0)) ((sp14 w0 v S h hN k g4).noX) ?_) (T3.ret ?_)
  ·rintro a w ⟨hF,⟨hk,hq⟩,hW⟩;exact⟨⟨hk,hkd.1,hkd.2,by simpa using hq.symm⟩,hW,hF.tail⟩
  ·rintro a w ⟨⟨hk,hne⟩,hW,hF⟩;have e:slotAt S k=posE (geta S k).ps:=by unfold slotAt;rw [if_neg (by rw [hne.1];decide),if_neg (by rw [hne.2.1];decide)]
   exact⟨by rw [slotsE_hit hN hk.1.1 hk.1.2 hk.2 (by rw [e];exact hne.2.2),e];exact hF,hW⟩
 ·rintro a w ⟨⟨hk,hq⟩,hW,hF⟩;refine⟨⟨hk.1,hk.2.step ?_⟩,hW.1,hF.sub (by simp)⟩;unfold slotAt;rw [if_neg (by rw [hkd.1];decide),if_neg (by rw [hkd.2];decide)]
  simpa using hq.symm
def spLI (w0:World)(v:Value)(S:List SlD)(h:SlH w0 v S)(hN:SlN S)(k:Int)(a:Act)(w:World):Prop:=(0≤k∧k≤S.length)∧(NoErr (slotAt S) k)∧(Below w0.heap.size w0 w)∧Fr 39 [(0,v),(14,v),(15,.int .i64 S.length),(16,.int .i64 k)] a
theorem spLt:T3 Tryz.prog (fun a w=>spLI w0 v S h hN k a w) (sel [1,1,0,1,4,4,0] spP) (fun a w=>∃q,Fr 39 ((17,.bool q)::[(16,.int .i64 k)]) a∧((q=true↔k<S.length)∧spLI w0 v S h hN k a w)) No 9 (fun a w=>Fr 39 [(2,.int .i64 (slotsE S))] a∧Below w0.heap.size w0 w):=by
 refine T3.leaf ?_;rintro Q JS JX JT K hS hK hX hE hT hR a w ⟨hk,hpre,hW,⟨fr,rfl,q0,q14,q15,q16,_⟩⟩;have hln:=h.n;rw [fr_spP,fe q0,fe q14,fe q15,fe q16];clear q0 q14 q15 q16;conv=>arg 2;whnf
 by_cases hlt:k<S.length
 ·go_wp2_with fail
  refine Met.intro (hS _ _ ?_);exact⟨true,Fr.r rfl rfl,⟨fun _=>hlt,fun _=>rfl⟩,hk,hpre,hW,Fr.r rfl rfl⟩
 ·have hpb:decide (k<(S.length:Int))=false:=by simp;omega
  go_wp2_with fail
  refine Met.intro (hS _ _ ?_);exact⟨false,Fr.r rfl rfl,⟨(fun h=>by cases h),fun h=>absurd h (by omega)⟩,hk,hpre,hW,Fr.r rfl rfl⟩
theorem spLn:T3 Tryz.prog (fun a w=>(0≤k∧k<S.length)∧(NoErr (slotAt S) (k+1))∧(Below w0.heap.size w0 w)∧Fr 39 [(0,v),(14,v),(15,.int .i64 S.length),(16,.int .i64 k)] a) (sel [1,1,0,1,4,4,1,1,1] spP) (fun a w=>spLI w0 v S h hN (k+1) a w) No 9 (fun a w=>Fr 39 [(2,.int .i64 (slotsE S))] a∧Below w0.heap.size w0 w):=by
 refine T3.leaf ?_;rintro Q JS JX JT K hS hK hX hE hT hR a w ⟨hk,hpre,hW,⟨fr,rfl,q0,q14,q15,q16,_⟩⟩;obtain⟨hk0,hk1⟩:=hk;have hln:=h.n;rw [fr_spP,fe q0,fe q14,fe q15,fe q16];clear q0 q14 q15 q16;conv=>arg 2;whnf
 go_wp2_with fail
 refine Met.intro (hS _ _ ?_);exact⟨⟨by omega,by omega⟩,hpre,hW,Fr.r rfl rfl⟩
end
theorem spLloop (hN:SlN S):T3 Tryz.prog (fun a w=>spLI w0 v S h hN 0 a w) (sel [1,1,0,1] spP) (fun a w=>(NoErr (slotAt S) S.length)∧(Below w0.heap.size w0 w)∧Fr 39 [] a) No 9 (fun a w=>Fr 39 [(2,.int .i64 (slotsE S))] a∧Below w0.heap.size w0 w) :=
 T3.range (I:=spLI w0 v S h hN) rfl (by decide) (spLt w0 v S h hN) (spLn w0 v S h hN) (fun _ _ _ h=>h.1) (fun k hk=>T3.mono (spb w0 v S h hN k) (fun a w ⟨_,hp,hI⟩=>⟨⟨hk,hp⟩,hI⟩) (fun a w ⟨⟨hk,hp⟩,hI⟩=>⟨hk,hp,hI⟩) (fun _ _ q=>q) (fun _ _ q=>q)) (fun a w hI=>by
  obtain⟨hk,hI⟩:=hI;obtain⟨hn,hW,hF⟩:=hI;exact⟨hn,hW,hF.sub (by simp)⟩)
theorem sp_all:T3 Tryz.prog (fun a w=>(Below w0.heap.size w0 w)∧Fr 39 [(0,v)] a) spP No No 9 (fun a w=>Fr 39 [(2,.int .i64 (slotsE S))] a∧Below w0.heap.size w0 w):=by
 refine T3.seq (s:=(sel [0] spP)) (c:=(sel [1] spP)) (sp0 w0 v S h) ?_;refine T3.sq rfl (S:=fun a w=>(SlN S)∧(Below w0.heap.size w0 w)∧Fr 39 [(0,v)] a) ?_ (T3.pure fun hN=>?_)
 ·refine T3.block (id':=0) (c:=(sel [1,0,4] spP)) (by decide) ?_;refine T3.test (s:=(sel [1,0,4,0] spP)) (x:=(sel [1,0,4,1,2] spP)) (y:=(sel [1,0,4,1,3] spP)) (C:=fun q=>(q=((S.length:Int)==0))) (W:=fun w=>Below w0.heap.size w0 w) (by decide) ((sp1 w0 v S h).noX) ?_ ?_
  ·refine T3.sr rfl (t3x (p:=S.length=0) ((sp2 w0 v S h).noX) ?_) (T3.ret ?_)
   ·rintro a w ⟨hF,hq,hW⟩;exact⟨by have:=hq.symm;simpa using this,hW,hF.tail⟩
   ·rintro a w ⟨hp,hW,hF⟩;exact⟨by rw [slotsE_none hp];exact hF,hW⟩
  ·refine T3.pre (R:=fun a w=>(S.length≠0)∧(Below w0.heap.size w0 w)∧Fr 39 [(0,v)] a) (T3.pure fun hl=>?_) (fun a w q=>⟨by have:=q.1.symm;simpa using this,q.2⟩);refine T3.tt rfl (C:=fun q=>(q=decide ((12:Int)<(S.length:Int)))) (W:=fun w=>Below w0.heap.size w0 w) (by decide) ((sp3 w0 v S h).noX) ?_ (T3.skip ?_)
   ·refine T3.sr rfl (t3x (p:=12<S.length) ((sp4 w0 v S h).noX) ?_) (T3.ret ?_)
    ·rintro a w ⟨hF,hq,hW⟩;exact⟨by have:=of_decide_eq_true hq.symm;omega,hW,hF.tail⟩
    ·rintro a w ⟨hp,hW,hF⟩;exact⟨by rw [slotsE_big hl hp];exact hF,hW⟩
   ·rintro a w ⟨hq,hW,hF⟩;exact⟨⟨hl,by have:=of_decide_eq_false hq.symm;omega⟩,hW,hF⟩
 refine T3.sq rfl (T3.seq (s:=(sel [1,1,0,0] spP)) (c:=(sel [1,1,0,1] spP)) (sp5 w0 v S h hN) (spLloop w0 v S h hN)) (T3.pure fun hn=>?_);refine T3.sr rfl (sp16 w0 v S h) (T3.ret ?_);rintro a w ⟨hW,hF⟩;exact⟨by rw [slotsE_ok hN hn];exact hF,hW⟩
theorem slots_prog:Calls Tryz.prog 23 #[v] w0 fun e w'=>e=.returned (.int .i64 (slotsE S))∧Below w0.heap.size w0 w':=by
 have hall:=sp_all w0 v S h
 go_enter Tryz.func23,Tryz.ntmps23
 refine T3.done (s:=spP) hall ⟨Below.refl _ _,Fr.of _ rfl ⟨rfl,trivial⟩⟩ ?_;rintro a w ⟨⟨fr,rfl,q2,_⟩,hw⟩;rw [fr_spP,fe q2]
 go_ret
 exact⟨rfl,hw⟩
end
noncomputable def srR:Code:=(Tryz.f13.body).getD .skip
theorem fr_srR (f:Nat→Value):frame 37 f=⟨#[f 0,f 1,f 2,f 3,f 4,f 5,f 6,f 7,f 8,f 9,f 10,f 11,f 12,f 13,f 14,f 15,f 16,f 17,f 18,f 19,f 20,f 21,f 22,f 23,f 24,f 25,f 26,f 27,f 28,f 29,f 30,f 31,f 32,f 33,f 34,f 35,f 36],[]⟩:=by rfl
section
variable (w0:World)(v:Value)(S:List SlD)(h:SlH w0 v S)
include h
theorem sr0:T3 Tryz.prog (fun a w=>(Below w0.heap.size w0 w)∧Fr 37 [(0,v)] a) (sel [0] srR) (fun a w=>(Below w0.heap.size w0 w)∧Fr 37 [(0,v)] a) No 9 (fun a w=>Fr 37 [(2,.int .i64 (slotsE S))] a∧Below w0.heap.size w0 w):=by
 refine T3.leaf ?_;rintro Q JS JX JT K hS hK hX hE hT hR a w ⟨hW,⟨fr,rfl,q0,_⟩⟩;have HW:=Lib.hid hW;have hsn:=h.n;obtain⟨p1,c1,rfl⟩:=h.r.shape;clear hW;rw [fr_srR,fe q0];clear q0;conv=>arg 2;whnf
 go_wp2_with fail
 refine Met.intro (hS _ _ ?_);exact⟨HW.out,Fr.of _ rfl ⟨rfl,trivial⟩⟩
theorem sr1:T3 Tryz.prog (fun a w=>(Below w0.heap.size w0 w)∧Fr 37 [(0,v)] a) (sel [1,0,4,0] srR) (fun a w=>∃q,Fr 37 ((6,.bool q)::[(0,v)]) a∧((q=((S.length:Int)==0))∧Below w0.heap.size w0 w)) No 9 (fun a w=>Fr 37 [(2,.int .i64 (slotsE S))] a∧Below w0.heap.size w0 w):=by
 refine T3.leaf ?_;rintro Q JS JX JT K hS hK hX hE hT hR a w ⟨hW,⟨fr,rfl,q0,_⟩⟩;have HW:=Lib.hid hW;have hsn:=h.n;obtain⟨p1,c1,rfl⟩:=h.r.shape;clear hW;generalize hq:((S.length:Int)==0)=q at *;rw [fr_srR,fe q0];clear q0;conv=>arg 2;whnf
 go_wp2_with fail
 refine Met.intro (hS _ _ ?_);exact⟨_,Fr.r rfl rfl,rfl,HW.out⟩
theorem sr2:T3 Tryz.prog (fun a w=>(Below w0.heap.size w0 w)∧Fr 37 [(0,v)] a) (sel [1,0,4,1,2,0] srR) (fun a w=>(Below w0.heap.size w0 w)∧Fr 37 [(2,.int .i64 8)] a) No 9 (fun a w=>Fr 37 [(2,.int .i64 (slotsE S))] a∧Below w0.heap.size w0 w):=by
 refine T3.leaf ?_;rintro Q JS JX JT K hS hK hX hE hT hR a w ⟨hW,⟨fr,rfl,q0,_⟩⟩;have HW:=Lib.hid hW;have hsn:=h.n;obtain⟨p1,c1,rfl⟩:=h.r.shape;clear hW;rw [fr_srR,fe q0];clear q0;conv=>arg 2;whnf
 go_wp2_with fail
 refine Met.intro (hS _ _ ?_);exact⟨HW.out,Fr.of _ rfl ⟨rfl,trivial⟩⟩
theorem sr3:T3 Tryz.prog (fun a w=>(Below w0.heap.size w0 w)∧Fr 37 [(0,v)] a) (sel [1,0,4,1,3,0] srR) (fun a w=>∃q,Fr 37 ((10,.bool q)::[(0,v)]) a∧((q=decide ((12:Int)<(S.length:Int)))∧Below w0.heap.size w0 w)) No 9 (fun a w=>Fr 37 [(2,.int .i64 (slotsE S))] a∧Below w0.heap.size w0 w):=by
 refine T3.leaf ?_;rintro Q JS JX JT K hS hK hX hE hT hR a w ⟨hW,⟨fr,rfl,q0,_⟩⟩;have HW:=Lib.hid hW;have hsn:=h.n;obtain⟨p1,c1,rfl⟩:=h.r.shape;clear hW;rw [fr_srR,fe q0];clear q0;conv=>arg 2;whnf
 go_wp2_with fail
 refine Met.intro (hS _ _ ?_);exact⟨_,Fr.r rfl rfl,rfl,HW.out⟩
theorem sr4:T3 Tryz.prog (fun a w=>(Below w0.heap.size w0 w)∧Fr 37 [(0,v)] a) (sel [1,0,4,1,3,1,2,0] srR) (fun a w=>(Below w0.heap.size w0 w)∧Fr 37 [(2,.int .i64 2)] a) No 9 (fun a w=>Fr 37 [(2,.int .i64 (slotsE S))] a∧Below w0.heap.size w0 w):=by
 refine T3.leaf ?_;rintro Q JS JX JT K hS hK hX hE hT hR a w ⟨hW,⟨fr,rfl,q0,_⟩⟩;have HW:=Lib.hid hW;have hsn:=h.n;obtain⟨p1,c1,rfl⟩:=h.r.shape;clear hW;rw [fr_srR,fe q0];clear q0;conv=>arg 2;whnf
 go_wp2_with fail
 refine Met.intro (hS _ _ ?_);exact⟨HW.out,Fr.of _ rfl ⟨rfl,trivial⟩⟩
theorem sr5 (hN:SlN S):T3 Tryz.prog (fun a w=>(Below w0.heap.size w0 w)∧Fr 37 [(0,v)] a) (sel [1,1,0,0] srR) (fun a w=>(0≤(0:Int)∧(0:Int)≤S.length)∧(NoErr (slotAt S) 0)∧(Below w0.heap.size w0 w)∧Fr 37 [(0,v),(14,v),(15,.int .i64 S.length),(16,.int .i64 0)] a) No 9 (fun a w=>Fr 37 [(2,.int .i64 (slotsE S))] a∧Below w0.heap.size w0 w):=by
 refine T3.leaf ?_;rintro Q JS JX JT K hS hK hX hE hT hR a w ⟨hW,⟨fr,rfl,q0,_⟩⟩;have HW:=Lib.hid hW;have hsn:=h.n;obtain⟨p1,c1,rfl⟩:=h.r.shape;clear hW;rw [fr_srR,fe q0];clear q0;conv=>arg 2;whnf
 go_wp2_with fail
 refine Met.intro (hS _ _ ?_);exact⟨⟨by omega,by omega⟩,NoErr.zero _,HW.out,Fr.r rfl rfl⟩
theorem sr7 (hN:SlN S)(k:Int):T3 Tryz.prog (fun a w=>((0≤k∧k<S.length)∧NoErr (slotAt S) k)∧(Below w0.heap.size w0 w)∧Fr 37 [(0,v),(14,v),(15,.int .i64 S.length),(16,.int .i64 k)] a) (sel [1,1,0,1,4,4,1,1,0,4,0] srR) (fun a w=>∃(g4:Nat),((0≤k∧k<S.length)∧NoErr (slotAt S) k)∧(Below w0.heap.size w0 w∧SlB w g4 (geta S k))∧Fr 37 [(0,v),(3,.int .i64 k),(4,.pointer (some ⟨g4,0,none⟩)),(14,v),(15,.int .i64 S.length),(16,.int .i64 k)] a) No 9 (fun a w=>Fr 37 [(2,.int .i64 (slotsE S))] a∧Below w0.heap.size w0 w):=by
 refine T3.leaf ?_;rintro Q JS JX JT K hS hK hX hE hT hR a w ⟨hpre,hW,⟨fr,rfl,q0,q14,q15,q16,_⟩⟩;have hpp:=Lib.hid hpre;obtain⟨⟨hk0,hk1⟩,_⟩:=hpre;have hsn:=h.n;have hHW:=Lib.hid hW;obtain⟨_,hcs⟩:=(h.below hW).r.els encSl_length (by decide);rcases hcs with ⟨rfl,h0⟩|⟨bz,off,cap,rfl,_,hbz,hnc,hcm,hcell⟩
 ·omega
 have t0:=hcell k hk0 hk1 0 _ rfl;have t1:=hcell k hk0 hk1 1 _ rfl;rw [Nat.add_zero]at t0;have HB:=Lib.hid (SlB.new w (geta S k) 72);have HA:=Lib.hid (fun o=>(Below.refl w.heap.size w).alloc (Nat.le_refl _) o);obtain⟨q,d,hq⟩:=(h.p _ (geta_mem hk0 hk1)).r.shape;clear hcell hW h;generalize geta S k=x at *;obtain⟨xk,xv,xps⟩:=x;simp only at hq t0 t1;subst hq;rw [fr_srR,fe q0,fe q14,fe q15,fe q16];clear q0 q14 q15 q16;conv=>arg 2;whnf
 go_wp2_with fail
 refine Met.intro (hS _ _ ?_);exact⟨_,hpp.out,⟨hHW.out.trans ((HA.out _).mono hHW.out.size),HB.out⟩,Fr.r rfl rfl⟩
section
variable (hN:SlN S)(k:Int)(g4:Nat)
include hN k g4
theorem sr8:T3 Tryz.prog (fun a w=>((0≤k∧k<S.length)∧NoErr (slotAt S) k)∧(Below w0.heap.size w0 w∧SlB w g4 (geta S k))∧Fr 37 [(0,v),(3,.int .i64 k),(4,.pointer (some ⟨g4,0,none⟩)),(14,v),(15,.int .i64 S.length),(16,.int .i64 k)] a) (sel [1,1,0,1,4,4,1,1,0,4,1,0,0] srR) (fun a w=>∃q,Fr 37 ((24,.bool q)::[(0,v),(3,.int .i64 k),(4,.pointer (some ⟨g4,0,none⟩)),(14,v),(15,.int .i64 S.length),(16,.int .i64 k)]) a∧((((0≤k∧k<S.length)∧NoErr (slotAt S) k)∧q=!keyB (geta S k).key)∧Below w0.heap.size w0 w∧SlB w g4 (geta S k))) No 9 (fun a w=>Fr 37 [(2,.int .i64 (slotsE S))] a∧Below w0.heap.size w0 w):=by
 refine T3.leaf ?_;rintro Q JS JX JT K hS hK hX hE hT hR a w ⟨hpre,hW,⟨fr,rfl,q0,q3,q4,q14,q15,q16,_⟩⟩;have hpp:=Lib.hid hpre;obtain⟨⟨hk0,hk1⟩,_⟩:=hpre;have hsn:=h.n;have HW:=Lib.hid hW;have hz:=h.z _ (geta_mem hk0 hk1);have HK:=Lib.hid (key_ref (geta S k).key w (by omega));have t0:=hW.2.c0;obtain⟨p1,c1,rfl⟩:=h.r.shape;clear h hW hz;generalize (geta S k).key=x at *;generalize keyB x=q at *;rw [fr_srR,fe q0,fe q3,fe q4,fe q14,fe q15,fe q16];clear q0 q3 q4 q14 q15 q16;conv=>arg 2;whnf
 go_wp2_with fail
 refine HK.out.mono ?_;rintro e w1 ⟨rfl,rfl⟩;go_wp2_with fail
 have hpre:=hpp.out;refine Met.intro (hS _ _ ?_);exact⟨_,Fr.r rfl rfl,⟨hpre,rfl⟩,HW.out⟩
theorem sr9:T3 Tryz.prog (fun a w=>(Below w0.heap.size w0 w∧SlB w g4 (geta S k))∧Fr 37 [(0,v),(3,.int .i64 k),(4,.pointer (some ⟨g4,0,none⟩)),(14,v),(15,.int .i64 S.length),(16,.int .i64 k)] a) (sel [1,1,0,1,4,4,1,1,0,4,1,0,1,2,0] srR) (fun a w=>(Below w0.heap.size w0 w)∧Fr 37 [(2,.int .i64 5)] a) No 9 (fun a w=>Fr 37 [(2,.int .i64 (slotsE S))] a∧Below w0.heap.size w0 w):=by
 refine T3.leaf ?_;rintro Q JS JX JT K hS hK hX hE hT hR a w ⟨hW,⟨fr,rfl,q0,q3,q4,q14,q15,q16,_⟩⟩;have HW:=Lib.hid hW;clear hW;obtain⟨p1,c1,rfl⟩:=h.r.shape;rw [fr_srR,fe q0,fe q3,fe q4,fe q14,fe q15,fe q16];clear q0 q3 q4 q14 q15 q16;conv=>arg 2;whnf
 go_wp2_with fail
 refine Met.intro (hS _ _ ?_);exact⟨HW.out.1,Fr.of _ rfl ⟨rfl,trivial⟩⟩
theorem sr10:T3 Tryz.prog (fun a w=>((0≤k∧k<S.length)∧NoErr (slotAt S) k)∧(Below w0.heap.size w0 w∧SlB w g4 (geta S k))∧Fr 37 [(0,v),(3,.int .i64 k),(4,.pointer (some ⟨g4,0,none⟩)),(14,v),(15,.int .i64 S.length),(16,.int .i64 k)] a) (sel [1,1,0,1,4,4,1,1,0,4,1,1,0,0] srR) (fun a w=>∃q,Fr 37 ((29,.bool q)::[(0,v),(3,.int .i64 k),(4,.pointer (some ⟨g4,0,none⟩)),(14,v),(15,.int .i64 S.length),(16,.int .i64 k)]) a∧((((0≤k∧k<S.length)∧NoErr (slotAt S) k)∧q=slotDup S k)∧Below w0.heap.size w0 w∧SlB w g4 (geta S k))) No 9 (fun a w=>Fr 37 [(2,.int .i64 (slotsE S))] a∧Below w0.heap.size w0 w):=by
 refine T3.leaf ?_;rintro Q JS JX JT K hS hK hX hE hT hR a w ⟨hpre,hW,⟨fr,rfl,q0,q3,q4,q14,q15,q16,_⟩⟩;have hpp:=Lib.hid hpre;obtain⟨⟨hk0,hk1⟩,_⟩:=hpre;have hsn:=h.n;have HW:=Lib.hid hW;have hR:=(h.below hW.1).r;have hb4:=hW.2.c0;rcases hR.2 with ⟨hv,h0⟩|⟨bz,off,cap,hv,_,hbz,hnc,hcm,hcell⟩
 ·omega
 subst hv;simp only [maxLen]at hcm;have HC:=Lib.hid (any_sl 52 Tryz.call52 (.pointer (some ⟨g4,0,none⟩)) _ (S.take k.toNat) (fun y=>decide (y.key=(geta S k).key)) 0 w (Row.firstN encSl_length hR hk0 (by omega)) (by rw [List.length_take];omega) (fun y _ w1 hb=>cl_slF y.key y.pv (geta S k).key g4 w1 ((hb.cell (World.block_lt_of_cell? w _ hb4)).trans hb4)));have hbq:(0:Int)≤k∧k≤S.length∧(S.length:Int)≤cap:=by omega
 have HE:=Lib.hid (show(S.take k.toNat).any (fun y=>decide (y.key=(geta S k).key))=slotDup S k from rfl);rw [HE.out]at HC;clear hcell hR h hb4 hW;generalize slotDup S k=q at *;rw [fr_srR,fe q0,fe q3,fe q4,fe q14,fe q15,fe q16];clear q0 q3 q4 q14 q15 q16;conv=>arg 2;whnf
 go_wp2_with fail
 refine HC.out.mono ?_;rintro e w1 ⟨rfl,hb⟩;have HR:=Lib.hid (show Below w0.heap.size w0 w1∧SlB w1 g4 (geta S k)from⟨HW.out.1.trans (hb.mono HW.out.1.size),HW.out.2.below hb⟩);clear hb;go_wp2_with fail
 have hpre:=hpp.out;refine Met.intro (hS _ _ ?_);exact⟨_,Fr.r rfl rfl,⟨hpre,rfl⟩,HR.out⟩
theorem sr11:T3 Tryz.prog (fun a w=>(Below w0.heap.size w0 w∧SlB w g4 (geta S k))∧Fr 37 [(0,v),(3,.int .i64 k),(4,.pointer (some ⟨g4,0,none⟩)),(14,v),(15,.int .i64 S.length),(16,.int .i64 k)] a) (sel [1,1,0,1,4,4,1,1,0,4,1,1,0,1,2,0] srR) (fun a w=>(Below w0.heap.size w0 w)∧Fr 37 [(2,.int .i64 6)] a) No 9 (fun a w=>Fr 37 [(2,.int .i64 (slotsE S))] a∧Below w0.heap.size w0 w):=by
 refine T3.leaf ?_;rintro Q JS JX JT K hS hK hX hE hT hR a w ⟨hW,⟨fr,rfl,q0,q3,q4,q14,q15,q16,_⟩⟩;have HW:=Lib.hid hW;clear hW;obtain⟨p1,c1,rfl⟩:=h.r.shape;rw [fr_srR,fe q0,fe q3,fe q4,fe q14,fe q15,fe q16];clear q0 q3 q4 q14 q15 q16;conv=>arg 2;whnf
 go_wp2_with fail
 refine Met.intro (hS _ _ ?_);exact⟨HW.out.1,Fr.of _ rfl ⟨rfl,trivial⟩⟩
theorem sr12:T3 Tryz.prog (fun a w=>((0≤k∧k<S.length)∧NoErr (slotAt S) k)∧(Below w0.heap.size w0 w∧SlB w g4 (geta S k))∧Fr 37 [(0,v),(3,.int .i64 k),(4,.pointer (some ⟨g4,0,none⟩)),(14,v),(15,.int .i64 S.length),(16,.int .i64 k)] a) (sel [1,1,0,1,4,4,1,1,0,4,1,1,1,0] srR) (fun a w=>((0≤k∧k<S.length)∧NoErr (slotAt S) k)∧(Below w0.heap.size w0 w∧SlB w g4 (geta S k))∧Fr 37 [(0,v),(3,.int .i64 k),(4,.pointer (some ⟨g4,0,none⟩)),(5,.int .i64 (posE (geta S k).ps)),(14,v),(15,.int .i64 S.length),(16,.int .i64 k)] a) No 9 (fun a w=>Fr 37 [(2,.int .i64 (slotsE S))] a∧Below w0.heap.size w0 w):=by
 refine T3.leaf ?_;rintro Q JS JX JT K hS hK hX hE hT hR a w ⟨hpre,hW,⟨fr,rfl,q0,q3,q4,q14,q15,q16,_⟩⟩;have hpp:=Lib.hid hpre;obtain⟨⟨hk0,hk1⟩,_⟩:=hpre;have hsn:=h.n;have HW:=Lib.hid hW;have HK:=Lib.hid (listNeed_ref (geta S k).pv (geta S k).ps w ((h.p _ (geta_mem hk0 hk1)).below hW.1));have t1:=hW.2.c1;obtain⟨q,d,hq⟩:=(h.p _ (geta_mem hk0 hk1)).r.shape;obtain⟨p1,c1,rfl⟩:=h.r.shape;clear h hW;generalize posE (geta S k).ps=e0 at *;generalize hx:(geta S k).pv=x at *;subst hq;rw [fr_srR,fe q0,fe q3,fe q4,fe q14,fe q15,fe q16];clear q0 q3 q4 q14 q15 q16;conv=>arg 2;whnf
 go_wp2_with fail
 refine HK.out.mono ?_;rintro e w1 ⟨rfl,hb⟩;have HR:=Lib.hid (show Below w0.heap.size w0 w1∧SlB w1 g4 (geta S k)from⟨HW.out.1.trans (hb.mono HW.out.1.size),HW.out.2.below hb⟩);clear hb;go_wp2_with fail
 refine Met.intro (hS _ _ ?_);exact⟨hpp.out,HR.out,Fr.r rfl rfl⟩
theorem sr13:T3 Tryz.prog (fun a w=>((0≤k∧k<S.length)∧NoErr (slotAt S) k)∧(Below w0.heap.size w0 w∧SlB w g4 (geta S k))∧Fr 37 [(0,v),(3,.int .i64 k),(4,.pointer (some ⟨g4,0,none⟩)),(5,.int .i64 (posE (geta S k).ps)),(14,v),(15,.int .i64 S.length),(16,.int .i64 k)] a) (sel [1,1,0,1,4,4,1,1,0,4,1,1,1,1,0] srR) (fun a w=>∃q,Fr 37 ((34,.bool q)::[(0,v),(3,.int .i64 k),(4,.pointer (some ⟨g4,0,none⟩)),(5,.int .i64 (posE (geta S k).ps)),(14,v),(15,.int .i64 S.length),(16,.int .i64 k)]) a∧((((0≤k∧k<S.length)∧NoErr (slotAt S) k)∧q=(posE (geta S k).ps != 0))∧Below w0.heap.size w0 w∧SlB w g4 (geta S k))) No 9 (fun a w=>Fr 37 [(2,.int .i64 (slotsE S))] a∧Below w0.heap.size w0 w):=by
 refine T3.leaf ?_;rintro Q JS JX JT K hS hK hX hE hT hR a w ⟨hpre,hW,⟨fr,rfl,q0,q3,q4,q5,q14,q15,q16,_⟩⟩;have hpp:=Lib.hid hpre;obtain⟨⟨hk0,hk1⟩,_⟩:=hpre;have hsn:=h.n;have HW:=Lib.hid hW;obtain⟨p1,c1,rfl⟩:=h.r.shape;clear hW;generalize posE (geta S k).ps=e0 at *;generalize hqq:(e0 != 0)=qq at *;rw [fr_srR,fe q0,fe q3,fe q4,fe q5,fe q14,fe q15,fe q16];clear q0 q3 q4 q5 q14 q15 q16;conv=>arg 2;whnf
 go_wp2_with fail
 have hpre:=hpp.out;refine Met.intro (hS _ _ ?_);exact⟨_,Fr.r rfl rfl,⟨hpre,rfl⟩,HW.out⟩
theorem sr14:T3 Tryz.prog (fun a w=>(Below w0.heap.size w0 w∧SlB w g4 (geta S k))∧Fr 37 [(0,v),(3,.int .i64 k),(4,.pointer (some ⟨g4,0,none⟩)),(5,.int .i64 (posE (geta S k).ps)),(14,v),(15,.int .i64 S.length),(16,.int .i64 k)] a) (sel [1,1,0,1,4,4,1,1,0,4,1,1,1,1,1,2,0] srR) (fun a w=>(Below w0.heap.size w0 w)∧Fr 37 [(2,.int .i64 (posE (geta S k).ps))] a) No 9 (fun a w=>Fr 37 [(2,.int .i64 (slotsE S))] a∧Below w0.heap.size w0 w):=by
 refine T3.leaf ?_;rintro Q JS JX JT K hS hK hX hE hT hR a w ⟨hW,⟨fr,rfl,q0,q3,q4,q5,q14,q15,q16,_⟩⟩;have HW:=Lib.hid hW;clear hW;obtain⟨p1,c1,rfl⟩:=h.r.shape;generalize posE (geta S k).ps=e0 at *;rw [fr_srR,fe q0,fe q3,fe q4,fe q5,fe q14,fe q15,fe q16];clear q0 q3 q4 q5 q14 q15 q16;conv=>arg 2;whnf
 go_wp2_with fail
 refine Met.intro (hS _ _ ?_);exact⟨HW.out.1,Fr.of _ rfl ⟨rfl,trivial⟩⟩
end
theorem sr16:T3 Tryz.prog (fun a w=>(Below w0.heap.size w0 w)∧Fr 37 [] a) (sel [1,1,1,0] srR) (fun a w=>(Below w0.heap.size w0 w)∧Fr 37 [(2,.int .i64 0)] a) No 9 (fun a w=>Fr 37 [(2,.int .i64 (slotsE S))] a∧Below w0.heap.size w0 w):=by
 refine T3.leaf ?_;rintro Q JS JX JT K hS hK hX hE hT hR a w ⟨hW,⟨fr,rfl,_⟩⟩;have HW:=Lib.hid hW;clear hW;rw [fr_srR];conv=>arg 2;whnf
 go_wp2_with fail
 refine Met.intro (hS _ _ ?_);exact⟨HW.out,Fr.of _ rfl ⟨rfl,trivial⟩⟩
section
variable (hN:SlN S)(k:Int)
include hN k
theorem srb:T3 Tryz.prog (fun a w=>((0≤k∧k<S.length)∧NoErr (slotAt S) k)∧(Below w0.heap.size w0 w)∧Fr 37 [(0,v),(14,v),(15,.int .i64 S.length),(16,.int .i64 k)] a) (sel [1,1,0,1,4,4,1,1,0] srR) (fun a w=>((0≤k∧k<S.length)∧NoErr (slotAt S) (k+1))∧(Below w0.heap.size w0 w)∧Fr 37 [(0,v),(14,v),(15,.int .i64 S.length),(16,.int .i64 k)] a) No 100 (fun a w=>Fr 37 [(2,.int .i64 (slotsE S))] a∧Below w0.heap.size w0 w):=by
 refine T3.block (id':=2) (c:=(sel [1,1,0,1,4,4,1,1,0,4] srR)) (by decide) ?_;refine T3.sq rfl ((sr7 w0 v S h hN k).noX) (T3.ex fun g4=>?_);refine T3.sq rfl (S:=fun a w=>(keyB (geta S k).key=true)∧((0≤k∧k<S.length)∧NoErr (slotAt S) k)∧(Below w0.heap.size w0 w∧SlB w g4 (geta S k))∧Fr 37 [(0,v),(3,.int .i64 k),(4,.pointer (some ⟨g4,0,none⟩)),(14,v),(15,.int .i64 S.length),(16,.int .i64 k)] a) ?_ (T3.pure fun hky=>?_)
 ·refine T3.tt rfl (C:=fun q=>(((0≤k∧k<S.length)∧NoErr (slotAt S) k)∧q=!keyB (geta S k).key)) (W:=fun w=>Below w0.heap.size w0 w∧SlB w g4 (geta S k)) (by decide) ((sr8 w0 v S h hN k g4).noX) ?_ (T3.skip ?_)
  ·refine T3.sr rfl (t3x (p:=((0≤k∧k<S.length)∧NoErr (slotAt S) k)∧keyB (geta S k).key=false) ((sr9 w0 v S h hN k g4).noX) ?_) (T3.ret ?_)
   ·rintro a w ⟨hF,⟨hk,hq⟩,hW⟩;exact⟨⟨hk,by simpa using hq.symm⟩,hW,hF.tail⟩
   ·rintro a w ⟨⟨hk,hne⟩,hW,hF⟩;have e:slotAt S k=5:=by unfold slotAt;rw [if_pos hne]
    exact⟨by rw [slotsE_hit hN hk.1.1 hk.1.2 hk.2 (by rw [e];decide),e];exact hF,hW⟩
  ·rintro a w ⟨⟨hk,hq⟩,hW,hF⟩;exact⟨by simpa using hq.symm,hk,hW,hF⟩
 refine T3.sq rfl (S:=fun a w=>(keyB (geta S k).key=true∧slotDup S k=false)∧((0≤k∧k<S.length)∧NoErr (slotAt S) k)∧(Below w0.heap.size w0 w∧SlB w g4 (geta S k))∧Fr 37 [(0,v),(3,.int .i64 k),(4,.pointer (some ⟨g4,0,none⟩)),(14,v),(15,.int .i64 S.length),(16,.int .i64 k)] a) ?_ (T3.pure fun hkd=>?_)
 ·refine T3.tt rfl (C:=fun q=>(((0≤k∧k<S.length)∧NoErr (slotAt S) k)∧q=slotDup S k)) (W:=fun w=>Below w0.heap.size w0 w∧SlB w g4 (geta S k)) (by decide) ((sr10 w0 v S h hN k g4).noX) ?_ (T3.skip ?_)
  ·refine T3.sr rfl (t3x (p:=((0≤k∧k<S.length)∧NoErr (slotAt S) k)∧(keyB (geta S k).key=true∧slotDup S k=true)) ((sr11 w0 v S h hN k g4).noX) ?_) (T3.ret ?_)
   ·rintro a w ⟨hF,⟨hk,hq⟩,hW⟩;exact⟨⟨hk,hky,hq.symm⟩,hW,hF.tail⟩
   ·rintro a w ⟨⟨hk,hne⟩,hW,hF⟩;have e:slotAt S k=6:=by unfold slotAt;rw [if_neg (by rw [hne.1];decide),if_pos hne.2]
    exact⟨by rw [slotsE_hit hN hk.1.1 hk.1.2 hk.2 (by rw [e];decide),e];exact hF,hW⟩
  ·rintro a w ⟨⟨hk,hq⟩,hW,hF⟩;exact⟨⟨hky,hq.symm⟩,hk,hW,hF⟩
 refine T3.sq rfl ((sr12 w0 v S h hN k g4).noX) ?_;refine T3.tt rfl (C:=fun q=>(((0≤k∧k<S.length)∧NoErr (slotAt S) k)∧q=(posE (geta S k).ps != 0))) (W:=fun w=>Below w0.heap.size w0 w∧SlB w g4 (geta S k)) (by decide) ((sr13 w0 v S h hN k g4).noX) ?_ (T3.skip ?_)
 ·refine T3.sr rfl (t3x (p:=((0≤k∧k<S.length)∧NoErr (slotAt S) k)∧(keyB (geta S k).key=true∧slotDup S k=false∧posE (geta S k).ps≠0)) ((sr14 w0 v S h hN k g4).noX) ?_) (T3.ret ?_)
  ·rintro a w ⟨hF,⟨hk,hq⟩,hW⟩;exact⟨⟨hk,hkd.1,hkd.2,by simpa using hq.symm⟩,hW,hF.tail⟩
  ·rintro a w ⟨⟨hk,hne⟩,hW,hF⟩;have e:slotAt S k=posE (geta S k).ps:=by unfold slotAt;rw [if_neg (by rw [hne.1];decide),if_neg (by rw [hne.2.1];decide)]
   exact⟨by rw [slotsE_hit hN hk.1.1 hk.1.2 hk.2 (by rw [e];exact hne.2.2),e];exact hF,hW⟩
 ·rintro a w ⟨⟨hk,hq⟩,hW,hF⟩;refine⟨⟨hk.1,hk.2.step ?_⟩,hW.1,hF.sub (by simp)⟩;unfold slotAt;rw [if_neg (by rw [hkd.1];decide),if_neg (by rw [hkd.2];decide)]
  simpa using hq.symm
def srLI (w0:World)(v:Value)(S:List SlD)(h:SlH w0 v S)(hN:SlN S)(k:Int)(a:Act)(w:World):Prop:=(0≤k∧k≤S.length)∧(NoErr (slotAt S) k)∧(Below w0.heap.size w0 w)∧Fr 37 [(0,v),(14,v),(15,.int .i64 S.length),(16,.int .i64 k)] a
theorem srLt:T3 Tryz.prog (fun a w=>srLI w0 v S h hN k a w) (sel [1,1,0,1,4,4,0] srR) (fun a w=>∃q,Fr 37 ((17,.bool q)::[(16,.int .i64 k)]) a∧((q=true↔k<S.length)∧srLI w0 v S h hN k a w)) No 9 (fun a w=>Fr 37 [(2,.int .i64 (slotsE S))] a∧Below w0.heap.size w0 w):=by
 refine T3.leaf ?_;rintro Q JS JX JT K hS hK hX hE hT hR a w ⟨hk,hpre,hW,⟨fr,rfl,q0,q14,q15,q16,_⟩⟩;have hln:=h.n;rw [fr_srR,fe q0,fe q14,fe q15,fe q16];clear q0 q14 q15 q16;conv=>arg 2;whnf
 by_cases hlt:k<S.length
 ·go_wp2_with fail
  refine Met.intro (hS _ _ ?_);exact⟨true,Fr.r rfl rfl,⟨fun _=>hlt,fun _=>rfl⟩,hk,hpre,hW,Fr.r rfl rfl⟩
 ·have hpb:decide (k<(S.length:Int))=false:=by simp;omega
  go_wp2_with fail
  refine Met.intro (hS _ _ ?_);exact⟨false,Fr.r rfl rfl,⟨(fun h=>by cases h),fun h=>absurd h (by omega)⟩,hk,hpre,hW,Fr.r rfl rfl⟩
theorem srLn:T3 Tryz.prog (fun a w=>(0≤k∧k<S.length)∧(NoErr (slotAt S) (k+1))∧(Below w0.heap.size w0 w)∧Fr 37 [(0,v),(14,v),(15,.int .i64 S.length),(16,.int .i64 k)] a) (sel [1,1,0,1,4,4,1,1,1] srR) (fun a w=>srLI w0 v S h hN (k+1) a w) No 9 (fun a w=>Fr 37 [(2,.int .i64 (slotsE S))] a∧Below w0.heap.size w0 w):=by
 refine T3.leaf ?_;rintro Q JS JX JT K hS hK hX hE hT hR a w ⟨hk,hpre,hW,⟨fr,rfl,q0,q14,q15,q16,_⟩⟩;obtain⟨hk0,hk1⟩:=hk;have hln:=h.n;rw [fr_srR,fe q0,fe q14,fe q15,fe q16];clear q0 q14 q15 q16;conv=>arg 2;whnf
 go_wp2_with fail
 refine Met.intro (hS _ _ ?_);exact⟨⟨by omega,by omega⟩,hpre,hW,Fr.r rfl rfl⟩
end
theorem srLloop (hN:SlN S):T3 Tryz.prog (fun a w=>srLI w0 v S h hN 0 a w) (sel [1,1,0,1] srR) (fun a w=>(NoErr (slotAt S) S.length)∧(Below w0.heap.size w0 w)∧Fr 37 [] a) No 9 (fun a w=>Fr 37 [(2,.int .i64 (slotsE S))] a∧Below w0.heap.size w0 w) :=
 T3.range (I:=srLI w0 v S h hN) rfl (by decide) (srLt w0 v S h hN) (srLn w0 v S h hN) (fun _ _ _ h=>h.1) (fun k hk=>T3.mono (srb w0 v S h hN k) (fun a w ⟨_,hp,hI⟩=>⟨⟨hk,hp⟩,hI⟩) (fun a w ⟨⟨hk,hp⟩,hI⟩=>⟨hk,hp,hI⟩) (fun _ _ q=>q) (fun _ _ q=>q)) (fun a w hI=>by
  obtain⟨hk,hI⟩:=hI;obtain⟨hn,hW,hF⟩:=hI;exact⟨hn,hW,hF.sub (by simp)⟩)
theorem sr_all:T3 Tryz.prog (fun a w=>(Below w0.heap.size w0 w)∧Fr 37 [(0,v)] a) srR No No 9 (fun a w=>Fr 37 [(2,.int .i64 (slotsE S))] a∧Below w0.heap.size w0 w):=by
 refine T3.seq (s:=(sel [0] srR)) (c:=(sel [1] srR)) (sr0 w0 v S h) ?_;refine T3.sq rfl (S:=fun a w=>(SlN S)∧(Below w0.heap.size w0 w)∧Fr 37 [(0,v)] a) ?_ (T3.pure fun hN=>?_)
 ·refine T3.block (id':=0) (c:=(sel [1,0,4] srR)) (by decide) ?_;refine T3.test (s:=(sel [1,0,4,0] srR)) (x:=(sel [1,0,4,1,2] srR)) (y:=(sel [1,0,4,1,3] srR)) (C:=fun q=>(q=((S.length:Int)==0))) (W:=fun w=>Below w0.heap.size w0 w) (by decide) ((sr1 w0 v S h).noX) ?_ ?_
  ·refine T3.sr rfl (t3x (p:=S.length=0) ((sr2 w0 v S h).noX) ?_) (T3.ret ?_)
   ·rintro a w ⟨hF,hq,hW⟩;exact⟨by have:=hq.symm;simpa using this,hW,hF.tail⟩
   ·rintro a w ⟨hp,hW,hF⟩;exact⟨by rw [slotsE_none hp];exact hF,hW⟩
  ·refine T3.pre (R:=fun a w=>(S.length≠0)∧(Below w0.heap.size w0 w)∧Fr 37 [(0,v)] a) (T3.pure fun hl=>?_) (fun a w q=>⟨by have:=q.1.symm;simpa using this,q.2⟩);refine T3.tt rfl (C:=fun q=>(q=decide ((12:Int)<(S.length:Int)))) (W:=fun w=>Below w0.heap.size w0 w) (by decide) ((sr3 w0 v S h).noX) ?_ (T3.skip ?_)
   ·refine T3.sr rfl (t3x (p:=12<S.length) ((sr4 w0 v S h).noX) ?_) (T3.ret ?_)
    ·rintro a w ⟨hF,hq,hW⟩;exact⟨by have:=of_decide_eq_true hq.symm;omega,hW,hF.tail⟩
    ·rintro a w ⟨hp,hW,hF⟩;exact⟨by rw [slotsE_big hl hp];exact hF,hW⟩
   ·rintro a w ⟨hq,hW,hF⟩;exact⟨⟨hl,by have:=of_decide_eq_false hq.symm;omega⟩,hW,hF⟩
 refine T3.sq rfl (T3.seq (s:=(sel [1,1,0,0] srR)) (c:=(sel [1,1,0,1] srR)) (sr5 w0 v S h hN) (srLloop w0 v S h hN)) (T3.pure fun hn=>?_);refine T3.sr rfl (sr16 w0 v S h) (T3.ret ?_);rintro a w ⟨hW,hF⟩;exact⟨by rw [slotsE_ok hN hn];exact hF,hW⟩
theorem slots_ref:Calls Tryz.prog 13 #[v] w0 fun e w'=>e=.returned (.int .i64 (slotsE S))∧Below w0.heap.size w0 w':=by
 have hall:=sr_all w0 v S h
 go_enter Tryz.func13,Tryz.ntmps13
 refine T3.done (s:=srR) hall ⟨Below.refl _ _,Fr.of _ rfl ⟨rfl,trivial⟩⟩ ?_;rintro a w ⟨⟨fr,rfl,q2,_⟩,hw⟩;rw [fr_srR,fe q2]
 go_ret
 exact⟨rfl,hw⟩
end
end Go.Proofs.YtnmdpphddimfbaaGreat
/-
  More on pieces: a world by a plain name, what is known ahead of a return. No condition on a program.
-/
namespace Go.Proofs.YtnmdpphddimfbaaGreat
open Go.RowKit Go.Bw
/-- The world is w0 (a plain name: the walk does not rewrite by it). -/
def IsW (w0 w:World):Prop:=w=w0
theorem t3_seqx {P:Program}{R R' S X T:Rel}{s:Code}{id:Nat}{p:Prop}(h:T3 P R s S X id T)(hR:∀a w,R' a w→p∧R a w):T3 P R' s (fun a w=>p∧S a w) X id T:=by
 intro a w q;obtain⟨hp,hr⟩:=hR a w q;refine wp_mono (h a w hr) ?_;intro e a w q;cases e <;> first|exact⟨hp,q⟩|exact q
end Go.Proofs.YtnmdpphddimfbaaGreat
/-
  An odd number: what Stream.Odd hands out. Conditions: low and high from 1 to 20.
-/
namespace Go.Proofs.YtnmdpphddimfbaaGreat
open Go.RowKit Go.Bw
theorem lit_row (w:World)(e:TypeId)(xs:List Int)(n:Nat)(hn:n≤1099511627776)(hl:xs.length=n)(cs:Array Value)(hcs:cs.toList=xs.map (.int .i64)):
  Row (w.alloc (.cells cs e)) 0 1 (.slice (some ⟨w.heap.size,0,none⟩) n n) n (xs.map (.int .i64)):=by
 have h:=owns_lit w 0 e cs n hn (by rw [←Array.length_toList,hcs];simp [hl]) (Nat.zero_le _);rw [hcs]at h;exact Row.of_owns h
end Go.Proofs.YtnmdpphddimfbaaGreat
/-
  What a law owns while it draws: a stream's block and one row of ints. No condition on a program.
-/
namespace Go.Bw
open Go.RowKit
/-- Block n₀ is a stream drawn at most b times; v is a row of the ints l, owned from block B on; the blocks below n₀ are as in w0. -/
structure GenS (n₀ B:Nat)(w0 w:World)(b:Nat)(v:Value)(l:List Int):Prop where
 bel:Below n₀ w0 w
 str:Str n₀ w b
 hB:n₀<B
 hs:B≤w.heap.size
 row:w.ownsRow B 3 1 v l.length (l.map (.int .i64))
theorem GenS.nil {n₀ b:Nat}{w0 w:World}(h:Below n₀ w0 w)(hS:Str n₀ w b):GenS n₀ w.heap.size w0 w b (.slice none 0 0) [] :=
 ⟨h,hS,hS.lt,Nat.le_refl _,⟨rfl,.inl ⟨rfl,rfl⟩⟩⟩
theorem GenS.drawn {n₀ B b b':Nat}{w0 w w':World}{v:Value}{l:List Int}(h:GenS n₀ B w0 w b v l)(hS:Str n₀ w' b')(g:w.grownBy w' (some n₀)):GenS n₀ B w0 w' b' v l :=
 ⟨below_str h.bel g (Nat.le_refl _) (Nat.le_of_lt h.str.lt),hS,h.hB,Nat.le_trans h.hs g.size,owns_str h.row g h.hB⟩
theorem GenS.mono {n₀ B b b':Nat}{w0 w:World}{v:Value}{l:List Int}(h:GenS n₀ B w0 w b v l)(hb:b≤b'):GenS n₀ B w0 w b' v l :=
 ⟨h.bel,h.str.mono hb,h.hB,h.hs,h.row⟩
section
variable {n₀ B b:Nat}{w0 w:World}{v:Value}{l:List Int}(h:GenS n₀ B w0 w b v l)
include h
theorem GenS.alloc (o:Obj):GenS n₀ B w0 (w.alloc o) b v l :=
 ⟨h.bel.alloc (Nat.le_of_lt h.str.lt) o,h.str.alloc o,h.hB,by have:=h.hs;simp;omega,h.row.alloc o⟩
theorem GenS.drew:GenS n₀ B w0 w.drew b v l :=
 ⟨⟨h.bel.os,h.bel.tape,h.bel.output,h.bel.size,h.bel.block⟩,h.str,h.hB,h.hs,h.row⟩
theorem GenS.drewN (k:Nat):GenS n₀ B w0 (w.drewN k) b v l :=
 ⟨⟨h.bel.os,h.bel.tape,h.bel.output,h.bel.size,h.bel.block⟩,h.str,h.hB,h.hs,h.row⟩
end
/-- A call that leaves all the blocks there are alone. -/
theorem GenS.below {n₀ B b:Nat}{w0 w w':World}{v:Value}{l:List Int}(h:GenS n₀ B w0 w b v l)(g:Below w.heap.size w w'):GenS n₀ B w0 w' b v l :=
 ⟨h.bel.trans (g.mono (Nat.le_of_lt h.str.lt)),h.str.below g,h.hB,Nat.le_trans h.hs g.size,owns_below h.row g (Nat.le_refl _)⟩
theorem GenS.app {n₀ B b:Nat}{w0 w w':World}{v v':Value}{l:List Int}{x:Int}(h:GenS n₀ B w0 w b v l)(ho:w'.ownsRow B 3 1 v' (l.length+1) (l.map (.int .i64)++[.int .i64 x]))(g:w.grownBy w' v.ownBlock):GenS n₀ B w0 w' b v' (l++[x]) :=
 ⟨below_grown h.bel h.row g (Nat.le_of_lt h.hB) (Nat.le_of_lt h.str.lt),h.str.app h.row g h.hB,h.hB,Nat.le_trans h.hs g.size,by simpa using ho⟩
theorem GenS.slice {n₀ B b:Nat}{w0 w:World}{v:Value}{l:List Int}(h:GenS n₀ B w0 w b v l):∃a c,v=.slice a l.length c:=by
 rcases h.row.2 with ⟨rfl,h0⟩|⟨g,cap,cur,rfl,_⟩
 ·exact⟨_,_,by rw [h0]⟩
 ·exact⟨_,_,rfl⟩
theorem GenS.cell {n₀ B b g c:Nat}{w0 w:World}{l:List Int}(h:GenS n₀ B w0 w b (.slice (some ⟨g,0,none⟩) l.length c) l)(r:Int)(h0:0≤r)(h1:r<l.length):
  w.cell? ⟨g,r.toNat,none⟩=some (.int .i64 (geti l r))∧w.frozen? ⟨g,r.toNat,none⟩=false:=by
 refine⟨ints_of_owns h.row r h0 h1,?_⟩;rcases h.row.2 with ⟨h2,_⟩|⟨g',cap,cur,hv,_,hg,_⟩
 ·cases h2
 ·simp only [Value.slice.injEq,Option.some.injEq,Addr.mk.injEq]at hv;obtain⟨⟨rfl,_⟩,_,rfl⟩:=hv;unfold World.frozen?;rw [hg];simp
theorem GenS.set {n₀ B b g cap:Nat}{w0 w:World}{l:List Int}(h:GenS n₀ B w0 w b (.slice (some ⟨g,0,none⟩) l.length cap) l)(i:Nat)(hi:i<l.length)(u:Int):
  GenS n₀ B w0 (w.setCell ⟨g,i,none⟩ (.int .i64 u)) b (.slice (some ⟨g,0,none⟩) (l.set i u).length cap) (l.set i u):=by
 have hg:=(owns_sizes h.row).1;have hB:=h.hB;have hgr:=grown_setCell w g i (.int .i64 u);refine⟨h.bel.grown hgr (Nat.le_of_lt h.str.lt) (fun k hk=>by cases hk;omega),h.str.kept hgr (fun k hk=>by cases hk;omega),hB,Nat.le_trans h.hs hgr.size,?_⟩;rw [List.length_set];exact owns_set h.row i hi u
/-- v is a row that is only read: its block lies between the stream's and block B. -/
structure Held (n₀ B:Nat)(w:World)(sz n:Nat)(v:Value)(cs:List Value):Prop where
 row:Row w 0 sz v n cs
 lt:∀k,v.ownBlock=some k→n₀<k∧k<B
section
variable {n₀ B sz n:Nat}{w w':World}{v:Value}{cs:List Value}
include n₀ B sz n w w' v cs
theorem Held.grow {row:Option Nat}(h:Held n₀ B w sz n v cs)(g:w.grownBy w' row)(hr:∀k,row=some k→k=n₀∨B≤k):Held n₀ B w' sz n v cs:=by
 refine⟨?_,h.lt⟩;obtain⟨⟨h1,h2⟩,hlt⟩:=h;refine⟨h1,?_⟩;rcases h2 with h2|⟨b,off,cap,rfl,hb,hl,hn,hc,hcell⟩
 ·exact .inl h2
 ·refine .inr ⟨b,off,cap,rfl,hb,Nat.lt_of_lt_of_le hl g.size,hn,hc,fun i u hu=>?_⟩;rw [World.cell?_of_block (w:=w) (g.block b hl (fun e=>by have:=hr b e.symm;have:=hlt b rfl;omega))];exact hcell i u hu
theorem Held.str (h:Held n₀ B w sz n v cs)(g:w.grownBy w' (some n₀)):Held n₀ B w' sz n v cs :=
 h.grow g (fun k hk=>by cases hk;exact .inl rfl)
end
section
variable {n₀ B sz n:Nat}{w:World}{v:Value}{cs:List Value}(h:Held n₀ B w sz n v cs)
include h
theorem Held.alloc (o:Obj):Held n₀ B (w.alloc o) sz n v cs :=
 h.grow (World.grownBy_alloc w o none) (by simp)
theorem Held.drew:Held n₀ B w.drew sz n v cs:=⟨h.row,h.lt⟩
theorem Held.drewN (k:Nat):Held n₀ B (w.drewN k) sz n v cs:=⟨h.row,h.lt⟩
end
theorem Held.app {n₀ B sz n e m:Nat}{w w':World}{v u:Value}{cs xs:List Value}{z:Nat}(h:Held n₀ B w sz n v cs)(ho:w.ownsRow B e z u m xs)(g:w.grownBy w' u.ownBlock):Held n₀ B w' sz n v cs :=
 h.grow g (fun k hk=>.inr (ho.lt k hk).1)
theorem Held.mono {n₀ B B' sz n:Nat}{w:World}{v:Value}{cs:List Value}(h:Held n₀ B w sz n v cs)(hB:B≤B'):Held n₀ B' w sz n v cs :=
 ⟨h.row,fun k hk=>by have:=h.lt k hk;omega⟩
/-- What is owned may be held. -/
theorem Held.of_owns {n₀ B e sz n:Nat}{w:World}{v:Value}{cs:List Value}(h:w.ownsRow B e sz v n cs)(hB:n₀<B):Held n₀ w.heap.size w sz n v cs :=
 ⟨(Row.of_owns h).mono (Nat.zero_le _),fun k hk=>by have:=h.lt k hk;omega⟩
theorem GenS.held {n₀ B b:Nat}{w0 w:World}{v:Value}{l:List Int}(h:GenS n₀ B w0 w b v l):Held n₀ w.heap.size w 1 l.length v (l.map (.int .i64)):=.of_owns h.row h.hB
theorem Held.slice {n₀ B sz n:Nat}{w:World}{v:Value}{cs:List Value}(h:Held n₀ B w sz n v cs):∃a c,v=.slice a n c:=by
 rcases h.row.2 with ⟨rfl,rfl⟩|⟨b,off,cap,rfl,_⟩
 ·exact⟨_,_,rfl⟩
 ·exact⟨_,_,rfl⟩
end Go.Bw
/-
  What the stream hands out of strings; the first of some errors. Conditions: the bounds that each theorem names.
-/
namespace Go.Bw
open Go.RowKit
theorem lit_rowS (w:World)(e:TypeId)(xs:List ByteArray)(n:Nat)(hn:n≤1099511627776)(hl:xs.length=n)(cs:Array Value)(hcs:cs.toList=cellsOf encSt xs):
  Row (w.alloc (.cells cs e)) 0 1 (.slice (some ⟨w.heap.size,0,none⟩) n n) n (cellsOf encSt xs):=by
 have h:=owns_lit w 0 e cs n hn (by rw [←Array.length_toList,hcs,cellsOf_length encSt 1 encSt_length];omega) (Nat.zero_le _);rw [hcs]at h;exact Row.of_owns h
/-- A short string. -/
def Sm (s:ByteArray):Prop:=s.size≤100
instance (s:ByteArray):Decidable (Sm s):=inferInstanceAs (Decidable (s.size≤100))
theorem Sm.le {s:ByteArray}(h:Sm s):s.size≤9223372036854775807:=Nat.le_trans h (by decide)
/-- What a call of the stream leaves behind an allocation. -/
theorem Drawn.of_alloc {n₀ b:Nat}{w w':World}{o:Obj}(h:Drawn n₀ (w.alloc o) w' b):Drawn n₀ w w' b:=⟨h.str,grown_trans (World.grownBy_alloc w o _) h.gr⟩
end Go.Bw
namespace Go.Proofs.YtnmdpphddimfbaaGreat
open Go.RowKit Go.Bw
theorem el_str:Elem Tryz.prog 39 9 (.string ByteArray.empty) 1 16:=⟨by kernel_rfl,by kernel_rfl,by kernel_rfl,by decide,by decide⟩
section
variable (B b:Nat)
include B b
set_option maxHeartbeats 400000 in
theorem some_any (v:Value)(n:Nat)(xs:List ByteArray)(w:World)(hx:Row w 0 1 v n (cellsOf encSt xs))(hn0:0<n)(hn:n≤1099511627776)(hB:∀k,v.ownBlock=some k→k≠B)(hS:Str B w b)(hb:b≤1099511627776):
  Calls Tryz.prog 8 #[.pointer (some ⟨B,0,none⟩),v] w fun e w'=>∃r:ByteArray,e=.returned (.string r)∧r∈xs∧Drawn B w w' (b+1):=by
 obtain⟨hlen,hcase⟩:=hx.els encSt_length (by decide);rcases hcase with ⟨rfl,h⟩|⟨bz,off,cap,rfl,hbb,hbs,hnc,hcm,hcell⟩
 ·omega
 ·have hne:bz≠B:=hB bz rfl;have hm:=@geta_mem ByteArray _ xs;clear hB hx
  go_enter Tryz.func8,Tryz.ntmps8
  go_wp2_with (go_at_call 38;refine(next_any B b _ _ (by omega) hS hb).mono ?_;rintro e w1 ⟨r,rfl,hr0,hr1,hS1,hg1⟩;have hrl:=(hr1 (by omega)).1;have hrh:=(hr1 (by omega)).2;have hc:=hcell r hrl hrh 0 _ rfl;rw [Nat.mul_one,Nat.add_zero]at hc;replace hc:=(World.cell?_of_block (a:=⟨bz,off+r.toNat,none⟩) (hg1.block bz hbs (by simpa using hne))).trans hc;replace hm:=hm hrl (by omega);clear hcell)
  go_ret
  exact⟨_,rfl,hm,hS1,hg1⟩
theorem some_lit (xs:List ByteArray)(n:Nat)(cs:Array Value)(e:TypeId)(w:World)(hcs:cs.toList=cellsOf encSt xs)(hl:xs.length=n)(hn0:0<n)(hn:n≤1099511627776)(hS:Str B w b)(hb:b≤1099511627776):
  Calls Tryz.prog 8 #[.pointer (some ⟨B,0,none⟩),.slice (some ⟨w.heap.size,0,none⟩) n n] (w.alloc (.cells cs e)) fun e w'=>∃r:ByteArray,e=.returned (.string r)∧r∈xs∧Drawn B w w' (b+1):=by
 refine(some_any B b _ n xs _ (lit_rowS w e xs n hn hl cs hcs) hn0 hn (by intro k hk;have:=hS.lt;simp [Value.ownBlock]at hk;omega) (hS.alloc _) hb).mono ?_;rintro e w1 ⟨r,rfl,hm,hd⟩;exact⟨r,rfl,hm,hd.of_alloc⟩
theorem pick_lit (xs:List Int)(n:Nat)(cs:Array Value)(e:TypeId)(w:World)(hcs:cs.toList=xs.map (.int .i64))(hl:xs.length=n)(hn0:0<n)(hn:n≤1099511627776)(hS:Str B w b)(hb:b≤1099511627776):
  Calls Tryz.prog 82 #[.pointer (some ⟨B,0,none⟩),.slice (some ⟨w.heap.size,0,none⟩) n n] (w.alloc (.cells cs e)) fun e w'=>∃r:Int,e=.returned (.int .i64 r)∧r∈xs∧Drawn B w w' (b+1):=by
 refine(pick_any B b _ n xs _ (lit_row w e xs n hn hl cs hcs) hn0 hn (by intro k hk;have:=hS.lt;simp [Value.ownBlock]at hk;omega) (hS.alloc _) hb).mono ?_;rintro e w1 ⟨r,rfl,hm,h1,h2⟩;exact⟨r,rfl,hm,h1,grown_trans (World.grownBy_alloc _ _ _) h2⟩
theorem flip_d (n:Int)(w:World)(hS:Str B w b)(hn:decide (n≤1000)=true)(hb:b≤1000000):
  Calls Tryz.prog 37 #[.pointer (some ⟨B,0,none⟩),.int .i64 n] w fun e w'=>∃r:Bool,e=.returned (.bool r)∧Drawn B w w' (b+1):=by
 refine(flip_any B b n w (by have:=of_decide_eq_true hn;omega) hS (by omega)).mono ?_;rintro e w1 ⟨r,rfl,h1,h2⟩;exact⟨r,rfl,h1,h2⟩
theorem next_d (n:Int)(w:World)(hS:Str B w b)(hn:1≤n)(hn':n≤1000)(hb:b≤1000000):
  Calls Tryz.prog 38 #[.pointer (some ⟨B,0,none⟩),.int .i64 n] w fun e w'=>∃r:Int,e=.returned (.int .i64 r)∧0≤r∧r<n∧Drawn B w w' (b+1):=by
 refine(next_any B b n w (by omega) hS (by omega)).mono ?_;rintro e w1 ⟨r,rfl,_,hr,h1,h2⟩;exact⟨r,rfl,(hr hn).1,(hr hn).2,h1,h2⟩
theorem range_d (low high:Int)(w:World)(hS:Str B w b)(hl:decide (0≤low∧low≤high∧high≤1000)=true)(hb:b≤1000000):
  Calls Tryz.prog 79 #[.pointer (some ⟨B,0,none⟩),.int .i64 low,.int .i64 high] w fun e w'=>∃r:Int,e=.returned (.int .i64 r)∧(low≤r∧r≤high)∧Drawn B w w' (b+1):=by
 have hl:=of_decide_eq_true hl;refine(range_any B b low high w (by omega) (by omega) (by omega) (by omega) hS (by omega)).mono ?_;rintro e w1 ⟨r,rfl,h1,h2,_,h4,h5⟩;exact⟨r,rfl,⟨h1,h2 (by omega)⟩,h4,h5⟩
end
/-- The first of two errors. -/
def err2 (a b:Int):Int:=if a≠0 then a else b
theorem errs_two (a b:Int)(w:World)(e:TypeId):
  Calls Tryz.prog 12 #[.slice (some ⟨w.heap.size,0,none⟩) 2 2] (w.alloc (.cells #[.int .i64 a,.int .i64 b] e)) fun x w'=>x=.returned (.int .i64 (err2 a b))∧Below w.heap.size w w':=by
 have hb:=(Below.refl w.heap.size w).alloc (Nat.le_refl _) (.cells #[.int .i64 a,.int .i64 b] e);have c0:=cells_new w #[.int .i64 a,.int .i64 b] e 0 _ rfl;have c1:=cells_new w #[.int .i64 a,.int .i64 b] e 1 _ rfl;generalize w.alloc (.cells #[.int .i64 a,.int .i64 b] e)=W at *;generalize hg:w.heap.size=g at *;have Hg:=Lib.hid hg;clear hg
 by_cases ha:a=0
 ·have HE:err2 a b=b:=by simp [err2,ha]
  rw [HE];clear HE;subst ha
  by_cases hb0:b=0
  ·subst hb0
   go_enter Tryz.func12,Tryz.ntmps12
   go_wp2_with fail
   go_loop [7] (fun i=>∃k:Int,0≤k∧k≤2∧i=.int .i64 k) (fun i=>2-(intOf i).toNat)
   case atStart=>exact⟨0,by omega,by omega,rfl⟩
   case round =>
    obtain⟨k,hk0,hk1,rfl⟩:=hrel;have hk:k=0∨k=1∨k=2:=by omega
    rcases hk with rfl|rfl|rfl
    ·go_wp2_with fail
     go_round
     case rel=>exact⟨1,by omega,by omega,rfl⟩
     case measure=>simp [intOf]
    ·go_wp2_with fail
     go_round
     case rel=>exact⟨2,by omega,by omega,rfl⟩
     case measure=>simp [intOf]
    ·go_wp2_with fail
     go_ret
     exact⟨rfl,hb⟩
  ·have hbb:(b != 0)=true:=by simp [hb0]
   clear hb0
   go_enter Tryz.func12,Tryz.ntmps12
   go_wp2_with fail
   go_loop [7] (fun i=>∃k:Int,0≤k∧k≤1∧i=.int .i64 k) (fun i=>2-(intOf i).toNat)
   case atStart=>exact⟨0,by omega,by omega,rfl⟩
   case round =>
    obtain⟨k,hk0,hk1,rfl⟩:=hrel;have hk:k=0∨k=1:=by omega
    rcases hk with rfl|rfl
    ·go_wp2_with fail
     go_round
     case rel=>exact⟨1,by omega,by omega,rfl⟩
     case measure=>simp [intOf]
    ·go_wp2_with fail
     go_ret
     exact⟨rfl,hb⟩
 ·have HE:=Lib.hid (show err2 a b=a by simp [err2,ha]);have hab:(a != 0)=true:=by simp [ha]
  clear ha
  go_enter Tryz.func12,Tryz.ntmps12
  go_wp2_with fail
  go_loop [7] (fun i=>i=.int .i64 0) (fun i=>2-(intOf i).toNat)
  case atStart=>rfl
  case round =>
   obtain rfl:=hrel;go_wp2_with fail
   go_ret
   exact⟨ret_int HE.out.symm,hb⟩
end Go.Proofs.YtnmdpphddimfbaaGreat
/-
  The first of several errors. Condition: fewer than 2^40 of them.
-/
namespace Go.Proofs.YtnmdpphddimfbaaGreat
open Go.RowKit Go.Bw
/-- The first that is not 0. -/
def errL:List Int→Int
 | []=>0
 | a::l=>if a≠0 then a else errL l
end Go.Proofs.YtnmdpphddimfbaaGreat
/-
  The first of some errors, the program's First. Condition: at most 1000000 of them.
-/
namespace Go.Proofs.YtnmdpphddimfbaaGreat
open Go.RowKit Go.Bw
def fstE (l:List Int):Int:=firstErr (geti l) l.length
/-- Errors in memory. -/
structure EsH (w:World)(v:Value)(l:List Int):Prop where
 r:Row w 0 1 v l.length (l.map (.int .i64))
 n:l.length≤1000000
noncomputable def fiP:Code:=(Tryz.f67.body).getD .skip
theorem fr_fiP (f:Nat→Value):frame 15 f=⟨#[f 0,f 1,f 2,f 3,f 4,f 5,f 6,f 7,f 8,f 9,f 10,f 11,f 12,f 13,f 14],[]⟩:=by rfl
section
variable (w0:World)(va:Value)(l:List Int)(h:EsH w0 va l)
include h
theorem fi0:T3 Tryz.prog (fun a w=>(IsW w0 w)∧Fr 15 [(0,va)] a) (sel [0] fiP) (fun a w=>(IsW w0 w)∧Fr 15 [(0,va)] a) No 9 (fun a w=>Fr 15 [(2,.int .i64 (fstE l))] a∧IsW w0 w):=by
 refine T3.leaf ?_;rintro Q JS JX JT K hS hK hX hE hT hR a w ⟨hW,⟨fr,rfl,q0,_⟩⟩;obtain⟨p1,c1,rfl⟩:=h.r.shape;rw [fr_fiP,fe q0];clear q0;conv=>arg 2;whnf
 go_wp2_with fail
 refine Met.intro (hS _ _ ?_);exact⟨hW,Fr.of _ rfl ⟨rfl,trivial⟩⟩
theorem fi1:T3 Tryz.prog (fun a w=>(IsW w0 w)∧Fr 15 [(0,va)] a) (sel [1,0,0] fiP) (fun a w=>(0≤(0:Int)∧(0:Int)≤l.length)∧(NoErr (geti l) 0)∧(IsW w0 w)∧Fr 15 [(5,va),(6,.int .i64 l.length),(7,.int .i64 0)] a) No 9 (fun a w=>Fr 15 [(2,.int .i64 (fstE l))] a∧IsW w0 w):=by
 refine T3.leaf ?_;rintro Q JS JX JT K hS hK hX hE hT hR a w ⟨hW,⟨fr,rfl,q0,_⟩⟩;obtain⟨p1,c1,rfl⟩:=h.r.shape;rw [fr_fiP,fe q0];clear q0;conv=>arg 2;whnf
 go_wp2_with fail
 refine Met.intro (hS _ _ ?_);exact⟨⟨by omega,by omega⟩,NoErr.zero _,hW,Fr.r rfl rfl⟩
section
variable (k:Int)
include k
theorem fi3:T3 Tryz.prog (fun a w=>((0≤k∧k<l.length)∧NoErr (geti l) k)∧(IsW w0 w)∧Fr 15 [(5,va),(6,.int .i64 l.length),(7,.int .i64 k)] a) (sel [1,0,1,4,4,1,1,0,4,0] fiP) (fun a w=>((0≤k∧k<l.length)∧NoErr (geti l) k)∧(IsW w0 w)∧Fr 15 [(4,.int .i64 (geti l k)),(5,va),(6,.int .i64 l.length),(7,.int .i64 k)] a) No 9 (fun a w=>Fr 15 [(2,.int .i64 (fstE l))] a∧IsW w0 w):=by
 refine T3.leaf ?_;rintro Q JS JX JT K hS hK hX hE hT hR a w ⟨hpre,hW,⟨fr,rfl,q5,q6,q7,_⟩⟩;have hpp:=Lib.hid hpre;obtain⟨⟨hk0,hk1⟩,_⟩:=hpre;obtain rfl:w=w0:=hW;have hn:=h.n;obtain⟨_,hcs⟩:=h.r.ints;rcases hcs with ⟨rfl,h0⟩|⟨bz,off,cap,rfl,_,hbz,hnc,hcm,hcell⟩
 ·omega
 have t0:=hcell k hk0 hk1;clear hcell;rw [fr_fiP,fe q5,fe q6,fe q7];clear q5 q6 q7;conv=>arg 2;whnf
 go_wp2_with fail
 refine Met.intro (hS _ _ ?_);exact⟨hpp.out,rfl,Fr.r rfl rfl⟩
theorem fi4:T3 Tryz.prog (fun a w=>((0≤k∧k<l.length)∧NoErr (geti l) k)∧(IsW w0 w)∧Fr 15 [(4,.int .i64 (geti l k)),(5,va),(6,.int .i64 l.length),(7,.int .i64 k)] a) (sel [1,0,1,4,4,1,1,0,4,1,0] fiP) (fun a w=>∃q,Fr 15 ((12,.bool q)::[(4,.int .i64 (geti l k)),(5,va),(6,.int .i64 l.length),(7,.int .i64 k)]) a∧((((0≤k∧k<l.length)∧NoErr (geti l) k)∧q=(geti l k != 0))∧IsW w0 w)) No 9 (fun a w=>Fr 15 [(2,.int .i64 (fstE l))] a∧IsW w0 w):=by
 refine T3.leaf ?_;rintro Q JS JX JT K hS hK hX hE hT hR a w ⟨hpre,hW,⟨fr,rfl,q4,q5,q6,q7,_⟩⟩;obtain⟨p1,c1,rfl⟩:=h.r.shape;generalize hpk:geti l k=e0 at *;clear hpk;rw [fr_fiP,fe q4,fe q5,fe q6,fe q7];clear q4 q5 q6 q7;conv=>arg 2;whnf
 go_wp2_with fail
 refine Met.intro (hS _ _ ?_);exact⟨_,Fr.r rfl rfl,⟨hpre,rfl⟩,hW⟩
theorem fi5:T3 Tryz.prog (fun a w=>(IsW w0 w)∧Fr 15 [(4,.int .i64 (geti l k)),(5,va),(6,.int .i64 l.length),(7,.int .i64 k)] a) (sel [1,0,1,4,4,1,1,0,4,1,1,2,0] fiP) (fun a w=>(IsW w0 w)∧Fr 15 [(2,.int .i64 (geti l k))] a) No 9 (fun a w=>Fr 15 [(2,.int .i64 (fstE l))] a∧IsW w0 w):=by
 refine T3.leaf ?_;rintro Q JS JX JT K hS hK hX hE hT hR a w ⟨hW,⟨fr,rfl,q4,q5,q6,q7,_⟩⟩;obtain⟨p1,c1,rfl⟩:=h.r.shape;generalize geti l k=e0 at *;rw [fr_fiP,fe q4,fe q5,fe q6,fe q7];clear q4 q5 q6 q7;conv=>arg 2;whnf
 go_wp2_with fail
 refine Met.intro (hS _ _ ?_);exact⟨hW,Fr.of _ rfl ⟨rfl,trivial⟩⟩
theorem fib:T3 Tryz.prog (fun a w=>((0≤k∧k<l.length)∧NoErr (geti l) k)∧(IsW w0 w)∧Fr 15 [(5,va),(6,.int .i64 l.length),(7,.int .i64 k)] a) (sel [1,0,1,4,4,1,1,0] fiP) (fun a w=>((0≤k∧k<l.length)∧NoErr (geti l) (k+1))∧(IsW w0 w)∧Fr 15 [(5,va),(6,.int .i64 l.length),(7,.int .i64 k)] a) No 100 (fun a w=>Fr 15 [(2,.int .i64 (fstE l))] a∧IsW w0 w):=by
 refine T3.block (id':=1) (c:=(sel [1,0,1,4,4,1,1,0,4] fiP)) (by decide) ?_;refine T3.sq rfl ((fi3 w0 va l h k).noX) ?_;refine T3.tt rfl (C:=fun q=>(((0≤k∧k<l.length)∧NoErr (geti l) k)∧q=(geti l k != 0))) (W:=fun w=>IsW w0 w) (by decide) ((fi4 w0 va l h k).noX) ?_ (T3.skip ?_)
 ·refine T3.sr rfl (t3_seqx (p:=((0≤k∧k<l.length)∧NoErr (geti l) k)∧geti l k≠0) ((fi5 w0 va l h k).noX) ?_) (T3.ret ?_)
  ·rintro a w ⟨hF,⟨hk,hq⟩,hW⟩;exact⟨⟨hk,by have:=hq.symm;simpa using this⟩,hW,hF.tail⟩
  ·rintro a w ⟨⟨hk,hne⟩,hW,hF⟩;have e:fstE l=geti l k:=firstErr_hit hk.2 hk.1.1 hk.1.2 hne;exact⟨by rw [e];exact hF,hW⟩
 ·rintro a w ⟨⟨hk,hq⟩,hW,hF⟩;exact⟨⟨hk.1,hk.2.step (by have:=hq.symm;simpa using this)⟩,hW,hF.sub (by simp)⟩
def fiI (w0:World)(va:Value)(l:List Int)(h:EsH w0 va l)(k:Int)(a:Act)(w:World):Prop:=(0≤k∧k≤l.length)∧(NoErr (geti l) k)∧(IsW w0 w)∧Fr 15 [(5,va),(6,.int .i64 l.length),(7,.int .i64 k)] a
theorem fit:T3 Tryz.prog (fun a w=>fiI w0 va l h k a w) (sel [1,0,1,4,4,0] fiP) (fun a w=>∃q,Fr 15 ((8,.bool q)::[(7,.int .i64 k)]) a∧((q=true↔k<l.length)∧fiI w0 va l h k a w)) No 9 (fun a w=>Fr 15 [(2,.int .i64 (fstE l))] a∧IsW w0 w):=by
 refine T3.leaf ?_;rintro Q JS JX JT K hS hK hX hE hT hR a w ⟨hk,hpre,hW,⟨fr,rfl,q5,q6,q7,_⟩⟩;have hln:=h.n;rw [fr_fiP,fe q5,fe q6,fe q7];clear q5 q6 q7;conv=>arg 2;whnf
 by_cases hlt:k<l.length
 ·go_wp2_with fail
  refine Met.intro (hS _ _ ?_);exact⟨true,Fr.r rfl rfl,⟨fun _=>hlt,fun _=>rfl⟩,hk,hpre,hW,Fr.r rfl rfl⟩
 ·have hpb:decide (k<(l.length:Int))=false:=by simp;omega
  go_wp2_with fail
  refine Met.intro (hS _ _ ?_);exact⟨false,Fr.r rfl rfl,⟨(fun h=>by cases h),fun h=>absurd h (by omega)⟩,hk,hpre,hW,Fr.r rfl rfl⟩
theorem fin:T3 Tryz.prog (fun a w=>(0≤k∧k<l.length)∧(NoErr (geti l) (k+1))∧(IsW w0 w)∧Fr 15 [(5,va),(6,.int .i64 l.length),(7,.int .i64 k)] a) (sel [1,0,1,4,4,1,1,1] fiP) (fun a w=>fiI w0 va l h (k+1) a w) No 9 (fun a w=>Fr 15 [(2,.int .i64 (fstE l))] a∧IsW w0 w):=by
 refine T3.leaf ?_;rintro Q JS JX JT K hS hK hX hE hT hR a w ⟨hk,hpre,hW,⟨fr,rfl,q5,q6,q7,_⟩⟩;obtain⟨hk0,hk1⟩:=hk;have hln:=h.n;rw [fr_fiP,fe q5,fe q6,fe q7];clear q5 q6 q7;conv=>arg 2;whnf
 go_wp2_with fail
 refine Met.intro (hS _ _ ?_);exact⟨⟨by omega,by omega⟩,hpre,hW,Fr.r rfl rfl⟩
end
theorem filoop:T3 Tryz.prog (fun a w=>fiI w0 va l h 0 a w) (sel [1,0,1] fiP) (fun a w=>(NoErr (geti l) l.length)∧(IsW w0 w)∧Fr 15 [] a) No 9 (fun a w=>Fr 15 [(2,.int .i64 (fstE l))] a∧IsW w0 w) :=
 T3.range (I:=fiI w0 va l h) rfl (by decide) (fit w0 va l h) (fin w0 va l h) (fun _ _ _ h=>h.1) (fun k hk=>T3.mono (fib w0 va l h k) (fun a w ⟨_,hp,hI⟩=>⟨⟨hk,hp⟩,hI⟩) (fun a w ⟨⟨hk,hp⟩,hI⟩=>⟨hk,hp,hI⟩) (fun _ _ q=>q) (fun _ _ q=>q)) (fun a w hI=>by
  obtain⟨hk,hI⟩:=hI;obtain⟨hn,hW,hF⟩:=hI;exact⟨hn,hW,hF.sub (by simp)⟩)
theorem fi7 (hn:NoErr (geti l) l.length):T3 Tryz.prog (fun a w=>(IsW w0 w)∧Fr 15 [] a) (sel [1,1,0] fiP) (fun a w=>(IsW w0 w)∧Fr 15 [(2,.int .i64 0)] a) No 9 (fun a w=>Fr 15 [(2,.int .i64 (fstE l))] a∧IsW w0 w):=by
 refine T3.leaf ?_;rintro Q JS JX JT K hS hK hX hE hT hR a w ⟨hW,⟨fr,rfl,_⟩⟩;clear hn;rw [fr_fiP];conv=>arg 2;whnf
 go_wp2_with fail
 refine Met.intro (hS _ _ ?_);exact⟨hW,Fr.of _ rfl ⟨rfl,trivial⟩⟩
theorem fi_all:T3 Tryz.prog (fun a w=>(IsW w0 w)∧Fr 15 [(0,va)] a) fiP No No 9 (fun a w=>Fr 15 [(2,.int .i64 (fstE l))] a∧IsW w0 w):=by
 refine T3.seq (s:=(sel [0] fiP)) (c:=(sel [1] fiP)) (fi0 w0 va l h) ?_;refine T3.sq rfl (T3.seq (s:=(sel [1,0,0] fiP)) (c:=(sel [1,0,1] fiP)) (fi1 w0 va l h) (filoop w0 va l h)) ?_;refine T3.pure fun hn=>?_
 refine T3.sr rfl (fi7 w0 va l h hn) (T3.ret ?_);rintro a w ⟨hW,hF⟩;have e:fstE l=0:=firstErr_none hn;exact⟨by rw [e];exact hF,hW⟩
theorem first_prog2:Calls Tryz.prog 67 #[va] w0 fun e w'=>e=.returned (.int .i64 (fstE l))∧w0=w':=by
 have hall:=fi_all w0 va l h
 go_enter Tryz.func67,Tryz.ntmps67
 refine T3.done (s:=fiP) hall ⟨rfl,Fr.of _ rfl ⟨rfl,trivial⟩⟩ ?_;rintro a w ⟨⟨fr,rfl,q2,_⟩,hb⟩;obtain rfl:w=w0:=hb;rw [fr_fiP,fe q2]
 go_ret
 exact⟨rfl,rfl⟩
end
theorem fst2 (x y:Int):fstE [x,y]=if x≠0 then x else y:=by
 unfold fstE
 by_cases hx:x=0
 ·rw [if_neg (by simp [hx])]
  by_cases hy:y=0
  ·subst hx;subst hy;decide
  ·exact firstErr_hit (f:=geti [x,y]) (n:=2) (i:=1) (fun j h0 h1=>by
   obtain rfl:j=0:=by omega
   simp [geti,hx]) (by decide) (by decide) (by simp [geti,hy])
 ·rw [if_pos hx];exact firstErr_hit (f:=geti [x,y]) (n:=2) (i:=0) (NoErr.zero _) (by decide) (by decide) (by simp [geti,hx])
theorem es_new (w:World)(x y:Int)(e:TypeId):EsH (w.alloc (.cells #[.int .i64 x,.int .i64 y] e)) (.slice (some ⟨w.heap.size,0,none⟩) 2 2) [x,y]:=by
 refine⟨⟨rfl,.inr ⟨_,0,2,rfl,Nat.zero_le _,by simp,Nat.le_refl _,by decide,?_⟩⟩,by simp⟩;intro i u hi
 match i,hi with
 | 0,hi=>cases hi;exact cells_new w _ _ 0 _ rfl
 | 1,hi=>cases hi;exact cells_new w _ _ 1 _ rfl
end Go.Proofs.YtnmdpphddimfbaaGreat
