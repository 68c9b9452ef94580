/-
  Contracts and lemmas towards the statement, of several parts; each part says ahead of it what it holds and under which conditions.
-/
import Derived.Test.YtnmdpphddimfbaaGreatMg12
import Derived.Laws.StructEq
import Derived.Lib.SliceRun
import Derived.Test.YtnmdpphddimfbaaGreatMg1
import Derived.Test.YtnmdpphddimfbaaGreatMg2
import Derived.Test.YtnmdpphddimfbaaGreatMg11
set_option maxRecDepth 100000
set_option maxHeartbeats 1000000
set_option linter.unusedSectionVars false
/-
  slices.DeleteFunc at strings with any function; the functions that BenchesSubbed gives it; equal fills are told equal. Conditions: the bounds that each theorem names.
-/
set_option linter.unusedVariables false
namespace Go.Bw
open Go.RowKit
end Go.Bw
namespace Go.Proofs.YtnmdpphddimfbaaGreat
open Go.RowKit Go.Bw
/-- Strings that the call may store into. -/
structure DfW (M g n cap:Nat)(w0:World)(xs:List ByteArray)(w:World):Prop where
 b:w0.grownBy w (some g)
 hM:M≤w0.heap.size
 o:w.ownsRow M 9 1 (.slice (some ⟨g,0,none⟩) n cap) n (cellsOf encSt xs)
 z:SmAll xs
 l:xs.length=n
theorem DfW.below {M g n cap:Nat}{w0 w w':World}{xs:List ByteArray}(h:DfW M g n cap w0 xs w)(b:Below w.heap.size w w'):DfW M g n cap w0 xs w' :=
 ⟨grown_trans h.b (grown_of_below b),h.hM,owns_below h.o b (Nat.le_refl _),h.z,h.l⟩
theorem cellsSt_set (xs:List ByteArray)(i:Nat)(x:ByteArray):(cellsOf encSt xs).set i (.string x)=cellsOf encSt (xs.set i x):=by rw [cells_map,cells_map,List.map_set]
theorem DfW.put {M g n cap:Nat}{w0 w:World}{xs:List ByteArray}(h:DfW M g n cap w0 xs w)(i:Nat)(hi:i<n)(x:ByteArray)(hx:Sm x):DfW M g n cap w0 (xs.set i x) (w.setCell ⟨g,i,none⟩ (.string x)):=by
 refine⟨grown_trans h.b (grown_setCell w g i _),h.hM,?_,fun s hs=>?_,by rw [List.length_set];exact h.l⟩
 ·have:=owns_setC h.o i (by omega) (.string x)
  rwa [cellsSt_set]at this
 ·rcases List.mem_or_eq_of_mem_set hs with hs|rfl
  ·exact h.z s hs
  ·exact hx
theorem DfW.clear {M g n cap:Nat}{w0:World}:∀(k i:Nat) (w:World) (xs:List ByteArray),DfW M g n cap w0 xs w→i+k≤n→∃ys,DfW M g n cap w0 ys (w.setCells g i (List.replicate k (.string ⟨#[]⟩)))
 | 0,i,w,xs,h,_=>⟨xs,h⟩
 | k+1,i,w,xs,h,hk=>DfW.clear k (i+1) _ _ (h.put i (by omega) ⟨#[]⟩ (by decide)) (by omega)
theorem DfW.cell {M g n cap:Nat}{w0 w:World}{xs:List ByteArray}(h:DfW M g n cap w0 xs w){j:Int}(h0:0≤j)(h1:j<n):w.cell? ⟨g,j.toNat,none⟩=some (.string (geta xs j))∧Sm (geta xs j)∧w.frozen? ⟨g,j.toNat,none⟩=false:=by
 have hl:=h.l;refine⟨?_,h.z _ (geta_mem h0 (by omega)),owns_frozenC h.o _⟩;subst hl;obtain⟨bz,off,hp,_,_,hcell⟩:=Row.nonnil ((Row.of_owns h.o).mono (Nat.zero_le _)) (by omega);simp only [Option.some.injEq,Addr.mk.injEq]at hp;obtain⟨rfl,rfl,_⟩:=hp;have t0:=Row.elAt encSt_length hcell h0 (by omega) 0 _ (by decide) rfl;rw [Nat.zero_add,Nat.mul_one,Nat.add_zero]at t0;exact t0
theorem equal_fills (v1 v2:Value)(n:Nat)(l:List FlD)(b1 b2:Nat)(w:World)(h1:Row w b1 2 v1 n (cellsOf encFl l))(h2:Row w b2 2 v2 n (cellsOf encFl l))(hn:n≤1099511627776):
  Calls Tryz.prog 34 #[v1,v2] w fun e w'=>e=.returned (.bool true)∧Below w.heap.size w w':=by
 obtain⟨hl1,hc1⟩:=h1.els encFl_length (by decide);obtain⟨hl2,hc2⟩:=h2.els encFl_length (by decide);obtain⟨a1,cap1,hv1⟩:=h1.shape;obtain⟨a2,cap2,hv2⟩:=h2.shape;subst hv1;subst hv2;clear h1 h2 hl2 hl1;have hbn:((n:Int) != n)=false:=by simp
 go_enter Tryz.func34,Tryz.ntmps34
 go_wp2
 go_loopw [13] (fun i wr=>∃k:Int,0≤k∧k≤n∧i=.int .i64 k∧Below w.heap.size w wr) (fun i _=>n-(intOf i).toNat)
 case atStart=>exact⟨0,by omega,by omega,rfl,Below.refl _ _⟩
 case round =>
  obtain⟨k,hk0,hk1,rfl,hb⟩:=hrel
  by_cases hlt:k<n
  ·rcases hc1 with ⟨h,h0⟩|⟨bz1,off1,cap1',h,hbb1,hbs1,hnc1,hcm1,hcell1⟩
   ·omega
   rcases hc2 with ⟨h',h0⟩|⟨bz2,off2,cap2',h',hbb2,hbs2,hnc2,hcm2,hcell2⟩
   ·omega
   simp only [Value.slice.injEq]at h h';obtain⟨rfl,_,rfl⟩:=h;obtain⟨rfl,_,rfl⟩:=h';have r1:=(hb.cell (p:=⟨bz1,off1+k.toNat*2+0,none⟩) hbs1).trans (hcell1 k hk0 hlt 0 _ rfl);have r2:=(hb.cell (p:=⟨bz1,off1+k.toNat*2+1,none⟩) hbs1).trans (hcell1 k hk0 hlt 1 _ rfl);have s1:=(hb.cell (p:=⟨bz2,off2+k.toNat*2+0,none⟩) hbs2).trans (hcell2 k hk0 hlt 0 _ rfl);have s2:=(hb.cell (p:=⟨bz2,off2+k.toNat*2+1,none⟩) hbs2).trans (hcell2 k hk0 hlt 1 _ rfl);rw [Nat.add_zero]at r1 s1;generalize (geta l k).sl=x at *;generalize (geta l k).pl=y at *;clear hcell1 hcell2;have hkn:k≤1099511627776:=by omega
   go_wp2
   go_quiet (fail)
   go_wp2
   go_roundw
   case rel=>exact⟨k+1,by omega,by omega,rfl,below_drewN hb _⟩
   case measure=>simp [intOf];omega
  ·clear hc1 hc2
   go_wp2
   go_ret
   exact⟨rfl,hb⟩
end Go.Proofs.YtnmdpphddimfbaaGreat
/-
  Line-ups: slots that the stream hands out, whole. Conditions: the bounds that each theorem names.
-/
namespace Go.Proofs.YtnmdpphddimfbaaGreat
open Go.RowKit Go.Bw
section
variable (B b:Nat)(w0:World)(hb:b≤40000)(v3:Value)(S:List SlD)
include B w0 hb v3 S
theorem st5:T3 Tryz.prog (fun a w=>(SlO B (b+25) w0 v3 S w)∧Fr 41 [(0,.pointer (some ⟨B,0,none⟩)),(3,v3)] a) (sel [1,1,1,0,0] slM) (fun a w=>∃q,Fr 41 ((39,.bool q)::[(0,.pointer (some ⟨B,0,none⟩)),(3,v3)]) a∧(True∧SlO B (b+26) w0 v3 S w)) No 9 No:=by
 refine T3.leaf ?_;rintro Q JS JX JT K hS hK hX hE hT hR a w ⟨hW,⟨fr,rfl,q0,q3,_⟩⟩;obtain⟨p3,c3,rfl⟩:=(Row.of_owns hW.o).shape;rw [fr_slM,fe q0,fe q3];clear q0 q3;conv=>arg 2;whnf
 go_wp2_with fail
 refine(flip_d B (b+25) _ w hW.d.str rfl (by omega)).mono ?_;rintro e w1 ⟨q,rfl,hd⟩;have HW:=Lib.hid (hW.drawn hd);clear hd hW;go_wp2_with fail
 refine Met.intro (hS _ _ ?_);exact⟨_,Fr.r rfl rfl,trivial,HW.out⟩
theorem st6:T3 Tryz.prog (fun a w=>(SlO B (b+26) w0 v3 S w)∧Fr 41 [(0,.pointer (some ⟨B,0,none⟩)),(3,v3)] a) (sel [1,1,1,0,1,2,0] slM) (fun a w=>(SlO B (b+26) w0 (.slice none 0 0) [] w)∧Fr 41 [(2,.slice none 0 0)] a) No 9 No:=by
 refine T3.leaf ?_;rintro Q JS JX JT K hS hK hX hE hT hR a w ⟨hW,⟨fr,rfl,q0,q3,_⟩⟩;have HW:=Lib.hid (SlO.nil hW.d hW.hB);obtain⟨p3,c3,rfl⟩:=(Row.of_owns hW.o).shape;clear hW;rw [fr_slM,fe q0,fe q3];clear q0 q3;conv=>arg 2;whnf
 go_wp2_with fail
 refine Met.intro (hS _ _ ?_);exact⟨HW.out,Fr.of _ rfl ⟨rfl,trivial⟩⟩
theorem st7:T3 Tryz.prog (fun a w=>(SlO B (b+26) w0 v3 S w)∧Fr 41 [(0,.pointer (some ⟨B,0,none⟩)),(3,v3)] a) (sel [1,1,1,1,0] slM) (fun a w=>(SlO B (b+26) w0 v3 S w)∧Fr 41 [(2,v3)] a) No 9 No:=by
 refine T3.leaf ?_;rintro Q JS JX JT K hS hK hX hE hT hR a w ⟨hW,⟨fr,rfl,q0,q3,_⟩⟩;have HW:=Lib.hid hW;obtain⟨p3,c3,rfl⟩:=(Row.of_owns hW.o).shape;clear hW;rw [fr_slM,fe q0,fe q3];clear q0 q3;conv=>arg 2;whnf
 go_wp2_with fail
 refine Met.intro (hS _ _ ?_);exact⟨HW.out,Fr.of _ rfl ⟨rfl,trivial⟩⟩
end
theorem st_all (B b:Nat)(w0:World)(hb:b≤40000):T3 Tryz.prog (fun a w=>(Str B w b∧IsW w0 w)∧Fr 41 [(0,.pointer (some ⟨B,0,none⟩))] a) slM No No 9 (fun a w=>∃(v3:Value) (S:List SlD),(S.length≤4)∧(SlO B (b+26) w0 v3 S w)∧Fr 41 [(2,v3)] a):=by
 refine T3.seq (s:=(sel [0] slM)) (c:=(sel [1] slM)) (T3.noT (st0 B b w0 hb)) ?_;refine T3.sq rfl (T3.noT (st1 B b w0 hb)) ?_;refine T3.ex fun v3=>T3.ex fun S=>T3.pure fun hn=>?_
 refine T3.sq rfl (S:=(fun a w=>∃(v3:Value) (S:List SlD),(S.length≤4)∧(SlO B (b+25) w0 v3 S w)∧Fr 41 [(0,.pointer (some ⟨B,0,none⟩)),(3,v3)] a)) ?_ (T3.ex fun v3=>T3.ex fun S=>T3.pure fun hn=>?_)
 ·refine T3.tt rfl (C:=fun _=>True) (W:=fun w=>SlO B (b+22) w0 v3 S w) (by decide) (T3.noT (st2 B b w0 hb v3 S hn)) ?_ (T3.skip ?_)
  ·refine T3.pre (R:=fun a w=>∃(g:Nat) (c:Nat),(SlO B (b+22) w0 (.slice (some ⟨g,0,none⟩) S.length c) S w)∧Fr 41 [(0,.pointer (some ⟨B,0,none⟩)),(3,.slice (some ⟨g,0,none⟩) S.length c)] a) (T3.ex fun g=>T3.ex fun c=>?_) ?_
   ·refine T3.sq rfl (T3.noT (st3 B b w0 hb v3 S hn g c)) (T3.ex fun i=>T3.pure fun hi=>?_);refine T3.post (T3.noT (st4 B b w0 hb v3 S hn g c i hi)) ?_;rintro a w ⟨S',hl,hW,hF⟩;exact⟨_,S',by have:=hn.h;omega,hW,hF⟩
   ·rintro a w ⟨hF,hq,hW⟩;obtain⟨g,c,hv,_⟩:=owns_shape hW.o (by have:=hn.h;omega);subst hv;exact⟨g,c,hW,hF.sub (by simp)⟩
  ·rintro a w ⟨hq,hW,hF⟩;exact⟨v3,S,hn.h.2,hW.mono (Nat.add_le_add_left (by decide:22≤25) b),hF.sub (by simp)⟩
 refine T3.sq rfl (S:=(fun a w=>(SlO B (b+26) w0 v3 S w)∧Fr 41 [(0,.pointer (some ⟨B,0,none⟩)),(3,v3)] a)) ?_ ?_
 ·refine T3.tt rfl (C:=fun _=>True) (W:=fun w=>SlO B (b+26) w0 v3 S w) (by decide) (T3.noT (st5 B b w0 hb v3 S)) ?_ (T3.skip ?_)
  ·refine T3.pre (R:=(fun a w=>(SlO B (b+26) w0 v3 S w)∧Fr 41 [(0,.pointer (some ⟨B,0,none⟩)),(3,v3)] a)) ?_ (fun a w q=>⟨q.2.2,q.1.tail⟩);exact T3.sr rfl (T3.noT (st6 B b w0 hb v3 S)) (T3.ret fun a w q=>⟨_,[],Nat.zero_le _,q⟩)
  ·rintro a w ⟨hq,hW,hF⟩;exact⟨hW,hF⟩
 exact T3.sr rfl (T3.noT (st7 B b w0 hb v3 S)) (T3.ret fun a w q=>⟨v3,S,hn,q⟩)
theorem slotsS_any (B b:Nat)(w0:World)(hS:Str B w0 b)(hb:b≤40000):Calls Tryz.prog 5 #[.pointer (some ⟨B,0,none⟩)] w0 fun e w'=>∃(v3:Value) (S:List SlD),e=.returned v3∧S.length≤4∧SlO B (b+26) w0 v3 S w':=by
 have hall:=st_all B b w0 hb
 go_enter Tryz.func5,Tryz.ntmps5
 refine T3.done (s:=slM) hall ⟨⟨hS,rfl⟩,Fr.of _ rfl ⟨rfl,trivial⟩⟩ ?_;rintro a w ⟨v3,L,hn,hW,fr,rfl,q2,_⟩;rw [fr_slM,fe q2]
 go_ret
 exact⟨v3,L,rfl,hn,hW⟩
end Go.Proofs.YtnmdpphddimfbaaGreat
/-
  Lines: the program's and the reference's look at them. Conditions: strings and numbers are no greater than Go's.
-/
namespace Go.Bw
open Go.RowKit
/-- A statistic: its name, how often. -/
structure StatL where
 name:ByteArray
 count:Int
instance:Inhabited StatL:=⟨⟨ByteArray.empty,0⟩⟩
def encT (t:StatL):List Value:=[.string t.name,.int .i64 t.count]
theorem encT_length (t:StatL):(encT t).length=2:=rfl
/-- Its parts are no greater than Go's. -/
def StatOk (t:StatL):Prop:=t.name.size≤9223372036854775807
end Go.Bw
namespace Go.Proofs.YtnmdpphddimfbaaGreat
open Go.RowKit Go.Bw
def statAt (l:List StatL)(i:Int):Int :=
 if keyB (geta l i).name=false then 5 else if outB (geta l i).count (-100000) 100000=true then 1 else if 0<i∧leB (geta l i).name (geta l (i-1)).name=true then 7 else 0
def lineE (p:ByteArray)(wk:Int)(l:List StatL):Int :=
 if keyB p=false then 5 else if outB wk 1 60=true then 1 else if 40<l.length then 2 else firstErr (statAt l) l.length
/-- The name before. -/
def lastT (l:List StatL)(i:Int):ByteArray:=if i≤0 then ByteArray.empty else(geta l (i-1)).name
theorem week_prog (n:Int)(b:Bool)(h:(!outB n 1 60)=b)(w:World):Calls Tryz.prog 123 #[.int .i64 n] w fun e w'=>e=.returned (.bool b)∧w=w':=by
 have ho:outB n 1 60=!b:=by rw [←h];simp
 have ho:=Lib.hid ho;clear h
 go_enter Tryz.func123,Tryz.ntmps123
 go_wp2_with (go_at_call 101;refine(out_is _ _ _ _ ho.out _).mono ?_;rintro e w1 ⟨rfl,rfl⟩)
 go_ret
 exact⟨ret_bool (by simp),rfl⟩
set_option maxHeartbeats 2000000 in
theorem line_prog (p:ByteArray)(wk:Int)(v:Value)(n:Nat)(l:List StatL)(base:Nat)(w:World)(hz0:p.size≤9223372036854775807)(h:Row w base 2 v n (cellsOf encT l))(hz:∀t∈l,StatOk t):
  Calls Tryz.prog 116 #[.agg #[.string p,.int .i64 wk,v]] w fun e w'=>e=.returned (.int .i64 (lineE p wk l))∧Below w.heap.size w w':=by
 obtain⟨hl,hc⟩:=h.els encT_length (by decide);subst hl;obtain⟨p0,c0,rfl⟩:=h.shape;have hw0:=Below.refl w.heap.size w;clear h;cases hkb:keyB p
 ·have he:=Lib.hid (show lineE p wk l=5 by simp [lineE,hkb]);have hkb:=Lib.hid hkb;clear hc
  go_enter Tryz.func116,Tryz.ntmps116
  go_wp2_with (go_at_call 64;refine(key_is _ _ hkb.out _ hz0).mono ?_;rintro e w1 ⟨rfl,rfl⟩)
  go_ret
  exact⟨ret_int he.out.symm,hw0.alloc (Nat.le_refl _) _⟩
 cases hob:outB wk 1 60
 rotate_left
 ·have he:=Lib.hid (show lineE p wk l=1 by simp [lineE,hkb,hob]);have hkb:=Lib.hid hkb;have hwb:=Lib.hid (show(!outB wk 1 60)=false by rw [hob];rfl);clear hc hob
  go_enter Tryz.func116,Tryz.ntmps116
  go_wp2_with first|(go_at_call 64;refine(key_is _ _ hkb.out _ hz0).mono ?_;rintro e w1 ⟨rfl,rfl⟩)|(go_at_call 123;refine(week_prog _ _ hwb.out _).mono ?_;rintro e w1 ⟨rfl,rfl⟩)
  go_ret
  exact⟨ret_int he.out.symm,hw0.alloc (Nat.le_refl _) _⟩
 by_cases h40:40<l.length
 ·have he:=Lib.hid (show lineE p wk l=2 by simp [lineE,hkb,hob,h40]);have hkb:=Lib.hid hkb;have hwb:=Lib.hid (show(!outB wk 1 60)=true by rw [hob];rfl);clear hc hob
  go_enter Tryz.func116,Tryz.ntmps116
  go_wp2_with first|(go_at_call 64;refine(key_is _ _ hkb.out _ hz0).mono ?_;rintro e w1 ⟨rfl,rfl⟩)|(go_at_call 123;refine(week_prog _ _ hwb.out _).mono ?_;rintro e w1 ⟨rfl,rfl⟩)
  go_ret
  exact⟨ret_int he.out.symm,hw0.alloc (Nat.le_refl _) _⟩
 have he:=Lib.hid (show lineE p wk l=firstErr (statAt l) l.length by simp [lineE,hkb,hob,h40])
 replace hkb:=Lib.hid hkb
 have hwb:=Lib.hid (show(!outB wk 1 60)=true by rw [hob];rfl);clear hob
 go_enter Tryz.func116,Tryz.ntmps116
 go_wp2_with first|(go_at_call 64;refine(key_is _ _ hkb.out _ hz0).mono ?_;rintro e w1 ⟨rfl,rfl⟩)|(go_at_call 123;refine(week_prog _ _ hwb.out _).mono ?_;rintro e w1 ⟨rfl,rfl⟩)
 have b0:=cells_new w #[.string p,.int .i64 wk,.slice p0 l.length c0] 116 2 _ rfl
 replace hw0:=hw0.alloc (Nat.le_refl _) (.cells #[.string p,.int .i64 wk,.slice p0 l.length c0] 116)
 have hlt0:w.heap.size<(w.alloc (.cells #[.string p,.int .i64 wk,.slice p0 l.length c0] 116)).heap.size:=by simp
 generalize w.alloc (.cells #[.string p,.int .i64 wk,.slice p0 l.length c0] 116)=W at *
 go_loopw [23] (fun i wr=>∃k:Int,0≤k∧k≤l.length∧NoErr (statAt l) k∧i=.int .i64 k∧Below W.heap.size W wr) (fun i  _=>l.length-(intOf i).toNat)
 case atStart=>exact⟨0,by omega,by omega,NoErr.zero _,rfl,Below.refl _ _⟩
 case round =>
  obtain⟨k,hk0,hk1,hok,rfl,hb⟩:=hrel
  by_cases hlt:k<l.length
  ·rcases hc with ⟨_,hc⟩|⟨b,off,cap,hv,_,hbs,hnc,hcm,hcell⟩
   ·omega
   simp only [Value.slice.injEq]at hv;obtain⟨rfl,_,rfl⟩:=hv;have hbW:b<W.heap.size:=by have:=hw0.size;omega
   have tr:∀o u,w.cell? ⟨b,o,none⟩=some u→wr.cell? ⟨b,o,none⟩=some u:=fun o u h=>((hb.cell (p:=⟨b,o,none⟩) hbW).trans (hw0.cell (p:=⟨b,o,none⟩) hbs)).trans h
   have g0:=tr _ _ (hcell k hk0 hlt 0 _ rfl);have g1:=tr _ _ (hcell k hk0 hlt 1 _ rfl);have b0:=(hb.cell (p:=⟨w.heap.size,2,none⟩) hlt0).trans b0;rw [Nat.add_zero]at g0;have hz1:=hz _ (geta_mem hk0 hlt);unfold StatOk at hz1;have hex:=Lib.hid (show statAt l k=if keyB (geta l k).name=false then 5 else if outB (geta l k).count (-100000) 100000=true then 1 else if 0<k∧leB (geta l k).name (geta l (k-1)).name=true then 7 else 0 from rfl);have hc0:k≤0∨wr.cell? ⟨b,off+(k.toNat-1)*2,none⟩=some (.string (geta l (k-1)).name):=by
    by_cases hp:0<k
    ·have:=tr _ _ (hcell (k-1) (by omega) (by omega) 0 _ rfl);rw [Nat.add_zero,show(k-1).toNat=k.toNat-1 by omega]at this;exact .inr this
    ·exact .inl (by omega)
   have hsz:=hb.size;have hbr:b<wr.heap.size:=by omega
   have hBr:w.heap.size<wr.heap.size:=by omega
   have hst:=Lib.hid (fun h=>hok.step (f:=statAt l) (i:=k) h);generalize (geta l k).name=s1 at *;generalize (geta l k).count=n1 at *
   go_upto_region 10 with fail
   have d0:=cells_new wr #[.string s1,.int .i64 n1] 113 0 _ rfl;have d1:=cells_new wr #[.string s1,.int .i64 n1] 113 1 _ rfl;have hb2:=hb.alloc hsz (.cells #[.string s1,.int .i64 n1] 113);have b0:=(World.cell?_of_block (a:=⟨w.heap.size,2,none⟩) ((World.grownBy_alloc wr (.cells #[.string s1,.int .i64 n1] 113) none).block _ hBr (by simp))).trans b0
   replace hc0:k≤0∨(wr.alloc (.cells #[.string s1,.int .i64 n1] 113)).cell? ⟨b,off+(k.toNat-1)*2,none⟩=some (.string (geta l (k-1)).name):=by
    rcases hc0 with hc0|hc0
    ·exact .inl hc0
    ·exact .inr ((World.cell?_of_block (a:=⟨b,off+(k.toNat-1)*2,none⟩) ((World.grownBy_alloc wr (.cells #[.string s1,.int .i64 n1] 113) none).block _ hbr (by simp))).trans hc0)
   generalize wr.alloc (.cells #[.string s1,.int .i64 n1] 113)=W2 at *;generalize wr.heap.size=g at *;clear hcell tr g0 g1 hz;cases hkn:keyB s1
   ·have hg:=Lib.hid (show statAt l k=5 by rw [hex.out,if_pos hkn]);have hf:=Lib.hid (firstErr_hit hok hk0 hlt (by rw [hg.out];decide));have hkn:=Lib.hid hkn;go_wp2_with (go_at_call 64;refine(key_is _ _ hkn.out _ hz1).mono ?_;rintro e w2 ⟨rfl,rfl⟩)
    go_ret
    exact⟨ret_int (by rw [he.out];show(5:Int)=firstErr _ _;rw [hf.out,hg.out]),hw0.trans (hb2.mono (Nat.le_of_lt hlt0))⟩
   cases hon:outB n1 (-100000) 100000
   rotate_left
   ·have hg:=Lib.hid (show statAt l k=1 by rw [hex.out,if_neg (by rw [hkn];decide),if_pos hon]);have hf:=Lib.hid (firstErr_hit hok hk0 hlt (by rw [hg.out];decide));have hkn:=Lib.hid hkn;have hon:=Lib.hid hon;go_wp2_with first|(go_at_call 64;refine(key_is _ _ hkn.out _ hz1).mono ?_;rintro e w2 ⟨rfl,rfl⟩)|(go_at_call 101;refine(out_is _ _ _ _ hon.out _).mono ?_;rintro e w2 ⟨rfl,rfl⟩)
    go_ret
    exact⟨ret_int (by rw [he.out];show(1:Int)=firstErr _ _;rw [hf.out,hg.out]),hw0.trans (hb2.mono (Nat.le_of_lt hlt0))⟩
   by_cases hp:0<k
   ·have hkb1:=hkn;have hon1:=hon;rcases hc0 with hc0|hc0
    ·omega
    have hkn:=Lib.hid hkn;have hon:=Lib.hid hon;cases hle:leB s1 (geta l (k-1)).name
    ·have hst:=Lib.hid (hst.out (by rw [hex.out,if_neg (by rw [hkb1];decide),if_neg (by rw [hon1];decide),if_neg (by rw [hle];simp)]));unfold leB at hle;clear hkb1 hon1;generalize (geta l (k-1)).name=s2 at *;go_wp2_with first|(go_at_call 64;refine(key_is _ _ hkn.out _ hz1).mono ?_;rintro e w2 ⟨rfl,rfl⟩)|(go_at_call 101;refine(out_is _ _ _ _ hon.out _).mono ?_;rintro e w2 ⟨rfl,rfl⟩)
     go_quiet (fail)
     go_wp2_with fail
     go_roundw
     case rel=>exact⟨k+1,by omega,by omega,hst.out,rfl,below_drewN hb2 _⟩
     case measure=>simp [intOf];omega
    ·have hg:=Lib.hid (show statAt l k=7 by rw [hex.out,if_neg (by rw [hkb1];decide),if_neg (by rw [hon1];decide),if_pos ⟨hp,hle⟩]);have hf:=Lib.hid (firstErr_hit hok hk0 hlt (by rw [hg.out];decide));unfold leB at hle;clear hkb1 hon1;generalize (geta l (k-1)).name=s2 at *;go_wp2_with first|(go_at_call 64;refine(key_is _ _ hkn.out _ hz1).mono ?_;rintro e w2 ⟨rfl,rfl⟩)|(go_at_call 101;refine(out_is _ _ _ _ hon.out _).mono ?_;rintro e w2 ⟨rfl,rfl⟩)
     go_quiet (fail)
     go_wp2_with fail
     go_ret
     exact⟨ret_int (by rw [he.out];show(7:Int)=firstErr _ _;rw [hf.out,hg.out]),below_drewN (hw0.trans (hb2.mono (Nat.le_of_lt hlt0))) _⟩
   ·have hst:=Lib.hid (hst.out (by rw [hex.out,if_neg (by rw [hkn];decide),if_neg (by rw [hon];decide),if_neg (fun h=>hp h.1)]));have hpb:decide (0<k)=false:=by simp;omega
    have hkn:=Lib.hid hkn;have hon:=Lib.hid hon;go_wp2_with first|(go_at_call 64;refine(key_is _ _ hkn.out _ hz1).mono ?_;rintro e w2 ⟨rfl,rfl⟩)|(go_at_call 101;refine(out_is _ _ _ _ hon.out _).mono ?_;rintro e w2 ⟨rfl,rfl⟩)
    go_quiet (fail)
    go_wp2_with fail
    go_roundw
    case rel=>exact⟨k+1,by omega,by omega,hst.out,rfl,below_drewN hb2 _⟩
    case measure=>simp [intOf];omega
  ·have hf:=Lib.hid (firstErr_none (f:=statAt l) (n:=l.length) (fun j h0 h1=>hok j h0 (by omega)));clear hc;go_wp2_with fail
   go_ret
   exact⟨ret_int (by rw [he.out,hf.out]),hw0.trans (hb.mono (Nat.le_of_lt hlt0))⟩
end Go.Proofs.YtnmdpphddimfbaaGreat
/-
  Rules: the program's and the reference's look at them. Conditions: strings and numbers are no greater than Go's.
-/
namespace Go.Bw
open Go.RowKit
structure RuleL where
 key:ByteArray
 stat:ByteArray
 pos:ByteArray
 kind:Int
 many:Int
 num:Int
 den:Int
instance:Inhabited RuleL:=⟨⟨ByteArray.empty,ByteArray.empty,ByteArray.empty,0,0,0,0⟩⟩
def encR (r:RuleL):List Value:=[.string r.key,.string r.stat,.string r.pos,.int .i64 r.kind,.int .i64 r.many,.int .i64 r.num,.int .i64 r.den]
theorem encR_length (r:RuleL):(encR r).length=7:=rfl
/-- Its parts are no greater than Go's. -/
structure RuleOk (r:RuleL):Prop where
 key:r.key.size≤9223372036854775807
 stat:r.stat.size≤9223372036854775807
 pos:r.pos.size≤9223372036854775807
 num0:-9223372036854775808≤r.num
 num1:r.num≤9223372036854775807
 den0:-9223372036854775808≤r.den
 den1:r.den≤9223372036854775807
/-- Block g holds a copy. -/
def CopyR (w:World)(g:Nat)(r:RuleL):Prop:=g<w.heap.size∧∀j u,(encR r)[j]?=some u→w.cell? ⟨g,j,none⟩=some u
theorem CopyR.below {w w':World}{g:Nat}{r:RuleL}(h:CopyR w g r)(b:Below w.heap.size w w'):CopyR w' g r :=
 ⟨Nat.lt_of_lt_of_le h.1 b.size,fun j u hu=>(b.cell (p:=⟨g,j,none⟩) h.1).trans (h.2 j u hu)⟩
theorem str_empty {s:ByteArray}(h:s.size=0):s.toList=[]:=by
 have:s.data.toList.length=0:=by simpa using h
 have:=List.length_eq_zero_iff.1 this
 simpa [ByteArray.toList_eq] using this
theorem str_full {s:ByteArray}(h:s.size≠0):s.toList.isEmpty=false:=by
 have:s.data.toList.length≠0:=by simpa using h
 have:s.data.toList≠[]:=fun e=>this (by rw [e];rfl)
 simpa [ByteArray.toList_eq] using this
end Go.Bw
namespace Go.Proofs.YtnmdpphddimfbaaGreat
open Go.RowKit Go.Bw
def nameB (r:RuleL):Bool:=!keyB r.key || !keyB r.stat || (decide (r.pos.size≠0)&&!keyB r.pos)
def orderB (l:List RuleL)(i:Int):Bool:=decide (0<i)&&leB (geta l i).key (geta l (i-1)).key
def kindB (r:RuleL):Bool:=outB r.kind 1 4
def many2 (r:RuleL):Bool:=r.kind==2 || r.kind==3
def manyBad (r:RuleL):Bool:=if many2 r=true then outB r.many 1 100000 else r.many != 0
def ruleAt (l:List RuleL)(i:Int):Int :=
 if nameB (geta l i)=true then 5 else if orderB l i=true then 7 else if kindB (geta l i)=true then 4 else if manyBad (geta l i)=true then 1 else amountE (geta l i).num (geta l i).den 10000
def rulesE (l:List RuleL):Int:=if 100<l.length then 2 else firstErr (ruleAt l) l.length
/-- The key before. -/
def lastK (l:List RuleL)(i:Int):ByteArray:=if i≤0 then ByteArray.empty else(geta l (i-1)).key
/-- The round of rule k: its copy lies in block g. -/
structure Mw (w0:World)(l:List RuleL)(k:Int)(g:Nat)(w:World):Prop where
 k0:0≤k
 k1:k<l.length
 ok:NoErr (ruleAt l) k
 copy:CopyR w g (geta l k)
 bel:Below w0.heap.size w0 w
theorem Mw.below {w0 w w':World}{l:List RuleL}{k:Int}{g:Nat}(h:Mw w0 l k g w)(b:Below w.heap.size w w'):Mw w0 l k g w' :=
 ⟨h.k0,h.k1,h.ok,h.copy.below b,h.bel.trans (b.mono h.bel.size)⟩
section
variable {w0 w:World}{l:List RuleL}{k:Int}{g:Nat}(h:Mw w0 l k g w)
include h
theorem Mw.drewN (n:Nat):Mw w0 l k g (w.drewN n) :=
 ⟨h.k0,h.k1,h.ok,h.copy,below_drewN h.bel n⟩
theorem Mw.ends (hl:¬100<l.length)(he:ruleAt l k≠0):rulesE l=ruleAt l k:=by
 unfold rulesE;rw [if_neg hl];exact firstErr_hit h.ok h.k0 h.k1 he
end
noncomputable def rulesP:Code:=(Tryz.f115.body).getD .skip
theorem frame87 (f:Nat→Value):frame 87 f=⟨#[f 0,f 1,f 2,f 3,f 4,f 5,f 6,f 7,f 8,f 9,f 10,f 11,f 12,f 13,f 14,f 15,f 16,f 17,f 18,f 19,f 20,f 21,f 22,f 23,f 24,f 25,f 26,f 27,f 28,f 29,f 30,f 31,f 32,f 33,f 34,f 35,f 36,f 37,f 38,f 39,f 40,f 41,f 42,f 43,f 44,f 45,f 46,f 47,f 48,f 49,f 50,f 51,f 52,f 53,f 54,f 55,f 56,f 57,f 58,f 59,f 60,f 61,f 62,f 63,f 64,f 65,f 66,f 67,f 68,f 69,f 70,f 71,f 72,f 73,f 74,f 75,f 76,f 77,f 78,f 79,f 80,f 81,f 82,f 83,f 84,f 85,f 86],[]⟩:=by rfl
section
variable (v:Value)(l:List RuleL)(w0:World)(k:Int)(g:Nat)(hz:∀r∈l,RuleOk r)(hl:¬100<l.length)
include v w0 k g hz hl
theorem rp_name:T3 Tryz.prog (fun a w=>(True)∧Mw w0 l k g w∧Fr 87 ([(0,v),(10,v),(11,.int .i64 l.length),(12,.int .i64 k),(3,.int .i64 k),(4,.pointer (some ⟨g,0,none⟩))]) a) (sel [1,1,0,1,4,4,1,1,0,4,1,0,4,0] rulesP)
  (fun a w=>∃q,Fr 87 ((17,.bool q)::[(0,v),(10,v),(11,.int .i64 l.length),(12,.int .i64 k),(3,.int .i64 k),(4,.pointer (some ⟨g,0,none⟩))]) a∧((q=nameB (geta l k))∧Mw w0 l k g w)) No 0
  (fun a w=>Fr 87 [(2,.int .i64 (rulesE l))] a∧Below w0.heap.size w0 w):=by
 refine T3.leaf ?_;rintro Q JS JX JT K hS hK hX hE hT hR a w ⟨hC,hM,⟨f,rfl,q0,q10,q11,q12,q3,q4,_⟩⟩;have HC:=Lib.hid hC;clear hC;have hr:=hz _ (geta_mem hM.k0 hM.k1);have hk0:=hM.k0;have hk1:=hM.k1;have hcp:=hM.copy.2;rw [frame87,show f 0=v from q0,show f 10=v from q10,show f 11=.int .i64 l.length from q11,show f 12=.int .i64 k from q12,show f 3=.int .i64 k from q3,show f 4=.pointer (some ⟨g,0,none⟩)from q4];clear q0 q10 q11 q12 q3 q4;conv=>arg 2;whnf
 have c0:=hcp 0 _ rfl;have c1:=hcp 1 _ rfl;have c2:=hcp 2 _ rfl;clear hcp;have z0:=hr.key;have z1:=hr.stat;have z2:=hr.pos;have Hn:=Lib.hid (show nameB (geta l k)=(!keyB (geta l k).key || !keyB (geta l k).stat || (decide ((geta l k).pos.size≠0)&&!keyB (geta l k).pos))from rfl);clear hr;generalize (geta l k).key=s0 at *;generalize (geta l k).stat=s1 at *;generalize (geta l k).pos=s2 at *;cases b0:keyB s0
 ·have Hq:=Lib.hid (show true=nameB (geta l k)by rw [Hn.out,b0];rfl);have B0:=Lib.hid b0;go_wp2_with (go_at_call 64;go_must (refine(key_is _ _ B0.out _ z0).mono ?_);rintro e w1 ⟨rfl,rfl⟩)
  refine Met.intro (hS _ _ ?_);exact⟨true,Fr.r rfl rfl,Hq.out,hM⟩
 cases b1:keyB s1
 ·have Hq:=Lib.hid (show true=nameB (geta l k)by rw [Hn.out,b0,b1];rfl);have B0:=Lib.hid b0;have B1:=Lib.hid b1;clear b0 b1;go_wp2_with fail
  refine(key_is _ _ B0.out _ z0).mono ?_;rintro e w1 ⟨rfl,rfl⟩;go_wp2_with fail
  refine(key_is _ _ B1.out _ z1).mono ?_;rintro e w1 ⟨rfl,rfl⟩;go_wp2_with fail
  refine Met.intro (hS _ _ ?_);exact⟨true,Fr.r rfl rfl,Hq.out,hM⟩
 have B0:=Lib.hid b0;have B1:=Lib.hid b1
 by_cases h2:s2.size=0
 ·have Hq:=Lib.hid (show false=nameB (geta l k)by rw [Hn.out,b0,b1];simp [h2]);have e2:=str_empty h2;clear b0 b1 h2;go_wp2_with fail
  refine(key_is _ _ B0.out _ z0).mono ?_;rintro e w1 ⟨rfl,rfl⟩;go_wp2_with fail
  refine(key_is _ _ B1.out _ z1).mono ?_;rintro e w1 ⟨rfl,rfl⟩;go_wp2_with fail
  refine Met.intro (hS _ _ ?_);exact⟨false,Fr.r rfl rfl,Hq.out,hM⟩
 ·have e2:=str_full h2;have e3:(!s2.toList.isEmpty)=true:=by rw [e2];rfl
  cases b2:keyB s2
  ·have Hq:=Lib.hid (show true=nameB (geta l k)by rw [Hn.out,b0,b1,b2];simp [h2]);have B2:=Lib.hid b2;clear b0 b1 b2 h2;go_wp2_with fail
   refine(key_is _ _ B0.out _ z0).mono ?_;rintro e w1 ⟨rfl,rfl⟩;go_wp2_with fail
   refine(key_is _ _ B1.out _ z1).mono ?_;rintro e w1 ⟨rfl,rfl⟩;go_wp2_with fail
   refine(key_is _ _ B2.out _ z2).mono ?_;rintro e w1 ⟨rfl,rfl⟩;go_wp2_with fail
   refine Met.intro (hS _ _ ?_);exact⟨true,Fr.r rfl rfl,Hq.out,hM⟩
  ·have Hq:=Lib.hid (show false=nameB (geta l k)by rw [Hn.out,b0,b1,b2];simp);have B2:=Lib.hid b2;clear b0 b1 b2 h2;go_wp2_with fail
   refine(key_is _ _ B0.out _ z0).mono ?_;rintro e w1 ⟨rfl,rfl⟩;go_wp2_with fail
   refine(key_is _ _ B1.out _ z1).mono ?_;rintro e w1 ⟨rfl,rfl⟩;go_wp2_with fail
   refine(key_is _ _ B2.out _ z2).mono ?_;rintro e w1 ⟨rfl,rfl⟩;go_wp2_with fail
   refine Met.intro (hS _ _ ?_);exact⟨false,Fr.r rfl rfl,Hq.out,hM⟩
theorem rp_name5:T3 Tryz.prog (fun a w=>Fr 87 ((17,.bool true)::[(0,v),(10,v),(11,.int .i64 l.length),(12,.int .i64 k),(3,.int .i64 k),(4,.pointer (some ⟨g,0,none⟩))]) a∧(true=nameB (geta l k))∧Mw w0 l k g w) (sel [1,1,0,1,4,4,1,1,0,4,1,0,4,1,2] rulesP) No No 0 (fun a w=>Fr 87 [(2,.int .i64 (rulesE l))] a∧Below w0.heap.size w0 w):=by
 refine T3.leaf ?_;rintro Q JS JX JT K hS hK hX hE hT hR a w ⟨⟨f,rfl,q17,q0,q10,q11,q12,q3,q4,_⟩,hC,hM⟩;have He:=Lib.hid (hM.ends hl (by rw [show ruleAt l k=5 from if_pos hC.symm];decide));have Hv:=Lib.hid (show ruleAt l k=5 by rw [show ruleAt l k=5 from if_pos hC.symm]);have hb:=hM.bel;clear hC;rw [frame87,show f 17=.bool true from q17,show f 0=v from q0,show f 10=v from q10,show f 11=.int .i64 l.length from q11,show f 12=.int .i64 k from q12,show f 3=.int .i64 k from q3,show f 4=.pointer (some ⟨g,0,none⟩)from q4];clear q17 q0 q10 q11 q12 q3 q4;conv=>arg 2;whnf
 go_wp2_with fail
 refine Met.intro (hT _ _ ?_);exact⟨Fr.of _ rfl ⟨by rw [He.out,Hv.out];rfl,trivial⟩,hb⟩
theorem rp_order (hrow:l.length=0∨∃b off cap,v=.slice (some ⟨b,off,none⟩) l.length cap∧b<w0.heap.size∧(l.length≤cap∧cap≤9223372036854775807)∧∀i:Int,0≤i→i<l.length→∀j u,(encR (geta l i))[j]?=some u→w0.cell? ⟨b,off+i.toNat*7+j,none⟩=some u):T3 Tryz.prog (fun a w=>(false=nameB (geta l k))∧Mw w0 l k g w∧Fr 87 ([(0,v),(10,v),(11,.int .i64 l.length),(12,.int .i64 k),(3,.int .i64 k),(4,.pointer (some ⟨g,0,none⟩))]) a) (sel [1,1,0,1,4,4,1,1,0,4,1,0,4,1,3,0] rulesP)
  (fun a w=>∃q,Fr 87 ((39,.bool q)::[(0,v),(10,v),(11,.int .i64 l.length),(12,.int .i64 k),(3,.int .i64 k),(4,.pointer (some ⟨g,0,none⟩))]) a∧((q=orderB l k∧false=nameB (geta l k))∧Mw w0 l k g w)) No 0
  (fun a w=>Fr 87 [(2,.int .i64 (rulesE l))] a∧Below w0.heap.size w0 w):=by
 refine T3.leaf ?_;rintro Q JS JX JT K hS hK hX hE hT hR a w ⟨hC,hM,⟨f,rfl,q0,q10,q11,q12,q3,q4,_⟩⟩;have HC:=Lib.hid hC;clear hC;have hr:=hz _ (geta_mem hM.k0 hM.k1);have hk0:=hM.k0;have hk1:=hM.k1;have hcp:=hM.copy.2;rw [frame87,show f 0=v from q0,show f 10=v from q10,show f 11=.int .i64 l.length from q11,show f 12=.int .i64 k from q12,show f 3=.int .i64 k from q3,show f 4=.pointer (some ⟨g,0,none⟩)from q4];clear q0 q10 q11 q12 q3 q4;conv=>arg 2;whnf
 have c0:=hcp 0 _ rfl;clear hcp hr;have Ho:=Lib.hid (show orderB l k=(decide (0<k)&&leB (geta l k).key (geta l (k-1)).key)from rfl)
 by_cases hp:0<k
 ·rcases hrow with hrow|⟨b,off,cap,rfl,hbs,hcm,hcell⟩
  ·omega
  have pp:=hcell (k-1) (by omega) (by omega) 0 _ rfl;rw [Nat.add_zero]at pp;have p0:=(hM.bel.cell (p:=⟨b,off+(k-1).toNat*7,none⟩) hbs).trans pp;clear pp;rw [show(k-1).toNat=k.toNat-1 by omega]at p0;clear hcell;generalize (geta l k).key=s0 at *;generalize (geta l (k-1)).key=s1 at *;cases hle:leB s0 s1
  ·have Hq:=Lib.hid (show false=orderB l k by rw [Ho.out,hle];simp);unfold leB at hle;go_wp2_with fail
   go_quiet (fail)
   go_wp2_with fail
   refine Met.intro (hS _ _ ?_);exact⟨false,Fr.r rfl rfl,⟨Hq.out,HC.out⟩,hM.drewN _⟩
  ·have Hq:=Lib.hid (show true=orderB l k by rw [Ho.out,hle];simp [hp]);unfold leB at hle;go_wp2_with fail
   go_quiet (fail)
   go_wp2_with fail
   refine Met.intro (hS _ _ ?_);exact⟨true,Fr.r rfl rfl,⟨Hq.out,HC.out⟩,hM.drewN _⟩
 ·have Hq:=Lib.hid (show false=orderB l k by rw [Ho.out];simp [hp]);have hpb:decide (0<k)=false:=by simp;omega
  clear hrow;generalize (geta l k).key=s0 at *;go_wp2_with fail
  go_quiet (fail)
  go_wp2_with fail
  refine Met.intro (hS _ _ ?_);exact⟨false,Fr.r rfl rfl,⟨Hq.out,HC.out⟩,hM.drewN _⟩
theorem rp_order7:T3 Tryz.prog (fun a w=>Fr 87 ((39,.bool true)::[(0,v),(10,v),(11,.int .i64 l.length),(12,.int .i64 k),(3,.int .i64 k),(4,.pointer (some ⟨g,0,none⟩))]) a∧(true=orderB l k∧false=nameB (geta l k))∧Mw w0 l k g w) (sel [1,1,0,1,4,4,1,1,0,4,1,0,4,1,3,1,2] rulesP) No No 0 (fun a w=>Fr 87 [(2,.int .i64 (rulesE l))] a∧Below w0.heap.size w0 w):=by
 refine T3.leaf ?_;rintro Q JS JX JT K hS hK hX hE hT hR a w ⟨⟨f,rfl,q39,q0,q10,q11,q12,q3,q4,_⟩,hC,hM⟩;have He:=Lib.hid (hM.ends hl (by rw [show ruleAt l k=7 by unfold ruleAt;rw [if_neg (by rw [←hC.2];decide),if_pos hC.1.symm]];decide));have Hv:=Lib.hid (show ruleAt l k=7 by rw [show ruleAt l k=7 by unfold ruleAt;rw [if_neg (by rw [←hC.2];decide),if_pos hC.1.symm]]);have hb:=hM.bel;clear hC;rw [frame87,show f 39=.bool true from q39,show f 0=v from q0,show f 10=v from q10,show f 11=.int .i64 l.length from q11,show f 12=.int .i64 k from q12,show f 3=.int .i64 k from q3,show f 4=.pointer (some ⟨g,0,none⟩)from q4];clear q39 q0 q10 q11 q12 q3 q4;conv=>arg 2;whnf
 go_wp2_with fail
 refine Met.intro (hT _ _ ?_);exact⟨Fr.of _ rfl ⟨by rw [He.out,Hv.out];rfl,trivial⟩,hb⟩
theorem rp_kind:T3 Tryz.prog (fun a w=>(false=orderB l k∧false=nameB (geta l k))∧Mw w0 l k g w∧Fr 87 ([(0,v),(10,v),(11,.int .i64 l.length),(12,.int .i64 k),(3,.int .i64 k),(4,.pointer (some ⟨g,0,none⟩))]) a) (sel [1,1,0,1,4,4,1,1,0,4,1,0,4,1,3,1,3,0] rulesP)
  (fun a w=>∃q,Fr 87 ((53,.bool q)::[(0,v),(10,v),(11,.int .i64 l.length),(12,.int .i64 k),(3,.int .i64 k),(4,.pointer (some ⟨g,0,none⟩))]) a∧((q=kindB (geta l k)∧false=orderB l k∧false=nameB (geta l k))∧Mw w0 l k g w)) No 0
  (fun a w=>Fr 87 [(2,.int .i64 (rulesE l))] a∧Below w0.heap.size w0 w):=by
 refine T3.leaf ?_;rintro Q JS JX JT K hS hK hX hE hT hR a w ⟨hC,hM,⟨f,rfl,q0,q10,q11,q12,q3,q4,_⟩⟩;have HC:=Lib.hid hC;clear hC;have hr:=hz _ (geta_mem hM.k0 hM.k1);have hk0:=hM.k0;have hk1:=hM.k1;have hcp:=hM.copy.2;rw [frame87,show f 0=v from q0,show f 10=v from q10,show f 11=.int .i64 l.length from q11,show f 12=.int .i64 k from q12,show f 3=.int .i64 k from q3,show f 4=.pointer (some ⟨g,0,none⟩)from q4];clear q0 q10 q11 q12 q3 q4;conv=>arg 2;whnf
 have c3:=hcp 3 _ rfl;clear hcp hr;have Ho:=Lib.hid (show kindB (geta l k)=outB (geta l k).kind 1 4 from rfl);generalize (geta l k).kind=n0 at *;cases ho:outB n0 1 4
 ·have Hq:=Lib.hid (show false=kindB (geta l k)by rw [Ho.out,ho]);have ho:=Lib.hid ho;go_wp2_with (go_at_call 101;refine(out_is _ _ _ _ ho.out _).mono ?_;rintro e w1 ⟨rfl,rfl⟩)
  refine Met.intro (hS _ _ ?_);exact⟨false,Fr.r rfl rfl,⟨Hq.out,HC.out⟩,hM⟩
 ·have Hq:=Lib.hid (show true=kindB (geta l k)by rw [Ho.out,ho]);have ho:=Lib.hid ho;go_wp2_with (go_at_call 101;refine(out_is _ _ _ _ ho.out _).mono ?_;rintro e w1 ⟨rfl,rfl⟩)
  refine Met.intro (hS _ _ ?_);exact⟨true,Fr.r rfl rfl,⟨Hq.out,HC.out⟩,hM⟩
theorem rp_kind4:T3 Tryz.prog (fun a w=>Fr 87 ((53,.bool true)::[(0,v),(10,v),(11,.int .i64 l.length),(12,.int .i64 k),(3,.int .i64 k),(4,.pointer (some ⟨g,0,none⟩))]) a∧(true=kindB (geta l k)∧false=orderB l k∧false=nameB (geta l k))∧Mw w0 l k g w) (sel [1,1,0,1,4,4,1,1,0,4,1,0,4,1,3,1,3,1,2] rulesP) No No 0 (fun a w=>Fr 87 [(2,.int .i64 (rulesE l))] a∧Below w0.heap.size w0 w):=by
 refine T3.leaf ?_;rintro Q JS JX JT K hS hK hX hE hT hR a w ⟨⟨f,rfl,q53,q0,q10,q11,q12,q3,q4,_⟩,hC,hM⟩;have He:=Lib.hid (hM.ends hl (by rw [show ruleAt l k=4 by unfold ruleAt;rw [if_neg (by rw [←hC.2.2];decide),if_neg (by rw [←hC.2.1];decide),if_pos hC.1.symm]];decide));have Hv:=Lib.hid (show ruleAt l k=4 by rw [show ruleAt l k=4 by unfold ruleAt;rw [if_neg (by rw [←hC.2.2];decide),if_neg (by rw [←hC.2.1];decide),if_pos hC.1.symm]]);have hb:=hM.bel;clear hC;rw [frame87,show f 53=.bool true from q53,show f 0=v from q0,show f 10=v from q10,show f 11=.int .i64 l.length from q11,show f 12=.int .i64 k from q12,show f 3=.int .i64 k from q3,show f 4=.pointer (some ⟨g,0,none⟩)from q4];clear q53 q0 q10 q11 q12 q3 q4;conv=>arg 2;whnf
 go_wp2_with fail
 refine Met.intro (hT _ _ ?_);exact⟨Fr.of _ rfl ⟨by rw [He.out,Hv.out];rfl,trivial⟩,hb⟩
theorem rp_m2:T3 Tryz.prog (fun a w=>(false=kindB (geta l k)∧false=orderB l k∧false=nameB (geta l k))∧Mw w0 l k g w∧Fr 87 ([(0,v),(10,v),(11,.int .i64 l.length),(12,.int .i64 k),(3,.int .i64 k),(4,.pointer (some ⟨g,0,none⟩))]) a) (sel [1,1,0,1,4,4,1,1,0,4,1,1,0] rulesP)
  (fun a w=>(false=kindB (geta l k)∧false=orderB l k∧false=nameB (geta l k))∧Mw w0 l k g w∧Fr 87 ((5,.bool (many2 (geta l k)))::[(0,v),(10,v),(11,.int .i64 l.length),(12,.int .i64 k),(3,.int .i64 k),(4,.pointer (some ⟨g,0,none⟩))]) a) No 0
  (fun a w=>Fr 87 [(2,.int .i64 (rulesE l))] a∧Below w0.heap.size w0 w):=by
 refine T3.leaf ?_;rintro Q JS JX JT K hS hK hX hE hT hR a w ⟨hC,hM,⟨f,rfl,q0,q10,q11,q12,q3,q4,_⟩⟩;have HC:=Lib.hid hC;clear hC;have hr:=hz _ (geta_mem hM.k0 hM.k1);have hk0:=hM.k0;have hk1:=hM.k1;have hcp:=hM.copy.2;rw [frame87,show f 0=v from q0,show f 10=v from q10,show f 11=.int .i64 l.length from q11,show f 12=.int .i64 k from q12,show f 3=.int .i64 k from q3,show f 4=.pointer (some ⟨g,0,none⟩)from q4];clear q0 q10 q11 q12 q3 q4;conv=>arg 2;whnf
 have c3:=hcp 3 _ rfl;clear hcp hr;have Ho:=Lib.hid (show many2 (geta l k)=((geta l k).kind==2 || (geta l k).kind==3)from rfl);generalize (geta l k).kind=n0 at *;cases e1:(n0==2)
 ·cases e2:(n0==3)
  ·have Hq:=Lib.hid (show false=many2 (geta l k)by rw [Ho.out,e1,e2];rfl);go_wp2_with fail
   refine Met.intro (hS _ _ ?_);exact⟨HC.out,hM,Fr.of _ rfl ⟨by rw [←Hq.out];rfl,rfl,rfl,rfl,rfl,rfl,rfl,trivial⟩⟩
  ·have Hq:=Lib.hid (show true=many2 (geta l k)by rw [Ho.out,e1,e2];rfl);go_wp2_with fail
   refine Met.intro (hS _ _ ?_);exact⟨HC.out,hM,Fr.of _ rfl ⟨by rw [←Hq.out];rfl,rfl,rfl,rfl,rfl,rfl,rfl,trivial⟩⟩
 ·have Hq:=Lib.hid (show true=many2 (geta l k)by rw [Ho.out,e1];rfl);go_wp2_with fail
  refine Met.intro (hS _ _ ?_);exact⟨HC.out,hM,Fr.of _ rfl ⟨by rw [←Hq.out];rfl,rfl,rfl,rfl,rfl,rfl,rfl,trivial⟩⟩
theorem rp_many:T3 Tryz.prog (fun a w=>(false=kindB (geta l k)∧false=orderB l k∧false=nameB (geta l k))∧Mw w0 l k g w∧Fr 87 ([(5,.bool (many2 (geta l k))),(0,v),(10,v),(11,.int .i64 l.length),(12,.int .i64 k),(3,.int .i64 k),(4,.pointer (some ⟨g,0,none⟩))]) a) (sel [1,1,0,1,4,4,1,1,0,4,1,1,1,0,0] rulesP)
  (fun a w=>∃q,Fr 87 ((79,.bool q)::[(0,v),(10,v),(11,.int .i64 l.length),(12,.int .i64 k),(3,.int .i64 k),(4,.pointer (some ⟨g,0,none⟩))]) a∧((q=manyBad (geta l k)∧false=kindB (geta l k)∧false=orderB l k∧false=nameB (geta l k))∧Mw w0 l k g w)) No 0
  (fun a w=>Fr 87 [(2,.int .i64 (rulesE l))] a∧Below w0.heap.size w0 w):=by
 refine T3.leaf ?_;rintro Q JS JX JT K hS hK hX hE hT hR a w ⟨hC,hM,⟨f,rfl,q5,q0,q10,q11,q12,q3,q4,_⟩⟩;have HC:=Lib.hid hC;clear hC;have hr:=hz _ (geta_mem hM.k0 hM.k1);have hk0:=hM.k0;have hk1:=hM.k1;have hcp:=hM.copy.2;rw [frame87,show f 5=.bool (many2 (geta l k))from q5,show f 0=v from q0,show f 10=v from q10,show f 11=.int .i64 l.length from q11,show f 12=.int .i64 k from q12,show f 3=.int .i64 k from q3,show f 4=.pointer (some ⟨g,0,none⟩)from q4];clear q5 q0 q10 q11 q12 q3 q4;conv=>arg 2;whnf
 have c4:=hcp 4 _ rfl;clear hcp hr;have Hm:=Lib.hid (show manyBad (geta l k)=if many2 (geta l k)=true then outB (geta l k).many 1 100000 else(geta l k).many != 0 from rfl);generalize (geta l k).many=n1 at *;cases hm2:many2 (geta l k)
 ·cases hn:(n1 != 0)
  ·have Hq:=Lib.hid (show false=manyBad (geta l k)by rw [Hm.out,hm2,hn];rfl);go_wp2_with fail
   refine Met.intro (hS _ _ ?_);exact⟨false,Fr.r rfl rfl,⟨Hq.out,HC.out⟩,hM⟩
  ·have Hq:=Lib.hid (show true=manyBad (geta l k)by rw [Hm.out,hm2,hn];rfl);go_wp2_with fail
   refine Met.intro (hS _ _ ?_);exact⟨true,Fr.r rfl rfl,⟨Hq.out,HC.out⟩,hM⟩
 ·cases ho:outB n1 1 100000
  ·have Hq:=Lib.hid (show false=manyBad (geta l k)by rw [Hm.out,hm2,ho];rfl);have ho:=Lib.hid ho;go_wp2_with (go_at_call 101;refine(out_is _ _ _ _ ho.out _).mono ?_;rintro e w1 ⟨rfl,rfl⟩)
   refine Met.intro (hS _ _ ?_);exact⟨false,Fr.r rfl rfl,⟨Hq.out,HC.out⟩,hM⟩
  ·have Hq:=Lib.hid (show true=manyBad (geta l k)by rw [Hm.out,hm2,ho];rfl);have ho:=Lib.hid ho;go_wp2_with (go_at_call 101;refine(out_is _ _ _ _ ho.out _).mono ?_;rintro e w1 ⟨rfl,rfl⟩)
   refine Met.intro (hS _ _ ?_);exact⟨true,Fr.r rfl rfl,⟨Hq.out,HC.out⟩,hM⟩
theorem rp_many1:T3 Tryz.prog (fun a w=>Fr 87 ((79,.bool true)::[(0,v),(10,v),(11,.int .i64 l.length),(12,.int .i64 k),(3,.int .i64 k),(4,.pointer (some ⟨g,0,none⟩))]) a∧(true=manyBad (geta l k)∧false=kindB (geta l k)∧false=orderB l k∧false=nameB (geta l k))∧Mw w0 l k g w) (sel [1,1,0,1,4,4,1,1,0,4,1,1,1,0,1,2] rulesP) No No 0 (fun a w=>Fr 87 [(2,.int .i64 (rulesE l))] a∧Below w0.heap.size w0 w):=by
 refine T3.leaf ?_;rintro Q JS JX JT K hS hK hX hE hT hR a w ⟨⟨f,rfl,q79,q0,q10,q11,q12,q3,q4,_⟩,hC,hM⟩;have Hv:=Lib.hid (show ruleAt l k=1 by unfold ruleAt;rw [if_neg (by rw [←hC.2.2.2];decide),if_neg (by rw [←hC.2.2.1];decide),if_neg (by rw [←hC.2.1];decide),if_pos hC.1.symm]);have He:=Lib.hid (hM.ends hl (by rw [Hv.out];decide));have hb:=hM.bel;clear hC;rw [frame87,show f 79=.bool true from q79,show f 0=v from q0,show f 10=v from q10,show f 11=.int .i64 l.length from q11,show f 12=.int .i64 k from q12,show f 3=.int .i64 k from q3,show f 4=.pointer (some ⟨g,0,none⟩)from q4];clear q79 q0 q10 q11 q12 q3 q4;conv=>arg 2;whnf
 go_wp2_with fail
 refine Met.intro (hT _ _ ?_);exact⟨Fr.of _ rfl ⟨by rw [He.out,Hv.out];rfl,trivial⟩,hb⟩
theorem rp_amt:T3 Tryz.prog (fun a w=>(false=manyBad (geta l k)∧false=kindB (geta l k)∧false=orderB l k∧false=nameB (geta l k))∧Mw w0 l k g w∧Fr 87 ([(0,v),(10,v),(11,.int .i64 l.length),(12,.int .i64 k),(3,.int .i64 k),(4,.pointer (some ⟨g,0,none⟩))]) a) (sel [1,1,0,1,4,4,1,1,0,4,1,1,1,1,0] rulesP)
  (fun a w=>(false=manyBad (geta l k)∧false=kindB (geta l k)∧false=orderB l k∧false=nameB (geta l k))∧Mw w0 l k g w∧Fr 87 ((6,.int .i64 (amountE (geta l k).num (geta l k).den 10000))::[(0,v),(10,v),(11,.int .i64 l.length),(12,.int .i64 k),(3,.int .i64 k),(4,.pointer (some ⟨g,0,none⟩))]) a) No 0
  (fun a w=>Fr 87 [(2,.int .i64 (rulesE l))] a∧Below w0.heap.size w0 w):=by
 refine T3.leaf ?_;rintro Q JS JX JT K hS hK hX hE hT hR a w ⟨hC,hM,⟨f,rfl,q0,q10,q11,q12,q3,q4,_⟩⟩;have HC:=Lib.hid hC;clear hC;have hr:=hz _ (geta_mem hM.k0 hM.k1);have hk0:=hM.k0;have hk1:=hM.k1;have hcp:=hM.copy.2;rw [frame87,show f 0=v from q0,show f 10=v from q10,show f 11=.int .i64 l.length from q11,show f 12=.int .i64 k from q12,show f 3=.int .i64 k from q3,show f 4=.pointer (some ⟨g,0,none⟩)from q4];clear q0 q10 q11 q12 q3 q4;conv=>arg 2;whnf
 have c5:=hcp 5 _ rfl;have c6:=hcp 6 _ rfl;clear hcp;have y0:=hr.num0;have y1:=hr.num1;have y2:=hr.den0;have y3:=hr.den1;clear hr;generalize (geta l k).num=n1 at *;generalize (geta l k).den=n2 at *;go_wp2_with (go_at_call 68;refine(amount_prog n1 n2 10000 _ y0 y1 y2 y3 (by decide) (by decide)).mono ?_;rintro e w1 ⟨rfl,hb⟩;replace hM:=hM.below hb;clear hb)
 refine Met.intro (hS _ _ ?_);exact⟨HC.out,hM,Fr.r rfl rfl⟩
theorem rp_amt2:T3 Tryz.prog (fun a w=>(false=manyBad (geta l k)∧false=kindB (geta l k)∧false=orderB l k∧false=nameB (geta l k))∧Mw w0 l k g w∧Fr 87 ([(6,.int .i64 (amountE (geta l k).num (geta l k).den 10000)),(0,v),(10,v),(11,.int .i64 l.length),(12,.int .i64 k),(3,.int .i64 k),(4,.pointer (some ⟨g,0,none⟩))]) a) (sel [1,1,0,1,4,4,1,1,0,4,1,1,1,1,1,0] rulesP)
  (fun a w=>∃q,Fr 87 ((84,.bool q)::[(6,.int .i64 (amountE (geta l k).num (geta l k).den 10000)),(0,v),(10,v),(11,.int .i64 l.length),(12,.int .i64 k),(3,.int .i64 k),(4,.pointer (some ⟨g,0,none⟩))]) a∧(((q=true↔(amountE (geta l k).num (geta l k).den 10000)≠0)∧false=manyBad (geta l k)∧false=kindB (geta l k)∧false=orderB l k∧false=nameB (geta l k))∧Mw w0 l k g w)) No 0
  (fun a w=>Fr 87 [(2,.int .i64 (rulesE l))] a∧Below w0.heap.size w0 w):=by
 refine T3.leaf ?_;rintro Q JS JX JT K hS hK hX hE hT hR a w ⟨hC,hM,⟨f,rfl,q6,q0,q10,q11,q12,q3,q4,_⟩⟩;have HC:=Lib.hid hC;clear hC;have hr:=hz _ (geta_mem hM.k0 hM.k1);have hk0:=hM.k0;have hk1:=hM.k1;have hcp:=hM.copy.2;rw [frame87,show f 6=.int .i64 (amountE (geta l k).num (geta l k).den 10000)from q6,show f 0=v from q0,show f 10=v from q10,show f 11=.int .i64 l.length from q11,show f 12=.int .i64 k from q12,show f 3=.int .i64 k from q3,show f 4=.pointer (some ⟨g,0,none⟩)from q4];clear q6 q0 q10 q11 q12 q3 q4;conv=>arg 2;whnf
 clear hcp hr;generalize hx:amountE (geta l k).num (geta l k).den 10000=x at *;have Hx:=Lib.hid hx;clear hx;cases hn:(x != 0)
 ·have Hq:=Lib.hid (show x=0 by simpa using hn);go_wp2_with fail
  refine Met.intro (hS _ _ ?_);exact⟨false,Fr.r rfl rfl,⟨by simpa using Hq.out,HC.out⟩,hM⟩
 ·have Hq:=Lib.hid (show x≠0 by simpa using hn);go_wp2_with fail
  refine Met.intro (hS _ _ ?_);exact⟨true,Fr.r rfl rfl,⟨by simpa using Hq.out,HC.out⟩,hM⟩
theorem rp_amtR:T3 Tryz.prog (fun a w=>Fr 87 ((84,.bool true)::[(6,.int .i64 (amountE (geta l k).num (geta l k).den 10000)),(0,v),(10,v),(11,.int .i64 l.length),(12,.int .i64 k),(3,.int .i64 k),(4,.pointer (some ⟨g,0,none⟩))]) a∧((amountE (geta l k).num (geta l k).den 10000)≠0∧false=manyBad (geta l k)∧false=kindB (geta l k)∧false=orderB l k∧false=nameB (geta l k))∧Mw w0 l k g w) (sel [1,1,0,1,4,4,1,1,0,4,1,1,1,1,1,1,2] rulesP) No No 0 (fun a w=>Fr 87 [(2,.int .i64 (rulesE l))] a∧Below w0.heap.size w0 w):=by
 refine T3.leaf ?_;rintro Q JS JX JT K hS hK hX hE hT hR a w ⟨⟨f,rfl,q84,q6,q0,q10,q11,q12,q3,q4,_⟩,hC,hM⟩;have hC1:=hC.1;have Hv:=Lib.hid (show ruleAt l k=(amountE (geta l k).num (geta l k).den 10000)by unfold ruleAt;rw [if_neg (by rw [←hC.2.2.2.2];decide),if_neg (by rw [←hC.2.2.2.1];decide),if_neg (by rw [←hC.2.2.1];decide),if_neg (by rw [←hC.2.1];decide)]);have He:=Lib.hid (hM.ends hl (by rw [Hv.out];exact hC1));have hb:=hM.bel;clear hC hC1;rw [frame87,show f 84=.bool true from q84,show f 6=.int .i64 (amountE (geta l k).num (geta l k).den 10000)from q6,show f 0=v from q0,show f 10=v from q10,show f 11=.int .i64 l.length from q11,show f 12=.int .i64 k from q12,show f 3=.int .i64 k from q3,show f 4=.pointer (some ⟨g,0,none⟩)from q4];clear q84 q6 q0 q10 q11 q12 q3 q4;conv=>arg 2;whnf
 go_wp2_with fail
 refine Met.intro (hT _ _ ?_);exact⟨Fr.of _ rfl ⟨by rw [He.out,Hv.out];rfl,trivial⟩,hb⟩
end
def rpI (v:Value)(l:List RuleL)(w0:World)(k:Int)(a:Act)(w:World):Prop:=(0≤k∧k≤l.length∧NoErr (ruleAt l) k)∧Below w0.heap.size w0 w∧Fr 87 [(0,v),(10,v),(11,.int .i64 l.length),(12,.int .i64 k)] a
section
variable (v:Value)(l:List RuleL)(w0:World)
include v l w0
theorem rp_next (k:Int)(h100:¬100<l.length):T3 Tryz.prog (fun a w=>(0≤k∧k<l.length∧NoErr (ruleAt l) (k+1))∧Below w0.heap.size w0 w∧Fr 87 [(0,v),(10,v),(11,.int .i64 l.length),(12,.int .i64 k)] a) (sel [1,1,0,1,4,4,1,1,1] rulesP) (rpI v l w0 (k+1)) No 0 (fun a w=>Fr 87 [(2,.int .i64 (rulesE l))] a∧Below w0.heap.size w0 w):=by
 refine T3.leaf ?_;rintro Q JS JX JT K hS hK hX hE hT hR a w ⟨⟨hk0,hk1,hst⟩,hb,⟨f,rfl,q0,q10,q11,q12,_⟩⟩;have hst:=Lib.hid hst;rw [frame87,show f 0=v from q0,show f 10=v from q10,show f 11=.int .i64 l.length from q11,show f 12=.int .i64 k from q12];clear q0 q10 q11 q12;conv=>arg 2;whnf
 go_wp2_with fail
 refine Met.intro (hS _ _ ?_);exact⟨⟨by omega,by omega,hst.out⟩,hb,Fr.r rfl rfl⟩
theorem rp_last (k:Int)(g:Nat)(hz:∀r∈l,RuleOk r)(hl:¬100<l.length)(a:Act)(w:World)(h:((amountE (geta l k).num (geta l k).den 10000)=0∧false=manyBad (geta l k)∧false=kindB (geta l k)∧false=orderB l k∧false=nameB (geta l k))∧Mw w0 l k g w∧Fr 87 [(6,.int .i64 (amountE (geta l k).num (geta l k).den 10000)),(0,v),(10,v),(11,.int .i64 l.length),(12,.int .i64 k),(3,.int .i64 k),(4,.pointer (some ⟨g,0,none⟩))] a):(0≤k∧k<l.length∧NoErr (ruleAt l) (k+1))∧Below w0.heap.size w0 w∧Fr 87 [(0,v),(10,v),(11,.int .i64 l.length),(12,.int .i64 k)] a:=by
 obtain⟨hC,hM,hF⟩:=h;have ha:ruleAt l k=0:=by
  unfold ruleAt;rw [if_neg (by rw [←hC.2.2.2.2];decide),if_neg (by rw [←hC.2.2.2.1];decide),if_neg (by rw [←hC.2.2.1];decide),if_neg (by rw [←hC.2.1];decide)];exact hC.1
 have hst:=Lib.hid (hM.ok.step ha);have hk0:=hM.k0;have hk1:=hM.k1;have hb:=hM.bel;exact⟨⟨hk0,hk1,hst.out⟩,hb,hF.sub (by intro p hp;simp at hp ⊢;rcases hp with h|h|h|h <;> simp [h])⟩
theorem rp_head (k:Int):T3 Tryz.prog (rpI v l w0 k) (sel [1,1,0,1,4,4,0] rulesP) (fun a w=>∃q,Fr 87 ((13,.bool q)::[(0,v),(10,v),(11,.int .i64 l.length),(12,.int .i64 k)]) a∧((q=true↔k<l.length)∧(0≤k∧k≤l.length∧NoErr (ruleAt l) k)∧Below w0.heap.size w0 w)) No 0 (fun a w=>Fr 87 [(2,.int .i64 (rulesE l))] a∧Below w0.heap.size w0 w):=by
 refine T3.leaf ?_;rintro Q JS JX JT K hS hK hX hE hT hR a w ⟨hC,hb,⟨f,rfl,q0,q10,q11,q12,_⟩⟩;have HC:=Lib.hid hC;rw [frame87,show f 0=v from q0,show f 10=v from q10,show f 11=.int .i64 l.length from q11,show f 12=.int .i64 k from q12];clear q0 q10 q11 q12;conv=>arg 2;whnf
 by_cases hlt:k<l.length
 ·go_wp2_with fail
  refine Met.intro (hS _ _ ?_);exact⟨true,Fr.r rfl rfl,⟨fun _=>hlt,fun _=>rfl⟩,HC.out,hb⟩
 ·have hpb:decide (k<l.length)=false:=by simp;omega
  go_wp2_with fail
  refine Met.intro (hS _ _ ?_);exact⟨false,Fr.r rfl rfl,⟨(fun h=>by cases h),fun h=>absurd h (by omega)⟩,HC.out,hb⟩
theorem rp_copy (k:Int)(hz:∀r∈l,RuleOk r)(hrow:l.length=0∨∃b off cap,v=.slice (some ⟨b,off,none⟩) l.length cap∧b<w0.heap.size∧(l.length≤cap∧cap≤9223372036854775807)∧∀i:Int,0≤i→i<l.length→∀j u,(encR (geta l i))[j]?=some u→w0.cell? ⟨b,off+i.toNat*7+j,none⟩=some u):T3 Tryz.prog (fun a w=>k<l.length∧rpI v l w0 k a w) (sel [1,1,0,1,4,4,1,1,0,4,0] rulesP) (fun a w=>∃g:Nat,True∧Mw w0 l k g w∧Fr 87 [(0,v),(10,v),(11,.int .i64 l.length),(12,.int .i64 k),(3,.int .i64 k),(4,.pointer (some ⟨g,0,none⟩))] a) No 0 (fun a w=>Fr 87 [(2,.int .i64 (rulesE l))] a∧Below w0.heap.size w0 w):=by
 refine T3.leaf ?_;rintro Q JS JX JT K hS hK hX hE hT hR a w ⟨hlt,⟨hk0,hk1,hok⟩,hb,⟨f,rfl,q0,q10,q11,q12,_⟩⟩;rw [frame87,show f 0=v from q0,show f 10=v from q10,show f 11=.int .i64 l.length from q11,show f 12=.int .i64 k from q12];clear q0 q10 q11 q12;conv=>arg 2;whnf
 rcases hrow with hrow|⟨b,off,cap,rfl,hbs,hcm,hcell⟩
 ·omega
 have tr:∀j u,(encR (geta l k))[j]?=some u→w.cell? ⟨b,off+k.toNat*7+j,none⟩=some u:=fun j u h=>(hb.cell (p:=⟨b,off+k.toNat*7+j,none⟩) hbs).trans (hcell k hk0 hlt j u h)
 have t0:=tr 0 _ rfl;have t1:=tr 1 _ rfl;have t2:=tr 2 _ rfl;have t3:=tr 3 _ rfl;have t4:=tr 4 _ rfl;have t5:=tr 5 _ rfl;have t6:=tr 6 _ rfl;rw [Nat.add_zero]at t0;have hM:Mw w0 l k w.heap.size (w.alloc (.cells (encR (geta l k)).toArray 110)):=⟨hk0,hlt,hok,⟨by simp,fun j u hu=>cells_new w (encR (geta l k)).toArray 110 j u (by simpa using hu)⟩,hb.alloc hb.size _⟩
 have HM:=Lib.hid hM;unfold encR at HM;clear hM tr hcell hok;generalize (geta l k).key=s0 at *;generalize (geta l k).stat=s1 at *;generalize (geta l k).pos=s2 at *;generalize (geta l k).kind=n0 at *;generalize (geta l k).many=n1 at *;generalize (geta l k).num=n2 at *;generalize (geta l k).den=n3 at *;go_wp2_with fail
 refine Met.intro (hS _ _ ?_);exact⟨_,trivial,HM.out,Fr.r rfl rfl⟩
section
variable (k:Int)(g:Nat)(hz:∀r∈l,RuleOk r)(hl:¬100<l.length)
include k g hz hl
theorem rp_sw (hrow:l.length=0∨∃b off cap,v=.slice (some ⟨b,off,none⟩) l.length cap∧b<w0.heap.size∧(l.length≤cap∧cap≤9223372036854775807)∧∀i:Int,0≤i→i<l.length→∀j u,(encR (geta l i))[j]?=some u→w0.cell? ⟨b,off+i.toNat*7+j,none⟩=some u):T3 Tryz.prog (fun a w=>True∧Mw w0 l k g w∧Fr 87 [(0,v),(10,v),(11,.int .i64 l.length),(12,.int .i64 k),(3,.int .i64 k),(4,.pointer (some ⟨g,0,none⟩))] a) (sel [1,1,0,1,4,4,1,1,0,4,1,0,4] rulesP) (fun a w=>(false=kindB (geta l k)∧false=orderB l k∧false=nameB (geta l k))∧Mw w0 l k g w∧Fr 87 [(0,v),(10,v),(11,.int .i64 l.length),(12,.int .i64 k),(3,.int .i64 k),(4,.pointer (some ⟨g,0,none⟩))] a) No 0 (fun a w=>Fr 87 [(2,.int .i64 (rulesE l))] a∧Below w0.heap.size w0 w) :=
 T3.test (s:=(sel [1,1,0,1,4,4,1,1,0,4,1,0,4,0] rulesP)) (x:=(sel [1,1,0,1,4,4,1,1,0,4,1,0,4,1,2] rulesP)) (y:=(sel [1,1,0,1,4,4,1,1,0,4,1,0,4,1,3] rulesP)) (l:=[(0,v),(10,v),(11,.int .i64 l.length),(12,.int .i64 k),(3,.int .i64 k),(4,.pointer (some ⟨g,0,none⟩))]) (C:=fun q=>q=nameB (geta l k)) (W:=Mw w0 l k g) (by decide) (rp_name v l w0 k g hz hl) (T3.noS (rp_name5 v l w0 k g hz hl)) (T3.test (s:=(sel [1,1,0,1,4,4,1,1,0,4,1,0,4,1,3,0] rulesP)) (x:=(sel [1,1,0,1,4,4,1,1,0,4,1,0,4,1,3,1,2] rulesP)) (y:=(sel [1,1,0,1,4,4,1,1,0,4,1,0,4,1,3,1,3] rulesP)) (l:=[(0,v),(10,v),(11,.int .i64 l.length),(12,.int .i64 k),(3,.int .i64 k),(4,.pointer (some ⟨g,0,none⟩))]) (C:=fun q=>q=orderB l k∧false=nameB (geta l k)) (W:=Mw w0 l k g) (by decide) (rp_order v l w0 k g hz hl hrow) (T3.noS (rp_order7 v l w0 k g hz hl)) (T3.test (s:=(sel [1,1,0,1,4,4,1,1,0,4,1,0,4,1,3,1,3,0] rulesP)) (x:=(sel [1,1,0,1,4,4,1,1,0,4,1,0,4,1,3,1,3,1,2] rulesP)) (y:=.skip) (l:=[(0,v),(10,v),(11,.int .i64 l.length),(12,.int .i64 k),(3,.int .i64 k),(4,.pointer (some ⟨g,0,none⟩))]) (C:=fun q=>q=kindB (geta l k)∧false=orderB l k∧false=nameB (geta l k)) (W:=Mw w0 l k g) (by decide) (rp_kind v l w0 k g hz hl) (T3.noS (rp_kind4 v l w0 k g hz hl)) (T3.skip (fun a w q=>q))))
theorem rp_end:T3 Tryz.prog (fun a w=>(false=manyBad (geta l k)∧false=kindB (geta l k)∧false=orderB l k∧false=nameB (geta l k))∧Mw w0 l k g w∧Fr 87 [(0,v),(10,v),(11,.int .i64 l.length),(12,.int .i64 k),(3,.int .i64 k),(4,.pointer (some ⟨g,0,none⟩))] a) (sel [1,1,0,1,4,4,1,1,0,4,1,1,1,1] rulesP) (fun a w=>((amountE (geta l k).num (geta l k).den 10000)=0∧false=manyBad (geta l k)∧false=kindB (geta l k)∧false=orderB l k∧false=nameB (geta l k))∧Mw w0 l k g w∧Fr 87 [(6,.int .i64 (amountE (geta l k).num (geta l k).den 10000)),(0,v),(10,v),(11,.int .i64 l.length),(12,.int .i64 k),(3,.int .i64 k),(4,.pointer (some ⟨g,0,none⟩))] a) No 0 (fun a w=>Fr 87 [(2,.int .i64 (rulesE l))] a∧Below w0.heap.size w0 w):=by
 refine T3.post (S:=fun a w=>((false=true↔(amountE (geta l k).num (geta l k).den 10000)≠0)∧false=manyBad (geta l k)∧false=kindB (geta l k)∧false=orderB l k∧false=nameB (geta l k))∧Mw w0 l k g w∧Fr 87 [(6,.int .i64 (amountE (geta l k).num (geta l k).den 10000)),(0,v),(10,v),(11,.int .i64 l.length),(12,.int .i64 k),(3,.int .i64 k),(4,.pointer (some ⟨g,0,none⟩))] a) (T3.seq (s:=(sel [1,1,0,1,4,4,1,1,0,4,1,1,1,1,0] rulesP)) (c:=(sel [1,1,0,1,4,4,1,1,0,4,1,1,1,1,1] rulesP)) (rp_amt v l w0 k g hz hl) (T3.test (s:=(sel [1,1,0,1,4,4,1,1,0,4,1,1,1,1,1,0] rulesP)) (x:=(sel [1,1,0,1,4,4,1,1,0,4,1,1,1,1,1,1,2] rulesP)) (y:=.skip) (l:=[(6,.int .i64 (amountE (geta l k).num (geta l k).den 10000)),(0,v),(10,v),(11,.int .i64 l.length),(12,.int .i64 k),(3,.int .i64 k),(4,.pointer (some ⟨g,0,none⟩))]) (C:=fun q=>(q=true↔(amountE (geta l k).num (geta l k).den 10000)≠0)∧false=manyBad (geta l k)∧false=kindB (geta l k)∧false=orderB l k∧false=nameB (geta l k)) (W:=Mw w0 l k g) (by decide) (rp_amt2 v l w0 k g hz hl) (T3.noS ((rp_amtR v l w0 k g hz hl).pre (fun a w q=>⟨q.1,⟨q.2.1.1.1 rfl,q.2.1.2⟩,q.2.2⟩))) (T3.skip (fun a w q=>q)))) (fun a w q=>?_);obtain⟨hC,hM,hF⟩:=q;have hA:(amountE (geta l k).num (geta l k).den 10000)=0:=by
  by_cases h:(amountE (geta l k).num (geta l k).den 10000)=0
  ·exact h
  ·have:=hC.1.2 h;cases this
 exact⟨⟨hA,hC.2⟩,hM,hF⟩
end
theorem rp_round (k:Int)(hz:∀r∈l,RuleOk r)(hl:¬100<l.length)(hrow:l.length=0∨∃b off cap,v=.slice (some ⟨b,off,none⟩) l.length cap∧b<w0.heap.size∧(l.length≤cap∧cap≤9223372036854775807)∧∀i:Int,0≤i→i<l.length→∀j u,(encR (geta l i))[j]?=some u→w0.cell? ⟨b,off+i.toNat*7+j,none⟩=some u):T3 Tryz.prog (fun a w=>k<l.length∧rpI v l w0 k a w) (sel [1,1,0,1,4,4,1,1,0,4] rulesP) (fun a w=>(0≤k∧k<l.length∧NoErr (ruleAt l) (k+1))∧Below w0.heap.size w0 w∧Fr 87 [(0,v),(10,v),(11,.int .i64 l.length),(12,.int .i64 k)] a) No 0 (fun a w=>Fr 87 [(2,.int .i64 (rulesE l))] a∧Below w0.heap.size w0 w) :=
 T3.seq (s:=(sel [1,1,0,1,4,4,1,1,0,4,0] rulesP)) (c:=(sel [1,1,0,1,4,4,1,1,0,4,1] rulesP)) (rp_copy v l w0 k hz hrow) (T3.ex fun g=>T3.seq (s:=(sel [1,1,0,1,4,4,1,1,0,4,1,0] rulesP)) (c:=(sel [1,1,0,1,4,4,1,1,0,4,1,1] rulesP)) (T3.block (c:=(sel [1,1,0,1,4,4,1,1,0,4,1,0,4] rulesP)) (by decide) (rp_sw v l w0 k g hz hl hrow)) (T3.seq (s:=(sel [1,1,0,1,4,4,1,1,0,4,1,1,0] rulesP)) (c:=(sel [1,1,0,1,4,4,1,1,0,4,1,1,1] rulesP)) (rp_m2 v l w0 k g hz hl) (T3.seq (s:=(sel [1,1,0,1,4,4,1,1,0,4,1,1,1,0] rulesP)) (c:=(sel [1,1,0,1,4,4,1,1,0,4,1,1,1,1] rulesP)) (T3.test (s:=(sel [1,1,0,1,4,4,1,1,0,4,1,1,1,0,0] rulesP)) (x:=(sel [1,1,0,1,4,4,1,1,0,4,1,1,1,0,1,2] rulesP)) (y:=.skip) (l:=[(0,v),(10,v),(11,.int .i64 l.length),(12,.int .i64 k),(3,.int .i64 k),(4,.pointer (some ⟨g,0,none⟩))]) (C:=fun q=>q=manyBad (geta l k)∧false=kindB (geta l k)∧false=orderB l k∧false=nameB (geta l k)) (W:=Mw w0 l k g) (by decide) (rp_many v l w0 k g hz hl) (T3.noS (rp_many1 v l w0 k g hz hl)) (T3.skip (fun a w q=>q))) ((rp_end v l w0 k g hz hl).post (fun a w q=>rp_last v l w0 k g hz hl a w q)))))
theorem rp_loop (hz:∀r∈l,RuleOk r)(hl:¬100<l.length)(hrow:l.length=0∨∃b off cap,v=.slice (some ⟨b,off,none⟩) l.length cap∧b<w0.heap.size∧(l.length≤cap∧cap≤9223372036854775807)∧∀i:Int,0≤i→i<l.length→∀j u,(encR (geta l i))[j]?=some u→w0.cell? ⟨b,off+i.toNat*7+j,none⟩=some u):T3 Tryz.prog (rpI v l w0 0) (sel [1,1,0,1] rulesP) (rpI v l w0 l.length) No 9 (fun a w=>Fr 87 [(2,.int .i64 (rulesE l))] a∧Below w0.heap.size w0 w):=by
 refine T3.loop (c:=(sel [1,1,0,1,4,4] rulesP)) (fun n a w=>∃k:Int,(n:Int)=l.length-k∧rpI v l w0 k a w) (fun a w h=>⟨l.length,0,by omega,h⟩) (fun n=>T3.ex fun k=>T3.pure fun hn=>?_);refine T3.sq rfl ((rp_head v l w0 k).noX) ?_;refine T3.sq rfl (S:=fun a w=>k<l.length∧rpI v l w0 k a w) ?_ (T3.seq (s:=(sel [1,1,0,1,4,4,1,1,0] rulesP)) (c:=(sel [1,1,0,1,4,4,1,1,1] rulesP)) (T3.noX (T3.block (c:=(sel [1,1,0,1,4,4,1,1,0,4] rulesP)) (by decide) (rp_round v l w0 k hz hl hrow))) ?_)
 ·refine T3.iff (x:=.skip) (y:=.exit 0) (by decide) (T3.skip ?_) (T3.exit ?_)
  ·rintro a w ⟨hF,hq,hC,hb⟩;exact⟨hq.1 rfl,hC,hb,hF.tail⟩
  ·rintro a w ⟨hF,hq,hC,hb⟩;have hk:k=l.length:=by
    by_cases h:k<l.length
    ·have:=hq.2 h;cases this
    ·omega
   subst hk;exact⟨hC,hb,hF.tail⟩
 ·refine(T3.pure (R:=fun a w=>Below w0.heap.size w0 w∧Fr 87 [(0,v),(10,v),(11,.int .i64 l.length),(12,.int .i64 k)] a) (p:=0≤k∧k<l.length∧NoErr (ruleAt l) (k+1)) fun hk=>?_);refine(((rp_next v l w0 k hl).pre (fun a w q=>⟨hk,q⟩)).noX).post (fun a w q=>?_);exact⟨n-1,by omega,k+1,by omega,q⟩
section
variable (p:Option Addr)(c:Nat)(hv:v=.slice p l.length c)
include hv
theorem rp_s0:T3 Tryz.prog (fun a w=>w=w0∧Fr 87 [(0,v)] a) (sel [0] rulesP) (fun a w=>w=w0∧Fr 87 [(0,v)] a) No 9 (fun a w=>Fr 87 [(2,.int .i64 (rulesE l))] a∧Below w0.heap.size w0 w):=by
 subst hv;refine T3.leaf ?_;rintro Q JS JX JT K hS hK hX hE hT hR a w ⟨hw,⟨f,rfl,q0,_⟩⟩;have Hw:=Lib.hid hw;clear hw;rw [frame87,show f 0=(.slice p l.length c)from q0];clear q0;conv=>arg 2;whnf
 go_wp2_with fail
 refine Met.intro (hS _ _ ?_);exact⟨Hw.out,Fr.of _ rfl ⟨rfl,trivial⟩⟩
theorem rp_s1 (hl:¬100<l.length):T3 Tryz.prog (fun a w=>w=w0∧Fr 87 [(0,v)] a) (sel [1,0,0] rulesP) (fun a w=>w=w0∧Fr 87 [(9,.bool false),(0,v)] a) No 9 (fun a w=>Fr 87 [(2,.int .i64 (rulesE l))] a∧Below w0.heap.size w0 w):=by
 subst hv;have hdec:decide ((100:Int)<l.length)=false:=by simp;omega
 refine T3.leaf ?_;rintro Q JS JX JT K hS hK hX hE hT hR a w ⟨hw,⟨f,rfl,q0,_⟩⟩;have Hw:=Lib.hid hw;clear hw;rw [frame87,show f 0=(.slice p l.length c)from q0];clear q0;conv=>arg 2;whnf
 go_wp2_with fail
 refine Met.intro (hS _ _ ?_);exact⟨Hw.out,Fr.r rfl rfl⟩
theorem rp_s3:T3 Tryz.prog (fun a w=>w=w0∧Fr 87 [(0,v)] a) (sel [1,1,0,0] rulesP) (rpI v l w0 0) No 9 (fun a w=>Fr 87 [(2,.int .i64 (rulesE l))] a∧Below w0.heap.size w0 w):=by
 subst hv;refine T3.leaf ?_;rintro Q JS JX JT K hS hK hX hE hT hR a w ⟨hw,⟨f,rfl,q0,_⟩⟩;have Hw:=Lib.hid hw;clear hw;rw [frame87,show f 0=(.slice p l.length c)from q0];clear q0;conv=>arg 2;whnf
 go_wp2_with fail
 refine Met.intro (hS _ _ ?_);exact⟨⟨by omega,by omega,NoErr.zero _⟩,by rw [Hw.out];exact Below.refl _ _,Fr.r rfl rfl⟩
end
theorem rp_s9 (hl:¬100<l.length):T3 Tryz.prog (rpI v l w0 l.length) (sel [1,1,1,0] rulesP) (fun a w=>Fr 87 [(2,.int .i64 (rulesE l))] a∧Below w0.heap.size w0 w) No 9 (fun a w=>Fr 87 [(2,.int .i64 (rulesE l))] a∧Below w0.heap.size w0 w):=by
 refine T3.leaf ?_;rintro Q JS JX JT K hS hK hX hE hT hR a w ⟨⟨_,_,hok⟩,hb,⟨f,rfl,q0,q10,q11,q12,_⟩⟩;have He:=Lib.hid (show rulesE l=0 by unfold rulesE;rw [if_neg hl];exact firstErr_none hok);clear hok;rw [frame87,show f 0=v from q0,show f 10=v from q10,show f 11=.int .i64 l.length from q11,show f 12=.int .i64 (l.length:Int)from q12];clear q0 q10 q11 q12;conv=>arg 2;whnf
 go_wp2_with fail
 refine Met.intro (hS _ _ ?_);exact⟨Fr.of _ rfl ⟨by rw [He.out];rfl,trivial⟩,hb⟩
theorem rp_all (p:Option Addr)(c:Nat)(hv:v=.slice p l.length c)(hz:∀r∈l,RuleOk r)(hl:¬100<l.length)(hrow:l.length=0∨∃b off cap,v=.slice (some ⟨b,off,none⟩) l.length cap∧b<w0.heap.size∧(l.length≤cap∧cap≤9223372036854775807)∧∀i:Int,0≤i→i<l.length→∀j u,(encR (geta l i))[j]?=some u→w0.cell? ⟨b,off+i.toNat*7+j,none⟩=some u):T3 Tryz.prog (fun a w=>w=w0∧Fr 87 [(0,v)] a) rulesP No No 9 (fun a w=>Fr 87 [(2,.int .i64 (rulesE l))] a∧Below w0.heap.size w0 w):=by
 refine T3.seq (s:=(sel [0] rulesP)) (c:=(sel [1] rulesP)) (rp_s0 v l w0 p c hv) ?_;refine T3.sq rfl (S:=(fun a w=>w=w0∧Fr 87 [(0,v)] a)) (T3.seq (s:=(sel [1,0,0] rulesP)) (c:=(sel [1,0,1] rulesP)) (rp_s1 v l w0 p c hv hl) ?_) ?_
 ·refine T3.cond (o:=.tmp 9) (x:=(sel [1,0,1,2] rulesP)) (y:=.skip) (fun _ _=>False) (fun a w=>w=w0∧Fr 87 [(0,v)] a) (fun a w h=>.inr ⟨h.2.eval 9 (by decide) (v:=.bool false) (by simp),h.1,h.2.tail⟩) (fun _ _ h=>h.elim) (T3.skip (fun _ _ h=>h))
 refine T3.sq rfl (T3.seq (s:=(sel [1,1,0,0] rulesP)) (c:=(sel [1,1,0,1] rulesP)) (rp_s3 v l w0 p c hv) (rp_loop v l w0 hz hl hrow)) ?_;exact T3.sr rfl (rp_s9 v l w0 hl) (T3.ret (fun _ _ h=>h))
end
theorem rules_prog (v:Value)(n:Nat)(l:List RuleL)(base:Nat)(w0:World)(h:Row w0 base 7 v n (cellsOf encR l))(hz:∀r∈l,RuleOk r):
  Calls Tryz.prog 115 #[v] w0 fun e w'=>e=.returned (.int .i64 (rulesE l))∧Below w0.heap.size w0 w':=by
 obtain⟨hl,hc⟩:=h.els encR_length (by decide);subst hl;obtain⟨p,c,hv⟩:=h.shape
 by_cases h100:100<l.length
 ·have he:=Lib.hid (show rulesE l=2 by simp [rulesE,h100]);clear hc;subst hv
  go_enter Tryz.func115,Tryz.ntmps115
  go_wp2_with fail
  go_ret
  exact⟨ret_int he.out.symm,Below.refl _ _⟩
 ·have hrow:l.length=0∨∃b off cap,v=.slice (some ⟨b,off,none⟩) l.length cap∧b<w0.heap.size∧(l.length≤cap∧cap≤9223372036854775807)∧∀i:Int,0≤i→i<l.length→∀j u,(encR (geta l i))[j]?=some u→w0.cell? ⟨b,off+i.toNat*7+j,none⟩=some u:=by
   rcases hc with ⟨_,h0⟩|⟨b,off,cap,e,_,hbs,hnc,hcm,hcell⟩
   ·exact .inl h0
   ·exact .inr ⟨b,off,cap,e,hbs,⟨hnc,hcm⟩,hcell⟩
  go_enter Tryz.func115,Tryz.ntmps115
  refine T3.done (s:=rulesP) (rp_all v l w0 p c hv hz h100 hrow) ⟨rfl,Fr.of _ rfl ⟨rfl,trivial⟩⟩ ?_;rintro a w ⟨⟨f,rfl,q2,_⟩,hb⟩;rw [frame87,show f 2=_ from q2]
  go_ret
  exact⟨rfl,hb⟩
end Go.Proofs.YtnmdpphddimfbaaGreat
/-
  Rules: the look of the reference. Conditions: strings and numbers are no greater than Go's.
-/
namespace Go.Proofs.YtnmdpphddimfbaaGreat
open Go.RowKit Go.Bw
def rrI (v:Value)(l:List RuleL)(w0:World)(k:Int)(a:Act)(w:World):Prop:=(0≤k∧k≤l.length∧NoErr (ruleAt l) k)∧Below w0.heap.size w0 w∧Fr 83 [(0,v),(3,.string (lastK l k)),(11,v),(12,.int .i64 l.length),(13,.int .i64 k)] a
end Go.Proofs.YtnmdpphddimfbaaGreat
/-
  Is a string among strings? The program's Common at one string. Condition: fewer strings than Go's greatest number.
-/
namespace Go.Proofs.YtnmdpphddimfbaaGreat
open Go.RowKit Go.Bw
set_option maxHeartbeats 400000 in
theorem common1 (v:Value)(n:Nat)(zs:List ByteArray)(x:ByteArray)(base B:Nat)(w:World)(h:Row w base 1 v n (cellsOf encSt zs))(hB:w.cell? ⟨B,0,none⟩=some v):
  Calls Tryz.prog 105 #[.string x,.pointer (some ⟨B,0,none⟩)] w fun e w'=>e=.returned (.bool (hasS zs x))∧w=w':=by
 obtain⟨p,c,rfl⟩:=h.shape
 go_enter Tryz.func105,Tryz.ntmps105
 go_wp2_with (go_at_call 45;refine(contains_str _ n zs x base _ h).mono ?_;rintro e w1 ⟨rfl,rfl⟩)
 go_ret
 exact⟨rfl,rfl⟩
section
variable (v:Value)(n:Nat)(zs:List ByteArray)(x:ByteArray)(base B g:Nat)(w:World)(h:Row w base 1 v n (cellsOf encSt zs))(hB:w.cell? ⟨B,0,none⟩=some v)(hg:w.cell? ⟨g,0,none⟩=some (.string x))
include h hB hg
theorem common_idx (q:Bool)(hq:hasS zs x=q):
  Calls Tryz.prog 83 #[.slice (some ⟨g,0,none⟩) 1 1,.func (.func 105) #[] #[.pointer (some ⟨B,0,none⟩)]] w fun e w'=>e=.returned (.int .i64 (if q=true then 0 else -1))∧w=w':=by
 have H1:=Lib.hid (common1 v n zs x base B w h hB);rw [hq]at H1;clear hB h hq;cases q
 ·go_enter Tryz.func83,Tryz.ntmps83
  go_wp2_with fail
  go_loop [8] (fun i=>∃k:Int,0≤k∧k≤1∧i=.int .i64 k) (fun i=>2-(intOf i).toNat)
  case atStart=>exact⟨0,by omega,by omega,rfl⟩
  case round =>
   obtain⟨k,hk0,hk1,rfl⟩:=hrel
   by_cases hlt:k<1
   ·obtain rfl:k=0:=by omega
    clear hk0 hk1 hlt;go_wp2_with (go_at_call 105;refine H1.out.mono ?_;rintro e w1 ⟨rfl,rfl⟩)
    go_round
    case rel=>exact⟨1,by omega,by omega,rfl⟩
    case measure=>simp [intOf]
   ·obtain rfl:k=1:=by omega
    clear hk0 hk1 hlt;go_wp2_with fail
    go_ret
    exact⟨rfl,rfl⟩
 ·go_enter Tryz.func83,Tryz.ntmps83
  go_wp2_with fail
  go_loop [8] (fun i=>i=.int .i64 0) (fun i=>2-(intOf i).toNat)
  case atStart=>rfl
  case round =>
   obtain rfl:=hrel;go_wp2_with (go_at_call 105;refine H1.out.mono ?_;rintro e w1 ⟨rfl,rfl⟩)
   go_ret
   exact⟨rfl,rfl⟩
theorem common_fn :
  Calls Tryz.prog 43 #[.slice (some ⟨g,0,none⟩) 1 1,.func (.func 105) #[] #[.pointer (some ⟨B,0,none⟩)]] w fun e w'=>e=.returned (.bool (hasS zs x))∧w=w':=by
 have H1:=Lib.hid (common_idx v n zs x base B g w h hB hg _ rfl);clear hB h hg;generalize hasS zs x=q at *;cases q
 all_goals
  go_enter Tryz.func43,Tryz.ntmps43
  go_wp2_with (go_at_call 83;refine H1.out.mono ?_;rintro e w1 ⟨rfl,rfl⟩)
  go_ret
  exact⟨rfl,rfl⟩
end
theorem common_any (v:Value)(n:Nat)(zs:List ByteArray)(x:ByteArray)(base g:Nat)(w:World)(h:Row w base 1 v n (cellsOf encSt zs))(hg:w.cell? ⟨g,0,none⟩=some (.string x)):
  Calls Tryz.prog 70 #[.slice (some ⟨g,0,none⟩) 1 1,v] w fun e w'=>e=.returned (.bool (hasS zs x))∧Below w.heap.size w w':=by
 have hgl:=World.block_lt_of_cell? w _ hg;have hw0:=(Below.refl w.heap.size w).alloc (Nat.le_refl _) (.cells #[v] 39);have hr:=h.below hw0;have c0:=cells_new w #[v] 39 0 _ rfl;have c1:=(hw0.cell (p:=⟨g,0,none⟩) hgl).trans hg;have H1:=Lib.hid (common_fn v n zs x base w.heap.size g _ hr c0 c1);obtain⟨p,c,rfl⟩:=h.shape;clear hr c0 c1 hg h
 go_enter Tryz.func70,Tryz.ntmps70
 go_wp2_with fail
 refine H1.out.mono ?_;rintro e w1 ⟨rfl,rfl⟩;go_wp2_with fail
 go_ret
 exact⟨rfl,hw0⟩
end Go.Proofs.YtnmdpphddimfbaaGreat
/-
  What a rule gives: the program's and the reference's reckoning. Conditions: the rule and the line are right.
-/
namespace Go.Bw
open Go.RowKit
/-- The cells of block g read cs from its head on. -/
def CellsAt (w:World)(g:Nat)(cs:List Value):Prop:=g<w.heap.size∧∀j u,cs[j]?=some u→w.cell? ⟨g,j,none⟩=some u
theorem CellsAt.below {w w':World}{g:Nat}{cs:List Value}(h:CellsAt w g cs)(b:Below w.heap.size w w'):CellsAt w' g cs :=
 ⟨Nat.lt_of_lt_of_le h.1 b.size,fun j u hu=>(b.cell (p:=⟨g,j,none⟩) h.1).trans (h.2 j u hu)⟩
theorem CellsAt.new (w:World)(cs:Array Value)(e:TypeId):CellsAt (w.alloc (.cells cs e)) w.heap.size cs.toList:=⟨by simp,fun j u h=>cells_new w cs e j u h⟩
def cntTo (l:List StatL)(nm:ByteArray)(k:Int):Int:=(l.take k.toNat).foldl (fun n t=>if t.name=nm then t.count else n) 0
section
variable (l:List StatL)(nm:ByteArray)
include l nm
theorem cntTo_zero:cntTo l nm 0=0:=rfl
theorem cntTo_succ (k:Int)(h0:0≤k)(h1:k<l.length):cntTo l nm (k+1)=if(geta l k).name=nm then(geta l k).count else cntTo l nm k:=by
 unfold cntTo;rw [show(k+1).toNat=k.toNat+1 by omega,List.take_succ_eq_append_getElem (by omega),List.foldl_append,geta_eq l k h0 h1];rfl
theorem cntTo_le (hc:∀t∈l,-100000≤t.count∧t.count≤100000)(k:Int)(h0:0≤k)(h1:k≤l.length):-100000≤cntTo l nm k∧cntTo l nm k≤100000:=by
 obtain⟨m,rfl⟩:=Int.eq_ofNat_of_zero_le h0
 induction m with
 | zero=>have:=cntTo_zero l nm;simp at this ⊢;rw [this];omega
 | succ m ih =>
  have hs:=cntTo_succ l nm m (by omega) (by omega);rw [show((m+1:Nat):Int)=(m:Int)+1 by omega,hs]
  split
  ·exact hc _ (geta_mem (by omega) (by omega))
  ·exact ih (by omega) (by omega)
end
end Go.Bw
namespace Go.Proofs.YtnmdpphddimfbaaGreat
open Go.RowKit Go.Bw
/-- A rule that is right. -/
structure RuleGood (r:RuleL):Prop where
 k0:1≤r.kind
 k1:r.kind≤4
 m:(r.kind=2∨r.kind=3)→1≤r.many∧r.many≤100000
 d0:1≤r.den
 d1:r.den≤100
 n0:-1000000≤r.num
 n1:r.num≤1000000
 h0:-1000000≤hund r.num r.den
 h1:hund r.num r.den≤1000000
theorem hund_le {num den:Int}(h0:1≤den)(h:den≤100)(h1:-10000*den≤num)(h2:num≤10000*den):-1000000≤hund num den∧hund num den≤1000000:=by
 unfold hund;have hq0:0≤100 / den:=Int.ediv_nonneg (by decide) (by omega);have hq:den*(100 / den)≤100:=Int.mul_ediv_self_le (by omega);have a:=Int.mul_le_mul_of_nonneg_right h1 hq0;have b:=Int.mul_le_mul_of_nonneg_right h2 hq0;rw [Int.mul_assoc]at a b;omega
theorem rule_good {l:List RuleL}(hz:∀r∈l,RuleOk r)(h:rulesE l=0):∀r∈l,RuleGood r:=by
 intro r hr;obtain⟨i,hi,rfl⟩:=List.getElem_of_mem hr;have h100:¬100<l.length:=by
  intro h100;unfold rulesE at h;rw [if_pos h100]at h;cases h
 have hat:ruleAt l i=0:=by
  unfold rulesE at h;rw [if_neg h100]at h;exact firstErr_zero h i (by omega) (by omega)
 have hg:geta l i=l[i]:=geta_eq l i (by omega) (by omega);unfold ruleAt at hat;rw [hg]at hat;have e1:kindB l[i]=false:=by
  cases hk:kindB l[i]
  ·rfl
  ·rw [hk]at hat
   split at hat <;> (try split at hat) <;> simp_all
 have e2:manyBad l[i]=false:=by
  cases hk:manyBad l[i]
  ·rfl
  ·rw [hk]at hat
   split at hat <;> (try split at hat) <;> (try split at hat) <;> simp_all
 have e3:amountE l[i].num l[i].den 10000=0:=by
  rw [e1,e2]at hat
  split at hat <;> (try split at hat) <;> simp_all
 have hk:=out_no e1;unfold amountE at e3;have a1:¬(l[i].den<1∨Int.gcd l[i].num l[i].den≠1):=by
  intro h;rw [if_pos h]at e3;cases e3
 rw [if_neg a1]at e3;have a2:¬(100 % l[i].den≠0∨l[i].num < -10000*l[i].den∨10000*l[i].den<l[i].num):=by
  intro h;rw [if_pos h]at e3;cases e3
 have hd1:1≤l[i].den:=by omega
 have hd0:100 % l[i].den=0:=by omega
 have hd2:=den_le hd1 hd0;have hh:=hund_le (num:=l[i].num) hd1 hd2 (by omega) (by omega);refine⟨hk.1,hk.2,fun hm=>?_,hd1,hd2,by omega,by omega,hh.1,hh.2⟩;have hm2:many2 l[i]=true:=by
  unfold many2;rcases hm with hm|hm <;> simp [hm]
 unfold manyBad at e2;rw [if_pos hm2]at e2;exact out_no e2
def posBad (r:RuleL)(ps:List ByteArray):Bool:=decide (r.pos.size≠0)&&!hasS ps r.pos
def cnt (ts:List StatL)(nm:ByteArray):Int:=cntTo ts nm ts.length
theorem mul_b (h t:Int)(h0:-1000000≤h)(h1:h≤1000000)(t0:-100000≤t)(t1:t≤100000):-100000000000≤h*t∧h*t≤100000000000:=by
 have a:(h*t).natAbs=h.natAbs*t.natAbs:=Int.natAbs_mul h t;have b:h.natAbs*t.natAbs≤1000000*100000:=Nat.mul_le_mul (by omega) (by omega);omega
def timesV (r:RuleL)(n:Int):Int:=if r.kind=1 then n else if r.kind=2 then max n 0 / r.many else if r.kind=3 then(if r.many≤n then 1 else 0)else if n=0 then 1 else 0
theorem times_le (r:RuleL)(n:Int)(hm:(r.kind=2∨r.kind=3)→1≤r.many∧r.many≤100000)(h0:-100000≤n)(h1:n≤100000):-100000≤timesV r n∧timesV r n≤100000:=by
 unfold timesV
 split
 ·omega
 ·split
  ·rename_i h2
   have:=hm (.inl h2);have a:0≤max n 0 / r.many:=Int.ediv_nonneg (by omega) (by omega);have b:max n 0 / r.many≤max n 0:=Int.ediv_le_self _ (by omega);omega
  ·split
   ·split <;> omega
   ·split <;> omega
def givesV (r:RuleL)(ps:List ByteArray)(ts:List StatL):Int:=if posBad r ps=true then 0 else hund r.num r.den*timesV r (cnt ts r.stat)
/-- What a call sees. -/
structure Gw (w0:World)(r:RuleL)(pl:ByteArray)(wk:Int)(vt vp:Value)(ts:List StatL)(ps:List ByteArray)(g3 g5:Nat)(w:World):Prop where
 bel:Below w0.heap.size w0 w
 rc:CellsAt w g3 (encR r)
 lc:CellsAt w g5 [.string pl,.int .i64 wk,vt]
 tr:Row w 0 2 vt ts.length (cellsOf encT ts)
 pr:Row w 0 1 vp ps.length (cellsOf encSt ps)
theorem Gw.below {w0 w w':World}{r:RuleL}{pl:ByteArray}{wk:Int}{vt vp:Value}{ts:List StatL}{ps:List ByteArray}{g3 g5:Nat}(h:Gw w0 r pl wk vt vp ts ps g3 g5 w)(b:Below w.heap.size w w'):Gw w0 r pl wk vt vp ts ps g3 g5 w' :=
 ⟨h.bel.trans (b.mono h.bel.size),h.rc.below b,h.lc.below b,h.tr.below b,h.pr.below b⟩
noncomputable def givesP:Code:=(Tryz.f117.body).getD .skip
theorem frame76 (f:Nat→Value):frame 76 f=⟨#[f 0,f 1,f 2,f 3,f 4,f 5,f 6,f 7,f 8,f 9,f 10,f 11,f 12,f 13,f 14,f 15,f 16,f 17,f 18,f 19,f 20,f 21,f 22,f 23,f 24,f 25,f 26,f 27,f 28,f 29,f 30,f 31,f 32,f 33,f 34,f 35,f 36,f 37,f 38,f 39,f 40,f 41,f 42,f 43,f 44,f 45,f 46,f 47,f 48,f 49,f 50,f 51,f 52,f 53,f 54,f 55,f 56,f 57,f 58,f 59,f 60,f 61,f 62,f 63,f 64,f 65,f 66,f 67,f 68,f 69,f 70,f 71,f 72,f 73,f 74,f 75],[]⟩:=by rfl
section
variable (w0:World)(r:RuleL)(pl:ByteArray)(wk:Int)(vt vp:Value)(ts:List StatL)(ps:List ByteArray)(g3 g5:Nat)(hr:RuleGood r)(hc:∀t∈ts,-100000≤t.count∧t.count≤100000)
include w0 pl wk vt vp ps g3 g5 hr hc
theorem gp_pos:T3 Tryz.prog (fun a w=>True∧Gw w0 r pl wk vt vp ts ps g3 g5 w∧Fr 76 [(1,vp),(3,.pointer (some ⟨g3,0,none⟩)),(5,.pointer (some ⟨g5,0,none⟩))] a) (sel [1,0,0] givesP)
  (fun a w=>∃q,Fr 76 ((21,.bool q)::[(1,vp),(3,.pointer (some ⟨g3,0,none⟩)),(5,.pointer (some ⟨g5,0,none⟩))]) a∧((q=posBad r ps)∧Gw w0 r pl wk vt vp ts ps g3 g5 w)) No 9
  (fun a w=>Fr 76 [(6,.int .i64 (givesV r ps ts))] a∧Below w0.heap.size w0 w):=by
 refine T3.leaf ?_;rintro Q JS JX JT K hS hK hX hE hT hR a w ⟨hC,hM,⟨f,rfl,q1,q3,q5,_⟩⟩;have HC:=Lib.hid hC;clear hC;rw [frame76,show f 1=vp from q1,show f 3=.pointer (some ⟨g3,0,none⟩)from q3,show f 5=.pointer (some ⟨g5,0,none⟩)from q5];clear q1 q3 q5;conv=>arg 2;whnf
 have c2:=hM.rc.2 2 _ rfl;have Hp:=Lib.hid (show posBad r ps=(decide (r.pos.size≠0)&&!hasS ps r.pos)from rfl);generalize r.pos=s2 at *
 by_cases h2:s2.size=0
 ·have Hq:=Lib.hid (show false=posBad r ps by rw [Hp.out];simp [h2]);have e2:=str_empty h2;clear h2;go_wp2_with fail
  refine Met.intro (hS _ _ ?_);exact⟨false,Fr.r rfl rfl,Hq.out,hM⟩
 ·have e2:=str_full h2;have e3:(!s2.toList.isEmpty)=true:=by rw [e2];rfl
  have hb:=(Below.refl w.heap.size w).alloc (Nat.le_refl _) (.cells #[.string s2] 9);have H1:=Lib.hid (common_any vp ps.length ps s2 0 w.heap.size _ (hM.pr.below hb) (cells_new w #[.string s2] 9 0 _ rfl))
  replace hM:=hM.below hb
  clear hb;have Hq:=Lib.hid (show(!hasS ps s2)=posBad r ps by rw [Hp.out];simp [h2]);clear h2;go_wp2_with fail
  generalize w.alloc (.cells #[.string s2] 9)=W at *;refine H1.out.mono ?_;rintro e w1 ⟨rfl,hb⟩
  replace hM:=hM.below hb
  clear hb H1;generalize hasS ps s2=q at *;cases q
  ·go_wp2_with fail
   refine Met.intro (hS _ _ ?_);exact⟨true,Fr.r rfl rfl,Hq.out,hM⟩
  ·go_wp2_with fail
   refine Met.intro (hS _ _ ?_);exact⟨false,Fr.r rfl rfl,Hq.out,hM⟩
theorem gp_none:T3 Tryz.prog (fun a w=>Fr 76 ((21,.bool true)::[(1,vp),(3,.pointer (some ⟨g3,0,none⟩)),(5,.pointer (some ⟨g5,0,none⟩))]) a∧(true=posBad r ps)∧Gw w0 r pl wk vt vp ts ps g3 g5 w) (sel [1,0,1,2] givesP) No No 9 (fun a w=>Fr 76 [(6,.int .i64 (givesV r ps ts))] a∧Below w0.heap.size w0 w):=by
 refine T3.leaf ?_;rintro Q JS JX JT K hS hK hX hE hT hR a w ⟨⟨f,rfl,q21,q1,q3,q5,_⟩,hC,hM⟩;have He:=Lib.hid (show givesV r ps ts=0 by unfold givesV;rw [if_pos hC.symm]);have hb:=hM.bel;clear hC;rw [frame76,show f 21=.bool true from q21,show f 1=vp from q1,show f 3=.pointer (some ⟨g3,0,none⟩)from q3,show f 5=.pointer (some ⟨g5,0,none⟩)from q5];clear q21 q1 q3 q5;conv=>arg 2;whnf
 go_wp2_with fail
 refine Met.intro (hT _ _ ?_);exact⟨Fr.of _ rfl ⟨by rw [He.out];rfl,trivial⟩,hb⟩
theorem gp_c0:T3 Tryz.prog (fun a w=>True∧Gw w0 r pl wk vt vp ts ps g3 g5 w∧Fr 76 [(1,vp),(3,.pointer (some ⟨g3,0,none⟩)),(5,.pointer (some ⟨g5,0,none⟩))] a) (sel [1,1,0] givesP)
  (fun a w=>True∧Gw w0 r pl wk vt vp ts ps g3 g5 w∧Fr 76 [(7,.int .i64 0),(1,vp),(3,.pointer (some ⟨g3,0,none⟩)),(5,.pointer (some ⟨g5,0,none⟩))] a) No 9
  (fun a w=>Fr 76 [(6,.int .i64 (givesV r ps ts))] a∧Below w0.heap.size w0 w):=by
 refine T3.leaf ?_;rintro Q JS JX JT K hS hK hX hE hT hR a w ⟨hC,hM,⟨f,rfl,q1,q3,q5,_⟩⟩;have HC:=Lib.hid hC;clear hC;rw [frame76,show f 1=vp from q1,show f 3=.pointer (some ⟨g3,0,none⟩)from q3,show f 5=.pointer (some ⟨g5,0,none⟩)from q5];clear q1 q3 q5;conv=>arg 2;whnf
 go_wp2_with fail
 refine Met.intro (hS _ _ ?_);exact⟨trivial,hM,Fr.r rfl rfl⟩
def gpC (w0:World)(r:RuleL)(pl:ByteArray)(wk:Int)(vt vp:Value)(ts:List StatL)(ps:List ByteArray)(g3 g5:Nat)(k:Int)(a:Act)(w:World):Prop:=(0≤k∧k≤ts.length)∧Gw w0 r pl wk vt vp ts ps g3 g5 w∧Fr 76 [(23,vt),(24,.int .i64 ts.length),(25,.int .i64 k),(7,.int .i64 (cntTo ts r.stat k)),(1,vp),(3,.pointer (some ⟨g3,0,none⟩)),(5,.pointer (some ⟨g5,0,none⟩))] a
theorem gp_c1:T3 Tryz.prog (fun a w=>True∧Gw w0 r pl wk vt vp ts ps g3 g5 w∧Fr 76 [(7,.int .i64 0),(1,vp),(3,.pointer (some ⟨g3,0,none⟩)),(5,.pointer (some ⟨g5,0,none⟩))] a) (sel [1,1,1,0,0] givesP)
  (gpC w0 r pl wk vt vp ts ps g3 g5 0) No 9
  (fun a w=>Fr 76 [(6,.int .i64 (givesV r ps ts))] a∧Below w0.heap.size w0 w):=by
 refine T3.leaf ?_;rintro Q JS JX JT K hS hK hX hE hT hR a w ⟨hC,hM,⟨f,rfl,q7,q1,q3,q5,_⟩⟩;have HC:=Lib.hid hC;clear hC;rw [frame76,show f 7=.int .i64 0 from q7,show f 1=vp from q1,show f 3=.pointer (some ⟨g3,0,none⟩)from q3,show f 5=.pointer (some ⟨g5,0,none⟩)from q5];clear q7 q1 q3 q5;conv=>arg 2;whnf
 obtain⟨p,c,hv⟩:=hM.tr.shape;have c2:=hM.lc.2 2 _ rfl;rw [hv]at c2;go_wp2_with fail
 refine Met.intro (hS _ _ ?_);exact⟨⟨by omega,by omega⟩,hM,Fr.of _ rfl ⟨hv.symm,rfl,rfl,rfl,rfl,rfl,rfl,trivial⟩⟩
theorem gp_cr (n:Nat):T3 Tryz.prog (fun a w=>∃k:Int,(n:Int)=ts.length-k∧gpC w0 r pl wk vt vp ts ps g3 g5 k a w) (sel [1,1,1,0,1,4,4] givesP)
  (fun a w=>∃m,m<n∧∃k:Int,(m:Int)=ts.length-k∧gpC w0 r pl wk vt vp ts ps g3 g5 k a w) (gpC w0 r pl wk vt vp ts ps g3 g5 ts.length) 0
  (fun a w=>Fr 76 [(6,.int .i64 (givesV r ps ts))] a∧Below w0.heap.size w0 w):=by
 refine T3.leaf ?_;rintro Q JS JX JT K hS hK hX hE hT hR a w ⟨k,hn,⟨hk0,hk1⟩,hM,⟨f,rfl,q23,q24,q25,q7,q1,q3,q5,_⟩⟩;rw [frame76,show f 23=vt from q23,show f 24=.int .i64 ts.length from q24,show f 25=.int .i64 k from q25,show f 7=.int .i64 (cntTo ts r.stat k)from q7,show f 1=vp from q1,show f 3=.pointer (some ⟨g3,0,none⟩)from q3,show f 5=.pointer (some ⟨g5,0,none⟩)from q5];clear q23 q24 q25 q7 q1 q3 q5;conv=>arg 2;whnf
 have HS:=Lib.hid hS;have HX:=Lib.hid hX;clear hS hX
 by_cases hlt:k<ts.length
 ·obtain⟨_,hcs⟩:=hM.tr.els encT_length (by decide);rcases hcs with ⟨_,h0⟩|⟨b,off,cap,hv,_,hbs,hnc,hcm,hcell⟩
  ·omega
  have t0:=hcell k hk0 hlt 0 _ rfl;have t1:=hcell k hk0 hlt 1 _ rfl;rw [Nat.add_zero]at t0;have Hs:=Lib.hid (cntTo_succ ts r.stat k hk0 hlt);have Hv:=Lib.hid hv;rw [hv];have hb:=(Below.refl w.heap.size w).alloc (Nat.le_refl _) (.cells (encT (geta ts k)).toArray 113)
  replace hM:=hM.below hb
  have c1:=hM.rc.2 1 _ rfl;clear hv hcell hb;unfold encT at hM c1;generalize (geta ts k).name=s1 at *;generalize (geta ts k).count=n1 at *;generalize hs2:r.stat=s2 at *;have Hse:=Lib.hid hs2;clear hs2
  go_upto_region 7 with fail
  have d0:=cells_new w #[.string s1,.int .i64 n1] 113 0 _ rfl;have d1:=cells_new w #[.string s1,.int .i64 n1] 113 1 _ rfl
  change Gw _ _ _ _ _ _ _ _ _ _ (w.alloc (.cells #[.string s1,.int .i64 n1] 113))at hM
  change (w.alloc (.cells #[.string s1,.int .i64 n1] 113)).cell? _=_ at c1
  generalize w.alloc (.cells #[.string s1,.int .i64 n1] 113)=W at *;generalize w.heap.size=g at *;clear t0 t1;generalize cntTo ts s2 k=m at *
  by_cases hq:s1=s2
  ·subst hq;have Hs2:=Lib.hid (show cntTo ts s1 (k+1)=n1 by rw [Hs.out,if_pos rfl]);clear Hs;go_wp2_with fail
   refine Met.intro (HS.out _ _ ?_);exact⟨n-1,by omega,k+1,by omega,⟨by omega,by omega⟩,hM,Fr.of _ rfl ⟨Hv.out.symm,rfl,rfl,by rw [Hse.out,Hs2.out];rfl,rfl,rfl,rfl,trivial⟩⟩
  ·have hqb:=toList_ne hq;have Hs2:=Lib.hid (show cntTo ts s2 (k+1)=m by rw [Hs.out,if_neg hq]);clear Hs;go_wp2_with fail
   refine Met.intro (HS.out _ _ ?_);exact⟨n-1,by omega,k+1,by omega,⟨by omega,by omega⟩,hM,Fr.of _ rfl ⟨Hv.out.symm,rfl,rfl,by rw [Hse.out,Hs2.out];rfl,rfl,rfl,rfl,trivial⟩⟩
 ·have hk:k=ts.length:=by omega
  subst hk;go_wp2_with fail
  refine hE _ _ (Met.intro (HX.out _ _ ?_));exact⟨⟨hk0,hk1⟩,hM,Fr.r rfl rfl⟩
theorem gp_cnt:T3 Tryz.prog (gpC w0 r pl wk vt vp ts ps g3 g5 0) (sel [1,1,1,0,1] givesP) (gpC w0 r pl wk vt vp ts ps g3 g5 ts.length) No 9 (fun a w=>Fr 76 [(6,.int .i64 (givesV r ps ts))] a∧Below w0.heap.size w0 w):=by
 refine T3.loop (c:=(sel [1,1,1,0,1,4,4] givesP)) (fun n a w=>∃k:Int,(n:Int)=ts.length-k∧gpC w0 r pl wk vt vp ts ps g3 g5 k a w) (fun a w h=>⟨ts.length,0,by omega,h⟩) (fun n=>gp_cr w0 r pl wk vt vp ts ps g3 g5 hr hc n)
theorem gp_worth:T3 Tryz.prog (fun a w=>True∧Gw w0 r pl wk vt vp ts ps g3 g5 w∧Fr 76 [(7,.int .i64 (cnt ts r.stat)),(1,vp),(3,.pointer (some ⟨g3,0,none⟩)),(5,.pointer (some ⟨g5,0,none⟩))] a) (sel [1,1,1,1,0] givesP)
  (fun a w=>True∧Gw w0 r pl wk vt vp ts ps g3 g5 w∧Fr 76 [(10,.int .i64 (hund r.num r.den)),(7,.int .i64 (cnt ts r.stat)),(1,vp),(3,.pointer (some ⟨g3,0,none⟩)),(5,.pointer (some ⟨g5,0,none⟩))] a) No 9
  (fun a w=>Fr 76 [(6,.int .i64 (givesV r ps ts))] a∧Below w0.heap.size w0 w):=by
 refine T3.leaf ?_;rintro Q JS JX JT K hS hK hX hE hT hR a w ⟨hC,hM,⟨f,rfl,q7,q1,q3,q5,_⟩⟩;have HC:=Lib.hid hC;clear hC;rw [frame76,show f 7=.int .i64 (cnt ts r.stat)from q7,show f 1=vp from q1,show f 3=.pointer (some ⟨g3,0,none⟩)from q3,show f 5=.pointer (some ⟨g5,0,none⟩)from q5];clear q7 q1 q3 q5;conv=>arg 2;whnf
 have hn0:=hr.n0;have hn1:=hr.n1;have hd0:=hr.d0;have hd1:=hr.d1;have c5:=hM.rc.2 5 _ rfl;have c6:=hM.rc.2 6 _ rfl;generalize cnt ts r.stat=m at *;generalize r.num=n1 at *;generalize r.den=n2 at *;go_wp2_with (go_at_call 87;refine(hundredths_prog n1 n2 _ (by omega) (by omega) hd0 (by omega)).mono ?_;rintro e w1 ⟨rfl,hb⟩;replace hM:=hM.below hb;clear hb)
 refine Met.intro (hS _ _ ?_);exact⟨trivial,hM,Fr.r rfl rfl⟩
theorem gp_sw (hp:posBad r ps=false):T3 Tryz.prog (fun a w=>True∧Gw w0 r pl wk vt vp ts ps g3 g5 w∧Fr 76 [(10,.int .i64 (hund r.num r.den)),(7,.int .i64 (cnt ts r.stat)),(1,vp),(3,.pointer (some ⟨g3,0,none⟩)),(5,.pointer (some ⟨g5,0,none⟩))] a) (sel [1,1,1,1,1] givesP) No No 9 (fun a w=>Fr 76 [(6,.int .i64 (givesV r ps ts))] a∧Below w0.heap.size w0 w):=by
 refine T3.leaf ?_;rintro Q JS JX JT K hS hK hX hE hT hR a w ⟨hC,hM,⟨f,rfl,q10,q7,q1,q3,q5,_⟩⟩;have Hv:=Lib.hid (show givesV r ps ts=hund r.num r.den*timesV r (cnt ts r.stat)by unfold givesV;rw [if_neg (by rw [hp];decide)]);have hcb:=cntTo_le ts r.stat hc ts.length (by omega) (by omega)
 change -100000≤cnt ts r.stat∧cnt ts r.stat≤100000 at hcb
 have hb:=hM.bel;have hk0:=hr.k0;have hk1:=hr.k1;have hm:=hr.m;have hh0:=hr.h0;have hh1:=hr.h1;have c3:=hM.rc.2 3 _ rfl;have c4:=hM.rc.2 4 _ rfl;rw [frame76,show f 10=.int .i64 (hund r.num r.den)from q10,show f 7=.int .i64 (cnt ts r.stat)from q7,show f 1=vp from q1,show f 3=.pointer (some ⟨g3,0,none⟩)from q3,show f 5=.pointer (some ⟨g5,0,none⟩)from q5];clear q10 q7 q1 q3 q5;conv=>arg 2;whnf
 generalize hund r.num r.den=h at *;generalize cnt ts r.stat=m at *;have Ht:=Lib.hid (show timesV r m=if r.kind=1 then m else if r.kind=2 then max m 0 / r.many else if r.kind=3 then(if r.many≤m then 1 else 0)else if m=0 then 1 else 0 from rfl);generalize r.kind=kd at *;generalize r.many=mn at *;have hkd:kd=1∨kd=2∨kd=3∨kd=4:=by omega
 clear hp hk0 hk1;rcases hkd with rfl|rfl|rfl|rfl
 ·have HE:=Lib.hid (show givesV r ps ts=h*m by rw [Hv.out,Ht.out,if_pos rfl]);have hbb:=mul_b h m hh0 hh1 hcb.1 hcb.2;clear hm;go_wp2_with fail
  refine Met.intro (hT _ _ ?_);exact⟨Fr.of _ rfl ⟨by rw [HE.out];rfl,trivial⟩,hb⟩
 ·have hm:=hm (.inl rfl);have HE:=Lib.hid (show givesV r ps ts=h*(max m 0 / mn)by rw [Hv.out,Ht.out,if_neg (by decide),if_pos rfl]);have hq0:0≤max m 0 / mn:=Int.ediv_nonneg (by omega) (by omega);have hq1:max m 0 / mn≤max m 0:=Int.ediv_le_self _ (by omega);have hbb:=mul_b h (max m 0 / mn) hh0 hh1 (by omega) (by omega);have hmz:(mn==0)=false:=by simp;omega
  go_wp2_with fail
  refine Met.intro (hT _ _ ?_);exact⟨Fr.of _ rfl ⟨by rw [HE.out];rfl,trivial⟩,hb⟩
 ·have hm:=hm (.inr rfl)
  by_cases hge:mn≤m
  ·have HE:=Lib.hid (show givesV r ps ts=h by rw [Hv.out,Ht.out,if_neg (by decide),if_neg (by decide),if_pos rfl,if_pos hge,Int.mul_one]);go_wp2_with fail
   refine Met.intro (hT _ _ ?_);exact⟨Fr.of _ rfl ⟨by rw [HE.out];rfl,trivial⟩,hb⟩
  ·have HE:=Lib.hid (show givesV r ps ts=0 by rw [Hv.out,Ht.out,if_neg (by decide),if_neg (by decide),if_pos rfl,if_neg hge,Int.mul_zero]);have hgd:decide (mn≤m)=false:=by simp;omega
   go_wp2_with fail
   refine Met.intro (hT _ _ ?_);exact⟨Fr.of _ rfl ⟨by rw [HE.out];rfl,trivial⟩,hb⟩
 ·clear hm
  by_cases hz:m=0
  ·have HE:=Lib.hid (show givesV r ps ts=h by rw [Hv.out,Ht.out,if_neg (by decide),if_neg (by decide),if_neg (by decide),if_pos hz,Int.mul_one]);have hzb:(m==0)=true:=by simp [hz]
   clear hz;go_wp2_with fail
   refine Met.intro (hT _ _ ?_);exact⟨Fr.of _ rfl ⟨by rw [HE.out];rfl,trivial⟩,hb⟩
  ·have HE:=Lib.hid (show givesV r ps ts=0 by rw [Hv.out,Ht.out,if_neg (by decide),if_neg (by decide),if_neg (by decide),if_neg hz,Int.mul_zero]);have hzb:(m==0)=false:=by simp [hz]
   clear hz;go_wp2_with fail
   refine Met.intro (hT _ _ ?_);exact⟨Fr.of _ rfl ⟨by rw [HE.out];rfl,trivial⟩,hb⟩
theorem gp_all:T3 Tryz.prog (fun a w=>True∧Gw w0 r pl wk vt vp ts ps g3 g5 w∧Fr 76 [(1,vp),(3,.pointer (some ⟨g3,0,none⟩)),(5,.pointer (some ⟨g5,0,none⟩))] a) (sel [1] givesP) No No 9 (fun a w=>Fr 76 [(6,.int .i64 (givesV r ps ts))] a∧Below w0.heap.size w0 w):=by
 cases hp:posBad r ps
 ·refine T3.sq rfl (T3.test (s:=(sel [1,0,0] givesP)) (x:=(sel [1,0,1,2] givesP)) (y:=.skip) (l:=[(1,vp),(3,.pointer (some ⟨g3,0,none⟩)),(5,.pointer (some ⟨g5,0,none⟩))]) (C:=fun q=>q=posBad r ps) (W:=Gw w0 r pl wk vt vp ts ps g3 g5) (by decide) (gp_pos w0 r pl wk vt vp ts ps g3 g5 hr hc) (T3.noS (gp_none w0 r pl wk vt vp ts ps g3 g5 hr hc)) (T3.skip (fun a w q=>q))) ?_;refine T3.sq rfl ((gp_c0 w0 r pl wk vt vp ts ps g3 g5 hr hc).pre (fun a w q=>⟨trivial,q.2⟩)) ?_;refine T3.sq rfl (T3.seq (s:=(sel [1,1,1,0,0] givesP)) (c:=(sel [1,1,1,0,1] givesP)) (gp_c1 w0 r pl wk vt vp ts ps g3 g5 hr hc) (gp_cnt w0 r pl wk vt vp ts ps g3 g5 hr hc)) ?_;refine T3.sq rfl ((gp_worth w0 r pl wk vt vp ts ps g3 g5 hr hc).pre (fun a w q=>⟨trivial,q.2.1,q.2.2.sub (by intro p hp;simp at hp ⊢;rcases hp with h|h|h|h <;> simp [h,cnt])⟩)) ?_;exact gp_sw w0 r pl wk vt vp ts ps g3 g5 hr hc hp
 ·refine T3.sq rfl (T3.test (s:=(sel [1,0,0] givesP)) (x:=(sel [1,0,1,2] givesP)) (y:=.skip) (l:=[(1,vp),(3,.pointer (some ⟨g3,0,none⟩)),(5,.pointer (some ⟨g5,0,none⟩))]) (C:=fun q=>q=posBad r ps) (W:=Gw w0 r pl wk vt vp ts ps g3 g5) (by decide) (gp_pos w0 r pl wk vt vp ts ps g3 g5 hr hc) (T3.noS (gp_none w0 r pl wk vt vp ts ps g3 g5 hr hc)) (T3.skip (fun a w q=>q))) ?_;intro a w q;rw [hp]at q;cases q.1
end
theorem gives_prog (w0:World)(r:RuleL)(pl:ByteArray)(wk:Int)(vt vp:Value)(ts:List StatL)(ps:List ByteArray)(hr:RuleGood r)(hc:∀t∈ts,-100000≤t.count∧t.count≤100000)(htr:Row w0 0 2 vt ts.length (cellsOf encT ts))(hpr:Row w0 0 1 vp ps.length (cellsOf encSt ps)):
  Calls Tryz.prog 117 #[.agg #[.string r.key,.string r.stat,.string r.pos,.int .i64 r.kind,.int .i64 r.many,.int .i64 r.num,.int .i64 r.den],vp,.agg #[.string pl,.int .i64 wk,vt]] w0 fun e w' =>
   e=.returned (.int .i64 (givesV r ps ts))∧Below w0.heap.size w0 w':=by
 have hb1:=(Below.refl w0.heap.size w0).alloc (Nat.le_refl _) (.cells (encR r).toArray 110);have hb2:=(Below.refl (w0.alloc (.cells (encR r).toArray 110)).heap.size (w0.alloc (.cells (encR r).toArray 110))).alloc (Nat.le_refl _) (.cells #[.string pl,.int .i64 wk,vt] 116);have hM:Gw w0 r pl wk vt vp ts ps w0.heap.size (w0.alloc (.cells (encR r).toArray 110)).heap.size ((w0.alloc (.cells (encR r).toArray 110)).alloc (.cells #[.string pl,.int .i64 wk,vt] 116)) :=
  ⟨hb1.trans (hb2.mono hb1.size),(CellsAt.new w0 (encR r).toArray _).below hb2,CellsAt.new _ _ _,(htr.below hb1).below hb2,(hpr.below hb1).below hb2⟩
 have HM:=Lib.hid hM;obtain⟨p1,c1,hv1⟩:=htr.shape;obtain⟨p2,c2,hv2⟩:=hpr.shape;subst hv1;subst hv2;unfold encR at HM;have hsz:(w0.alloc (.cells (encR r).toArray 110)).heap.size=w0.heap.size+1:=by simp
 unfold encR at hsz;rw [hsz]at HM;clear hM hb1 hb2 hsz
 go_enter Tryz.func117,Tryz.ntmps117
 refine T3.done (P:=Tryz.prog) (s:=givesP) (R:=fun a w=>w=w0∧Fr 76 [(0,.agg #[.string r.key,.string r.stat,.string r.pos,.int .i64 r.kind,.int .i64 r.many,.int .i64 r.num,.int .i64 r.den]),(1,.slice p2 ps.length c2),(2,.agg #[.string pl,.int .i64 wk,.slice p1 ts.length c1])] a)
  (T3.seq (s:=(sel [0] givesP)) (c:=(sel [1] givesP)) ?_ (gp_all w0 r pl wk (.slice p1 ts.length c1) (.slice p2 ps.length c2) ts ps w0.heap.size (w0.heap.size+1) hr hc)) ⟨rfl,Fr.r rfl rfl⟩ ?_
 ·refine T3.leaf ?_;rintro Q JS JX JT K hS hK hX hE hT hR a w ⟨hw,⟨f,rfl,q0,q1,q2,_⟩⟩;subst hw;rw [frame76,show f 0=_ from q0,show f 1=_ from q1,show f 2=_ from q2];clear q0 q1 q2;conv=>arg 2;whnf
  go_wp2_with fail
  refine Met.intro (hS _ _ ?_);exact⟨trivial,HM.out,Fr.r rfl rfl⟩
 ·rintro a w ⟨⟨f,rfl,q6,_⟩,hb⟩;rw [frame76,show f 6=_ from q6]
  go_ret
  exact⟨rfl,hb⟩
def grC (w0:World)(r:RuleL)(pl:ByteArray)(wk:Int)(vt vp:Value)(ts:List StatL)(ps:List ByteArray)(g3 g5:Nat)(k:Int)(a:Act)(w:World):Prop:=(0≤k∧k≤ts.length)∧Gw w0 r pl wk vt vp ts ps g3 g5 w∧Fr 78 [(12,vt),(13,.int .i64 ts.length),(14,.int .i64 k),(7,.int .i64 (cntTo ts r.stat k)),(1,vp),(3,.pointer (some ⟨g3,0,none⟩)),(5,.pointer (some ⟨g5,0,none⟩))] a
end Go.Proofs.YtnmdpphddimfbaaGreat
/-
  The points of a line: the program's and the reference's sum. Conditions: the rules and the line are right.
-/
namespace Go.Proofs.YtnmdpphddimfbaaGreat
open Go.RowKit Go.Bw
def ptsTo (rs:List RuleL)(ps:List ByteArray)(ts:List StatL)(k:Int):Int:=((rs.take k.toNat).map fun r=>givesV r ps ts).sum
def ptsV (rs:List RuleL)(ps:List ByteArray)(ts:List StatL):Int:=ptsTo rs ps ts rs.length
section
variable (rs:List RuleL)(ps:List ByteArray)(ts:List StatL)
include rs ps ts
theorem ptsTo_zero:ptsTo rs ps ts 0=0:=rfl
theorem ptsTo_succ (k:Int)(h0:0≤k)(h1:k<rs.length):ptsTo rs ps ts (k+1)=ptsTo rs ps ts k+givesV (geta rs k) ps ts:=by
 unfold ptsTo;rw [show(k+1).toNat=k.toNat+1 by omega,List.take_succ_eq_append_getElem (by omega),geta_eq rs k h0 h1,List.map_append,List.sum_append];simp only [List.map_cons,List.map_nil,List.sum_cons,List.sum_nil];omega
end
theorem gives_le {r:RuleL}(hr:RuleGood r)(ps:List ByteArray)(ts:List StatL)(hc:∀t∈ts,-100000≤t.count∧t.count≤100000):-100000000000≤givesV r ps ts∧givesV r ps ts≤100000000000:=by
 have hcb:=cntTo_le ts r.stat hc ts.length (by omega) (by omega);have htb:=times_le r (cnt ts r.stat) hr.m hcb.1 hcb.2;have:=mul_b (hund r.num r.den) (timesV r (cnt ts r.stat)) hr.h0 hr.h1 htb.1 htb.2;unfold givesV
 split
 ·omega
 ·exact this
theorem ptsTo_le {rs:List RuleL}(hg:∀r∈rs,RuleGood r)(hl:rs.length≤100)(ps:List ByteArray)(ts:List StatL)(hc:∀t∈ts,-100000≤t.count∧t.count≤100000)(k:Int)(h0:0≤k)(h1:k≤rs.length):
  -10000000000000≤ptsTo rs ps ts k∧ptsTo rs ps ts k≤10000000000000:=by
 have key:∀m:Nat,m≤rs.length→-(100000000000*(m:Int))≤ptsTo rs ps ts m∧ptsTo rs ps ts m≤100000000000*(m:Int):=by
  intro m
  induction m with
  | zero=>intro _;have:=ptsTo_zero rs ps ts;simp at this ⊢;rw [this];omega
  | succ m ih =>
   intro hm;have hs:=ptsTo_succ rs ps ts m (by omega) (by omega);have hgl:=gives_le (hg _ (geta_mem (l:=rs) (i:=m) (by omega) (by omega))) ps ts hc;have:=ih (by omega);rw [show((m+1:Nat):Int)=(m:Int)+1 by omega,hs];omega
 have:=key k.toNat (by omega);rw [show((k.toNat:Nat):Int)=k by omega]at this;omega
set_option maxHeartbeats 2000000 in
theorem points_prog (w0:World)(vr vp vt:Value)(rs:List RuleL)(ps:List ByteArray)(ts:List StatL)(pl:ByteArray)(wk:Int)(hg:∀r∈rs,RuleGood r)(hl:rs.length≤100)(hc:∀t∈ts,-100000≤t.count∧t.count≤100000)(hrr:Row w0 0 7 vr rs.length (cellsOf encR rs))(htr:Row w0 0 2 vt ts.length (cellsOf encT ts))(hpr:Row w0 0 1 vp ps.length (cellsOf encSt ps)):
  Calls Tryz.prog 107 #[vr,vp,.agg #[.string pl,.int .i64 wk,vt]] w0 fun e w'=>e=.returned (.int .i64 (ptsV rs ps ts))∧Below w0.heap.size w0 w':=by
 obtain⟨_,hcs⟩:=hrr.els encR_length (by decide);obtain⟨p0,c0,hv0⟩:=hrr.shape;obtain⟨p1,c1,hv1⟩:=htr.shape;obtain⟨p2,c2,hv2⟩:=hpr.shape;have Hv1:=Lib.hid hv1;have Hv2:=Lib.hid hv2;clear hrr;subst hv0;subst hv1;subst hv2
 go_enter Tryz.func107,Tryz.ntmps107
 go_wp2_with fail
 have hbW:=(Below.refl w0.heap.size w0).alloc (Nat.le_refl _) (.cells #[.string pl,.int .i64 wk,.slice p1 ts.length c1] 116);have hL:=CellsAt.new w0 #[.string pl,.int .i64 wk,.slice p1 ts.length c1] 116;generalize (w0.alloc (.cells #[.string pl,.int .i64 wk,.slice p1 ts.length c1] 116))=W at *
 go_loopw [12,7] (fun i s wr=>∃k:Int,0≤k∧k≤rs.length∧i=.int .i64 k∧s=.int .i64 (ptsTo rs ps ts k)∧Below W.heap.size W wr) (fun i _ _=>rs.length-(intOf i).toNat)
 case atStart=>exact⟨0,by omega,by omega,rfl,rfl,Below.refl _ _⟩
 case round =>
  obtain⟨k,hk0,hk1,rfl,rfl,hb⟩:=hrel;have hpb:=ptsTo_le hg hl ps ts hc k hk0 hk1
  by_cases hlt:k<rs.length
  ·rcases hcs with ⟨_,h0⟩|⟨b,off,cap,hv,_,hbs,hnc,hcm,hcell⟩
   ·omega
   simp only [Value.slice.injEq]at hv;obtain⟨rfl,_,rfl⟩:=hv;have hall:=hbW.trans (hb.mono hbW.size);have tr:∀j u,(encR (geta rs k))[j]?=some u→wr.cell? ⟨b,off+k.toNat*7+j,none⟩=some u:=fun j u h=>(hall.cell (p:=⟨b,off+k.toNat*7+j,none⟩) hbs).trans (hcell k hk0 hlt j u h)
   have t0:=tr 0 _ rfl;have t1:=tr 1 _ rfl;have t2:=tr 2 _ rfl;have t3:=tr 3 _ rfl;have t4:=tr 4 _ rfl;have t5:=tr 5 _ rfl;have t6:=tr 6 _ rfl;rw [Nat.add_zero]at t0;have hgr:=hg _ (geta_mem hk0 hlt);have Hs:=Lib.hid (ptsTo_succ rs ps ts k hk0 hlt);have hgb:=gives_le hgr ps ts hc;have hbn:=hb.alloc hb.size (.cells (encR (geta rs k)).toArray 110);have hC:=CellsAt.new wr (encR (geta rs k)).toArray 110;have hln:=hL.below hbn;have hall2:=hall.trans ((Below.refl wr.heap.size wr).alloc (Nat.le_refl _) (.cells (encR (geta rs k)).toArray 110) |>.mono hall.size);have HT:=Lib.hid (htr.below hall2);have HP:=Lib.hid (hpr.below hall2);have HG:=fun w h1 h2=>gives_prog w (geta rs k) pl wk (.slice p1 ts.length c1) (.slice p2 ps.length c2) ts ps hgr hc h1 h2
   have HG:=Lib.hid HG;clear tr hcell hL hgr hall;generalize geta rs k=R at *;unfold encR at hC hbn hln hall2 HT HP
   go_upto_region 5 with fail
   change Below W.heap.size W (wr.alloc (.cells #[.string R.key,.string R.stat,.string R.pos,.int .i64 R.kind,.int .i64 R.many,.int .i64 R.num,.int .i64 R.den] 110))at hbn
   change CellsAt (wr.alloc (.cells #[.string R.key,.string R.stat,.string R.pos,.int .i64 R.kind,.int .i64 R.many,.int .i64 R.num,.int .i64 R.den] 110)) _ _ at hC
   change CellsAt (wr.alloc (.cells #[.string R.key,.string R.stat,.string R.pos,.int .i64 R.kind,.int .i64 R.many,.int .i64 R.num,.int .i64 R.den] 110)) _ _ at hln
   change Below w0.heap.size w0 (wr.alloc (.cells #[.string R.key,.string R.stat,.string R.pos,.int .i64 R.kind,.int .i64 R.many,.int .i64 R.num,.int .i64 R.den] 110))at hall2
   change Hid (Row (wr.alloc (.cells #[.string R.key,.string R.stat,.string R.pos,.int .i64 R.kind,.int .i64 R.many,.int .i64 R.num,.int .i64 R.den] 110)) _ _ _ _ _)at HT
   change Hid (Row (wr.alloc (.cells #[.string R.key,.string R.stat,.string R.pos,.int .i64 R.kind,.int .i64 R.many,.int .i64 R.num,.int .i64 R.den] 110)) _ _ _ _ _)at HP
   generalize wr.alloc (.cells #[.string R.key,.string R.stat,.string R.pos,.int .i64 R.kind,.int .i64 R.many,.int .i64 R.num,.int .i64 R.den] 110)=W2 at *;have r0:=hC.2 0 _ rfl;have r1:=hC.2 1 _ rfl;have r2:=hC.2 2 _ rfl;have r3:=hC.2 3 _ rfl;have r4:=hC.2 4 _ rfl;have r5:=hC.2 5 _ rfl;have r6:=hC.2 6 _ rfl;have l0:=hln.2 0 _ rfl;have l1:=hln.2 1 _ rfl;have l2:=hln.2 2 _ rfl;clear hC hln t0 t1 t2 t3 t4 t5 t6 hall2;generalize wr.heap.size=g at *;go_wp2_with (go_at_call 117;refine(HG.out _ HT.out HP.out).mono ?_;rintro e w1 ⟨rfl,hb3⟩;replace hbn:=hbn.trans (hb3.mono hbn.size);clear hb3 r0 r1 r2 r3 r4 r5 r6 l0 l1 l2)
   go_roundw
   case rel=>exact⟨k+1,by omega,by omega,rfl,by rw [Hs.out],hbn⟩
   case measure=>simp [intOf];omega
  ·obtain rfl:k=rs.length:=by omega
   clear hcs hk0 hk1 hlt
   change -10000000000000≤ptsV rs ps ts∧ptsV rs ps ts≤10000000000000 at hpb
   go_wp2_with fail
   go_ret
   exact⟨rfl,hbW.trans (hb.mono hbW.size)⟩
end Go.Proofs.YtnmdpphddimfbaaGreat
/-
  What is wrong with rules, positions and lines. Conditions: strings and numbers are no greater than Go's.
-/
namespace Go.Bw
open Go.RowKit
structure LineL where
 player:ByteArray
 week:Int
 sv:Value
 stats:List StatL
instance:Inhabited LineL:=⟨⟨ByteArray.empty,0,.slice none 0 0,[]⟩⟩
def encL (x:LineL):List Value:=[.string x.player,.int .i64 x.week,x.sv]
theorem encL_length (x:LineL):(encL x).length=3:=rfl
/-- The lines' own rows. -/
def LinesAt (w:World)(l:List LineL):Prop:=∀x∈l,Row w 0 2 x.sv x.stats.length (cellsOf encT x.stats)
theorem LinesAt.below {w w':World}{l:List LineL}(h:LinesAt w l)(b:Below w.heap.size w w'):LinesAt w' l:=fun x hx=>(h x hx).below b
structure LineOk (x:LineL):Prop where
 player:x.player.size≤9223372036854775807
 stats:∀t∈x.stats,StatOk t
end Go.Bw
namespace Go.Proofs.YtnmdpphddimfbaaGreat
open Go.RowKit Go.Bw
def lineL (x:LineL):Int:=lineE x.player x.week x.stats
def linesE (l:List LineL):Int:=firstErr (fun i=>lineL (geta l i)) l.length
def askedE (rs:List RuleL)(ps:List ByteArray)(ls:List LineL):Int:=if rulesE rs≠0 then rulesE rs else if listE ps≠0 then listE ps else linesE ls
set_option maxHeartbeats 2000000 in
theorem asked_any (w0:World)(vr vp vl:Value)(rs:List RuleL)(ps:List ByteArray)(ls:List LineL)(hz:∀r∈rs,RuleOk r)(hzp:∀s∈ps,s.size≤9223372036854775807)(hzl:∀x∈ls,LineOk x)(hrr:Row w0 0 7 vr rs.length (cellsOf encR rs))(hpr:Row w0 0 1 vp ps.length (cellsOf encSt ps))(hlr:Row w0 0 3 vl ls.length (cellsOf encL ls))(hla:LinesAt w0 ls):
  Calls Tryz.prog 106 #[vr,vp,vl] w0 fun e w'=>e=.returned (.int .i64 (askedE rs ps ls))∧Below w0.heap.size w0 w':=by
 have hA:=Lib.hid (show askedE rs ps ls=if rulesE rs≠0 then rulesE rs else if listE ps≠0 then listE ps else linesE ls from rfl);have hLs:=Lib.hid (show listE ps=if 10<ps.length then 2 else risingE ps from rfl);have HR:=Lib.hid (rules_prog vr rs.length rs 0 w0 hrr hz);obtain⟨p2,c2,hv2⟩:=hpr.shape;obtain⟨p3,c3,hv3⟩:=hlr.shape;obtain⟨p1,c1,hv1⟩:=hrr.shape
 by_cases h1:rulesE rs=0
 ·rw [h1]at HR
  by_cases h10:10<ps.length
  ·have HE:=Lib.hid (show askedE rs ps ls=2 by rw [hA.out,h1,if_neg (by simp),hLs.out,if_pos h10,if_pos (by decide)]);subst hv1;subst hv2;subst hv3;clear h1
   go_enter Tryz.func106,Tryz.ntmps106
   go_wp2_with (go_at_call 115;refine HR.out.mono ?_;rintro e w1 ⟨rfl,hb⟩)
   go_ret
   exact⟨ret_int HE.out.symm,hb⟩
  ·have hd10:decide ((10:Int)<ps.length)=false:=by simp;omega
   have HP:=Lib.hid (fun w1 hb=>rising_prog vp ps.length ps 0 w1 (hpr.below (w':=w1) hb) hzp)
   by_cases h2:risingE ps=0
   ·rw [h2]at HP;have HE:=Lib.hid (show askedE rs ps ls=linesE ls by rw [hA.out,h1,if_neg (by simp),hLs.out,if_neg h10,h2,if_neg (by simp)]);obtain⟨_,hcs⟩:=hlr.els encL_length (by decide);subst hv1;subst hv2;subst hv3;clear h1 h2
    go_enter Tryz.func106,Tryz.ntmps106
    go_wp2_with first
     | (go_at_call 115;refine HR.out.mono ?_;rintro e w1 ⟨rfl,hb⟩)
     | (go_at_call 99;refine(HP.out _ hb).mono ?_;rintro e w2 ⟨rfl,hb2⟩;replace hb:=hb.trans (hb2.mono hb.size);clear hb2)
    go_loopw [27] (fun i wr=>∃k:Int,0≤k∧k≤ls.length∧NoErr (fun i=>lineL (geta ls i)) k∧i=.int .i64 k∧Below w0.heap.size w0 wr) (fun i _=>ls.length-(intOf i).toNat)
    case atStart=>exact⟨0,by omega,by omega,NoErr.zero _,rfl,hb⟩
    case round =>
     clear hb;obtain⟨k,hk0,hk1,hok,rfl,hb⟩:=hrel
     by_cases hlt:k<ls.length
     ·rcases hcs with ⟨_,h0⟩|⟨b,off,cap,hv,_,hbs,hnc,hcm,hcell⟩
      ·omega
      simp only [Value.slice.injEq]at hv;obtain⟨rfl,_,rfl⟩:=hv;have tr:∀j u,(encL (geta ls k))[j]?=some u→wr.cell? ⟨b,off+k.toNat*3+j,none⟩=some u:=fun j u h=>(hb.cell (p:=⟨b,off+k.toNat*3+j,none⟩) hbs).trans (hcell k hk0 hlt j u h)
      have t0:=tr 0 _ rfl;have t1:=tr 1 _ rfl;have t2:=tr 2 _ rfl;rw [Nat.add_zero]at t0;have hm:=geta_mem (l:=ls) hk0 hlt;have hx:=hzl _ hm;have hxr:=hla _ hm;have hbn:=hb.alloc hb.size (.cells (encL (geta ls k)).toArray 116);have HC:=Lib.hid (line_prog (geta ls k).player (geta ls k).week (geta ls k).sv (geta ls k).stats.length (geta ls k).stats 0 _ hx.player (hxr.below hbn) hx.stats);have hst:=Lib.hid (fun h=>hok.step (f:=fun i=>lineL (geta ls i)) (i:=k) h);have hHit:=Lib.hid (fun h=>firstErr_hit hok hk0 hlt h);have hLL:=Lib.hid (show lineE (geta ls k).player (geta ls k).week (geta ls k).stats=lineL (geta ls k)from rfl);obtain⟨p4,c4,hv4⟩:=hxr.shape;have q0:=cells_new wr (encL (geta ls k)).toArray 116 0 _ rfl;have q1:=cells_new wr (encL (geta ls k)).toArray 116 1 _ rfl;have q2:=cells_new wr (encL (geta ls k)).toArray 116 2 _ rfl;rw [hLL.out]at HC;clear tr hcell hx hxr hm hok;unfold encL at hbn HC q0 q1 q2;rw [hv4]at t2 hbn HC q0 q1 q2;clear hv4;generalize (geta ls k).player=s1 at *;generalize (geta ls k).week=n1 at *;generalize (geta ls k).stats.length=n2 at *;generalize hlv:lineL (geta ls k)=lv at *;have HLV:=Lib.hid hlv;clear hlv hLL
      go_upto_region 12 with fail
      change Below w0.heap.size w0 (wr.alloc (.cells #[.string s1,.int .i64 n1,.slice p4 n2 c4] 116))at hbn
      change Hid (Calls _ _ _ (wr.alloc (.cells #[.string s1,.int .i64 n1,.slice p4 n2 c4] 116)) _)at HC
      change (wr.alloc (.cells #[.string s1,.int .i64 n1,.slice p4 n2 c4] 116)).cell? _=_ at q0
      change (wr.alloc (.cells #[.string s1,.int .i64 n1,.slice p4 n2 c4] 116)).cell? _=_ at q1
      change (wr.alloc (.cells #[.string s1,.int .i64 n1,.slice p4 n2 c4] 116)).cell? _=_ at q2
      generalize wr.alloc (.cells #[.string s1,.int .i64 n1,.slice p4 n2 c4] 116)=W2 at *;generalize wr.heap.size=g at *;clear t0 t1 t2
      by_cases hlv0:lv=0
      ·subst hlv0;go_wp2_with (go_at_call 116;refine HC.out.mono ?_;rintro e w3 ⟨rfl,hb3⟩;replace hbn:=hbn.trans (hb3.mono hbn.size);clear hb3)
       go_roundw
       case rel=>exact⟨k+1,by omega,by omega,by first|exact hst.out trivial|exact hst.out rfl|exact hst.out HLV.out,rfl,hbn⟩
       case measure=>simp [intOf];omega
      ·have hnb:(lv != 0)=true:=by simp [hlv0]
       have HF:=Lib.hid (show linesE ls=lv by unfold linesE;first|exact hHit.out hlv0|exact(hHit.out hlv0).trans HLV.out);clear hlv0;go_wp2_with (go_at_call 116;refine HC.out.mono ?_;rintro e w3 ⟨rfl,hb3⟩;replace hbn:=hbn.trans (hb3.mono hbn.size);clear hb3)
       go_ret
       exact⟨ret_int (by rw [HE.out,HF.out]),hbn⟩
     ·have hf:=Lib.hid (show linesE ls=0 from firstErr_none (fun j h0 h1=>hok j h0 (by omega)));clear hcs hok;go_wp2_with fail
      go_ret
      exact⟨ret_int (by rw [HE.out,hf.out]),hb⟩
   ·have hnb:(risingE ps != 0)=true:=by simp [h2]
    have HE:=Lib.hid (show askedE rs ps ls=risingE ps by rw [hA.out,h1,if_neg (by simp),hLs.out,if_neg h10,if_pos h2]);subst hv1;subst hv2;subst hv3;clear h1 h2;generalize risingE ps=e1 at *
    go_enter Tryz.func106,Tryz.ntmps106
    go_wp2_with first
     | (go_at_call 115;refine HR.out.mono ?_;rintro e w1 ⟨rfl,hb⟩)
     | (go_at_call 99;refine(HP.out _ hb).mono ?_;rintro e w2 ⟨rfl,hb2⟩;replace hb:=hb.trans (hb2.mono hb.size);clear hb2)
    go_ret
    exact⟨ret_int HE.out.symm,hb⟩
 ·have hnb:(rulesE rs != 0)=true:=by simp [h1]
  have HE:=Lib.hid (show askedE rs ps ls=rulesE rs by rw [hA.out,if_pos h1]);subst hv1;subst hv2;subst hv3;clear h1;generalize rulesE rs=e1 at *
  go_enter Tryz.func106,Tryz.ntmps106
  go_wp2_with (go_at_call 115;refine HR.out.mono ?_;rintro e w1 ⟨rfl,hb⟩)
  go_ret
  exact⟨ret_int HE.out.symm,hb⟩
end Go.Proofs.YtnmdpphddimfbaaGreat
/-
  The sum of some weeks: plain lemmas. No condition.
-/
namespace Go.Proofs.YtnmdpphddimfbaaGreat
open Go.RowKit Go.Bw
def ordAt (ls:List LineL)(i:Int):Int:=if 0<i∧(geta ls i).week≤(geta ls (i-1)).week then 7 else 0
def orderE (ls:List LineL):Int:=firstErr (ordAt ls) ls.length
def windowB (f t:Int):Bool:=outB f 1 t || decide (61<t)
def inW (f t:Int)(x:LineL):Bool:=decide (f≤x.week)&&decide (x.week<t)
def weekV (rs:List RuleL)(ps:List ByteArray)(f t:Int)(x:LineL):Int:=if inW f t x=true then ptsV rs ps x.stats else 0
def totTo (rs:List RuleL)(ps:List ByteArray)(f t:Int)(ls:List LineL)(k:Int):Int:=((ls.take k.toNat).map fun x=>weekV rs ps f t x).sum
def totV (rs:List RuleL)(ps:List ByteArray)(f t:Int)(ls:List LineL):Int:=totTo rs ps f t ls ls.length
def Counts (x:LineL):Prop:=∀t∈x.stats,-100000≤t.count∧t.count≤100000
/-- A line that is right counts within bounds. -/
theorem line_counts {x:LineL}(h:lineL x=0):Counts x:=by
 intro t ht;obtain⟨i,hi,rfl⟩:=List.getElem_of_mem ht;unfold lineL lineE at h
 split at h
 ·cases h
 split at h
 ·cases h
 split at h
 ·cases h
 have hat:=firstErr_zero h i (by omega) (by omega);have hg:geta x.stats i=x.stats[i]:=geta_eq x.stats i (by omega) (by omega);unfold statAt at hat;rw [hg]at hat
 split at hat
 ·cases hat
 split at hat
 ·cases hat
 ·rename_i h2
  exact out_no (by simpa using h2)
theorem lines_counts {ls:List LineL}(h:linesE ls=0):∀x∈ls,Counts x:=by
 intro x hx;obtain⟨i,hi,rfl⟩:=List.getElem_of_mem hx;have hat:=firstErr_zero h i (by omega) (by omega);have hg:geta ls i=ls[i]:=geta_eq ls i (by omega) (by omega);rw [hg]at hat;exact line_counts hat
theorem asked_ok {rs:List RuleL}{ps:List ByteArray}{ls:List LineL}(h:askedE rs ps ls=0):rulesE rs=0∧listE ps=0∧linesE ls=0:=by
 unfold askedE at h
 by_cases h1:rulesE rs=0
 ·rw [if_neg (by simp [h1])]at h
  by_cases h2:listE ps=0
  ·rw [if_neg (by simp [h2])]at h;exact⟨h1,h2,h⟩
  ·rw [if_pos h2]at h;exact absurd h h2
 ·rw [if_pos h1]at h;exact absurd h h1
theorem rules_len {rs:List RuleL}(h:rulesE rs=0):rs.length≤100:=by
 unfold rulesE at h
 split at h
 ·cases h
 ·omega
def totalE (rs:List RuleL)(ps:List ByteArray)(ls:List LineL)(f t:Int):Int:=if askedE rs ps ls≠0 then askedE rs ps ls else if orderE ls≠0 then orderE ls else if windowB f t=true then 1 else 0
end Go.Proofs.YtnmdpphddimfbaaGreat
/-
  The program's Points; the law's own look that the package scores. Conditions: strings and numbers are no greater than Go's.
-/
namespace Go.Proofs.YtnmdpphddimfbaaGreat
open Go.RowKit Go.Bw
def pubN (rs:List RuleL)(ps:List ByteArray)(x:LineL):Int:=if askedE rs ps [x]=0 then ofHn (ptsV rs ps x.stats)else 0
def pubD (rs:List RuleL)(ps:List ByteArray)(x:LineL):Int:=if askedE rs ps [x]=0 then ofHd (ptsV rs ps x.stats)else 0
/-- The call's own blocks: the line, the result. -/
structure Pw (w0 w:World)(x:LineL):Prop where
 line:CellsAt w w0.heap.size (encL x)
 res:CellsAt w (w0.heap.size+1) [.int .i64 0,.int .i64 0]
 fr0:w.frozen? ⟨w0.heap.size+1,0,none⟩=false
 fr1:w.frozen? ⟨w0.heap.size+1,1,none⟩=false
 bel:Below w0.heap.size w0 w
theorem Pw.below {w0 w w':World}{x:LineL}(h:Pw w0 w x)(b:Below w.heap.size w w'):Pw w0 w' x :=
 ⟨h.line.below b,h.res.below b,(b.frozen (p:=⟨w0.heap.size+1,0,none⟩) h.res.1).trans h.fr0,(b.frozen (p:=⟨w0.heap.size+1,1,none⟩) h.res.1).trans h.fr1,h.bel.trans (b.mono h.bel.size)⟩
theorem Pw.start (w0:World)(x:LineL):Pw w0 ((w0.alloc (.cells (encL x).toArray 116)).alloc (.cells #[.int .i64 0,.int .i64 0] 34)) x:=by
 have h0:=CellsAt.new w0 (encL x).toArray 116;have hb:=(Below.refl (w0.alloc (.cells (encL x).toArray 116)).heap.size (w0.alloc (.cells (encL x).toArray 116))).alloc (Nat.le_refl _) (.cells #[.int .i64 0,.int .i64 0] 34);have h1:=CellsAt.new (w0.alloc (.cells (encL x).toArray 116)) #[.int .i64 0,.int .i64 0] 34;have f0:=frozen_new0 (w0.alloc (.cells (encL x).toArray 116)) #[.int .i64 0,.int .i64 0] 34;have hs:(w0.alloc (.cells (encL x).toArray 116)).heap.size=w0.heap.size+1:=by simp
 rw [hs]at h1 f0;exact⟨h0.below hb,h1,f0 0,f0 1,((Below.refl _ _).alloc (Nat.le_refl _) _).alloc (by simp) _⟩
theorem Pw.put {w0 w:World}{l:LineL}(h:Pw w0 w l)(x y:Value):
  ((w.setCell ⟨w0.heap.size+1,0,none⟩ x).setCell ⟨w0.heap.size+1,1,none⟩ y).cell? ⟨w0.heap.size+1,0,none⟩=some x ∧
  ((w.setCell ⟨w0.heap.size+1,0,none⟩ x).setCell ⟨w0.heap.size+1,1,none⟩ y).cell? ⟨w0.heap.size+1,1,none⟩=some y ∧
  Below w0.heap.size w0 ((w.setCell ⟨w0.heap.size+1,0,none⟩ x).setCell ⟨w0.heap.size+1,1,none⟩ y):=by
 have k0:=h.res.2 0 _ rfl;have k1:=h.res.2 1 _ rfl;refine⟨?_,?_,(h.bel.setCell (by simp) _).setCell (by simp) _⟩
 ·rw [World.cell?_setCell_other _ _ _ _ (by simp)];exact World.cell?_setCell_same' _ _ _ (by rw [k0];rfl)
 ·exact World.cell?_setCell_same' _ _ _ (by rw [World.cell?_setCell_other _ _ _ _ (by simp),k1];rfl)
set_option maxHeartbeats 2000000 in
theorem pub_any (w0:World)(vr vp:Value)(rs:List RuleL)(ps:List ByteArray)(x:LineL)(hz:∀r∈rs,RuleOk r)(hzp:∀s∈ps,s.size≤9223372036854775807)(hx:LineOk x)(hrr:Row w0 0 7 vr rs.length (cellsOf encR rs))(hpr:Row w0 0 1 vp ps.length (cellsOf encSt ps))(hla:Row w0 0 2 x.sv x.stats.length (cellsOf encT x.stats)):
  Calls Tryz.prog 71 #[vr,vp,.agg #[.string x.player,.int .i64 x.week,x.sv]] w0 fun e w'=>e=.returned (.tuple #[.agg #[.int .i64 (pubN rs ps x),.int .i64 (pubD rs ps x)],.int .i64 (askedE rs ps [x])])∧Below w0.heap.size w0 w':=by
 obtain⟨pl,wk,sv,ts⟩:=x
 dsimp only at hla ⊢
 obtain⟨p1,c1,rfl⟩:=hla.shape;generalize hxx:(⟨pl,wk,.slice p1 ts.length c1,ts⟩:LineL)=x at *;have hsx:x.stats=ts∧x.sv=.slice p1 ts.length c1:=by subst hxx;exact⟨rfl,rfl⟩
 have hP:=Pw.start w0 x;have hnew:=(Below.refl ((w0.alloc (.cells (encL x).toArray 116)).alloc (.cells #[.int .i64 0,.int .i64 0] 34)).heap.size ((w0.alloc (.cells (encL x).toArray 116)).alloc (.cells #[.int .i64 0,.int .i64 0] 34))).alloc (Nat.le_refl _) (.cells (encL x).toArray 116);have hP2:=hP.below hnew;have hlr:Row (((w0.alloc (.cells (encL x).toArray 116)).alloc (.cells #[.int .i64 0,.int .i64 0] 34)).alloc (.cells (encL x).toArray 116)) 0 3 (.slice (some ⟨w0.heap.size+2,0,none⟩) 1 1) [x].length (cellsOf encL [x]):=by
  have h:=CellsAt.new ((w0.alloc (.cells (encL x).toArray 116)).alloc (.cells #[.int .i64 0,.int .i64 0] 34)) (encL x).toArray 116;rw [show((w0.alloc (.cells (encL x).toArray 116)).alloc (.cells #[.int .i64 0,.int .i64 0] 34)).heap.size=w0.heap.size+2 by simp]at h;exact⟨rfl,.inr ⟨_,0,1,rfl,Nat.zero_le _,h.1,Nat.le_refl _,by decide,fun i u hu=>by rw [Nat.zero_add];exact h.2 i u hu⟩⟩
 have hlq:LinesAt (((w0.alloc (.cells (encL x).toArray 116)).alloc (.cells #[.int .i64 0,.int .i64 0] 34)).alloc (.cells (encL x).toArray 116)) [x]:=fun y hy=>by
  rw [List.mem_singleton.1 hy,hsx.1,hsx.2];exact hla.below hP2.bel
 have HA:=Lib.hid (asked_any _ vr vp _ rs ps [x] hz hzp (fun y hy=>by rw [List.mem_singleton.1 hy];exact hx) (hrr.below hP2.bel) (hpr.below hP2.bel) hlr hlq);obtain⟨p0,c0,hv0⟩:=hrr.shape;obtain⟨p2,c2,hv2⟩:=hpr.shape;have HE:=Lib.hid (show ∀e,askedE rs ps [x]=e→e≠0→pubN rs ps x=0∧pubD rs ps x=0 from fun e h he=>⟨by unfold pubN;rw [h,if_neg he],by unfold pubD;rw [h,if_neg he]⟩);have HQ:=Lib.hid (show askedE rs ps [x]=0→pubN rs ps x=ofHn (ptsV rs ps ts)∧pubD rs ps x=ofHd (ptsV rs ps ts)from fun h=>by subst hxx;exact⟨by unfold pubN;rw [h,if_pos rfl],by unfold pubD;rw [h,if_pos rfl]⟩);have HG:=Lib.hid (show askedE rs ps [x]=0→(∀r∈rs,RuleGood r)∧rs.length≤100∧(∀t∈ts,-100000≤t.count∧t.count≤100000)from fun h=>by
  obtain⟨a1,a2,a3⟩:=asked_ok h;exact⟨rule_good hz a1,rules_len a1,by have hcx:=lines_counts a3 x (by simp);unfold Counts at hcx;rwa [hsx.1]at hcx⟩)
 have hC:encL x=[.string pl,.int .i64 wk,.slice p1 ts.length c1]:=by subst hxx;rfl
 rw [hC]at hP2 HA;have HC:=Lib.hid hC;clear hlr hlq hnew hP hz hzp hx hxx hC hsx;subst hv0;subst hv2
 go_enter Tryz.func71,Tryz.ntmps71
 go_wp2_with fail
 change Hid (Calls _ _ _ (((w0.alloc (.cells #[.string pl,.int .i64 wk,.slice p1 ts.length c1] 116)).alloc (.cells #[.int .i64 0,.int .i64 0] 34)).alloc (.cells #[.string pl,.int .i64 wk,.slice p1 ts.length c1] 116)) _)at HA
 change Pw w0 (((w0.alloc (.cells #[.string pl,.int .i64 wk,.slice p1 ts.length c1] 116)).alloc (.cells #[.int .i64 0,.int .i64 0] 34)).alloc (.cells #[.string pl,.int .i64 wk,.slice p1 ts.length c1] 116)) x at hP2
 generalize ((w0.alloc (.cells #[.string pl,.int .i64 wk,.slice p1 ts.length c1] 116)).alloc (.cells #[.int .i64 0,.int .i64 0] 34)).alloc (.cells #[.string pl,.int .i64 wk,.slice p1 ts.length c1] 116)=W at *;refine HA.out.mono ?_;rintro e w1 ⟨rfl,hb⟩;have hd:=hP2.below hb;clear hb HA hP2
 by_cases hA0:askedE rs ps [x]=0
 ·obtain⟨hg,hl,hcn⟩:=HG.out hA0;obtain⟨e1,e2⟩:=HQ.out hA0;have HN:=Lib.hid e1;have HD:=Lib.hid e2;have HA0:=Lib.hid hA0;rw [hA0];clear e1 e2 hA0 HE HQ HG;have l0:=hd.line.2 0 _ (by rw [HC.out];rfl);have l1:=hd.line.2 1 _ (by rw [HC.out];rfl);have l2:=hd.line.2 2 _ (by rw [HC.out];rfl);have hpb:=ptsTo_le hg hl ps ts hcn (rs.length:Int) (by omega) (by omega)
  change -10000000000000≤ptsV rs ps ts∧ptsV rs ps ts≤10000000000000 at hpb
  have HPt:=Lib.hid (points_prog w1 _ _ _ rs ps ts pl wk hg hl hcn (hrr.below hd.bel) (hla.below hd.bel) (hpr.below hd.bel));generalize ptsV rs ps ts=n at *;go_wp2_with fail
  refine HPt.out.mono ?_;rintro e w2 ⟨rfl,hb⟩
  replace hd:=hd.below hb
  clear hb l0 l1 l2 HPt;go_wp2_with fail
  refine(ofHundredths_prog n _ (by omega) (by omega)).mono ?_;rintro e w3 ⟨rfl,hb⟩
  replace hd:=hd.below hb
  clear hb;obtain⟨r0,r1,hB⟩:=hd.put (.int .i64 (ofHn n)) (.int .i64 (ofHd n));have k0:=hd.res.2 0 _ rfl;have k1:=hd.res.2 1 _ rfl;have kf:=hd.fr0;have kf1:=hd.fr1;clear hd;go_wp2_with fail
  exact bodyPost_ret (v:=.tuple #[.agg #[.int .i64 (ofHn n),.int .i64 (ofHd n)],.int .i64 0]) (by simp [results,Tryz.results71,go_sem,r0,r1]) rfl ⟨by rw [HN.out,HD.out,HA0.out],hB⟩
 ·obtain⟨e1,e2⟩:=HE.out _ rfl hA0;have HN:=Lib.hid e1;have HD:=Lib.hid e2;have hnb:(askedE rs ps [x] != 0)=true:=by simp [hA0]
  clear e1 e2 hA0 HE HQ HG;generalize hea:askedE rs ps [x]=ea at *;have Hea:=Lib.hid hea;clear hea;obtain⟨r0,r1,hB⟩:=hd.put (.int .i64 0) (.int .i64 0);have k0:=hd.res.2 0 _ rfl;have k1:=hd.res.2 1 _ rfl;have kf:=hd.fr0;have kf1:=hd.fr1;clear hd;go_wp2_with fail
  exact bodyPost_ret (v:=.tuple #[.agg #[.int .i64 0,.int .i64 0],.int .i64 ea]) (by simp [results,Tryz.results71,go_sem,r0,r1]) rfl ⟨by rw [HN.out,HD.out,Hea.out],hB⟩
def sRule:RuleL:=⟨⟨#[114]⟩,⟨#[103,111,97,108]⟩,⟨#[]⟩,1,0,1,2⟩
def sStat:StatL:=⟨⟨#[103,111,97,108]⟩,3⟩
def sLine (v:Value):LineL:=⟨⟨#[97]⟩,1,v,[sStat]⟩
theorem s_asked (v:Value):askedE [sRule] [] [sLine v]=0:=by
 have h:lineE ⟨#[97]⟩ 1 [sStat]=0:=by decide +kernel
 have h1:rulesE [sRule]=0:=by decide +kernel
 unfold askedE;rw [if_neg (by rw [h1];decide),if_neg (by decide +kernel)];unfold linesE;exact firstErr_none (fun j h0 h1=>by
  obtain rfl:j=0:=by simp at h1;omega
  exact h)
theorem s_pts:ptsV [sRule] [] [sStat]=150:=by decide +kernel
theorem s_hn:ofHn 150=3:=by decide +kernel
theorem s_hd:ofHd 150=2:=by decide +kernel
set_option maxHeartbeats 2000000 in
theorem scored_any (w:World):Calls Tryz.prog 27 #[] w fun e w'=>e=.returned (.bool true)∧Below w.heap.size w w':=by
 go_enter Tryz.func27,Tryz.ntmps27
 go_wp2_with fail
 have hb1:=(Below.refl w.heap.size w).alloc (Nat.le_refl _) (.cells (encR sRule).toArray 110);have hb2:=(Below.refl (w.alloc (.cells (encR sRule).toArray 110)).heap.size (w.alloc (.cells (encR sRule).toArray 110))).alloc (Nat.le_refl _) (.cells (encT sStat).toArray 113);have hR:=(CellsAt.new w (encR sRule).toArray 110).below hb2;have hT:=CellsAt.new (w.alloc (.cells (encR sRule).toArray 110)) (encT sStat).toArray 113;have hsz:(w.alloc (.cells (encR sRule).toArray 110)).heap.size=w.heap.size+1:=by simp
 rw [hsz]at hT;have hall:=hb1.trans (hb2.mono hb1.size);have hc:=pub_any _ (.slice (some ⟨w.heap.size,0,none⟩) 1 1) (.slice none 0 0) [sRule] [] (sLine (.slice (some ⟨w.heap.size+1,0,none⟩) 1 1)) (by
   intro r hr;rw [List.mem_singleton.1 hr];exact⟨by decide,by decide,by decide,by decide,by decide,by decide,by decide⟩) (by simp) ⟨by show(⟨#[97]⟩:ByteArray).size≤_;decide,by
   intro t ht;rw [List.mem_singleton.1 ht];show(⟨#[103,111,97,108]⟩:ByteArray).size≤_;decide⟩
  ⟨rfl,.inr ⟨_,0,1,rfl,Nat.zero_le _,hR.1,Nat.le_refl _,by decide,fun i u hu=>by rw [Nat.zero_add];exact hR.2 i u hu⟩⟩ ⟨rfl,.inl ⟨rfl,rfl⟩⟩
  ⟨rfl,.inr ⟨_,0,1,rfl,Nat.zero_le _,hT.1,Nat.le_refl _,by decide,fun i u hu=>by rw [Nat.zero_add];exact hT.2 i u hu⟩⟩
 have e1:pubN [sRule] [] (sLine (.slice (some ⟨w.heap.size+1,0,none⟩) 1 1))=3:=by
  unfold pubN;rw [if_pos (s_asked _)];show ofHn (ptsV [sRule] [] [sStat])=3;rw [s_pts,s_hn]
 have e2:pubD [sRule] [] (sLine (.slice (some ⟨w.heap.size+1,0,none⟩) 1 1))=2:=by
  unfold pubD;rw [if_pos (s_asked _)];show ofHd (ptsV [sRule] [] [sStat])=2;rw [s_pts,s_hd]
 rw [e1,e2,s_asked]at hc;have HC:=Lib.hid hc;clear hc e1 e2 hR hT hb1 hb2 hsz;refine HC.out.mono ?_;rintro e w1 ⟨rfl,hb⟩
 replace hall:=hall.trans (hb.mono hall.size)
 clear hb HC;go_wp2_with fail
 go_ret
 exact⟨rfl,hall.alloc hall.size _⟩
end Go.Proofs.YtnmdpphddimfbaaGreat
/-
  An error, if something is so. No condition.
-/
namespace Go.Proofs.YtnmdpphddimfbaaGreat
open Go.RowKit Go.Bw
end Go.Proofs.YtnmdpphddimfbaaGreat
/-
  The law LineupsCounted: its walk from end to end. No condition.
-/
namespace Go.Proofs.YtnmdpphddimfbaaGreat
open Go.RowKit Go.Bw
theorem str_newC (w:World)(v:Value)(n:Nat)(zs:List Int)(e:TypeId)(h:SRow w v n zs w.heap.size):Str w.heap.size (w.alloc (.cells #[v,.int .i64 0] e)) 0:=by
 refine⟨v,n,zs,0,?_,?_,?_,by omega,by simp,h.swap (fun k hk=>(World.grownBy_alloc w _ none).block k hk (by simp)) (by simp)⟩
 ·rw [World.cell?_alloc_at _ _ _ _ rfl];rfl
 ·rw [World.cell?_alloc_at _ _ _ _ rfl];rfl
 ·exact frozen_new0 w #[v,.int .i64 0] e 1
theorem equal_strC (v1 v2:Value)(n:Nat)(l:List ByteArray)(b1 b2:Nat)(w:World)(h1:Row w b1 1 v1 n (cellsOf encSt l))(h2:Row w b2 1 v2 n (cellsOf encSt l)):
  Calls Tryz.prog 26 #[v1,v2] w fun e w'=>e=.returned (.bool true)∧Below w.heap.size w w':=by
 obtain⟨hl,hc⟩:=h1.els encSt_length (by decide);subst hl;obtain⟨_,hc2⟩:=h2.els encSt_length (by decide);obtain⟨p2,c2,hv2⟩:=h2.shape;rcases hc with ⟨rfl,h0⟩|⟨b,off,cap,rfl,_,hbs,hnc,hcm,hcell⟩
 ·subst hv2;rw [h0];refine(Tryz.slices_Equal_string_empty none p2 0 0 c2 w (by decide)).mono ?_;rintro e w' ⟨rfl,rfl⟩;exact⟨rfl,Below.refl _ _⟩
 ·rcases hc2 with ⟨rfl,h0⟩|⟨b',off',cap',rfl,_,hbs',hnc',hcm',hcell'⟩
  ·rw [h0];refine(Tryz.slices_Equal_string_empty _ none cap 0 0 w (by decide)).mono ?_;rintro e w' ⟨rfl,rfl⟩;exact⟨rfl,Below.refl _ _⟩
  ·refine(Tryz.slices_Equal_string b off l.length cap b' off' l.length cap' l l w (Nat.le_refl _) (Nat.le_refl _) (by omega) (by omega) (fun j hj=>?_) (fun j hj=>?_)).mono ?_
   ·have:=hcell (j:Int) (by omega) (by omega) 0 _ rfl;rw [geta_eq l j (by omega) (by omega)]at this
    simpa [List.getD,hj] using this
   ·have:=hcell' (j:Int) (by omega) (by omega) 0 _ rfl;rw [geta_eq l j (by omega) (by omega)]at this
    simpa [List.getD,hj] using this
   ·rintro e w' ⟨rfl,q,rfl⟩;exact⟨by simp,below_drewN (Below.refl _ _) q⟩
section
variable {B b:Nat}{w0 w:World}{v:Value}
include B b w0 w v
theorem SlO.H {S:List SlD}(h:SlO B b w0 v S w)(hn:S.length≤1000):SlH w v S :=
 ⟨(Row.of_owns h.o).mono (Nat.zero_le _),fun x hx=>⟨(h.i x hx).r.row,fun s hs=>Nat.le_trans ((h.i x hx).z s hs) (by decide),by have:=(h.i x hx).n;omega⟩,fun x hx=>Nat.le_trans (h.z x hx) (by decide),hn⟩
theorem ScO.H {L:List ScD}(h:ScO B b w0 v L w)(hn:L.length≤1000):ScH w v L :=
 ⟨(Row.of_owns h.o).mono (Nat.zero_le _),fun x hx=>⟨(h.i x hx).r.row,fun s hs=>Nat.le_trans ((h.i x hx).z s hs) (by decide),by have:=(h.i x hx).n;omega⟩,fun x hx=>Nat.le_trans (h.z x hx) (by decide),fun x hx=>⟨(h.m x hx).n.1,(h.m x hx).n.2,(h.m x hx).d.1,(h.m x hx).d.2⟩,hn⟩
theorem FlO.H {Fs:List FlD}(h:FlO B b w0 v Fs w)(hn:Fs.length≤1000):FlH w v Fs :=
 ⟨(Row.of_owns h.o).mono (Nat.zero_le _),fun x hx=>⟨Nat.le_trans (h.z x hx).1 (by decide),Nat.le_trans (h.z x hx).2 (by decide)⟩,hn⟩
end
/-- The data; the stream is left behind. -/
structure LK (n₀:Nat)(w0:World)(v4:Value)(S:List SlD)(v5:Value)(L:List ScD)(v6:Value)(Fs:List FlD)(A7:Nat)(cap:ByteArray)(w:World):Prop where
 bel:Below n₀ w0 w
 hz:n₀≤w.heap.size
 s:SlH w v4 S
 c:ScH w v5 L
 f:FlH w v6 Fs
 a7:w.cell? ⟨A7,0,none⟩=some (.string cap)
/-- What is small. -/
structure LN (S:List SlD)(L:List ScD)(Fs:List FlD)(cap:ByteArray):Prop where
 s:S.length≤4
 l:L.length≤6
 f:Fs.length≤4
 z:cap.size≤1000
/-- A fraction in a box. -/
structure Fx (w:World)(A:Nat)(p:Int×Int):Prop where
 c0:w.cell? ⟨A,0,none⟩=some (.int .i64 p.1)
 c1:w.cell? ⟨A,1,none⟩=some (.int .i64 p.2)
/-- And the program's answers. -/
structure LP (n₀:Nat)(w0:World)(v4:Value)(S:List SlD)(v5:Value)(L:List ScD)(v6:Value)(Fs:List FlD)(A7:Nat)(cap:ByteArray)(A8 A10:Nat)(v12:Value)(w:World):Prop where
 k:LK n₀ w0 v4 S v5 L v6 Fs A7 cap w
 f8:Fx w A8 (sumV S L Fs cap)
 f10:Fx w A10 (leftV S L Fs)
 r12:Row w 0 1 v12 (benV S L Fs).length (cellsOf encSt (benV S L Fs))
section
variable {n₀ A7 A8 A10 A:Nat}{w0 w w':World}{v4 v5 v6 v12:Value}{S:List SlD}{L:List ScD}{Fs:List FlD}{cap:ByteArray}{p:Int×Int}
theorem LK.below (h:LK n₀ w0 v4 S v5 L v6 Fs A7 cap w)(g:Below w.heap.size w w'):LK n₀ w0 v4 S v5 L v6 Fs A7 cap w' :=
 ⟨h.bel.trans (g.mono h.hz),Nat.le_trans h.hz g.size,h.s.below g,h.c.below g,h.f.below g,(g.cell (p:=⟨A7,0,none⟩) (World.block_lt_of_cell? w _ h.a7)).trans h.a7⟩
theorem Fx.below (h:Fx w A p)(g:Below w.heap.size w w'):Fx w' A p:=⟨(g.cell (World.block_lt_of_cell? w _ h.c0)).trans h.c0,(g.cell (World.block_lt_of_cell? w _ h.c1)).trans h.c1⟩
theorem LP.below (h:LP n₀ w0 v4 S v5 L v6 Fs A7 cap A8 A10 v12 w)(g:Below w.heap.size w w'):LP n₀ w0 v4 S v5 L v6 Fs A7 cap A8 A10 v12 w':=⟨h.k.below g,h.f8.below g,h.f10.below g,h.r12.below g⟩
theorem Fx.new (w:World)(a b:Int)(e:TypeId):Fx (w.alloc (.cells #[.int .i64 a,.int .i64 b] e)) w.heap.size (a,b):=⟨cells_new w _ e 0 _ rfl,cells_new w _ e 1 _ rfl⟩
end
noncomputable def leM:Code:=(Tryz.f3.body).getD .skip
end Go.Proofs.YtnmdpphddimfbaaGreat
