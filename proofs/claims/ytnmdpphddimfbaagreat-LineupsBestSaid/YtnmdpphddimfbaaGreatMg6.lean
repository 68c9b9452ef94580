/-
  Contracts and lemmas towards the statement, of several parts; each part says ahead of it what it holds and under which conditions.
-/
import Derived.Test.YtnmdpphddimfbaaGreatMg5
import Derived.Test.YtnmdpphddimfbaaGreatMg2
import Derived.Maps.Own
import Derived.Test.YtnmdpphddimfbaaGreatMg4
import Derived.Test.YtnmdpphddimfbaaGreatMg1
set_option maxRecDepth 100000
set_option maxHeartbeats 1000000
set_option linter.unusedSectionVars false
/-
  Line-ups: some of the scorers, as the stream hands them out. Conditions: the bounds that each theorem names.
-/
set_option linter.unusedVariables false
namespace Go.Proofs.YtnmdpphddimfbaaGreat
open Go.RowKit Go.Bw
/-- Names that the stream handed out. -/
structure StO (B b:Nat)(w0:World)(v:Value)(ks:List ByteArray)(w:World):Prop where
 d:Drawn B w0 w b
 hB:B<w0.heap.size
 o:w.ownsRow w0.heap.size 9 1 v ks.length (cellsOf encSt ks)
 z:SmAll ks
section
variable {B b b':Nat}{w0 w w':World}{v v':Value}{ks:List ByteArray}
section
variable (h:StO B b w0 v ks w)
include h
theorem StO.drawn (d:Drawn B w w' b'):StO B b' w0 v ks w':=⟨h.d.trans d,h.hB,owns_drawn h.o d h.hB,h.z⟩
theorem StO.mono (hb:b≤b'):StO B b' w0 v ks w:=⟨h.d.mono hb,h.hB,h.o,h.z⟩
theorem StO.alloc (ob:Obj):StO B b w0 v ks (w.alloc ob):=h.drawn ((Drawn.refl h.d.str).alloc ob)
theorem StO.app {s:ByteArray}(hs:Sm s)(ho:w'.ownsRow w0.heap.size 9 1 v' (ks.length+1) (cellsOf encSt ks++[.string s]))(g:w.grownBy w' v.ownBlock):StO B b w0 v' (ks++[s]) w' :=
 ⟨h.d.app h.o (Nat.le_refl _) h.hB g,h.hB,by rw [cellsOf_snoc,List.length_append];exact ho,h.z.snoc hs⟩
end
theorem StO.nil (h:Drawn B w0 w b)(hB:B<w0.heap.size):StO B b w0 (.slice none 0 0) [] w:=⟨h,hB,World.ownsRow_nil _ _ _ _,.nil⟩
end
theorem smC {s:ByteArray}(h:s∈[(⟨#[97,110,110]⟩:ByteArray),⟨#[122,101,100]⟩]):Sm s:=by
 simp at h;rcases h with rfl|rfl <;> decide
theorem map_at {l:List Int}{k:Int}(h:k.toNat<l.length):(l.map (Value.int .i64))[k.toNat]?=some (.int .i64 (geti l k)):=by
 rw [List.getElem?_map,List.getElem?_eq_getElem h];unfold geti;rw [List.getElem?_eq_getElem h];rfl
noncomputable def soM:Code:=(Tryz.f28.body).getD .skip
theorem fr_soM (f:Nat→Value):frame 37 f=⟨#[f 0,f 1,f 2,f 3,f 4,f 5,f 6,f 7,f 8,f 9,f 10,f 11,f 12,f 13,f 14,f 15,f 16,f 17,f 18,f 19,f 20,f 21,f 22,f 23,f 24,f 25,f 26,f 27,f 28,f 29,f 30,f 31,f 32,f 33,f 34,f 35,f 36],[]⟩:=by rfl
section
variable (B b bx:Nat)(w0 w1:World)(g c:Nat)(pL:Option Addr)(L:List ScD)(hL:ScO B bx w1 (.slice pL L.length c) L w0)(hm:L.length≤1000)(hb:b≤40000)
include g hL hm hb
theorem so0:T3 Tryz.prog (fun a w=>(Str B w b∧IsW w0 w)∧Fr 37 [(0,.pointer (some ⟨B,0,none⟩)),(1,.slice pL L.length c)] a) (sel [0] soM) (fun a w=>(Str B w b∧IsW w0 w)∧Fr 37 [(0,.pointer (some ⟨B,0,none⟩)),(1,.slice pL L.length c)] a) No 9 No:=by
 refine T3.leaf ?_;rintro Q JS JX JT K hS hK hX hE hT hR a w ⟨hW,⟨fr,rfl,q0,q1,_⟩⟩;rw [fr_soM,fe q0,fe q1];clear q0 q1;conv=>arg 2;whnf
 go_wp2_with fail
 refine Met.intro (hS _ _ ?_);exact⟨hW,Fr.r rfl rfl⟩
theorem so1:T3 Tryz.prog (fun a w=>(Str B w b∧IsW w0 w)∧Fr 37 [(0,.pointer (some ⟨B,0,none⟩)),(1,.slice pL L.length c)] a) (sel [1,0] soM) (fun a w=>(Str B w b∧IsW w0 w)∧Fr 37 [(0,.pointer (some ⟨B,0,none⟩)),(1,.slice pL L.length c),(5,.slice none 0 0)] a) No 9 No:=by
 refine T3.leaf ?_;rintro Q JS JX JT K hS hK hX hE hT hR a w ⟨hW,⟨fr,rfl,q0,q1,_⟩⟩;rw [fr_soM,fe q0,fe q1];clear q0 q1;conv=>arg 2;whnf
 go_wp2_with fail
 refine Met.intro (hS _ _ ?_);exact⟨hW,Fr.r rfl rfl⟩
theorem so2:T3 Tryz.prog (fun a w=>(Str B w b∧IsW w0 w)∧Fr 37 [(0,.pointer (some ⟨B,0,none⟩)),(1,.slice pL L.length c),(5,.slice none 0 0)] a) (sel [1,1,0,0] soM) (fun a w=>∃(l:List Int) (v11:Value),(CntI L.length l.length∧InN L.length l)∧((0≤(0:Int)∧(0:Int)≤l.length)∧∃(v5:Value) (ks:List ByteArray),(LeI 0 ks.length)∧(StO B (b+L.length+(0:Int).toNat) w0 v5 ks w∧RHd 3 B w.heap.size w l.length v11 (l.map (.int .i64)))∧Fr 37 [(0,.pointer (some ⟨B,0,none⟩)),(1,.slice pL L.length c),(5,v5),(11,v11),(12,.int .i64 l.length),(13,.int .i64 0)] a)) No 9 No:=by
 refine T3.leaf ?_;rintro Q JS JX JT K hS hK hX hE hT hR a w ⟨⟨hS_,hW⟩,⟨fr,rfl,q0,q1,q5,_⟩⟩;obtain rfl:w=w0:=hW;have hlt:=hS_.lt;have HS:=Lib.hid hS_;rw [fr_soM,fe q0,fe q1,fe q5];clear q0 q1 q5;conv=>arg 2;whnf
 go_wp2_with fail
 refine(order_any B b w L.length HS.out hm (by omega)).mono ?_;rintro e w2 ⟨v11,l,rfl,⟨hc,hi⟩,hO⟩;have HF:=Lib.hid (show StO B (b+L.length+(0:Int).toNat) w (.slice none 0 0) [] w2∧RHd 3 B w2.heap.size w2 l.length v11 (l.map (.int .i64))from⟨StO.nil hO.d hlt,RHd.of_owns hO.o hlt⟩);obtain⟨p11,c11,rfl⟩:=(Row.of_owns hO.o).shape;clear hO;go_wp2_with fail
 refine Met.intro (hS _ _ ?_);exact⟨l,_,⟨hc,hi⟩,⟨by omega,by omega⟩,_,[],⟨by simp⟩,HF.out,Fr.r rfl rfl⟩
end
section
variable (B b bx:Nat)(w0 w1:World)(g c:Nat)(pL:Option Addr)(L:List ScD)(hL:ScO B bx w1 (.slice pL L.length c) L w0)(hm:L.length≤1000)(hb:b≤40000)(l:List Int)(v11:Value)(hlc:CntI L.length l.length∧InN L.length l)
include g hL hm hb v11 hlc
section
variable (k:Int)
include k
theorem so4:T3 Tryz.prog (fun a w=>∃(v5:Value) (ks:List ByteArray),((0≤k∧k<l.length)∧LeI k ks.length)∧(StO B (b+L.length+(k:Int).toNat) w0 v5 ks w∧RHd 3 B w.heap.size w l.length v11 (l.map (.int .i64)))∧Fr 37 [(0,.pointer (some ⟨B,0,none⟩)),(1,.slice pL L.length c),(5,v5),(11,v11),(12,.int .i64 l.length),(13,.int .i64 k)] a) (sel [1,1,0,1,4,4,1,1,0,4,0] soM) (fun a w=>∃(v5:Value) (ks:List ByteArray),((0≤k∧k<l.length)∧LeI k ks.length)∧(StO B (b+L.length+(k:Int).toNat) w0 v5 ks w∧RHd 3 B w.heap.size w l.length v11 (l.map (.int .i64)))∧Fr 37 [(0,.pointer (some ⟨B,0,none⟩)),(1,.slice pL L.length c),(5,v5),(7,.int .i64 (geti l k)),(11,v11),(12,.int .i64 l.length),(13,.int .i64 k)] a) No 9 No:=by
 refine T3.leaf ?_;rintro Q JS JX JT K hS hK hX hE hT hR a w ⟨v5,ks,hpre,hW,⟨fr,rfl,q0,q1,q5,q11,q12,q13,_⟩⟩;have hpp:=Lib.hid hpre;obtain⟨⟨hk0,hk1⟩,hl⟩:=hpre;have HW:=Lib.hid hW;have hrow:=hW.2.row.2;obtain⟨p5,c5,rfl⟩:=(Row.of_owns hW.1.o).shape;clear hW hl;rcases hrow with ⟨h9,h0⟩|⟨bz,off,cap,hv,_,hbz,hnc,hcm,hcell⟩
 ·omega
 subst hv;have t0:=hcell k.toNat _ (map_at (by omega));clear hcell;generalize geti l k=x at *;rw [fr_soM,fe q0,fe q1,fe q5,fe q11,fe q12,fe q13];clear q0 q1 q5 q11 q12 q13;conv=>arg 2;whnf
 go_wp2_with fail
 refine Met.intro (hS _ _ ?_);exact⟨_,ks,hpp.out,HW.out,Fr.r rfl rfl⟩
theorem so5 (v5:Value)(ks:List ByteArray):T3 Tryz.prog (fun a w=>((0≤k∧k<l.length)∧LeI k ks.length)∧(StO B (b+L.length+(k:Int).toNat) w0 v5 ks w∧RHd 3 B w.heap.size w l.length v11 (l.map (.int .i64)))∧Fr 37 [(0,.pointer (some ⟨B,0,none⟩)),(1,.slice pL L.length c),(5,v5),(7,.int .i64 (geti l k)),(11,v11),(12,.int .i64 l.length),(13,.int .i64 k)] a) (sel [1,1,0,1,4,4,1,1,0,4,1,0] soM) (fun a w=>∃q,Fr 37 ((18,.bool q)::[(0,.pointer (some ⟨B,0,none⟩)),(1,.slice pL L.length c),(5,v5),(7,.int .i64 (geti l k)),(11,v11),(12,.int .i64 l.length),(13,.int .i64 k)]) a∧(((0≤k∧k<l.length)∧LeI k ks.length)∧(StO B (b+L.length+k.toNat+1) w0 v5 ks w∧RHd 3 B w.heap.size w l.length v11 (l.map (.int .i64))))) No 9 No:=by
 refine T3.leaf ?_;rintro Q JS JX JT K hS hK hX hE hT hR a w ⟨hpre,hW,⟨fr,rfl,q0,q1,q5,q7,q11,q12,q13,_⟩⟩;have hpp:=Lib.hid hpre;have hk1:=hpre.1;have hlc1:=hlc.1.h;clear hpre;obtain⟨p5,c5,rfl⟩:=(Row.of_owns hW.1.o).shape;obtain⟨p11,c11,rfl⟩:=hW.2.row.shape;have hbb:b+L.length+k.toNat≤50000:=by omega
 clear hlc1;rw [fr_soM,fe q0,fe q1,fe q5,fe q7,fe q11,fe q12,fe q13];clear q0 q1 q5 q7 q11 q12 q13;conv=>arg 2;whnf
 go_wp2_with fail
 refine(flip_d B (b+L.length+k.toNat) _ w hW.1.d.str rfl (by omega)).mono ?_;rintro e w2 ⟨q,rfl,hd⟩;have HW:=Lib.hid (And.intro (hW.1.drawn hd) ((hW.2.str hd.gr).mono hd.size));clear hd hW;go_wp2_with fail
 refine Met.intro (hS _ _ ?_);exact⟨_,Fr.r rfl rfl,hpp.out,HW.out⟩
theorem so6 (v5:Value)(ks:List ByteArray):T3 Tryz.prog (fun a w=>((0≤k∧k<l.length)∧LeI k ks.length)∧(StO B (b+L.length+k.toNat+1) w0 v5 ks w∧RHd 3 B w.heap.size w l.length v11 (l.map (.int .i64)))∧Fr 37 [(0,.pointer (some ⟨B,0,none⟩)),(1,.slice pL L.length c),(5,v5),(7,.int .i64 (geti l k)),(11,v11),(12,.int .i64 l.length),(13,.int .i64 k)] a) (sel [1,1,0,1,4,4,1,1,0,4,1,1,2] soM) (fun a w=>∃(v5:Value) (ks:List ByteArray),((0≤k∧k<l.length)∧LeI (k+1) ks.length)∧(StO B (b+L.length+((k+1):Int).toNat) w0 v5 ks w∧RHd 3 B w.heap.size w l.length v11 (l.map (.int .i64)))∧Fr 37 [(0,.pointer (some ⟨B,0,none⟩)),(1,.slice pL L.length c),(5,v5),(11,v11),(12,.int .i64 l.length),(13,.int .i64 k)] a) No 9 No:=by
 refine T3.leaf ?_;rintro Q JS JX JT K hS hK hX hE hT hR a w ⟨hpre,hW,⟨fr,rfl,q0,q1,q5,q7,q11,q12,q13,_⟩⟩;have hpp:=Lib.hid hpre;obtain⟨⟨hk0,hk1⟩,hl⟩:=hpre;have hlc1:=hlc.1.h;have hl4:ks.length≤1000:=by have:=hl.h;omega
 clear hl;have hE:=el_str;obtain⟨hj0,hj1⟩:=geti_in hlc.2 hk0 hk1;have hLw:=hL.drawn hW.1.d;obtain⟨g',c',hv,_,_,hn3,hm3⟩:=owns_shape hLw.o (by omega);simp only [Value.slice.injEq]at hv;obtain⟨rfl,_,rfl⟩:=hv;obtain⟨bz,off,hp,_,_,hcell⟩:=Row.nonnil ((Row.of_owns hLw.o).mono (Nat.zero_le _)) (by omega);simp only [Option.some.injEq,Addr.mk.injEq]at hp;obtain⟨rfl,rfl,_⟩:=hp;have t0:=Row.elAt encSc_length hcell hj0 (by omega) 0 _ (by decide) rfl;rw [Nat.zero_add,Nat.add_zero]at t0;have hz:=hLw.z _ (geta_mem hj0 (by omega));have hW1:=hW.1;have hW2:=hW.2;obtain⟨p5,c5,rfl⟩:=(Row.of_owns hW.1.o).shape;obtain⟨p11,c11,rfl⟩:=hW.2.row.shape;clear hW hcell hLw hL hlc hlc1;generalize (geta L (geti l k)).pl=s at *;generalize geti l k=j at *;simp only [maxLen]at hm3;rw [fr_soM,fe q0,fe q1,fe q5,fe q7,fe q11,fe q12,fe q13];clear q0 q1 q5 q7 q11 q12 q13;conv=>arg 2;whnf
 go_wp2_with (at_builtin;refine app_law rfl _ _ _ rfl hE (hW1.o.alloc _) rfl [.string s] rfl rfl (cells_new w #[_] _) (by simp [Value.oneCell']) (by omega) (by simp;have:=hW1.d.size;omega) ?_;intro v' w2 hown2 hgr2)
 have h2:=(hW1.alloc _).app hz hown2 hgr2;have hH2:=((hW2.alloc (.cells #[.string s] 9)).other (hW1.alloc (.cells #[.string s] 9)).o (by decide) hgr2).mono (show w.heap.size≤w2.heap.size by have:=hgr2.size;simp at this;omega);refine Met.intro (hS _ _ ?_);exact⟨_,_,⟨hpp.out.1,⟨by have:=hpp.out.2.h;simp;omega⟩⟩,⟨h2.mono (by omega),hH2⟩,Fr.r rfl rfl⟩
theorem sob:T3 Tryz.prog (fun a w=>∃(v5:Value) (ks:List ByteArray),((0≤k∧k<l.length)∧LeI k ks.length)∧(StO B (b+L.length+(k:Int).toNat) w0 v5 ks w∧RHd 3 B w.heap.size w l.length v11 (l.map (.int .i64)))∧Fr 37 [(0,.pointer (some ⟨B,0,none⟩)),(1,.slice pL L.length c),(5,v5),(11,v11),(12,.int .i64 l.length),(13,.int .i64 k)] a) (sel [1,1,0,1,4,4,1,1,0] soM) (fun a w=>∃(v5:Value) (ks:List ByteArray),((0≤k∧k<l.length)∧LeI (k+1) ks.length)∧(StO B (b+L.length+((k+1):Int).toNat) w0 v5 ks w∧RHd 3 B w.heap.size w l.length v11 (l.map (.int .i64)))∧Fr 37 [(0,.pointer (some ⟨B,0,none⟩)),(1,.slice pL L.length c),(5,v5),(11,v11),(12,.int .i64 l.length),(13,.int .i64 k)] a) No 9 No:=by
 refine T3.block (id':=1) (c:=(sel [1,1,0,1,4,4,1,1,0,4] soM)) (by decide) (T3.seq (s:=(sel [1,1,0,1,4,4,1,1,0,4,0] soM)) (c:=(sel [1,1,0,1,4,4,1,1,0,4,1] soM)) (so4 B b bx w0 w1 g c pL L hL hm hb l v11 hlc k) (T3.ex fun v5=>T3.ex fun ks=>?_));refine T3.tt rfl (C:=fun _=>(0≤k∧k<l.length)∧LeI k ks.length) (W:=fun w=>StO B (b+L.length+k.toNat+1) w0 v5 ks w∧RHd 3 B w.heap.size w l.length v11 (l.map (.int .i64))) (by decide) (so5 B b bx w0 w1 g c pL L hL hm hb l v11 hlc k v5 ks) ?_ (T3.skip ?_)
 ·exact T3.pre (so6 B b bx w0 w1 g c pL L hL hm hb l v11 hlc k v5 ks) (fun a w q=>⟨q.2.1,q.2.2,q.1.tail⟩)
 ·rintro a w ⟨hp,hW,hF⟩;exact⟨v5,ks,⟨hp.1,⟨by have:=hp.2.h;omega⟩⟩,⟨hW.1.mono (by omega),hW.2⟩,hF.sub (by simp)⟩
def soAI (B b bx:Nat)(w0 w1:World)(g c:Nat)(pL:Option Addr)(L:List ScD)(hL:ScO B bx w1 (.slice pL L.length c) L w0)(hm:L.length≤1000)(hb:b≤40000)(l:List Int)(v11:Value)(hlc:CntI L.length l.length∧InN L.length l)(k:Int)(a:Act)(w:World):Prop:=(0≤k∧k≤l.length)∧∃(v5:Value) (ks:List ByteArray),(LeI k ks.length)∧(StO B (b+L.length+(k:Int).toNat) w0 v5 ks w∧RHd 3 B w.heap.size w l.length v11 (l.map (.int .i64)))∧Fr 37 [(0,.pointer (some ⟨B,0,none⟩)),(1,.slice pL L.length c),(5,v5),(11,v11),(12,.int .i64 l.length),(13,.int .i64 k)] a
theorem soAt:T3 Tryz.prog (fun a w=>soAI B b bx w0 w1 g c pL L hL hm hb l v11 hlc k a w) (sel [1,1,0,1,4,4,0] soM) (fun a w=>∃q,Fr 37 ((14,.bool q)::[(13,.int .i64 k)]) a∧((q=true↔k<l.length)∧soAI B b bx w0 w1 g c pL L hL hm hb l v11 hlc k a w)) No 9 No:=by
 refine T3.leaf ?_;rintro Q JS JX JT K hS hK hX hE hT hR a w ⟨hk,v5,ks,hpre,hW,⟨fr,rfl,q0,q1,q5,q11,q12,q13,_⟩⟩;have hln:l.length≤1000:=by have:=hlc.1.h;omega
 rw [fr_soM,fe q0,fe q1,fe q5,fe q11,fe q12,fe q13];clear q0 q1 q5 q11 q12 q13;conv=>arg 2;whnf
 by_cases hlt:k<l.length
 ·go_wp2_with fail
  refine Met.intro (hS _ _ ?_);exact⟨true,Fr.r rfl rfl,⟨fun _=>hlt,fun _=>rfl⟩,hk,v5,ks,hpre,hW,Fr.r rfl rfl⟩
 ·have hpb:decide (k<(l.length:Int))=false:=by simp;omega
  go_wp2_with fail
  refine Met.intro (hS _ _ ?_);exact⟨false,Fr.r rfl rfl,⟨(fun h=>by cases h),fun h=>absurd h (by omega)⟩,hk,v5,ks,hpre,hW,Fr.r rfl rfl⟩
theorem soAn:T3 Tryz.prog (fun a w=>(0≤k∧k<l.length)∧∃(v5:Value) (ks:List ByteArray),(LeI (k+1) ks.length)∧(StO B (b+L.length+((k+1):Int).toNat) w0 v5 ks w∧RHd 3 B w.heap.size w l.length v11 (l.map (.int .i64)))∧Fr 37 [(0,.pointer (some ⟨B,0,none⟩)),(1,.slice pL L.length c),(5,v5),(11,v11),(12,.int .i64 l.length),(13,.int .i64 k)] a) (sel [1,1,0,1,4,4,1,1,1] soM) (fun a w=>soAI B b bx w0 w1 g c pL L hL hm hb l v11 hlc (k+1) a w) No 9 No:=by
 refine T3.leaf ?_;rintro Q JS JX JT K hS hK hX hE hT hR a w ⟨hk,v5,ks,hpre,hW,⟨fr,rfl,q0,q1,q5,q11,q12,q13,_⟩⟩;obtain⟨hk0,hk1⟩:=hk;have hln:l.length≤1000:=by have:=hlc.1.h;omega
 rw [fr_soM,fe q0,fe q1,fe q5,fe q11,fe q12,fe q13];clear q0 q1 q5 q11 q12 q13;conv=>arg 2;whnf
 go_wp2_with fail
 refine Met.intro (hS _ _ ?_);exact⟨⟨by omega,by omega⟩,v5,ks,hpre,hW,Fr.r rfl rfl⟩
end
theorem soAloop:T3 Tryz.prog (fun a w=>soAI B b bx w0 w1 g c pL L hL hm hb l v11 hlc 0 a w) (sel [1,1,0,1] soM) (fun a w=>∃(v5:Value) (ks:List ByteArray),(ks.length≤L.length)∧(StO B (b+2*L.length) w0 v5 ks w)∧Fr 37 [(0,.pointer (some ⟨B,0,none⟩)),(5,v5)] a) No 9 No :=
 T3.range (I:=soAI B b bx w0 w1 g c pL L hL hm hb l v11 hlc) rfl (by decide) (soAt B b bx w0 w1 g c pL L hL hm hb l v11 hlc) (soAn B b bx w0 w1 g c pL L hL hm hb l v11 hlc) (fun _ _ _ h=>h.1) (fun k hk=>T3.mono (sob B b bx w0 w1 g c pL L hL hm hb l v11 hlc k) (fun a w ⟨_,v5,ks,hp,hI⟩=>⟨v5,ks,⟨hk,hp⟩,hI⟩) (fun a w ⟨v5,ks,⟨hk,hp⟩,hI⟩=>⟨hk,v5,ks,hp,hI⟩) (fun _ _ q=>q) (fun _ _ q=>q)) (fun a w hI=>by
  obtain⟨hk,hI⟩:=hI;obtain⟨v5,ks,hl,hW,hF⟩:=hI;have hlc1:=hlc.1.h;exact⟨v5,ks,by have:=hl.h;omega,hW.1.mono (by omega),hF.sub (by simp)⟩)
end
section
variable (B b bx:Nat)(w0 w1:World)(g c:Nat)(pL:Option Addr)(L:List ScD)(hL:ScO B bx w1 (.slice pL L.length c) L w0)(hm:L.length≤1000)(hb:b≤40000)(v5:Value)(ks:List ByteArray)(hk:ks.length≤L.length)
include g hL hm hb v5 hk
theorem so8:T3 Tryz.prog (fun a w=>(StO B (b+2*L.length) w0 v5 ks w)∧Fr 37 [(0,.pointer (some ⟨B,0,none⟩)),(5,v5)] a) (sel [1,1,1,0,0] soM) (fun a w=>∃q,Fr 37 ((29,.bool q)::[(0,.pointer (some ⟨B,0,none⟩)),(5,v5)]) a∧(True∧StO B (b+2*L.length+1) w0 v5 ks w)) No 9 No:=by
 refine T3.leaf ?_;rintro Q JS JX JT K hS hK hX hE hT hR a w ⟨hW,⟨fr,rfl,q0,q5,_⟩⟩;obtain⟨p5,c5,rfl⟩:=(Row.of_owns hW.o).shape;rw [fr_soM,fe q0,fe q5];clear q0 q5;conv=>arg 2;whnf
 go_wp2_with fail
 refine(flip_d B (b+2*L.length) _ w hW.d.str rfl (by omega)).mono ?_;rintro e w2 ⟨q,rfl,hd⟩;have HW:=Lib.hid (hW.drawn hd);clear hd hW;go_wp2_with fail
 refine Met.intro (hS _ _ ?_);exact⟨_,Fr.r rfl rfl,trivial,HW.out⟩
theorem so9:T3 Tryz.prog (fun a w=>(StO B (b+2*L.length+1) w0 v5 ks w)∧Fr 37 [(0,.pointer (some ⟨B,0,none⟩)),(5,v5)] a) (sel [1,1,1,0,1,2] soM) (fun a w=>∃(v5:Value) (ks:List ByteArray),(ks.length≤L.length+1)∧(StO B (b+2*L.length+2) w0 v5 ks w)∧Fr 37 [(0,.pointer (some ⟨B,0,none⟩)),(5,v5)] a) No 9 No:=by
 refine T3.leaf ?_;rintro Q JS JX JT K hS hK hX hE hT hR a w ⟨hW,⟨fr,rfl,q0,q5,_⟩⟩;have hE:=el_str;obtain⟨p5,c5,rfl⟩:=(Row.of_owns hW.o).shape;rw [fr_soM,fe q0,fe q5];clear q0 q5;conv=>arg 2;whnf
 go_wp2_with fail
 refine(some_lit B (b+2*L.length+1) [⟨#[97,110,110]⟩,⟨#[122,101,100]⟩] 2 _ _ _ rfl rfl (by decide) (by decide) hW.d.str (by omega)).mono ?_;rintro e w2 ⟨s,rfl,hs,hd⟩;have hsz:=smC hs;have h1:=hW.drawn hd;clear hd hW hs;go_wp2_with (at_builtin;refine app_law rfl _ _ _ rfl hE (h1.o.alloc _) rfl [.string s] rfl rfl (cells_new w2 #[_] _) (by simp [Value.oneCell']) (by omega) (by simp;have:=h1.d.size;omega) ?_;intro v' w3 hown2 hgr2)
 have h2:=(h1.alloc _).app hsz hown2 hgr2;refine Met.intro (hS _ _ ?_);exact⟨_,_,by simp;omega,h2.mono (by omega),Fr.r rfl rfl⟩
end
theorem so10 (B b:Nat)(w0:World)(L:List ScD)(v5:Value)(ks:List ByteArray):T3 Tryz.prog (fun a w=>(StO B (b+2*L.length+2) w0 v5 ks w)∧Fr 37 [(0,.pointer (some ⟨B,0,none⟩)),(5,v5)] a) (sel [1,1,1,1,0] soM) (fun a w=>(StO B (b+2*L.length+2) w0 v5 ks w)∧Fr 37 [(4,v5)] a) No 9 No:=by
 refine T3.leaf ?_;rintro Q JS JX JT K hS hK hX hE hT hR a w ⟨hW,⟨fr,rfl,q0,q5,_⟩⟩;have HW:=Lib.hid hW;obtain⟨p5,c5,rfl⟩:=(Row.of_owns hW.o).shape;clear hW;rw [fr_soM,fe q0,fe q5];clear q0 q5;conv=>arg 2;whnf
 go_wp2_with fail
 refine Met.intro (hS _ _ ?_);exact⟨HW.out,Fr.of _ rfl ⟨rfl,trivial⟩⟩
theorem so_all (B b bx:Nat)(w0 w1:World)(g c:Nat)(pL:Option Addr)(L:List ScD)(hL:ScO B bx w1 (.slice pL L.length c) L w0)(hm:L.length≤1000)(hb:b≤40000):T3 Tryz.prog (fun a w=>(Str B w b∧IsW w0 w)∧Fr 37 [(0,.pointer (some ⟨B,0,none⟩)),(1,.slice pL L.length c)] a) soM No No 9 (fun a w=>∃(v5:Value) (ks:List ByteArray),(ks.length≤L.length+1)∧(StO B (b+2*L.length+2) w0 v5 ks w)∧Fr 37 [(4,v5)] a):=by
 refine T3.seq (s:=(sel [0] soM)) (c:=(sel [1] soM)) (T3.noT (so0 B b bx w0 w1 g c pL L hL hm hb)) ?_;refine T3.sq rfl (T3.noT (so1 B b bx w0 w1 g c pL L hL hm hb)) ?_;refine T3.sq rfl (T3.noT (T3.seq (s:=(sel [1,1,0,0] soM)) (c:=(sel [1,1,0,1] soM)) (so2 B b bx w0 w1 g c pL L hL hm hb) (T3.ex fun l=>T3.ex fun v11=>T3.pure fun hlc=>soAloop B b bx w0 w1 g c pL L hL hm hb l v11 hlc))) ?_;refine T3.ex fun v5=>T3.ex fun ks=>T3.pure fun hk=>?_
 refine T3.sq rfl (S:=(fun a w=>∃(v5:Value) (ks:List ByteArray),(ks.length≤L.length+1)∧(StO B (b+2*L.length+2) w0 v5 ks w)∧Fr 37 [(0,.pointer (some ⟨B,0,none⟩)),(5,v5)] a)) ?_ (T3.ex fun v5=>T3.ex fun ks=>T3.pure fun hk=>?_)
 ·refine T3.tt rfl (C:=fun _=>True) (W:=fun w=>StO B (b+2*L.length+1) w0 v5 ks w) (by decide) (T3.noT (so8 B b bx w0 w1 g c pL L hL hm hb v5 ks hk)) ?_ (T3.skip ?_)
  ·exact T3.pre (T3.noT (so9 B b bx w0 w1 g c pL L hL hm hb v5 ks hk)) (fun a w q=>⟨q.2.2,q.1.tail⟩)
  ·rintro a w ⟨hq,hW,hF⟩;exact⟨v5,ks,by omega,hW.mono (by omega),hF⟩
 exact T3.sr rfl (T3.noT (so10 B b w0 L v5 ks)) (T3.ret fun a w q=>⟨v5,ks,hk,q⟩)
theorem someOf_any (B b bx:Nat)(w0 w1:World)(vL:Value)(L:List ScD)(hL:ScO B bx w1 vL L w0)(hS:Str B w0 b)(hm:L.length≤1000)(hb:b≤40000):Calls Tryz.prog 28 #[.pointer (some ⟨B,0,none⟩),vL] w0 fun e w'=>∃(v:Value) (ks:List ByteArray),e=.returned v∧ks.length≤L.length+1∧StO B (b+2*L.length+2) w0 v ks w':=by
 obtain⟨pL,c,rfl⟩:=(Row.of_owns hL.o).shape;have hall:=so_all B b bx w0 w1 0 c pL L hL hm hb;clear hL
 go_enter Tryz.func28,Tryz.ntmps28
 refine T3.done (s:=soM) hall ⟨⟨hS,rfl⟩,Fr.r rfl rfl⟩ ?_;rintro a w ⟨v,ks,hn,hW,fr,rfl,q4,_⟩;rw [fr_soM,fe q4]
 go_ret
 exact⟨v,ks,rfl,hn,hW⟩
end Go.Proofs.YtnmdpphddimfbaaGreat
/-
  Line-ups: may a scorer stand here (the closure of the stream's Fills, and ContainsFunc of it). Conditions: the bounds that each theorem names.
-/
namespace Go.Proofs.YtnmdpphddimfbaaGreat
open Go.RowKit Go.Bw
/-- What the closure of Fills sees: the box of the scorers and the box of a place. -/
structure FcH (w:World)(A1 A2:Nat)(pL:Option Addr)(c:Nat)(L:List ScD)(j:Int):Prop where
 a1:w.cell? ⟨A1,0,none⟩=some (.slice pL L.length c)
 a2:w.cell? ⟨A2,0,none⟩=some (.int .i64 j)
 r:Row w 0 5 (.slice pL L.length c) L.length (cellsOf encSc L)
 j0:0≤j
 j1:j<L.length
 p:PsH w (geta L j).pv (geta L j).ps
theorem FcH.below {w w':World}{A1 A2 c:Nat}{pL:Option Addr}{L:List ScD}{j:Int}(h:FcH w A1 A2 pL c L j)(b:Below w.heap.size w w'):FcH w' A1 A2 pL c L j :=
 ⟨(b.cell (p:=⟨A1,0,none⟩) (World.block_lt_of_cell? w _ h.a1)).trans h.a1,(b.cell (p:=⟨A2,0,none⟩) (World.block_lt_of_cell? w _ h.a2)).trans h.a2,h.r.below b,h.j0,h.j1,h.p.below b⟩
end Go.Proofs.YtnmdpphddimfbaaGreat
/-
  Line-ups: the world while the stream hands out fills. Conditions: the bounds that each theorem names.
-/
namespace Go.Bw
open Go.RowKit
/-- Growth of one newer block. -/
theorem Drawn.newer {n₀ b g:Nat}{w w' w'':World}(h:Drawn n₀ w w' b)(gr:w'.grownBy w'' (some g))(hg:w.heap.size≤g)(hn:n₀<g):Drawn n₀ w w'' b:=by
 refine⟨h.str.kept gr (fun k hk=>by cases hk;exact hn),⟨gr.os.trans h.gr.os,gr.tape.trans h.gr.tape,gr.output.trans h.gr.output,Nat.le_trans h.gr.size gr.size,fun k hk hne=>?_⟩⟩;rw [gr.block k (Nat.lt_of_lt_of_le hk h.gr.size) (fun e=>by cases e;omega),h.gr.block k hk hne]
end Go.Bw
namespace Go.Proofs.YtnmdpphddimfbaaGreat
open Go.RowKit Go.Bw
theorem el_flL:Elem Tryz.prog 30 49 (.agg #[.string ByteArray.empty,.string ByteArray.empty]) 2 32:=⟨by kernel_rfl,by kernel_rfl,by kernel_rfl,by decide,by decide⟩
/-- A map from names to Booleans that the call made; what it holds does not matter. -/
def MapB (w:World)(m n:Nat):Prop:=∃D:DataW Unit,w.ownsMap Tryz.prog 9 (plainElem Tryz.prog 4) m n D
theorem MapB.kept {w w':World}{m n:Nat}{row:Option Nat}(h:MapB w m n)(g:w.grownBy w' row)(hne:some m≠row):MapB w' m n:=by
 obtain⟨D,h⟩:=h;exact⟨D,h.kept g hne⟩
theorem MapB.row {w:World}{m n base e sz k:Nat}{v:Value}{xs:List Value}(h:MapB w m n)(ho:w.ownsRow base e sz v k xs):some m≠v.ownBlock:=by
 obtain⟨D,es,clock,hb,_⟩:=h;intro e;rcases ho.2 with ⟨rfl,_⟩|⟨g',cap',cur',rfl,_,hg',_⟩
 ·simp [Value.ownBlock]at e
 ·simp [Value.ownBlock]at e;subst e;rw [hb]at hg';simp at hg'
/-- The world while fills are handed out: the box of the scorers, the map of who is taken, the fills so far. -/
structure FiO (B b:Nat)(w0:World)(A1 m n:Nat)(vL:Value)(v:Value)(Fs:List FlD)(w:World):Prop where
 d:Drawn B w0 w b
 hB:B<w0.heap.size
 hA:w0.heap.size≤A1
 hm:w0.heap.size≤m
 a:RHd 28 B w.heap.size w 1 (.slice (some ⟨A1,0,none⟩) 1 1) [vL]
 mp:MapB w m n
 o:w.ownsRow w0.heap.size 49 2 v Fs.length (cellsOf encFl Fs)
 z:∀x∈Fs,Sm x.sl∧Sm x.pl
section
variable {B b b' A1 m n n':Nat}{w0 w w':World}{vL v v':Value}{Fs:List FlD}
section
variable (h:FiO B b w0 A1 m n vL v Fs w)
include h
theorem FiO.drawn (d:Drawn B w w' b'):FiO B b' w0 A1 m n vL v Fs w' :=
 ⟨h.d.trans d,h.hB,h.hA,h.hm,(h.a.str d.gr).mono d.size,h.mp.kept d.gr (by have:=h.hm;have:=h.hB;simp;omega),owns_drawn h.o d h.hB,h.z⟩
theorem FiO.mono (hb:b≤b'):FiO B b' w0 A1 m n vL v Fs w:=⟨h.d.mono hb,h.hB,h.hA,h.hm,h.a,h.mp,h.o,h.z⟩
theorem FiO.alloc (ob:Obj):FiO B b w0 A1 m n vL v Fs (w.alloc ob):=h.drawn ((Drawn.refl h.d.str).alloc ob)
theorem FiO.below (g:Below w.heap.size w w'):FiO B b w0 A1 m n vL v Fs w':=h.drawn ((Drawn.refl h.d.str).below g)
theorem FiO.box:w.cell? ⟨A1,0,none⟩=some vL:=by
 rcases h.a.row.2 with ⟨h0,_⟩|⟨g,off,cap,hv,_,_,_,_,hc⟩
 ·cases h0
 ·simp only [Value.slice.injEq,Option.some.injEq,Addr.mk.injEq]at hv;obtain⟨⟨rfl,rfl,_⟩,_,_⟩:=hv;exact hc 0 vL rfl
theorem FiO.app {x:FlD}(hx:Sm x.sl∧Sm x.pl)(ho:w'.ownsRow w0.heap.size 49 2 v' (Fs.length+1) (cellsOf encFl Fs++[.string x.sl,.string x.pl]))(g:w.grownBy w' v.ownBlock):FiO B b w0 A1 m n vL v' (Fs++[x]) w' :=
 ⟨h.d.app h.o (Nat.le_refl _) h.hB g,h.hB,h.hA,h.hm,(h.a.other h.o (by decide) g).mono g.size,h.mp.kept g (h.mp.row h.o),by rw [cellsOf_snoc,List.length_append];exact ho,
  fun y hy=>by
   rcases List.mem_append.1 hy with hy|hy
   ·exact h.z y hy
   ·simp at hy;subst hy;exact hx⟩
/-- A store into a newer block that is neither the map's nor the row's. -/
theorem FiO.put (g:Nat)(gr:w.grownBy w' (some g))(h0:w0.heap.size≤g)(h1:A1≠g)(h2:m≠g)(h3:v.ownBlock≠some g):FiO B b w0 A1 m n vL v Fs w' :=
 ⟨h.d.newer gr h0 (by have:=h.hB;omega),h.hB,h.hA,h.hm,(h.a.grow gr (fun k hk=>by cases hk;simp [Value.ownBlock];exact h1)).mono gr.size,h.mp.kept gr (by simpa using h2),h.o.kept gr (.inr (fun e=>h3 e)),h.z⟩
end
end
end Go.Proofs.YtnmdpphddimfbaaGreat
/-
  The best fills of package score. Conditions: at most 4 slots and 6 scorers; points are right.
-/
namespace Go.Bw
open Go.RowKit
/-- A block that is left from its second statement, or for an outer one from its third. -/
theorem T3.blockTwo {P:Program}{R R1 S S1 X T:Rel}{a b c:Code}{id id2:Nat}(hne:id2≠id)(ha:T3 P R a R1 No id T)(hb:T3 P R1 b S1 S id T)(hc:T3 P S1 c S X id2 T):T3 P R (.block id (.seq a (.seq b c))) S X id2 T:=by
 intro ac w hR;refine wp_block (wp_seq (wp_mono (ha ac w hR) ?_));intro e a1 w1 q1;cases e with
 | normal =>
  refine wp_seq (wp_mono (hb a1 w1 q1) ?_);intro e a2 w2 q2;clear q1;cases e with
  | normal =>
   refine wp_mono (hc a2 w2 q2) ?_;intro e a3 w3 q3;clear q2;cases e with
   | normal=>exact q3
   | exit i =>
    obtain⟨rfl,q3⟩:=q3;show Exit.inBlock id _ (.exit i) a3 w3;simp only [Exit.inBlock,hne,if_false];exact⟨rfl,q3⟩
   | ret=>exact q3
   | goto l=>exact q3
   | panic ch=>exact q3
   | outgrown=>exact q3
  | exit i =>
   obtain⟨rfl,q2⟩:=q2;show Exit.inBlock i _ (.exit i) a2 w2;simp only [Exit.inBlock,if_true];exact q2
  | ret=>exact q2
  | goto l=>exact q2
  | panic ch=>exact q2
  | outgrown=>exact q2
 | exit i=>exact q1.2.elim
 | ret=>exact q1
 | goto l=>exact q1
 | panic ch=>exact q1
 | outgrown=>exact q1
/-- Stores into a row of another type. -/
theorem owns_apart {w w':World}{b1 b2 s1 s2 n1 n2:Nat}{e1 e2:TypeId}{v u:Value}{cs xs:List Value}(h:w.ownsRow b1 e1 s1 v n1 cs)(ho:w.ownsRow b2 e2 s2 u n2 xs)(he:e1≠e2)(g:w.grownBy w' u.ownBlock):w'.ownsRow b1 e1 s1 v n1 cs:=by
 refine h.kept g ?_;rcases h.2 with ⟨rfl,_⟩|⟨g1,cap1,cur1,rfl,_,hg1,_⟩
 ·exact .inl rfl
 ·rcases ho.2 with ⟨rfl,_⟩|⟨g2,cap2,cur2,rfl,_,hg2,_⟩
  ·exact .inr (by simp [Value.ownBlock])
  ·refine .inr (fun q=>?_);simp [Value.ownBlock]at q;subst q;have h3:=hg1.symm.trans hg2;simp only [Option.some.injEq,Obj.cells.injEq]at h3;exact he h3.2.1
end Go.Bw
namespace Go.Proofs.YtnmdpphddimfbaaGreat
open Go.RowKit Go.Bw
def gU (tk:List Bool):Nat→Bool:=fun j=>geta tk (j:Int)
theorem gU_set {tk:List Bool}{k:Nat}(hk:k<tk.length):gU (tk.set k true)=updU (gU tk) k:=by
 funext j
 unfold gU updU geta;rw [Int.toNat_natCast,List.getElem?_set]
 by_cases e:k=j
 ·subst e;simp [hk]
 ·have e':¬j=k:=fun q=>e q.symm
  simp [e,e']
theorem set_back {tk:List Bool}{k:Nat}(hk:geta tk (k:Int)=false)(hl:k<tk.length):(tk.set k true).set k false=tk:=by
 rw [List.set_set];refine List.ext_getElem (by simp) (fun i h1 h2=>?_);rw [List.getElem_set]
 split
 ·rename_i e
  subst e;unfold geta at hk;rw [Int.toNat_natCast,List.getElem?_eq_getElem hl]at hk;exact hk.symm
 ·rfl
/-- Fills by who is in each slot. -/
def fillsOf (S:List SlD)(L:List ScD):Nat→List (Option Nat)→List FlD
 | _,[]=>[]
 | i,none::l=>⟨(geta S (i:Int)).key,⟨#[]⟩⟩::fillsOf S L (i+1) l
 | i,some k::l=>⟨(geta S (i:Int)).key,(geta L (k:Int)).pl⟩::fillsOf S L (i+1) l
def slV (S:List SlD)(L:List ScD)(r i:Nat)(U:Nat→Bool):Int:=slotV (fitK S L) (wK L) L.length r i U
def grF (S:List SlD)(L:List ScD)(r i:Nat)(U:Nat→Bool):List (Option Nat):=greedF (fitK S L) (wK L) L.length r i U
def grP (S:List SlD)(L:List ScD)(r i:Nat)(U:Nat→Bool)(left:Int):Nat→Bool:=fun k=>!U k&&(fitK S L k i&&decide (slV S L r (i+1) (updU U k)=left-wK L k))
def bestF (S:List SlD)(L:List ScD):List FlD:=fillsOf S L 0 (grF S L S.length 0 (fun _=>false))
theorem fillsOf_len (S:List SlD)(L:List ScD):∀(l:List (Option Nat)) (i:Nat),(fillsOf S L i l).length=l.length
 | [],_=>rfl
 | none::l,i=>by simp [fillsOf,fillsOf_len S L l]
 | some k::l,i=>by simp [fillsOf,fillsOf_len S L l]
theorem bestF_len (S:List SlD)(L:List ScD):(bestF S L).length=S.length:=by
 unfold bestF grF;rw [fillsOf_len,greed_len]
/-- The fills so far; what is left to bring. -/
structure BeI (S:List SlD)(L:List ScD)(i:Nat)(tk:List Bool)(out:List FlD)(left:Int):Prop where
 hi:i≤S.length
 tl:tk.length=L.length
 lf:left=slV S L (S.length-i) i (gU tk)
 gr:bestF S L=out++fillsOf S L i (grF S L (S.length-i) i (gU tk))
 ol:out.length=i
section
variable {S:List SlD}{L:List ScD}{i:Nat}{tk:List Bool}{out:List FlD}{left:Int}
theorem BeI.start (h:left=slV S L S.length 0 (gU (List.replicate L.length false))):BeI S L 0 (List.replicate L.length false) [] left:=by
 have e:gU (List.replicate L.length false)=fun _=>false:=by
  funext j
  unfold gU geta;rw [Int.toNat_natCast,List.getElem?_replicate]
  split <;> rfl
 refine⟨Nat.zero_le _,by simp,h,?_,rfl⟩;rw [e];rfl
theorem grF_none {r:Nat}{U:Nat→Bool}(h:slV S L r (i+1) U=slV S L (r+1) i U):grF S L (r+1) i U=none::grF S L r (i+1) U:=by
 have h2:slotV (fitK S L) (wK L) L.length r (i+1) U=slotV (fitK S L) (wK L) L.length (r+1) i U:=h;show greedF (fitK S L) (wK L) L.length (r+1) i U=none::greedF (fitK S L) (wK L) L.length r (i+1) U;rw [greedF,if_pos h2]
theorem grF_some {r k:Nat}{U:Nat→Bool}(h:slV S L r (i+1) U≠slV S L (r+1) i U)(hk:firstK (grP S L r i U (slV S L (r+1) i U)) L.length 0=some k):grF S L (r+1) i U=some k::grF S L r (i+1) (updU U k):=by
 have hk2:firstK (fun k=>!U k&&(fitK S L k i&&decide (slotV (fitK S L) (wK L) L.length r (i+1) (updU U k)=slotV (fitK S L) (wK L) L.length (r+1) i U-wK L k))) L.length 0=some k:=hk;have h2:¬slotV (fitK S L) (wK L) L.length r (i+1) U=slotV (fitK S L) (wK L) L.length (r+1) i U:=h;unfold grF;show greedF (fitK S L) (wK L) L.length (r+1) i U=_;rw [greedF,if_neg h2,hk2]
theorem BeI.none (h:BeI S L i tk out left)(hi:i<S.length)(he:slV S L (S.length-(i+1)) (i+1) (gU tk)=left):BeI S L (i+1) tk (out++[⟨(geta S (i:Int)).key,⟨#[]⟩⟩]) left:=by
 have hr:S.length-i=(S.length-(i+1))+1:=by omega
 have hl:=h.lf;have hg:=h.gr;rw [hr]at hl hg;rw [grF_none (he.trans hl)]at hg;refine⟨by omega,h.tl,he.symm,?_,by rw [List.length_append,h.ol];rfl⟩;rw [hg,List.append_assoc];rfl
section
variable (h:BeI S L i tk out left)(hi:i<S.length)(hne:slV S L (S.length-(i+1)) (i+1) (gU tk)≠left)
include h hi hne
theorem BeI.some {k:Nat}(hk:firstK (grP S L (S.length-(i+1)) i (gU tk) left) L.length 0=some k):BeI S L (i+1) (tk.set k true) (out++[⟨(geta S (i:Int)).key,(geta L (k:Int)).pl⟩]) (left-wK L k):=by
 have hr:S.length-i=(S.length-(i+1))+1:=by omega
 have hl:=h.lf;have hg:=h.gr;rw [hr]at hl hg;obtain⟨_,hkl,hp,_⟩:=firstK_some hk;unfold grP at hp;simp only [Bool.and_eq_true,Bool.not_eq_true',decide_eq_true_eq]at hp;have hkt:k<tk.length:=by have:=h.tl;omega
 rw [hl]at hk hne;rw [grF_some hne hk]at hg;refine⟨by omega,by rw [List.length_set];exact h.tl,?_,?_,by rw [List.length_append,h.ol];rfl⟩
 ·rw [gU_set hkt];exact hp.2.2.symm
 ·rw [hg,List.append_assoc,gU_set hkt];rfl
/-- Somebody is found. -/
theorem BeI.found (hall:∀k,k<L.length→grP S L (S.length-(i+1)) i (gU tk) left k=false):False:=by
 have hr:S.length-i=(S.length-(i+1))+1:=by omega
 have hl:=h.lf;rw [hr]at hl;rw [hl]at hne hall;obtain⟨k,hk⟩:=greed_some hne;obtain⟨_,hkl,hp,_⟩:=firstK_some hk;have:=hall k (by omega);have hp2:grP S L (S.length-(i+1)) i (gU tk) (slV S L (S.length-(i+1)+1) i (gU tk)) k=true:=hp;rw [hp2]at this;cases this
end
theorem BeI.hit {k:Nat}(hk:k<L.length)(hn:∀j,j<k→grP S L (S.length-(i+1)) i (gU tk) left j=false)(hp:grP S L (S.length-(i+1)) i (gU tk) left k=true):firstK (grP S L (S.length-(i+1)) i (gU tk) left) L.length 0=Option.some k :=
 firstK_eq (Nat.zero_le _) (by omega) hp (fun j _ hj=>hn j hj)
end
/-- The call's own rows: who is taken, the fills so far. -/
structure BeW (w0:World)(gt l:Nat)(tk:List Bool)(v5:Value)(out:List FlD)(w:World):Prop where
 bel:Below w0.heap.size w0 w
 t:w.ownsRow w0.heap.size 4 1 (.slice (some ⟨gt,0,none⟩) l l) l (cellsOf encB tk)
 o:w.ownsRow w0.heap.size 49 2 v5 out.length (cellsOf encFl out)
/-- And the box of a fill. -/
structure BeR (w0:World)(gt l:Nat)(tk:List Bool)(v5:Value)(out:List FlD)(A8:Nat)(x:FlD)(w:World):Prop where
 a:BeW w0 gt l tk v5 out w
 b:w.ownsRow w0.heap.size 49 2 (.slice (some ⟨A8,0,none⟩) 1 1) 1 [.string x.sl,.string x.pl]
 ne:v5.ownBlock≠some A8
theorem cellsB_set (xs:List Bool)(i:Nat)(x:Bool):(cellsOf encB xs).set i (.bool x)=cellsOf encB (xs.set i x):=by
 have hm:∀l:List Bool,cellsOf encB l=l.map Value.bool:=fun l=>by
  induction l with
  | nil=>rfl
  | cons a l ih=>rw [cellsOf_cons,ih];rfl
 rw [hm,hm,List.map_set]
section
variable {w0 w w':World}{gt l A8:Nat}{tk:List Bool}{v5 v':Value}{out:List FlD}{x:FlD}
theorem BeW.below (h:BeW w0 gt l tk v5 out w)(b:Below w.heap.size w w'):BeW w0 gt l tk v5 out w':=⟨h.bel.trans (b.mono h.bel.size),owns_below h.t b (Nat.le_refl _),owns_below h.o b (Nat.le_refl _)⟩
theorem BeR.below (h:BeR w0 gt l tk v5 out A8 x w)(b:Below w.heap.size w w'):BeR w0 gt l tk v5 out A8 x w':=⟨h.a.below b,owns_below h.b b (Nat.le_refl _),h.ne⟩
theorem BeW.tput (h:BeW w0 gt l tk v5 out w){k:Nat}(hk:k<l)(b:Bool):BeW w0 gt l (tk.set k b) v5 out (w.setCell ⟨gt,k,none⟩ (.bool b)):=by
 have g1:=grown_setCell w gt k (.bool b);have t1:=owns_setC h.t k (by omega) (.bool b);rw [cellsB_set]at t1;exact⟨h.bel.setCell (p:=⟨gt,k,none⟩) (h.t.lt gt rfl).1 _,t1,owns_apart h.o h.t (by decide) g1⟩
theorem BeR.tput (h:BeR w0 gt l tk v5 out A8 x w){k:Nat}(hk:k<l)(b:Bool):BeR w0 gt l (tk.set k b) v5 out A8 x (w.setCell ⟨gt,k,none⟩ (.bool b)) :=
 ⟨h.a.tput hk b,owns_apart h.b h.a.t (by decide) (grown_setCell w gt k (.bool b)),h.ne⟩
theorem BeR.fput (h:BeR w0 gt l tk v5 out A8 x w)(s:ByteArray):BeR w0 gt l tk v5 out A8 ⟨x.sl,s⟩ (w.setCell ⟨A8,1,none⟩ (.string s)):=by
 have g1:=grown_setCell w A8 1 (.string s);exact⟨⟨h.a.bel.setCell (p:=⟨A8,1,none⟩) (h.b.lt A8 rfl).1 _,owns_apart h.a.t h.b (by decide) g1,h.a.o.kept g1 (.inr h.ne)⟩,owns_setC h.b 1 (by omega) (.string s),h.ne⟩
theorem BeW.app (h:BeW w0 gt l tk v5 out w){y:FlD}(ho:w'.ownsRow w0.heap.size 49 2 v' (out.length+1) (cellsOf encFl out++[.string y.sl,.string y.pl]))(g:w.grownBy w' v5.ownBlock):BeW w0 gt l tk v' (out++[y]) w' :=
 ⟨below_grown h.bel h.o g (Nat.le_refl _) h.bel.size,owns_apart h.t h.o (by decide) g,by rw [cellsOf_snoc,List.length_append];exact ho⟩
theorem BeR.fill (h:BeR w0 gt l tk v5 out A8 x w):w.cell? ⟨A8,0,none⟩=some (.string x.sl)∧w.cell? ⟨A8,1,none⟩=some (.string x.pl):=by
 rcases(Row.of_owns h.b).2 with ⟨h0,_⟩|⟨g,off,cap,hv,_,_,_,_,hc⟩
 ·cases h0
 ·simp only [Value.slice.injEq,Option.some.injEq,Addr.mk.injEq]at hv;obtain⟨⟨rfl,rfl,_⟩,_,_⟩:=hv;exact⟨hc 0 _ rfl,hc 1 _ rfl⟩
section
variable (h:BeW w0 gt l tk v5 out w)(ht:tk.length=l)
include h ht
theorem BeW.tcell {k:Nat}(hk:k<l):w.cell? ⟨gt,k,none⟩=some (.bool (geta tk (k:Int)))∧w.frozen? ⟨gt,k,none⟩=false:=by
 refine⟨?_,owns_frozenC h.t k⟩;subst ht;obtain⟨bz,off,hp,_,_,hcell⟩:=Row.nonnil ((Row.of_owns h.t).mono (Nat.zero_le _)) (by omega);simp only [Option.some.injEq,Addr.mk.injEq]at hp;obtain⟨rfl,rfl,_⟩:=hp;have t0:=Row.elAt encB_length hcell (k:=(k:Int)) (by omega) (by omega) 0 _ (by decide) rfl;rw [Nat.zero_add,Nat.mul_one,Nat.add_zero,Int.toNat_natCast]at t0;exact t0
theorem BeW.tkh:TkH w (.slice (some ⟨gt,0,none⟩) l l) tk l:=⟨by rw [ht];exact(Row.of_owns h.t).mono (Nat.zero_le _),ht⟩
end
end
noncomputable def lbP:Code:=(Tryz.f49.body).getD .skip
theorem fr_lbP (f:Nat→Value):frame 98 f=⟨#[f 0,f 1,f 2,f 3,f 4,f 5,f 6,f 7,f 8,f 9,f 10,f 11,f 12,f 13,f 14,f 15,f 16,f 17,f 18,f 19,f 20,f 21,f 22,f 23,f 24,f 25,f 26,f 27,f 28,f 29,f 30,f 31,f 32,f 33,f 34,f 35,f 36,f 37,f 38,f 39,f 40,f 41,f 42,f 43,f 44,f 45,f 46,f 47,f 48,f 49,f 50,f 51,f 52,f 53,f 54,f 55,f 56,f 57,f 58,f 59,f 60,f 61,f 62,f 63,f 64,f 65,f 66,f 67,f 68,f 69,f 70,f 71,f 72,f 73,f 74,f 75,f 76,f 77,f 78,f 79,f 80,f 81,f 82,f 83,f 84,f 85,f 86,f 87,f 88,f 89,f 90,f 91,f 92,f 93,f 94,f 95,f 96,f 97],[]⟩:=by rfl
theorem info_bool:(Tryz.prog.info? 4).map (fun i=>(i.zero,i.size,i.bytes))=some (some (.bool false),1,1):=by kernel_rfl
theorem und_bools:Tryz.prog.underlying 128=some (.slice 4):=by kernel_rfl
theorem made_bools (n:Nat):(madeCells (Value.bool false).cells (n*1)).toList=cellsOf encB (List.replicate n false):=by
 have hf:(fun i:Nat=>(#[Value.bool false]:Array Value)[i % (#[Value.bool false]:Array Value).size]!)=fun _=>Value.bool false:=funext fun i=>by simp [Nat.mod_one]
 have hc:(Value.bool false).cells=#[Value.bool false]:=rfl;have hm:∀l:List Bool,cellsOf encB l=l.map Value.bool:=fun l=>by
  induction l with
  | nil=>rfl
  | cons a l ih=>rw [cellsOf_cons,ih];rfl
 rw [Nat.mul_one,hm,List.map_replicate,hc];unfold madeCells;rw [hf];simp [List.map_const']
section
variable (A0:Nat)(vl vs:Value)(S:List SlD)(L:List ScD)(w0:World)(h:BoH w0 A0 vs S vl L)(hp:ScP L)(hS:S.length≤4)(hl:L.length≤6)
include h hp hS hl
theorem lb0:T3 Tryz.prog (fun a w=>(Below w0.heap.size w0 w)∧Fr 98 [(0,.pointer (some ⟨A0,0,none⟩))] a) (sel [0] lbP) (fun a w=>(Below w0.heap.size w0 w)∧Fr 98 [(0,.pointer (some ⟨A0,0,none⟩))] a) No 9 No:=by
 refine T3.leaf ?_;rintro Q JS JX JT K hS hK hX hE hT hR a w ⟨hW,⟨fr,rfl,q0,_⟩⟩;have HW:=Lib.hid hW;clear hW;rw [fr_lbP,fe q0];clear q0;conv=>arg 2;whnf
 go_wp2_with fail
 refine Met.intro (hS _ _ ?_);exact⟨HW.out,Fr.of _ rfl ⟨rfl,trivial⟩⟩
theorem lb1:T3 Tryz.prog (fun a w=>(Below w0.heap.size w0 w)∧Fr 98 [(0,.pointer (some ⟨A0,0,none⟩))] a) (sel [1,0] lbP) (fun a w=>∃(gt:Nat),(Below w0.heap.size w0 w∧w.ownsRow w0.heap.size 4 1 (.slice (some ⟨gt,0,none⟩) L.length L.length) L.length (cellsOf encB (List.replicate L.length false)))∧Fr 98 [(0,.pointer (some ⟨A0,0,none⟩)),(3,.slice (some ⟨gt,0,none⟩) L.length L.length)] a) No 9 No:=by
 refine T3.leaf ?_;rintro Q JS JX JT K hS hK hX hE hT hR a w ⟨hW,⟨fr,rfl,q0,_⟩⟩;have h1:=h.below hW;have b1:=h1.b1;have hsz:=hW.size;obtain⟨i0,hi,hz0,hz1,hz2⟩:=info_parts info_bool;obtain⟨q,d,rfl⟩:=h1.c.r.shape;have HW:=Lib.hid hW;clear hW h1 h hp;generalize L.length=l at *;rw [fr_lbP,fe q0];clear q0;conv=>arg 2;whnf
 go_wp2_with (at_make;refine wpList_make_full _ rfl _ _ 128 rfl w0.heap.size 4 i0 (.bool false) 1 und_bools hi hz0 hz1 .i64 .i64 _ _ l rfl rfl rfl rfl (by rw [hz2];omega) (by unfold maxLen;omega) hsz ?_;intro w' hown hgrow)
 rw [made_bools]at hown;refine Met.intro (hS _ _ ?_);exact⟨_,⟨HW.out.trans ((below_of_grown hgrow (by simp)).mono hsz),hown⟩,Fr.r rfl rfl⟩
theorem lb2 (gt:Nat):T3 Tryz.prog (fun a w=>(Below w0.heap.size w0 w∧w.ownsRow w0.heap.size 4 1 (.slice (some ⟨gt,0,none⟩) L.length L.length) L.length (cellsOf encB (List.replicate L.length false)))∧Fr 98 [(0,.pointer (some ⟨A0,0,none⟩)),(3,.slice (some ⟨gt,0,none⟩) L.length L.length)] a) (sel [1,1,0] lbP) (fun a w=>∃(left:Int),(left=slV S L S.length 0 (gU (List.replicate L.length false)))∧(Below w0.heap.size w0 w∧w.ownsRow w0.heap.size 4 1 (.slice (some ⟨gt,0,none⟩) L.length L.length) L.length (cellsOf encB (List.replicate L.length false)))∧Fr 98 [(0,.pointer (some ⟨A0,0,none⟩)),(3,.slice (some ⟨gt,0,none⟩) L.length L.length),(4,.int .i64 left)] a) No 9 No:=by
 refine T3.leaf ?_;rintro Q JS JX JT K hS_ hK hX hE hT hR a w ⟨hW,⟨fr,rfl,q0,q3,_⟩⟩;have htk:TkH w (.slice (some ⟨gt,0,none⟩) L.length L.length) (List.replicate L.length false) L.length:=⟨by rw [List.length_replicate];exact(Row.of_owns hW.2).mono (Nat.zero_le _),by simp⟩
 have HC:=Lib.hid (most_prog A0 vl vs (.slice (some ⟨gt,0,none⟩) L.length L.length) S L (List.replicate L.length false) 0 S.length w (h.below hW.1) hp ⟨by omega,hS⟩ hl htk);have HW:=Lib.hid hW;have hsz:=hW.1.size;clear hW h hp htk;have HQ:=Lib.hid (show slotV (fitK S L) (wK L) L.length S.length 0 (fun j=>geta (List.replicate L.length false) (j:Int))=slV S L S.length 0 (gU (List.replicate L.length false))from rfl);rw [HQ.out]at HC;generalize slV S L S.length 0 (gU (List.replicate L.length false))=sv at *;rw [fr_lbP,fe q0,fe q3];clear q0 q3;conv=>arg 2;whnf
 go_wp2_with fail
 refine HC.out.mono ?_;rintro e w1 ⟨rfl,hb⟩;have H1:=Lib.hid (And.intro (HW.out.1.trans (hb.mono hsz)) (owns_below HW.out.2 hb (Nat.le_refl _)));clear hb;go_wp2_with fail
 refine Met.intro (hS_ _ _ ?_);exact⟨_,rfl,H1.out,Fr.r rfl rfl⟩
theorem lb3 (gt:Nat)(left:Int):T3 Tryz.prog (fun a w=>(Below w0.heap.size w0 w∧w.ownsRow w0.heap.size 4 1 (.slice (some ⟨gt,0,none⟩) L.length L.length) L.length (cellsOf encB (List.replicate L.length false)))∧Fr 98 [(0,.pointer (some ⟨A0,0,none⟩)),(3,.slice (some ⟨gt,0,none⟩) L.length L.length),(4,.int .i64 left)] a) (sel [1,1,1,0] lbP) (fun a w=>∃(v5:Value),(BeW w0 gt L.length (List.replicate L.length false) v5 [] w)∧Fr 98 [(0,.pointer (some ⟨A0,0,none⟩)),(3,.slice (some ⟨gt,0,none⟩) L.length L.length),(4,.int .i64 left),(5,v5)] a) No 9 No:=by
 refine T3.leaf ?_;rintro Q JS JX JT K hS hK hX hE hT hR a w ⟨hW,⟨fr,rfl,q0,q3,q4,_⟩⟩;have HW:=Lib.hid hW;clear hW h hp;rw [fr_lbP,fe q0,fe q3,fe q4];clear q0 q3 q4;conv=>arg 2;whnf
 go_wp2_with fail
 refine Met.intro (hS _ _ ?_);exact⟨_,⟨HW.out.1,HW.out.2,World.ownsRow_nil _ _ _ _⟩,Fr.r rfl rfl⟩
theorem lb4 (gt:Nat)(left:Int)(hlf:left=slV S L S.length 0 (gU (List.replicate L.length false)))(v5:Value):T3 Tryz.prog (fun a w=>(BeW w0 gt L.length (List.replicate L.length false) v5 [] w)∧Fr 98 [(0,.pointer (some ⟨A0,0,none⟩)),(3,.slice (some ⟨gt,0,none⟩) L.length L.length),(4,.int .i64 left),(5,v5)] a) (sel [1,1,1,1,0,0] lbP) (fun a w=>(0≤(0:Int)∧(0:Int)≤S.length)∧∃(tk:List Bool) (v5:Value) (out:List FlD) (left:Int),(BeI S L (0:Int).toNat tk out left)∧(BeW w0 gt L.length tk v5 out w)∧Fr 98 [(0,.pointer (some ⟨A0,0,none⟩)),(3,.slice (some ⟨gt,0,none⟩) L.length L.length),(4,.int .i64 left),(5,v5),(23,vs),(24,.int .i64 S.length),(25,.int .i64 0)] a) No 9 No:=by
 refine T3.leaf ?_;rintro Q JS JX JT K hS_ hK hX hE hT hR a w ⟨hW,⟨fr,rfl,q0,q3,q4,q5,_⟩⟩;have h1:=h.below hW.bel;have b0:=h1.b0;have HI:=Lib.hid (BeI.start hlf);obtain⟨q,d,rfl⟩:=h1.s.r.shape;obtain⟨q5,d5,rfl⟩:=(Row.of_owns hW.o).shape;have HW:=Lib.hid hW;clear hW h1 h hp hlf;rw [fr_lbP,fe q0,fe q3,fe q4,fe q5];clear q0 q3 q4 q5;conv=>arg 2;whnf
 go_wp2_with fail
 refine Met.intro (hS_ _ _ ?_);exact⟨⟨by omega,by omega⟩,_,_,_,_,HI.out,HW.out,Fr.r rfl rfl⟩
section
variable (gt:Nat)(i:Nat)(hi:i<S.length)(tk:List Bool)(v5:Value)(out:List FlD)(left:Int)(hI:BeI S L i tk out left)
include gt hi v5 hI
theorem lb6:T3 Tryz.prog (fun a w=>(BeW w0 gt L.length tk v5 out w)∧Fr 98 [(0,.pointer (some ⟨A0,0,none⟩)),(3,.slice (some ⟨gt,0,none⟩) L.length L.length),(4,.int .i64 left),(5,v5),(23,vs),(24,.int .i64 S.length),(25,.int .i64 (i:Int))] a) (sel [1,1,1,1,0,1,4,4,1,1,0,4,0] lbP) (fun a w=>∃(A7:Nat),(BeW w0 gt L.length tk v5 out w∧w.cell? ⟨A7,0,none⟩=some (.string (geta S (i:Int)).key))∧Fr 98 [(0,.pointer (some ⟨A0,0,none⟩)),(3,.slice (some ⟨gt,0,none⟩) L.length L.length),(4,.int .i64 left),(5,v5),(6,.int .i64 (i:Int)),(7,.pointer (some ⟨A7,0,none⟩)),(23,vs),(24,.int .i64 S.length),(25,.int .i64 (i:Int))] a) No 9 No:=by
 refine T3.leaf ?_;rintro Q JS JX JT K hS_ hK hX hE hT hR a w ⟨hW,⟨fr,rfl,q0,q3,q4,q5,q23,q24,q25,_⟩⟩;have h1:=h.below hW.bel;have hR:=h1.s.r;obtain⟨qs,ds,rfl⟩:=hR.shape;obtain⟨bz,off,rfl,_,_,hcell⟩:=Row.nonnil hR (by omega);have t0:=Row.elAt encSl_length hcell (k:=(i:Int)) (by omega) (by omega) 0 _ (by decide) rfl;have t1:=Row.elAt encSl_length hcell (k:=(i:Int)) (by omega) (by omega) 1 _ (by decide) rfl;rw [Int.toNat_natCast]at t0 t1;rw [Nat.add_zero]at t0;obtain⟨qp,dp,hvp⟩:=(h1.s.p _ (geta_mem (l:=S) (i:=(i:Int)) (by omega) (by omega))).r.shape;have HWA:=Lib.hid (hW.below ((Below.refl w.heap.size w).alloc (Nat.le_refl _) (.cells #[.string (geta S (i:Int)).key,(geta S (i:Int)).pv] 72)));have HC0:=Lib.hid (cells_new w #[.string (geta S (i:Int)).key,(geta S (i:Int)).pv] 72 0 _ rfl);obtain⟨q5,d5,rfl⟩:=(Row.of_owns hW.o).shape;clear hcell hR h1 hW h hp hI;generalize geta S (i:Int)=x at *;obtain⟨xk,xv,xps⟩:=x;simp only at t0 t1 hvp;subst hvp;rw [fr_lbP,fe q0,fe q3,fe q4,fe q5,fe q23,fe q24,fe q25];clear q0 q3 q4 q5 q23 q24 q25;conv=>arg 2;whnf
 go_wp2_with fail
 refine Met.intro (hS_ _ _ ?_);exact⟨_,⟨HWA.out,HC0.out⟩,Fr.r rfl rfl⟩
theorem lb7 (A7:Nat):T3 Tryz.prog (fun a w=>(BeW w0 gt L.length tk v5 out w∧w.cell? ⟨A7,0,none⟩=some (.string (geta S (i:Int)).key))∧Fr 98 [(0,.pointer (some ⟨A0,0,none⟩)),(3,.slice (some ⟨gt,0,none⟩) L.length L.length),(4,.int .i64 left),(5,v5),(6,.int .i64 (i:Int)),(7,.pointer (some ⟨A7,0,none⟩)),(23,vs),(24,.int .i64 S.length),(25,.int .i64 (i:Int))] a) (sel [1,1,1,1,0,1,4,4,1,1,0,4,1,0] lbP) (fun a w=>∃(A8:Nat),(BeR w0 gt L.length tk v5 out A8 ⟨(geta S (i:Int)).key,⟨#[]⟩⟩ w)∧Fr 98 [(0,.pointer (some ⟨A0,0,none⟩)),(3,.slice (some ⟨gt,0,none⟩) L.length L.length),(4,.int .i64 left),(5,v5),(6,.int .i64 (i:Int)),(8,.pointer (some ⟨A8,0,none⟩)),(23,vs),(24,.int .i64 S.length),(25,.int .i64 (i:Int))] a) No 9 No:=by
 refine T3.leaf ?_;rintro Q JS JX JT K hS_ hK hX hE hT hR a w ⟨hW,⟨fr,rfl,q0,q3,q4,q5,q6,q7,q23,q24,q25,_⟩⟩;have t0:=hW.2;have hW1:=hW.1;have ha:=(Below.refl w.heap.size w).alloc (Nat.le_refl _) (.cells #[.string (geta S (i:Int)).key,.string ⟨#[]⟩] 49);have HF:=Lib.hid (show BeR w0 gt L.length tk v5 out w.heap.size ⟨(geta S (i:Int)).key,⟨#[]⟩⟩ (w.alloc (.cells #[.string (geta S (i:Int)).key,.string ⟨#[]⟩] 49))from
  ⟨hW1.below ha,⟨by simp,.inr ⟨w.heap.size,1,_,rfl,hW1.bel.size,heap_alloc_new w _,Nat.le_refl _,by unfold maxLen;omega,by simp,by simp⟩⟩,fun e=>by have:=(hW1.o.lt _ e).2;omega⟩)
 obtain⟨q5,d5,rfl⟩:=(Row.of_owns hW1.o).shape;clear hW hW1 h hp hI ha;generalize (geta S (i:Int)).key=x at *;rw [fr_lbP,fe q0,fe q3,fe q4,fe q5,fe q6,fe q7,fe q23,fe q24,fe q25];clear q0 q3 q4 q5 q6 q7 q23 q24 q25;conv=>arg 2;whnf
 go_wp2_with fail
 refine Met.intro (hS_ _ _ ?_);exact⟨_,HF.out,Fr.r rfl rfl⟩
theorem lb8 (A8:Nat):T3 Tryz.prog (fun a w=>(BeR w0 gt L.length tk v5 out A8 ⟨(geta S (i:Int)).key,⟨#[]⟩⟩ w)∧Fr 98 [(0,.pointer (some ⟨A0,0,none⟩)),(3,.slice (some ⟨gt,0,none⟩) L.length L.length),(4,.int .i64 left),(5,v5),(6,.int .i64 (i:Int)),(8,.pointer (some ⟨A8,0,none⟩)),(23,vs),(24,.int .i64 S.length),(25,.int .i64 (i:Int))] a) (sel [1,1,1,1,0,1,4,4,1,1,0,4,1,1,0,0] lbP) (fun a w=>∃q,Fr 98 ((39,.bool q)::[(0,.pointer (some ⟨A0,0,none⟩)),(3,.slice (some ⟨gt,0,none⟩) L.length L.length),(4,.int .i64 left),(5,v5),(6,.int .i64 (i:Int)),(8,.pointer (some ⟨A8,0,none⟩)),(23,vs),(24,.int .i64 S.length),(25,.int .i64 (i:Int))]) a∧((q=decide (slV S L (S.length-(i+1)) (i+1) (gU tk)=left))∧BeR w0 gt L.length tk v5 out A8 ⟨(geta S (i:Int)).key,⟨#[]⟩⟩ w)) No 9 No:=by
 refine T3.leaf ?_;rintro Q JS JX JT K hS_ hK hX hE hT hR a w ⟨hW,⟨fr,rfl,q0,q3,q4,q5,q6,q8,q23,q24,q25,_⟩⟩;have HC:=Lib.hid (most_prog A0 vl vs (.slice (some ⟨gt,0,none⟩) L.length L.length) S L (tk) (i+1) (S.length-(i+1)) w (h.below hW.a.bel) hp ⟨by omega,by omega⟩ hl (hW.a.tkh (by first|exact hI.tl|(rw [List.length_set];exact hI.tl))));have e1:((i+1:Nat):Int)=(i:Int)+1:=by omega
 rw [e1]at HC;have HQ:=Lib.hid (show slotV (fitK S L) (wK L) L.length (S.length-(i+1)) (i+1) (fun j=>geta (tk) (j:Int))=slV S L (S.length-(i+1)) (i+1) (gU (tk))from rfl);rw [HQ.out]at HC;have hi9:i<100:=by omega
 have HW:=Lib.hid hW;obtain⟨q5,d5,rfl⟩:=(Row.of_owns hW.a.o).shape;clear hW h hp hI e1 HQ;generalize hsv:slV S L (S.length-(i+1)) (i+1) (gU tk)=sv at *;have HSV:=Lib.hid hsv;clear hsv;have hn:(sv==left)=decide (sv=left):=rfl;clear hn;rw [fr_lbP,fe q0,fe q3,fe q4,fe q5,fe q6,fe q8,fe q23,fe q24,fe q25];clear q0 q3 q4 q5 q6 q8 q23 q24 q25;conv=>arg 2;whnf
 go_wp2_with fail
 refine HC.out.mono ?_;rintro e w1 ⟨rfl,hb⟩;have H1:=Lib.hid (HW.out.below hb);clear hb
 by_cases he:sv=left
 ·subst he;go_wp2_with fail
  refine Met.intro (hS_ _ _ ?_);exact⟨_,Fr.r rfl rfl,by simp,H1.out⟩
 ·have hne:(sv==left)=false:=by simpa using he
  have HNE:=Lib.hid (show false=decide (sv=left)by simp [he]);clear he;go_wp2_with fail
  refine Met.intro (hS_ _ _ ?_);exact⟨_,Fr.r rfl rfl,HNE.out,H1.out⟩
end
section
variable (gt:Nat)(i:Nat)(tk:List Bool)(v5:Value)(out:List FlD)(left:Int)(A8:Nat)(x:FlD)(hol:out.length≤100)
include gt i tk v5 left A8 x hol
theorem lb9:T3 Tryz.prog (fun a w=>(BeR w0 gt L.length tk v5 out A8 x w)∧Fr 98 [(0,.pointer (some ⟨A0,0,none⟩)),(3,.slice (some ⟨gt,0,none⟩) L.length L.length),(4,.int .i64 left),(5,v5),(6,.int .i64 (i:Int)),(8,.pointer (some ⟨A8,0,none⟩)),(23,vs),(24,.int .i64 S.length),(25,.int .i64 (i:Int))] a) (sel [1,1,1,1,0,1,4,4,1,1,0,4,1,1,0,1,2,0] lbP) (fun a w=>∃(v5':Value),(BeW w0 gt L.length tk v5' (out++[x]) w)∧Fr 98 [(0,.pointer (some ⟨A0,0,none⟩)),(3,.slice (some ⟨gt,0,none⟩) L.length L.length),(4,.int .i64 left),(5,v5'),(23,vs),(24,.int .i64 S.length),(25,.int .i64 (i:Int))] a) No 9 No:=by
 refine T3.leaf ?_;rintro Q JS JX JT K hS_ hK hX hE hT hR a w ⟨hW,⟨fr,rfl,q0,q3,q4,q5,q6,q8,q23,q24,q25,_⟩⟩;obtain⟨t0,t1⟩:=hW.fill;have hE:=el_flL;have hA:=hW.a;have hsz:=hA.bel.size;obtain⟨q5,d5,rfl⟩:=(Row.of_owns hA.o).shape;clear hW h hp;obtain⟨xs,xp⟩:=x;simp only at t0 t1;rw [fr_lbP,fe q0,fe q3,fe q4,fe q5,fe q6,fe q8,fe q23,fe q24,fe q25];clear q0 q3 q4 q5 q6 q8 q23 q24 q25;conv=>arg 2;whnf
 go_wp2_with (at_builtin;refine app_law rfl _ _ _ rfl hE (hA.o.alloc _) rfl [.string xs,.string xp] rfl rfl (cells_new w #[_,_] _) (by simp [Value.oneCell']) (by omega) (by simp;omega) ?_;intro v' w2 hown2 hgr2)
 have h2:=(hA.below ((Below.refl w.heap.size w).alloc (Nat.le_refl _) (.cells #[.string xs,.string xp] 49))).app (y:=⟨xs,xp⟩) hown2 hgr2;refine Met.intro (hS_ _ _ ?_);exact⟨_,h2,Fr.r rfl rfl⟩
theorem lb20:T3 Tryz.prog (fun a w=>(BeR w0 gt L.length tk v5 out A8 x w)∧Fr 98 [(0,.pointer (some ⟨A0,0,none⟩)),(3,.slice (some ⟨gt,0,none⟩) L.length L.length),(4,.int .i64 left),(5,v5),(6,.int .i64 (i:Int)),(8,.pointer (some ⟨A8,0,none⟩)),(23,vs),(24,.int .i64 S.length),(25,.int .i64 (i:Int))] a) (sel [1,1,1,1,0,1,4,4,1,1,0,4,1,1,1,1] lbP) (fun a w=>∃(v5':Value),(BeW w0 gt L.length tk v5' (out++[x]) w)∧Fr 98 [(0,.pointer (some ⟨A0,0,none⟩)),(3,.slice (some ⟨gt,0,none⟩) L.length L.length),(4,.int .i64 left),(5,v5'),(23,vs),(24,.int .i64 S.length),(25,.int .i64 (i:Int))] a) No 9 No:=by
 refine T3.leaf ?_;rintro Q JS JX JT K hS_ hK hX hE hT hR a w ⟨hW,⟨fr,rfl,q0,q3,q4,q5,q6,q8,q23,q24,q25,_⟩⟩;obtain⟨t0,t1⟩:=hW.fill;have hE:=el_flL;have hA:=hW.a;have hsz:=hA.bel.size;obtain⟨q5,d5,rfl⟩:=(Row.of_owns hA.o).shape;clear hW h hp;obtain⟨xs,xp⟩:=x;simp only at t0 t1;rw [fr_lbP,fe q0,fe q3,fe q4,fe q5,fe q6,fe q8,fe q23,fe q24,fe q25];clear q0 q3 q4 q5 q6 q8 q23 q24 q25;conv=>arg 2;whnf
 go_wp2_with (at_builtin;refine app_law rfl _ _ _ rfl hE (hA.o.alloc _) rfl [.string xs,.string xp] rfl rfl (cells_new w #[_,_] _) (by simp [Value.oneCell']) (by omega) (by simp;omega) ?_;intro v' w2 hown2 hgr2)
 have h2:=(hA.below ((Below.refl w.heap.size w).alloc (Nat.le_refl _) (.cells #[.string xs,.string xp] 49))).app (y:=⟨xs,xp⟩) hown2 hgr2;refine Met.intro (hS_ _ _ ?_);exact⟨_,h2,Fr.r rfl rfl⟩
end
end
section
variable (A0:Nat)(vl vs:Value)(S:List SlD)(L:List ScD)(w0:World)(h:BoH w0 A0 vs S vl L)(hp:ScP L)(hS:S.length≤4)(hl:L.length≤6)(gt:Nat)(i:Nat)(hi:i<S.length)(tk:List Bool)(v5:Value)(out:List FlD)(left:Int)(hI:BeI S L i tk out left)(A8:Nat)
include h hp hS hl gt hi v5 hI A8
theorem lb10:T3 Tryz.prog (fun a w=>(BeR w0 gt L.length tk v5 out A8 ⟨(geta S (i:Int)).key,⟨#[]⟩⟩ w)∧Fr 98 [(0,.pointer (some ⟨A0,0,none⟩)),(3,.slice (some ⟨gt,0,none⟩) L.length L.length),(4,.int .i64 left),(5,v5),(6,.int .i64 (i:Int)),(8,.pointer (some ⟨A8,0,none⟩)),(23,vs),(24,.int .i64 S.length),(25,.int .i64 (i:Int))] a) (sel [1,1,1,1,0,1,4,4,1,1,0,4,1,1,1,0,0] lbP) (fun a w=>(BeR w0 gt L.length tk v5 out A8 ⟨(geta S (i:Int)).key,⟨#[]⟩⟩ w)∧Fr 98 [(0,.pointer (some ⟨A0,0,none⟩)),(3,.slice (some ⟨gt,0,none⟩) L.length L.length),(4,.int .i64 left),(5,v5),(6,.int .i64 (i:Int)),(8,.pointer (some ⟨A8,0,none⟩)),(23,vs),(24,.int .i64 S.length),(25,.int .i64 (i:Int)),(48,.int .i64 L.length),(49,.int .i64 0)] a) No 9 No:=by
 refine T3.leaf ?_;rintro Q JS JX JT K hS_ hK hX hE hT hR a w ⟨hW,⟨fr,rfl,q0,q3,q4,q5,q6,q8,q23,q24,q25,_⟩⟩;have h1:=h.below hW.a.bel;have b1:=h1.b1;obtain⟨q,d,rfl⟩:=h1.c.r.shape;have HW:=Lib.hid hW;obtain⟨q5,d5,rfl⟩:=(Row.of_owns hW.a.o).shape;clear hW h1 h hp hI;rw [fr_lbP,fe q0,fe q3,fe q4,fe q5,fe q6,fe q8,fe q23,fe q24,fe q25];clear q0 q3 q4 q5 q6 q8 q23 q24 q25;conv=>arg 2;whnf
 go_wp2_with fail
 refine Met.intro (hS_ _ _ ?_);exact⟨HW.out,Fr.r rfl rfl⟩
theorem lb11 (k:Nat)(hk:k≤L.length):T3 Tryz.prog (fun a w=>(BeR w0 gt L.length tk v5 out A8 ⟨(geta S (i:Int)).key,⟨#[]⟩⟩ w)∧Fr 98 [(0,.pointer (some ⟨A0,0,none⟩)),(3,.slice (some ⟨gt,0,none⟩) L.length L.length),(4,.int .i64 left),(5,v5),(6,.int .i64 (i:Int)),(8,.pointer (some ⟨A8,0,none⟩)),(23,vs),(24,.int .i64 S.length),(25,.int .i64 (i:Int)),(48,.int .i64 L.length),(49,.int .i64 (k:Int))] a) (sel [1,1,1,1,0,1,4,4,1,1,0,4,1,1,1,0,1,4,4,0] lbP) (fun a w=>∃q,Fr 98 ((50,.bool q)::[(0,.pointer (some ⟨A0,0,none⟩)),(3,.slice (some ⟨gt,0,none⟩) L.length L.length),(4,.int .i64 left),(5,v5),(6,.int .i64 (i:Int)),(8,.pointer (some ⟨A8,0,none⟩)),(23,vs),(24,.int .i64 S.length),(25,.int .i64 (i:Int)),(48,.int .i64 L.length),(49,.int .i64 (k:Int))]) a∧((q=decide (k<L.length))∧BeR w0 gt L.length tk v5 out A8 ⟨(geta S (i:Int)).key,⟨#[]⟩⟩ w)) No 9 No:=by
 refine T3.leaf ?_;rintro Q JS JX JT K hS_ hK hX hE hT hR a w ⟨hW,⟨fr,rfl,q0,q3,q4,q5,q6,q8,q23,q24,q25,q48,q49,_⟩⟩;have HW:=Lib.hid hW;obtain⟨q5,d5,rfl⟩:=(Row.of_owns hW.a.o).shape;clear hW h hp hI;generalize L.length=l at *;rw [fr_lbP,fe q0,fe q3,fe q4,fe q5,fe q6,fe q8,fe q23,fe q24,fe q25,fe q48,fe q49];clear q0 q3 q4 q5 q6 q8 q23 q24 q25 q48 q49;conv=>arg 2;whnf
 go_wp2_with fail
 refine Met.intro (hS_ _ _ ?_);exact⟨_,Fr.r rfl rfl,rfl,HW.out⟩
section
variable (k:Nat)(hk:k<L.length)
include hk
theorem lb12:T3 Tryz.prog (fun a w=>(BeR w0 gt L.length tk v5 out A8 ⟨(geta S (i:Int)).key,⟨#[]⟩⟩ w)∧Fr 98 [(0,.pointer (some ⟨A0,0,none⟩)),(3,.slice (some ⟨gt,0,none⟩) L.length L.length),(4,.int .i64 left),(5,v5),(6,.int .i64 (i:Int)),(8,.pointer (some ⟨A8,0,none⟩)),(23,vs),(24,.int .i64 S.length),(25,.int .i64 (i:Int)),(48,.int .i64 L.length),(49,.int .i64 (k:Int))] a) (sel [1,1,1,1,0,1,4,4,1,1,0,4,1,1,1,0,1,4,4,1,1,0,4,0] lbP) (fun a w=>(BeR w0 gt L.length tk v5 out A8 ⟨(geta S (i:Int)).key,⟨#[]⟩⟩ w)∧Fr 98 [(0,.pointer (some ⟨A0,0,none⟩)),(3,.slice (some ⟨gt,0,none⟩) L.length L.length),(4,.int .i64 left),(5,v5),(6,.int .i64 (i:Int)),(8,.pointer (some ⟨A8,0,none⟩)),(9,.int .i64 (k:Int)),(23,vs),(24,.int .i64 S.length),(25,.int .i64 (i:Int)),(48,.int .i64 L.length),(49,.int .i64 (k:Int))] a) No 9 No:=by
 refine T3.leaf ?_;rintro Q JS JX JT K hS_ hK hX hE hT hR a w ⟨hW,⟨fr,rfl,q0,q3,q4,q5,q6,q8,q23,q24,q25,q48,q49,_⟩⟩;have HW:=Lib.hid hW;obtain⟨q5,d5,rfl⟩:=(Row.of_owns hW.a.o).shape;clear hW h hp hI;rw [fr_lbP,fe q0,fe q3,fe q4,fe q5,fe q6,fe q8,fe q23,fe q24,fe q25,fe q48,fe q49];clear q0 q3 q4 q5 q6 q8 q23 q24 q25 q48 q49;conv=>arg 2;whnf
 go_wp2_with fail
 refine Met.intro (hS_ _ _ ?_);exact⟨HW.out,Fr.r rfl rfl⟩
theorem lb13:T3 Tryz.prog (fun a w=>(BeR w0 gt L.length tk v5 out A8 ⟨(geta S (i:Int)).key,⟨#[]⟩⟩ w)∧Fr 98 [(0,.pointer (some ⟨A0,0,none⟩)),(3,.slice (some ⟨gt,0,none⟩) L.length L.length),(4,.int .i64 left),(5,v5),(6,.int .i64 (i:Int)),(8,.pointer (some ⟨A8,0,none⟩)),(9,.int .i64 (k:Int)),(23,vs),(24,.int .i64 S.length),(25,.int .i64 (i:Int)),(48,.int .i64 L.length),(49,.int .i64 (k:Int))] a) (sel [1,1,1,1,0,1,4,4,1,1,0,4,1,1,1,0,1,4,4,1,1,0,4,1,0,0] lbP) (fun a w=>∃q,Fr 98 ((62,.bool q)::[(0,.pointer (some ⟨A0,0,none⟩)),(3,.slice (some ⟨gt,0,none⟩) L.length L.length),(4,.int .i64 left),(5,v5),(6,.int .i64 (i:Int)),(8,.pointer (some ⟨A8,0,none⟩)),(9,.int .i64 (k:Int)),(23,vs),(24,.int .i64 S.length),(25,.int .i64 (i:Int)),(48,.int .i64 L.length),(49,.int .i64 (k:Int))]) a∧((q=(geta tk (k:Int) || !fitK S L k i))∧BeR w0 gt L.length tk v5 out A8 ⟨(geta S (i:Int)).key,⟨#[]⟩⟩ w)) No 9 No:=by
 refine T3.leaf ?_;rintro Q JS JX JT K hS_ hK hX hE hT hR a w ⟨hW,⟨fr,rfl,q0,q3,q4,q5,q6,q8,q9,q23,q24,q25,q48,q49,_⟩⟩;obtain⟨t0,_⟩:=hW.a.tcell hI.tl hk;have HC:=Lib.hid (fits_prog A0 vl vs S L k i w (h.below hW.a.bel) hk hi);have HW:=Lib.hid hW;obtain⟨q5,d5,rfl⟩:=(Row.of_owns hW.a.o).shape;clear hW h hp hI;generalize fitK S L k i=ff at *;generalize hgt:geta tk (k:Int)=tq at *;have HGT:=Lib.hid hgt;clear hgt;cases tq
 ·rw [fr_lbP,fe q0,fe q3,fe q4,fe q5,fe q6,fe q8,fe q9,fe q23,fe q24,fe q25,fe q48,fe q49];clear q0 q3 q4 q5 q6 q8 q9 q23 q24 q25 q48 q49;conv=>arg 2;whnf
  go_wp2_with fail
  refine HC.out.mono ?_;rintro e w1 ⟨rfl,hb⟩;have H1:=Lib.hid (HW.out.below hb);clear hb;go_wp2_with fail
  refine Met.intro (hS_ _ _ ?_);exact⟨_,Fr.r rfl rfl,by simp,H1.out⟩
 ·clear HC;rw [fr_lbP,fe q0,fe q3,fe q4,fe q5,fe q6,fe q8,fe q9,fe q23,fe q24,fe q25,fe q48,fe q49];clear q0 q3 q4 q5 q6 q8 q9 q23 q24 q25 q48 q49;conv=>arg 2;whnf
  go_wp2_with fail
  refine Met.intro (hS_ _ _ ?_);exact⟨_,Fr.r rfl rfl,by simp,HW.out⟩
theorem lb14:T3 Tryz.prog (fun a w=>(BeR w0 gt L.length tk v5 out A8 ⟨(geta S (i:Int)).key,⟨#[]⟩⟩ w)∧Fr 98 [(0,.pointer (some ⟨A0,0,none⟩)),(3,.slice (some ⟨gt,0,none⟩) L.length L.length),(4,.int .i64 left),(5,v5),(6,.int .i64 (i:Int)),(8,.pointer (some ⟨A8,0,none⟩)),(9,.int .i64 (k:Int)),(23,vs),(24,.int .i64 S.length),(25,.int .i64 (i:Int)),(48,.int .i64 L.length),(49,.int .i64 (k:Int))] a) (sel [1,1,1,1,0,1,4,4,1,1,0,4,1,1,1,0,1,4,4,1,1,0,4,1,1,0] lbP) (fun a w=>(BeR w0 gt L.length (tk.set k true) v5 out A8 ⟨(geta S (i:Int)).key,⟨#[]⟩⟩ w)∧Fr 98 [(0,.pointer (some ⟨A0,0,none⟩)),(3,.slice (some ⟨gt,0,none⟩) L.length L.length),(4,.int .i64 left),(5,v5),(6,.int .i64 (i:Int)),(8,.pointer (some ⟨A8,0,none⟩)),(9,.int .i64 (k:Int)),(23,vs),(24,.int .i64 S.length),(25,.int .i64 (i:Int)),(48,.int .i64 L.length),(49,.int .i64 (k:Int))] a) No 9 No:=by
 refine T3.leaf ?_;rintro Q JS JX JT K hS_ hK hX hE hT hR a w ⟨hW,⟨fr,rfl,q0,q3,q4,q5,q6,q8,q9,q23,q24,q25,q48,q49,_⟩⟩;obtain⟨t0,f0⟩:=hW.a.tcell hI.tl hk;have HW:=Lib.hid (hW.tput hk true);obtain⟨q5,d5,rfl⟩:=(Row.of_owns hW.a.o).shape;clear hW h hp hI;generalize geta tk (k:Int)=tq at *;rw [fr_lbP,fe q0,fe q3,fe q4,fe q5,fe q6,fe q8,fe q9,fe q23,fe q24,fe q25,fe q48,fe q49];clear q0 q3 q4 q5 q6 q8 q9 q23 q24 q25 q48 q49;conv=>arg 2;whnf
 go_wp2_with fail
 refine Met.intro (hS_ _ _ ?_);exact⟨HW.out,Fr.r rfl rfl⟩
end
end
theorem slotV_le {fit:Nat→Nat→Bool}{w:Nat→Int}{l:Nat}{c:Int}(hc:0≤c)(hw:∀k,k<l→w k≤c):∀r i U,slotV fit w l r i U≤r*c
 | 0,_,_=>by simp [slotV]
 | r+1,i,U=>by
  have h0:=slotV_le (fit:=fit) hc hw r (i+1) U;have e:((r+1:Nat):Int)*c=r*c+c:=by rw [Int.natCast_add,Int.add_mul];simp
  rw [e];rcases maxTo_at (c:=fun k=>!U k&&fit k i) (g:=fun k=>slotV fit w l r (i+1) (updU U k)+w k) (v0:=slotV fit w l r (i+1) U) l with h|⟨k,h1,_,h3⟩
  ·show maxTo _ _ _ l≤_;omega
  ·have h4:=slotV_le (fit:=fit) hc hw r (i+1) (updU U k);have h5:=hw k h1;show maxTo _ _ _ l≤_;omega
theorem ScP.wkb {L:List ScD}(h:ScP L){k:Nat}(hk:k<L.length):-64000001≤wK L k∧wK L k≤64000000:=by
 have:=h.hnK hk;unfold wK;omega
theorem BeI.lb {S:List SlD}{L:List ScD}{i:Nat}{tk:List Bool}{out:List FlD}{left:Int}(h:BeI S L i tk out left)(hp:ScP L)(hS:S.length≤4):0≤left∧left≤256000000:=by
 have h1:=(slotV_max (fitK S L) (wK L) L.length (S.length-i) i (gU tk)).nonneg;have h2:=slotV_le (fit:=fitK S L) (w:=wK L) (l:=L.length) (c:=64000000) (by decide) (fun k hk=>(hp.wkb hk).2) (S.length-i) i (gU tk);have h3:=h.lf;unfold slV at h3;rw [h3];refine⟨h1,?_⟩;have h4:((S.length-i:Nat):Int)≤4:=by omega
 omega
section
variable (A0:Nat)(vl vs:Value)(S:List SlD)(L:List ScD)(w0:World)(h:BoH w0 A0 vs S vl L)(hp:ScP L)(hS:S.length≤4)(hl:L.length≤6)(gt:Nat)(i:Nat)(hi:i<S.length)(tk:List Bool)(v5:Value)(out:List FlD)(left:Int)(hI:BeI S L i tk out left)
include h hp hS hl gt hi v5 hI
section
variable (A8:Nat)(k:Nat)(hk:k<L.length)
include A8 hk
theorem lb15:T3 Tryz.prog (fun a w=>(BeR w0 gt L.length (tk.set k true) v5 out A8 ⟨(geta S (i:Int)).key,⟨#[]⟩⟩ w)∧Fr 98 [(0,.pointer (some ⟨A0,0,none⟩)),(3,.slice (some ⟨gt,0,none⟩) L.length L.length),(4,.int .i64 left),(5,v5),(6,.int .i64 (i:Int)),(8,.pointer (some ⟨A8,0,none⟩)),(9,.int .i64 (k:Int)),(23,vs),(24,.int .i64 S.length),(25,.int .i64 (i:Int)),(48,.int .i64 L.length),(49,.int .i64 (k:Int))] a) (sel [1,1,1,1,0,1,4,4,1,1,0,4,1,1,1,0,1,4,4,1,1,0,4,1,1,1,0,0] lbP) (fun a w=>(BeR w0 gt L.length (tk.set k true) v5 out A8 ⟨(geta S (i:Int)).key,⟨#[]⟩⟩ w)∧Fr 98 [(0,.pointer (some ⟨A0,0,none⟩)),(3,.slice (some ⟨gt,0,none⟩) L.length L.length),(4,.int .i64 left),(5,v5),(6,.int .i64 (i:Int)),(8,.pointer (some ⟨A8,0,none⟩)),(9,.int .i64 (k:Int)),(10,.int .i64 (left-wK L k)),(23,vs),(24,.int .i64 S.length),(25,.int .i64 (i:Int)),(48,.int .i64 L.length),(49,.int .i64 (k:Int))] a) No 9 No:=by
 refine T3.leaf ?_;rintro Q JS JX JT K hS_ hK hX hE hT hR a w ⟨hW,⟨fr,rfl,q0,q3,q4,q5,q6,q8,q9,q23,q24,q25,q48,q49,_⟩⟩;have hlb:=hI.lb hp hS;have hwb:=hp.wkb hk;have HC:=Lib.hid (worth_prog A0 vl vs S L k w (h.below hW.a.bel) hp hk);have HW:=Lib.hid hW;obtain⟨q5,d5,rfl⟩:=(Row.of_owns hW.a.o).shape;clear hW h hp hI;generalize wK L k=ww at *;rw [fr_lbP,fe q0,fe q3,fe q4,fe q5,fe q6,fe q8,fe q9,fe q23,fe q24,fe q25,fe q48,fe q49];clear q0 q3 q4 q5 q6 q8 q9 q23 q24 q25 q48 q49;conv=>arg 2;whnf
 go_wp2_with fail
 refine HC.out.mono ?_;rintro e w1 ⟨rfl,hb⟩;have H1:=Lib.hid (HW.out.below hb);clear hb;go_wp2_with fail
 refine Met.intro (hS_ _ _ ?_);exact⟨H1.out,Fr.r rfl rfl⟩
theorem lb16:T3 Tryz.prog (fun a w=>(BeR w0 gt L.length (tk.set k true) v5 out A8 ⟨(geta S (i:Int)).key,⟨#[]⟩⟩ w)∧Fr 98 [(0,.pointer (some ⟨A0,0,none⟩)),(3,.slice (some ⟨gt,0,none⟩) L.length L.length),(4,.int .i64 left),(5,v5),(6,.int .i64 (i:Int)),(8,.pointer (some ⟨A8,0,none⟩)),(9,.int .i64 (k:Int)),(10,.int .i64 (left-wK L k)),(23,vs),(24,.int .i64 S.length),(25,.int .i64 (i:Int)),(48,.int .i64 L.length),(49,.int .i64 (k:Int))] a) (sel [1,1,1,1,0,1,4,4,1,1,0,4,1,1,1,0,1,4,4,1,1,0,4,1,1,1,0,1,0] lbP) (fun a w=>∃q,Fr 98 ((77,.bool q)::[(0,.pointer (some ⟨A0,0,none⟩)),(3,.slice (some ⟨gt,0,none⟩) L.length L.length),(4,.int .i64 left),(5,v5),(6,.int .i64 (i:Int)),(8,.pointer (some ⟨A8,0,none⟩)),(9,.int .i64 (k:Int)),(10,.int .i64 (left-wK L k)),(23,vs),(24,.int .i64 S.length),(25,.int .i64 (i:Int)),(48,.int .i64 L.length),(49,.int .i64 (k:Int))]) a∧((q=decide (slV S L (S.length-(i+1)) (i+1) (gU (tk.set k true))=left-wK L k))∧BeR w0 gt L.length (tk.set k true) v5 out A8 ⟨(geta S (i:Int)).key,⟨#[]⟩⟩ w)) No 9 No:=by
 refine T3.leaf ?_;rintro Q JS JX JT K hS_ hK hX hE hT hR a w ⟨hW,⟨fr,rfl,q0,q3,q4,q5,q6,q8,q9,q10,q23,q24,q25,q48,q49,_⟩⟩;have HC:=Lib.hid (most_prog A0 vl vs (.slice (some ⟨gt,0,none⟩) L.length L.length) S L ((tk.set k true)) (i+1) (S.length-(i+1)) w (h.below hW.a.bel) hp ⟨by omega,by omega⟩ hl (hW.a.tkh (by first|exact hI.tl|(rw [List.length_set];exact hI.tl))));have e1:((i+1:Nat):Int)=(i:Int)+1:=by omega
 rw [e1]at HC;have HQ:=Lib.hid (show slotV (fitK S L) (wK L) L.length (S.length-(i+1)) (i+1) (fun j=>geta ((tk.set k true)) (j:Int))=slV S L (S.length-(i+1)) (i+1) (gU ((tk.set k true)))from rfl);rw [HQ.out]at HC;have hi9:i<100:=by omega
 have HW:=Lib.hid hW;obtain⟨q5,d5,rfl⟩:=(Row.of_owns hW.a.o).shape;clear hW h hp hI e1 HQ;generalize slV S L (S.length-(i+1)) (i+1) (gU (tk.set k true))=sv at *;generalize left-wK L k=rest at *;rw [fr_lbP,fe q0,fe q3,fe q4,fe q5,fe q6,fe q8,fe q9,fe q10,fe q23,fe q24,fe q25,fe q48,fe q49];clear q0 q3 q4 q5 q6 q8 q9 q10 q23 q24 q25 q48 q49;conv=>arg 2;whnf
 go_wp2_with fail
 refine HC.out.mono ?_;rintro e w1 ⟨rfl,hb⟩;have H1:=Lib.hid (HW.out.below hb);clear hb
 by_cases he:sv=rest
 ·subst he;go_wp2_with fail
  refine Met.intro (hS_ _ _ ?_);exact⟨_,Fr.r rfl rfl,by simp,H1.out⟩
 ·have hne:(sv==rest)=false:=by simpa using he
  have HNE:=Lib.hid (show false=decide (sv=rest)by simp [he]);clear he;go_wp2_with fail
  refine Met.intro (hS_ _ _ ?_);exact⟨_,Fr.r rfl rfl,HNE.out,H1.out⟩
theorem lb17:T3 Tryz.prog (fun a w=>(BeR w0 gt L.length (tk.set k true) v5 out A8 ⟨(geta S (i:Int)).key,⟨#[]⟩⟩ w)∧Fr 98 [(0,.pointer (some ⟨A0,0,none⟩)),(3,.slice (some ⟨gt,0,none⟩) L.length L.length),(4,.int .i64 left),(5,v5),(6,.int .i64 (i:Int)),(8,.pointer (some ⟨A8,0,none⟩)),(9,.int .i64 (k:Int)),(10,.int .i64 (left-wK L k)),(23,vs),(24,.int .i64 S.length),(25,.int .i64 (i:Int)),(48,.int .i64 L.length),(49,.int .i64 (k:Int))] a) (sel [1,1,1,1,0,1,4,4,1,1,0,4,1,1,1,0,1,4,4,1,1,0,4,1,1,1,0,1,1,2,0] lbP) (fun a w=>(BeR w0 gt L.length (tk.set k true) v5 out A8 ⟨(geta S (i:Int)).key,(geta L (k:Int)).pl⟩ w)∧Fr 98 [(0,.pointer (some ⟨A0,0,none⟩)),(3,.slice (some ⟨gt,0,none⟩) L.length L.length),(4,.int .i64 (left-wK L k)),(5,v5),(6,.int .i64 (i:Int)),(8,.pointer (some ⟨A8,0,none⟩)),(23,vs),(24,.int .i64 S.length),(25,.int .i64 (i:Int))] a) No 9 No:=by
 refine T3.leaf ?_;rintro Q JS JX JT K hS_ hK hX hE hT hR a w ⟨hW,⟨fr,rfl,q0,q3,q4,q5,q6,q8,q9,q10,q23,q24,q25,q48,q49,_⟩⟩;obtain⟨t8,t9⟩:=hW.fill;have f9:=owns_frozenC hW.b 1;have h1:=h.below hW.a.bel;have b1:=h1.b1;have hR:=h1.c.r;obtain⟨ql,dl,rfl⟩:=hR.shape;obtain⟨bz,off,rfl,_,_,hcell⟩:=Row.nonnil hR (by omega);have t0:=Row.elAt encSc_length hcell (k:=(k:Int)) (by omega) (by omega) 0 _ (by decide) rfl;rw [Int.toNat_natCast,Nat.add_zero]at t0;have HW:=Lib.hid (hW.fput (geta L (k:Int)).pl);obtain⟨q5,d5,rfl⟩:=(Row.of_owns hW.a.o).shape;clear hcell hR h1 hW h hp hI;simp only at t8 t9;generalize (geta L (k:Int)).pl=pl at *;generalize left-wK L k=rest at *;rw [fr_lbP,fe q0,fe q3,fe q4,fe q5,fe q6,fe q8,fe q9,fe q10,fe q23,fe q24,fe q25,fe q48,fe q49];clear q0 q3 q4 q5 q6 q8 q9 q10 q23 q24 q25 q48 q49;conv=>arg 2;whnf
 go_wp2_with fail
 refine Met.intro (hS_ _ _ ?_);exact⟨HW.out,Fr.r rfl rfl⟩
theorem lb18 (htk:geta tk (k:Int)=false):T3 Tryz.prog (fun a w=>(BeR w0 gt L.length (tk.set k true) v5 out A8 ⟨(geta S (i:Int)).key,⟨#[]⟩⟩ w)∧Fr 98 [(0,.pointer (some ⟨A0,0,none⟩)),(3,.slice (some ⟨gt,0,none⟩) L.length L.length),(4,.int .i64 left),(5,v5),(6,.int .i64 (i:Int)),(8,.pointer (some ⟨A8,0,none⟩)),(9,.int .i64 (k:Int)),(10,.int .i64 (left-wK L k)),(23,vs),(24,.int .i64 S.length),(25,.int .i64 (i:Int)),(48,.int .i64 L.length),(49,.int .i64 (k:Int))] a) (sel [1,1,1,1,0,1,4,4,1,1,0,4,1,1,1,0,1,4,4,1,1,0,4,1,1,1,1] lbP) (fun a w=>(BeR w0 gt L.length tk v5 out A8 ⟨(geta S (i:Int)).key,⟨#[]⟩⟩ w)∧Fr 98 [(0,.pointer (some ⟨A0,0,none⟩)),(3,.slice (some ⟨gt,0,none⟩) L.length L.length),(4,.int .i64 left),(5,v5),(6,.int .i64 (i:Int)),(8,.pointer (some ⟨A8,0,none⟩)),(23,vs),(24,.int .i64 S.length),(25,.int .i64 (i:Int)),(48,.int .i64 L.length),(49,.int .i64 (k:Int))] a) No 9 No:=by
 refine T3.leaf ?_;rintro Q JS JX JT K hS_ hK hX hE hT hR a w ⟨hW,⟨fr,rfl,q0,q3,q4,q5,q6,q8,q9,q10,q23,q24,q25,q48,q49,_⟩⟩;have hkt:k<tk.length:=by have:=hI.tl;omega
 obtain⟨t0,f0⟩:=hW.a.tcell (by rw [List.length_set];exact hI.tl) hk;have hput:=hW.tput hk false;rw [set_back htk hkt]at hput;have HW:=Lib.hid hput;obtain⟨q5,d5,rfl⟩:=(Row.of_owns hW.a.o).shape;clear hput hW h hp hI htk;generalize geta (tk.set k true) (k:Int)=tq at *;rw [fr_lbP,fe q0,fe q3,fe q4,fe q5,fe q6,fe q8,fe q9,fe q10,fe q23,fe q24,fe q25,fe q48,fe q49];clear q0 q3 q4 q5 q6 q8 q9 q10 q23 q24 q25 q48 q49;conv=>arg 2;whnf
 go_wp2_with fail
 refine Met.intro (hS_ _ _ ?_);exact⟨HW.out,Fr.r rfl rfl⟩
theorem lb19:T3 Tryz.prog (fun a w=>(BeR w0 gt L.length tk v5 out A8 ⟨(geta S (i:Int)).key,⟨#[]⟩⟩ w)∧Fr 98 [(0,.pointer (some ⟨A0,0,none⟩)),(3,.slice (some ⟨gt,0,none⟩) L.length L.length),(4,.int .i64 left),(5,v5),(6,.int .i64 (i:Int)),(8,.pointer (some ⟨A8,0,none⟩)),(23,vs),(24,.int .i64 S.length),(25,.int .i64 (i:Int)),(48,.int .i64 L.length),(49,.int .i64 (k:Int))] a) (sel [1,1,1,1,0,1,4,4,1,1,0,4,1,1,1,0,1,4,4,1,1,1] lbP) (fun a w=>(BeR w0 gt L.length tk v5 out A8 ⟨(geta S (i:Int)).key,⟨#[]⟩⟩ w)∧Fr 98 [(0,.pointer (some ⟨A0,0,none⟩)),(3,.slice (some ⟨gt,0,none⟩) L.length L.length),(4,.int .i64 left),(5,v5),(6,.int .i64 (i:Int)),(8,.pointer (some ⟨A8,0,none⟩)),(23,vs),(24,.int .i64 S.length),(25,.int .i64 (i:Int)),(48,.int .i64 L.length),(49,.int .i64 ((k+1:Nat):Int))] a) No 9 No:=by
 refine T3.leaf ?_;rintro Q JS JX JT K hS_ hK hX hE hT hR a w ⟨hW,⟨fr,rfl,q0,q3,q4,q5,q6,q8,q23,q24,q25,q48,q49,_⟩⟩;have hk9:k<100:=by omega
 have HW:=Lib.hid hW;obtain⟨q5,d5,rfl⟩:=(Row.of_owns hW.a.o).shape;clear hW h hp hI;have HQ:=Lib.hid (show(k:Int)+1=((k+1:Nat):Int)by omega);generalize ((k+1:Nat):Int)=k1 at *;rw [fr_lbP,fe q0,fe q3,fe q4,fe q5,fe q6,fe q8,fe q23,fe q24,fe q25,fe q48,fe q49];clear q0 q3 q4 q5 q6 q8 q23 q24 q25 q48 q49;conv=>arg 2;whnf
 go_wp2_with fail
 rw [HQ.out];refine Met.intro (hS_ _ _ ?_);exact⟨HW.out,Fr.r rfl rfl⟩
theorem lbD (hn:∀j,j<k→grP S L (S.length-(i+1)) i (gU tk) left j=false):T3 Tryz.prog (fun a w=>(BeR w0 gt L.length tk v5 out A8 ⟨(geta S (i:Int)).key,⟨#[]⟩⟩ w)∧Fr 98 [(0,.pointer (some ⟨A0,0,none⟩)),(3,.slice (some ⟨gt,0,none⟩) L.length L.length),(4,.int .i64 left),(5,v5),(6,.int .i64 (i:Int)),(8,.pointer (some ⟨A8,0,none⟩)),(23,vs),(24,.int .i64 S.length),(25,.int .i64 (i:Int)),(48,.int .i64 L.length),(49,.int .i64 (k:Int))] a) (sel [1,1,1,1,0,1,4,4,1,1,0,4,1,1,1,0,1,4,4,1,1,0] lbP) (fun a w=>(grP S L (S.length-(i+1)) i (gU tk) left k=false)∧(BeR w0 gt L.length tk v5 out A8 ⟨(geta S (i:Int)).key,⟨#[]⟩⟩ w)∧Fr 98 [(0,.pointer (some ⟨A0,0,none⟩)),(3,.slice (some ⟨gt,0,none⟩) L.length L.length),(4,.int .i64 left),(5,v5),(6,.int .i64 (i:Int)),(8,.pointer (some ⟨A8,0,none⟩)),(23,vs),(24,.int .i64 S.length),(25,.int .i64 (i:Int)),(48,.int .i64 L.length),(49,.int .i64 (k:Int))] a) (fun a w=>∃k:Nat,(firstK (grP S L (S.length-(i+1)) i (gU tk) left) L.length 0=some k)∧(BeR w0 gt L.length (tk.set k true) v5 out A8 ⟨(geta S (i:Int)).key,(geta L (k:Int)).pl⟩ w)∧Fr 98 [(0,.pointer (some ⟨A0,0,none⟩)),(3,.slice (some ⟨gt,0,none⟩) L.length L.length),(4,.int .i64 (left-wK L k)),(5,v5),(6,.int .i64 (i:Int)),(8,.pointer (some ⟨A8,0,none⟩)),(23,vs),(24,.int .i64 S.length),(25,.int .i64 (i:Int))] a) 2 No:=by
 refine T3.blockTwo (id:=3) (a:=(sel [1,1,1,1,0,1,4,4,1,1,0,4,1,1,1,0,1,4,4,1,1,0,4,0] lbP)) (b:=(sel [1,1,1,1,0,1,4,4,1,1,0,4,1,1,1,0,1,4,4,1,1,0,4,1,0] lbP)) (c:=(sel [1,1,1,1,0,1,4,4,1,1,0,4,1,1,1,0,1,4,4,1,1,0,4,1,1] lbP)) (S1:=fun a w=>(geta tk (k:Int)=false∧fitK S L k i=true)∧(BeR w0 gt L.length tk v5 out A8 ⟨(geta S (i:Int)).key,⟨#[]⟩⟩ w)∧Fr 98 [(0,.pointer (some ⟨A0,0,none⟩)),(3,.slice (some ⟨gt,0,none⟩) L.length L.length),(4,.int .i64 left),(5,v5),(6,.int .i64 (i:Int)),(8,.pointer (some ⟨A8,0,none⟩)),(9,.int .i64 (k:Int)),(23,vs),(24,.int .i64 S.length),(25,.int .i64 (i:Int)),(48,.int .i64 L.length),(49,.int .i64 (k:Int))] a) (by decide) ((lb12 A0 vl vs S L w0 h hp hS hl gt i hi tk v5 out left hI A8 k hk).noX) ?_ (T3.pure fun hh=>?_)
 ·refine T3.test (s:=(sel [1,1,1,1,0,1,4,4,1,1,0,4,1,1,1,0,1,4,4,1,1,0,4,1,0,0] lbP)) (x:=.exit 3) (y:=.skip) (C:=fun q=>(q=(geta tk (k:Int) || !fitK S L k i))) (W:=fun w=>BeR w0 gt L.length tk v5 out A8 ⟨(geta S (i:Int)).key,⟨#[]⟩⟩ w) (by decide) ((lb13 A0 vl vs S L w0 h hp hS hl gt i hi tk v5 out left hI A8 k hk).noX) (T3.exit ?_) (T3.skip ?_)
  ·rintro a w ⟨hF,hq,hW⟩;refine⟨?_,hW,hF.sub (by simp)⟩;show(!geta tk (k:Int)&&(fitK S L k i&&_))=false
   revert hq
   cases geta tk (k:Int) <;> cases fitK S L k i <;> intro hq <;> first|rfl|cases hq
  ·rintro a w ⟨hq,hW,hF⟩;refine⟨?_,hW,hF⟩
   revert hq
   cases geta tk (k:Int) <;> cases fitK S L k i <;> intro hq <;> first|exact⟨rfl,rfl⟩|cases hq
 ·have hkt:k<tk.length:=by have:=hI.tl;omega
  have hg:gU tk k=false:=hh.1;have hgs:=gU_set hkt;refine T3.sq rfl ((lb14 A0 vl vs S L w0 h hp hS hl gt i hi tk v5 out left hI A8 k hk).noX) ?_;refine T3.sq rfl (S:=fun a w=>(grP S L (S.length-(i+1)) i (gU tk) left k=false)∧(BeR w0 gt L.length (tk.set k true) v5 out A8 ⟨(geta S (i:Int)).key,⟨#[]⟩⟩ w)∧Fr 98 [(0,.pointer (some ⟨A0,0,none⟩)),(3,.slice (some ⟨gt,0,none⟩) L.length L.length),(4,.int .i64 left),(5,v5),(6,.int .i64 (i:Int)),(8,.pointer (some ⟨A8,0,none⟩)),(9,.int .i64 (k:Int)),(10,.int .i64 (left-wK L k)),(23,vs),(24,.int .i64 S.length),(25,.int .i64 (i:Int)),(48,.int .i64 L.length),(49,.int .i64 (k:Int))] a) (T3.seq (s:=(sel [1,1,1,1,0,1,4,4,1,1,0,4,1,1,1,0,1,4,4,1,1,0,4,1,1,1,0,0] lbP)) (c:=(sel [1,1,1,1,0,1,4,4,1,1,0,4,1,1,1,0,1,4,4,1,1,0,4,1,1,1,0,1] lbP)) ((lb15 A0 vl vs S L w0 h hp hS hl gt i hi tk v5 out left hI A8 k hk).noX) ?_) (T3.pure fun hf=>?_)
  ·refine T3.tt rfl (C:=fun q=>(q=decide (slV S L (S.length-(i+1)) (i+1) (gU (tk.set k true))=left-wK L k))) (W:=fun w=>BeR w0 gt L.length (tk.set k true) v5 out A8 ⟨(geta S (i:Int)).key,⟨#[]⟩⟩ w) (by decide) ((lb16 A0 vl vs S L w0 h hp hS hl gt i hi tk v5 out left hI A8 k hk).noX) ?_ (T3.skip ?_)
   ·refine T3.seq (s:=(sel [1,1,1,1,0,1,4,4,1,1,0,4,1,1,1,0,1,4,4,1,1,0,4,1,1,1,0,1,1,2,0] lbP)) (c:=.exit 2) (S:=fun a w=>(grP S L (S.length-(i+1)) i (gU tk) left k=true)∧(BeR w0 gt L.length (tk.set k true) v5 out A8 ⟨(geta S (i:Int)).key,(geta L (k:Int)).pl⟩ w)∧Fr 98 [(0,.pointer (some ⟨A0,0,none⟩)),(3,.slice (some ⟨gt,0,none⟩) L.length L.length),(4,.int .i64 (left-wK L k)),(5,v5),(6,.int .i64 (i:Int)),(8,.pointer (some ⟨A8,0,none⟩)),(23,vs),(24,.int .i64 S.length),(25,.int .i64 (i:Int))] a) (T3.pre (R:=fun a w=>(grP S L (S.length-(i+1)) i (gU tk) left k=true)∧(BeR w0 gt L.length (tk.set k true) v5 out A8 ⟨(geta S (i:Int)).key,⟨#[]⟩⟩ w)∧Fr 98 [(0,.pointer (some ⟨A0,0,none⟩)),(3,.slice (some ⟨gt,0,none⟩) L.length L.length),(4,.int .i64 left),(5,v5),(6,.int .i64 (i:Int)),(8,.pointer (some ⟨A8,0,none⟩)),(9,.int .i64 (k:Int)),(10,.int .i64 (left-wK L k)),(23,vs),(24,.int .i64 S.length),(25,.int .i64 (i:Int)),(48,.int .i64 L.length),(49,.int .i64 (k:Int))] a) (T3.pure fun hp1=>((lb17 A0 vl vs S L w0 h hp hS hl gt i hi tk v5 out left hI A8 k hk).noX).post (fun a w q=>⟨hp1,q⟩)) ?_) (T3.exit ?_)
    ·rintro a w ⟨hF,hq,hW⟩;refine⟨?_,hW,hF.tail⟩;have hd:=of_decide_eq_true hq.symm;rw [hgs]at hd;unfold grP;rw [hg,hh.2,decide_eq_true hd];rfl
    ·rintro a w ⟨hp1,q⟩;exact⟨k,BeI.hit hk hn hp1,q⟩
   ·rintro a w ⟨hq,hW,hF⟩;refine⟨?_,hW,hF⟩;rw [hgs]at hq;unfold grP;rw [hg,hh.2,←hq];rfl
  ·exact((lb18 A0 vl vs S L w0 h hp hS hl gt i hi tk v5 out left hI A8 k hk hh.1).noX).post (fun a w q=>⟨hf,q⟩)
end
theorem lbK (A8:Nat)(hne:slV S L (S.length-(i+1)) (i+1) (gU tk)≠left):T3 Tryz.prog (fun a w=>(BeR w0 gt L.length tk v5 out A8 ⟨(geta S (i:Int)).key,⟨#[]⟩⟩ w)∧Fr 98 [(0,.pointer (some ⟨A0,0,none⟩)),(3,.slice (some ⟨gt,0,none⟩) L.length L.length),(4,.int .i64 left),(5,v5),(6,.int .i64 (i:Int)),(8,.pointer (some ⟨A8,0,none⟩)),(23,vs),(24,.int .i64 S.length),(25,.int .i64 (i:Int)),(48,.int .i64 L.length),(49,.int .i64 0)] a) (sel [1,1,1,1,0,1,4,4,1,1,0,4,1,1,1,0,1] lbP) (fun a w=>∃k:Nat,(firstK (grP S L (S.length-(i+1)) i (gU tk) left) L.length 0=some k)∧(BeR w0 gt L.length (tk.set k true) v5 out A8 ⟨(geta S (i:Int)).key,(geta L (k:Int)).pl⟩ w)∧Fr 98 [(0,.pointer (some ⟨A0,0,none⟩)),(3,.slice (some ⟨gt,0,none⟩) L.length L.length),(4,.int .i64 (left-wK L k)),(5,v5),(6,.int .i64 (i:Int)),(8,.pointer (some ⟨A8,0,none⟩)),(23,vs),(24,.int .i64 S.length),(25,.int .i64 (i:Int))] a) No 9 No:=by
 refine T3.loop (c:=(sel [1,1,1,1,0,1,4,4,1,1,0,4,1,1,1,0,1,4,4] lbP)) (fun ng_ a w=>∃k:Nat,(ng_+k=L.length∧∀j,j<k→grP S L (S.length-(i+1)) i (gU tk) left j=false)∧(BeR w0 gt L.length tk v5 out A8 ⟨(geta S (i:Int)).key,⟨#[]⟩⟩ w)∧Fr 98 [(0,.pointer (some ⟨A0,0,none⟩)),(3,.slice (some ⟨gt,0,none⟩) L.length L.length),(4,.int .i64 left),(5,v5),(6,.int .i64 (i:Int)),(8,.pointer (some ⟨A8,0,none⟩)),(23,vs),(24,.int .i64 S.length),(25,.int .i64 (i:Int)),(48,.int .i64 L.length),(49,.int .i64 (k:Int))] a) (fun a w h=>⟨L.length,0,⟨by omega,fun j hj=>by omega⟩,h⟩) (fun ng_=>T3.ex fun k=>T3.pure fun hK_=>?_);have hkl:k≤L.length:=by have:=hK_.1;omega
 refine T3.sq rfl ((lb11 A0 vl vs S L w0 h hp hS hl gt i hi tk v5 out left hI A8 k hkl).noX) ?_;refine T3.sq rfl (S:=fun a w=>(k<L.length)∧(BeR w0 gt L.length tk v5 out A8 ⟨(geta S (i:Int)).key,⟨#[]⟩⟩ w)∧Fr 98 [(0,.pointer (some ⟨A0,0,none⟩)),(3,.slice (some ⟨gt,0,none⟩) L.length L.length),(4,.int .i64 left),(5,v5),(6,.int .i64 (i:Int)),(8,.pointer (some ⟨A8,0,none⟩)),(23,vs),(24,.int .i64 S.length),(25,.int .i64 (i:Int)),(48,.int .i64 L.length),(49,.int .i64 (k:Int))] a) ?_ (T3.pure fun hk=>T3.seq (s:=(sel [1,1,1,1,0,1,4,4,1,1,0,4,1,1,1,0,1,4,4,1,1,0] lbP)) (c:=(sel [1,1,1,1,0,1,4,4,1,1,0,4,1,1,1,0,1,4,4,1,1,1] lbP)) (lbD A0 vl vs S L w0 h hp hS hl gt i hi tk v5 out left hI A8 k hk hK_.2) (T3.pure fun hf=>?_))
 ·refine T3.cond (o:=.tmp 50) (x:=.skip) (y:=.exit 2) (fun a w=>k<L.length∧(BeR w0 gt L.length tk v5 out A8 ⟨(geta S (i:Int)).key,⟨#[]⟩⟩ w)∧Fr 98 [(0,.pointer (some ⟨A0,0,none⟩)),(3,.slice (some ⟨gt,0,none⟩) L.length L.length),(4,.int .i64 left),(5,v5),(6,.int .i64 (i:Int)),(8,.pointer (some ⟨A8,0,none⟩)),(23,vs),(24,.int .i64 S.length),(25,.int .i64 (i:Int)),(48,.int .i64 L.length),(49,.int .i64 (k:Int))] a) (fun a w=>¬k<L.length∧(BeR w0 gt L.length tk v5 out A8 ⟨(geta S (i:Int)).key,⟨#[]⟩⟩ w)∧Fr 98 [(0,.pointer (some ⟨A0,0,none⟩)),(3,.slice (some ⟨gt,0,none⟩) L.length L.length),(4,.int .i64 left),(5,v5),(6,.int .i64 (i:Int)),(8,.pointer (some ⟨A8,0,none⟩)),(23,vs),(24,.int .i64 S.length),(25,.int .i64 (i:Int)),(48,.int .i64 L.length),(49,.int .i64 (k:Int))] a) ?_ (T3.skip fun _ _ q=>q) (T3.exit ?_)
  ·rintro a w ⟨q,hF,hq,hW⟩;have he:=hF.eval 50 (by decide) (v:=.bool q) (by simp)
   by_cases hlt:k<L.length
   ·exact .inl ⟨by rw [he,hq];simp [hlt],hlt,hW,hF.tail⟩
   ·exact .inr ⟨by rw [he,hq];simp [hlt],hlt,hW,hF.tail⟩
  ·rintro a w ⟨hlt,hW,hF⟩;exact(hI.found hi hne (fun j hj=>hK_.2 j (by omega))).elim
 ·exact((lb19 A0 vl vs S L w0 h hp hS hl gt i hi tk v5 out left hI A8 k hk).noX).post (fun a w q=>⟨ng_-1,by omega,k+1,⟨by omega,fun j hj=>by
   by_cases e:j=k
   ·subst e;exact hf
   ·exact hK_.2 j (by omega)⟩,q⟩)
theorem lbR:T3 Tryz.prog (fun a w=>(BeW w0 gt L.length tk v5 out w)∧Fr 98 [(0,.pointer (some ⟨A0,0,none⟩)),(3,.slice (some ⟨gt,0,none⟩) L.length L.length),(4,.int .i64 left),(5,v5),(23,vs),(24,.int .i64 S.length),(25,.int .i64 (i:Int))] a) (sel [1,1,1,1,0,1,4,4,1,1,0] lbP) (fun a w=>∃(tk:List Bool) (v5:Value) (out:List FlD) (left:Int),(BeI S L (i+1) tk out left)∧(BeW w0 gt L.length tk v5 out w)∧Fr 98 [(0,.pointer (some ⟨A0,0,none⟩)),(3,.slice (some ⟨gt,0,none⟩) L.length L.length),(4,.int .i64 left),(5,v5),(23,vs),(24,.int .i64 S.length),(25,.int .i64 (i:Int))] a) No 9 No:=by
 have hol:out.length≤100:=by have:=hI.ol;omega
 refine T3.blockX (id:=1) (c:=(sel [1,1,1,1,0,1,4,4,1,1,0,4] lbP)) ?_;refine T3.sq rfl ((lb6 A0 vl vs S L w0 h hp hS hl gt i hi tk v5 out left hI).noX) (T3.ex fun A7=>?_);refine T3.sq rfl ((lb7 A0 vl vs S L w0 h hp hS hl gt i hi tk v5 out left hI A7).noX) (T3.ex fun A8=>?_);refine T3.sq rfl (S:=fun a w=>(slV S L (S.length-(i+1)) (i+1) (gU tk)≠left)∧(BeR w0 gt L.length tk v5 out A8 ⟨(geta S (i:Int)).key,⟨#[]⟩⟩ w)∧Fr 98 [(0,.pointer (some ⟨A0,0,none⟩)),(3,.slice (some ⟨gt,0,none⟩) L.length L.length),(4,.int .i64 left),(5,v5),(6,.int .i64 (i:Int)),(8,.pointer (some ⟨A8,0,none⟩)),(23,vs),(24,.int .i64 S.length),(25,.int .i64 (i:Int))] a) ?_ (T3.pure fun hne=>?_)
 ·refine T3.tt rfl (C:=fun q=>(q=decide (slV S L (S.length-(i+1)) (i+1) (gU tk)=left))) (W:=fun w=>BeR w0 gt L.length tk v5 out A8 ⟨(geta S (i:Int)).key,⟨#[]⟩⟩ w) (by decide) ((lb8 A0 vl vs S L w0 h hp hS hl gt i hi tk v5 out left hI A8).noX) ?_ (T3.skip ?_)
  ·refine T3.pre (R:=fun a w=>(slV S L (S.length-(i+1)) (i+1) (gU tk)=left)∧(BeR w0 gt L.length tk v5 out A8 ⟨(geta S (i:Int)).key,⟨#[]⟩⟩ w)∧Fr 98 [(0,.pointer (some ⟨A0,0,none⟩)),(3,.slice (some ⟨gt,0,none⟩) L.length L.length),(4,.int .i64 left),(5,v5),(6,.int .i64 (i:Int)),(8,.pointer (some ⟨A8,0,none⟩)),(23,vs),(24,.int .i64 S.length),(25,.int .i64 (i:Int))] a) (T3.pure fun he=>?_) (fun a w ⟨hF,hq,hW⟩=>⟨of_decide_eq_true hq.symm,hW,hF.tail⟩);refine T3.seq (s:=(sel [1,1,1,1,0,1,4,4,1,1,0,4,1,1,0,1,2,0] lbP)) (c:=.exit 1) ((lb9 A0 vl vs S L w0 h hp hS hl gt i tk v5 out left A8 ⟨(geta S (i:Int)).key,⟨#[]⟩⟩ hol).noX) (T3.exit ?_);rintro a w ⟨v5',hW,hF⟩;exact⟨tk,v5',_,left,hI.none hi he,hW,hF⟩
  ·rintro a w ⟨hq,hW,hF⟩;exact⟨of_decide_eq_false hq.symm,hW,hF⟩
 ·refine T3.sq rfl ((T3.seq (s:=(sel [1,1,1,1,0,1,4,4,1,1,0,4,1,1,1,0,0] lbP)) (c:=(sel [1,1,1,1,0,1,4,4,1,1,0,4,1,1,1,0,1] lbP)) (lb10 A0 vl vs S L w0 h hp hS hl gt i hi tk v5 out left hI A8) (lbK A0 vl vs S L w0 h hp hS hl gt i hi tk v5 out left hI A8 hne)).noX) (T3.ex fun k=>T3.pure fun hk=>?_);refine((lb20 A0 vl vs S L w0 h hp hS hl gt i (tk.set k true) v5 out (left-wK L k) A8 ⟨(geta S (i:Int)).key,(geta L (k:Int)).pl⟩ hol).noX).post ?_;rintro a w ⟨v5',hW,hF⟩;exact⟨_,v5',_,_,hI.some hi hne hk,hW,hF⟩
end
section
variable (A0:Nat)(vl vs:Value)(S:List SlD)(L:List ScD)(w0:World)(h:BoH w0 A0 vs S vl L)(hp:ScP L)(hS:S.length≤4)(hl:L.length≤6)
include h hp hS hl
section
variable (gt:Nat)(k:Int)
include gt k
theorem lbb:T3 Tryz.prog (fun a w=>∃(tk:List Bool) (v5:Value) (out:List FlD) (left:Int),((0≤k∧k<S.length)∧BeI S L (k:Int).toNat tk out left)∧(BeW w0 gt L.length tk v5 out w)∧Fr 98 [(0,.pointer (some ⟨A0,0,none⟩)),(3,.slice (some ⟨gt,0,none⟩) L.length L.length),(4,.int .i64 left),(5,v5),(23,vs),(24,.int .i64 S.length),(25,.int .i64 k)] a) (sel [1,1,1,1,0,1,4,4,1,1,0] lbP) (fun a w=>∃(tk:List Bool) (v5:Value) (out:List FlD) (left:Int),((0≤k∧k<S.length)∧BeI S L (k+1:Int).toNat tk out left)∧(BeW w0 gt L.length tk v5 out w)∧Fr 98 [(0,.pointer (some ⟨A0,0,none⟩)),(3,.slice (some ⟨gt,0,none⟩) L.length L.length),(4,.int .i64 left),(5,v5),(23,vs),(24,.int .i64 S.length),(25,.int .i64 k)] a) No 9 No:=by
 refine T3.ex fun tk=>T3.ex fun v5=>T3.ex fun out=>T3.ex fun left=>T3.pure fun hh=>?_
 obtain⟨i,rfl⟩:=Int.eq_ofNat_of_zero_le hh.1.1;have hI:=hh.2;rw [Int.toNat_natCast]at hI;refine(lbR A0 vl vs S L w0 h hp hS hl gt i (by omega) tk v5 out left hI).post ?_;rintro a w ⟨tk2,v2,out2,left2,hI2,hW,hF⟩;exact⟨tk2,v2,out2,left2,⟨hh.1,by rw [show((i:Int)+1).toNat=i+1 by omega];exact hI2⟩,hW,hF⟩
def lbAI (A0:Nat)(vl vs:Value)(S:List SlD)(L:List ScD)(w0:World)(h:BoH w0 A0 vs S vl L)(hp:ScP L)(hS:S.length≤4)(hl:L.length≤6)(gt:Nat)(k:Int)(a:Act)(w:World):Prop:=(0≤k∧k≤S.length)∧∃(tk:List Bool) (v5:Value) (out:List FlD) (left:Int),(BeI S L (k:Int).toNat tk out left)∧(BeW w0 gt L.length tk v5 out w)∧Fr 98 [(0,.pointer (some ⟨A0,0,none⟩)),(3,.slice (some ⟨gt,0,none⟩) L.length L.length),(4,.int .i64 left),(5,v5),(23,vs),(24,.int .i64 S.length),(25,.int .i64 k)] a
theorem lbAt:T3 Tryz.prog (fun a w=>lbAI A0 vl vs S L w0 h hp hS hl gt k a w) (sel [1,1,1,1,0,1,4,4,0] lbP) (fun a w=>∃q,Fr 98 ((26,.bool q)::[(25,.int .i64 k)]) a∧((q=true↔k<S.length)∧lbAI A0 vl vs S L w0 h hp hS hl gt k a w)) No 9 No:=by
 refine T3.leaf ?_;rintro Q JS JX JT K hS_ hK hX hE hT hR a w ⟨hk,tk,v5,out,left,hpre,hW,⟨fr,rfl,q0,q3,q4,q5,q23,q24,q25,_⟩⟩;rw [fr_lbP,fe q0,fe q3,fe q4,fe q5,fe q23,fe q24,fe q25];clear q0 q3 q4 q5 q23 q24 q25;conv=>arg 2;whnf
 by_cases hlt:k<S.length
 ·go_wp2_with fail
  refine Met.intro (hS_ _ _ ?_);exact⟨true,Fr.r rfl rfl,⟨fun _=>hlt,fun _=>rfl⟩,hk,tk,v5,out,left,hpre,hW,Fr.r rfl rfl⟩
 ·have hpb:decide (k<(S.length:Int))=false:=by simp;omega
  go_wp2_with fail
  refine Met.intro (hS_ _ _ ?_);exact⟨false,Fr.r rfl rfl,⟨(fun h=>by cases h),fun h=>absurd h (by omega)⟩,hk,tk,v5,out,left,hpre,hW,Fr.r rfl rfl⟩
theorem lbAn:T3 Tryz.prog (fun a w=>(0≤k∧k<S.length)∧∃(tk:List Bool) (v5:Value) (out:List FlD) (left:Int),(BeI S L ((k+1):Int).toNat tk out left)∧(BeW w0 gt L.length tk v5 out w)∧Fr 98 [(0,.pointer (some ⟨A0,0,none⟩)),(3,.slice (some ⟨gt,0,none⟩) L.length L.length),(4,.int .i64 left),(5,v5),(23,vs),(24,.int .i64 S.length),(25,.int .i64 k)] a) (sel [1,1,1,1,0,1,4,4,1,1,1] lbP) (fun a w=>lbAI A0 vl vs S L w0 h hp hS hl gt (k+1) a w) No 9 No:=by
 refine T3.leaf ?_;rintro Q JS JX JT K hS_ hK hX hE hT hR a w ⟨hk,tk,v5,out,left,hpre,hW,⟨fr,rfl,q0,q3,q4,q5,q23,q24,q25,_⟩⟩;obtain⟨hk0,hk1⟩:=hk;rw [fr_lbP,fe q0,fe q3,fe q4,fe q5,fe q23,fe q24,fe q25];clear q0 q3 q4 q5 q23 q24 q25;conv=>arg 2;whnf
 go_wp2_with fail
 refine Met.intro (hS_ _ _ ?_);exact⟨⟨by omega,by omega⟩,tk,v5,out,left,hpre,hW,Fr.r rfl rfl⟩
end
theorem lbAloop (gt:Nat):T3 Tryz.prog (fun a w=>lbAI A0 vl vs S L w0 h hp hS hl gt 0 a w) (sel [1,1,1,1,0,1] lbP) (fun a w=>∃(v5:Value),(Below w0.heap.size w0 w∧w.ownsRow w0.heap.size 49 2 v5 (bestF S L).length (cellsOf encFl (bestF S L)))∧Fr 98 [(5,v5)] a) No 9 No :=
 T3.range (I:=lbAI A0 vl vs S L w0 h hp hS hl gt) rfl (by decide) (lbAt A0 vl vs S L w0 h hp hS hl gt) (lbAn A0 vl vs S L w0 h hp hS hl gt) (fun _ _ _ h=>h.1) (fun k hk=>T3.mono (lbb A0 vl vs S L w0 h hp hS hl gt k) (fun a w ⟨_,tk,v5,out,left,hp,hI⟩=>⟨tk,v5,out,left,⟨hk,hp⟩,hI⟩) (fun a w ⟨tk,v5,out,left,⟨hk,hp⟩,hI⟩=>⟨hk,tk,v5,out,left,hp,hI⟩) (fun _ _ q=>q) (fun _ _ q=>q)) (fun a w hI=>by
  obtain⟨hk,hI⟩:=hI;obtain⟨tk,v5,out,left,hI,hW,hF⟩:=hI;rw [Int.toNat_natCast]at hI;have hg:=hI.gr;rw [Nat.sub_self,show grF S L 0 S.length (gU tk)=[]from rfl,show fillsOf S L S.length []=[]from rfl,List.append_nil]at hg;rw [hg];exact⟨v5,⟨hW.bel,hW.o⟩,hF.sub (by simp)⟩)
theorem lb22 (v5:Value):T3 Tryz.prog (fun a w=>(Below w0.heap.size w0 w∧w.ownsRow w0.heap.size 49 2 v5 (bestF S L).length (cellsOf encFl (bestF S L)))∧Fr 98 [(5,v5)] a) (sel [1,1,1,1,1,0] lbP) (fun a w=>(Below w0.heap.size w0 w∧w.ownsRow w0.heap.size 49 2 v5 (bestF S L).length (cellsOf encFl (bestF S L)))∧Fr 98 [(2,v5)] a) No 9 No:=by
 refine T3.leaf ?_;rintro Q JS JX JT K hS_ hK hX hE hT hR a w ⟨hW,⟨fr,rfl,q5,_⟩⟩;obtain⟨q5,d5,rfl⟩:=(Row.of_owns hW.2).shape;have HW:=Lib.hid hW;clear hW h hp;rw [fr_lbP,fe q5];clear q5;conv=>arg 2;whnf
 go_wp2_with fail
 refine Met.intro (hS_ _ _ ?_);exact⟨HW.out,Fr.of _ rfl ⟨rfl,trivial⟩⟩
theorem lb_all:T3 Tryz.prog (fun a w=>(Below w0.heap.size w0 w)∧Fr 98 [(0,.pointer (some ⟨A0,0,none⟩))] a) lbP No No 9 (fun a w=>∃v5:Value,(Below w0.heap.size w0 w∧w.ownsRow w0.heap.size 49 2 v5 (bestF S L).length (cellsOf encFl (bestF S L)))∧Fr 98 [(2,v5)] a):=by
 refine T3.seq (s:=(sel [0] lbP)) (c:=(sel [1] lbP)) (T3.noT (lb0 A0 vl vs S L w0 h hp hS hl)) ?_;refine T3.sq rfl (T3.noT (lb1 A0 vl vs S L w0 h hp hS hl)) ?_;refine T3.ex fun gt=>?_
 refine T3.sq rfl (T3.noT (lb2 A0 vl vs S L w0 h hp hS hl gt)) ?_;refine T3.ex fun left=>T3.pure fun hlf=>?_
 refine T3.sq rfl (T3.noT (lb3 A0 vl vs S L w0 h hp hS hl gt left)) ?_;refine T3.ex fun v5=>?_
 refine T3.sq rfl (T3.noT (T3.seq (s:=(sel [1,1,1,1,0,0] lbP)) (c:=(sel [1,1,1,1,0,1] lbP)) (lb4 A0 vl vs S L w0 h hp hS hl gt left hlf v5) (lbAloop A0 vl vs S L w0 h hp hS hl gt))) ?_;refine T3.ex fun v5=>?_
 exact T3.sr rfl (T3.noT (lb22 A0 vl vs S L w0 h hp hS hl v5)) (T3.ret fun a w q=>⟨v5,q⟩)
theorem best_prog:Calls Tryz.prog 49 #[.pointer (some ⟨A0,0,none⟩)] w0 fun e w'=>∃v5:Value,e=.returned v5∧w'.ownsRow w0.heap.size 49 2 v5 (bestF S L).length (cellsOf encFl (bestF S L))∧Below w0.heap.size w0 w':=by
 have hall:=lb_all A0 vl vs S L w0 h hp hS hl;clear h hp
 go_enter Tryz.func49,Tryz.ntmps49
 refine T3.done (s:=lbP) hall ⟨Below.refl _ _,Fr.of _ rfl ⟨rfl,trivial⟩⟩ ?_;rintro a w ⟨v5,⟨hb,ho⟩,fr,rfl,q2,_⟩;rw [fr_lbP,fe q2]
 go_ret
 exact⟨v5,rfl,ho,hb⟩
end
end Go.Proofs.YtnmdpphddimfbaaGreat
/-
  cmp.Compare, slices.Compare at strings; which way of line-ups is better. Condition: at most 1000 strings.
-/
namespace Go.Proofs.YtnmdpphddimfbaaGreat
open Go.RowKit Go.Bw
theorem isNaN_str (x:ByteArray)(w:World):Calls Tryz.prog 121 #[.string x] w fun e w'=>e=.returned (.bool false)∧w=w':=by
 go_enter Tryz.func121,Tryz.ntmps121
 go_wp2_with fail
 go_ret
 exact⟨rfl,rfl⟩
def cmpB (a b:ByteArray):Int:=if Op.bytesLess a.toList b.toList=true then -1 else if(a.toList==b.toList)=true then 0 else 1
theorem compare_str (x y:ByteArray)(w:World):Calls Tryz.prog 113 #[.string x,.string y] w fun e w'=>e=.returned (.int .i64 (cmpB x y))∧w=w':=by
 have H1:=Lib.hid (isNaN_str x w);have H2:=Lib.hid (isNaN_str y w);cases h1:Op.bytesLess x.toList y.toList
 ·cases h2:(x.toList==y.toList)
  ·have HQ:=Lib.hid (show(1:Int)=cmpB x y by unfold cmpB;rw [h1,h2];rfl);have h3:(!x.toList==y.toList)=true:=by rw [h2];rfl
   clear h2
   go_enter Tryz.func113,Tryz.ntmps113
   go_wp2_with fail
   refine H1.out.mono ?_;rintro e w1 ⟨rfl,rfl⟩;go_wp2_with fail
   refine H2.out.mono ?_;rintro e w1 ⟨rfl,rfl⟩;go_wp2_with fail
   go_ret
   exact⟨ret_int HQ.out,rfl⟩
  ·have HQ:=Lib.hid (show(0:Int)=cmpB x y by unfold cmpB;rw [h1,h2];rfl);have h3:(!x.toList==y.toList)=false:=by rw [h2];rfl
   clear h2
   go_enter Tryz.func113,Tryz.ntmps113
   go_wp2_with fail
   refine H1.out.mono ?_;rintro e w1 ⟨rfl,rfl⟩;go_wp2_with fail
   refine H2.out.mono ?_;rintro e w1 ⟨rfl,rfl⟩;go_wp2_with fail
   go_ret
   exact⟨ret_int HQ.out,rfl⟩
 ·have HQ:=Lib.hid (show(-1:Int)=cmpB x y by unfold cmpB;rw [h1];rfl)
  go_enter Tryz.func113,Tryz.ntmps113
  go_wp2_with fail
  refine H1.out.mono ?_;rintro e w1 ⟨rfl,rfl⟩;go_wp2_with fail
  refine H2.out.mono ?_;rintro e w1 ⟨rfl,rfl⟩;go_wp2_with fail
  go_ret
  exact⟨ret_int HQ.out,rfl⟩
def cmpL:List ByteArray→List ByteArray→Int
 | [],[]=>0
 | [],_::_=>-1
 | _::_,[]=>1
 | a::r,b::s=>if cmpB a b≠0 then cmpB a b else cmpL r s
theorem drop_geta {α:Type} [Inhabited α] {l:List α} {k:Int} (h0:0≤k) (h1:k<l.length):l.drop k.toNat=geta l k::l.drop (k+1).toNat:=by
 have hk:k.toNat<l.length:=by omega
 rw [List.drop_eq_getElem_cons hk,geta_eq l k h0 h1,show(k+1).toNat=k.toNat+1 by omega]
set_option maxHeartbeats 2000000 in
theorem compare_strs (va vb:Value)(a b:List ByteArray)(w:World)(ha:Row w 0 1 va a.length (cellsOf encSt a))(hb:Row w 0 1 vb b.length (cellsOf encSt b))(hna:a.length≤1000)(hnb:b.length≤1000):
  Calls Tryz.prog 98 #[va,vb] w fun e w'=>e=.returned (.int .i64 (cmpL a b))∧w=w':=by
 obtain⟨p1,c1,rfl⟩:=ha.shape;obtain⟨p2,c2,rfl⟩:=hb.shape;have HA:=Lib.hid ha;have HB:=Lib.hid hb;clear ha hb
 go_enter Tryz.func98,Tryz.ntmps98
 go_wp2_with fail
 go_loopw [11] (fun i wr=>∃k:Int,0≤k∧k≤a.length∧k≤b.length∧i=.int .i64 k∧Hid (cmpL (a.drop k.toNat) (b.drop k.toNat)=cmpL a b)∧Hid (w=wr)) (fun i _=>a.length-(intOf i).toNat)
 case atStart=>exact⟨0,by omega,by omega,by omega,rfl,Lib.hid rfl,Lib.hid rfl⟩
 case round =>
  obtain⟨k,hk0,hka,hkb,rfl,hz,hw⟩:=hrel;obtain rfl:=hw.out
  by_cases hlt:k<a.length
  ·by_cases hlb:k<b.length
   ·obtain⟨z1,o1,rfl,_,_,hc1⟩:=Row.nonnil HA.out (by omega);obtain⟨z2,o2,rfl,_,_,hc2⟩:=Row.nonnil HB.out (by omega);have t1:=Row.elAt encSt_length hc1 hk0 hlt 0 _ (by decide) rfl;have t2:=Row.elAt encSt_length hc2 hk0 hlb 0 _ (by decide) rfl;rw [Nat.mul_one,Nat.add_zero]at t1 t2;have hge:¬(b.length:Int)≤k:=by omega
    have HC:=Lib.hid (compare_str (geta a k) (geta b k) w);have hd1:=drop_geta hk0 hlt;have hd2:=drop_geta hk0 hlb;have hzz:=hz.out;rw [hd1,hd2]at hzz
    by_cases he:cmpB (geta a k) (geta b k)=0
    ·have HZ:=Lib.hid (show cmpL (a.drop (k+1).toNat) (b.drop (k+1).toNat)=cmpL a b by
      rw [←hzz];show _=if cmpB (geta a k) (geta b k)≠0 then _ else _
      rw [if_neg (by simp [he])])
     rw [he]at HC;clear hc1 hc2 hd1 hd2 hzz he hz;generalize geta a k=x at *;generalize geta b k=y at *;go_wp2_with fail
     refine HC.out.mono ?_;rintro e w1 ⟨rfl,rfl⟩;go_wp2_with fail
     go_roundw
     case rel=>exact⟨k+1,by omega,by omega,by omega,rfl,HZ,Lib.hid (by first|rfl|trivial)⟩
     case measure=>simp [intOf];omega
    ·have HQ:=Lib.hid (show cmpB (geta a k) (geta b k)=cmpL a b by
      rw [←hzz];show _=if cmpB (geta a k) (geta b k)≠0 then _ else _
      rw [if_pos he])
     have hne:(cmpB (geta a k) (geta b k) != 0)=true:=by simpa using he
     clear hc1 hc2 hd1 hd2 hzz he hz;generalize cmpB (geta a k) (geta b k)=cc at *;generalize geta a k=x at *;generalize geta b k=y at *;go_wp2_with fail
     refine HC.out.mono ?_;rintro e w1 ⟨rfl,rfl⟩;go_wp2_with fail
     go_ret
     exact⟨ret_int HQ.out,rfl⟩
   ·obtain⟨z1,o1,rfl,_,_,hc1⟩:=Row.nonnil HA.out (by omega);have t1:=Row.elAt encSt_length hc1 hk0 hlt 0 _ (by decide) rfl;rw [Nat.mul_one,Nat.add_zero]at t1;have hd1:=drop_geta hk0 hlt;have hzz:=hz.out;rw [hd1,show b.drop k.toNat=[]from List.drop_of_length_le (by omega)]at hzz;have HQ:=Lib.hid (show(1:Int)=cmpL a b from hzz);have hge:(b.length:Int)≤k:=by omega
    clear hc1 hd1 hzz hz;generalize geta a k=x at *;go_wp2_with fail
    go_ret
    exact⟨ret_int HQ.out,rfl⟩
  ·have hzz:=hz.out;rw [show a.drop k.toNat=[]from List.drop_of_length_le (by omega)]at hzz
   by_cases hl:a.length<b.length
   ·have HQ:=Lib.hid (show(-1:Int)=cmpL a b by
     rw [←hzz,drop_geta hk0 (by omega)];rfl)
    clear hz hzz;go_wp2_with fail
    go_ret
    exact⟨ret_int HQ.out,rfl⟩
   ·have HQ:=Lib.hid (show(0:Int)=cmpL a b by
     rw [←hzz,show b.drop k.toNat=[]from List.drop_of_length_le (by omega)];rfl)
    clear hz hzz;go_wp2_with fail
    go_ret
    exact⟨ret_int HQ.out,rfl⟩
end Go.Proofs.YtnmdpphddimfbaaGreat
/-
  Things laid to others, each to one, others moved on the way: what is tried, in plain words; if it fails, a set is full. No condition.
-/
namespace Go.Proofs.YtnmdpphddimfbaaGreat
open Go.RowKit Go.Bw
/-- How many below n. -/
def cntP (p:Nat→Bool):Nat→Nat
 | 0=>0
 | n+1=>cntP p n+(if p n=true then 1 else 0)
theorem cntP_mono {p q:Nat→Bool}:∀{n},(∀i,i<n→p i=true→q i=true)→cntP p n≤cntP q n
 | 0,_=>Nat.le_refl _
 | n+1,h=>by
  have ih:=cntP_mono (n:=n) (fun i hi=>h i (by omega));have h1:=h n (by omega);unfold cntP
  by_cases hp:p n=true
  ·rw [if_pos hp,if_pos (h1 hp)];omega
  ·rw [if_neg hp];split <;> omega
theorem cntP_drop {q:Nat→Bool}{b:Nat}(hq:q b=true):∀{n},b<n→cntP (fun i=>q i&&decide (i≠b)) n+1=cntP q n
 | 0,h=>by omega
 | n+1,h=>by
  unfold cntP
  by_cases e:n=b
  ·subst e;have h1:cntP (fun i=>q i&&decide (i≠n)) n=cntP q n:=by
    apply Nat.le_antisymm
    ·exact cntP_mono (fun i hi hp=>by simp only [Bool.and_eq_true]at hp;exact hp.1)
    ·exact cntP_mono (fun i hi hp=>by simp only [hp,Bool.true_and,decide_eq_true_eq];omega)
   rw [h1,if_pos hq,if_neg (by simp)]
  ·have ih:=cntP_drop hq (n:=n) (by omega);have h2:(q n&&decide (n≠b))=q n:=by simp [e]
   simp only [h2];omega
theorem cntP_lt {p q:Nat→Bool}{n b:Nat}(hb:b<n)(hq:q b=true)(hp:p b=false)(h:∀i,i<n→p i=true→q i=true):cntP p n<cntP q n:=by
 have h1:=cntP_drop hq hb;have h2:cntP p n≤cntP (fun i=>q i&&decide (i≠b)) n:=cntP_mono (fun i hi hpi=>by
  have h3:i≠b:=fun e=>by rw [e,hp]at hpi;cases hpi
  simp only [h i hi hpi,Bool.true_and,decide_eq_true_eq];exact h3)
 omega
/-- As many as go into others, each to its own. -/
theorem cntP_inj {m:Nat}{f:Nat→Nat}:∀{n} {p q:Nat→Bool},(∀i,i<n→p i=true→f i<m∧q (f i)=true)→(∀i j,i<n→j<n→p i=true→p j=true→f i=f j→i=j)→cntP p n≤cntP q m
 | 0,_,_,_,_=>Nat.zero_le _
 | n+1,p,q,h,hi=>by
  show cntP p n+(if p n=true then 1 else 0)≤cntP q m
  by_cases hp:p n=true
  ·rw [if_pos hp];obtain⟨h1,h2⟩:=h n (by omega) hp;have h3:=cntP_drop h2 h1;have ih:=cntP_inj (n:=n) (p:=p) (q:=fun i=>q i&&decide (i≠f n)) (fun i hin hpi=>by
    obtain⟨h4,h5⟩:=h i (by omega) hpi;refine⟨h4,?_⟩;have h6:f i≠f n:=fun e=>by
     have:=hi i n (by omega) (by omega) hpi hp e;omega
    simp only [h5,Bool.true_and,decide_eq_true_eq];exact h6) (fun i j hin hjn=>hi i j (by omega) (by omega))
   omega
  ·rw [if_neg hp];exact cntP_inj (n:=n) (fun i hin=>h i (by omega)) (fun i j hin hjn=>hi i j (by omega) (by omega))
/-- Of each b whether it was seen. -/
def seenB (se:List Bool)(b:Nat):Bool:=geta se (b:Int)
def atB (wi:List Int)(b:Nat):Int:=geta wi (b:Int)
theorem seenB_set {se:List Bool}{b c:Nat}{x:Bool}(hb:b<se.length):seenB (se.set b x) c=if c=b then x else seenB se c:=by
 unfold seenB geta;rw [Int.toNat_natCast,List.getElem?_set]
 by_cases e:b=c
 ·subst e;rw [if_pos rfl,if_pos hb,if_pos rfl];rfl
 ·rw [if_neg e,if_neg (fun h=>e h.symm)]
theorem atB_set {wi:List Int}{b c:Nat}{x:Int}(hb:b<wi.length):atB (wi.set b x) c=if c=b then x else atB wi c:=by
 unfold atB geta;rw [Int.toNat_natCast,List.getElem?_set]
 by_cases e:b=c
 ·subst e;rw [if_pos rfl,if_pos hb,if_pos rfl];rfl
 ·rw [if_neg e,if_neg (fun h=>e h.symm)]
def unseen (se:List Bool):Nat:=cntP (fun b=>!seenB se b) se.length
/-- What is tried from b on, r places: whether a was laid, what was seen, who is where. -/
def layL (can:Nat→Nat→Bool)(rec:Nat→List Bool→List Int→Bool×List Bool×List Int)(a:Nat):Nat→Nat→List Bool→List Int→Bool×List Bool×List Int
 | 0,_,se,wi=>(false,se,wi)
 | r+1,b,se,wi=>if(seenB se b || !can a b)=true then layL can rec a r (b+1) se wi else
  if atB wi b<0 then(true,se.set b true,wi.set b (a:Int))else
  if(rec (atB wi b).toNat (se.set b true) wi).1=true then(true,(rec (atB wi b).toNat (se.set b true) wi).2.1,(rec (atB wi b).toNat (se.set b true) wi).2.2.set b (a:Int))else
  layL can rec a r (b+1) (rec (atB wi b).toNat (se.set b true) wi).2.1 (rec (atB wi b).toNat (se.set b true) wi).2.2
def layF (can:Nat→Nat→Bool):Nat→Nat→List Bool→List Int→Bool×List Bool×List Int
 | 0,_,se,wi=>(false,se,wi)
 | n+1,a,se,wi=>layL can (layF can n) a wi.length 0 se wi
/-- Before: who is at places that were not seen is there alone, fits, and is not a. -/
structure LayIn (can:Nat→Nat→Bool)(a:Nat)(se:List Bool)(wi:List Int):Prop where
 inj:∀b c,b<wi.length→c<wi.length→seenB se b=false→seenB se c=false→0≤atB wi b→atB wi b=atB wi c→b=c
 fit:∀b,b<wi.length→seenB se b=false→0≤atB wi b→can (atB wi b).toNat b=true
 new:∀b,b<wi.length→seenB se b=false→atB wi b≠(a:Int)
/-- Behind it: a was laid. -/
structure LayYes (can:Nat→Nat→Bool)(a:Nat)(se:List Bool)(wi wi':List Int):Prop where
 old:∀b,seenB se b=true→atB wi' b=atB wi b
 inj:∀b c,b<wi.length→c<wi.length→seenB se b=false→seenB se c=false→0≤atB wi' b→atB wi' b=atB wi' c→b=c
 fit:∀b,b<wi.length→seenB se b=false→0≤atB wi' b→can (atB wi' b).toNat b=true
 who:∀x:Int,0≤x→((∃b,b<wi.length∧seenB se b=false∧atB wi' b=x)↔(∃b,b<wi.length∧seenB se b=false∧atB wi b=x)∨x=(a:Int))
/-- Behind it: a was not laid; what was seen from place b0 on is full. -/
structure LayNo (can:Nat→Nat→Bool)(a b0:Nat)(se:List Bool)(wi:List Int)(se':List Bool):Prop where
 all:∀b,b0≤b→b<wi.length→can a b=true→seenB se' b=true
 full:∀b,b<wi.length→seenB se' b=true→seenB se b=false→0≤atB wi b∧∀c,c<wi.length→can (atB wi b).toNat c=true→seenB se' c=true
structure LayR (can:Nat→Nat→Bool)(a b0:Nat)(se:List Bool)(wi:List Int)(r:Bool×List Bool×List Int):Prop where
 ls:r.2.1.length=se.length
 lw:r.2.2.length=wi.length
 up:∀b,seenB se b=true→seenB r.2.1 b=true
 no:r.1=false→r.2.2=wi∧LayNo can a b0 se wi r.2.1
 yes:r.1=true→LayIn can a se wi→LayYes can a se wi r.2.2
theorem unseen_le {se se':List Bool}(hl:se'.length=se.length)(h:∀b,seenB se b=true→seenB se' b=true):unseen se'≤unseen se:=by
 unfold unseen;rw [hl];refine cntP_mono (fun i _ hi=>?_);simp only [Bool.not_eq_true']at hi ⊢;cases e:seenB se i with
 | false=>rfl
 | true=>rw [h i e]at hi;cases hi
theorem unseen_set {se:List Bool}{b:Nat}(hb:b<se.length)(h:seenB se b=false):unseen (se.set b true)<unseen se:=by
 unfold unseen;rw [List.length_set];refine cntP_lt hb (by rw [h];rfl) (by rw [seenB_set hb,if_pos rfl];rfl) (fun i _ hi=>?_);rw [seenB_set hb]at hi
 split at hi
 ·cases hi
 ·exact hi
theorem layL_ok {can:Nat→Nat→Bool}{rec:Nat→List Bool→List Int→Bool×List Bool×List Int}{a n:Nat}(hrec:∀a se wi,unseen se<n→se.length=wi.length→LayR can a 0 se wi (rec a se wi)):
  ∀r b se wi,unseen se≤n→se.length=wi.length→b+r=wi.length→LayR can a b se wi (layL can rec a r b se wi)
 | 0,b,se,wi,_,_,hb=>⟨rfl,rfl,fun _ h=>h,fun _=>⟨rfl,fun c h1 h2=>by omega,fun c _ h1 h2=>by rw [show layL can rec a 0 b se wi=(false,se,wi)from rfl]at h1;rw [h1]at h2;cases h2⟩,fun h=>by cases h⟩
 | r+1,b,se,wi,hu,hl,hb=>by
  unfold layL
  by_cases hc:(seenB se b || !can a b)=true
  ·rw [if_pos hc];have ih:=layL_ok (a:=a) hrec r (b+1) se wi hu hl (by omega);refine⟨ih.ls,ih.lw,ih.up,fun h=>⟨(ih.no h).1,fun c h1 h2 h3=>?_,(ih.no h).2.full⟩,ih.yes⟩
   by_cases e:c=b
   ·subst e;rw [h3,Bool.not_true,Bool.or_false]at hc;exact ih.up c hc
   ·exact(ih.no h).2.all c (by omega) h2 h3
  ·rw [if_neg hc];simp only [Bool.or_eq_true,Bool.not_eq_true',not_or,Bool.not_eq_true,Bool.not_eq_false]at hc;obtain⟨hs,hca⟩:=hc;have hbs:b<se.length:=by omega
   have hbw:b<wi.length:=by omega
   by_cases hw:atB wi b<0
   ·rw [if_pos hw];refine⟨List.length_set,List.length_set,fun c h=>?_,fun h=>(by cases h),fun _ hin=>⟨fun c h=>?_,fun c d hc hd h1 h2 h3 h4=>?_,fun c hc h1 h2=>?_,fun x hx=>⟨?_,?_⟩⟩⟩
    ·show seenB (se.set b true) c=true;rw [seenB_set hbs];split
     ·rfl
     ·exact h
    ·show atB (wi.set b (a:Int)) c=_;rw [atB_set hbw,if_neg (fun e=>by rw [e,hs]at h;cases h)]
    ·simp only [atB_set hbw]at h3 h4
     by_cases e1:c=b <;> by_cases e2:d=b
     ·omega
     ·rw [if_pos e1,if_neg e2]at h4;exact absurd h4.symm (hin.new d hd h2)
     ·rw [if_neg e1,if_pos e2]at h4;exact absurd h4 (hin.new c hc h1)
     ·rw [if_neg e1,if_neg e2]at h4;rw [if_neg e1]at h3;exact hin.inj c d hc hd h1 h2 h3 h4
    ·simp only [atB_set hbw]at h2 ⊢
     by_cases e1:c=b
     ·rw [if_pos e1,Int.toNat_natCast,e1];exact hca
     ·rw [if_neg e1]at h2 ⊢;exact hin.fit c hc h1 h2
    ·rintro⟨c,hc,h1,h2⟩;simp only [atB_set hbw]at h2
     by_cases e1:c=b
     ·rw [if_pos e1]at h2;exact .inr h2.symm
     ·rw [if_neg e1]at h2;exact .inl ⟨c,hc,h1,h2⟩
    ·rintro(⟨c,hc,h1,h2⟩|h)
     ·refine⟨c,hc,h1,?_⟩;simp only [atB_set hbw];rw [if_neg (fun e=>by rw [e]at h2;omega)];exact h2
     ·refine⟨b,hbw,hs,?_⟩;rw [atB_set hbw,if_pos rfl,h]
   ·rw [if_neg hw];have hu1:=unseen_set hbs hs;have ih:=hrec (atB wi b).toNat (se.set b true) wi (by omega) (by rw [List.length_set];exact hl);generalize rec (atB wi b).toNat (se.set b true) wi=R at ih;obtain⟨ok,se2,wi2⟩:=R;have hls:se2.length=se.length:=ih.ls.trans List.length_set;have hlw:wi2.length=wi.length:=ih.lw;have hup1:∀c,seenB (se.set b true) c=true→seenB se2 c=true:=ih.up;have hup:∀c,seenB se c=true→seenB se2 c=true:=fun c h=>hup1 c (by
     rw [seenB_set hbs];split
     ·rfl
     ·exact h)
    have hb2:seenB se2 b=true:=hup1 b (by rw [seenB_set hbs,if_pos rfl]);have haw:(((atB wi b).toNat:Nat):Int)=atB wi b:=by omega
    cases ok with
    | true =>
     rw [if_pos rfl];refine⟨hls,by show(wi2.set b _).length=_;rw [List.length_set];exact hlw,hup,fun h=>(by cases h),fun _ hin=>?_⟩;have hin1:LayIn can (atB wi b).toNat (se.set b true) wi:=by
      refine⟨fun c d hc hd h1 h2 h3 h4=>?_,fun c hc h1 h2=>?_,fun c hc h1 h2=>?_⟩
      ·rw [seenB_set hbs]at h1 h2
       split at h1
       ·cases h1
       ·split at h2
        ·cases h2
        ·exact hin.inj c d hc hd h1 h2 h3 h4
      ·rw [seenB_set hbs]at h1
       split at h1
       ·cases h1
       ·exact hin.fit c hc h1 h2
      ·rw [seenB_set hbs]at h1
       split at h1
       ·cases h1
       ·rename_i e
        rw [haw]at h2;exact e (hin.inj c b hc hbw h1 hs (by omega) h2)
     obtain⟨y1,y2,y3,y4⟩:=ih.yes rfl hin1;simp only at y1 y2 y3 y4;have hb':b<wi2.length:=by omega
     have hsn:∀c,c≠b→seenB se c=false→seenB (se.set b true) c=false:=fun c e h=>by rw [seenB_set hbs,if_neg e];exact h
     have hna:∀c,c≠b→c<wi.length→seenB se c=false→atB wi2 c≠(a:Int):=fun c e hc h1 h2=>by
      rcases(y4 (a:Int) (by omega)).1 ⟨c,hc,hsn c e h1,h2⟩with ⟨d,hd,h3,h4⟩|h5
      ·rw [seenB_set hbs]at h3
       split at h3
       ·cases h3
       ·exact hin.new d hd h3 h4
      ·rw [haw]at h5;exact hin.new b hbw hs h5.symm
     refine⟨fun c h=>?_,fun c d hc hd h1 h2 h3 h4=>?_,fun c hc h1 h2=>?_,fun x hx=>⟨?_,?_⟩⟩
     ·show atB (wi2.set b (a:Int)) c=_;rw [atB_set hb',if_neg (fun e=>by rw [e,hs]at h;cases h)];exact y1 c (by rw [seenB_set hbs];split;rfl;exact h)
     ·simp only [atB_set hb']at h3 h4
      by_cases e1:c=b <;> by_cases e2:d=b
      ·omega
      ·rw [if_pos e1,if_neg e2]at h4;exact absurd h4.symm (hna d e2 hd h2)
      ·rw [if_neg e1,if_pos e2]at h4;exact absurd h4 (hna c e1 hc h1)
      ·rw [if_neg e1,if_neg e2]at h4;rw [if_neg e1]at h3;exact y2 c d hc hd (hsn c e1 h1) (hsn d e2 h2) h3 h4
     ·simp only [atB_set hb']at h2 ⊢
      by_cases e1:c=b
      ·rw [if_pos e1,Int.toNat_natCast,e1];exact hca
      ·rw [if_neg e1]at h2 ⊢;exact y3 c hc (hsn c e1 h1) h2
     ·rintro⟨c,hc,h1,h2⟩;simp only [atB_set hb']at h2
      by_cases e1:c=b
      ·rw [if_pos e1]at h2;exact .inr h2.symm
      ·rw [if_neg e1]at h2;rcases(y4 x hx).1 ⟨c,hc,hsn c e1 h1,h2⟩with ⟨d,hd,h3,h4⟩|h5
       ·rw [seenB_set hbs]at h3
        split at h3
        ·cases h3
        ·exact .inl ⟨d,hd,h3,h4⟩
       ·rw [haw]at h5;exact .inl ⟨b,hbw,hs,h5.symm⟩
     ·rintro(⟨c,hc,h1,h2⟩|h)
      ·have h3:∃d,d<wi.length∧seenB (se.set b true) d=false∧atB wi2 d=x:=(y4 x hx).2 (by
        by_cases e:c=b
        ·subst e;exact .inr (by rw [haw];exact h2.symm)
        ·exact .inl ⟨c,hc,hsn c e h1,h2⟩)
       obtain⟨d,hd,h4,h5⟩:=h3;rw [seenB_set hbs]at h4
       split at h4
       ·cases h4
       ·rename_i e
        refine⟨d,hd,h4,?_⟩;simp only [atB_set hb'];rw [if_neg e];exact h5
      ·refine⟨b,hbw,hs,?_⟩;rw [atB_set hb',if_pos rfl,h]
    | false =>
     rw [if_neg (show ¬(false,se2,wi2).1=true from Bool.false_ne_true)];obtain⟨e,hno⟩:=ih.no rfl;simp only at e hno;subst e;have hu2:unseen se2≤unseen (se.set b true):=unseen_le (by rw [hls,List.length_set]) hup1;have ih2:=layL_ok (a:=a) hrec r (b+1) se2 wi2 (by omega) (by omega) (by omega);refine⟨by rw [ih2.ls,hls],ih2.lw,fun c h=>ih2.up c (hup c h),fun h=>?_,fun h hin=>?_⟩
     ·obtain⟨e1,n1⟩:=ih2.no h;refine⟨e1,fun c h1 h2 h3=>?_,fun c hc h1 h2=>?_⟩
      ·by_cases ec:c=b
       ·subst ec;exact ih2.up c hb2
       ·exact n1.all c (by omega) h2 h3
      ·by_cases h3:seenB se2 c=true
       ·by_cases h4:c=b
        ·subst h4;exact⟨by omega,fun d hd h5=>ih2.up d (hno.all d (Nat.zero_le _) hd h5)⟩
        ·obtain⟨f1,f2⟩:=hno.full c hc h3 (by rw [seenB_set hbs,if_neg h4];exact h2);exact⟨f1,fun d hd h5=>ih2.up d (f2 d hd h5)⟩
       ·exact n1.full c hc h1 (by simpa using h3)
     ·have hsub:∀c,seenB se2 c=false→seenB se c=false:=fun c h1=>by
       cases h2:seenB se c with
       | false=>rfl
       | true=>rw [hup c h2]at h1;cases h1
      have hin2:LayIn can a se2 wi2:=⟨fun c d hc hd h1 h2=>hin.inj c d hc hd (hsub c h1) (hsub d h2),fun c hc h1=>hin.fit c hc (hsub c h1),fun c hc h1=>hin.new c hc (hsub c h1)⟩
      obtain⟨y1,y2,y3,y4⟩:=ih2.yes h hin2;generalize (layL can rec a r (b+1) se2 wi2).2.2=wi' at y1 y2 y3 y4 ⊢;have key:∀c d,c<wi2.length→d<wi2.length→seenB se c=false→seenB se2 c=true→seenB se2 d=false→0≤atB wi' c→atB wi' c=atB wi' d→c=d:=fun c d hc hd h1 h2 h3 h4 h5=>by
       rw [y1 c h2]at h4 h5;rcases(y4 (atB wi2 c) h4).1 ⟨d,hd,h3,h5.symm⟩with ⟨f,hf,h6,h7⟩|h8
       ·have:=hin.inj f c hf hc (hsub f h6) h1 (by omega) h7;subst this;rw [h2]at h6;cases h6
       ·exact absurd h8 (hin.new c hc h1)
      refine⟨fun c h1=>y1 c (hup c h1),fun c d hc hd h1 h2 h3 h4=>?_,fun c hc h1 h2=>?_,fun x hx=>⟨?_,?_⟩⟩
      ·cases h5:seenB se2 c <;> cases h6:seenB se2 d
       ·exact y2 c d hc hd h5 h6 h3 h4
       ·exact(key d c hd hc h2 h6 h5 (by omega) h4.symm).symm
       ·exact key c d hc hd h1 h5 h6 h3 h4
       ·rw [y1 c h5]at h3;rw [y1 c h5,y1 d h6]at h4;exact hin.inj c d hc hd h1 h2 h3 h4
      ·cases h5:seenB se2 c
       ·exact y3 c hc h5 h2
       ·rw [y1 c h5]at h2 ⊢;exact hin.fit c hc h1 h2
      ·rintro⟨c,hc,h1,h2⟩;cases h5:seenB se2 c
       ·rcases(y4 x hx).1 ⟨c,hc,h5,h2⟩with ⟨d,hd,h6,h7⟩|h8
        ·exact .inl ⟨d,hd,hsub d h6,h7⟩
        ·exact .inr h8
       ·rw [y1 c h5]at h2;exact .inl ⟨c,hc,h1,h2⟩
      ·rintro(⟨c,hc,h1,h2⟩|h1)
       ·cases h5:seenB se2 c
        ·obtain⟨d,hd,h6,h7⟩:=(y4 x hx).2 (.inl ⟨c,hc,h5,h2⟩);exact⟨d,hd,hsub d h6,h7⟩
        ·exact⟨c,hc,h1,by rw [y1 c h5];exact h2⟩
       ·obtain⟨d,hd,h6,h7⟩:=(y4 x hx).2 (.inr h1);exact⟨d,hd,hsub d h6,h7⟩
theorem layF_ok (can:Nat→Nat→Bool):∀n a se wi,unseen se<n→se.length=wi.length→LayR can a 0 se wi (layF can n a se wi)
 | 0,_,_,_,h,_=>by omega
 | n+1,a,se,wi,h,hl=>layL_ok (layF_ok can n) wi.length 0 se wi (by omega) hl (by omega)
end Go.Proofs.YtnmdpphddimfbaaGreat
/-
  Who can be laid all at once; who is laid one behind the other is as many as can be, the first ones first. No condition.
-/
namespace Go.Proofs.YtnmdpphddimfbaaGreat
open Go.RowKit Go.Bw
/-- They can be laid all at once. -/
def Ma (can:Nat→Nat→Bool)(m:Nat)(G:Nat→Prop):Prop:=∃f:Nat→Nat,(∀x,G x→f x<m∧can x (f x)=true)∧∀x y,G x→G y→f x=f y→x=y
theorem Ma.mono {can:Nat→Nat→Bool}{m:Nat}{G H:Nat→Prop}(h:Ma can m G)(hs:∀x,H x→G x):Ma can m H:=by
 obtain⟨f,h1,h2⟩:=h;exact⟨f,fun x hx=>h1 x (hs x hx),fun x y hx hy=>h2 x y (hs x hx) (hs y hy)⟩
/-- Just those are laid. -/
structure MwS (can:Nat→Nat→Bool)(wi:List Int)(G:Nat→Prop):Prop where
 inj:∀b c,b<wi.length→c<wi.length→0≤atB wi b→atB wi b=atB wi c→b=c
 fit:∀b,b<wi.length→0≤atB wi b→can (atB wi b).toNat b=true
 who:∀x:Nat,G x↔∃b,b<wi.length∧atB wi b=(x:Int)
theorem MwS.ma {can:Nat→Nat→Bool}{wi:List Int}{G:Nat→Prop}(h:MwS can wi G):Ma can wi.length G:=by
 have hc:∀x,∃b,G x→b<wi.length∧atB wi b=(x:Int):=fun x=>by
  by_cases g:G x
  ·obtain⟨b,hb⟩:=(h.who x).1 g;exact⟨b,fun _=>hb⟩
  ·exact⟨0,fun k=>absurd k g⟩
 refine⟨fun x=>Classical.choose (hc x),fun x hx=>?_,fun x y hx hy e=>?_⟩
 ·obtain⟨h1,h2⟩:=Classical.choose_spec (hc x) hx;refine⟨h1,?_⟩;have:=h.fit _ h1 (by omega);rw [h2,Int.toNat_natCast]at this;exact this
 ·obtain⟨_,h2⟩:=Classical.choose_spec (hc x) hx;obtain⟨_,h4⟩:=Classical.choose_spec (hc y) hy;have e':Classical.choose (hc x)=Classical.choose (hc y):=e;rw [e']at h2;omega
theorem MwS.start (can:Nat→Nat→Bool)(m:Nat):MwS can (List.replicate m (-1)) (fun _=>False):=by
 have hn:∀b,b<(List.replicate m (-1:Int)).length→atB (List.replicate m (-1:Int)) b=-1:=fun b hb=>by
  unfold atB geta;rw [List.length_replicate]at hb;rw [Int.toNat_natCast,List.getElem?_replicate,if_pos hb];rfl
 refine⟨fun b c hb hc h0=>?_,fun b hb h0=>?_,fun x=>⟨False.elim,?_⟩⟩
 ·rw [hn b hb]at h0;omega
 ·rw [hn b hb]at h0;omega
 ·rintro⟨b,hb,e⟩;rw [hn b hb]at e;omega
def addF (can:Nat→Nat→Bool)(a:Nat)(wi:List Int):Bool×List Bool×List Int:=layF can (wi.length+1) a (List.replicate wi.length false) wi
theorem unseen_new (m:Nat):unseen (List.replicate m false)≤m:=by
 have:∀(p:Nat→Bool) n,cntP p n≤n:=fun p n=>by
  induction n with
  | zero=>exact Nat.le_refl _
  | succ n ih=>unfold cntP;split <;> omega
 unfold unseen;rw [List.length_replicate];exact this _ _
theorem seen_new (m b:Nat):seenB (List.replicate m false) b=false:=by
 unfold seenB geta;rw [Int.toNat_natCast,List.getElem?_replicate]
 split <;> rfl
theorem addF_ok (can:Nat→Nat→Bool)(a:Nat)(wi:List Int):LayR can a 0 (List.replicate wi.length false) wi (addF can a wi) :=
 layF_ok can _ a _ _ (by have:=unseen_new wi.length;omega) (List.length_replicate)
theorem add_yes {can:Nat→Nat→Bool}{wi:List Int}{G:Nat→Prop}{a:Nat}(h:MwS can wi G)(ha:¬G a)(hy:(addF can a wi).1=true):MwS can (addF can a wi).2.2 (fun x=>G x∨x=a):=by
 have h0:=addF_ok can a wi;have hl:=h0.lw;obtain⟨y1,y2,y3,y4⟩:=h0.yes hy ⟨fun b c hb hc _ _=>h.inj b c hb hc,fun b hb _=>h.fit b hb,fun b hb _ e=>ha ((h.who a).2 ⟨b,hb,e⟩)⟩;generalize (addF can a wi).2.2=wi' at *;refine⟨fun b c hb hc=>y2 b c (by omega) (by omega) (seen_new _ _) (seen_new _ _),fun b hb=>y3 b (by omega) (seen_new _ _),fun x=>⟨fun hx=>?_,?_⟩⟩
 ·obtain⟨b,hb,_,e⟩:=(y4 (x:Int) (by omega)).2 (by
   rcases hx with hx|rfl
   ·obtain⟨b,hb,e⟩:=(h.who x).1 hx;exact .inl ⟨b,hb,seen_new _ _,e⟩
   ·exact .inr rfl)
  exact⟨b,by omega,e⟩
 ·rintro⟨b,hb,e⟩;rcases(y4 (x:Int) (by omega)).1 ⟨b,by omega,seen_new _ _,e⟩with ⟨c,hc,_,e2⟩|e2
  ·exact .inl ((h.who x).2 ⟨c,hc,e2⟩)
  ·exact .inr (by omega)
/-- A full set of places that holds all of a's. -/
structure Full (can:Nat→Nat→Bool)(wi:List Int)(a:Nat)(B:Nat→Bool):Prop where
 a:∀b,b<wi.length→can a b=true→B b=true
 f:∀b,b<wi.length→B b=true→0≤atB wi b∧∀c,c<wi.length→can (atB wi b).toNat c=true→B c=true
section
variable {can:Nat→Nat→Bool}{wi:List Int}
include can wi
theorem add_no {a:Nat}(hn:(addF can a wi).1=false):(addF can a wi).2.2=wi∧∃B,Full can wi a B:=by
 obtain⟨h1,h2⟩:=(addF_ok can a wi).no hn;exact⟨h1,seenB (addF can a wi).2.1,fun b hb hc=>h2.all b (Nat.zero_le _) hb hc,fun b hb hs=>h2.full b hb hs (seen_new _ _)⟩
/-- Then not all can be laid at once. -/
theorem full_no {G:Nat→Prop}{a N:Nat}{B:Nat→Bool}(h:MwS can wi G)(ha:¬G a)(hB:Full can wi a B)(hN:∀b,b<wi.length→atB wi b<N)(haN:a<N):¬Ma can wi.length (fun x=>G x∨x=a):=by
 rintro⟨f,f1,f2⟩
 let A:Nat→Bool:=fun x=>@decide (x=a∨∃b,b<wi.length∧B b=true∧atB wi b=(x:Int)) (Classical.propDecidable _)
 have hA:∀x,A x=true↔(x=a∨∃b,b<wi.length∧B b=true∧atB wi b=(x:Int)):=fun x=>@decide_eq_true_iff _ (Classical.propDecidable _)
 have hAG:∀x,A x=true→G x∨x=a:=fun x hx=>by
  rcases(hA x).1 hx with e|⟨b,hb,_,e⟩
  ·exact .inr e
  ·exact .inl ((h.who x).2 ⟨b,hb,e⟩)
 have h1:cntP A N≤cntP B wi.length:=cntP_inj (f:=f) (fun x hx hp=>by
  obtain⟨q1,q2⟩:=f1 x (hAG x hp);refine⟨q1,?_⟩;rcases(hA x).1 hp with e|⟨b,hb,hbB,e⟩
  ·subst e;exact hB.a _ q1 q2
  ·have:=(hB.f b hb hbB).2 (f x) q1;rw [e,Int.toNat_natCast]at this;exact this q2) (fun x y _ _ hp hq=>f2 x y (hAG x hp) (hAG y hq))
 have h2:cntP B wi.length≤cntP (fun x=>A x&&decide (x≠a)) N:=cntP_inj (f:=fun b=>(atB wi b).toNat) (fun b hb hp=>by
  have h0:=(hB.f b hb hp).1;have h3:=hN b hb;refine⟨by omega,?_⟩;have h4:A (atB wi b).toNat=true:=(hA _).2 (.inr ⟨b,hb,hp,by omega⟩);have h5:(atB wi b).toNat≠a:=fun e=>ha ((h.who a).2 ⟨b,hb,by omega⟩)
  show(A (atB wi b).toNat&&decide ((atB wi b).toNat≠a))=true;rw [h4,decide_eq_true h5];rfl) (fun b c hb hc hp hq e=>by
  have:=(hB.f b hb hp).1;have:=(hB.f c hc hq).1;have e':(atB wi b).toNat=(atB wi c).toNat:=e;exact h.inj b c hb hc (by omega) (by omega))
 have h3:=cntP_drop (q:=A) (b:=a) ((hA a).2 (.inl rfl)) haN;omega
end
/-- All are laid one behind the other. -/
def addAll (can:Nat→Nat→Bool):List Nat→List Int→Bool
 | [],_=>true
 | a::l,wi=>if(addF can a wi).1=true then addAll can l (addF can a wi).2.2 else false
theorem add_len (can:Nat→Nat→Bool)(a:Nat)(wi:List Int):(addF can a wi).2.2.length=wi.length:=(addF_ok can a wi).lw
theorem MwS.below {can:Nat→Nat→Bool}{wi:List Int}{G:Nat→Prop}{N:Nat}(h:MwS can wi G)(hN:∀x,G x→x<N):∀b,b<wi.length→atB wi b<N:=fun b hb=>by
 by_cases h0:0≤atB wi b
 ·have:=hN _ ((h.who (atB wi b).toNat).2 ⟨b,hb,by omega⟩);omega
 ·omega
theorem addAll_iff {can:Nat→Nat→Bool}{N:Nat}:∀{l:List Nat} {wi:List Int} {G:Nat→Prop},MwS can wi G→(∀x,G x→x<N)→(∀x∈l,x<N∧¬G x)→l.Nodup→(addAll can l wi=true↔Ma can wi.length (fun x=>G x∨x∈l))
 | [],wi,G,h,_,_,_=>⟨fun _=>h.ma.mono (fun x hx=>by simpa using hx),fun _=>rfl⟩
 | a::l,wi,G,h,hG,hl,hn=>by
  obtain⟨hn1,hn2⟩:=List.nodup_cons.1 hn;have ha:=(hl a (by simp)).2;have haN:=(hl a (by simp)).1;unfold addAll
  by_cases hy:(addF can a wi).1=true
  ·rw [if_pos hy];have h1:=add_yes h ha hy;have ih:=addAll_iff (N:=N) (l:=l) h1 (fun x hx=>by rcases hx with hx|rfl;exact hG x hx;exact haN) (fun x hx=>⟨(hl x (List.mem_cons_of_mem _ hx)).1,fun k=>by
    rcases k with k|k
    ·exact(hl x (List.mem_cons_of_mem _ hx)).2 k
    ·exact hn1 (k▸hx)⟩) hn2
   rw [ih,add_len];constructor
   ·exact fun q=>q.mono (fun x hx=>by
     rcases hx with hx|hx
     ·exact .inl (.inl hx)
     ·rcases List.mem_cons.1 hx with e|hx
      ·exact .inl (.inr e)
      ·exact .inr hx)
   ·exact fun q=>q.mono (fun x hx=>by
     rcases hx with (hx|e)|hx
     ·exact .inl hx
     ·exact .inr (List.mem_cons.2 (.inl e))
     ·exact .inr (List.mem_cons_of_mem _ hx))
  ·rw [if_neg hy];constructor
   ·intro q;cases q
   ·intro q;obtain⟨_,B,hB⟩:=add_no (by simpa using hy:(addF can a wi).1=false);exact absurd (q.mono (fun x hx=>by
     rcases hx with hx|e
     ·exact .inl hx
     ·exact .inr (List.mem_cons.2 (.inl e)))) (full_no h ha hB (h.below hG) haN)
/-- Who is laid of those from a on, one behind the other: true at each who is. -/
def layAll (can:Nat→Nat→Bool):Nat→Nat→List Int→List Bool
 | 0,_,_=>[]
 | r+1,a,wi=>(addF can a wi).1::layAll can r (a+1) (addF can a wi).2.2
theorem layAll_greed {can:Nat→Nat→Bool}{m N:Nat}:∀{r a:Nat} {wi:List Int} {G:Nat→Prop},wi.length=m→a+r=N→MwS can wi G→(∀x,G x→x<a)→(∀i,i<a→¬G i→¬Ma can m (fun x=>(G x∧x<i)∨x=i)) →
  ∃wi',wi'.length=m∧MwS can wi' (fun x=>G x∨(a≤x∧x<N∧seenB (layAll can r a wi) (x-a)=true))∧∀i,i<N→¬(G i∨(a≤i∧i<N∧seenB (layAll can r a wi) (i-a)=true))→¬Ma can m (fun x=>((G x∨(a≤x∧x<N∧seenB (layAll can r a wi) (x-a)=true))∧x<i)∨x=i)
 | 0,a,wi,G,hm,hN,h,hG,hno=>by
  have e:∀x,(G x∨(a≤x∧x<N∧seenB (layAll can 0 a wi) (x-a)=true))↔G x:=fun x=>⟨fun q=>by
   rcases q with q|⟨q1,q2,_⟩
   ·exact q
   ·omega,.inl⟩
  have e':(fun x=>G x∨(a≤x∧x<N∧seenB (layAll can 0 a wi) (x-a)=true))=G:=by
   funext x;exact propext (e x)
  refine⟨wi,hm,by rw [e'];exact h,fun i hi hn=>?_⟩;have h1:=hno i (by omega) (fun g=>hn (.inl g));exact fun q=>h1 (q.mono (fun x hx=>by
   rcases hx with ⟨hx,hi⟩|hx
   ·exact .inl ⟨.inl hx,hi⟩
   ·exact .inr hx))
 | r+1,a,wi,G,hm,hN,h,hG,hno=>by
  have hs:∀(y:Bool) (l:List Bool) (x:Nat),seenB (y::l) x=if x=0 then y else seenB l (x-1):=fun y l x=>by
   unfold seenB geta;rw [Int.toNat_natCast,Int.toNat_natCast];cases x with
   | zero=>rfl
   | succ x=>rw [if_neg (by omega),List.getElem?_cons_succ,Nat.add_sub_cancel]
  have ha:¬G a:=fun g=>by have:=hG a g;omega
  by_cases hy:(addF can a wi).1=true
  ·obtain⟨wi',h1,h2,h3⟩:=layAll_greed (can:=can) (m:=m) (N:=N) (r:=r) (a:=a+1) (wi:=(addF can a wi).2.2) (G:=fun x=>G x∨x=a) (by rw [add_len];exact hm) (by omega) (add_yes h ha hy) (fun x hx=>by
    rcases hx with hx|hx
    ·have:=hG x hx;omega
    ·omega) (fun i hi hn q=>hno i (by
     have:i≠a:=fun e=>hn (.inr e)
     omega) (fun g=>hn (.inl g)) (q.mono (fun x hx=>by
     rcases hx with ⟨hx,hi⟩|hx
     ·exact .inl ⟨.inl hx,hi⟩
     ·exact .inr hx)))
   have e:(fun x=>(G x∨x=a)∨(a+1≤x∧x<N∧seenB (layAll can r (a+1) (addF can a wi).2.2) (x-(a+1))=true))=fun x=>G x∨(a≤x∧x<N∧seenB (layAll can (r+1) a wi) (x-a)=true):=by
    funext x
    refine propext ⟨?_,?_⟩
    ·rintro((g|e)|⟨g1,g2,g3⟩)
     ·exact .inl g
     ·subst e;refine .inr ⟨Nat.le_refl _,by omega,?_⟩;show seenB (_::_) _=true;rw [hs,if_pos (Nat.sub_self _)];exact hy
     ·refine .inr ⟨by omega,g2,?_⟩;show seenB (_::_) _=true;rw [hs,if_neg (by omega),show x-a-1=x-(a+1)by omega];exact g3
    ·rintro(g|⟨g1,g2,g3⟩)
     ·exact .inl (.inl g)
     ·by_cases e:x=a
      ·exact .inl (.inr e)
      ·refine .inr ⟨by omega,g2,?_⟩;have g3':seenB ((addF can a wi).1::layAll can r (a+1) (addF can a wi).2.2) (x-a)=true:=g3;rw [hs,if_neg (by omega),show x-a-1=x-(a+1)by omega]at g3';exact g3'
   have e1:=fun x=>congrFun e x
   refine⟨wi',h1,by rw [←e];exact h2,fun i hi hn=>?_⟩;have hn':¬((G i∨i=a)∨(a+1≤i∧i<N∧seenB (layAll can r (a+1) (addF can a wi).2.2) (i-(a+1))=true)):=fun q=>hn ((e1 i)▸q)
   refine fun q=>h3 i hi hn' (q.mono (fun x hx=>?_))
   rcases hx with ⟨hx,hi⟩|hx
   ·exact .inl ⟨(e1 x)▸hx,hi⟩
   ·exact .inr hx
  ·have hy':(addF can a wi).1=false:=by simpa using hy
   obtain⟨he,B,hB⟩:=add_no hy';have hnoa:=full_no (N:=a+1) h ha hB (fun b hb=>by have:=h.below hG b hb;omega) (by omega);obtain⟨wi',h1,h2,h3⟩:=layAll_greed (can:=can) (m:=m) (N:=N) (r:=r) (a:=a+1) (wi:=(addF can a wi).2.2) (G:=G) (by rw [add_len];exact hm) (by omega) (by rw [he];exact h) (fun x hx=>by have:=hG x hx;omega) (fun i hi hn q=>by
    by_cases ei:i=a
    ·subst ei;refine hnoa ?_;rw [hm];exact q.mono (fun x hx=>by
      rcases hx with hx|hx
      ·exact .inl ⟨hx,hG x hx⟩
      ·exact .inr hx)
    ·exact hno i (by omega) hn q)
   have e:(fun x=>G x∨(a+1≤x∧x<N∧seenB (layAll can r (a+1) (addF can a wi).2.2) (x-(a+1))=true))=fun x=>G x∨(a≤x∧x<N∧seenB (layAll can (r+1) a wi) (x-a)=true):=by
    funext x
    refine propext ⟨?_,?_⟩
    ·rintro(g|⟨g1,g2,g3⟩)
     ·exact .inl g
     ·refine .inr ⟨by omega,g2,?_⟩;show seenB (_::_) _=true;rw [hs,if_neg (by omega),show x-a-1=x-(a+1)by omega];exact g3
    ·rintro(g|⟨g1,g2,g3⟩)
     ·exact .inl g
     ·have g3':seenB ((addF can a wi).1::layAll can r (a+1) (addF can a wi).2.2) (x-a)=true:=g3
      by_cases ex:x=a
      ·rw [hs,if_pos (by omega)]at g3';exact absurd g3' hy
      ·rw [hs,if_neg (by omega),show x-a-1=x-(a+1)by omega]at g3';exact .inr ⟨by omega,g2,g3'⟩
   have e1:=fun x=>congrFun e x
   refine⟨wi',h1,by rw [←e];exact h2,fun i hi hn=>?_⟩;have hn':¬(G i∨(a+1≤i∧i<N∧seenB (layAll can r (a+1) (addF can a wi).2.2) (i-(a+1))=true)):=fun q=>hn ((e1 i)▸q)
   refine fun q=>h3 i hi hn' (q.mono (fun x hx=>?_))
   rcases hx with ⟨hx,hi⟩|hx
   ·exact .inl ⟨(e1 x)▸hx,hi⟩
   ·exact .inr hx
end Go.Proofs.YtnmdpphddimfbaaGreat
/-
  The reference's sets of slots, in plain words: which can be reached; the best of them is who is laid one behind the other. No condition.
-/
namespace Go.Proofs.YtnmdpphddimfbaaGreat
open Go.RowKit Go.Bw
def orBit (m i:Nat):Nat:=m ||| (1 <<< i)
theorem orBit_test (m i j:Nat):(orBit m i).testBit j=(m.testBit j || decide (i=j)):=by
 unfold orBit;rw [Nat.testBit_or,Nat.one_shiftLeft,Nat.testBit_two_pow]
theorem zero_no (i:Nat):¬(0:Nat).testBit i=true:=by rw [Nat.zero_testBit];decide
/-- The sets of slots that the first j of some (w) can take, all of them. -/
def RchC (fit:Nat→Nat→Bool)(n:Nat)(w:Nat→Nat):Nat→Nat→Prop
 | 0,m=>m=0
 | j+1,m=>∃m0 i,RchC fit n w j m0∧i<n∧m0.testBit i=false∧fit (w j) i=true∧m=orBit m0 i
/-- The sets of slots that the first j scorers can fill. -/
def RchL (fit:Nat→Nat→Bool)(n:Nat):Nat→Nat→Prop
 | 0,m=>m=0
 | j+1,m=>RchL fit n j m∨∃m0 i,RchL fit n j m0∧i<n∧m0.testBit i=false∧fit j i=true∧m=orBit m0 i
def updN (f:Nat→Nat)(a b:Nat):Nat→Nat:=fun x=>if x=a then b else f x
section
variable {fit:Nat→Nat→Bool}
include fit
theorem RchC.to {n:Nat}{w:Nat→Nat}:∀{j m},(∀a b,a<j→b<j→w a=w b→a=b)→RchC fit n w j m →
  ∃f:Nat→Nat,(∀a,a<j→f (w a)<n∧fit (w a) (f (w a))=true)∧(∀a b,a<j→b<j→f (w a)=f (w b)→a=b)∧∀i,m.testBit i=true↔∃a,a<j∧f (w a)=i
 | 0,m,_,h=>by
  have e:m=0:=h;subst e;exact⟨fun _=>0,fun a h=>by omega,fun a b h=>by omega,fun i=>⟨fun q=>absurd q (zero_no i),fun⟨a,h,_⟩=>by omega⟩⟩
 | j+1,m,hw,⟨m0,i,h0,hi,hb,hf,e⟩=>by
  obtain⟨f,f1,f2,f3⟩:=RchC.to (fun a b ha hb=>hw a b (by omega) (by omega)) h0;have hne:∀a,a<j→w a≠w j:=fun a ha q=>by have:=hw a j (by omega) (by omega) q;omega
  have hu:∀a,a<j→updN f (w j) i (w a)=f (w a):=fun a ha=>if_neg (hne a ha)
  have huj:updN f (w j) i (w j)=i:=if_pos rfl;have hni:∀a,a<j→f (w a)≠i:=fun a ha q=>by
   have:=(f3 i).2 ⟨a,ha,q⟩;rw [hb]at this;cases this
  refine⟨updN f (w j) i,fun a ha=>?_,fun a b ha hb' q=>?_,fun x=>?_⟩
  ·by_cases ea:a=j
   ·subst ea;rw [huj];exact⟨hi,hf⟩
   ·rw [hu a (by omega)];exact f1 a (by omega)
  ·by_cases ea:a=j <;> by_cases eb:b=j
   ·omega
   ·subst ea;rw [huj,hu b (by omega)]at q;exact absurd q.symm (hni b (by omega))
   ·subst eb;rw [huj,hu a (by omega)]at q;exact absurd q (hni a (by omega))
   ·rw [hu a (by omega),hu b (by omega)]at q;exact f2 a b (by omega) (by omega) q
  ·rw [e,orBit_test,Bool.or_eq_true,decide_eq_true_eq,f3 x];constructor
   ·rintro(⟨a,ha,q⟩|q)
    ·exact⟨a,by omega,by rw [hu a ha];exact q⟩
    ·exact⟨j,by omega,by rw [huj];exact q⟩
   ·rintro⟨a,ha,q⟩
    by_cases ea:a=j
    ·subst ea;rw [huj]at q;exact .inr q
    ·rw [hu a (by omega)]at q;exact .inl ⟨a,by omega,q⟩
theorem RchC.of {n:Nat}{w f:Nat→Nat}:∀{j},(∀a,a<j→f (w a)<n∧fit (w a) (f (w a))=true)→(∀a b,a<j→b<j→f (w a)=f (w b)→a=b) →
  ∃m,RchC fit n w j m∧∀i,m.testBit i=true↔∃a,a<j∧f (w a)=i
 | 0,_,_=>⟨0,rfl,fun i=>⟨fun q=>absurd q (zero_no i),fun⟨a,h,_⟩=>by omega⟩⟩
 | j+1,h1,h2=>by
  obtain⟨m,h3,h4⟩:=RchC.of (j:=j) (fun a ha=>h1 a (by omega)) (fun a b ha hb=>h2 a b (by omega) (by omega));obtain⟨h5,h6⟩:=h1 j (by omega);have hb:m.testBit (f (w j))=false:=by
   cases q:m.testBit (f (w j))with
   | false=>rfl
   | true =>
    obtain⟨a,ha,e⟩:=(h4 _).1 q;have:=h2 a j (by omega) (by omega) e;omega
  refine⟨orBit m (f (w j)),⟨m,_,h3,h5,hb,h6,rfl⟩,fun i=>?_⟩;rw [orBit_test,Bool.or_eq_true,decide_eq_true_eq,h4 i];constructor
  ·rintro(⟨a,ha,q⟩|q)
   ·exact⟨a,by omega,q⟩
   ·exact⟨j,by omega,q⟩
  ·rintro⟨a,ha,q⟩
   by_cases ea:a=j
   ·subst ea;exact .inr q
   ·exact .inl ⟨a,by omega,q⟩
/-- Some set can be reached just where all can be laid at once. -/
theorem rchC_ma {n j:Nat}{w:Nat→Nat}(hw:∀a b,a<j→b<j→w a=w b→a=b):(∃m,RchC fit n w j m)↔Ma fit n (fun x=>∃a,a<j∧w a=x):=by
 constructor
 ·rintro⟨m,h⟩;obtain⟨f,f1,f2,_⟩:=RchC.to hw h;refine⟨f,?_,?_⟩
  ·rintro x ⟨a,ha,rfl⟩;exact f1 a ha
  ·rintro x y ⟨a,ha,rfl⟩ ⟨b,hb,rfl⟩ q;rw [f2 a b ha hb q]
 ·rintro⟨f,f1,f2⟩;obtain⟨m,h,_⟩:=RchC.of (fit:=fit) (n:=n) (w:=w) (f:=f) (j:=j) (fun a ha=>f1 _ ⟨a,ha,rfl⟩) (fun a b ha hb q=>hw a b ha hb (f2 _ _ ⟨a,ha,rfl⟩ ⟨b,hb,rfl⟩ q));exact⟨m,h⟩
theorem RchL.to {n:Nat}:∀{j m},RchL fit n j m→(∀i,m.testBit i=true→i<n)∧Ma (fun i k=>fit k i) j (fun i=>m.testBit i=true)
 | 0,m,h=>by
  have e:m=0:=h;subst e;exact⟨fun i q=>absurd q (zero_no i),fun _=>0,fun i q=>absurd q (zero_no i),fun i _ q=>absurd q (zero_no i)⟩
 | j+1,m,h=>by
  rcases h with h|⟨m0,i,h0,hi,hb,hf,e⟩
  ·obtain⟨h1,f,f1,f2⟩:=RchL.to h;exact⟨h1,f,fun x hx=>⟨by have:=(f1 x hx).1;omega,(f1 x hx).2⟩,f2⟩
  ·obtain⟨h1,f,f1,f2⟩:=RchL.to h0;have ht:∀x,m.testBit x=true↔m0.testBit x=true∨i=x:=fun x=>by rw [e,orBit_test,Bool.or_eq_true,decide_eq_true_eq]
   have hu:∀x,m0.testBit x=true→updN f i j x=f x:=fun x hx=>if_neg (fun q=>by rw [q,hb]at hx;cases hx)
   have hui:updN f i j i=j:=if_pos rfl;refine⟨fun x hx=>?_,updN f i j,fun x hx=>?_,fun x y hx hy q=>?_⟩
   ·rcases(ht x).1 hx with q|q
    ·exact h1 x q
    ·omega
   ·rcases(ht x).1 hx with q|q
    ·rw [hu x q];exact⟨by have:=(f1 x q).1;omega,(f1 x q).2⟩
    ·subst q;rw [hui];exact⟨by omega,hf⟩
   ·rcases(ht x).1 hx with q1|q1 <;> rcases(ht y).1 hy with q2|q2
    ·rw [hu x q1,hu y q2]at q;exact f2 x y q1 q2 q
    ·subst q2;rw [hu x q1,hui]at q;have:=(f1 x q1).1;omega
    ·subst q1;rw [hu y q2,hui]at q;have:=(f1 y q2).1;omega
    ·omega
theorem RchL.of {n:Nat}{M:Nat→Prop}{f:Nat→Nat}(hn:∀i,M i→i<n)(h1:∀i,M i→fit (f i) i=true)(h2:∀a b,M a→M b→f a=f b→a=b):∀j,∃m,RchL fit n j m∧∀i,m.testBit i=true↔M i∧f i<j
 | 0=>⟨0,rfl,fun i=>⟨fun q=>absurd q (zero_no i),fun q=>by omega⟩⟩
 | j+1=>by
  obtain⟨m,h3,h4⟩:=RchL.of hn h1 h2 j
  by_cases hx:∃i,M i∧f i=j
  ·obtain⟨i,hM,hf⟩:=hx;have hb:m.testBit i=false:=by
    cases q:m.testBit i with
    | false=>rfl
    | true=>have:=((h4 i).1 q).2;omega
   refine⟨orBit m i,.inr ⟨m,i,h3,hn i hM,hb,by rw [←hf];exact h1 i hM,rfl⟩,fun x=>?_⟩;rw [orBit_test,Bool.or_eq_true,decide_eq_true_eq,h4 x];constructor
   ·rintro(⟨a,b⟩|q)
    ·exact⟨a,by omega⟩
    ·subst q;exact⟨hM,by omega⟩
   ·rintro⟨a,b⟩
    by_cases e:f x=j
    ·exact .inr (h2 i x hM a (by omega))
    ·exact .inl ⟨a,by omega⟩
  ·refine⟨m,.inl h3,fun x=>?_⟩;rw [h4 x];constructor
   ·rintro⟨a,b⟩;exact⟨a,by omega⟩
   ·rintro⟨a,b⟩;have:f x≠j:=fun e=>hx ⟨x,a,e⟩
    exact⟨a,by omega⟩
end
/-- Which slots are filled, as numbers, r slots from i on. -/
def bitI (m i:Nat):Int:=if m.testBit i=true then 1 else 0
def fillL (m:Nat):Nat→Nat→List Int
 | _,0=>[]
 | i,r+1=>bitI m i::fillL m (i+1) r
def sumI:List Int→Int
 | []=>0
 | x::l=>x+sumI l
def cmpI:List Int→List Int→Int
 | [],[]=>0
 | [],_::_=>-1
 | _::_,[]=>1
 | a::r,b::s=>if a<b then -1 else if b<a then 1 else cmpI r s
/-- They are as a number, the first one first. -/
def revL:List Int→Int
 | []=>0
 | x::l=>x*2 ^ l.length+revL l
theorem fillL_len (m:Nat):∀r i,(fillL m i r).length=r
 | 0,_=>rfl
 | r+1,i=>by show(_::_).length=_;rw [List.length_cons,fillL_len m r]
theorem bitI_01 (m i:Nat):bitI m i=0∨bitI m i=1:=by unfold bitI;split;exact .inr rfl;exact .inl rfl
theorem revL_b (m:Nat):∀r i,0≤revL (fillL m i r)∧revL (fillL m i r)<2 ^ r
 | 0,_=>⟨Int.le_refl _,by show(0:Int)<2 ^ 0;decide⟩
 | r+1,i=>by
  have ih:=revL_b m r (i+1);show 0≤bitI m i*2 ^ (fillL m (i+1) r).length+revL (fillL m (i+1) r)∧bitI m i*2 ^ (fillL m (i+1) r).length+revL (fillL m (i+1) r)<2 ^ (r+1);rw [fillL_len,Int.pow_succ];rcases bitI_01 m i with e|e <;> rw [e] <;> omega
theorem cmp_rev (a b:Nat):∀r i,(0<cmpI (fillL a i r) (fillL b i r)↔revL (fillL b i r)<revL (fillL a i r))
 | 0,_=>by show(0:Int)<0↔(0:Int)<0;simp
 | r+1,i=>by
  have ih:=cmp_rev a b r (i+1);have ha:=revL_b a r (i+1);have hb:=revL_b b r (i+1);show 0<(if bitI a i<bitI b i then(-1:Int)else if bitI b i<bitI a i then 1 else cmpI (fillL a (i+1) r) (fillL b (i+1) r))↔bitI b i*2 ^ (fillL b (i+1) r).length+revL (fillL b (i+1) r)<bitI a i*2 ^ (fillL a (i+1) r).length+revL (fillL a (i+1) r);rw [fillL_len,fillL_len];rcases bitI_01 a i with e1|e1 <;> rcases bitI_01 b i with e2|e2 <;> rw [e1,e2]
  ·rw [if_neg (by decide),if_neg (by decide),ih];omega
  ·rw [if_pos (by decide)];omega
  ·rw [if_neg (by decide),if_pos (by decide)];omega
  ·rw [if_neg (by decide),if_neg (by decide),ih];omega
/-- How good a set is. -/
def keyM (n m:Nat):Int:=sumI (fillL m 0 n)*2 ^ n+revL (fillL m 0 n)
theorem key_lt {n a b:Nat}:keyM n b<keyM n a↔sumI (fillL b 0 n)<sumI (fillL a 0 n)∨(sumI (fillL b 0 n)=sumI (fillL a 0 n)∧0<cmpI (fillL a 0 n) (fillL b 0 n)):=by
 rw [cmp_rev];have ha:=revL_b a n 0;have hb:=revL_b b n 0;unfold keyM;generalize revL (fillL a 0 n)=x at *;generalize revL (fillL b 0 n)=y at *;generalize sumI (fillL a 0 n)=s;generalize sumI (fillL b 0 n)=t;generalize (2:Int) ^ n=p at *;constructor
 ·intro h
  by_cases h1:t<s
  ·exact .inl h1
  ·by_cases h2:t=s
   ·subst h2;exact .inr ⟨rfl,by omega⟩
   ·have h3:s+1≤t:=by omega
    have h4:=Int.mul_le_mul_of_nonneg_right h3 (show 0≤p by omega);rw [Int.add_mul,Int.one_mul]at h4;omega
 ·rintro(h|⟨rfl,h⟩)
  ·have h4:=Int.mul_le_mul_of_nonneg_right (show t+1≤s by omega) (show 0≤p by omega);rw [Int.add_mul,Int.one_mul]at h4;omega
  ·omega
theorem sum_cnt (m:Nat):∀r i,sumI (fillL m i r)=cntP (fun x=>m.testBit (i+x)) r
 | 0,_=>rfl
 | r+1,i=>by
  have hsh:∀(p:Nat→Bool) r,cntP p (r+1)=(if p 0=true then 1 else 0)+cntP (fun x=>p (1+x)) r:=fun p r=>by
   induction r with
   | zero=>show 0+(if p 0=true then 1 else 0)=(if p 0=true then 1 else 0)+0;rw [Nat.zero_add,Nat.add_zero]
   | succ r ih =>
    show cntP p (r+1)+(if p (r+1)=true then 1 else 0)=_+(cntP (fun x=>p (1+x)) r+if p (1+r)=true then 1 else 0);rw [ih,show 1+r=r+1 by omega];omega
  rw [hsh];show bitI m i+sumI (fillL m (i+1) r)=_;rw [sum_cnt m r (i+1)];have e:(fun x=>m.testBit (i+1+x))=fun x=>m.testBit (i+(1+x)):=by funext x;rw [Nat.add_assoc]
  rw [e];unfold bitI
  by_cases hm:m.testBit i=true
  ·rw [if_pos hm,if_pos (by exact hm)];omega
  ·rw [if_neg hm,if_neg (by exact hm)];omega
/-- The first slot that is different tells which is greater. -/
theorem rev_first {a b:Nat}:∀{r i j},i≤j→j<i+r→(∀x,i≤x→x<j→a.testBit x=b.testBit x)→a.testBit j=true→b.testBit j=false→revL (fillL b i r)<revL (fillL a i r)
 | 0,i,j,h1,h2,_,_,_=>by omega
 | r+1,i,j,h1,h2,h3,h4,h5=>by
  have ha:=revL_b a r (i+1);have hb:=revL_b b r (i+1);show bitI b i*2 ^ (fillL b (i+1) r).length+revL (fillL b (i+1) r)<bitI a i*2 ^ (fillL a (i+1) r).length+revL (fillL a (i+1) r);rw [fillL_len,fillL_len]
  by_cases e:i=j
  ·subst e;have e1:bitI a i=1:=if_pos h4;have e2:bitI b i=0:=if_neg (by rw [h5];decide);rw [e1,e2];omega
  ·have e1:bitI a i=bitI b i:=by unfold bitI;rw [h3 i (Nat.le_refl _) (by omega)]
   rw [e1];have:=rev_first (a:=a) (b:=b) (r:=r) (i:=i+1) (j:=j) (by omega) (by omega) (fun x hx=>h3 x (by omega)) h4 h5;omega
/-- The best set is that of the slots that are laid one behind the other. -/
theorem best_greed {fit:Nat→Nat→Bool}{n K best:Nat}{wi:List Int}{G:Nat→Prop}(hK:wi.length=K)(hw:MwS (fun i k=>fit k i) wi G)(hG:∀x,G x→x<n)(hno:∀i,i<n→¬G i→¬Ma (fun i k=>fit k i) K (fun x=>(G x∧x<i)∨x=i))(hb:RchL fit n K best)(hm:∀m,RchL fit n K m→keyM n m≤keyM n best):∀i,i<n→(best.testBit i=true↔G i):=by
 obtain⟨hbn,hbm⟩:=RchL.to hb
  -- the set of those who are laid can be reached
 obtain⟨f,f1,f2⟩:=hw.ma;rw [hK]at f1;obtain⟨g,g1,g2⟩:=RchL.of (fit:=fit) (n:=n) (M:=G) (f:=f) hG (fun i hi=>(f1 i hi).2) f2 K;have gG:∀i,g.testBit i=true↔G i:=fun i=>(g2 i).trans ⟨fun q=>q.1,fun q=>⟨q,(f1 i q).1⟩⟩
 have hkey:=hm g g1
  -- a set that is right up to i has no slot more there
 have hfirst:∀i,i<n→(∀x,x<i→best.testBit x=g.testBit x)→best.testBit i=true→g.testBit i=true:=fun i hi hx hbi=>by
  cases q:g.testBit i with
  | true=>rfl
  | false =>
   refine absurd (hbm.mono (fun x hx'=>?_)) (hno i hi (fun k=>by rw [(gG i).2 k]at q;cases q));rcases hx' with ⟨h1,h2⟩|h1
   ·rw [hx x h2];exact(gG x).2 h1
   ·rw [h1];exact hbi
  -- no set is greater
 have hcnt:sumI (fillL best 0 n)≤sumI (fillL g 0 n):=by
  rw [sum_cnt,sum_cnt];have hfull:∀i,i<n→¬G i→∃B,Full (fun i k=>fit k i) wi i B:=fun i hi hn=>by
   by_cases hy:(addF (fun i k=>fit k i) i wi).1=true
   ·have h1:=(add_yes hw hn hy).ma;rw [add_len,hK]at h1;exact absurd (h1.mono (fun x hx=>by
     rcases hx with hx|hx
     ·exact .inl hx.1
     ·exact .inr hx)) (hno i hi hn)
   ·exact(add_no (by simpa using hy)).2
  let P:Nat→Prop:=fun b=>∃i B,i<n∧¬G i∧Full (fun i k=>fit k i) wi i B∧B b=true
  obtain⟨p,p1,p2⟩:=hbm;have p1':∀x,best.testBit x=true→p x<wi.length∧fit (p x) x=true:=fun x hx=>by
   have:=p1 x hx;exact⟨by omega,this.2⟩
  let F:Nat→Nat:=fun x=>@ite _ (P (p x)) (Classical.propDecidable _) (atB wi (p x)).toNat x
  have hF1:∀x,P (p x)→F x=(atB wi (p x)).toNat:=fun x h=>@if_pos _ (Classical.propDecidable _) h _ _ _
  have hF2:∀x,¬P (p x)→F x=x:=fun x h=>@if_neg _ (Classical.propDecidable _) h _ _ _
  have hocc:∀x,best.testBit x=true→P (p x)→0≤atB wi (p x)∧G (atB wi (p x)).toNat∧∀c,c<wi.length→fit c (atB wi (p x)).toNat=true→P c:=fun x hx h=>by
   obtain⟨i,B,hi,hn,hB,hp⟩:=h;obtain⟨h1,h2⟩:=hB.f _ (p1' x hx).1 hp;exact⟨h1,(hw.who _).2 ⟨p x,(p1' x hx).1,by omega⟩,fun c hc hf=>⟨i,B,hi,hn,hB,h2 c hc hf⟩⟩
  have hGn:∀x,best.testBit x=true→¬P (p x)→G x:=fun x hx h=>Classical.byContradiction fun hn=>by
   obtain⟨B,hB⟩:=hfull x (hbn x hx) hn;exact h ⟨x,B,hbn x hx,hn,hB,hB.a _ (p1' x hx).1 (p1' x hx).2⟩
  have hle:cntP (fun x=>best.testBit (0+x)) n≤cntP (fun x=>g.testBit (0+x)) n:=by
   refine cntP_inj (f:=F) (fun x hx hp=>?_) (fun x y hx hy hp hq e=>?_)
   ·rw [Nat.zero_add]at hp;show F x<n∧g.testBit (0+F x)=true;rw [Nat.zero_add,gG]
    by_cases h:P (p x)
    ·rw [hF1 x h];have:=(hocc x hp h).2.1;exact⟨hG _ this,this⟩
    ·rw [hF2 x h];exact⟨hx,hGn x hp h⟩
   ·rw [Nat.zero_add]at hp hq;have mixed:∀x y,best.testBit x=true→best.testBit y=true→P (p x)→¬P (p y)→F x=F y→False:=fun x y hp hq h1 h2 e=>by
     rw [hF1 x h1,hF2 y h2]at e;have:=(hocc x hp h1).2.2 (p y) (p1' y hq).1;rw [e]at this;exact h2 (this (p1' y hq).2)
    by_cases h1:P (p x) <;> by_cases h2:P (p y)
    ·rw [hF1 x h1,hF1 y h2]at e;have a1:=(hocc x hp h1).1;have a2:=(hocc y hq h2).1;exact p2 x y hp hq (hw.inj _ _ (p1' x hp).1 (p1' y hq).1 a1 (by omega))
    ·exact(mixed x y hp hq h1 h2 e).elim
    ·exact(mixed y x hq hp h2 h1 e.symm).elim
    ·rw [hF2 x h1,hF2 y h2]at e;exact e
  omega
  -- and so they are one
 have hrev:¬revL (fillL best 0 n)<revL (fillL g 0 n):=fun h=>by
  have h1:¬keyM n best<keyM n g:=by omega
  rw [key_lt,cmp_rev]at h1
  by_cases h2:sumI (fillL best 0 n)=sumI (fillL g 0 n)
  ·exact h1 (.inr ⟨h2,h⟩)
  ·exact h1 (.inl (by omega))
 have hall:∀k,k≤n→∀x,x<k→best.testBit x=g.testBit x:=fun k=>by
  induction k with
  | zero=>intro _ x hx;omega
  | succ k ih =>
   intro hk x hx;have ihk:=ih (by omega)
   by_cases ex:x=k
   ·subst ex;cases h1:best.testBit x <;> cases h2:g.testBit x
    ·rfl
    ·exact absurd (rev_first (a:=g) (b:=best) (r:=n) (i:=0) (j:=x) (Nat.zero_le _) (by omega) (fun y _ hy=>(ihk y hy).symm) h2 h1) hrev
    ·rw [hfirst x (by omega) ihk h1]at h2;cases h2
    ·rfl
   ·exact ihk x (by omega)
 intro i hi;rw [hall n (Nat.le_refl _) i hi];exact gG i
end Go.Proofs.YtnmdpphddimfbaaGreat
/-
  slices.Compare at ints. Condition: at most 1000 of them.
-/
namespace Go.Proofs.YtnmdpphddimfbaaGreat
open Go.RowKit Go.Bw
def encI (x:Int):List Value:=[.int .i64 x]
theorem encI_length (x:Int):(encI x).length=1:=rfl
theorem cellsI (l:List Int):cellsOf encI l=l.map (.int .i64):=by
 induction l with
 | nil=>rfl
 | cons a l ih=>rw [cellsOf_cons,ih];rfl
def cmpZ (a b:Int):Int:=Lib.compareInt a b
theorem compare_int (x y:Int)(w:World):Calls Tryz.prog 110 #[.int .i64 x,.int .i64 y] w fun e w'=>e=.returned (.int .i64 (cmpZ x y))∧w=w' :=
 (Tryz.cmp_Compare_int x y w).mono (by rintro e w' ⟨h1,h2⟩;exact⟨h1,h2.symm⟩)
theorem cmpI_cons (a b:Int)(r s:List Int):cmpI (a::r) (b::s)=if cmpZ a b≠0 then cmpZ a b else cmpI r s:=by
 show(if a<b then(-1:Int)else if b<a then 1 else cmpI r s)=_;unfold cmpZ Lib.compareInt
 by_cases h1:a<b
 ·rw [if_pos h1,if_pos h1];rfl
 ·rw [if_neg h1,if_neg h1]
  by_cases h2:b<a
  ·rw [if_pos h2,if_pos (show a>b from h2)];rfl
  ·rw [if_neg h2,if_neg (show ¬a>b from h2)];rfl
set_option maxHeartbeats 2000000 in
theorem compare_ints (va vb:Value)(a b:List Int)(w:World)(ha:Row w 0 1 va a.length (cellsOf encI a))(hb:Row w 0 1 vb b.length (cellsOf encI b))(hna:a.length≤1000)(hnb:b.length≤1000):
  Calls Tryz.prog 78 #[va,vb] w fun e w'=>e=.returned (.int .i64 (cmpI a b))∧w=w':=by
 obtain⟨p1,c1,rfl⟩:=ha.shape;obtain⟨p2,c2,rfl⟩:=hb.shape;have HA:=Lib.hid ha;have HB:=Lib.hid hb;clear ha hb
 go_enter Tryz.func78,Tryz.ntmps78
 go_wp2_with fail
 go_loopw [11] (fun i wr=>∃k:Int,0≤k∧k≤a.length∧k≤b.length∧i=.int .i64 k∧Hid (cmpI (a.drop k.toNat) (b.drop k.toNat)=cmpI a b)∧Hid (w=wr)) (fun i _=>a.length-(intOf i).toNat)
 case atStart=>exact⟨0,by omega,by omega,by omega,rfl,Lib.hid rfl,Lib.hid rfl⟩
 case round =>
  obtain⟨k,hk0,hka,hkb,rfl,hz,hw⟩:=hrel;obtain rfl:=hw.out
  by_cases hlt:k<a.length
  ·by_cases hlb:k<b.length
   ·obtain⟨z1,o1,rfl,_,_,hc1⟩:=Row.nonnil HA.out (by omega);obtain⟨z2,o2,rfl,_,_,hc2⟩:=Row.nonnil HB.out (by omega);have t1:=Row.elAt encI_length hc1 hk0 hlt 0 _ (by decide) rfl;have t2:=Row.elAt encI_length hc2 hk0 hlb 0 _ (by decide) rfl;rw [Nat.mul_one,Nat.add_zero]at t1 t2;have hge:¬(b.length:Int)≤k:=by omega
    have HC:=Lib.hid (compare_int (geta a k) (geta b k) w);have hd1:=drop_geta hk0 hlt;have hd2:=drop_geta hk0 hlb;have hzz:=hz.out;rw [hd1,hd2]at hzz
    by_cases he:cmpZ (geta a k) (geta b k)=0
    ·have HZ:=Lib.hid (show cmpI (a.drop (k+1).toNat) (b.drop (k+1).toNat)=cmpI a b by
      rw [←hzz,cmpI_cons];rw [if_neg (by simp [he])])
     rw [he]at HC;clear hc1 hc2 hd1 hd2 hzz he hz;generalize geta a k=x at *;generalize geta b k=y at *;go_wp2_with fail
     refine HC.out.mono ?_;rintro e w1 ⟨rfl,rfl⟩;go_wp2_with fail
     go_roundw
     case rel=>exact⟨k+1,by omega,by omega,by omega,rfl,HZ,Lib.hid (by first|rfl|trivial)⟩
     case measure=>simp [intOf];omega
    ·have HQ:=Lib.hid (show cmpZ (geta a k) (geta b k)=cmpI a b by
      rw [←hzz,cmpI_cons];rw [if_pos he])
     have hne:(cmpZ (geta a k) (geta b k) != 0)=true:=by simpa using he
     clear hc1 hc2 hd1 hd2 hzz he hz;generalize cmpZ (geta a k) (geta b k)=cc at *;generalize geta a k=x at *;generalize geta b k=y at *;go_wp2_with fail
     refine HC.out.mono ?_;rintro e w1 ⟨rfl,rfl⟩;go_wp2_with fail
     go_ret
     exact⟨ret_int HQ.out,rfl⟩
   ·obtain⟨z1,o1,rfl,_,_,hc1⟩:=Row.nonnil HA.out (by omega);have t1:=Row.elAt encI_length hc1 hk0 hlt 0 _ (by decide) rfl;rw [Nat.mul_one,Nat.add_zero]at t1;have hd1:=drop_geta hk0 hlt;have hzz:=hz.out;rw [hd1,show b.drop k.toNat=[]from List.drop_of_length_le (by omega)]at hzz;have HQ:=Lib.hid (show(1:Int)=cmpI a b from hzz);have hge:(b.length:Int)≤k:=by omega
    clear hc1 hd1 hzz hz;generalize geta a k=x at *;go_wp2_with fail
    go_ret
    exact⟨ret_int HQ.out,rfl⟩
  ·have hzz:=hz.out;rw [show a.drop k.toNat=[]from List.drop_of_length_le (by omega)]at hzz
   by_cases hl:a.length<b.length
   ·have HQ:=Lib.hid (show(-1:Int)=cmpI a b by
     rw [←hzz,drop_geta hk0 (by omega)];rfl)
    clear hz hzz;go_wp2_with fail
    go_ret
    exact⟨ret_int HQ.out,rfl⟩
   ·have HQ:=Lib.hid (show(0:Int)=cmpI a b by
     rw [←hzz,show b.drop k.toNat=[]from List.drop_of_length_le (by omega)];rfl)
    clear hz hzz;go_wp2_with fail
    go_ret
    exact⟨ret_int HQ.out,rfl⟩
end Go.Proofs.YtnmdpphddimfbaaGreat
