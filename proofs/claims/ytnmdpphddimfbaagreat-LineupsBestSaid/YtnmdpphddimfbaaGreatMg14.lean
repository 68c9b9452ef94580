/-
  Contracts and lemmas towards the statement, of several parts; each part says ahead of it what it holds and under which conditions.
-/
import Derived.Test.YtnmdpphddimfbaaGreatMg11
import Derived.Test.YtnmdpphddimfbaaGreatMg13
import Derived.Test.YtnmdpphddimfbaaGreatMg6
set_option maxRecDepth 100000
set_option maxHeartbeats 1000000
set_option linter.unusedSectionVars false
/-
  The law LineupsBest: its walk from end to end. No condition.
-/
set_option linter.unusedVariables false
namespace Go.Proofs.YtnmdpphddimfbaaGreat
open Go.RowKit Go.Bw
theorem StO.H {B b:Nat}{w0 w:World}{v:Value}{K:List ByteArray}(h:StO B b w0 v K w)(hn:K.length≤1000):BnH w v K :=
 ⟨(Row.of_owns h.o).mono (Nat.zero_le _),fun x hx=>Nat.le_trans (h.z x hx) (by decide),hn⟩
/-- The data; the stream is left behind. -/
structure LB (n₀:Nat)(w0:World)(v4:Value)(S:List SlD)(v5:Value)(L:List ScD)(v6:Value)(K:List ByteArray)(w:World):Prop where
 bel:Below n₀ w0 w
 hz:n₀≤w.heap.size
 s:SlH w v4 S
 c:ScH w v5 L
 k:BnH w v6 K
/-- What is small. -/
structure LBn (S:List SlD)(L:List ScD)(K:List ByteArray):Prop where
 s:S.length≤4
 l:L.length≤6
 k:K.length≤7
/-- And the program's answers. -/
structure LC (n₀:Nat)(w0:World)(v4:Value)(S:List SlD)(v5:Value)(L:List ScD)(v6:Value)(K:List ByteArray)(v7:Value)(A8:Nat)(v12:Value)(w:World):Prop where
 d:LB n₀ w0 v4 S v5 L v6 K w
 f8:Fx w A8 (bestN S L)
 r7:Row w 0 2 v7 (bestV S L).length (cellsOf encFl (bestV S L))
 r12:Row w 0 1 v12 (lackV S L).length (cellsOf encSt (lackV S L))
/-- The reference's fraction, in a box of the law's own. -/
structure LE1 (wM:World)(A18:Nat)(p:Int×Int)(w:World):Prop where
 b:Below wM.heap.size wM w
 o:w.ownsRow wM.heap.size 34 2 (.slice (some ⟨A18,0,none⟩) 1 1) 1 [.int .i64 p.1,.int .i64 p.2]
section
variable {n₀ A8 A18:Nat}{w0 wM w w':World}{v4 v5 v6 v7 v12:Value}{S:List SlD}{L:List ScD}{K:List ByteArray}{p:Int×Int}
theorem LB.below (h:LB n₀ w0 v4 S v5 L v6 K w)(g:Below w.heap.size w w'):LB n₀ w0 v4 S v5 L v6 K w' :=
 ⟨h.bel.trans (g.mono h.hz),Nat.le_trans h.hz g.size,h.s.below g,h.c.below g,h.k.below g⟩
theorem LC.below (h:LC n₀ w0 v4 S v5 L v6 K v7 A8 v12 w)(g:Below w.heap.size w w'):LC n₀ w0 v4 S v5 L v6 K v7 A8 v12 w':=⟨h.d.below g,h.f8.below g,h.r7.below g,h.r12.below g⟩
theorem LE1.below (h:LE1 wM A18 p w)(g:Below w.heap.size w w'):LE1 wM A18 p w':=⟨h.b.trans (g.mono h.b.size),owns_below h.o g (Nat.le_refl _)⟩
theorem LE1.put (h:LE1 wM A18 p w)(x y:Int):LE1 wM A18 (x,y) ((w.setCell ⟨A18,0,none⟩ (.int .i64 x)).setCell ⟨A18,1,none⟩ (.int .i64 y)):=by
 have hg:=(h.o.lt A18 rfl).1;exact⟨(h.b.setCell (p:=⟨A18,0,none⟩) hg _).setCell (p:=⟨A18,1,none⟩) hg _,owns_setC (owns_setC h.o 0 (by omega) (.int .i64 x)) 1 (by omega) (.int .i64 y)⟩
theorem LE1.new (wM:World):LE1 wM wM.heap.size (0,0) (wM.alloc (.cells #[.int .i64 0,.int .i64 0] 34)) :=
 ⟨(Below.refl wM.heap.size wM).alloc (Nat.le_refl _) _,owns_litZ wM wM.heap.size 34 #[.int .i64 0,.int .i64 0] 1 2 (by decide) rfl (Nat.le_refl _)⟩
/-- Rows of another type stay. -/
theorem LE1.row {b2 e2 s2 n2:Nat}{v:Value}{cs:List Value}(h:LE1 wM A18 p w)(ho:w.ownsRow b2 e2 s2 v n2 cs)(he:e2≠34)(x y:Int):Row ((w.setCell ⟨A18,0,none⟩ (.int .i64 x)).setCell ⟨A18,1,none⟩ (.int .i64 y)) 0 s2 v n2 cs:=by
 have o1:=owns_apart ho h.o he (grown_setCell w A18 0 (.int .i64 x));have o2:=owns_apart o1 (owns_setC h.o 0 (by omega) (.int .i64 x)) he (grown_setCell _ A18 1 (.int .i64 y));exact(Row.of_owns o2).mono (Nat.zero_le _)
theorem box_cells {base g:Nat}{a b:Value}(h:w.ownsRow base 34 2 (.slice (some ⟨g,0,none⟩) 1 1) 1 [a,b]):w.cell? ⟨g,0,none⟩=some a∧w.cell? ⟨g,1,none⟩=some b:=by
 rcases(Row.of_owns h).2 with ⟨h0,_⟩|⟨g',off,cap,hv,_,_,_,_,hc⟩
 ·cases h0
 ·simp only [Value.slice.injEq,Option.some.injEq,Addr.mk.injEq]at hv;obtain⟨⟨rfl,rfl,_⟩,_,_⟩:=hv;exact⟨hc 0 _ rfl,hc 1 _ rfl⟩
theorem canE_ss (h:ssE S L≠0):canE S L K=ssE S L:=by unfold canE;rw [if_pos h]
theorem canE_who (h:ssE S L=0):canE S L K=whoE L K:=by unfold canE;rw [if_neg (by simp [h])]
theorem canB_no (h:canE S L K≠0):canB S L K=false:=by unfold canB;rw [decide_eq_false h];rfl
theorem canB_of {q:Bool}(h:canE S L K=0)(hq:q=true↔∃m,McS S L K K.length m):q=canB S L K:=by
 have e:canB S L K=canR S L K:=by unfold canB;rw [decide_eq_true h];rfl
 rw [e];have:=can_law h;cases q <;> cases hc:canR S L K <;> simp_all
end
noncomputable def lwM:Code:=(Tryz.f4.body).getD .skip
theorem fr_lwM (f:Nat→Value):frame 121 f=⟨#[f 0,f 1,f 2,f 3,f 4,f 5,f 6,f 7,f 8,f 9,f 10,f 11,f 12,f 13,f 14,f 15,f 16,f 17,f 18,f 19,f 20,f 21,f 22,f 23,f 24,f 25,f 26,f 27,f 28,f 29,f 30,f 31,f 32,f 33,f 34,f 35,f 36,f 37,f 38,f 39,f 40,f 41,f 42,f 43,f 44,f 45,f 46,f 47,f 48,f 49,f 50,f 51,f 52,f 53,f 54,f 55,f 56,f 57,f 58,f 59,f 60,f 61,f 62,f 63,f 64,f 65,f 66,f 67,f 68,f 69,f 70,f 71,f 72,f 73,f 74,f 75,f 76,f 77,f 78,f 79,f 80,f 81,f 82,f 83,f 84,f 85,f 86,f 87,f 88,f 89,f 90,f 91,f 92,f 93,f 94,f 95,f 96,f 97,f 98,f 99,f 100,f 101,f 102,f 103,f 104,f 105,f 106,f 107,f 108,f 109,f 110,f 111,f 112,f 113,f 114,f 115,f 116,f 117,f 118,f 119,f 120],[]⟩:=by rfl
theorem lw0 (v:Value)(w0:World):T3 Tryz.prog (fun a w=>(IsW w0 w)∧Fr 121 [(0,v)] a) (sel [0] lwM) (fun a w=>(IsW w0 w)∧Fr 121 [(0,v)] a) No 9 No:=by
 refine T3.leaf ?_;rintro Q JS JX JT K hS hK hX hE hT hR a w ⟨hw,⟨fr,rfl,q0,_⟩⟩;obtain rfl:w=w0:=hw;rw [fr_lwM,fe q0];clear q0;conv=>arg 2;whnf
 go_wp2_with fail
 refine Met.intro (hS _ _ ?_);exact⟨rfl,Fr.of _ rfl ⟨rfl,trivial⟩⟩
theorem lw1 (v:Value)(n:Nat)(zs:List Int)(w0:World)(h:SRow w0 v n zs w0.heap.size):T3 Tryz.prog (fun a w=>(IsW w0 w)∧Fr 121 [(0,v)] a) (sel [1,0] lwM) (fun a w=>(Str w0.heap.size w 0∧Below w0.heap.size w0 w∧w0.heap.size+1≤w.heap.size)∧Fr 121 [(3,.pointer (some ⟨w0.heap.size,0,none⟩))] a) No 9 No:=by
 refine T3.leaf ?_;rintro Q JS JX JT K hS hK hX hE hT hR a w ⟨hw,⟨fr,rfl,q0,_⟩⟩;obtain rfl:w=w0:=hw;have hS0:=str_newC w v n zs 25 h;obtain⟨p,c,rfl⟩:∃a c,v=.slice a n c:=by
  rcases h with ⟨rfl,a,c,rfl⟩|⟨h,_⟩
  ·exact⟨_,_,rfl⟩
  ·rcases h.2 with ⟨rfl,rfl⟩|⟨b,off,cap,rfl,_⟩
   ·exact⟨_,_,rfl⟩
   ·exact⟨_,_,rfl⟩
 clear h;rw [fr_lwM,fe q0];clear q0;conv=>arg 2;whnf
 go_wp2_with fail
 refine Met.intro (hS _ _ ?_);exact⟨⟨hS0,(Below.refl _ _).alloc (Nat.le_refl _) _,by simp⟩,Fr.of _ rfl ⟨rfl,trivial⟩⟩
theorem lw2 (n₀:Nat)(w0:World):T3 Tryz.prog (fun a w=>(Str n₀ w 0∧Below n₀ w0 w∧n₀+1≤w.heap.size)∧Fr 121 [(3,.pointer (some ⟨n₀,0,none⟩))] a) (sel [1,1,0] lwM) (fun a w=>∃(ws wc:World) (v4:Value) (S:List SlD) (v5:Value) (L:List ScD),(S.length≤4∧L.length≤6)∧((Below n₀ w0 w∧n₀<w.heap.size)∧SlO n₀ 80 ws v4 S w∧ScO n₀ 80 wc v5 L w)∧Fr 121 [(3,.pointer (some ⟨n₀,0,none⟩)),(4,v4),(5,v5)] a) No 9 No:=by
 refine T3.leaf ?_;rintro Q JS JX JT K hS hK hX hE hT hR a w ⟨⟨hS_,hbel,hz⟩,⟨fr,rfl,q3,_⟩⟩;have HS:=Lib.hid hS_;have HB:=Lib.hid hbel;clear hS_ hbel;rw [fr_lwM,fe q3];clear q3;conv=>arg 2;whnf
 go_wp2_with fail
 refine(slotsS_any n₀ 0 w HS.out (by decide)).mono ?_;rintro e w1 ⟨v4,S,rfl,hn,h1⟩;have H1:=Lib.hid h1;have HN:=Lib.hid hn;have HB1:=Lib.hid (below_str HB.out h1.d.gr (Nat.le_refl _) (by omega));have hz1:=h1.d.size;obtain⟨p4,c4,rfl⟩:=(Row.of_owns h1.o).shape;clear h1 hn;go_wp2_with fail
 refine(scorersS_any n₀ (0+26) w1 H1.out.d.str (by decide)).mono ?_;rintro e w2 ⟨v5,L,rfl,hn,h2⟩;have H2:=Lib.hid (show(Below n₀ w0 w2∧n₀<w2.heap.size)∧SlO n₀ 80 w (.slice p4 S.length c4) S w2∧ScO n₀ 80 w1 v5 L w2 from⟨⟨below_str HB1.out h2.d.gr (Nat.le_refl _) (by omega),by have:=h2.d.size;omega⟩,H1.out.drawn h2.d,h2⟩);have HN2:=Lib.hid hn;obtain⟨p5,c5,rfl⟩:=(Row.of_owns h2.o).shape;clear h2 hn;go_wp2_with fail
 refine Met.intro (hS _ _ ?_);exact⟨w,w1,_,S,_,L,⟨HN.out,HN2.out⟩,H2.out,Fr.r rfl rfl⟩
theorem lw3 (n₀:Nat)(w0:World)(ws wc:World)(v4:Value)(S:List SlD)(v5:Value)(L:List ScD)(hn:S.length≤4∧L.length≤6):T3 Tryz.prog (fun a w=>((Below n₀ w0 w∧n₀<w.heap.size)∧SlO n₀ 80 ws v4 S w∧ScO n₀ 80 wc v5 L w)∧Fr 121 [(3,.pointer (some ⟨n₀,0,none⟩)),(4,v4),(5,v5)] a) (sel [1,1,1,0] lwM) (fun a w=>∃(v6:Value) (K:List ByteArray),(LBn S L K)∧(LB n₀ w0 v4 S v5 L v6 K w)∧Fr 121 [(4,v4),(5,v5),(6,v6)] a) No 9 No:=by
 refine T3.leaf ?_;rintro Q JS JX JT K_ hS hK hX hE hT hR a w ⟨⟨hbw,hSl,hL⟩,⟨fr,rfl,q3,q4,q5,_⟩⟩;obtain⟨hn1,hn2⟩:=hn;have hlt:=hbw.2;have HB:=Lib.hid hbw.1;obtain⟨p4,c4,rfl⟩:=(Row.of_owns hSl.o).shape;obtain⟨p5,c5,rfl⟩:=(Row.of_owns hL.o).shape;have HS:=Lib.hid hSl;have HL:=Lib.hid hL;clear hSl hL hbw;rw [fr_lwM,fe q3,fe q4,fe q5];clear q3 q4 q5;conv=>arg 2;whnf
 go_wp2_with fail
 refine(someOf_any n₀ 80 80 w wc (.slice p5 L.length c5) L HL.out HL.out.d.str (by omega) (by decide)).mono ?_;rintro e w1 ⟨v6,K,rfl,hnk,h1⟩;have HF:=Lib.hid (show LBn S L K∧LB n₀ w0 (.slice p4 S.length c4) S (.slice p5 L.length c5) L v6 K w1 from
  ⟨⟨hn1,hn2,by omega⟩,below_str HB.out h1.d.gr (Nat.le_refl _) (by omega),by have:=h1.d.size;omega,(HS.out.drawn h1.d).H (by omega),(HL.out.drawn h1.d).H (by omega),h1.H (by omega)⟩)
 obtain⟨p6,c6,rfl⟩:=(Row.of_owns h1.o).shape;clear h1 hnk;go_wp2_with fail
 refine Met.intro (hS _ _ ?_);exact⟨_,K,HF.out.1,HF.out.2,Fr.r rfl rfl⟩
section
variable (n₀:Nat)(w0:World)(v4:Value)(S:List SlD)(v5:Value)(L:List ScD)(v6:Value)(K:List ByteArray)(hN:LBn S L K)
include n₀ w0 v4 v5 v6 hN
theorem lw4:T3 Tryz.prog (fun a w=>(LB n₀ w0 v4 S v5 L v6 K w)∧Fr 121 [(4,v4),(5,v5),(6,v6)] a) (sel [1,1,1,1,0] lwM) (fun a w=>∃(v7:Value) (A8:Nat),(LB n₀ w0 v4 S v5 L v6 K w∧Fx w A8 (bestN S L)∧Row w 0 2 v7 (bestV S L).length (cellsOf encFl (bestV S L)))∧Fr 121 [(4,v4),(5,v5),(6,v6),(7,v7),(8,.pointer (some ⟨A8,0,none⟩)),(9,.int .i64 (ssE S L))] a) No 9 No:=by
 refine T3.leaf ?_;rintro Q JS JX JT K_ hS hK hX hE hT hR a w ⟨hW,⟨fr,rfl,q4,q5,q6,_⟩⟩;have HP:=Lib.hid (bestP w v4 v5 S L hW.s hW.c hN.s hN.l);have HW:=Lib.hid hW;obtain⟨p4,c4,rfl⟩:=hW.s.r.shape;obtain⟨p5,c5,rfl⟩:=hW.c.r.shape;obtain⟨p6,c6,rfl⟩:=hW.k.r.shape;clear hW;generalize hsv:bestN S L=sv at *;generalize ssE S L=eo at *;obtain⟨s1,s2⟩:=sv;simp only at HP;clear hsv;rw [fr_lwM,fe q4,fe q5,fe q6];clear q4 q5 q6;conv=>arg 2;whnf
 go_wp2_with fail
 refine HP.out.mono ?_;rintro e w1 ⟨v7,rfl,ho,hb⟩;have hba:=(Below.refl w1.heap.size w1).alloc (Nat.le_refl _) (.cells #[.int .i64 s1,.int .i64 s2] 34);have HR:=Lib.hid (And.intro ((HW.out.below hb).below hba) (And.intro (Fx.new w1 s1 s2 34) (((Row.of_owns ho).mono (Nat.zero_le _)).below hba)));obtain⟨p7,c7,rfl⟩:=(Row.of_owns ho).shape;clear hb hba ho;go_wp2_with fail
 refine Met.intro (hS _ _ ?_);exact⟨_,_,HR.out,Fr.r rfl rfl⟩
section
variable (v7:Value)(A8:Nat)
include v7 A8
theorem lw5:T3 Tryz.prog (fun a w=>(LB n₀ w0 v4 S v5 L v6 K w∧Fx w A8 (bestN S L)∧Row w 0 2 v7 (bestV S L).length (cellsOf encFl (bestV S L)))∧Fr 121 [(4,v4),(5,v5),(6,v6),(7,v7),(8,.pointer (some ⟨A8,0,none⟩)),(9,.int .i64 (ssE S L))] a) (sel [1,1,1,1,1,0] lwM) (fun a w=>(LB n₀ w0 v4 S v5 L v6 K w∧Fx w A8 (bestN S L)∧Row w 0 2 v7 (bestV S L).length (cellsOf encFl (bestV S L)))∧Fr 121 [(4,v4),(5,v5),(6,v6),(7,v7),(8,.pointer (some ⟨A8,0,none⟩)),(9,.int .i64 (ssE S L)),(10,.bool (canB S L K)),(11,.int .i64 (canE S L K))] a) No 9 No:=by
 refine T3.leaf ?_;rintro Q JS JX JT K_ hS hK hX hE hT hR a w ⟨hW,⟨fr,rfl,q4,q5,q6,q7,q8,q9,_⟩⟩;have HP:=Lib.hid (can_prog w v4 v5 v6 S L K hW.1.s hW.1.c hW.1.k);have HN:=Lib.hid (fun w' (b:Below w.heap.size w w')=>And.intro (hW.1.below b) (And.intro (hW.2.1.below b) (hW.2.2.below b)));obtain⟨p7,c7,rfl⟩:=hW.2.2.shape;obtain⟨p4,c4,rfl⟩:=hW.1.s.r.shape;obtain⟨p5,c5,rfl⟩:=hW.1.c.r.shape;obtain⟨p6,c6,rfl⟩:=hW.1.k.r.shape;clear hW;generalize ssE S L=eo at *;generalize canE S L K=ce at *;generalize canB S L K=cb at *;rw [fr_lwM,fe q4,fe q5,fe q6,fe q7,fe q8,fe q9];clear q4 q5 q6 q7 q8 q9;conv=>arg 2;whnf
 go_wp2_with fail
 refine HP.out.mono ?_;rintro e w1 ⟨rfl,hb⟩;have HR:=Lib.hid (HN.out w1 hb);clear hb;go_wp2_with fail
 refine Met.intro (hS _ _ ?_);exact⟨HR.out,Fr.r rfl rfl⟩
theorem lw6:T3 Tryz.prog (fun a w=>(LB n₀ w0 v4 S v5 L v6 K w∧Fx w A8 (bestN S L)∧Row w 0 2 v7 (bestV S L).length (cellsOf encFl (bestV S L)))∧Fr 121 [(4,v4),(5,v5),(6,v6),(7,v7),(8,.pointer (some ⟨A8,0,none⟩)),(9,.int .i64 (ssE S L)),(10,.bool (canB S L K)),(11,.int .i64 (canE S L K))] a) (sel [1,1,1,1,1,1,0] lwM) (fun a w=>∃(v12:Value),(LC n₀ w0 v4 S v5 L v6 K v7 A8 v12 w)∧Fr 121 [(4,v4),(5,v5),(6,v6),(7,v7),(8,.pointer (some ⟨A8,0,none⟩)),(9,.int .i64 (ssE S L)),(10,.bool (canB S L K)),(11,.int .i64 (canE S L K)),(12,v12),(13,.int .i64 (ssE S L))] a) No 9 No:=by
 refine T3.leaf ?_;rintro Q JS JX JT K_ hS hK hX hE hT hR a w ⟨hW,⟨fr,rfl,q4,q5,q6,q7,q8,q9,q10,q11,_⟩⟩;have HP:=Lib.hid (lack_prog w v4 v5 S L hW.1.s hW.1.c);have HW:=Lib.hid hW;obtain⟨p7,c7,rfl⟩:=hW.2.2.shape;obtain⟨p4,c4,rfl⟩:=hW.1.s.r.shape;obtain⟨p5,c5,rfl⟩:=hW.1.c.r.shape;obtain⟨p6,c6,rfl⟩:=hW.1.k.r.shape;clear hW;generalize ssE S L=eo at *;generalize canE S L K=ce at *;generalize canB S L K=cb at *;rw [fr_lwM,fe q4,fe q5,fe q6,fe q7,fe q8,fe q9,fe q10,fe q11];clear q4 q5 q6 q7 q8 q9 q10 q11;conv=>arg 2;whnf
 go_wp2_with fail
 refine HP.out.mono ?_;rintro e w1 ⟨v12,rfl,ho,hb⟩;have HR:=Lib.hid (show LC n₀ w0 _ S _ L _ K _ A8 v12 w1 from⟨HW.out.1.below hb,HW.out.2.1.below hb,HW.out.2.2.below hb,(Row.of_owns ho).mono (Nat.zero_le _)⟩);obtain⟨p12,c12,rfl⟩:=(Row.of_owns ho).shape;clear ho hb;go_wp2_with fail
 refine Met.intro (hS _ _ ?_);exact⟨_,HR.out,Fr.r rfl rfl⟩
section
variable (v12:Value)
include v12
theorem lw7:T3 Tryz.prog (fun a w=>(LC n₀ w0 v4 S v5 L v6 K v7 A8 v12 w)∧Fr 121 [(4,v4),(5,v5),(6,v6),(7,v7),(8,.pointer (some ⟨A8,0,none⟩)),(9,.int .i64 (ssE S L)),(10,.bool (canB S L K)),(11,.int .i64 (canE S L K)),(12,v12),(13,.int .i64 (ssE S L))] a) (sel [1,1,1,1,1,1,1,0] lwM) (fun a w=>(LC n₀ w0 v4 S v5 L v6 K v7 A8 v12 w)∧Fr 121 [(4,v4),(5,v5),(6,v6),(7,v7),(8,.pointer (some ⟨A8,0,none⟩)),(9,.int .i64 (ssE S L)),(10,.bool (canB S L K)),(11,.int .i64 (canE S L K)),(12,v12),(13,.int .i64 (ssE S L)),(14,.int .i64 (ssE S L))] a) No 9 No:=by
 refine T3.leaf ?_;rintro Q JS JX JT K_ hS hK hX hE hT hR a w ⟨hW,⟨fr,rfl,q4,q5,q6,q7,q8,q9,q10,q11,q12,q13,_⟩⟩;have HS:=Lib.hid (slots_ref w v4 S hW.d.s);have HC:=Lib.hid (fun w' (b:Below w.heap.size w w')=>scorers_ref w' v5 L (hW.d.c.below b));have HQ:=Lib.hid (show err2 (slotsE S) (scorersE L)=ssE S L from rfl);have HW:=Lib.hid hW;obtain⟨p12,c12,rfl⟩:=hW.r12.shape;obtain⟨p7,c7,rfl⟩:=hW.r7.shape;obtain⟨p4,c4,rfl⟩:=hW.d.s.r.shape;obtain⟨p5,c5,rfl⟩:=hW.d.c.r.shape;obtain⟨p6,c6,rfl⟩:=hW.d.k.r.shape;clear hW;generalize canE S L K=ce at *;generalize canB S L K=cb at *;generalize ssE S L=eS at *;generalize slotsE S=e1 at *;generalize scorersE L=e2 at *;rw [fr_lwM,fe q4,fe q5,fe q6,fe q7,fe q8,fe q9,fe q10,fe q11,fe q12,fe q13];clear q4 q5 q6 q7 q8 q9 q10 q11 q12 q13;conv=>arg 2;whnf
 go_wp2_with fail
 refine HS.out.mono ?_;rintro e w1 ⟨rfl,hb⟩;have B1:=Lib.hid hb;clear hb;go_wp2_with fail
 refine(HC.out w1 B1.out).mono ?_;rintro e w2 ⟨rfl,hb⟩;have B2:=Lib.hid (B1.out.trans (hb.mono B1.out.size));clear hb;go_wp2_with fail
 refine(errs_two e1 e2 w2 _).mono ?_;rw [HQ.out];rintro e w3 ⟨rfl,hb⟩;have HR:=Lib.hid (HW.out.below (B2.out.trans (hb.mono B2.out.size)));clear hb;go_wp2_with fail
 refine Met.intro (hS _ _ ?_);exact⟨HR.out,Fr.r rfl rfl⟩
theorem lw8:T3 Tryz.prog (fun a w=>(LC n₀ w0 v4 S v5 L v6 K v7 A8 v12 w)∧Fr 121 [(4,v4),(5,v5),(6,v6),(7,v7),(8,.pointer (some ⟨A8,0,none⟩)),(9,.int .i64 (ssE S L)),(10,.bool (canB S L K)),(11,.int .i64 (canE S L K)),(12,v12),(13,.int .i64 (ssE S L)),(14,.int .i64 (ssE S L))] a) (sel [1,1,1,1,1,1,1,1,0] lwM) (fun a w=>(LC n₀ w0 v4 S v5 L v6 K v7 A8 v12 w)∧Fr 121 [(4,v4),(5,v5),(6,v6),(7,v7),(8,.pointer (some ⟨A8,0,none⟩)),(9,.int .i64 (ssE S L)),(10,.bool (canB S L K)),(11,.int .i64 (canE S L K)),(12,v12),(13,.int .i64 (ssE S L)),(14,.int .i64 (ssE S L)),(15,.int .i64 (ssE S L))] a) No 9 No:=by
 refine T3.leaf ?_;rintro Q JS JX JT K_ hS hK hX hE hT hR a w ⟨hW,⟨fr,rfl,q4,q5,q6,q7,q8,q9,q10,q11,q12,q13,q14,_⟩⟩;have HW:=Lib.hid hW;obtain⟨p12,c12,rfl⟩:=hW.r12.shape;obtain⟨p7,c7,rfl⟩:=hW.r7.shape;obtain⟨p4,c4,rfl⟩:=hW.d.s.r.shape;obtain⟨p5,c5,rfl⟩:=hW.d.c.r.shape;obtain⟨p6,c6,rfl⟩:=hW.d.k.r.shape;clear hW;generalize canE S L K=ce at *;generalize canB S L K=cb at *;generalize ssE S L=eS at *;rw [fr_lwM,fe q4,fe q5,fe q6,fe q7,fe q8,fe q9,fe q10,fe q11,fe q12,fe q13,fe q14];clear q4 q5 q6 q7 q8 q9 q10 q11 q12 q13 q14;conv=>arg 2;whnf
 go_wp2_with fail
 refine Met.intro (hS _ _ ?_);exact⟨HW.out,Fr.r rfl rfl⟩
theorem lw9:T3 Tryz.prog (fun a w=>(LC n₀ w0 v4 S v5 L v6 K v7 A8 v12 w)∧Fr 121 [(4,v4),(5,v5),(6,v6),(7,v7),(8,.pointer (some ⟨A8,0,none⟩)),(9,.int .i64 (ssE S L)),(10,.bool (canB S L K)),(11,.int .i64 (canE S L K)),(12,v12),(13,.int .i64 (ssE S L)),(14,.int .i64 (ssE S L)),(15,.int .i64 (ssE S L))] a) (sel [1,1,1,1,1,1,1,1,1,0,0] lwM) (fun a w=>∃q,Fr 121 ((59,.bool q)::[(4,v4),(5,v5),(6,v6),(7,v7),(8,.pointer (some ⟨A8,0,none⟩)),(9,.int .i64 (ssE S L)),(10,.bool (canB S L K)),(11,.int .i64 (canE S L K)),(12,v12),(13,.int .i64 (ssE S L)),(14,.int .i64 (ssE S L)),(15,.int .i64 (ssE S L))]) a∧((q=(ssE S L==0))∧LC n₀ w0 v4 S v5 L v6 K v7 A8 v12 w)) No 9 No:=by
 refine T3.leaf ?_;rintro Q JS JX JT K_ hS hK hX hE hT hR a w ⟨hW,⟨fr,rfl,q4,q5,q6,q7,q8,q9,q10,q11,q12,q13,q14,q15,_⟩⟩;have HW:=Lib.hid hW;obtain⟨p12,c12,rfl⟩:=hW.r12.shape;obtain⟨p7,c7,rfl⟩:=hW.r7.shape;obtain⟨p4,c4,rfl⟩:=hW.d.s.r.shape;obtain⟨p5,c5,rfl⟩:=hW.d.c.r.shape;obtain⟨p6,c6,rfl⟩:=hW.d.k.r.shape;clear hW;generalize canE S L K=ce at *;generalize canB S L K=cb at *;generalize ssE S L=eS at *;rw [fr_lwM,fe q4,fe q5,fe q6,fe q7,fe q8,fe q9,fe q10,fe q11,fe q12,fe q13,fe q14,fe q15];clear q4 q5 q6 q7 q8 q9 q10 q11 q12 q13 q14 q15;conv=>arg 2;whnf
 go_wp2_with fail
 refine Met.intro (hS _ _ ?_);exact⟨_,Fr.r rfl rfl,rfl,HW.out⟩
theorem lw10 (hz:ssE S L=0):T3 Tryz.prog (fun a w=>(LC n₀ w0 v4 S v5 L v6 K v7 A8 v12 w)∧Fr 121 [(4,v4),(5,v5),(6,v6),(7,v7),(8,.pointer (some ⟨A8,0,none⟩)),(9,.int .i64 (ssE S L)),(10,.bool (canB S L K)),(11,.int .i64 (canE S L K)),(12,v12),(13,.int .i64 (ssE S L)),(14,.int .i64 (ssE S L)),(15,.int .i64 (ssE S L))] a) (sel [1,1,1,1,1,1,1,1,1,0,1,2] lwM) (fun a w=>(LC n₀ w0 v4 S v5 L v6 K v7 A8 v12 w)∧Fr 121 [(4,v4),(5,v5),(6,v6),(7,v7),(8,.pointer (some ⟨A8,0,none⟩)),(9,.int .i64 (ssE S L)),(10,.bool (canB S L K)),(11,.int .i64 (canE S L K)),(12,v12),(13,.int .i64 (ssE S L)),(14,.int .i64 (ssE S L)),(15,.int .i64 (canE S L K))] a) No 9 No:=by
 refine T3.leaf ?_;rintro Q JS JX JT K_ hS hK hX hE hT hR a w ⟨hW,⟨fr,rfl,q4,q5,q6,q7,q8,q9,q10,q11,q12,q13,q14,q15,_⟩⟩;have HF:=Lib.hid (who_ref w v5 v6 L K hW.d.c hW.d.k);rw [←canE_who (S:=S) hz]at HF;have HW:=Lib.hid hW;obtain⟨p12,c12,rfl⟩:=hW.r12.shape;obtain⟨p7,c7,rfl⟩:=hW.r7.shape;obtain⟨p4,c4,rfl⟩:=hW.d.s.r.shape;obtain⟨p5,c5,rfl⟩:=hW.d.c.r.shape;obtain⟨p6,c6,rfl⟩:=hW.d.k.r.shape;clear hW hz;generalize canE S L K=ce at *;generalize canB S L K=cb at *;generalize ssE S L=eS at *;rw [fr_lwM,fe q4,fe q5,fe q6,fe q7,fe q8,fe q9,fe q10,fe q11,fe q12,fe q13,fe q14,fe q15];clear q4 q5 q6 q7 q8 q9 q10 q11 q12 q13 q14 q15;conv=>arg 2;whnf
 go_wp2_with fail
 refine HF.out.mono ?_;rintro e w1 ⟨rfl,hb⟩;have HR:=Lib.hid (HW.out.below hb);clear hb;go_wp2_with fail
 refine Met.intro (hS _ _ ?_);exact⟨HR.out,Fr.r rfl rfl⟩
end
end
end
section
variable (n₀:Nat)(w0:World)(v4:Value)(S:List SlD)(v5:Value)(L:List ScD)(v6:Value)(K:List ByteArray)(hN:LBn S L K)(v7:Value)(A8:Nat)(v12:Value)(wM:World)(hM:LC n₀ w0 v4 S v5 L v6 K v7 A8 v12 wM)
include hN hM
theorem lw11:T3 Tryz.prog (fun a w=>(IsW wM w)∧Fr 121 [(4,v4),(5,v5),(6,v6),(7,v7),(8,.pointer (some ⟨A8,0,none⟩)),(9,.int .i64 (ssE S L)),(10,.bool (canB S L K)),(11,.int .i64 (canE S L K)),(12,v12),(13,.int .i64 (ssE S L)),(14,.int .i64 (ssE S L)),(15,.int .i64 (canE S L K))] a) (sel [1,1,1,1,1,1,1,1,1,1,0] lwM) (fun a w=>(IsW wM w)∧Fr 121 [(4,v4),(5,v5),(6,v6),(7,v7),(8,.pointer (some ⟨A8,0,none⟩)),(9,.int .i64 (ssE S L)),(10,.bool (canB S L K)),(11,.int .i64 (canE S L K)),(12,v12),(13,.int .i64 (ssE S L)),(14,.int .i64 (ssE S L)),(15,.int .i64 (canE S L K)),(16,.slice none 0 0)] a) No 9 No:=by
 refine T3.leaf ?_;rintro Q JS JX JT K_ hS hK hX hE hT hR a w ⟨hW,⟨fr,rfl,q4,q5,q6,q7,q8,q9,q10,q11,q12,q13,q14,q15,_⟩⟩;have HW:=Lib.hid hW;obtain⟨p12,c12,rfl⟩:=hM.r12.shape;obtain⟨p7,c7,rfl⟩:=hM.r7.shape;obtain⟨p4,c4,rfl⟩:=hM.d.s.r.shape;obtain⟨p5,c5,rfl⟩:=hM.d.c.r.shape;obtain⟨p6,c6,rfl⟩:=hM.d.k.r.shape;clear hM hW;generalize canE S L K=ce at *;generalize canB S L K=cb at *;generalize ssE S L=eS at *;rw [fr_lwM,fe q4,fe q5,fe q6,fe q7,fe q8,fe q9,fe q10,fe q11,fe q12,fe q13,fe q14,fe q15];clear q4 q5 q6 q7 q8 q9 q10 q11 q12 q13 q14 q15;conv=>arg 2;whnf
 go_wp2_with fail
 refine Met.intro (hS _ _ ?_);exact⟨HW.out,Fr.r rfl rfl⟩
theorem lw12:T3 Tryz.prog (fun a w=>(IsW wM w)∧Fr 121 [(4,v4),(5,v5),(6,v6),(7,v7),(8,.pointer (some ⟨A8,0,none⟩)),(9,.int .i64 (ssE S L)),(10,.bool (canB S L K)),(11,.int .i64 (canE S L K)),(12,v12),(13,.int .i64 (ssE S L)),(14,.int .i64 (ssE S L)),(15,.int .i64 (canE S L K)),(16,.slice none 0 0)] a) (sel [1,1,1,1,1,1,1,1,1,1,1,0] lwM) (fun a w=>(IsW wM w)∧Fr 121 [(4,v4),(5,v5),(6,v6),(7,v7),(8,.pointer (some ⟨A8,0,none⟩)),(9,.int .i64 (ssE S L)),(10,.bool (canB S L K)),(11,.int .i64 (canE S L K)),(12,v12),(13,.int .i64 (ssE S L)),(14,.int .i64 (ssE S L)),(15,.int .i64 (canE S L K)),(16,.slice none 0 0),(17,.slice none 0 0)] a) No 9 No:=by
 refine T3.leaf ?_;rintro Q JS JX JT K_ hS hK hX hE hT hR a w ⟨hW,⟨fr,rfl,q4,q5,q6,q7,q8,q9,q10,q11,q12,q13,q14,q15,q16,_⟩⟩;have HW:=Lib.hid hW;obtain⟨p12,c12,rfl⟩:=hM.r12.shape;obtain⟨p7,c7,rfl⟩:=hM.r7.shape;obtain⟨p4,c4,rfl⟩:=hM.d.s.r.shape;obtain⟨p5,c5,rfl⟩:=hM.d.c.r.shape;obtain⟨p6,c6,rfl⟩:=hM.d.k.r.shape;clear hM hW;generalize canE S L K=ce at *;generalize canB S L K=cb at *;generalize ssE S L=eS at *;rw [fr_lwM,fe q4,fe q5,fe q6,fe q7,fe q8,fe q9,fe q10,fe q11,fe q12,fe q13,fe q14,fe q15,fe q16];clear q4 q5 q6 q7 q8 q9 q10 q11 q12 q13 q14 q15 q16;conv=>arg 2;whnf
 go_wp2_with fail
 refine Met.intro (hS _ _ ?_);exact⟨HW.out,Fr.r rfl rfl⟩
theorem lw13:T3 Tryz.prog (fun a w=>(IsW wM w)∧Fr 121 [(4,v4),(5,v5),(6,v6),(7,v7),(8,.pointer (some ⟨A8,0,none⟩)),(9,.int .i64 (ssE S L)),(10,.bool (canB S L K)),(11,.int .i64 (canE S L K)),(12,v12),(13,.int .i64 (ssE S L)),(14,.int .i64 (ssE S L)),(15,.int .i64 (canE S L K)),(16,.slice none 0 0),(17,.slice none 0 0)] a) (sel [1,1,1,1,1,1,1,1,1,1,1,1,0] lwM) (fun a w=>∃(A18:Nat),(LE1 wM A18 (0,0) w)∧Fr 121 [(4,v4),(5,v5),(6,v6),(7,v7),(8,.pointer (some ⟨A8,0,none⟩)),(9,.int .i64 (ssE S L)),(10,.bool (canB S L K)),(11,.int .i64 (canE S L K)),(12,v12),(13,.int .i64 (ssE S L)),(14,.int .i64 (ssE S L)),(15,.int .i64 (canE S L K)),(16,.slice none 0 0),(17,.slice none 0 0),(18,.pointer (some ⟨A18,0,none⟩))] a) No 9 No:=by
 refine T3.leaf ?_;rintro Q JS JX JT K_ hS hK hX hE hT hR a w ⟨hW,⟨fr,rfl,q4,q5,q6,q7,q8,q9,q10,q11,q12,q13,q14,q15,q16,q17,_⟩⟩;obtain rfl:w=wM:=hW;have hq:=LE1.new w;obtain⟨r0,r1⟩:=box_cells hq.o;have f0:=owns_frozenC hq.o 0;have f1:=owns_frozenC hq.o 1;have HF:=Lib.hid (hq.put 0 0);have HG:=Lib.hid hq;obtain⟨p12,c12,rfl⟩:=hM.r12.shape;obtain⟨p7,c7,rfl⟩:=hM.r7.shape;obtain⟨p4,c4,rfl⟩:=hM.d.s.r.shape;obtain⟨p5,c5,rfl⟩:=hM.d.c.r.shape;obtain⟨p6,c6,rfl⟩:=hM.d.k.r.shape;clear hM hq;generalize canE S L K=ce at *;generalize canB S L K=cb at *;generalize ssE S L=eS at *;rw [fr_lwM,fe q4,fe q5,fe q6,fe q7,fe q8,fe q9,fe q10,fe q11,fe q12,fe q13,fe q14,fe q15,fe q16,fe q17];clear q4 q5 q6 q7 q8 q9 q10 q11 q12 q13 q14 q15 q16 q17;conv=>arg 2;whnf
 go_wp2_with fail
 first
 | (refine Met.intro (hS _ _ ?_)
    exact⟨_,HF.out,Fr.r rfl rfl⟩)
 | (refine Met.intro (hS _ _ ?_)
    exact⟨_,HG.out,Fr.r rfl rfl⟩)
theorem lw14 (A18:Nat):T3 Tryz.prog (fun a w=>(LE1 wM A18 (0,0) w)∧Fr 121 [(4,v4),(5,v5),(6,v6),(7,v7),(8,.pointer (some ⟨A8,0,none⟩)),(9,.int .i64 (ssE S L)),(10,.bool (canB S L K)),(11,.int .i64 (canE S L K)),(12,v12),(13,.int .i64 (ssE S L)),(14,.int .i64 (ssE S L)),(15,.int .i64 (canE S L K)),(16,.slice none 0 0),(17,.slice none 0 0),(18,.pointer (some ⟨A18,0,none⟩))] a) (sel [1,1,1,1,1,1,1,1,1,1,1,1,1,0,0] lwM) (fun a w=>∃q,Fr 121 ((65,.bool q)::[(4,v4),(5,v5),(6,v6),(7,v7),(8,.pointer (some ⟨A8,0,none⟩)),(9,.int .i64 (ssE S L)),(10,.bool (canB S L K)),(11,.int .i64 (canE S L K)),(12,v12),(13,.int .i64 (ssE S L)),(14,.int .i64 (ssE S L)),(15,.int .i64 (canE S L K)),(16,.slice none 0 0),(17,.slice none 0 0),(18,.pointer (some ⟨A18,0,none⟩))]) a∧((q=(ssE S L==0))∧LE1 wM A18 (0,0) w)) No 9 No:=by
 refine T3.leaf ?_;rintro Q JS JX JT K_ hS hK hX hE hT hR a w ⟨hW,⟨fr,rfl,q4,q5,q6,q7,q8,q9,q10,q11,q12,q13,q14,q15,q16,q17,q18,_⟩⟩;have HW:=Lib.hid hW;obtain⟨p12,c12,rfl⟩:=hM.r12.shape;obtain⟨p7,c7,rfl⟩:=hM.r7.shape;obtain⟨p4,c4,rfl⟩:=hM.d.s.r.shape;obtain⟨p5,c5,rfl⟩:=hM.d.c.r.shape;obtain⟨p6,c6,rfl⟩:=hM.d.k.r.shape;clear hM hW;generalize canE S L K=ce at *;generalize canB S L K=cb at *;generalize ssE S L=eS at *;rw [fr_lwM,fe q4,fe q5,fe q6,fe q7,fe q8,fe q9,fe q10,fe q11,fe q12,fe q13,fe q14,fe q15,fe q16,fe q17,fe q18];clear q4 q5 q6 q7 q8 q9 q10 q11 q12 q13 q14 q15 q16 q17 q18;conv=>arg 2;whnf
 go_wp2_with fail
 refine Met.intro (hS _ _ ?_);exact⟨_,Fr.r rfl rfl,rfl,HW.out⟩
theorem lw15 (A18:Nat)(hz:ssE S L=0):T3 Tryz.prog (fun a w=>(LE1 wM A18 (0,0) w)∧Fr 121 [(4,v4),(5,v5),(6,v6),(7,v7),(8,.pointer (some ⟨A8,0,none⟩)),(9,.int .i64 (ssE S L)),(10,.bool (canB S L K)),(11,.int .i64 (canE S L K)),(12,v12),(13,.int .i64 (ssE S L)),(14,.int .i64 (ssE S L)),(15,.int .i64 (canE S L K)),(16,.slice none 0 0),(17,.slice none 0 0),(18,.pointer (some ⟨A18,0,none⟩))] a) (sel [1,1,1,1,1,1,1,1,1,1,1,1,1,0,1,2,0] lwM) (fun a w=>∃(v19:Value),(LE1 wM A18 (0,0) w∧w.ownsRow wM.heap.size 49 2 v19 (refF S L).length (cellsOf encFl (refF S L)))∧Fr 121 [(4,v4),(5,v5),(6,v6),(7,v7),(8,.pointer (some ⟨A8,0,none⟩)),(9,.int .i64 (ssE S L)),(10,.bool (canB S L K)),(11,.int .i64 (canE S L K)),(12,v12),(13,.int .i64 (ssE S L)),(14,.int .i64 (ssE S L)),(15,.int .i64 (canE S L K)),(16,.slice none 0 0),(17,.slice none 0 0),(18,.pointer (some ⟨A18,0,none⟩)),(19,v19),(20,.int .i64 (refX S L).sum)] a) No 9 No:=by
 refine T3.leaf ?_;rintro Q JS JX JT K_ hS hK hX hE hT hR a w ⟨hW,⟨fr,rfl,q4,q5,q6,q7,q8,q9,q10,q11,q12,q13,q14,q15,q16,q17,q18,_⟩⟩;have hb:=hW.b;have D:=hM.d.below hb;have HC:=Lib.hid (bestOf_ref v4 S v5 L w D.s D.c (scp_of (ss_sc hz)) hN.s hN.l);have hsz:=hb.size;have HW:=Lib.hid hW;obtain⟨p12,c12,rfl⟩:=hM.r12.shape;obtain⟨p7,c7,rfl⟩:=hM.r7.shape;obtain⟨p4,c4,rfl⟩:=hM.d.s.r.shape;obtain⟨p5,c5,rfl⟩:=hM.d.c.r.shape;obtain⟨p6,c6,rfl⟩:=hM.d.k.r.shape;clear hM hW hb D hz;generalize canE S L K=ce at *;generalize canB S L K=cb at *;generalize ssE S L=eS at *;generalize (refX S L).sum=rs at *;rw [fr_lwM,fe q4,fe q5,fe q6,fe q7,fe q8,fe q9,fe q10,fe q11,fe q12,fe q13,fe q14,fe q15,fe q16,fe q17,fe q18];clear q4 q5 q6 q7 q8 q9 q10 q11 q12 q13 q14 q15 q16 q17 q18;conv=>arg 2;whnf
 go_wp2_with fail
 refine HC.out.mono ?_;rintro e w1 ⟨v9,rfl,ho,hb1⟩;have H1:=Lib.hid (And.intro (HW.out.below hb1) (owns_mono ho hsz));obtain⟨p9,c9,rfl⟩:=(Row.of_owns ho).shape;clear hb1 ho;go_wp2_with fail
 refine Met.intro (hS _ _ ?_);exact⟨_,H1.out,Fr.r rfl rfl⟩
theorem lw16 (A18:Nat)(hz:ssE S L=0)(v19:Value):T3 Tryz.prog (fun a w=>(LE1 wM A18 (0,0) w∧w.ownsRow wM.heap.size 49 2 v19 (refF S L).length (cellsOf encFl (refF S L)))∧Fr 121 [(4,v4),(5,v5),(6,v6),(7,v7),(8,.pointer (some ⟨A8,0,none⟩)),(9,.int .i64 (ssE S L)),(10,.bool (canB S L K)),(11,.int .i64 (canE S L K)),(12,v12),(13,.int .i64 (ssE S L)),(14,.int .i64 (ssE S L)),(15,.int .i64 (canE S L K)),(16,.slice none 0 0),(17,.slice none 0 0),(18,.pointer (some ⟨A18,0,none⟩)),(19,v19),(20,.int .i64 (refX S L).sum)] a) (sel [1,1,1,1,1,1,1,1,1,1,1,1,1,0,1,2,1] lwM) (fun a w=>∃(v16 v17:Value),(LE1 wM A18 (bestN S L) w∧Row w 0 2 v16 (bestV S L).length (cellsOf encFl (bestV S L))∧Row w 0 1 v17 (lackV S L).length (cellsOf encSt (lackV S L)))∧Fr 121 [(4,v4),(5,v5),(6,v6),(7,v7),(8,.pointer (some ⟨A8,0,none⟩)),(9,.int .i64 (ssE S L)),(10,.bool (canB S L K)),(11,.int .i64 (canE S L K)),(12,v12),(13,.int .i64 (ssE S L)),(14,.int .i64 (ssE S L)),(15,.int .i64 (canE S L K)),(16,v16),(17,v17),(18,.pointer (some ⟨A18,0,none⟩))] a) No 9 No:=by
 refine T3.leaf ?_;rintro Q JS JX JT K_ hS hK hX hE hT hR a w ⟨hW,⟨fr,rfl,q4,q5,q6,q7,q8,q9,q10,q11,q12,q13,q14,q15,q16,q17,q18,q19,q20,_⟩⟩;have hb:=hW.1.b;have D:=hM.d.below hb;have hsc:=ss_sc hz;have hlb:=luS_b (scp_of hsc) (S:=S) S.length 0 (fun _=>false);have hrx:refX S L=luS S L S.length 0 (fun _=>false):=rfl;rw [←hrx]at hlb;have hn4:=hN.s;have HO:=Lib.hid (ofHundredths_ref (refX S L).sum w (by omega) (by omega));have HLk:=Lib.hid (fun(w':World) (b:Below w.heap.size w w')=>lackOf_ref w' v4 v5 S L (D.s.below b) (D.c.below b) hN.s hN.l);have HV:=Lib.hid (bestN_eq hz);have HE:=Lib.hid (bestV_eq hz);have HL:=Lib.hid (fun bb (h:MlS S L L.length bb∧∀m,MlS S L L.length m→keyM S.length m≤keyM S.length bb)=>lack_law hz h.1 h.2);have HW:=Lib.hid hW;obtain⟨p19,c19,rfl⟩:=(Row.of_owns hW.2).shape;obtain⟨p12,c12,rfl⟩:=hM.r12.shape;obtain⟨p7,c7,rfl⟩:=hM.r7.shape;obtain⟨p4,c4,rfl⟩:=hM.d.s.r.shape;obtain⟨p5,c5,rfl⟩:=hM.d.c.r.shape;obtain⟨p6,c6,rfl⟩:=hM.d.k.r.shape;clear hM hW hb D hrx hsc hz;generalize canE S L K=ce at *;generalize canB S L K=cb at *;generalize ssE S L=eS at *;generalize bestN S L=sv at *;generalize lackV S L=lv at *;generalize (refX S L).sum=rs at *;rw [fr_lwM,fe q4,fe q5,fe q6,fe q7,fe q8,fe q9,fe q10,fe q11,fe q12,fe q13,fe q14,fe q15,fe q16,fe q17,fe q18,fe q19,fe q20];clear q4 q5 q6 q7 q8 q9 q10 q11 q12 q13 q14 q15 q16 q17 q18 q19 q20;conv=>arg 2;whnf
 go_wp2_with fail
 refine HO.out.mono ?_;rintro e w1 ⟨rfl,hb1⟩;have B1:=Lib.hid hb1;clear hb1;go_wp2_with fail
 refine(HLk.out w1 B1.out).mono ?_;rintro e w2 ⟨v17,bb,rfl,hbb,ho,hb2⟩;have B2:=B1.out.trans (hb2.mono B1.out.size);have H3:=HW.out.1.below B2;have o19:=owns_below HW.out.2 B2 (Nat.le_refl _);have HF:=H3.put (ofHn rs) (ofHd rs);rw [HV.out]at HF;have r16:=H3.row o19 (by decide) (ofHn rs) (ofHd rs);have r17:=H3.row ho (by decide) (ofHn rs) (ofHd rs);have r16:=Eq.mp (congrArg (fun F:List FlD=>Row _ 0 2 (Value.slice p19 (refF S L).length c19) F.length (cellsOf encFl F)) HE.out) r16;rw [HL.out bb hbb]at r17;have HFF:=Lib.hid (And.intro HF (And.intro r16 r17));obtain⟨r0,r1⟩:=box_cells H3.o;have f0:=owns_frozenC H3.o 0;have f1:=owns_frozenC H3.o 1;obtain⟨p17,c17,rfl⟩:=(Row.of_owns ho).shape;clear H3 HF r16 r17 ho o19 hb2 B2 hbb;go_wp2_with fail
 refine Met.intro (hS _ _ ?_);exact⟨_,_,HFF.out,Fr.r rfl rfl⟩
set_option maxHeartbeats 4000000 in
theorem lw17 (A18:Nat)(v16 v17:Value):T3 Tryz.prog (fun a w=>(LE1 wM A18 (bestN S L) w∧Row w 0 2 v16 (bestV S L).length (cellsOf encFl (bestV S L))∧Row w 0 1 v17 (lackV S L).length (cellsOf encSt (lackV S L)))∧Fr 121 [(4,v4),(5,v5),(6,v6),(7,v7),(8,.pointer (some ⟨A8,0,none⟩)),(9,.int .i64 (ssE S L)),(10,.bool (canB S L K)),(11,.int .i64 (canE S L K)),(12,v12),(13,.int .i64 (ssE S L)),(14,.int .i64 (ssE S L)),(15,.int .i64 (canE S L K)),(16,v16),(17,v17),(18,.pointer (some ⟨A18,0,none⟩))] a) (sel [1,1,1,1,1,1,1,1,1,1,1,1,1,1,0] lwM) (fun a w=>(Below n₀ w0 w)∧Fr 121 [(2,.bool true)] a) No 9 No:=by
 refine T3.leaf ?_;rintro Q JS JX JT K_ hS hK hX hE hT hR a w ⟨hW,⟨fr,rfl,q4,q5,q6,q7,q8,q9,q10,q11,q12,q13,q14,q15,q16,q17,q18,_⟩⟩;have hb:=hW.1.b;have M0:=hM.below hb;obtain⟨t8,t9⟩:=M0.f8;obtain⟨t18,t19⟩:=box_cells hW.1.o;have HCE:=Lib.hid (fun(w':World) (b:Below w.heap.size w w') (A i:Nat) (x:Value) (hx:w.cell? ⟨A,i,none⟩=some x)=>(b.cell (p:=⟨A,i,none⟩) (World.block_lt_of_cell? w _ hx)).trans hx);have hr16:=hW.2.1;have hr17:=hW.2.2;have hbl:(bestV S L).length≤1099511627776:=by
  have h1:(bestV S L).length≤S.length:=by unfold bestV;split;rw [bestF_len];exact Nat.le_refl _;exact Nat.zero_le _
  have:=hN.s;omega
 have HEF:=Lib.hid (fun(w':World) (b:Below w.heap.size w w')=>equal_fills v7 v16 _ _ 0 0 w' (M0.r7.below b) (hr16.below b) hbl);have HES:=Lib.hid (fun(w':World) (b:Below w.heap.size w w')=>equal_strC v12 v17 _ _ 0 0 w' (M0.r12.below b) (hr17.below b));have HBL:=Lib.hid (fun(w':World) (b:Below w.heap.size w w')=>(hM.below (hb.trans (b.mono hb.size))).d.bel);have D:=M0.d;have HCO:=Lib.hid (fun(hc:canE S L K=0) (w':World) (b:Below w.heap.size w w')=>canOf_ref w' v4 v5 v6 S L K (D.s.below b) (D.c.below b) (D.k.below b) hN.s hN.k (Lib.hid fun k hk=>by
  have:=who_in (can_rise hc).2 (k:=(k:Int)) (by omega) (by omega);exact⟨this.1,this.2.1⟩))
 have HQ:=Lib.hid (fun(hc:canE S L K=0) (q:Bool) (hq:q=true↔∃m,McS S L K K.length m)=>(canB_of hc hq).symm);have HNO:=Lib.hid (fun(hc:canE S L K≠0)=>canB_no hc);obtain⟨p16,c16,rfl⟩:=hr16.shape;obtain⟨p17,c17,rfl⟩:=hr17.shape;obtain⟨p12,c12,rfl⟩:=hM.r12.shape;obtain⟨p7,c7,rfl⟩:=hM.r7.shape;obtain⟨p4,c4,rfl⟩:=hM.d.s.r.shape;obtain⟨p5,c5,rfl⟩:=hM.d.c.r.shape;obtain⟨p6,c6,rfl⟩:=hM.d.k.r.shape;clear hM hW hb M0 hr16 hr17 D hbl;generalize bestN S L=sv at *;generalize bestV S L=bv at *;generalize lackV S L=lv at *;generalize ssE S L=eS at *;obtain⟨s1,s2⟩:=sv;simp only at t8 t9 t18 t19
 by_cases hc:canE S L K=0
 ·have HCO2:=Lib.hid (HCO.out hc);have HQ2:=Lib.hid (HQ.out hc);clear HNO HCO HQ;generalize canE S L K=ce at *;subst hc;generalize canB S L K=cb at *;rw [fr_lwM,fe q4,fe q5,fe q6,fe q7,fe q8,fe q9,fe q10,fe q11,fe q12,fe q13,fe q14,fe q15,fe q16,fe q17,fe q18];clear q4 q5 q6 q7 q8 q9 q10 q11 q12 q13 q14 q15 q16 q17 q18;conv=>arg 2;whnf
  go_wp2_with fail
  refine(HEF.out w (Below.refl _ _)).mono ?_;rintro e w1 ⟨rfl,hb⟩;have B1:=Lib.hid hb;clear hb;have u8:=HCE.out w1 B1.out _ _ _ t8;have u9:=HCE.out w1 B1.out _ _ _ t9;have u18:=HCE.out w1 B1.out _ _ _ t18;have u19:=HCE.out w1 B1.out _ _ _ t19;clear t8 t9 t18 t19;go_wp2_with fail
  refine(HCO2.out w1 B1.out).mono ?_;rintro e w2 ⟨q,rfl,hq,hb⟩;obtain rfl:=HQ2.out q hq;have B2:=Lib.hid (B1.out.trans (hb.mono B1.out.size));clear hb hq;go_wp2_with fail
  refine(HES.out _ B2.out).mono ?_;rintro e w6 ⟨rfl,hb⟩;have B6:=Lib.hid (B2.out.trans (hb.mono B2.out.size));clear hb;go_wp2_with fail
  refine(scored_any w6).mono ?_;rintro e w7 ⟨rfl,hb⟩;have HL:=Lib.hid (HBL.out w7 (B6.out.trans (hb.mono B6.out.size)));clear hb;go_wp2_with fail
  refine Met.intro (hS _ _ ?_);exact⟨HL.out,Fr.of _ rfl ⟨rfl,trivial⟩⟩
 ·have hcb:=HNO.out hc;have hce:(canE S L K==0)=false:=by simpa using hc
  have HC0:=Lib.hid hc;clear HCO HQ HNO hc;generalize canE S L K=ce at *;generalize canB S L K=cb at *;subst hcb;rw [fr_lwM,fe q4,fe q5,fe q6,fe q7,fe q8,fe q9,fe q10,fe q11,fe q12,fe q13,fe q14,fe q15,fe q16,fe q17,fe q18];clear q4 q5 q6 q7 q8 q9 q10 q11 q12 q13 q14 q15 q16 q17 q18;conv=>arg 2;whnf
  go_wp2_with fail
  refine(HEF.out w (Below.refl _ _)).mono ?_;rintro e w1 ⟨rfl,hb⟩;have B1:=Lib.hid hb;clear hb;have u8:=HCE.out w1 B1.out _ _ _ t8;have u9:=HCE.out w1 B1.out _ _ _ t9;have u18:=HCE.out w1 B1.out _ _ _ t18;have u19:=HCE.out w1 B1.out _ _ _ t19;clear t8 t9 t18 t19;go_wp2_with fail
  have B2:=B1;refine(HES.out _ B2.out).mono ?_;rintro e w6 ⟨rfl,hb⟩;have B6:=Lib.hid (B2.out.trans (hb.mono B2.out.size));clear hb;go_wp2_with fail
  refine(scored_any w6).mono ?_;rintro e w7 ⟨rfl,hb⟩;have HL:=Lib.hid (HBL.out w7 (B6.out.trans (hb.mono B6.out.size)));clear hb;go_wp2_with fail
  refine Met.intro (hS _ _ ?_);exact⟨HL.out,Fr.of _ rfl ⟨rfl,trivial⟩⟩
end
theorem lw_end (n₀:Nat)(w0:World)(v4:Value)(S:List SlD)(v5:Value)(L:List ScD)(v6:Value)(K:List ByteArray)(hN:LBn S L K)(v7:Value)(A8:Nat)(v12:Value):T3 Tryz.prog (fun a w=>(LC n₀ w0 v4 S v5 L v6 K v7 A8 v12 w)∧Fr 121 [(4,v4),(5,v5),(6,v6),(7,v7),(8,.pointer (some ⟨A8,0,none⟩)),(9,.int .i64 (ssE S L)),(10,.bool (canB S L K)),(11,.int .i64 (canE S L K)),(12,v12),(13,.int .i64 (ssE S L)),(14,.int .i64 (ssE S L)),(15,.int .i64 (canE S L K))] a) (sel [1,1,1,1,1,1,1,1,1,1] lwM) No No 9 (fun a w=>Below n₀ w0 w∧Fr 121 [(2,.bool true)] a):=by
 refine T3.pre (R:=fun a w=>∃wM:World,(LC n₀ w0 v4 S v5 L v6 K v7 A8 v12 wM)∧(IsW wM w)∧Fr 121 [(4,v4),(5,v5),(6,v6),(7,v7),(8,.pointer (some ⟨A8,0,none⟩)),(9,.int .i64 (ssE S L)),(10,.bool (canB S L K)),(11,.int .i64 (canE S L K)),(12,v12),(13,.int .i64 (ssE S L)),(14,.int .i64 (ssE S L)),(15,.int .i64 (canE S L K))] a) (T3.ex fun wM=>T3.pure fun hM=>?_) (fun a w ⟨hW,hF⟩=>⟨w,hW,rfl,hF⟩);refine T3.sq rfl (T3.noT (lw11 n₀ w0 v4 S v5 L v6 K hN v7 A8 v12 wM hM)) ?_;refine T3.sq rfl (T3.noT (lw12 n₀ w0 v4 S v5 L v6 K hN v7 A8 v12 wM hM)) ?_;refine T3.sq rfl (T3.noT (lw13 n₀ w0 v4 S v5 L v6 K hN v7 A8 v12 wM hM)) ?_;refine T3.ex fun A18=>?_
 refine T3.sq rfl (S:=fun a w=>∃(v16 v17:Value),(LE1 wM A18 (bestN S L) w∧Row w 0 2 v16 (bestV S L).length (cellsOf encFl (bestV S L))∧Row w 0 1 v17 (lackV S L).length (cellsOf encSt (lackV S L)))∧Fr 121 [(4,v4),(5,v5),(6,v6),(7,v7),(8,.pointer (some ⟨A8,0,none⟩)),(9,.int .i64 (ssE S L)),(10,.bool (canB S L K)),(11,.int .i64 (canE S L K)),(12,v12),(13,.int .i64 (ssE S L)),(14,.int .i64 (ssE S L)),(15,.int .i64 (canE S L K)),(16,v16),(17,v17),(18,.pointer (some ⟨A18,0,none⟩))] a) ?_ (T3.ex fun v16=>T3.ex fun v17=>?_)
 ·refine T3.tt rfl (C:=fun q=>(q=(ssE S L==0))) (W:=fun w=>LE1 wM A18 (0,0) w) (by decide) (T3.noT (lw14 n₀ w0 v4 S v5 L v6 K hN v7 A8 v12 wM hM A18)) ?_ (T3.skip ?_)
  ·refine T3.pre (R:=fun a w=>(ssE S L=0)∧(LE1 wM A18 (0,0) w)∧Fr 121 [(4,v4),(5,v5),(6,v6),(7,v7),(8,.pointer (some ⟨A8,0,none⟩)),(9,.int .i64 (ssE S L)),(10,.bool (canB S L K)),(11,.int .i64 (canE S L K)),(12,v12),(13,.int .i64 (ssE S L)),(14,.int .i64 (ssE S L)),(15,.int .i64 (canE S L K)),(16,.slice none 0 0),(17,.slice none 0 0),(18,.pointer (some ⟨A18,0,none⟩))] a) (T3.pure fun hz=>?_) (fun a w ⟨hF,hq,hW⟩=>⟨by have:=hq.symm;simpa using this,hW,hF.tail⟩);exact T3.sq rfl (T3.noT (lw15 n₀ w0 v4 S v5 L v6 K hN v7 A8 v12 wM hM A18 hz)) (T3.ex fun v19=>T3.noT (lw16 n₀ w0 v4 S v5 L v6 K hN v7 A8 v12 wM hM A18 hz v19))
  ·rintro a w ⟨hq,hW,hF⟩;have hne:ssE S L≠0:=by have:=hq.symm;simpa using this
   refine⟨_,_,⟨?_,?_,?_⟩,hF⟩
   ·rw [show bestN S L=(0,0)by unfold bestN;rw [if_neg hne]];exact hW
   ·rw [show bestV S L=[]by unfold bestV;rw [if_neg hne]];exact⟨rfl,.inl ⟨rfl,rfl⟩⟩
   ·rw [show lackV S L=[]by unfold lackV;rw [if_neg hne]];exact⟨rfl,.inl ⟨rfl,rfl⟩⟩
 exact T3.sr rfl (T3.noT (lw17 n₀ w0 v4 S v5 L v6 K hN v7 A8 v12 wM hM A18 v16 v17)) (T3.ret (fun a w q=>q))
theorem best_law (v:Value)(n:Nat)(zs:List Int)(w0:World)(h:SRow w0 v n zs w0.heap.size):
  Calls Tryz.prog 4 #[v] w0 fun e w'=>e=.returned (.bool true)∧Below w0.heap.size w0 w':=by
 have hall:T3 Tryz.prog (fun a w=>IsW w0 w∧Fr 121 [(0,v)] a) lwM No No 9 (fun a w=>Below w0.heap.size w0 w∧Fr 121 [(2,.bool true)] a):=by
  refine T3.seq (s:=(sel [0] lwM)) (c:=(sel [1] lwM)) (T3.noT (lw0 v w0)) ?_;refine T3.sq rfl (T3.noT (lw1 v n zs w0 h)) ?_;refine T3.sq rfl (T3.noT (lw2 _ w0)) ?_;refine T3.ex fun ws=>T3.ex fun wc=>T3.ex fun v4=>T3.ex fun S=>T3.ex fun v5=>T3.ex fun L=>T3.pure fun hn=>?_
  refine T3.sq rfl (T3.noT (lw3 _ w0 ws wc v4 S v5 L hn)) ?_;refine T3.ex fun v6=>T3.ex fun K=>T3.pure fun hN=>?_
  refine T3.sq rfl (T3.noT (lw4 _ w0 v4 S v5 L v6 K hN)) ?_;refine T3.ex fun v7=>T3.ex fun A8=>?_
  refine T3.sq rfl (T3.noT (lw5 _ w0 v4 S v5 L v6 K hN v7 A8)) ?_;refine T3.sq rfl (T3.noT (lw6 _ w0 v4 S v5 L v6 K hN v7 A8)) ?_;refine T3.ex fun v12=>?_
  refine T3.sq rfl (T3.noT (lw7 _ w0 v4 S v5 L v6 K hN v7 A8 v12)) ?_;refine T3.sq rfl (T3.noT (lw8 _ w0 v4 S v5 L v6 K hN v7 A8 v12)) ?_;refine T3.sq rfl (S:=fun a w=>(LC w0.heap.size w0 v4 S v5 L v6 K v7 A8 v12 w)∧Fr 121 [(4,v4),(5,v5),(6,v6),(7,v7),(8,.pointer (some ⟨A8,0,none⟩)),(9,.int .i64 (ssE S L)),(10,.bool (canB S L K)),(11,.int .i64 (canE S L K)),(12,v12),(13,.int .i64 (ssE S L)),(14,.int .i64 (ssE S L)),(15,.int .i64 (canE S L K))] a) ?_ (lw_end _ w0 v4 S v5 L v6 K hN v7 A8 v12);refine T3.tt rfl (C:=fun q=>(q=(ssE S L==0))) (W:=fun w=>LC w0.heap.size w0 v4 S v5 L v6 K v7 A8 v12 w) (by decide) (T3.noT (lw9 _ w0 v4 S v5 L v6 K hN v7 A8 v12)) ?_ (T3.skip ?_)
  ·exact T3.pre (R:=fun a w=>(ssE S L=0)∧(LC w0.heap.size w0 v4 S v5 L v6 K v7 A8 v12 w)∧Fr 121 [(4,v4),(5,v5),(6,v6),(7,v7),(8,.pointer (some ⟨A8,0,none⟩)),(9,.int .i64 (ssE S L)),(10,.bool (canB S L K)),(11,.int .i64 (canE S L K)),(12,v12),(13,.int .i64 (ssE S L)),(14,.int .i64 (ssE S L)),(15,.int .i64 (ssE S L))] a) (T3.pure fun hz=>T3.noT (lw10 _ w0 v4 S v5 L v6 K hN v7 A8 v12 hz)) (fun a w ⟨hF,hq,hW⟩=>⟨by have:=hq.symm;simpa using this,hW,hF.tail⟩)
  ·rintro a w ⟨hq,hW,hF⟩;have hne:ssE S L≠0:=by have:=hq.symm;simpa using this
   refine⟨hW,?_⟩;rw [canE_ss (K:=K) hne]at hF ⊢;exact hF
 go_enter Tryz.func4,Tryz.ntmps4
 refine T3.done (s:=lwM) hall ⟨rfl,Fr.of _ rfl ⟨rfl,trivial⟩⟩ ?_;rintro a w ⟨hb,fr,rfl,q2,_⟩;rw [fr_lwM,fe q2]
 go_ret
 exact⟨rfl,hb⟩
end Go.Proofs.YtnmdpphddimfbaaGreat
