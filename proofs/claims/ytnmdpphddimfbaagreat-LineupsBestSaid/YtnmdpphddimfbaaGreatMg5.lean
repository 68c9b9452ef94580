/-
  Contracts and lemmas towards the statement, of several parts; each part says ahead of it what it holds and under which conditions.
-/
import Derived.Test.YtnmdpphddimfbaaGreatMg4
import Derived.OwnWalk
import Derived.Test.YtnmdpphddimfbaaGreatMg1
import Derived.Test.YtnmdpphddimfbaaGreatMg2
set_option maxRecDepth 100000
set_option maxHeartbeats 1000000
set_option linter.unusedSectionVars false
/-
  The most that scorers can bring in the slots from a number on (most of package score). Conditions: at most 4 slots and 6 scorers; points are right.
-/
set_option linter.unusedVariables false
namespace Go.Proofs.YtnmdpphddimfbaaGreat
open Go.RowKit Go.Bw
def encB (b:Bool):List Value:=[.bool b]
theorem encB_length (b:Bool):(encB b).length=1:=rfl
/-- Who is taken, in memory. -/
structure TkH (w:World)(v:Value)(tk:List Bool)(n:Nat):Prop where
 r:Row w 0 1 v tk.length (cellsOf encB tk)
 n:tk.length=n
theorem TkH.below {w w':World}{v:Value}{tk:List Bool}{n:Nat}(h:TkH w v tk n)(b:Below w.heap.size w w'):TkH w' v tk n:=⟨h.r.below b,h.n⟩
/-- A table of small numbers. -/
structure TabB (m:Nat)(bs:List Int):Prop where
 l:bs.length=2 ^ m
 h:∀s:Nat,s<2 ^ m→0≤geti bs s∧geti bs s≤1000000000
theorem own_cell {w:World}{B e g N c:Nat}{bs:List Int}(h:w.ownsRow B e 1 (.slice (some ⟨g,0,none⟩) N c) N (bs.map (.int .i64))){s:Nat}(hs:s<bs.length):w.cell? ⟨g,s,none⟩=some (.int .i64 (geti bs s)):=by
 rcases(Row.of_owns h).2 with ⟨h0,_⟩|⟨g',off,cap,hv,_,_,_,_,hcl⟩
 ·cases h0
 ·simp only [Value.slice.injEq,Option.some.injEq,Addr.mk.injEq]at hv;obtain⟨⟨rfl,rfl,_⟩,_,_⟩:=hv;have hg:(bs.map (Value.int .i64))[s]?=some (.int .i64 (geti bs s)):=by
   rw [List.getElem?_map];unfold geti;rw [Int.toNat_natCast,List.getElem?_eq_getElem hs];rfl
  have:=hcl s _ hg
  rwa [Nat.zero_add]at this
/-- The slots from f on are m. -/
structure SlR (f m n:Nat):Prop where
 h:f+m=n
 m4:m≤4
theorem sh_w {m:Nat}(h:m≤6):wrap64 ((2:Int) ^ min m 64)=((2 ^ m:Nat):Int):=by
 rcases(show m=0∨m=1∨m=2∨m=3∨m=4∨m=5∨m=6 by omega)with rfl|rfl|rfl|rfl|rfl|rfl|rfl <;> decide +kernel
theorem pow_le4 {m:Nat}(h:m≤4):2 ^ m≤16∧1≤2 ^ m:=by
 rcases(show m=0∨m=1∨m=2∨m=3∨m=4 by omega)with rfl|rfl|rfl|rfl|rfl <;> decide
theorem bit_w:∀ s:Nat,s<16→∀i:Nat,i<4→(bits BinOp.and IntKind.i64 ((s:Int) / 2 ^ i) 1=1↔s.testBit i=true):=by decide +kernel
theorem rm_w:∀ s:Nat,s<16→∀i:Nat,i<4→s.testBit i=true→bits BinOp.andNot IntKind.i64 (s:Int) (IntKind.i64.wrap (2 ^ i))=((rmB s i:Nat):Int):=by decide +kernel
theorem info_int:(Tryz.prog.info? 3).map (fun i=>(i.zero,i.size,i.bytes))=some (some (.int .i64 0),1,8):=by kernel_rfl
theorem und_ints:Tryz.prog.underlying 22=some (.slice 3):=by kernel_rfl
theorem made_ints (n:Nat):(madeCells (Value.int .i64 0).cells (n*1)).toList=(List.replicate n (0:Int)).map (.int .i64):=by
 have hf:(fun i:Nat=>(#[Value.int .i64 0]:Array Value)[i % (#[Value.int .i64 0]:Array Value).size]!)=fun _=>Value.int .i64 0:=funext fun i=>by simp [Nat.mod_one]
 have hc:(Value.int .i64 0).cells=#[Value.int .i64 0]:=rfl;rw [Nat.mul_one,List.map_replicate,hc];unfold madeCells;rw [hf];simp [List.map_const']
noncomputable def lmP:Code:=(Tryz.f88.body).getD .skip
theorem fr_lmP (f:Nat→Value):frame 87 f=⟨#[f 0,f 1,f 2,f 3,f 4,f 5,f 6,f 7,f 8,f 9,f 10,f 11,f 12,f 13,f 14,f 15,f 16,f 17,f 18,f 19,f 20,f 21,f 22,f 23,f 24,f 25,f 26,f 27,f 28,f 29,f 30,f 31,f 32,f 33,f 34,f 35,f 36,f 37,f 38,f 39,f 40,f 41,f 42,f 43,f 44,f 45,f 46,f 47,f 48,f 49,f 50,f 51,f 52,f 53,f 54,f 55,f 56,f 57,f 58,f 59,f 60,f 61,f 62,f 63,f 64,f 65,f 66,f 67,f 68,f 69,f 70,f 71,f 72,f 73,f 74,f 75,f 76,f 77,f 78,f 79,f 80,f 81,f 82,f 83,f 84,f 85,f 86],[]⟩:=by rfl
section
variable (A0:Nat)(vl vs vt:Value)(S:List SlD)(L:List ScD)(tk:List Bool)(f m:Nat)(w0:World)(h:BoH w0 A0 vs S vl L)(hp:ScP L)(hfm:SlR f m S.length)(hl:L.length≤6)(ht:TkH w0 vt tk L.length)
include h hp hfm hl ht
theorem lm0:T3 Tryz.prog (fun a w=>(Below w0.heap.size w0 w)∧Fr 87 [(0,.pointer (some ⟨A0,0,none⟩)),(1,.int .i64 (f:Int)),(2,vt)] a) (sel [0] lmP) (fun a w=>(Below w0.heap.size w0 w)∧Fr 87 [(0,.pointer (some ⟨A0,0,none⟩)),(1,.int .i64 (f:Int)),(2,vt)] a) No 9 No:=by
 refine T3.leaf ?_;rintro Q JS JX JT K hS hK hX hE hT hR a w ⟨hW,⟨fr,rfl,q0,q1,q2,_⟩⟩;obtain⟨qt,ct,rfl⟩:=ht.r.shape;have HW:=Lib.hid hW;clear hW;rw [fr_lmP,fe q0,fe q1,fe q2];clear q0 q1 q2;conv=>arg 2;whnf
 go_wp2_with fail
 refine Met.intro (hS _ _ ?_);exact⟨HW.out,Fr.r rfl rfl⟩
theorem lm1:T3 Tryz.prog (fun a w=>(Below w0.heap.size w0 w)∧Fr 87 [(0,.pointer (some ⟨A0,0,none⟩)),(1,.int .i64 (f:Int)),(2,vt)] a) (sel [1,0] lmP) (fun a w=>(Below w0.heap.size w0 w)∧Fr 87 [(0,.pointer (some ⟨A0,0,none⟩)),(1,.int .i64 (f:Int)),(2,vt),(7,.int .i64 (m:Int))] a) No 9 No:=by
 refine T3.leaf ?_;rintro Q JS JX JT K hS hK hX hE hT hR a w ⟨hW,⟨fr,rfl,q0,q1,q2,_⟩⟩;have h1:=h.below hW;have b0:=h1.b0;obtain⟨q,d,rfl⟩:=h1.s.r.shape;have HW:=Lib.hid hW;obtain⟨qt,ct,rfl⟩:=ht.r.shape;have HQ:=Lib.hid (show(S.length:Int)-f=m by have:=hfm.h;omega);have hsn:=h1.s.n;have hff:f≤S.length:=by have:=hfm.h;omega
 clear hW h1 h;rw [fr_lmP,fe q0,fe q1,fe q2];clear q0 q1 q2;conv=>arg 2;whnf
 go_wp2_with fail
 rw [HQ.out];refine Met.intro (hS _ _ ?_);exact⟨HW.out,Fr.r rfl rfl⟩
theorem lm2:T3 Tryz.prog (fun a w=>(Below w0.heap.size w0 w)∧Fr 87 [(0,.pointer (some ⟨A0,0,none⟩)),(1,.int .i64 (f:Int)),(2,vt),(7,.int .i64 (m:Int))] a) (sel [1,1,0] lmP) (fun a w=>∃(g:Nat) (bs:List Int),(DPo (fitK S L) (wK L) f m tk 0 bs)∧(Below w0.heap.size w0 w∧w.ownsRow w0.heap.size 3 1 (.slice (some ⟨g,0,none⟩) (2 ^ m) (2 ^ m)) (2 ^ m) (bs.map (.int .i64)))∧Fr 87 [(0,.pointer (some ⟨A0,0,none⟩)),(1,.int .i64 (f:Int)),(2,vt),(7,.int .i64 (m:Int)),(8,.slice (some ⟨g,0,none⟩) (2 ^ m) (2 ^ m))] a) No 9 No:=by
 refine T3.leaf ?_;rintro Q JS JX JT K hS hK hX hE hT hR a w ⟨hW,⟨fr,rfl,q0,q1,q2,q7,_⟩⟩;obtain⟨qt,ct,rfl⟩:=ht.r.shape;have HW:=Lib.hid hW;obtain⟨i0,hi,hz0,hz1,hz2⟩:=info_parts info_int;have hsh:=sh_w (m:=m) (by have:=hfm.m4;omega);obtain⟨hp16,hp1⟩:=pow_le4 hfm.m4;have hsz:=hW.size;generalize hN:(2 ^ m:Nat)=N at *;have HN:=Lib.hid hN;clear hW h hp hN;rw [fr_lmP,fe q0,fe q1,fe q2,fe q7];clear q0 q1 q2 q7;conv=>arg 2;whnf
 go_wp2_with (at_make;refine wpList_make_full _ rfl _ _ 22 rfl w0.heap.size 3 i0 (.int .i64 0) 1 und_ints hi hz0 hz1 .i64 .i64 _ _ N rfl rfl hsh hsh (by rw [hz2];omega) (by unfold maxLen;omega) hsz ?_;intro w' hown hgrow)
 rw [made_ints]at hown;obtain rfl:=HN.out;refine Met.intro (hS _ _ ?_);exact⟨_,_,DPo.zero _,⟨HW.out.trans ((below_of_grown hgrow (by simp)).mono hsz),hown⟩,Fr.r rfl rfl⟩
theorem lm3 (g:Nat):T3 Tryz.prog (fun a w=>∃(bs:List Int),(DPo (fitK S L) (wK L) f m tk 0 bs)∧(Below w0.heap.size w0 w∧w.ownsRow w0.heap.size 3 1 (.slice (some ⟨g,0,none⟩) (2 ^ m) (2 ^ m)) (2 ^ m) (bs.map (.int .i64)))∧Fr 87 [(0,.pointer (some ⟨A0,0,none⟩)),(1,.int .i64 (f:Int)),(2,vt),(7,.int .i64 (m:Int)),(8,.slice (some ⟨g,0,none⟩) (2 ^ m) (2 ^ m))] a) (sel [1,1,1,0,0] lmP) (fun a w=>(0≤(0:Int)∧(0:Int)≤L.length)∧∃(bs:List Int),(DPo (fitK S L) (wK L) f m tk (0:Int).toNat bs)∧(Below w0.heap.size w0 w∧w.ownsRow w0.heap.size 3 1 (.slice (some ⟨g,0,none⟩) (2 ^ m) (2 ^ m)) (2 ^ m) (bs.map (.int .i64)))∧Fr 87 [(0,.pointer (some ⟨A0,0,none⟩)),(1,.int .i64 (f:Int)),(2,vt),(7,.int .i64 (m:Int)),(8,.slice (some ⟨g,0,none⟩) (2 ^ m) (2 ^ m)),(27,.int .i64 L.length),(28,.int .i64 0)] a) No 9 No:=by
 refine T3.leaf ?_;rintro Q JS JX JT K hS hK hX hE hT hR a w ⟨bs,hpre,hW,⟨fr,rfl,q0,q1,q2,q7,q8,_⟩⟩;have h1:=h.below hW.1;have b1:=h1.b1;obtain⟨q,d,rfl⟩:=h1.c.r.shape;obtain⟨qt,ct,rfl⟩:=ht.r.shape;have HW:=Lib.hid hW;have HP:=Lib.hid hpre;clear hW h1 h hp hpre;rw [fr_lmP,fe q0,fe q1,fe q2,fe q7,fe q8];clear q0 q1 q2 q7 q8;conv=>arg 2;whnf
 go_wp2_with fail
 refine Met.intro (hS _ _ ?_);exact⟨⟨by omega,by omega⟩,_,HP.out,HW.out,Fr.r rfl rfl⟩
section
variable (g:Nat)(k:Nat)(hk:k<L.length)(bs:List Int)
include g hk bs
theorem lm5:T3 Tryz.prog (fun a w=>(Below w0.heap.size w0 w∧w.ownsRow w0.heap.size 3 1 (.slice (some ⟨g,0,none⟩) (2 ^ m) (2 ^ m)) (2 ^ m) (bs.map (.int .i64)))∧Fr 87 [(0,.pointer (some ⟨A0,0,none⟩)),(1,.int .i64 (f:Int)),(2,vt),(7,.int .i64 (m:Int)),(8,.slice (some ⟨g,0,none⟩) (2 ^ m) (2 ^ m)),(27,.int .i64 L.length),(28,.int .i64 (k:Int))] a) (sel [1,1,1,0,1,4,4,1,1,0,4,0] lmP) (fun a w=>(Below w0.heap.size w0 w∧w.ownsRow w0.heap.size 3 1 (.slice (some ⟨g,0,none⟩) (2 ^ m) (2 ^ m)) (2 ^ m) (bs.map (.int .i64)))∧Fr 87 [(0,.pointer (some ⟨A0,0,none⟩)),(1,.int .i64 (f:Int)),(2,vt),(7,.int .i64 (m:Int)),(8,.slice (some ⟨g,0,none⟩) (2 ^ m) (2 ^ m)),(9,.int .i64 (k:Int)),(27,.int .i64 L.length),(28,.int .i64 (k:Int))] a) No 9 No:=by
 refine T3.leaf ?_;rintro Q JS JX JT K hS hK hX hE hT hR a w ⟨hW,⟨fr,rfl,q0,q1,q2,q7,q8,q27,q28,_⟩⟩;obtain⟨qt,ct,rfl⟩:=ht.r.shape;have HW:=Lib.hid hW;clear hW h hp;rw [fr_lmP,fe q0,fe q1,fe q2,fe q7,fe q8,fe q27,fe q28];clear q0 q1 q2 q7 q8 q27 q28;conv=>arg 2;whnf
 go_wp2_with fail
 refine Met.intro (hS _ _ ?_);exact⟨HW.out,Fr.r rfl rfl⟩
theorem lm6:T3 Tryz.prog (fun a w=>(Below w0.heap.size w0 w∧w.ownsRow w0.heap.size 3 1 (.slice (some ⟨g,0,none⟩) (2 ^ m) (2 ^ m)) (2 ^ m) (bs.map (.int .i64)))∧Fr 87 [(0,.pointer (some ⟨A0,0,none⟩)),(1,.int .i64 (f:Int)),(2,vt),(7,.int .i64 (m:Int)),(8,.slice (some ⟨g,0,none⟩) (2 ^ m) (2 ^ m)),(9,.int .i64 (k:Int)),(27,.int .i64 L.length),(28,.int .i64 (k:Int))] a) (sel [1,1,1,0,1,4,4,1,1,0,4,1,0,0] lmP) (fun a w=>∃q,Fr 87 ((34,.bool q)::[(0,.pointer (some ⟨A0,0,none⟩)),(1,.int .i64 (f:Int)),(2,vt),(7,.int .i64 (m:Int)),(8,.slice (some ⟨g,0,none⟩) (2 ^ m) (2 ^ m)),(9,.int .i64 (k:Int)),(27,.int .i64 L.length),(28,.int .i64 (k:Int))]) a∧((q=geta tk (k:Int))∧Below w0.heap.size w0 w∧w.ownsRow w0.heap.size 3 1 (.slice (some ⟨g,0,none⟩) (2 ^ m) (2 ^ m)) (2 ^ m) (bs.map (.int .i64)))) No 9 No:=by
 refine T3.leaf ?_;rintro Q JS JX JT K hS hK hX hE hT hR a w ⟨hW,⟨fr,rfl,q0,q1,q2,q7,q8,q9,q27,q28,_⟩⟩;have h1:=ht.below hW.1;have hr:=h1.r;have hn:=h1.n;obtain⟨qt,ct,rfl⟩:=ht.r.shape;obtain⟨bz,off,hq,_,_,hcell⟩:=Row.nonnil hr (by omega);subst hq;have t0:=Row.elAt encB_length hcell (k:=(k:Int)) (by omega) (by omega) 0 _ (by decide) rfl;rw [Int.toNat_natCast,Nat.mul_one,Nat.add_zero]at t0;have hkt:k<tk.length:=by omega
 have HW:=Lib.hid hW;clear hcell hr h1 hW h hp hn ht;generalize geta tk (k:Int)=tq at *;rw [fr_lmP,fe q0,fe q1,fe q2,fe q7,fe q8,fe q9,fe q27,fe q28];clear q0 q1 q2 q7 q8 q9 q27 q28;conv=>arg 2;whnf
 go_wp2_with fail
 refine Met.intro (hS _ _ ?_);exact⟨_,Fr.r rfl rfl,rfl,HW.out⟩
theorem lm7:T3 Tryz.prog (fun a w=>(Below w0.heap.size w0 w∧w.ownsRow w0.heap.size 3 1 (.slice (some ⟨g,0,none⟩) (2 ^ m) (2 ^ m)) (2 ^ m) (bs.map (.int .i64)))∧Fr 87 [(0,.pointer (some ⟨A0,0,none⟩)),(1,.int .i64 (f:Int)),(2,vt),(7,.int .i64 (m:Int)),(8,.slice (some ⟨g,0,none⟩) (2 ^ m) (2 ^ m)),(9,.int .i64 (k:Int)),(27,.int .i64 L.length),(28,.int .i64 (k:Int))] a) (sel [1,1,1,0,1,4,4,1,1,0,4,1,1,0] lmP) (fun a w=>(Below w0.heap.size w0 w∧w.ownsRow w0.heap.size 3 1 (.slice (some ⟨g,0,none⟩) (2 ^ m) (2 ^ m)) (2 ^ m) (bs.map (.int .i64)))∧Fr 87 [(0,.pointer (some ⟨A0,0,none⟩)),(1,.int .i64 (f:Int)),(2,vt),(7,.int .i64 (m:Int)),(8,.slice (some ⟨g,0,none⟩) (2 ^ m) (2 ^ m)),(9,.int .i64 (k:Int)),(10,.int .i64 (wK L k)),(27,.int .i64 L.length),(28,.int .i64 (k:Int))] a) No 9 No:=by
 refine T3.leaf ?_;rintro Q JS JX JT K hS hK hX hE hT hR a w ⟨hW,⟨fr,rfl,q0,q1,q2,q7,q8,q9,q27,q28,_⟩⟩;have HC:=Lib.hid (worth_prog A0 vl vs S L k w (h.below hW.1) hp hk);obtain⟨qt,ct,rfl⟩:=ht.r.shape;have HW:=Lib.hid hW;clear hW h hp;have hsz:=HW.out.1.size;generalize wK L k=ww at *;rw [fr_lmP,fe q0,fe q1,fe q2,fe q7,fe q8,fe q9,fe q27,fe q28];clear q0 q1 q2 q7 q8 q9 q27 q28;conv=>arg 2;whnf
 go_wp2_with fail
 refine HC.out.mono ?_;rintro e w1 ⟨rfl,hb⟩;have H1:=Lib.hid (And.intro (HW.out.1.trans (hb.mono hsz)) (owns_below HW.out.2 hb (Nat.le_refl _)));clear hb;go_wp2_with fail
 refine Met.intro (hS _ _ ?_);exact⟨H1.out,Fr.r rfl rfl⟩
theorem lm8:T3 Tryz.prog (fun a w=>(Below w0.heap.size w0 w∧w.ownsRow w0.heap.size 3 1 (.slice (some ⟨g,0,none⟩) (2 ^ m) (2 ^ m)) (2 ^ m) (bs.map (.int .i64)))∧Fr 87 [(0,.pointer (some ⟨A0,0,none⟩)),(1,.int .i64 (f:Int)),(2,vt),(7,.int .i64 (m:Int)),(8,.slice (some ⟨g,0,none⟩) (2 ^ m) (2 ^ m)),(9,.int .i64 (k:Int)),(10,.int .i64 (wK L k)),(27,.int .i64 L.length),(28,.int .i64 (k:Int))] a) (sel [1,1,1,0,1,4,4,1,1,0,4,1,1,1,0] lmP) (fun a w=>(Below w0.heap.size w0 w∧w.ownsRow w0.heap.size 3 1 (.slice (some ⟨g,0,none⟩) (2 ^ m) (2 ^ m)) (2 ^ m) (bs.map (.int .i64)))∧Fr 87 [(0,.pointer (some ⟨A0,0,none⟩)),(1,.int .i64 (f:Int)),(2,vt),(7,.int .i64 (m:Int)),(8,.slice (some ⟨g,0,none⟩) (2 ^ m) (2 ^ m)),(9,.int .i64 (k:Int)),(10,.int .i64 (wK L k)),(11,.int .i64 ((2 ^ m-1:Nat):Int)),(27,.int .i64 L.length),(28,.int .i64 (k:Int))] a) No 9 No:=by
 refine T3.leaf ?_;rintro Q JS JX JT K hS hK hX hE hT hR a w ⟨hW,⟨fr,rfl,q0,q1,q2,q7,q8,q9,q10,q27,q28,_⟩⟩;obtain⟨hp16,hp1⟩:=pow_le4 hfm.m4;obtain⟨qt,ct,rfl⟩:=ht.r.shape;have HW:=Lib.hid hW;clear hW h hp;generalize (2 ^ m:Nat)=N at *;have HQ:=Lib.hid (show(N:Int)-1=((N-1:Nat):Int)by omega);generalize ((N-1:Nat):Int)=N1 at *;rw [fr_lmP,fe q0,fe q1,fe q2,fe q7,fe q8,fe q9,fe q10,fe q27,fe q28];clear q0 q1 q2 q7 q8 q9 q10 q27 q28;conv=>arg 2;whnf
 go_wp2_with fail
 rw [HQ.out];refine Met.intro (hS _ _ ?_);exact⟨HW.out,Fr.r rfl rfl⟩
end
end
section
variable (A0:Nat)(vl vs vt:Value)(S:List SlD)(L:List ScD)(tk:List Bool)(f m:Nat)(w0:World)(h:BoH w0 A0 vs S vl L)(hp:ScP L)(hfm:SlR f m S.length)(hl:L.length≤6)(ht:TkH w0 vt tk L.length)(g:Nat)(k:Nat)(hk:k<L.length)(bs:List Int)(set:Nat)(hset:set<2 ^ m)
include h hp hfm hl ht g hk bs hset
theorem lm9:T3 Tryz.prog (fun a w=>(Below w0.heap.size w0 w∧w.ownsRow w0.heap.size 3 1 (.slice (some ⟨g,0,none⟩) (2 ^ m) (2 ^ m)) (2 ^ m) (bs.map (.int .i64)))∧Fr 87 [(0,.pointer (some ⟨A0,0,none⟩)),(1,.int .i64 (f:Int)),(2,vt),(7,.int .i64 (m:Int)),(8,.slice (some ⟨g,0,none⟩) (2 ^ m) (2 ^ m)),(9,.int .i64 (k:Int)),(10,.int .i64 (wK L k)),(11,.int .i64 (set:Int)),(27,.int .i64 L.length),(28,.int .i64 (k:Int))] a) (sel [1,1,1,0,1,4,4,1,1,0,4,1,1,1,1,4,4,0,0] lmP) (fun a w=>∃q,Fr 87 ((42,.bool q)::[(0,.pointer (some ⟨A0,0,none⟩)),(1,.int .i64 (f:Int)),(2,vt),(7,.int .i64 (m:Int)),(8,.slice (some ⟨g,0,none⟩) (2 ^ m) (2 ^ m)),(9,.int .i64 (k:Int)),(10,.int .i64 (wK L k)),(11,.int .i64 (set:Int)),(27,.int .i64 L.length),(28,.int .i64 (k:Int))]) a∧((q=decide (0<set))∧Below w0.heap.size w0 w∧w.ownsRow w0.heap.size 3 1 (.slice (some ⟨g,0,none⟩) (2 ^ m) (2 ^ m)) (2 ^ m) (bs.map (.int .i64)))) No 9 No:=by
 refine T3.leaf ?_;rintro Q JS JX JT K hS hK hX hE hT hR a w ⟨hW,⟨fr,rfl,q0,q1,q2,q7,q8,q9,q10,q11,q27,q28,_⟩⟩;obtain⟨hp16,hp1⟩:=pow_le4 hfm.m4;have hs16:set<16:=by omega
 clear hset;obtain⟨qt,ct,rfl⟩:=ht.r.shape;have HW:=Lib.hid hW;clear hW h hp;rw [fr_lmP,fe q0,fe q1,fe q2,fe q7,fe q8,fe q9,fe q10,fe q11,fe q27,fe q28];clear q0 q1 q2 q7 q8 q9 q10 q11 q27 q28;conv=>arg 2;whnf
 go_wp2_with fail
 refine Met.intro (hS _ _ ?_);exact⟨_,Fr.r rfl rfl,rfl,HW.out⟩
theorem lm11:T3 Tryz.prog (fun a w=>(Below w0.heap.size w0 w∧w.ownsRow w0.heap.size 3 1 (.slice (some ⟨g,0,none⟩) (2 ^ m) (2 ^ m)) (2 ^ m) (bs.map (.int .i64)))∧Fr 87 [(0,.pointer (some ⟨A0,0,none⟩)),(1,.int .i64 (f:Int)),(2,vt),(7,.int .i64 (m:Int)),(8,.slice (some ⟨g,0,none⟩) (2 ^ m) (2 ^ m)),(9,.int .i64 (k:Int)),(10,.int .i64 (wK L k)),(11,.int .i64 (set:Int)),(27,.int .i64 L.length),(28,.int .i64 (k:Int))] a) (sel [1,1,1,0,1,4,4,1,1,0,4,1,1,1,1,4,4,1,0,4,0] lmP) (fun a w=>(Below w0.heap.size w0 w∧w.ownsRow w0.heap.size 3 1 (.slice (some ⟨g,0,none⟩) (2 ^ m) (2 ^ m)) (2 ^ m) (bs.map (.int .i64)))∧Fr 87 [(0,.pointer (some ⟨A0,0,none⟩)),(1,.int .i64 (f:Int)),(2,vt),(7,.int .i64 (m:Int)),(8,.slice (some ⟨g,0,none⟩) (2 ^ m) (2 ^ m)),(9,.int .i64 (k:Int)),(10,.int .i64 (wK L k)),(11,.int .i64 (set:Int)),(27,.int .i64 L.length),(28,.int .i64 (k:Int)),(45,.int .i64 (m:Int)),(46,.int .i64 0)] a) No 9 No:=by
 refine T3.leaf ?_;rintro Q JS JX JT K hS hK hX hE hT hR a w ⟨hW,⟨fr,rfl,q0,q1,q2,q7,q8,q9,q10,q11,q27,q28,_⟩⟩;obtain⟨hp16,hp1⟩:=pow_le4 hfm.m4;have hs16:set<16:=by omega
 clear hset;obtain⟨qt,ct,rfl⟩:=ht.r.shape;have HW:=Lib.hid hW;clear hW h hp;rw [fr_lmP,fe q0,fe q1,fe q2,fe q7,fe q8,fe q9,fe q10,fe q11,fe q27,fe q28];clear q0 q1 q2 q7 q8 q9 q10 q11 q27 q28;conv=>arg 2;whnf
 go_wp2_with fail
 refine Met.intro (hS _ _ ?_);exact⟨HW.out,Fr.r rfl rfl⟩
theorem lm12 (i:Nat)(hi:i≤m):T3 Tryz.prog (fun a w=>(Below w0.heap.size w0 w∧w.ownsRow w0.heap.size 3 1 (.slice (some ⟨g,0,none⟩) (2 ^ m) (2 ^ m)) (2 ^ m) (bs.map (.int .i64)))∧Fr 87 [(0,.pointer (some ⟨A0,0,none⟩)),(1,.int .i64 (f:Int)),(2,vt),(7,.int .i64 (m:Int)),(8,.slice (some ⟨g,0,none⟩) (2 ^ m) (2 ^ m)),(9,.int .i64 (k:Int)),(10,.int .i64 (wK L k)),(11,.int .i64 (set:Int)),(27,.int .i64 L.length),(28,.int .i64 (k:Int)),(45,.int .i64 (m:Int)),(46,.int .i64 (i:Int))] a) (sel [1,1,1,0,1,4,4,1,1,0,4,1,1,1,1,4,4,1,0,4,1,4,4,0] lmP) (fun a w=>∃q,Fr 87 ((47,.bool q)::[(0,.pointer (some ⟨A0,0,none⟩)),(1,.int .i64 (f:Int)),(2,vt),(7,.int .i64 (m:Int)),(8,.slice (some ⟨g,0,none⟩) (2 ^ m) (2 ^ m)),(9,.int .i64 (k:Int)),(10,.int .i64 (wK L k)),(11,.int .i64 (set:Int)),(27,.int .i64 L.length),(28,.int .i64 (k:Int)),(45,.int .i64 (m:Int)),(46,.int .i64 (i:Int))]) a∧((q=decide (i<m))∧Below w0.heap.size w0 w∧w.ownsRow w0.heap.size 3 1 (.slice (some ⟨g,0,none⟩) (2 ^ m) (2 ^ m)) (2 ^ m) (bs.map (.int .i64)))) No 9 No:=by
 refine T3.leaf ?_;rintro Q JS JX JT K hS hK hX hE hT hR a w ⟨hW,⟨fr,rfl,q0,q1,q2,q7,q8,q9,q10,q11,q27,q28,q45,q46,_⟩⟩;have hm4:=hfm.m4;obtain⟨hp16,hp1⟩:=pow_le4 hfm.m4;have hs16:set<16:=by omega
 clear hset;obtain⟨qt,ct,rfl⟩:=ht.r.shape;have HW:=Lib.hid hW;clear hW h hp;rw [fr_lmP,fe q0,fe q1,fe q2,fe q7,fe q8,fe q9,fe q10,fe q11,fe q27,fe q28,fe q45,fe q46];clear q0 q1 q2 q7 q8 q9 q10 q11 q27 q28 q45 q46;conv=>arg 2;whnf
 go_wp2_with fail
 refine Met.intro (hS _ _ ?_);exact⟨_,Fr.r rfl rfl,rfl,HW.out⟩
section
variable (i:Nat)(hi:i<m)
include hi
theorem lm13:T3 Tryz.prog (fun a w=>(Below w0.heap.size w0 w∧w.ownsRow w0.heap.size 3 1 (.slice (some ⟨g,0,none⟩) (2 ^ m) (2 ^ m)) (2 ^ m) (bs.map (.int .i64)))∧Fr 87 [(0,.pointer (some ⟨A0,0,none⟩)),(1,.int .i64 (f:Int)),(2,vt),(7,.int .i64 (m:Int)),(8,.slice (some ⟨g,0,none⟩) (2 ^ m) (2 ^ m)),(9,.int .i64 (k:Int)),(10,.int .i64 (wK L k)),(11,.int .i64 (set:Int)),(27,.int .i64 L.length),(28,.int .i64 (k:Int)),(45,.int .i64 (m:Int)),(46,.int .i64 (i:Int))] a) (sel [1,1,1,0,1,4,4,1,1,0,4,1,1,1,1,4,4,1,0,4,1,4,4,1,1,0,4,0] lmP) (fun a w=>(Below w0.heap.size w0 w∧w.ownsRow w0.heap.size 3 1 (.slice (some ⟨g,0,none⟩) (2 ^ m) (2 ^ m)) (2 ^ m) (bs.map (.int .i64)))∧Fr 87 [(0,.pointer (some ⟨A0,0,none⟩)),(1,.int .i64 (f:Int)),(2,vt),(7,.int .i64 (m:Int)),(8,.slice (some ⟨g,0,none⟩) (2 ^ m) (2 ^ m)),(9,.int .i64 (k:Int)),(10,.int .i64 (wK L k)),(11,.int .i64 (set:Int)),(12,.int .i64 (i:Int)),(27,.int .i64 L.length),(28,.int .i64 (k:Int)),(45,.int .i64 (m:Int)),(46,.int .i64 (i:Int))] a) No 9 No:=by
 refine T3.leaf ?_;rintro Q JS JX JT K hS hK hX hE hT hR a w ⟨hW,⟨fr,rfl,q0,q1,q2,q7,q8,q9,q10,q11,q27,q28,q45,q46,_⟩⟩;have hm4:=hfm.m4;obtain⟨hp16,hp1⟩:=pow_le4 hfm.m4;have hs16:set<16:=by omega
 clear hset;obtain⟨qt,ct,rfl⟩:=ht.r.shape;have HW:=Lib.hid hW;clear hW h hp;rw [fr_lmP,fe q0,fe q1,fe q2,fe q7,fe q8,fe q9,fe q10,fe q11,fe q27,fe q28,fe q45,fe q46];clear q0 q1 q2 q7 q8 q9 q10 q11 q27 q28 q45 q46;conv=>arg 2;whnf
 go_wp2_with fail
 refine Met.intro (hS _ _ ?_);exact⟨HW.out,Fr.r rfl rfl⟩
theorem lm14:T3 Tryz.prog (fun a w=>(Below w0.heap.size w0 w∧w.ownsRow w0.heap.size 3 1 (.slice (some ⟨g,0,none⟩) (2 ^ m) (2 ^ m)) (2 ^ m) (bs.map (.int .i64)))∧Fr 87 [(0,.pointer (some ⟨A0,0,none⟩)),(1,.int .i64 (f:Int)),(2,vt),(7,.int .i64 (m:Int)),(8,.slice (some ⟨g,0,none⟩) (2 ^ m) (2 ^ m)),(9,.int .i64 (k:Int)),(10,.int .i64 (wK L k)),(11,.int .i64 (set:Int)),(12,.int .i64 (i:Int)),(27,.int .i64 L.length),(28,.int .i64 (k:Int)),(45,.int .i64 (m:Int)),(46,.int .i64 (i:Int))] a) (sel [1,1,1,0,1,4,4,1,1,0,4,1,1,1,1,4,4,1,0,4,1,4,4,1,1,0,4,1,0] lmP) (fun a w=>∃q,Fr 87 ((61,.bool q)::[(0,.pointer (some ⟨A0,0,none⟩)),(1,.int .i64 (f:Int)),(2,vt),(7,.int .i64 (m:Int)),(8,.slice (some ⟨g,0,none⟩) (2 ^ m) (2 ^ m)),(9,.int .i64 (k:Int)),(10,.int .i64 (wK L k)),(11,.int .i64 (set:Int)),(12,.int .i64 (i:Int)),(27,.int .i64 L.length),(28,.int .i64 (k:Int)),(45,.int .i64 (m:Int)),(46,.int .i64 (i:Int))]) a∧((q=(set.testBit i&&fitK S L k (f+i)))∧Below w0.heap.size w0 w∧w.ownsRow w0.heap.size 3 1 (.slice (some ⟨g,0,none⟩) (2 ^ m) (2 ^ m)) (2 ^ m) (bs.map (.int .i64)))) No 9 No:=by
 refine T3.leaf ?_;rintro Q JS JX JT K hS hK hX hE hT hR a w ⟨hW,⟨fr,rfl,q0,q1,q2,q7,q8,q9,q10,q11,q12,q27,q28,q45,q46,_⟩⟩;have hm4:=hfm.m4;obtain⟨hp16,hp1⟩:=pow_le4 hfm.m4;have hs16:set<16:=by omega
 clear hset;have hi4:i<4:=by omega
 have hfS:=hfm.h;have hSn:=h.s.n;have hf9:f≤1000:=by omega
 have hfi:f+i<S.length:=by omega
 have HC:=Lib.hid (fits_prog A0 vl vs S L k (f+i) w (h.below hW.1) hk hfi);have e1:((f+i:Nat):Int)=(f:Int)+(i:Int):=by omega
 rw [e1]at HC;have hbw:=bit_w set hs16 i hi4;clear e1 hfS hfi;obtain⟨qt,ct,rfl⟩:=ht.r.shape;have HW:=Lib.hid hW;clear hW h hp;have hsz:=HW.out.1.size
 by_cases hb:set.testBit i=true
 ·have hbt:=hbw.2 hb;have HBt:=Lib.hid hb;clear hb hbw;generalize fitK S L k (f+i)=ff at *;rw [fr_lmP,fe q0,fe q1,fe q2,fe q7,fe q8,fe q9,fe q10,fe q11,fe q12,fe q27,fe q28,fe q45,fe q46];clear q0 q1 q2 q7 q8 q9 q10 q11 q12 q27 q28 q45 q46;conv=>arg 2;whnf
  go_wp2_with fail
  refine HC.out.mono ?_;rintro e w1 ⟨rfl,hb⟩;have H1:=Lib.hid (And.intro (HW.out.1.trans (hb.mono hsz)) (owns_below HW.out.2 hb (Nat.le_refl _)));clear hb;go_wp2_with fail
  refine Met.intro (hS _ _ ?_);exact⟨_,Fr.r rfl rfl,by rw [HBt.out];simp,H1.out⟩
 ·have hbt:¬bits BinOp.and IntKind.i64 ((set:Int) / 2 ^ i) 1=1:=fun e=>hb (hbw.1 e)
  have HBt:=Lib.hid (show set.testBit i=false by simpa using hb);clear hb hbw HC;rw [fr_lmP,fe q0,fe q1,fe q2,fe q7,fe q8,fe q9,fe q10,fe q11,fe q12,fe q27,fe q28,fe q45,fe q46];clear q0 q1 q2 q7 q8 q9 q10 q11 q12 q27 q28 q45 q46;conv=>arg 2;whnf
  go_wp2_with fail
  refine Met.intro (hS _ _ ?_);exact⟨_,Fr.r rfl rfl,by rw [HBt.out];simp,HW.out⟩
theorem lm15 (hb:set.testBit i=true)(hbd:TabB m bs):T3 Tryz.prog (fun a w=>(Below w0.heap.size w0 w∧w.ownsRow w0.heap.size 3 1 (.slice (some ⟨g,0,none⟩) (2 ^ m) (2 ^ m)) (2 ^ m) (bs.map (.int .i64)))∧Fr 87 [(0,.pointer (some ⟨A0,0,none⟩)),(1,.int .i64 (f:Int)),(2,vt),(7,.int .i64 (m:Int)),(8,.slice (some ⟨g,0,none⟩) (2 ^ m) (2 ^ m)),(9,.int .i64 (k:Int)),(10,.int .i64 (wK L k)),(11,.int .i64 (set:Int)),(12,.int .i64 (i:Int)),(27,.int .i64 L.length),(28,.int .i64 (k:Int)),(45,.int .i64 (m:Int)),(46,.int .i64 (i:Int))] a) (sel [1,1,1,0,1,4,4,1,1,0,4,1,1,1,1,4,4,1,0,4,1,4,4,1,1,0,4,1,1,2] lmP) (fun a w=>(Below w0.heap.size w0 w∧w.ownsRow w0.heap.size 3 1 (.slice (some ⟨g,0,none⟩) (2 ^ m) (2 ^ m)) (2 ^ m) ((bs.set set (max (geti bs set) (geti bs (rmB set i)+wK L k))).map (.int .i64)))∧Fr 87 [(0,.pointer (some ⟨A0,0,none⟩)),(1,.int .i64 (f:Int)),(2,vt),(7,.int .i64 (m:Int)),(8,.slice (some ⟨g,0,none⟩) (2 ^ m) (2 ^ m)),(9,.int .i64 (k:Int)),(10,.int .i64 (wK L k)),(11,.int .i64 (set:Int)),(12,.int .i64 (i:Int)),(27,.int .i64 L.length),(28,.int .i64 (k:Int)),(45,.int .i64 (m:Int)),(46,.int .i64 (i:Int))] a) No 9 No:=by
 refine T3.leafN ?_;rintro JS hS a w ⟨hW,⟨fr,rfl,q0,q1,q2,q7,q8,q9,q10,q11,q12,q27,q28,q45,q46,_⟩⟩;have hm4:=hfm.m4;obtain⟨hp16,hp1⟩:=pow_le4 hfm.m4;have hs16:set<16:=by omega
 have hi4:i<4:=by omega
 have hrm:=rmB_lt hb;have hbl:=hbd.l;have hg1:=hbd.h set hset;have hg2:=hbd.h (rmB set i) (by omega);have hw1:=hp.hnK hk;have hw2:-64000001≤wK L k∧wK L k≤64000000:=by unfold wK;omega
 have t0:w.drew.cell? ⟨g,set,none⟩=some (.int .i64 (geti bs set)):=own_cell hW.2 (by omega);have t1:w.drew.cell? ⟨g,rmB set i,none⟩=some (.int .i64 (geti bs (rmB set i))):=own_cell hW.2 (by omega);have f0:w.drew.frozen? ⟨g,set,none⟩=false:=owns_frozenC hW.2 set;have hR:=rm_w set hs16 i hi4 hb;have hsh:=sh_w (m:=i) (by omega);have hD:Below w0.heap.size w0 w.drew:=below_drewN hW.1 1;have ho:w.drew.ownsRow w0.heap.size 3 1 (.slice (some ⟨g,0,none⟩) (2 ^ m) (2 ^ m)) (2 ^ m) (bs.map (.int .i64)):=hW.2;have hgz:=(ho.lt g rfl).1;have ho2:=owns_setC ho set (by omega) (.int .i64 (max (geti bs set) (geti bs (rmB set i)+wK L k)));rw [←List.map_set]at ho2;have HF:=Lib.hid (And.intro (hD.setCell (p:=⟨g,set,none⟩) hgz (.int .i64 (max (geti bs set) (geti bs (rmB set i)+wK L k)))) ho2);obtain⟨qt,ct,rfl⟩:=ht.r.shape;clear ho ho2 hD hW h hp hbd hb hw1 hbl hgz hfm;have hrN:rmB set i<2 ^ m:=by omega
 generalize hrr:rmB set i=r at *;have HRR:=Lib.hid hrr;clear hrr;generalize wK L k=ww at *;generalize geti bs (set:Int)=y0 at *;generalize geti bs (r:Int)=y1 at *;generalize (2 ^ m:Nat)=N at *;rw [fr_lmP,fe q0,fe q1,fe q2,fe q7,fe q8,fe q9,fe q10,fe q11,fe q12,fe q27,fe q28,fe q45,fe q46];clear q0 q1 q2 q7 q8 q9 q10 q11 q12 q27 q28 q45 q46;conv=>arg 2;whnf
 refine wp_region_alt (fun _=>True) (.calm 0 (.calm 1 (.calm 2 (.calm 3 (.calm 4 (.calm 6 (.calm 7 (.calm 8 (.calm 9 (.calm 10 (.calm 11 (.calm 13 (.alt 5 (.one 12 (.calm 14 (.one 15 (.calm 16 (.one 17 .done))))) (.one 12 (.calm 14 (.one 5 (.one 15 (.calm 16 (.one 17 .done))))))))))))))))))) (by kernel_rfl) (by kernel_rfl) (by intro c a d v w h;cases d <;> exact h) (trivial) ?_;generalize w.drew=x0 at *;refine alt_hide (w₁:=x0) (fun W hH hC hA_ hE_=>?_);refine hH.out _ _ _ _ _ rfl (fun K hK=>?_);go_simp;refine hK _ ?_;clear hK K;refine hH.out _ _ _ _ _ rfl (fun K hK=>?_);go_simp;refine hK _ ?_;clear hK K;refine hH.out _ _ _ _ _ rfl (fun K hK=>?_);go_simp;refine hK _ ?_;clear hK K;refine hH.out _ _ _ _ _ rfl (fun K hK=>?_);go_simp;refine hK _ ?_;clear hK K;refine hH.out _ _ _ _ _ rfl (fun K hK=>?_);go_simp;refine hK _ ?_;clear hK K;refine hH.out _ _ _ _ _ rfl (fun K hK=>?_);go_simp;refine hK _ ?_;clear hK K;refine hH.out _ _ _ _ _ rfl (fun K hK=>?_);go_simp;refine hK _ ?_;clear hK K;refine hH.out _ _ _ _ _ rfl (fun K hK=>?_);go_simp;refine hK _ ?_;clear hK K;refine hH.out _ _ _ _ _ rfl (fun K hK=>?_);go_simp;refine hK _ ?_;clear hK K;refine hH.out _ _ _ _ _ rfl (fun K hK=>?_);go_simp;refine hK _ ?_;clear hK K;refine hH.out _ _ _ _ _ rfl (fun K hK=>?_);go_simp;refine hK _ ?_;clear hK K;refine hH.out _ _ _ _ _ rfl (fun K hK=>?_);go_simp;refine hK _ ?_;clear hK K;refine hA_.out _ _ _ _ _ ?_ ?_
 ·refine hC.out _ _ _ _ _ rfl (by first|rfl|go_simp) (fun K hK=>?_);simp only [bare];have u5:=t0;go_wp2_with fail
  clear u5;refine hK.out _ _ trivial ?_;clear hK K;refine hC.out _ _ _ _ _ rfl (by first|rfl|go_simp) (fun K hK=>?_);simp only [bare];have u12:=t1;go_wp2_with fail
  clear u12;refine hK.out _ _ trivial ?_;clear hK K;refine hH.out _ _ _ _ _ rfl (fun K hK=>?_);go_simp;refine hK _ ?_;clear hK K;refine hC.out _ _ _ _ _ rfl (by first|rfl|go_simp) (fun K hK=>?_);simp only [bare];go_wp2_with fail
  refine hK.out _ _ trivial ?_;clear hK K;refine hH.out _ _ _ _ _ rfl (fun K hK=>?_);go_simp;refine hK _ ?_;clear hK K;refine hC.out _ _ _ _ _ rfl (by first|rfl|go_simp) (fun K hK=>?_);simp only [bare];go_wp2_with fail
  refine hK.out _ _ trivial ?_;clear hK K;refine hE_.out _ _ ?_;clear hH hC hA_ hE_ W;show JS _ _;refine hS _ _ ?_;exact⟨HF.out,Fr.r rfl rfl⟩
 refine hC.out _ _ _ _ _ rfl (by first|rfl|go_simp) (fun K hK=>?_);simp only [bare];have u12:=t1;go_wp2_with fail
 clear u12;refine hK.out _ _ trivial ?_;clear hK K;refine hH.out _ _ _ _ _ rfl (fun K hK=>?_);go_simp;refine hK _ ?_;clear hK K;refine hC.out _ _ _ _ _ rfl (by first|rfl|go_simp) (fun K hK=>?_);simp only [bare];have u5:=t0;go_wp2_with fail
 clear u5;refine hK.out _ _ trivial ?_;clear hK K;refine hC.out _ _ _ _ _ rfl (by first|rfl|go_simp) (fun K hK=>?_);simp only [bare];go_wp2_with fail
 refine hK.out _ _ trivial ?_;clear hK K;refine hH.out _ _ _ _ _ rfl (fun K hK=>?_);go_simp;refine hK _ ?_;clear hK K;refine hC.out _ _ _ _ _ rfl (by first|rfl|go_simp) (fun K hK=>?_);simp only [bare];go_wp2_with fail
 refine hK.out _ _ trivial ?_;clear hK K;refine hE_.out _ _ ?_;clear hH hC hA_ hE_ W;show JS _ _;refine hS _ _ ?_;exact⟨HF.out,Fr.r rfl rfl⟩
theorem lm16:T3 Tryz.prog (fun a w=>(Below w0.heap.size w0 w∧w.ownsRow w0.heap.size 3 1 (.slice (some ⟨g,0,none⟩) (2 ^ m) (2 ^ m)) (2 ^ m) (bs.map (.int .i64)))∧Fr 87 [(0,.pointer (some ⟨A0,0,none⟩)),(1,.int .i64 (f:Int)),(2,vt),(7,.int .i64 (m:Int)),(8,.slice (some ⟨g,0,none⟩) (2 ^ m) (2 ^ m)),(9,.int .i64 (k:Int)),(10,.int .i64 (wK L k)),(11,.int .i64 (set:Int)),(27,.int .i64 L.length),(28,.int .i64 (k:Int)),(45,.int .i64 (m:Int)),(46,.int .i64 (i:Int))] a) (sel [1,1,1,0,1,4,4,1,1,0,4,1,1,1,1,4,4,1,0,4,1,4,4,1,1,1] lmP) (fun a w=>(Below w0.heap.size w0 w∧w.ownsRow w0.heap.size 3 1 (.slice (some ⟨g,0,none⟩) (2 ^ m) (2 ^ m)) (2 ^ m) (bs.map (.int .i64)))∧Fr 87 [(0,.pointer (some ⟨A0,0,none⟩)),(1,.int .i64 (f:Int)),(2,vt),(7,.int .i64 (m:Int)),(8,.slice (some ⟨g,0,none⟩) (2 ^ m) (2 ^ m)),(9,.int .i64 (k:Int)),(10,.int .i64 (wK L k)),(11,.int .i64 (set:Int)),(27,.int .i64 L.length),(28,.int .i64 (k:Int)),(45,.int .i64 (m:Int)),(46,.int .i64 ((i+1:Nat):Int))] a) No 9 No:=by
 refine T3.leaf ?_;rintro Q JS JX JT K hS hK hX hE hT hR a w ⟨hW,⟨fr,rfl,q0,q1,q2,q7,q8,q9,q10,q11,q27,q28,q45,q46,_⟩⟩;have hm4:=hfm.m4;obtain⟨hp16,hp1⟩:=pow_le4 hfm.m4;have hs16:set<16:=by omega
 clear hset;obtain⟨qt,ct,rfl⟩:=ht.r.shape;have HW:=Lib.hid hW;clear hW h hp;have HQ:=Lib.hid (show(i:Int)+1=((i+1:Nat):Int)by omega);generalize ((i+1:Nat):Int)=i1 at *;rw [fr_lmP,fe q0,fe q1,fe q2,fe q7,fe q8,fe q9,fe q10,fe q11,fe q27,fe q28,fe q45,fe q46];clear q0 q1 q2 q7 q8 q9 q10 q11 q27 q28 q45 q46;conv=>arg 2;whnf
 go_wp2_with fail
 rw [HQ.out];refine Met.intro (hS _ _ ?_);exact⟨HW.out,Fr.r rfl rfl⟩
end
theorem lm10 (h0:0<set):T3 Tryz.prog (fun a w=>(Below w0.heap.size w0 w∧w.ownsRow w0.heap.size 3 1 (.slice (some ⟨g,0,none⟩) (2 ^ m) (2 ^ m)) (2 ^ m) (bs.map (.int .i64)))∧Fr 87 [(0,.pointer (some ⟨A0,0,none⟩)),(1,.int .i64 (f:Int)),(2,vt),(7,.int .i64 (m:Int)),(8,.slice (some ⟨g,0,none⟩) (2 ^ m) (2 ^ m)),(9,.int .i64 (k:Int)),(10,.int .i64 (wK L k)),(11,.int .i64 (set:Int)),(27,.int .i64 L.length),(28,.int .i64 (k:Int))] a) (sel [1,1,1,0,1,4,4,1,1,0,4,1,1,1,1,4,4,1,1] lmP) (fun a w=>(Below w0.heap.size w0 w∧w.ownsRow w0.heap.size 3 1 (.slice (some ⟨g,0,none⟩) (2 ^ m) (2 ^ m)) (2 ^ m) (bs.map (.int .i64)))∧Fr 87 [(0,.pointer (some ⟨A0,0,none⟩)),(1,.int .i64 (f:Int)),(2,vt),(7,.int .i64 (m:Int)),(8,.slice (some ⟨g,0,none⟩) (2 ^ m) (2 ^ m)),(9,.int .i64 (k:Int)),(10,.int .i64 (wK L k)),(11,.int .i64 ((set-1:Nat):Int)),(27,.int .i64 L.length),(28,.int .i64 (k:Int))] a) No 9 No:=by
 refine T3.leaf ?_;rintro Q JS JX JT K hS hK hX hE hT hR a w ⟨hW,⟨fr,rfl,q0,q1,q2,q7,q8,q9,q10,q11,q27,q28,_⟩⟩;obtain⟨hp16,hp1⟩:=pow_le4 hfm.m4;have hs16:set<16:=by omega
 clear hset;obtain⟨qt,ct,rfl⟩:=ht.r.shape;have HW:=Lib.hid hW;clear hW h hp;have HQ:=Lib.hid (show(set:Int)-1=((set-1:Nat):Int)by omega);generalize ((set-1:Nat):Int)=i1 at *;rw [fr_lmP,fe q0,fe q1,fe q2,fe q7,fe q8,fe q9,fe q10,fe q11,fe q27,fe q28];clear q0 q1 q2 q7 q8 q9 q10 q11 q27 q28;conv=>arg 2;whnf
 go_wp2_with fail
 rw [HQ.out];refine Met.intro (hS _ _ ?_);exact⟨HW.out,Fr.r rfl rfl⟩
end
theorem DPi.tab {fit:Nat→Nat→Bool}{w:Nat→Int}{f m k set i:Nat}{tk:List Bool}{bs:List Int}(h:DPi fit w f m tk k set i bs)(hk:k<6):TabB m bs:=by
 refine⟨h.len,fun s hs=>?_⟩
 by_cases e:s<set
 ·have:=h.bl s e;unfold cW at this;omega
 ·by_cases e2:s=set
  ·subst e2;have:=h.bc;unfold cW at this;omega
  ·have:=h.bh s (by omega) hs;unfold cW at this;omega
section
variable (A0:Nat)(vl vs vt:Value)(S:List SlD)(L:List ScD)(tk:List Bool)(f m:Nat)(w0:World)(h:BoH w0 A0 vs S vl L)(hp:ScP L)(hfm:SlR f m S.length)(hl:L.length≤6)(ht:TkH w0 vt tk L.length)
include h hp hfm hl ht
section
variable (g:Nat)(k:Nat)(hk:k<L.length)(bs:List Int)
include g hk bs
theorem lmH (set:Nat)(hset:set<2 ^ m)(i:Nat)(hi:i<m)(hd:DPi (fitK S L) (wK L) f m tk k set i bs):T3 Tryz.prog (fun a w=>(Below w0.heap.size w0 w∧w.ownsRow w0.heap.size 3 1 (.slice (some ⟨g,0,none⟩) (2 ^ m) (2 ^ m)) (2 ^ m) (bs.map (.int .i64)))∧Fr 87 [(0,.pointer (some ⟨A0,0,none⟩)),(1,.int .i64 (f:Int)),(2,vt),(7,.int .i64 (m:Int)),(8,.slice (some ⟨g,0,none⟩) (2 ^ m) (2 ^ m)),(9,.int .i64 (k:Int)),(10,.int .i64 (wK L k)),(11,.int .i64 (set:Int)),(27,.int .i64 L.length),(28,.int .i64 (k:Int)),(45,.int .i64 (m:Int)),(46,.int .i64 (i:Int))] a) (sel [1,1,1,0,1,4,4,1,1,0,4,1,1,1,1,4,4,1,0,4,1,4,4,1,1,0,4] lmP) (fun a w=>∃bs',(DPi (fitK S L) (wK L) f m tk k set (i+1) bs')∧(Below w0.heap.size w0 w∧w.ownsRow w0.heap.size 3 1 (.slice (some ⟨g,0,none⟩) (2 ^ m) (2 ^ m)) (2 ^ m) (bs'.map (.int .i64)))∧Fr 87 [(0,.pointer (some ⟨A0,0,none⟩)),(1,.int .i64 (f:Int)),(2,vt),(7,.int .i64 (m:Int)),(8,.slice (some ⟨g,0,none⟩) (2 ^ m) (2 ^ m)),(9,.int .i64 (k:Int)),(10,.int .i64 (wK L k)),(11,.int .i64 (set:Int)),(27,.int .i64 L.length),(28,.int .i64 (k:Int)),(45,.int .i64 (m:Int)),(46,.int .i64 (i:Int))] a) No 9 No:=by
 have hwk:wK L k≤cW:=by have:=(hp.hnK hk).2;unfold wK cW;omega
 refine T3.sq rfl (lm13 A0 vl vs vt S L tk f m w0 h hp hfm hl ht g k hk bs set hset i hi) ?_;refine T3.tt rfl (C:=fun q=>(q=(set.testBit i&&fitK S L k (f+i)))) (W:=fun w=>Below w0.heap.size w0 w∧w.ownsRow w0.heap.size 3 1 (.slice (some ⟨g,0,none⟩) (2 ^ m) (2 ^ m)) (2 ^ m) (bs.map (.int .i64))) (by decide) (lm14 A0 vl vs vt S L tk f m w0 h hp hfm hl ht g k hk bs set hset i hi) ?_ (T3.skip ?_)
 ·refine T3.pre (R:=fun a w=>(set.testBit i=true∧fitK S L k (f+i)=true)∧(Below w0.heap.size w0 w∧w.ownsRow w0.heap.size 3 1 (.slice (some ⟨g,0,none⟩) (2 ^ m) (2 ^ m)) (2 ^ m) (bs.map (.int .i64)))∧Fr 87 [(0,.pointer (some ⟨A0,0,none⟩)),(1,.int .i64 (f:Int)),(2,vt),(7,.int .i64 (m:Int)),(8,.slice (some ⟨g,0,none⟩) (2 ^ m) (2 ^ m)),(9,.int .i64 (k:Int)),(10,.int .i64 (wK L k)),(11,.int .i64 (set:Int)),(12,.int .i64 (i:Int)),(27,.int .i64 L.length),(28,.int .i64 (k:Int)),(45,.int .i64 (m:Int)),(46,.int .i64 (i:Int))] a) (T3.pure fun hh=>(lm15 A0 vl vs vt S L tk f m w0 h hp hfm hl ht g k hk bs set hset i hi hh.1 (hd.tab (by omega))).post ?_) ?_
  ·rintro a w ⟨hW,hF⟩;exact⟨_,hd.put hh.1 hh.2 hwk,hW,hF.sub (by simp)⟩
  ·rintro a w ⟨hF,hq,hW⟩;have hq2:=hq.symm;rw [Bool.and_eq_true]at hq2;exact⟨hq2,hW,hF.tail⟩
 ·rintro a w ⟨hq,hW,hF⟩;refine⟨bs,hd.skip (fun hh=>?_),hW,hF.sub (by simp)⟩;rw [hh.1,hh.2]at hq;cases hq
theorem lmI (set:Nat)(hset:set<2 ^ m)(hd:DPi (fitK S L) (wK L) f m tk k set 0 bs):T3 Tryz.prog (fun a w=>(Below w0.heap.size w0 w∧w.ownsRow w0.heap.size 3 1 (.slice (some ⟨g,0,none⟩) (2 ^ m) (2 ^ m)) (2 ^ m) (bs.map (.int .i64)))∧Fr 87 [(0,.pointer (some ⟨A0,0,none⟩)),(1,.int .i64 (f:Int)),(2,vt),(7,.int .i64 (m:Int)),(8,.slice (some ⟨g,0,none⟩) (2 ^ m) (2 ^ m)),(9,.int .i64 (k:Int)),(10,.int .i64 (wK L k)),(11,.int .i64 (set:Int)),(27,.int .i64 L.length),(28,.int .i64 (k:Int)),(45,.int .i64 (m:Int)),(46,.int .i64 0)] a) (sel [1,1,1,0,1,4,4,1,1,0,4,1,1,1,1,4,4,1,0,4,1] lmP) (fun a w=>∃bs',(DPi (fitK S L) (wK L) f m tk k set m bs')∧(Below w0.heap.size w0 w∧w.ownsRow w0.heap.size 3 1 (.slice (some ⟨g,0,none⟩) (2 ^ m) (2 ^ m)) (2 ^ m) (bs'.map (.int .i64)))∧Fr 87 [(0,.pointer (some ⟨A0,0,none⟩)),(1,.int .i64 (f:Int)),(2,vt),(7,.int .i64 (m:Int)),(8,.slice (some ⟨g,0,none⟩) (2 ^ m) (2 ^ m)),(9,.int .i64 (k:Int)),(10,.int .i64 (wK L k)),(11,.int .i64 (set:Int)),(27,.int .i64 L.length),(28,.int .i64 (k:Int))] a) No 9 No:=by
 refine T3.loop (c:=(sel [1,1,1,0,1,4,4,1,1,0,4,1,1,1,1,4,4,1,0,4,1,4,4] lmP)) (fun ng_ a w=>∃(i:Nat) (bs:List Int),(ng_+i=m∧DPi (fitK S L) (wK L) f m tk k set i bs)∧(Below w0.heap.size w0 w∧w.ownsRow w0.heap.size 3 1 (.slice (some ⟨g,0,none⟩) (2 ^ m) (2 ^ m)) (2 ^ m) (bs.map (.int .i64)))∧Fr 87 [(0,.pointer (some ⟨A0,0,none⟩)),(1,.int .i64 (f:Int)),(2,vt),(7,.int .i64 (m:Int)),(8,.slice (some ⟨g,0,none⟩) (2 ^ m) (2 ^ m)),(9,.int .i64 (k:Int)),(10,.int .i64 (wK L k)),(11,.int .i64 (set:Int)),(27,.int .i64 L.length),(28,.int .i64 (k:Int)),(45,.int .i64 (m:Int)),(46,.int .i64 (i:Int))] a) (fun a w h=>⟨m,0,bs,⟨by omega,hd⟩,h⟩) (fun ng_=>T3.ex fun i=>T3.ex fun bs=>T3.pure fun hI=>?_);have him:i≤m:=by have:=hI.1;omega
 refine T3.sq rfl ((lm12 A0 vl vs vt S L tk f m w0 h hp hfm hl ht g k hk bs set hset i him).noX) ?_;refine T3.sq rfl (S:=fun a w=>(i<m)∧(Below w0.heap.size w0 w∧w.ownsRow w0.heap.size 3 1 (.slice (some ⟨g,0,none⟩) (2 ^ m) (2 ^ m)) (2 ^ m) (bs.map (.int .i64)))∧Fr 87 [(0,.pointer (some ⟨A0,0,none⟩)),(1,.int .i64 (f:Int)),(2,vt),(7,.int .i64 (m:Int)),(8,.slice (some ⟨g,0,none⟩) (2 ^ m) (2 ^ m)),(9,.int .i64 (k:Int)),(10,.int .i64 (wK L k)),(11,.int .i64 (set:Int)),(27,.int .i64 L.length),(28,.int .i64 (k:Int)),(45,.int .i64 (m:Int)),(46,.int .i64 (i:Int))] a) ?_ (T3.pure fun hi=>T3.seq (s:=(sel [1,1,1,0,1,4,4,1,1,0,4,1,1,1,1,4,4,1,0,4,1,4,4,1,1,0] lmP)) (c:=(sel [1,1,1,0,1,4,4,1,1,0,4,1,1,1,1,4,4,1,0,4,1,4,4,1,1,1] lmP)) (T3.block (id':=5) (c:=(sel [1,1,1,0,1,4,4,1,1,0,4,1,1,1,1,4,4,1,0,4,1,4,4,1,1,0,4] lmP)) (by decide) ((lmH A0 vl vs vt S L tk f m w0 h hp hfm hl ht g k hk bs set hset i hi hI.2).noX)) (T3.ex fun bs2=>T3.pure fun hd2=>?_))
 ·refine T3.cond (o:=.tmp 47) (x:=.skip) (y:=.exit 4) (fun a w=>i<m∧(Below w0.heap.size w0 w∧w.ownsRow w0.heap.size 3 1 (.slice (some ⟨g,0,none⟩) (2 ^ m) (2 ^ m)) (2 ^ m) (bs.map (.int .i64)))∧Fr 87 [(0,.pointer (some ⟨A0,0,none⟩)),(1,.int .i64 (f:Int)),(2,vt),(7,.int .i64 (m:Int)),(8,.slice (some ⟨g,0,none⟩) (2 ^ m) (2 ^ m)),(9,.int .i64 (k:Int)),(10,.int .i64 (wK L k)),(11,.int .i64 (set:Int)),(27,.int .i64 L.length),(28,.int .i64 (k:Int)),(45,.int .i64 (m:Int)),(46,.int .i64 (i:Int))] a) (fun a w=>¬i<m∧(Below w0.heap.size w0 w∧w.ownsRow w0.heap.size 3 1 (.slice (some ⟨g,0,none⟩) (2 ^ m) (2 ^ m)) (2 ^ m) (bs.map (.int .i64)))∧Fr 87 [(0,.pointer (some ⟨A0,0,none⟩)),(1,.int .i64 (f:Int)),(2,vt),(7,.int .i64 (m:Int)),(8,.slice (some ⟨g,0,none⟩) (2 ^ m) (2 ^ m)),(9,.int .i64 (k:Int)),(10,.int .i64 (wK L k)),(11,.int .i64 (set:Int)),(27,.int .i64 L.length),(28,.int .i64 (k:Int)),(45,.int .i64 (m:Int)),(46,.int .i64 (i:Int))] a) ?_ (T3.skip fun _ _ q=>q) (T3.exit ?_)
  ·rintro a w ⟨q,hF,hq,hW⟩;have he:=hF.eval 47 (by decide) (v:=.bool q) (by simp)
   by_cases hlt:i<m
   ·exact .inl ⟨by rw [he,hq];simp [hlt],hlt,hW,hF.tail⟩
   ·exact .inr ⟨by rw [he,hq];simp [hlt],hlt,hW,hF.tail⟩
  ·rintro a w ⟨hlt,hW,hF⟩;obtain rfl:i=m:=by omega
   exact⟨bs,hI.2,hW,hF.sub (by simp)⟩
 ·exact((lm16 A0 vl vs vt S L tk f m w0 h hp hfm hl ht g k hk bs2 set hset i hi).noX).post (fun a w q=>⟨ng_-1,by omega,i+1,bs2,⟨by omega,hd2⟩,q⟩)
section
variable (hd:DPo (fitK S L) (wK L) f m tk k bs)
include hd
theorem lmM (htk:geta tk (k:Int)=false):T3 Tryz.prog (fun a w=>(Below w0.heap.size w0 w∧w.ownsRow w0.heap.size 3 1 (.slice (some ⟨g,0,none⟩) (2 ^ m) (2 ^ m)) (2 ^ m) (bs.map (.int .i64)))∧Fr 87 [(0,.pointer (some ⟨A0,0,none⟩)),(1,.int .i64 (f:Int)),(2,vt),(7,.int .i64 (m:Int)),(8,.slice (some ⟨g,0,none⟩) (2 ^ m) (2 ^ m)),(9,.int .i64 (k:Int)),(10,.int .i64 (wK L k)),(11,.int .i64 ((2 ^ m-1:Nat):Int)),(27,.int .i64 L.length),(28,.int .i64 (k:Int))] a) (sel [1,1,1,0,1,4,4,1,1,0,4,1,1,1,1] lmP) (fun a w=>∃bs',(DPo (fitK S L) (wK L) f m tk (k+1) bs')∧(Below w0.heap.size w0 w∧w.ownsRow w0.heap.size 3 1 (.slice (some ⟨g,0,none⟩) (2 ^ m) (2 ^ m)) (2 ^ m) (bs'.map (.int .i64)))∧Fr 87 [(0,.pointer (some ⟨A0,0,none⟩)),(1,.int .i64 (f:Int)),(2,vt),(7,.int .i64 (m:Int)),(8,.slice (some ⟨g,0,none⟩) (2 ^ m) (2 ^ m)),(27,.int .i64 L.length),(28,.int .i64 (k:Int))] a) No 9 No:=by
 have hN:=Nat.two_pow_pos m;refine T3.loop (c:=(sel [1,1,1,0,1,4,4,1,1,0,4,1,1,1,1,4,4] lmP)) (fun ng_ a w=>∃(set:Nat) (bs:List Int),(ng_=set∧DPm (fitK S L) (wK L) f m tk k set bs)∧(Below w0.heap.size w0 w∧w.ownsRow w0.heap.size 3 1 (.slice (some ⟨g,0,none⟩) (2 ^ m) (2 ^ m)) (2 ^ m) (bs.map (.int .i64)))∧Fr 87 [(0,.pointer (some ⟨A0,0,none⟩)),(1,.int .i64 (f:Int)),(2,vt),(7,.int .i64 (m:Int)),(8,.slice (some ⟨g,0,none⟩) (2 ^ m) (2 ^ m)),(9,.int .i64 (k:Int)),(10,.int .i64 (wK L k)),(11,.int .i64 (set:Int)),(27,.int .i64 L.length),(28,.int .i64 (k:Int))] a) (fun a w h=>⟨2 ^ m-1,2 ^ m-1,bs,⟨rfl,hd.m_⟩,h⟩) (fun ng_=>T3.ex fun set=>T3.ex fun bs=>T3.pure fun hI=>?_);have hset:=hI.2.lt;refine T3.sq rfl (S:=fun a w=>(0<set)∧(Below w0.heap.size w0 w∧w.ownsRow w0.heap.size 3 1 (.slice (some ⟨g,0,none⟩) (2 ^ m) (2 ^ m)) (2 ^ m) (bs.map (.int .i64)))∧Fr 87 [(0,.pointer (some ⟨A0,0,none⟩)),(1,.int .i64 (f:Int)),(2,vt),(7,.int .i64 (m:Int)),(8,.slice (some ⟨g,0,none⟩) (2 ^ m) (2 ^ m)),(9,.int .i64 (k:Int)),(10,.int .i64 (wK L k)),(11,.int .i64 (set:Int)),(27,.int .i64 L.length),(28,.int .i64 (k:Int))] a) ?_ (T3.pure fun h0=>?_)
 ·refine T3.test (s:=(sel [1,1,1,0,1,4,4,1,1,0,4,1,1,1,1,4,4,0,0] lmP)) (x:=.skip) (y:=.exit 2) (C:=fun q=>(q=decide (0<set))) (W:=fun w=>Below w0.heap.size w0 w∧w.ownsRow w0.heap.size 3 1 (.slice (some ⟨g,0,none⟩) (2 ^ m) (2 ^ m)) (2 ^ m) (bs.map (.int .i64))) (by decide) ((lm9 A0 vl vs vt S L tk f m w0 h hp hfm hl ht g k hk bs set hset).noX) (T3.skip ?_) (T3.exit ?_)
  ·rintro a w ⟨hF,hq,hW⟩;exact⟨of_decide_eq_true hq.symm,hW,hF.tail⟩
  ·rintro a w ⟨hq,hW,hF⟩;obtain rfl:set=0:=by have:=of_decide_eq_false hq.symm;omega
   exact⟨bs,hI.2.o,hW,hF.sub (by simp)⟩
 refine T3.sq rfl (T3.block (id':=3) (c:=(sel [1,1,1,0,1,4,4,1,1,0,4,1,1,1,1,4,4,1,0,4] lmP)) (by decide) (T3.seq (s:=(sel [1,1,1,0,1,4,4,1,1,0,4,1,1,1,1,4,4,1,0,4,0] lmP)) (c:=(sel [1,1,1,0,1,4,4,1,1,0,4,1,1,1,1,4,4,1,0,4,1] lmP)) ((lm11 A0 vl vs vt S L tk f m w0 h hp hfm hl ht g k hk bs set hset).noX) ((lmI A0 vl vs vt S L tk f m w0 h hp hfm hl ht g k hk bs set hset hI.2.i_).noX))) (T3.ex fun bs2=>T3.pure fun hd2=>?_);exact((lm10 A0 vl vs vt S L tk f m w0 h hp hfm hl ht g k hk bs2 set hset h0).noX).post (fun a w q=>⟨set-1,by omega,set-1,bs2,⟨rfl,hd2.m_ h0 htk⟩,q⟩)
theorem lmR:T3 Tryz.prog (fun a w=>(Below w0.heap.size w0 w∧w.ownsRow w0.heap.size 3 1 (.slice (some ⟨g,0,none⟩) (2 ^ m) (2 ^ m)) (2 ^ m) (bs.map (.int .i64)))∧Fr 87 [(0,.pointer (some ⟨A0,0,none⟩)),(1,.int .i64 (f:Int)),(2,vt),(7,.int .i64 (m:Int)),(8,.slice (some ⟨g,0,none⟩) (2 ^ m) (2 ^ m)),(27,.int .i64 L.length),(28,.int .i64 (k:Int))] a) (sel [1,1,1,0,1,4,4,1,1,0] lmP) (fun a w=>∃bs',(DPo (fitK S L) (wK L) f m tk (k+1) bs')∧(Below w0.heap.size w0 w∧w.ownsRow w0.heap.size 3 1 (.slice (some ⟨g,0,none⟩) (2 ^ m) (2 ^ m)) (2 ^ m) (bs'.map (.int .i64)))∧Fr 87 [(0,.pointer (some ⟨A0,0,none⟩)),(1,.int .i64 (f:Int)),(2,vt),(7,.int .i64 (m:Int)),(8,.slice (some ⟨g,0,none⟩) (2 ^ m) (2 ^ m)),(27,.int .i64 L.length),(28,.int .i64 (k:Int))] a) No 9 No:=by
 refine T3.blockX (id:=1) (c:=(sel [1,1,1,0,1,4,4,1,1,0,4] lmP)) ?_;refine T3.sq rfl ((lm5 A0 vl vs vt S L tk f m w0 h hp hfm hl ht g k hk bs).noX) ?_;refine T3.sq rfl (S:=fun a w=>(geta tk (k:Int)=false)∧(Below w0.heap.size w0 w∧w.ownsRow w0.heap.size 3 1 (.slice (some ⟨g,0,none⟩) (2 ^ m) (2 ^ m)) (2 ^ m) (bs.map (.int .i64)))∧Fr 87 [(0,.pointer (some ⟨A0,0,none⟩)),(1,.int .i64 (f:Int)),(2,vt),(7,.int .i64 (m:Int)),(8,.slice (some ⟨g,0,none⟩) (2 ^ m) (2 ^ m)),(9,.int .i64 (k:Int)),(27,.int .i64 L.length),(28,.int .i64 (k:Int))] a) ?_ (T3.pure fun htk=>?_)
 ·refine T3.test (s:=(sel [1,1,1,0,1,4,4,1,1,0,4,1,0,0] lmP)) (x:=.exit 1) (y:=.skip) (C:=fun q=>(q=geta tk (k:Int))) (W:=fun w=>Below w0.heap.size w0 w∧w.ownsRow w0.heap.size 3 1 (.slice (some ⟨g,0,none⟩) (2 ^ m) (2 ^ m)) (2 ^ m) (bs.map (.int .i64))) (by decide) ((lm6 A0 vl vs vt S L tk f m w0 h hp hfm hl ht g k hk bs).noX) (T3.exit ?_) (T3.skip ?_)
  ·rintro a w ⟨hF,hq,hW⟩;exact⟨bs,hd.skip hq.symm,hW,hF.sub (by simp)⟩
  ·rintro a w ⟨hq,hW,hF⟩;exact⟨hq.symm,hW,hF⟩
 refine T3.sq rfl ((lm7 A0 vl vs vt S L tk f m w0 h hp hfm hl ht g k hk bs).noX) ?_;exact T3.sq rfl ((lm8 A0 vl vs vt S L tk f m w0 h hp hfm hl ht g k hk bs).noX) ((lmM A0 vl vs vt S L tk f m w0 h hp hfm hl ht g k hk bs hd htk).noX)
end
end
section
variable (g:Nat)
include g
theorem lmb (k:Int):T3 Tryz.prog (fun a w=>∃(bs:List Int),((0≤k∧k<L.length)∧DPo (fitK S L) (wK L) f m tk (k:Int).toNat bs)∧(Below w0.heap.size w0 w∧w.ownsRow w0.heap.size 3 1 (.slice (some ⟨g,0,none⟩) (2 ^ m) (2 ^ m)) (2 ^ m) (bs.map (.int .i64)))∧Fr 87 [(0,.pointer (some ⟨A0,0,none⟩)),(1,.int .i64 (f:Int)),(2,vt),(7,.int .i64 (m:Int)),(8,.slice (some ⟨g,0,none⟩) (2 ^ m) (2 ^ m)),(27,.int .i64 L.length),(28,.int .i64 k)] a) (sel [1,1,1,0,1,4,4,1,1,0] lmP) (fun a w=>∃(bs:List Int),((0≤k∧k<L.length)∧DPo (fitK S L) (wK L) f m tk (k+1:Int).toNat bs)∧(Below w0.heap.size w0 w∧w.ownsRow w0.heap.size 3 1 (.slice (some ⟨g,0,none⟩) (2 ^ m) (2 ^ m)) (2 ^ m) (bs.map (.int .i64)))∧Fr 87 [(0,.pointer (some ⟨A0,0,none⟩)),(1,.int .i64 (f:Int)),(2,vt),(7,.int .i64 (m:Int)),(8,.slice (some ⟨g,0,none⟩) (2 ^ m) (2 ^ m)),(27,.int .i64 L.length),(28,.int .i64 k)] a) No 9 No:=by
 refine T3.ex fun bs=>T3.pure fun hh=>?_
 obtain⟨kn,rfl⟩:=Int.eq_ofNat_of_zero_le hh.1.1;have hd:=hh.2;rw [Int.toNat_natCast]at hd;refine(lmR A0 vl vs vt S L tk f m w0 h hp hfm hl ht g kn (by omega) bs hd).post ?_;rintro a w ⟨bs2,hd2,hW,hF⟩;exact⟨bs2,⟨hh.1,by rw [show((kn:Int)+1).toNat=kn+1 by omega];exact hd2⟩,hW,hF⟩
def lmAI (A0:Nat)(vl vs vt:Value)(S:List SlD)(L:List ScD)(tk:List Bool)(f m:Nat)(w0:World)(h:BoH w0 A0 vs S vl L)(hp:ScP L)(hfm:SlR f m S.length)(hl:L.length≤6)(ht:TkH w0 vt tk L.length)(g:Nat)(k:Int)(a:Act)(w:World):Prop:=(0≤k∧k≤L.length)∧∃(bs:List Int),(DPo (fitK S L) (wK L) f m tk (k:Int).toNat bs)∧(Below w0.heap.size w0 w∧w.ownsRow w0.heap.size 3 1 (.slice (some ⟨g,0,none⟩) (2 ^ m) (2 ^ m)) (2 ^ m) (bs.map (.int .i64)))∧Fr 87 [(0,.pointer (some ⟨A0,0,none⟩)),(1,.int .i64 (f:Int)),(2,vt),(7,.int .i64 (m:Int)),(8,.slice (some ⟨g,0,none⟩) (2 ^ m) (2 ^ m)),(27,.int .i64 L.length),(28,.int .i64 k)] a
theorem lmAt (k:Int):T3 Tryz.prog (fun a w=>lmAI A0 vl vs vt S L tk f m w0 h hp hfm hl ht g k a w) (sel [1,1,1,0,1,4,4,0] lmP) (fun a w=>∃q,Fr 87 ((29,.bool q)::[(28,.int .i64 k)]) a∧((q=true↔k<L.length)∧lmAI A0 vl vs vt S L tk f m w0 h hp hfm hl ht g k a w)) No 9 No:=by
 refine T3.leaf ?_;rintro Q JS JX JT K hS hK hX hE hT hR a w ⟨hk,bs,hpre,hW,⟨fr,rfl,q0,q1,q2,q7,q8,q27,q28,_⟩⟩;rw [fr_lmP,fe q0,fe q1,fe q2,fe q7,fe q8,fe q27,fe q28];clear q0 q1 q2 q7 q8 q27 q28;conv=>arg 2;whnf
 by_cases hlt:k<L.length
 ·go_wp2_with fail
  refine Met.intro (hS _ _ ?_);exact⟨true,Fr.r rfl rfl,⟨fun _=>hlt,fun _=>rfl⟩,hk,bs,hpre,hW,Fr.r rfl rfl⟩
 ·have hpb:decide (k<(L.length:Int))=false:=by simp;omega
  go_wp2_with fail
  refine Met.intro (hS _ _ ?_);exact⟨false,Fr.r rfl rfl,⟨(fun h=>by cases h),fun h=>absurd h (by omega)⟩,hk,bs,hpre,hW,Fr.r rfl rfl⟩
theorem lmAn (k:Int):T3 Tryz.prog (fun a w=>(0≤k∧k<L.length)∧∃(bs:List Int),(DPo (fitK S L) (wK L) f m tk ((k+1):Int).toNat bs)∧(Below w0.heap.size w0 w∧w.ownsRow w0.heap.size 3 1 (.slice (some ⟨g,0,none⟩) (2 ^ m) (2 ^ m)) (2 ^ m) (bs.map (.int .i64)))∧Fr 87 [(0,.pointer (some ⟨A0,0,none⟩)),(1,.int .i64 (f:Int)),(2,vt),(7,.int .i64 (m:Int)),(8,.slice (some ⟨g,0,none⟩) (2 ^ m) (2 ^ m)),(27,.int .i64 L.length),(28,.int .i64 k)] a) (sel [1,1,1,0,1,4,4,1,1,1] lmP) (fun a w=>lmAI A0 vl vs vt S L tk f m w0 h hp hfm hl ht g (k+1) a w) No 9 No:=by
 refine T3.leaf ?_;rintro Q JS JX JT K hS hK hX hE hT hR a w ⟨hk,bs,hpre,hW,⟨fr,rfl,q0,q1,q2,q7,q8,q27,q28,_⟩⟩;obtain⟨hk0,hk1⟩:=hk;rw [fr_lmP,fe q0,fe q1,fe q2,fe q7,fe q8,fe q27,fe q28];clear q0 q1 q2 q7 q8 q27 q28;conv=>arg 2;whnf
 go_wp2_with fail
 refine Met.intro (hS _ _ ?_);exact⟨⟨by omega,by omega⟩,bs,hpre,hW,Fr.r rfl rfl⟩
theorem lmAloop:T3 Tryz.prog (fun a w=>lmAI A0 vl vs vt S L tk f m w0 h hp hfm hl ht g 0 a w) (sel [1,1,1,0,1] lmP) (fun a w=>∃(bs:List Int),(DPo (fitK S L) (wK L) f m tk L.length bs)∧(Below w0.heap.size w0 w∧w.ownsRow w0.heap.size 3 1 (.slice (some ⟨g,0,none⟩) (2 ^ m) (2 ^ m)) (2 ^ m) (bs.map (.int .i64)))∧Fr 87 [(0,.pointer (some ⟨A0,0,none⟩)),(1,.int .i64 (f:Int)),(2,vt),(7,.int .i64 (m:Int)),(8,.slice (some ⟨g,0,none⟩) (2 ^ m) (2 ^ m))] a) No 9 No :=
 T3.range (I:=lmAI A0 vl vs vt S L tk f m w0 h hp hfm hl ht g) rfl (by decide) (lmAt A0 vl vs vt S L tk f m w0 h hp hfm hl ht g) (lmAn A0 vl vs vt S L tk f m w0 h hp hfm hl ht g) (fun _ _ _ h=>h.1) (fun k hk=>T3.mono (lmb A0 vl vs vt S L tk f m w0 h hp hfm hl ht g k) (fun a w ⟨_,bs,hp,hI⟩=>⟨bs,⟨hk,hp⟩,hI⟩) (fun a w ⟨bs,⟨hk,hp⟩,hI⟩=>⟨hk,bs,hp,hI⟩) (fun _ _ q=>q) (fun _ _ q=>q)) (fun a w hI=>by
  obtain⟨hk,hI⟩:=hI;obtain⟨bs,hd,hW,hF⟩:=hI;rw [Int.toNat_natCast]at hd;exact⟨bs,hd,hW,hF.sub (by simp)⟩)
theorem lm18 (bs:List Int)(hd:DPo (fitK S L) (wK L) f m tk L.length bs):T3 Tryz.prog (fun a w=>(Below w0.heap.size w0 w∧w.ownsRow w0.heap.size 3 1 (.slice (some ⟨g,0,none⟩) (2 ^ m) (2 ^ m)) (2 ^ m) (bs.map (.int .i64)))∧Fr 87 [(0,.pointer (some ⟨A0,0,none⟩)),(1,.int .i64 (f:Int)),(2,vt),(7,.int .i64 (m:Int)),(8,.slice (some ⟨g,0,none⟩) (2 ^ m) (2 ^ m))] a) (sel [1,1,1,1,0] lmP) (fun a w=>(Below w0.heap.size w0 w)∧Fr 87 [(6,.int .i64 (slotV (fitK S L) (wK L) L.length m f (fun j=>geta tk (j:Int))))] a) No 9 No:=by
 refine T3.leaf ?_;rintro Q JS JX JT K hS hK hX hE hT hR a w ⟨hW,⟨fr,rfl,q0,q1,q2,q7,q8,_⟩⟩;obtain⟨hp16,hp1⟩:=pow_le4 hfm.m4;have hlen:=hd.len;have t0:w.cell? ⟨g,2 ^ m-1,none⟩=some (.int .i64 (geti bs ((2 ^ m-1:Nat):Int))):=own_cell hW.2 (by omega);have HQ:=Lib.hid hd.done;obtain⟨qt,ct,rfl⟩:=ht.r.shape;have HW:=Lib.hid hW.1;clear hW h hp hd hlen;generalize slotV (fitK S L) (wK L) L.length m f (fun j=>geta tk (j:Int))=sv at *;generalize geti bs ((2 ^ m-1:Nat):Int)=y0 at *;generalize (2 ^ m:Nat)=N at *;rw [fr_lmP,fe q0,fe q1,fe q2,fe q7,fe q8];clear q0 q1 q2 q7 q8;conv=>arg 2;whnf
 go_wp2_with fail
 rw [HQ.out];refine Met.intro (hS _ _ ?_);exact⟨HW.out,Fr.of _ rfl ⟨rfl,trivial⟩⟩
end
theorem lm_all:T3 Tryz.prog (fun a w=>(Below w0.heap.size w0 w)∧Fr 87 [(0,.pointer (some ⟨A0,0,none⟩)),(1,.int .i64 (f:Int)),(2,vt)] a) lmP No No 9 (fun a w=>(Below w0.heap.size w0 w)∧Fr 87 [(6,.int .i64 (slotV (fitK S L) (wK L) L.length m f (fun j=>geta tk (j:Int))))] a):=by
 refine T3.seq (s:=(sel [0] lmP)) (c:=(sel [1] lmP)) (T3.noT (lm0 A0 vl vs vt S L tk f m w0 h hp hfm hl ht)) ?_;refine T3.sq rfl (T3.noT (lm1 A0 vl vs vt S L tk f m w0 h hp hfm hl ht)) ?_;refine T3.sq rfl (T3.noT (lm2 A0 vl vs vt S L tk f m w0 h hp hfm hl ht)) ?_;refine T3.ex fun g=>?_
 refine T3.sq rfl (T3.noT (T3.seq (s:=(sel [1,1,1,0,0] lmP)) (c:=(sel [1,1,1,0,1] lmP)) (lm3 A0 vl vs vt S L tk f m w0 h hp hfm hl ht g) (lmAloop A0 vl vs vt S L tk f m w0 h hp hfm hl ht g))) ?_;refine T3.ex fun bs=>T3.pure fun hd=>?_
 exact T3.sr rfl (T3.noT (lm18 A0 vl vs vt S L tk f m w0 h hp hfm hl ht g bs hd)) (T3.ret fun a w q=>q)
theorem most_prog:Calls Tryz.prog 88 #[.pointer (some ⟨A0,0,none⟩),.int .i64 (f:Int),vt] w0 fun e w'=>e=.returned (.int .i64 (slotV (fitK S L) (wK L) L.length m f (fun j=>geta tk (j:Int))))∧Below w0.heap.size w0 w':=by
 have hall:=lm_all A0 vl vs vt S L tk f m w0 h hp hfm hl ht;clear h hp
 go_enter Tryz.func88,Tryz.ntmps88
 refine T3.done (s:=lmP) hall ⟨Below.refl _ _,Fr.r rfl rfl⟩ ?_;rintro a w ⟨hb,fr,rfl,q6,_⟩;rw [fr_lmP,fe q6]
 go_ret
 exact⟨rfl,hb⟩
end
end Go.Proofs.YtnmdpphddimfbaaGreat
/-
  Line-ups: right slots and an order that the stream hands out. Conditions: the bounds that each theorem names.
-/
namespace Go.Proofs.YtnmdpphddimfbaaGreat
open Go.RowKit Go.Bw
theorem el_slL:Elem Tryz.prog 26 72 (.agg #[.string ByteArray.empty,.slice none 0 0]) 2 40:=⟨by kernel_rfl,by kernel_rfl,by kernel_rfl,by decide,by decide⟩
/-- Positions that the stream handed out. -/
structure PsO (B M:Nat)(w:World)(v:Value)(ps:List ByteArray):Prop where
 r:RHd 9 B M w ps.length v (cellsOf encSt ps)
 z:SmAll ps
 n:ps.length≤10
/-- Slots that the stream handed out. -/
structure SlO (B b:Nat)(w0:World)(v:Value)(S:List SlD)(w:World):Prop where
 d:Drawn B w0 w b
 hB:B<w0.heap.size
 o:w.ownsRow w0.heap.size 72 2 v S.length (cellsOf encSl S)
 i:∀x∈S,PsO B w.heap.size w x.pv x.ps
 z:∀x∈S,Sm x.key
section
variable {B M M' b b':Nat}{w0 w w':World}{v v':Value}{ps:List ByteArray}{S:List SlD}
theorem PsO.str (h:PsO B M w v ps)(g:w.grownBy w' (some B)):PsO B M w' v ps:=⟨h.r.str g,h.z,h.n⟩
theorem PsO.mono (h:PsO B M w v ps)(hM:M≤M'):PsO B M' w v ps:=⟨h.r.mono hM,h.z,h.n⟩
theorem PsO.other {e':TypeId}{base sz m:Nat}{x:Value}{xs:List Value}(h:PsO B M w v ps)(ho:w.ownsRow base e' sz x m xs)(he:9≠e')(g:w.grownBy w' x.ownBlock):PsO B M w' v ps:=⟨h.r.other ho he g,h.z,h.n⟩
theorem PsO.h (h:PsO B M w v ps):PsH w v ps:=⟨h.r.row,fun s hs=>by have:s.size≤100:=h.z s hs;omega,by have:=h.n;omega⟩
section
variable (h:SlO B b w0 v S w)
include h
theorem SlO.drawn (d:Drawn B w w' b'):SlO B b' w0 v S w':=⟨h.d.trans d,h.hB,owns_drawn h.o d h.hB,fun x hx=>((h.i x hx).str d.gr).mono d.size,h.z⟩
theorem SlO.mono (hb:b≤b'):SlO B b' w0 v S w:=⟨h.d.mono hb,h.hB,h.o,h.i,h.z⟩
theorem SlO.alloc (ob:Obj):SlO B b w0 v S (w.alloc ob):=h.drawn ((Drawn.refl h.d.str).alloc ob)
theorem SlO.app {x:SlD}(hx:PsO B w.heap.size w x.pv x.ps)(hk:Sm x.key)(ho:w'.ownsRow w0.heap.size 72 2 v' (S.length+1) (cellsOf encSl S++[.string x.key,x.pv]))(g:w.grownBy w' v.ownBlock):SlO B b w0 v' (S++[x]) w' :=
 ⟨h.d.app h.o (Nat.le_refl _) h.hB g,h.hB,by rw [cellsOf_snoc,List.length_append];exact ho,
  fun y hy=>by
   rcases List.mem_append.1 hy with hy|hy
   ·exact((h.i y hy).other h.o (by decide) g).mono g.size
   ·simp at hy;subst hy;exact(hx.other h.o (by decide) g).mono g.size,
  fun y hy=>by
   rcases List.mem_append.1 hy with hy|hy
   ·exact h.z y hy
   ·simp at hy;subst hy;exact hk⟩
end
theorem SlO.nil (h:Drawn B w0 w b)(hB:B<w0.heap.size):SlO B b w0 (.slice none 0 0) [] w:=⟨h,hB,World.ownsRow_nil _ _ _ _,fun x hx=>(by cases hx),fun x hx=>(by cases hx)⟩
end
/-- A count. -/
structure CntI (k:Int)(n:Nat):Prop where
 h:(n:Int)=k
/-- So many slots, of few positions each. -/
structure CntS (k:Int)(S:List SlD):Prop where
 h:(S.length:Int)=k
 q:∀x∈S,x.ps.length≤4
/-- Slots to choose from. -/
structure CntR (S:List SlD):Prop where
 h:1≤S.length∧S.length≤4
 q:∀x∈S,x.ps.length≤4
def slkL:List ByteArray:=[⟨#[115,98]⟩,⟨#[115,97]⟩,⟨#[115,99]⟩,⟨#[115,100]⟩]
theorem slkL_sm:SmAll slkL:=by intro s hs;simp [slkL]at hs;rcases hs with rfl|rfl|rfl|rfl <;> decide
theorem owns_firstK {w:World}{base e n g cap k:Nat}{xs:List Value}(h:w.ownsRow base e 1 (.slice (some ⟨g,0,none⟩) n cap) n xs)(hk:k≤n):w.ownsRow base e 1 (.slice (some ⟨g,0,none⟩) k cap) k (xs.take k):=by
 refine⟨by have:=h.1;rw [List.length_take];omega,?_⟩;rcases h.2 with ⟨h0,_⟩|⟨g',cap',cur,hv,hb,hg,hn,hc,hs,ht⟩
 ·cases h0
 ·simp only [Value.slice.injEq,Option.some.injEq,Addr.mk.injEq]at hv;obtain⟨⟨rfl,_⟩,_,rfl⟩:=hv;refine .inr ⟨g,cap,cur,rfl,hb,hg,by omega,hc,hs,?_⟩;rw [←ht,List.take_take]
  congr 1
  omega
noncomputable def rsM:Code:=(Tryz.f36.body).getD .skip
theorem fr_rsM (f:Nat→Value):frame 24 f=⟨#[f 0,f 1,f 2,f 3,f 4,f 5,f 6,f 7,f 8,f 9,f 10,f 11,f 12,f 13,f 14,f 15,f 16,f 17,f 18,f 19,f 20,f 21,f 22,f 23],[]⟩:=by rfl
section
variable (B b:Nat)(w0:World)(hb:b≤50000)
include B w0 hb
theorem rs0:T3 Tryz.prog (fun a w=>(Str B w b∧IsW w0 w)∧Fr 24 [(0,.pointer (some ⟨B,0,none⟩))] a) (sel [0] rsM) (fun a w=>(Str B w b∧IsW w0 w)∧Fr 24 [(0,.pointer (some ⟨B,0,none⟩))] a) No 9 No:=by
 refine T3.leaf ?_;rintro Q JS JX JT K hS hK hX hE hT hR a w ⟨hW,⟨fr,rfl,q0,_⟩⟩;rw [fr_rsM,fe q0];clear q0;conv=>arg 2;whnf
 go_wp2_with fail
 refine Met.intro (hS _ _ ?_);exact⟨hW,Fr.of _ rfl ⟨rfl,trivial⟩⟩
theorem rs1:T3 Tryz.prog (fun a w=>(Str B w b∧IsW w0 w)∧Fr 24 [(0,.pointer (some ⟨B,0,none⟩))] a) (sel [1,0] rsM) (fun a w=>(Str B w b∧IsW w0 w)∧Fr 24 [(0,.pointer (some ⟨B,0,none⟩)),(3,.slice none 0 0)] a) No 9 No:=by
 refine T3.leaf ?_;rintro Q JS JX JT K hS hK hX hE hT hR a w ⟨hW,⟨fr,rfl,q0,_⟩⟩;rw [fr_rsM,fe q0];clear q0;conv=>arg 2;whnf
 go_wp2_with fail
 refine Met.intro (hS _ _ ?_);exact⟨hW,Fr.r rfl rfl⟩
theorem rs2:T3 Tryz.prog (fun a w=>(Str B w b∧IsW w0 w)∧Fr 24 [(0,.pointer (some ⟨B,0,none⟩)),(3,.slice none 0 0)] a) (sel [1,1,0,0] rsM) (fun a w=>∃(r:Nat) (v9:Value),(1≤r∧r≤4)∧((0≤(0:Int)∧(0:Int)≤r)∧∃(v3:Value) (S:List SlD),(CntS 0 S)∧(SlO B (b+1+5*(0:Int).toNat) w0 v3 S w∧RHd 9 B w.heap.size w r v9 (cellsOf encSt (slkL.take r)))∧Fr 24 [(0,.pointer (some ⟨B,0,none⟩)),(3,v3),(9,v9),(10,.int .i64 r),(11,.int .i64 0)] a)) No 9 No:=by
 refine T3.leaf ?_;rintro Q JS JX JT K hS hK hX hE hT hR a w ⟨⟨hS_,hW⟩,⟨fr,rfl,q0,q3,_⟩⟩;obtain rfl:w=w0:=hW;have hlt:=hS_.lt;have hO:=owns_lit w w.heap.size 9 #[.string ⟨#[115,98]⟩,.string ⟨#[115,97]⟩,.string ⟨#[115,99]⟩,.string ⟨#[115,100]⟩] 4 (by decide) rfl (Nat.le_refl _);have HD:=Lib.hid ((Drawn.refl hS_).alloc (.cells #[.string ⟨#[115,98]⟩,.string ⟨#[115,97]⟩,.string ⟨#[115,99]⟩,.string ⟨#[115,100]⟩] 9));have HH:=Lib.hid hO;have hS2:=hS_.alloc (.cells #[.string ⟨#[115,98]⟩,.string ⟨#[115,97]⟩,.string ⟨#[115,99]⟩,.string ⟨#[115,100]⟩] 9);clear hO;rw [fr_rsM,fe q0,fe q3];clear q0 q3;conv=>arg 2;whnf
 go_wp2_with fail
 refine(range_d B b 1 4 _ hS2 (by decide) (by omega)).mono ?_;rintro e w1 ⟨r0,rfl,⟨hr1,hr4⟩,hd⟩;obtain⟨r,rfl⟩:∃r:Nat,r0=r:=⟨r0.toNat,by omega⟩
 have hSl:SlO B (b+1) w (.slice none 0 0) [] w1:=SlO.nil (HD.out.trans hd) hlt;have hHe:=RHd.of_owns (owns_firstK (owns_str HH.out hd.gr hlt) (show r≤4 by omega)) hlt;have HF:=Lib.hid (show SlO B (b+1+5*(0:Int).toNat) w (.slice none 0 0) [] w1∧RHd 9 B w1.heap.size w1 r (.slice (some ⟨w.heap.size,0,none⟩) r 4) (cellsOf encSt (slkL.take r))from⟨hSl,by rw [cells_map,List.map_take,←cells_map];exact hHe⟩);clear hSl hHe hd HD HH hS2;go_wp2_with fail
 refine Met.intro (hS _ _ ?_);exact⟨r,_,⟨by omega,by omega⟩,⟨by omega,by omega⟩,_,[],⟨by simp,fun x hx=>by cases hx⟩,HF.out,Fr.r rfl rfl⟩
end
section
variable (B b:Nat)(w0:World)(hb:b≤50000)(r:Nat)(v9:Value)(hr:1≤r∧r≤4)
include B w0 hb v9 hr
section
variable (k:Int)
include k
theorem rs4:T3 Tryz.prog (fun a w=>∃(v3:Value) (S:List SlD),((0≤k∧k<r)∧CntS k S)∧(SlO B (b+1+5*(k:Int).toNat) w0 v3 S w∧RHd 9 B w.heap.size w r v9 (cellsOf encSt (slkL.take r)))∧Fr 24 [(0,.pointer (some ⟨B,0,none⟩)),(3,v3),(9,v9),(10,.int .i64 r),(11,.int .i64 k)] a) (sel [1,1,0,1,4,4,1,1,0,4,0] rsM) (fun a w=>∃(v3:Value) (S:List SlD),((0≤k∧k<r)∧CntS k S)∧(SlO B (b+1+5*(k:Int).toNat) w0 v3 S w∧RHd 9 B w.heap.size w r v9 (cellsOf encSt (slkL.take r)))∧Fr 24 [(0,.pointer (some ⟨B,0,none⟩)),(3,v3),(5,.string (geta slkL k)),(9,v9),(10,.int .i64 r),(11,.int .i64 k)] a) No 9 No:=by
 refine T3.leaf ?_;rintro Q JS JX JT K hS hK hX hE hT hR a w ⟨v3,S,hpre,hW,⟨fr,rfl,q0,q3,q9,q10,q11,_⟩⟩;have hpp:=Lib.hid hpre;obtain⟨⟨hk0,hk1⟩,hl⟩:=hpre;have HW:=Lib.hid hW;obtain⟨hlen,hcs⟩:=hW.2.row.els encSt_length (by decide);have e1:geta (slkL.take r) k=geta slkL k:=by
  unfold geta;rw [List.getElem?_take_of_lt (by omega)]
 obtain⟨p3,c3,rfl⟩:=(Row.of_owns hW.1.o).shape;rcases hcs with ⟨rfl,h0⟩|⟨bz,off,cap,rfl,_,hbz,hnc,hcm,hcell⟩
 ·omega
 have t0:=hcell k hk0 (by omega) 0 _ rfl;rw [Nat.mul_one,Nat.add_zero,e1]at t0;clear hcell hW hlen e1;generalize geta slkL k=x at *;rw [fr_rsM,fe q0,fe q3,fe q9,fe q10,fe q11];clear q0 q3 q9 q10 q11;conv=>arg 2;whnf
 go_wp2_with fail
 refine Met.intro (hS _ _ ?_);exact⟨_,S,hpp.out,HW.out,Fr.r rfl rfl⟩
theorem rs5 (v3:Value)(S:List SlD):T3 Tryz.prog (fun a w=>((0≤k∧k<r)∧CntS k S)∧(SlO B (b+1+5*(k:Int).toNat) w0 v3 S w∧RHd 9 B w.heap.size w r v9 (cellsOf encSt (slkL.take r)))∧Fr 24 [(0,.pointer (some ⟨B,0,none⟩)),(3,v3),(5,.string (geta slkL k)),(9,v9),(10,.int .i64 r),(11,.int .i64 k)] a) (sel [1,1,0,1,4,4,1,1,0,4,1] rsM) (fun a w=>∃(v3:Value) (S:List SlD),((0≤k∧k<r)∧CntS (k+1) S)∧(SlO B (b+1+5*((k+1):Int).toNat) w0 v3 S w∧RHd 9 B w.heap.size w r v9 (cellsOf encSt (slkL.take r)))∧Fr 24 [(0,.pointer (some ⟨B,0,none⟩)),(3,v3),(9,v9),(10,.int .i64 r),(11,.int .i64 k)] a) No 9 No:=by
 refine T3.leaf ?_;rintro Q JS JX JT K hS hK hX hE hT hR a w ⟨hpre,hW,⟨fr,rfl,q0,q3,q5,q9,q10,q11,_⟩⟩;have hpp:=Lib.hid hpre;obtain⟨⟨hk0,hk1⟩,hl⟩:=hpre;have hl4:S.length≤4:=by have:=hl.h;omega
 clear hl;have hE:=el_slL;have hkx:=slkL_sm _ (geta_mem (l:=slkL) (i:=k) hk0 (by simp [slkL];omega));have hW1:=hW.1;have hW2:=hW.2;obtain⟨p9,c9,rfl⟩:=hW2.row.shape;obtain⟨p3,c3,rfl⟩:=(Row.of_owns hW.1.o).shape;clear hW;generalize geta slkL k=x at *;rw [fr_rsM,fe q0,fe q3,fe q5,fe q9,fe q10,fe q11];clear q0 q3 q5 q9 q10 q11;conv=>arg 2;whnf
 go_wp2_with fail
 refine(spots_any B (b+1+5*k.toNat) w hW1.d.str (by omega)).mono ?_;rintro e w1 ⟨pv,ps,rfl,hn4,hsm,hop,hd⟩;have h1:=hW1.drawn hd;have hH1:=(hW2.str hd.gr).mono hd.size;have hBw:B<w.heap.size:=by have:=hW1.hB;have:=hW1.d.size;omega
 have hps:PsO B w1.heap.size w1 pv ps:=⟨RHd.of_owns hop hBw,hsm,by omega⟩
 obtain⟨pp,cc,rfl⟩:=(Row.of_owns hop).shape;have hz1:=h1.d.size;clear hd hop hW1 hW2;go_wp2_with (at_builtin;refine app_law rfl _ _ _ rfl hE (h1.o.alloc _) rfl [.string x,.slice pp ps.length cc] rfl rfl (cells_new w1 #[_,_] _) (by simp [Value.oneCell']) (by omega) (by simp;omega) ?_;intro v' w2 hown2 hgr2)
 have hps2:=(hps.str (World.grownBy_alloc w1 (.cells #[.string x,.slice pp ps.length cc] 72) (some B))).mono (show w1.heap.size≤(w1.alloc (.cells #[.string x,.slice pp ps.length cc] 72)).heap.size by simp);have h2:=(h1.alloc _).app (x:=⟨x,.slice pp ps.length cc,ps⟩) hps2 hkx hown2 hgr2;have hH2:=((hH1.alloc (.cells #[.string x,.slice pp ps.length cc] 72)).other (h1.alloc _).o (by decide) hgr2).mono (show w1.heap.size≤w2.heap.size by have:=hgr2.size;simp at this;omega);refine Met.intro (hS _ _ ?_);exact⟨_,_,⟨hpp.out.1,⟨by have:=hpp.out.2.h;simp;omega,fun y hy=>by rcases List.mem_append.1 hy with hy|hy;exact hpp.out.2.q y hy;simp at hy;subst hy;exact hn4⟩⟩,⟨h2.mono (by omega),hH2⟩,Fr.r rfl rfl⟩
theorem rsb:T3 Tryz.prog (fun a w=>∃(v3:Value) (S:List SlD),((0≤k∧k<r)∧CntS k S)∧(SlO B (b+1+5*(k:Int).toNat) w0 v3 S w∧RHd 9 B w.heap.size w r v9 (cellsOf encSt (slkL.take r)))∧Fr 24 [(0,.pointer (some ⟨B,0,none⟩)),(3,v3),(9,v9),(10,.int .i64 r),(11,.int .i64 k)] a) (sel [1,1,0,1,4,4,1,1,0] rsM) (fun a w=>∃(v3:Value) (S:List SlD),((0≤k∧k<r)∧CntS (k+1) S)∧(SlO B (b+1+5*((k+1):Int).toNat) w0 v3 S w∧RHd 9 B w.heap.size w r v9 (cellsOf encSt (slkL.take r)))∧Fr 24 [(0,.pointer (some ⟨B,0,none⟩)),(3,v3),(9,v9),(10,.int .i64 r),(11,.int .i64 k)] a) No 9 No:=T3.block (id':=1) (c:=(sel [1,1,0,1,4,4,1,1,0,4] rsM)) (by decide) (T3.seq (s:=(sel [1,1,0,1,4,4,1,1,0,4,0] rsM)) (c:=(sel [1,1,0,1,4,4,1,1,0,4,1] rsM)) (rs4 B b w0 hb r v9 hr k) (T3.ex fun v3=>T3.ex fun S=>rs5 B b w0 hb r v9 hr k v3 S))
def rsAI (B b:Nat)(w0:World)(hb:b≤50000)(r:Nat)(v9:Value)(hr:1≤r∧r≤4)(k:Int)(a:Act)(w:World):Prop:=(0≤k∧k≤r)∧∃(v3:Value) (S:List SlD),(CntS k S)∧(SlO B (b+1+5*(k:Int).toNat) w0 v3 S w∧RHd 9 B w.heap.size w r v9 (cellsOf encSt (slkL.take r)))∧Fr 24 [(0,.pointer (some ⟨B,0,none⟩)),(3,v3),(9,v9),(10,.int .i64 r),(11,.int .i64 k)] a
theorem rsAt:T3 Tryz.prog (fun a w=>rsAI B b w0 hb r v9 hr k a w) (sel [1,1,0,1,4,4,0] rsM) (fun a w=>∃q,Fr 24 ((12,.bool q)::[(11,.int .i64 k)]) a∧((q=true↔k<r)∧rsAI B b w0 hb r v9 hr k a w)) No 9 No:=by
 refine T3.leaf ?_;rintro Q JS JX JT K hS hK hX hE hT hR a w ⟨hk,v3,S,hpre,hW,⟨fr,rfl,q0,q3,q9,q10,q11,_⟩⟩;have hr4:=hr.2;rw [fr_rsM,fe q0,fe q3,fe q9,fe q10,fe q11];clear q0 q3 q9 q10 q11;conv=>arg 2;whnf
 by_cases hlt:k<r
 ·go_wp2_with fail
  refine Met.intro (hS _ _ ?_);exact⟨true,Fr.r rfl rfl,⟨fun _=>hlt,fun _=>rfl⟩,hk,v3,S,hpre,hW,Fr.r rfl rfl⟩
 ·have hpb:decide (k<(r))=false:=by simp;omega
  go_wp2_with fail
  refine Met.intro (hS _ _ ?_);exact⟨false,Fr.r rfl rfl,⟨(fun h=>by cases h),fun h=>absurd h (by omega)⟩,hk,v3,S,hpre,hW,Fr.r rfl rfl⟩
theorem rsAn:T3 Tryz.prog (fun a w=>(0≤k∧k<r)∧∃(v3:Value) (S:List SlD),(CntS (k+1) S)∧(SlO B (b+1+5*((k+1):Int).toNat) w0 v3 S w∧RHd 9 B w.heap.size w r v9 (cellsOf encSt (slkL.take r)))∧Fr 24 [(0,.pointer (some ⟨B,0,none⟩)),(3,v3),(9,v9),(10,.int .i64 r),(11,.int .i64 k)] a) (sel [1,1,0,1,4,4,1,1,1] rsM) (fun a w=>rsAI B b w0 hb r v9 hr (k+1) a w) No 9 No:=by
 refine T3.leaf ?_;rintro Q JS JX JT K hS hK hX hE hT hR a w ⟨hk,v3,S,hpre,hW,⟨fr,rfl,q0,q3,q9,q10,q11,_⟩⟩;obtain⟨hk0,hk1⟩:=hk;have hr4:=hr.2;rw [fr_rsM,fe q0,fe q3,fe q9,fe q10,fe q11];clear q0 q3 q9 q10 q11;conv=>arg 2;whnf
 go_wp2_with fail
 refine Met.intro (hS _ _ ?_);exact⟨⟨by omega,by omega⟩,v3,S,hpre,hW,Fr.r rfl rfl⟩
end
theorem rsAloop:T3 Tryz.prog (fun a w=>rsAI B b w0 hb r v9 hr 0 a w) (sel [1,1,0,1] rsM) (fun a w=>∃(v3:Value) (S:List SlD),(CntR S)∧(SlO B (b+21) w0 v3 S w)∧Fr 24 [(3,v3)] a) No 9 No :=
 T3.range (I:=rsAI B b w0 hb r v9 hr) rfl (by decide) (rsAt B b w0 hb r v9 hr) (rsAn B b w0 hb r v9 hr) (fun _ _ _ h=>h.1) (fun k hk=>T3.mono (rsb B b w0 hb r v9 hr k) (fun a w ⟨_,v3,S,hp,hI⟩=>⟨v3,S,⟨hk,hp⟩,hI⟩) (fun a w ⟨v3,S,⟨hk,hp⟩,hI⟩=>⟨hk,v3,S,hp,hI⟩) (fun _ _ q=>q) (fun _ _ q=>q)) (fun a w hI=>by
  obtain⟨hk,hI⟩:=hI;obtain⟨v3,S,hl,hW,hF⟩:=hI;exact⟨v3,S,⟨⟨by have:=hl.h;omega,by have:=hl.h;omega⟩,hl.q⟩,hW.1.mono (by omega),hF.sub (by simp)⟩)
end
section
variable (B b:Nat)(w0:World)
include B b w0
theorem rs7 (v3:Value)(S:List SlD):T3 Tryz.prog (fun a w=>(SlO B (b+21) w0 v3 S w)∧Fr 24 [(3,v3)] a) (sel [1,1,1,0] rsM) (fun a w=>(SlO B (b+21) w0 v3 S w)∧Fr 24 [(2,v3)] a) No 9 No:=by
 refine T3.leaf ?_;rintro Q JS JX JT K hS hK hX hE hT hR a w ⟨hW,⟨fr,rfl,q3,_⟩⟩;have HW:=Lib.hid hW;obtain⟨p3,c3,rfl⟩:=(Row.of_owns hW.o).shape;clear hW;rw [fr_rsM,fe q3];clear q3;conv=>arg 2;whnf
 go_wp2_with fail
 refine Met.intro (hS _ _ ?_);exact⟨HW.out,Fr.of _ rfl ⟨rfl,trivial⟩⟩
theorem rs_all (hb:b≤50000):T3 Tryz.prog (fun a w=>(Str B w b∧IsW w0 w)∧Fr 24 [(0,.pointer (some ⟨B,0,none⟩))] a) rsM No No 9 (fun a w=>∃(v3:Value) (S:List SlD),(CntR S)∧(SlO B (b+21) w0 v3 S w)∧Fr 24 [(2,v3)] a):=by
 refine T3.seq (s:=(sel [0] rsM)) (c:=(sel [1] rsM)) (T3.noT (rs0 B b w0 hb)) ?_;refine T3.sq rfl (T3.noT (rs1 B b w0 hb)) ?_;refine T3.sq rfl (T3.noT (T3.seq (s:=(sel [1,1,0,0] rsM)) (c:=(sel [1,1,0,1] rsM)) (rs2 B b w0 hb) (T3.ex fun r=>T3.ex fun v9=>T3.pure fun hr=>rsAloop B b w0 hb r v9 hr))) ?_;refine T3.ex fun v3=>T3.ex fun S=>T3.pure fun hn=>?_
 exact T3.sr rfl (T3.noT (rs7 B b w0 v3 S)) (T3.ret fun a w q=>⟨v3,S,hn,q⟩)
theorem rightSlots_any (hS:Str B w0 b)(hb:b≤50000):Calls Tryz.prog 36 #[.pointer (some ⟨B,0,none⟩)] w0 fun e w'=>∃(v3:Value) (S:List SlD),e=.returned v3∧CntR S∧SlO B (b+21) w0 v3 S w':=by
 have hall:=rs_all B b w0 hb
 go_enter Tryz.func36,Tryz.ntmps36
 refine T3.done (s:=rsM) hall ⟨⟨hS,rfl⟩,Fr.of _ rfl ⟨rfl,trivial⟩⟩ ?_;rintro a w ⟨v3,S,hn,hW,fr,rfl,q2,_⟩;rw [fr_rsM,fe q2]
 go_ret
 exact⟨v3,S,rfl,hn,hW⟩
end
end Go.Proofs.YtnmdpphddimfbaaGreat
/-
  Line-ups: right scorers that the stream hands out. Conditions: the bounds that each theorem names.
-/
namespace Go.Proofs.YtnmdpphddimfbaaGreat
open Go.RowKit Go.Bw
theorem el_scL:Elem Tryz.prog 28 77 (.agg #[.string ByteArray.empty,.slice none 0 0,.int .i64 0,.int .i64 0,.bool false]) 5 64:=⟨by kernel_rfl,by kernel_rfl,by kernel_rfl,by decide,by decide⟩
/-- A scorer's numbers lie within Go's. -/
structure NuO (x:ScD):Prop where
 n:-9223372036854775808≤x.num∧x.num≤9223372036854775807
 d:-9223372036854775808≤x.den∧x.den≤9223372036854775807
/-- Scorers that the stream handed out. -/
structure ScO (B b:Nat)(w0:World)(v:Value)(L:List ScD)(w:World):Prop where
 d:Drawn B w0 w b
 hB:B<w0.heap.size
 o:w.ownsRow w0.heap.size 77 5 v L.length (cellsOf encSc L)
 i:∀x∈L,PsO B w.heap.size w x.pv x.ps
 z:∀x∈L,Sm x.pl
 m:∀x∈L,NuO x
section
variable {M M' B b b':Nat}{w0 w w':World}{v v':Value}{L:List ScD}
section
variable (h:ScO B b w0 v L w)
include h
theorem ScO.drawn (d:Drawn B w w' b'):ScO B b' w0 v L w':=⟨h.d.trans d,h.hB,owns_drawn h.o d h.hB,fun x hx=>((h.i x hx).str d.gr).mono d.size,h.z,h.m⟩
theorem ScO.mono (hb:b≤b'):ScO B b' w0 v L w:=⟨h.d.mono hb,h.hB,h.o,h.i,h.z,h.m⟩
theorem ScO.alloc (ob:Obj):ScO B b w0 v L (w.alloc ob):=h.drawn ((Drawn.refl h.d.str).alloc ob)
theorem ScO.below (g:Below w.heap.size w w'):ScO B b w0 v L w':=h.drawn ((Drawn.refl h.d.str).below g)
theorem ScO.app {x:ScD}(hx:PsO B w.heap.size w x.pv x.ps)(hk:Sm x.pl)(hm:NuO x)(ho:w'.ownsRow w0.heap.size 77 5 v' (L.length+1) (cellsOf encSc L++[.string x.pl,x.pv,.int .i64 x.num,.int .i64 x.den,.bool x.pd]))(g:w.grownBy w' v.ownBlock):ScO B b w0 v' (L++[x]) w' :=
 ⟨h.d.app h.o (Nat.le_refl _) h.hB g,h.hB,by rw [cellsOf_snoc,List.length_append];exact ho,
  fun y hy=>by
   rcases List.mem_append.1 hy with hy|hy
   ·exact((h.i y hy).other h.o (by decide) g).mono g.size
   ·simp at hy;subst hy;exact(hx.other h.o (by decide) g).mono g.size,
  fun y hy=>by
   rcases List.mem_append.1 hy with hy|hy
   ·exact h.z y hy
   ·simp at hy;subst hy;exact hk,
  fun y hy=>by
   rcases List.mem_append.1 hy with hy|hy
   ·exact h.m y hy
   ·simp at hy;subst hy;exact hm⟩
end
theorem ScO.nil (h:Drawn B w0 w b)(hB:B<w0.heap.size):ScO B b w0 (.slice none 0 0) [] w:=⟨h,hB,World.ownsRow_nil _ _ _ _,fun x hx=>(by cases hx),fun x hx=>(by cases hx),fun x hx=>(by cases hx)⟩
end
/-- At most so many. -/
structure LeI (k:Int)(n:Nat):Prop where
 h:(n:Int)≤k
def nmL:List ByteArray:=[⟨#[97,110,110]⟩,⟨#[98,101,97]⟩,⟨#[99,105,100]⟩,⟨#[100,97,110]⟩,⟨#[101,118,101]⟩,⟨#[102,111,120]⟩]
theorem nmL_sm:SmAll nmL:=by intro s hs;simp [nmL]at hs;rcases hs with rfl|rfl|rfl|rfl|rfl|rfl <;> decide
theorem ofH_small {n:Int}(h:n∈[500,500,700,650,0,-100,1040]):-1000000000000000≤n∧n≤1000000000000000:=by
 simp at h;omega
noncomputable def rcM:Code:=(Tryz.f40.body).getD .skip
theorem fr_rcM (f:Nat→Value):frame 31 f=⟨#[f 0,f 1,f 2,f 3,f 4,f 5,f 6,f 7,f 8,f 9,f 10,f 11,f 12,f 13,f 14,f 15,f 16,f 17,f 18,f 19,f 20,f 21,f 22,f 23,f 24,f 25,f 26,f 27,f 28,f 29,f 30],[]⟩:=by rfl
section
variable (B b:Nat)(w0:World)(hb:b≤50000)
include B w0 hb
theorem rc0:T3 Tryz.prog (fun a w=>(Str B w b∧IsW w0 w)∧Fr 31 [(0,.pointer (some ⟨B,0,none⟩))] a) (sel [0] rcM) (fun a w=>(Str B w b∧IsW w0 w)∧Fr 31 [(0,.pointer (some ⟨B,0,none⟩))] a) No 9 No:=by
 refine T3.leaf ?_;rintro Q JS JX JT K hS hK hX hE hT hR a w ⟨hW,⟨fr,rfl,q0,_⟩⟩;rw [fr_rcM,fe q0];clear q0;conv=>arg 2;whnf
 go_wp2_with fail
 refine Met.intro (hS _ _ ?_);exact⟨hW,Fr.of _ rfl ⟨rfl,trivial⟩⟩
theorem rc1:T3 Tryz.prog (fun a w=>(Str B w b∧IsW w0 w)∧Fr 31 [(0,.pointer (some ⟨B,0,none⟩))] a) (sel [1,0] rcM) (fun a w=>(Str B w b∧IsW w0 w)∧Fr 31 [(0,.pointer (some ⟨B,0,none⟩)),(3,.slice none 0 0)] a) No 9 No:=by
 refine T3.leaf ?_;rintro Q JS JX JT K hS hK hX hE hT hR a w ⟨hW,⟨fr,rfl,q0,_⟩⟩;rw [fr_rcM,fe q0];clear q0;conv=>arg 2;whnf
 go_wp2_with fail
 refine Met.intro (hS _ _ ?_);exact⟨hW,Fr.r rfl rfl⟩
theorem rc2:T3 Tryz.prog (fun a w=>(Str B w b∧IsW w0 w)∧Fr 31 [(0,.pointer (some ⟨B,0,none⟩)),(3,.slice none 0 0)] a) (sel [1,1,0,0] rcM) (fun a w=>(0≤(0:Int)∧(0:Int)≤6)∧∃(v3:Value) (L:List ScD),(LeI 0 L.length)∧(ScO B (b+8*(0:Int).toNat) w0 v3 L w∧RHd 9 B w.heap.size w 6 (.slice (some ⟨w0.heap.size,0,none⟩) 6 6) (cellsOf encSt nmL))∧Fr 31 [(0,.pointer (some ⟨B,0,none⟩)),(3,v3),(6,.slice (some ⟨w0.heap.size,0,none⟩) 6 6),(7,.int .i64 6),(8,.int .i64 0)] a) No 9 No:=by
 refine T3.leaf ?_;rintro Q JS JX JT K hS hK hX hE hT hR a w ⟨⟨hS_,hW⟩,⟨fr,rfl,q0,q3,_⟩⟩;obtain rfl:w=w0:=hW;have hlt:=hS_.lt;have hO:=owns_lit w w.heap.size 9 #[.string ⟨#[97,110,110]⟩,.string ⟨#[98,101,97]⟩,.string ⟨#[99,105,100]⟩,.string ⟨#[100,97,110]⟩,.string ⟨#[101,118,101]⟩,.string ⟨#[102,111,120]⟩] 6 (by decide) rfl (Nat.le_refl _);have hSl:ScO B (b+8*(0:Int).toNat) w (.slice none 0 0) [] (w.alloc (.cells #[.string ⟨#[97,110,110]⟩,.string ⟨#[98,101,97]⟩,.string ⟨#[99,105,100]⟩,.string ⟨#[100,97,110]⟩,.string ⟨#[101,118,101]⟩,.string ⟨#[102,111,120]⟩] 9)):=ScO.nil (((Drawn.refl hS_).alloc (.cells #[.string ⟨#[97,110,110]⟩,.string ⟨#[98,101,97]⟩,.string ⟨#[99,105,100]⟩,.string ⟨#[100,97,110]⟩,.string ⟨#[101,118,101]⟩,.string ⟨#[102,111,120]⟩] 9)).mono (by simp)) hlt;have hHe:=RHd.of_owns hO hlt;have HF:=Lib.hid (show ScO B (b+8*(0:Int).toNat) w (.slice none 0 0) [] (w.alloc (.cells #[.string ⟨#[97,110,110]⟩,.string ⟨#[98,101,97]⟩,.string ⟨#[99,105,100]⟩,.string ⟨#[100,97,110]⟩,.string ⟨#[101,118,101]⟩,.string ⟨#[102,111,120]⟩] 9))∧RHd 9 B (w.alloc (.cells #[.string ⟨#[97,110,110]⟩,.string ⟨#[98,101,97]⟩,.string ⟨#[99,105,100]⟩,.string ⟨#[100,97,110]⟩,.string ⟨#[101,118,101]⟩,.string ⟨#[102,111,120]⟩] 9)).heap.size (w.alloc (.cells #[.string ⟨#[97,110,110]⟩,.string ⟨#[98,101,97]⟩,.string ⟨#[99,105,100]⟩,.string ⟨#[100,97,110]⟩,.string ⟨#[101,118,101]⟩,.string ⟨#[102,111,120]⟩] 9)) 6 (.slice (some ⟨w.heap.size,0,none⟩) 6 6) (cellsOf encSt nmL)from⟨hSl,hHe⟩);clear hSl hHe hO;rw [fr_rcM,fe q0,fe q3];clear q0 q3;conv=>arg 2;whnf
 go_wp2_with fail
 refine Met.intro (hS _ _ ?_);exact⟨⟨by omega,by omega⟩,_,[],⟨by simp⟩,HF.out,Fr.r rfl rfl⟩
section
variable (k:Int)
include k
theorem rc4:T3 Tryz.prog (fun a w=>∃(v3:Value) (L:List ScD),((0≤k∧k<6)∧LeI k L.length)∧(ScO B (b+8*(k:Int).toNat) w0 v3 L w∧RHd 9 B w.heap.size w 6 (.slice (some ⟨w0.heap.size,0,none⟩) 6 6) (cellsOf encSt nmL))∧Fr 31 [(0,.pointer (some ⟨B,0,none⟩)),(3,v3),(6,.slice (some ⟨w0.heap.size,0,none⟩) 6 6),(7,.int .i64 6),(8,.int .i64 k)] a) (sel [1,1,0,1,4,4,1,1,0,4,0] rcM) (fun a w=>∃(v3:Value) (L:List ScD),((0≤k∧k<6)∧LeI k L.length)∧(ScO B (b+8*(k:Int).toNat) w0 v3 L w∧RHd 9 B w.heap.size w 6 (.slice (some ⟨w0.heap.size,0,none⟩) 6 6) (cellsOf encSt nmL))∧Fr 31 [(0,.pointer (some ⟨B,0,none⟩)),(3,v3),(5,.string (geta nmL k)),(6,.slice (some ⟨w0.heap.size,0,none⟩) 6 6),(7,.int .i64 6),(8,.int .i64 k)] a) No 9 No:=by
 refine T3.leaf ?_;rintro Q JS JX JT K hS hK hX hE hT hR a w ⟨v3,L,hpre,hW,⟨fr,rfl,q0,q3,q6,q7,q8,_⟩⟩;have hpp:=Lib.hid hpre;obtain⟨⟨hk0,hk1⟩,hl⟩:=hpre;have HW:=Lib.hid hW;obtain⟨hlen,hcs⟩:=hW.2.row.els encSt_length (by decide);obtain⟨p3,c3,rfl⟩:=(Row.of_owns hW.1.o).shape;rcases hcs with ⟨h9,h0⟩|⟨bz,off,cap,hv,_,hbz,hnc,hcm,hcell⟩
 ·cases h9
 simp only [Value.slice.injEq,Option.some.injEq,Addr.mk.injEq]at hv;obtain⟨⟨rfl,rfl,_⟩,_,rfl⟩:=hv;have t0:=hcell k hk0 (by omega) 0 _ rfl;rw [Nat.mul_one,Nat.add_zero,Nat.zero_add]at t0;clear hcell hW hlen;generalize geta nmL k=x at *;rw [fr_rcM,fe q0,fe q3,fe q6,fe q7,fe q8];clear q0 q3 q6 q7 q8;conv=>arg 2;whnf
 go_wp2_with fail
 refine Met.intro (hS _ _ ?_);exact⟨_,L,hpp.out,HW.out,Fr.r rfl rfl⟩
theorem rc5 (v3:Value)(L:List ScD):T3 Tryz.prog (fun a w=>((0≤k∧k<6)∧LeI k L.length)∧(ScO B (b+8*(k:Int).toNat) w0 v3 L w∧RHd 9 B w.heap.size w 6 (.slice (some ⟨w0.heap.size,0,none⟩) 6 6) (cellsOf encSt nmL))∧Fr 31 [(0,.pointer (some ⟨B,0,none⟩)),(3,v3),(5,.string (geta nmL k)),(6,.slice (some ⟨w0.heap.size,0,none⟩) 6 6),(7,.int .i64 6),(8,.int .i64 k)] a) (sel [1,1,0,1,4,4,1,1,0,4,1,0] rcM) (fun a w=>∃q,Fr 31 ((14,.bool q)::[(0,.pointer (some ⟨B,0,none⟩)),(3,v3),(5,.string (geta nmL k)),(6,.slice (some ⟨w0.heap.size,0,none⟩) 6 6),(7,.int .i64 6),(8,.int .i64 k)]) a∧(((0≤k∧k<6)∧LeI k L.length)∧(ScO B (b+8*k.toNat+1) w0 v3 L w∧RHd 9 B w.heap.size w 6 (.slice (some ⟨w0.heap.size,0,none⟩) 6 6) (cellsOf encSt nmL)))) No 9 No:=by
 refine T3.leaf ?_;rintro Q JS JX JT K hS hK hX hE hT hR a w ⟨hpre,hW,⟨fr,rfl,q0,q3,q5,q6,q7,q8,_⟩⟩;have hpp:=Lib.hid hpre;have hk1:=hpre.1;clear hpre;obtain⟨p3,c3,rfl⟩:=(Row.of_owns hW.1.o).shape;generalize geta nmL k=x at *;rw [fr_rcM,fe q0,fe q3,fe q5,fe q6,fe q7,fe q8];clear q0 q3 q5 q6 q7 q8;conv=>arg 2;whnf
 go_wp2_with fail
 refine(flip_d B (b+8*k.toNat) _ w hW.1.d.str rfl (by omega)).mono ?_;rintro e w1 ⟨q,rfl,hd⟩;have HW:=Lib.hid (And.intro (hW.1.drawn hd) ((hW.2.str hd.gr).mono hd.size));clear hd hW;go_wp2_with fail
 refine Met.intro (hS _ _ ?_);exact⟨_,Fr.r rfl rfl,hpp.out,HW.out⟩
theorem rc6 (v3:Value)(L:List ScD):T3 Tryz.prog (fun a w=>((0≤k∧k<6)∧LeI k L.length)∧(ScO B (b+8*k.toNat+1) w0 v3 L w∧RHd 9 B w.heap.size w 6 (.slice (some ⟨w0.heap.size,0,none⟩) 6 6) (cellsOf encSt nmL))∧Fr 31 [(0,.pointer (some ⟨B,0,none⟩)),(3,v3),(5,.string (geta nmL k)),(6,.slice (some ⟨w0.heap.size,0,none⟩) 6 6),(7,.int .i64 6),(8,.int .i64 k)] a) (sel [1,1,0,1,4,4,1,1,0,4,1,1,2] rcM) (fun a w=>∃(v3:Value) (L:List ScD),((0≤k∧k<6)∧LeI (k+1) L.length)∧(ScO B (b+8*((k+1):Int).toNat) w0 v3 L w∧RHd 9 B w.heap.size w 6 (.slice (some ⟨w0.heap.size,0,none⟩) 6 6) (cellsOf encSt nmL))∧Fr 31 [(0,.pointer (some ⟨B,0,none⟩)),(3,v3),(6,.slice (some ⟨w0.heap.size,0,none⟩) 6 6),(7,.int .i64 6),(8,.int .i64 k)] a) No 9 No:=by
 refine T3.leaf ?_;rintro Q JS JX JT K hS hK hX hE hT hR a w ⟨hpre,hW,⟨fr,rfl,q0,q3,q5,q6,q7,q8,_⟩⟩;have hpp:=Lib.hid hpre;obtain⟨⟨hk0,hk1⟩,hl⟩:=hpre;have hl4:L.length≤6:=by have:=hl.h;omega
 clear hl;have hE:=el_scL;have hkx:=nmL_sm _ (geta_mem (l:=nmL) (i:=k) hk0 (by simp [nmL];omega));have hW1:=hW.1;have hW2:=hW.2;obtain⟨p3,c3,rfl⟩:=(Row.of_owns hW.1.o).shape;clear hW;generalize geta nmL k=x at *;rw [fr_rcM,fe q0,fe q3,fe q5,fe q6,fe q7,fe q8];clear q0 q3 q5 q6 q7 q8;conv=>arg 2;whnf
 go_wp2_with fail
 refine(spots_any B (b+8*k.toNat+1) w hW1.d.str (by omega)).mono ?_;rintro e w1 ⟨pv,ps,rfl,hn4,hsm,hop,hd⟩;have h1:=hW1.drawn hd;have hH1:=(hW2.str hd.gr).mono hd.size;have hBw:B<w.heap.size:=by have:=hW1.hB;have:=hW1.d.size;omega
 have hps:PsO B w1.heap.size w1 pv ps:=⟨RHd.of_owns hop hBw,hsm,by omega⟩
 obtain⟨pp,cc,rfl⟩:=(Row.of_owns hop).shape;clear hd hop hW1 hW2;go_wp2_with fail
 refine(pick_lit B (b+8*k.toNat+1+5) [500,500,700,650,0,-100,1040] 7 _ _ _ rfl rfl (by decide) (by decide) h1.d.str (by omega)).mono ?_;rintro e w2 ⟨m,rfl,hm,hd⟩;have hms:=ofH_small hm;have hob:=ofH_bounds m hms.1 hms.2;have h2:=h1.drawn hd;have hH2:=(hH1.str hd.gr).mono hd.size;have hps:=(hps.str hd.gr).mono hd.size;clear hd hm h1 hH1;go_wp2_with fail
 refine(ofHundredths_ref m _ hms.1 hms.2).mono ?_;rintro e w3 ⟨rfl,hbe⟩;have hd:=(Drawn.refl h2.d.str).below hbe;have h3:=h2.drawn hd;have hH3:=(hH2.str hd.gr).mono hd.size;have hps:=(hps.str hd.gr).mono hd.size;clear hd hbe h2 hH2 hms;generalize ofHn m=nn at *;generalize ofHd m=dd at *;go_wp2_with fail
 refine(flip_d B (b+8*k.toNat+1+5+1) _ _ h3.d.str rfl (by omega)).mono ?_;rintro e w4 ⟨q,rfl,hd⟩;have h4:=h3.drawn hd;have hH4:=(hH3.str hd.gr).mono hd.size;have hps:=(hps.str hd.gr).mono hd.size;clear hd h3 hH3;have hz1:=h4.d.size;go_wp2_with (at_builtin;refine app_law rfl _ _ _ rfl hE (h4.o.alloc _) rfl [.string x,.slice pp ps.length cc,.int .i64 nn,.int .i64 dd,.bool (!q)] rfl rfl (cells_new w4 #[_,_,_,_,_] _) (by simp [Value.oneCell']) (by omega) (by simp;omega) ?_;intro v' w5 hown2 hgr2)
 have hps2:=(hps.str (World.grownBy_alloc w4 (.cells #[.string x,.slice pp ps.length cc,.int .i64 nn,.int .i64 dd,.bool (!q)] 77) (some B))).mono (show w4.heap.size≤(w4.alloc (.cells #[.string x,.slice pp ps.length cc,.int .i64 nn,.int .i64 dd,.bool (!q)] 77)).heap.size by simp);have h5:=(h4.alloc _).app (x:=⟨x,.slice pp ps.length cc,ps,nn,dd,!q⟩) hps2 hkx ⟨⟨by show _≤nn;omega,by show nn≤_;omega⟩,⟨by show _≤dd;omega,by show dd≤_;omega⟩⟩ hown2 hgr2;have hH5:=((hH4.alloc (.cells #[.string x,.slice pp ps.length cc,.int .i64 nn,.int .i64 dd,.bool (!q)] 77)).other (h4.alloc _).o (by decide) hgr2).mono (show w4.heap.size≤w5.heap.size by have:=hgr2.size;simp at this;omega);refine Met.intro (hS _ _ ?_);exact⟨_,_,⟨hpp.out.1,⟨by have:=hpp.out.2.h;simp;omega⟩⟩,⟨h5.mono (by omega),hH5⟩,Fr.r rfl rfl⟩
theorem rcb:T3 Tryz.prog (fun a w=>∃(v3:Value) (L:List ScD),((0≤k∧k<6)∧LeI k L.length)∧(ScO B (b+8*(k:Int).toNat) w0 v3 L w∧RHd 9 B w.heap.size w 6 (.slice (some ⟨w0.heap.size,0,none⟩) 6 6) (cellsOf encSt nmL))∧Fr 31 [(0,.pointer (some ⟨B,0,none⟩)),(3,v3),(6,.slice (some ⟨w0.heap.size,0,none⟩) 6 6),(7,.int .i64 6),(8,.int .i64 k)] a) (sel [1,1,0,1,4,4,1,1,0] rcM) (fun a w=>∃(v3:Value) (L:List ScD),((0≤k∧k<6)∧LeI (k+1) L.length)∧(ScO B (b+8*((k+1):Int).toNat) w0 v3 L w∧RHd 9 B w.heap.size w 6 (.slice (some ⟨w0.heap.size,0,none⟩) 6 6) (cellsOf encSt nmL))∧Fr 31 [(0,.pointer (some ⟨B,0,none⟩)),(3,v3),(6,.slice (some ⟨w0.heap.size,0,none⟩) 6 6),(7,.int .i64 6),(8,.int .i64 k)] a) No 9 No:=by
 refine T3.block (id':=1) (c:=(sel [1,1,0,1,4,4,1,1,0,4] rcM)) (by decide) (T3.seq (s:=(sel [1,1,0,1,4,4,1,1,0,4,0] rcM)) (c:=(sel [1,1,0,1,4,4,1,1,0,4,1] rcM)) (rc4 B b w0 hb k) (T3.ex fun v3=>T3.ex fun L=>?_));refine T3.tt rfl (C:=fun _=>(0≤k∧k<6)∧LeI k L.length) (W:=fun w=>ScO B (b+8*k.toNat+1) w0 v3 L w∧RHd 9 B w.heap.size w 6 (.slice (some ⟨w0.heap.size,0,none⟩) 6 6) (cellsOf encSt nmL)) (by decide) (rc5 B b w0 hb k v3 L) ?_ (T3.skip ?_)
 ·exact T3.pre (rc6 B b w0 hb k v3 L) (fun a w q=>⟨q.2.1,q.2.2,q.1.tail⟩)
 ·rintro a w ⟨hp,hW,hF⟩;exact⟨v3,L,⟨hp.1,⟨by have:=hp.2.h;omega⟩⟩,⟨hW.1.mono (by omega),hW.2⟩,hF.sub (by simp)⟩
def rcAI (B b:Nat)(w0:World)(hb:b≤50000)(k:Int)(a:Act)(w:World):Prop:=(0≤k∧k≤6)∧∃(v3:Value) (L:List ScD),(LeI k L.length)∧(ScO B (b+8*(k:Int).toNat) w0 v3 L w∧RHd 9 B w.heap.size w 6 (.slice (some ⟨w0.heap.size,0,none⟩) 6 6) (cellsOf encSt nmL))∧Fr 31 [(0,.pointer (some ⟨B,0,none⟩)),(3,v3),(6,.slice (some ⟨w0.heap.size,0,none⟩) 6 6),(7,.int .i64 6),(8,.int .i64 k)] a
theorem rcAt:T3 Tryz.prog (fun a w=>rcAI B b w0 hb k a w) (sel [1,1,0,1,4,4,0] rcM) (fun a w=>∃q,Fr 31 ((9,.bool q)::[(8,.int .i64 k)]) a∧((q=true↔k<6)∧rcAI B b w0 hb k a w)) No 9 No:=by
 refine T3.leaf ?_;rintro Q JS JX JT K hS hK hX hE hT hR a w ⟨hk,v3,L,hpre,hW,⟨fr,rfl,q0,q3,q6,q7,q8,_⟩⟩;rw [fr_rcM,fe q0,fe q3,fe q6,fe q7,fe q8];clear q0 q3 q6 q7 q8;conv=>arg 2;whnf
 by_cases hlt:k<6
 ·go_wp2_with fail
  refine Met.intro (hS _ _ ?_);exact⟨true,Fr.r rfl rfl,⟨fun _=>hlt,fun _=>rfl⟩,hk,v3,L,hpre,hW,Fr.r rfl rfl⟩
 ·have hpb:decide (k<(6))=false:=by simp;omega
  go_wp2_with fail
  refine Met.intro (hS _ _ ?_);exact⟨false,Fr.r rfl rfl,⟨(fun h=>by cases h),fun h=>absurd h (by omega)⟩,hk,v3,L,hpre,hW,Fr.r rfl rfl⟩
theorem rcAn:T3 Tryz.prog (fun a w=>(0≤k∧k<6)∧∃(v3:Value) (L:List ScD),(LeI (k+1) L.length)∧(ScO B (b+8*((k+1):Int).toNat) w0 v3 L w∧RHd 9 B w.heap.size w 6 (.slice (some ⟨w0.heap.size,0,none⟩) 6 6) (cellsOf encSt nmL))∧Fr 31 [(0,.pointer (some ⟨B,0,none⟩)),(3,v3),(6,.slice (some ⟨w0.heap.size,0,none⟩) 6 6),(7,.int .i64 6),(8,.int .i64 k)] a) (sel [1,1,0,1,4,4,1,1,1] rcM) (fun a w=>rcAI B b w0 hb (k+1) a w) No 9 No:=by
 refine T3.leaf ?_;rintro Q JS JX JT K hS hK hX hE hT hR a w ⟨hk,v3,L,hpre,hW,⟨fr,rfl,q0,q3,q6,q7,q8,_⟩⟩;obtain⟨hk0,hk1⟩:=hk;rw [fr_rcM,fe q0,fe q3,fe q6,fe q7,fe q8];clear q0 q3 q6 q7 q8;conv=>arg 2;whnf
 go_wp2_with fail
 refine Met.intro (hS _ _ ?_);exact⟨⟨by omega,by omega⟩,v3,L,hpre,hW,Fr.r rfl rfl⟩
end
theorem rcAloop:T3 Tryz.prog (fun a w=>rcAI B b w0 hb 0 a w) (sel [1,1,0,1] rcM) (fun a w=>∃(v3:Value) (L:List ScD),(L.length≤6)∧(ScO B (b+48) w0 v3 L w)∧Fr 31 [(3,v3)] a) No 9 No :=
 T3.range (I:=rcAI B b w0 hb) rfl (by decide) (rcAt B b w0 hb) (rcAn B b w0 hb) (fun _ _ _ h=>h.1) (fun k hk=>T3.mono (rcb B b w0 hb k) (fun a w ⟨_,v3,L,hp,hI⟩=>⟨v3,L,⟨hk,hp⟩,hI⟩) (fun a w ⟨v3,L,⟨hk,hp⟩,hI⟩=>⟨hk,v3,L,hp,hI⟩) (fun _ _ q=>q) (fun _ _ q=>q)) (fun a w hI=>by
  obtain⟨hk,hI⟩:=hI;obtain⟨v3,L,hl,hW,hF⟩:=hI;exact⟨v3,L,by have:=hl.h;omega,hW.1.mono (by omega),hF.sub (by simp)⟩)
end
section
variable (B b:Nat)(w0:World)
include B b w0
theorem rc8 (v3:Value)(L:List ScD):T3 Tryz.prog (fun a w=>(ScO B (b+48) w0 v3 L w)∧Fr 31 [(3,v3)] a) (sel [1,1,1,0] rcM) (fun a w=>(ScO B (b+48) w0 v3 L w)∧Fr 31 [(2,v3)] a) No 9 No:=by
 refine T3.leaf ?_;rintro Q JS JX JT K hS hK hX hE hT hR a w ⟨hW,⟨fr,rfl,q3,_⟩⟩;have HW:=Lib.hid hW;obtain⟨p3,c3,rfl⟩:=(Row.of_owns hW.o).shape;clear hW;rw [fr_rcM,fe q3];clear q3;conv=>arg 2;whnf
 go_wp2_with fail
 refine Met.intro (hS _ _ ?_);exact⟨HW.out,Fr.of _ rfl ⟨rfl,trivial⟩⟩
theorem rc_all (hb:b≤50000):T3 Tryz.prog (fun a w=>(Str B w b∧IsW w0 w)∧Fr 31 [(0,.pointer (some ⟨B,0,none⟩))] a) rcM No No 9 (fun a w=>∃(v3:Value) (L:List ScD),(L.length≤6)∧(ScO B (b+48) w0 v3 L w)∧Fr 31 [(2,v3)] a):=by
 refine T3.seq (s:=(sel [0] rcM)) (c:=(sel [1] rcM)) (T3.noT (rc0 B b w0 hb)) ?_;refine T3.sq rfl (T3.noT (rc1 B b w0 hb)) ?_;refine T3.sq rfl (T3.noT (T3.seq (s:=(sel [1,1,0,0] rcM)) (c:=(sel [1,1,0,1] rcM)) (rc2 B b w0 hb) (rcAloop B b w0 hb))) ?_;refine T3.ex fun v3=>T3.ex fun L=>T3.pure fun hn=>?_
 exact T3.sr rfl (T3.noT (rc8 B b w0 v3 L)) (T3.ret fun a w q=>⟨v3,L,hn,q⟩)
theorem rightScorers_any (hS:Str B w0 b)(hb:b≤50000):Calls Tryz.prog 40 #[.pointer (some ⟨B,0,none⟩)] w0 fun e w'=>∃(v3:Value) (L:List ScD),e=.returned v3∧L.length≤6∧ScO B (b+48) w0 v3 L w':=by
 have hall:=rc_all B b w0 hb
 go_enter Tryz.func40,Tryz.ntmps40
 refine T3.done (s:=rcM) hall ⟨⟨hS,rfl⟩,Fr.of _ rfl ⟨rfl,trivial⟩⟩ ?_;rintro a w ⟨v3,L,hn,hW,fr,rfl,q2,_⟩;rw [fr_rcM,fe q2]
 go_ret
 exact⟨v3,L,rfl,hn,hW⟩
end
end Go.Proofs.YtnmdpphddimfbaaGreat
/-
  A worth that the stream hands out. Conditions: the bounds that each theorem names.
-/
namespace Go.Proofs.YtnmdpphddimfbaaGreat
open Go.RowKit Go.Bw
def encP (p:Int×Int):List Value:=[.int .i64 p.1,.int .i64 p.2]
def i64ok (n:Int):Bool:=decide (-9223372036854775808≤n)&&decide (n≤9223372036854775807)
def worthL:List (Int×Int):=[(1,1),(4,1),(1,25),(1,2),(-2,1),(0,1),(7,100)]
def worthO:List (Int×Int):=[(2,4),(1,3),(1,0),(-1,-1),(1,200),(10001,1),(-9223372036854775808,1),(1,4611686018427387904),(0,2)]
theorem worthL_ok:(worthL.all fun p=>i64ok p.1&&i64ok p.2)=true:=by decide +kernel
theorem worthO_ok:(worthO.all fun p=>i64ok p.1&&i64ok p.2)=true:=by decide +kernel
/-- A fraction within Go's numbers. -/
structure FracOk (p:Int×Int):Prop where
 n0:-9223372036854775808≤p.1
 n1:p.1≤9223372036854775807
 d0:-9223372036854775808≤p.2
 d1:p.2≤9223372036854775807
theorem frac_ok {l:List (Int×Int)}(h:(l.all fun p=>i64ok p.1&&i64ok p.2)=true):∀p∈l,FracOk p:=by
 intro p hp;have:=List.all_eq_true.1 h p hp;simp only [i64ok,Bool.and_eq_true,decide_eq_true_eq]at this;exact⟨this.1.1,this.1.2,this.2.1,this.2.2⟩
theorem fr_cells {w:World}{g:Nat}{l:List (Int×Int)}{cs:List Value}(h:Blk w g cs)(hcs:cs=cellsOf encP l)(r:Int)(h0:0≤r)(h1:r<l.length):
  w.cell? ⟨g,r.toNat*2,none⟩=some (.int .i64 (geta l r).1)∧w.cell? ⟨g,r.toNat*2+1,none⟩=some (.int .i64 (geta l r).2):=by
 subst hcs;have e:=geta_eq l r h0 h1;refine⟨h.2.1 (r.toNat*2) _ ?_,h.2.1 (r.toNat*2+1) _ ?_⟩
 ·have:=cellsOf_get encP 2 (fun _=>rfl) l r.toNat (by omega) 0 (by decide);rw [Nat.add_zero]at this;rw [this,e];rfl
 ·rw [cellsOf_get encP 2 (fun _=>rfl) l r.toNat (by omega) 1 (by decide),e];rfl
noncomputable def worthB:Code:=(Tryz.f41.body).getD .skip
theorem frame33 (f:Nat→Value):frame 33 f=⟨#[f 0,f 1,f 2,f 3,f 4,f 5,f 6,f 7,f 8,f 9,f 10,f 11,f 12,f 13,f 14,f 15,f 16,f 17,f 18,f 19,f 20,f 21,f 22,f 23,f 24,f 25,f 26,f 27,f 28,f 29,f 30,f 31,f 32],[]⟩:=by rfl
structure Wo (w0:World)(B b g3:Nat)(p:Int×Int)(w:World):Prop where
 dr:Drawn B w0 w b
 hB:B<w0.heap.size
 h3:w0.heap.size<g3
 res:Blk w w0.heap.size [.int .i64 0,.int .i64 0]
 fr:Blk w g3 (encP p)
 ok:FracOk p
section
variable (w0:World)(B b:Nat)(hb:b≤100000)
include w0 B hb
theorem wo1 (hS:Str B w0 b):T3 Tryz.prog (fun a w=>w=w0.alloc (.cells #[.int .i64 0,.int .i64 0] 34)∧Fr 33 [(0,.pointer (some ⟨B,0,none⟩)),(2,.pointer (some ⟨w0.heap.size,0,none⟩))] a) (sel [1,0] worthB) (fun a w=>∃(g3:Nat) (p:Int×Int),Wo w0 B (b+1) g3 p w∧Fr 33 [(0,.pointer (some ⟨B,0,none⟩)),(2,.pointer (some ⟨w0.heap.size,0,none⟩)),(3,.pointer (some ⟨g3,0,none⟩))] a) No 9 (fun a w=>∃p:Int×Int,Fr 33 [(2,.pointer (some ⟨w0.heap.size,0,none⟩))] a∧Blk w w0.heap.size (encP p)∧FracOk p∧Drawn B w0 w (b+3)):=by
 refine T3.leaf ?_;rintro Q JS JX JT K hS_ hK hX hE hT hR a w ⟨hw,⟨f,rfl,q0,q2,_⟩⟩;have hlt:=hS.lt;have hD0:=(Drawn.refl hS).alloc (.cells #[.int .i64 0,.int .i64 0] 34);have hR:=Blk.new w0 #[.int .i64 0,.int .i64 0] 34;have hsz:(w0.alloc (.cells #[.int .i64 0,.int .i64 0] 34)).heap.size=w0.heap.size+1:=by simp
 rw [←hw]at hD0 hR hsz;clear hw;have hL:=Blk.new w #[.int .i64 1,.int .i64 1,.int .i64 4,.int .i64 1,.int .i64 1,.int .i64 25,.int .i64 1,.int .i64 2,.int .i64 (-2),.int .i64 1,.int .i64 0,.int .i64 1,.int .i64 7,.int .i64 100] 34
 replace hD0:=hD0.alloc (.cells #[.int .i64 1,.int .i64 1,.int .i64 4,.int .i64 1,.int .i64 1,.int .i64 25,.int .i64 1,.int .i64 2,.int .i64 (-2),.int .i64 1,.int .i64 0,.int .i64 1,.int .i64 7,.int .i64 100] 34)
 replace hR:=hR.alloc (.cells #[.int .i64 1,.int .i64 1,.int .i64 4,.int .i64 1,.int .i64 1,.int .i64 25,.int .i64 1,.int .i64 2,.int .i64 (-2),.int .i64 1,.int .i64 0,.int .i64 1,.int .i64 7,.int .i64 100] 34)
 have hsz2:(w.alloc (.cells #[.int .i64 1,.int .i64 1,.int .i64 4,.int .i64 1,.int .i64 1,.int .i64 25,.int .i64 1,.int .i64 2,.int .i64 (-2),.int .i64 1,.int .i64 0,.int .i64 1,.int .i64 7,.int .i64 100] 34)).heap.size=w0.heap.size+2:=by simp;omega
 have Hz:=Lib.hid hsz;have Hz2:=Lib.hid hsz2;clear hsz hsz2;rw [frame33,show f 0=.pointer (some ⟨B,0,none⟩)from q0,show f 2=.pointer (some ⟨w0.heap.size,0,none⟩)from q2];clear q0 q2;conv=>arg 2;whnf
 go_wp2_with fail
 generalize w.alloc (.cells #[.int .i64 1,.int .i64 1,.int .i64 4,.int .i64 1,.int .i64 1,.int .i64 25,.int .i64 1,.int .i64 2,.int .i64 (-2),.int .i64 1,.int .i64 0,.int .i64 1,.int .i64 7,.int .i64 100] 34)=W at *;refine(next_d B _ 7 _ hD0.str (by decide) (by decide) (by omega)).mono ?_;rintro e w1 ⟨r,rfl,hr0,hr1,hd⟩;have hz:=Hz.out;have hz2:=Hz2.out
 replace hD0:=hD0.trans hd
 replace hR:=hR.drawn hd (by omega)
 replace hL:=hL.drawn hd (by omega)
 have hs1:=hd.size;obtain⟨c0,c1⟩:=fr_cells (l:=worthL) hL rfl r hr0 hr1;have hok:=frac_ok worthL_ok _ (geta_mem hr0 hr1);clear hd hL hz hz2;generalize geta worthL r=p at *;go_wp2_with fail
 have hz:=Hz.out;have hz2:=Hz2.out;refine Met.intro (hS_ _ _ ?_);exact⟨w1.heap.size,p,⟨hD0.alloc _,hlt,by omega,hR.alloc _,Blk.new w1 #[.int .i64 p.1,.int .i64 p.2] _,hok⟩,Fr.r rfl rfl⟩
theorem wo2:T3 Tryz.prog (fun a w=>∃(g3:Nat) (p:Int×Int),Wo w0 B (b+1) g3 p w∧Fr 33 [(0,.pointer (some ⟨B,0,none⟩)),(2,.pointer (some ⟨w0.heap.size,0,none⟩)),(3,.pointer (some ⟨g3,0,none⟩))] a) (sel [1,1,0,0] worthB) (fun a w=>∃q,∃(g3:Nat) (p:Int×Int),Wo w0 B (b+2) g3 p w∧Fr 33 ((17,.bool q)::[(0,.pointer (some ⟨B,0,none⟩)),(2,.pointer (some ⟨w0.heap.size,0,none⟩)),(3,.pointer (some ⟨g3,0,none⟩))]) a) No 9 (fun a w=>∃p:Int×Int,Fr 33 [(2,.pointer (some ⟨w0.heap.size,0,none⟩))] a∧Blk w w0.heap.size (encP p)∧FracOk p∧Drawn B w0 w (b+3)):=by
 refine T3.leaf ?_;rintro Q JS JX JT K hS hK hX hE hT hR a w ⟨g3,p,hA,⟨f,rfl,q0,q2,q3,_⟩⟩;rw [frame33,show f 0=.pointer (some ⟨B,0,none⟩)from q0,show f 2=.pointer (some ⟨w0.heap.size,0,none⟩)from q2,show f 3=.pointer (some ⟨g3,0,none⟩)from q3];clear q0 q2 q3;conv=>arg 2;whnf
 go_wp2_with (go_at_call 37;refine(flip_d B _ _ _ hA.dr.str rfl (by omega)).mono ?_;rintro e w1 ⟨q,rfl,hd⟩)
 have hB:=hA.hB;have h3:=hA.h3;refine Met.intro (hS _ _ ?_);exact⟨q,g3,p,⟨hA.dr.trans hd,hB,h3,hA.res.drawn hd (by omega),hA.fr.drawn hd (by omega),hA.ok⟩,Fr.r rfl rfl⟩
theorem wo3:T3 Tryz.prog (fun a w=>∃(g3:Nat) (p:Int×Int),Wo w0 B (b+2) g3 p w∧Fr 33 [(17,.bool true),(0,.pointer (some ⟨B,0,none⟩)),(2,.pointer (some ⟨w0.heap.size,0,none⟩)),(3,.pointer (some ⟨g3,0,none⟩))] a) (sel [1,1,0,1,2] worthB) (fun a w=>∃(g3:Nat) (p:Int×Int),Wo w0 B (b+3) g3 p w∧Fr 33 [(0,.pointer (some ⟨B,0,none⟩)),(2,.pointer (some ⟨w0.heap.size,0,none⟩)),(3,.pointer (some ⟨g3,0,none⟩))] a) No 9 (fun a w=>∃p:Int×Int,Fr 33 [(2,.pointer (some ⟨w0.heap.size,0,none⟩))] a∧Blk w w0.heap.size (encP p)∧FracOk p∧Drawn B w0 w (b+3)):=by
 refine T3.leaf ?_;rintro Q JS JX JT K hS hK hX hE hT hR a w ⟨g3,p,hA,⟨f,rfl,q17,q0,q2,q3,_⟩⟩;have hB:=hA.hB;have h3:=hA.h3;have hD:=hA.dr.alloc (.cells #[.int .i64 2,.int .i64 4,.int .i64 1,.int .i64 3,.int .i64 1,.int .i64 0,.int .i64 (-1),.int .i64 (-1),.int .i64 1,.int .i64 200,.int .i64 10001,.int .i64 1,.int .i64 (-9223372036854775808),.int .i64 1,.int .i64 1,.int .i64 4611686018427387904,.int .i64 0,.int .i64 2] 34);have hR:=hA.res.alloc (.cells #[.int .i64 2,.int .i64 4,.int .i64 1,.int .i64 3,.int .i64 1,.int .i64 0,.int .i64 (-1),.int .i64 (-1),.int .i64 1,.int .i64 200,.int .i64 10001,.int .i64 1,.int .i64 (-9223372036854775808),.int .i64 1,.int .i64 1,.int .i64 4611686018427387904,.int .i64 0,.int .i64 2] 34);have hF:=hA.fr.alloc (.cells #[.int .i64 2,.int .i64 4,.int .i64 1,.int .i64 3,.int .i64 1,.int .i64 0,.int .i64 (-1),.int .i64 (-1),.int .i64 1,.int .i64 200,.int .i64 10001,.int .i64 1,.int .i64 (-9223372036854775808),.int .i64 1,.int .i64 1,.int .i64 4611686018427387904,.int .i64 0,.int .i64 2] 34);have hL:=Blk.new w #[.int .i64 2,.int .i64 4,.int .i64 1,.int .i64 3,.int .i64 1,.int .i64 0,.int .i64 (-1),.int .i64 (-1),.int .i64 1,.int .i64 200,.int .i64 10001,.int .i64 1,.int .i64 (-9223372036854775808),.int .i64 1,.int .i64 1,.int .i64 4611686018427387904,.int .i64 0,.int .i64 2] 34;have hs0:=hA.fr.1;clear hA;rw [frame33,show f 17=.bool true from q17,show f 0=.pointer (some ⟨B,0,none⟩)from q0,show f 2=.pointer (some ⟨w0.heap.size,0,none⟩)from q2,show f 3=.pointer (some ⟨g3,0,none⟩)from q3];clear q17 q0 q2 q3;conv=>arg 2;whnf
 go_wp2_with fail
 generalize w.alloc (.cells #[.int .i64 2,.int .i64 4,.int .i64 1,.int .i64 3,.int .i64 1,.int .i64 0,.int .i64 (-1),.int .i64 (-1),.int .i64 1,.int .i64 200,.int .i64 10001,.int .i64 1,.int .i64 (-9223372036854775808),.int .i64 1,.int .i64 1,.int .i64 4611686018427387904,.int .i64 0,.int .i64 2] 34)=W at *;refine(next_d B _ 9 _ hD.str (by decide) (by decide) (by omega)).mono ?_;rintro e w1 ⟨r,rfl,hr0,hr1,hd⟩
 replace hD:=hD.trans hd
 replace hR:=hR.drawn hd (by omega)
 replace hF:=hF.drawn hd (by omega)
 replace hL:=hL.drawn hd (by omega)
 obtain⟨c0,c1⟩:=fr_cells (l:=worthO) hL rfl r hr0 hr1;have hok:=frac_ok worthO_ok _ (geta_mem hr0 hr1);have d0:=hF.2.1 0 _ rfl;have d1:=hF.2.1 1 _ rfl;have f0:=hF.2.2 0;have f1:=hF.2.2 1;clear hd hL;generalize geta worthO r=p' at *;go_wp2_with fail
 refine Met.intro (hS _ _ ?_);exact⟨g3,p',⟨(hD.set _ (by omega) (by omega)).set _ (by omega) (by omega),hB,h3,(hR.other _ (by omega)).other _ (by omega),(hF.set 0 (by simp [encP]) _).set 1 (by simp [encP]) _,hok⟩,Fr.r rfl rfl⟩
theorem wo4:T3 Tryz.prog (fun a w=>∃(g3:Nat) (p:Int×Int),Wo w0 B (b+3) g3 p w∧Fr 33 [(0,.pointer (some ⟨B,0,none⟩)),(2,.pointer (some ⟨w0.heap.size,0,none⟩)),(3,.pointer (some ⟨g3,0,none⟩))] a) (sel [1,1,1,0] worthB) (fun a w=>∃p:Int×Int,Fr 33 [(2,.pointer (some ⟨w0.heap.size,0,none⟩))] a∧Blk w w0.heap.size (encP p)∧FracOk p∧Drawn B w0 w (b+3)) No 9 (fun a w=>∃p:Int×Int,Fr 33 [(2,.pointer (some ⟨w0.heap.size,0,none⟩))] a∧Blk w w0.heap.size (encP p)∧FracOk p∧Drawn B w0 w (b+3)):=by
 refine T3.leaf ?_;rintro Q JS JX JT K hS hK hX hE hT hR a w ⟨g3,p,hA,⟨f,rfl,q0,q2,q3,_⟩⟩;have hB:=hA.hB;rw [frame33,show f 0=.pointer (some ⟨B,0,none⟩)from q0,show f 2=.pointer (some ⟨w0.heap.size,0,none⟩)from q2,show f 3=.pointer (some ⟨g3,0,none⟩)from q3];clear q0 q2 q3;conv=>arg 2;whnf
 have c0:=hA.fr.2.1 0 _ rfl;have c1:=hA.fr.2.1 1 _ rfl;have d0:=hA.res.2.1 0 _ rfl;have d1:=hA.res.2.1 1 _ rfl;have f0:=hA.res.2.2 0;have f1:=hA.res.2.2 1;go_wp2_with fail
 refine Met.intro (hS _ _ ?_);exact⟨p,Fr.of _ rfl ⟨rfl,trivial⟩,(hA.res.set 0 (by simp) _).set 1 (by simp) _,hA.ok,(hA.dr.set _ (Nat.le_refl _) hB).set _ (Nat.le_refl _) hB⟩
end
theorem worth_any (B b:Nat)(w0:World)(hS:Str B w0 b)(hb:b≤100000):
  Calls Tryz.prog 41 #[.pointer (some ⟨B,0,none⟩)] w0 fun e w'=>∃p:Int×Int,e=.returned (.agg #[.int .i64 p.1,.int .i64 p.2])∧FracOk p∧Drawn B w0 w' (b+3):=by
 go_enter Tryz.func41,Tryz.ntmps41
 refine T3.done (P:=Tryz.prog) (s:=worthB) (R:=fun a w=>w=w0∧Fr 33 [(0,.pointer (some ⟨B,0,none⟩))] a)
  (T3.seq (s:=(sel [0] worthB)) (c:=(sel [1] worthB)) ?_ (T3.seq (s:=(sel [1,0] worthB)) (c:=(sel [1,1] worthB)) (wo1 w0 B b hb hS) (T3.seq (s:=(sel [1,1,0] worthB)) (c:=(sel [1,1,1] worthB)) (T3.seq (s:=(sel [1,1,0,0] worthB)) (c:=(sel [1,1,0,1] worthB)) (wo2 w0 B b hb) ?_) (T3.seq (s:=(sel [1,1,1,0] worthB)) (c:=.ret) (wo4 w0 B b hb) (T3.ret (fun _ _ h=>h)))))) ⟨rfl,Fr.of _ rfl ⟨rfl,trivial⟩⟩ ?_
 ·refine T3.leaf ?_;rintro Q JS JX JT K hS_ hK hX hE hT hR a w ⟨hw,⟨f,rfl,q0,_⟩⟩;subst hw;rw [frame33,show f 0=_ from q0];clear q0;conv=>arg 2;whnf
  go_wp2_with fail
  refine Met.intro (hS_ _ _ ?_);exact⟨rfl,Fr.r rfl rfl⟩
 ·refine T3.ex fun q=>?_
  refine T3.cond (o:=.tmp 17) (x:=(sel [1,1,0,1,2] worthB)) (y:=.skip) (fun a w=>q=true∧∃(g3:Nat) (p:Int×Int),Wo w0 B (b+2) g3 p w∧Fr 33 [(17,.bool true),(0,.pointer (some ⟨B,0,none⟩)),(2,.pointer (some ⟨w0.heap.size,0,none⟩)),(3,.pointer (some ⟨g3,0,none⟩))] a) (fun a w=>∃(g3:Nat) (p:Int×Int),Wo w0 B (b+2) g3 p w∧Fr 33 [(0,.pointer (some ⟨B,0,none⟩)),(2,.pointer (some ⟨w0.heap.size,0,none⟩)),(3,.pointer (some ⟨g3,0,none⟩))] a) ?_ ((wo3 w0 B b hb).pre (fun a w h=>h.2)) (T3.skip ?_)
  ·rintro a w ⟨g3,p,hA,hF⟩;have he:=hF.eval 17 (by decide) (v:=.bool q) (by simp);cases q
   ·exact .inr ⟨he,g3,p,hA,hF.tail⟩
   ·exact .inl ⟨he,rfl,g3,p,hA,hF⟩
  ·rintro a w ⟨g3,p,hA,hF⟩;exact⟨g3,p,⟨hA.dr.mono (by omega),hA.hB,hA.h3,hA.res,hA.fr,hA.ok⟩,hF⟩
 ·rintro a w ⟨p,⟨f,rfl,q2,_⟩,hR,hok,hd⟩;rw [frame33,show f 2=_ from q2];have r0:=hR.2.1 0 _ rfl;have r1:=hR.2.1 1 _ rfl;exact bodyPost_ret (v:=.agg #[.int .i64 p.1,.int .i64 p.2]) (by simp [results,Tryz.results41,go_sem,r0,r1]) rfl ⟨p,rfl,hok,hd⟩
end Go.Proofs.YtnmdpphddimfbaaGreat
/-
  Line-ups: scorers that the stream hands out, right or not. Conditions: the bounds that each theorem names.
-/
namespace Go.Proofs.YtnmdpphddimfbaaGreat
open Go.RowKit Go.Bw
theorem mem_mod {α:Type}{f:α→α}:∀{l:List α} {i:Nat} {x:α},x∈l.modify i f→x∈l∨∃y∈l,x=f y
 | [],i,x,h=>by simp at h
 | a::l,0,x,h=>by
  simp at h;rcases h with h|h
  ·exact .inr ⟨a,by simp,h⟩
  ·exact .inl (by simp [h])
 | a::l,i+1,x,h=>by
  simp at h;rcases h with h|h
  ·exact .inl (by simp [h])
  ·rcases mem_mod h with h|⟨y,h1,h2⟩
   ·exact .inl (by simp [h])
   ·exact .inr ⟨y,by simp [h1],h2⟩
theorem cells_putSc (s:ByteArray)(p q:Int):∀(L:List ScD) (i:Nat),i<L.length →
  (((cellsOf encSc L).set (i*5) (.string s)).set (i*5+2) (.int .i64 p)).set (i*5+2+1) (.int .i64 q)=cellsOf encSc (L.modify i fun x=>{ x with pl:=s,num:=p,den:=q })
 | [],i,h=>by simp at h
 | x::L,0,h=>by rw [cellsOf_cons];simp [encSc,cellsOf_cons]
 | x::L,i+1,h=>by
  have ih:=cells_putSc s p q L i (by simpa using h);rw [show(i+1)*5=i*5+5 by omega,show i*5+5+2=i*5+2+5 by omega,show i*5+2+5+1=i*5+2+1+5 by omega,cellsOf_cons];simp only [encSc,List.cons_append,List.nil_append,List.set_cons_succ,List.modify_succ_cons,cellsOf_cons];rw [ih]
theorem ScO.put {B b n c g:Nat}{w0 w:World}{L:List ScD}(h:ScO B b w0 (.slice (some ⟨g,0,none⟩) n c) L w)(hn:n=L.length)(i:Nat)(hi:i<L.length)(s:ByteArray)(hs:Sm s)(p q:Int)(hp:-9223372036854775808≤p∧p≤9223372036854775807)(hq:-9223372036854775808≤q∧q≤9223372036854775807):
  ScO B b w0 (.slice (some ⟨g,0,none⟩) n c) (L.modify i fun x=>{ x with pl:=s,num:=p,den:=q }) (((w.setCell ⟨g,i*5,none⟩ (.string s)).setCell ⟨g,i*5+2,none⟩ (.int .i64 p)).setCell ⟨g,i*5+2+1,none⟩ (.int .i64 q)):=by
 subst hn;have hlt:=(h.o.lt g rfl).1;have hB:=h.hB;have o1:=owns_setC h.o (i*5) (by omega) (.string s);have o2:=owns_setC o1 (i*5+2) (by omega) (.int .i64 p);have o3:=owns_setC o2 (i*5+2+1) (by omega) (.int .i64 q);rw [cells_putSc s p q L i hi]at o3;have g1:=grown_setCell w g (i*5) (.string s);have g2:=grown_setCell (w.setCell ⟨g,i*5,none⟩ (.string s)) g (i*5+2) (.int .i64 p);have g3:=grown_setCell ((w.setCell ⟨g,i*5,none⟩ (.string s)).setCell ⟨g,i*5+2,none⟩ (.int .i64 p)) g (i*5+2+1) (.int .i64 q);have hi3:∀x∈L,PsO B (((w.setCell ⟨g,i*5,none⟩ (.string s)).setCell ⟨g,i*5+2,none⟩ (.int .i64 p)).setCell ⟨g,i*5+2+1,none⟩ (.int .i64 q)).heap.size (((w.setCell ⟨g,i*5,none⟩ (.string s)).setCell ⟨g,i*5+2,none⟩ (.int .i64 p)).setCell ⟨g,i*5+2+1,none⟩ (.int .i64 q)) x.pv x.ps:=fun x hx =>
  ((((h.i x hx).other h.o (by decide) g1).other o1 (by decide) g2).other o2 (by decide) g3).mono (Nat.le_trans g1.size (Nat.le_trans g2.size g3.size))
 refine⟨((h.d.set _ hlt (by omega)).set _ hlt (by omega)).set _ hlt (by omega),h.hB,by rw [List.length_modify];exact o3,fun x hx=>?_,fun x hx=>?_,fun x hx=>?_⟩
 ·rcases mem_mod hx with hx|⟨y,hy,rfl⟩
  ·exact hi3 x hx
  ·exact hi3 y hy
 ·rcases mem_mod hx with hx|⟨y,hy,rfl⟩
  ·exact h.z x hx
  ·exact hs
 ·rcases mem_mod hx with hx|⟨y,hy,rfl⟩
  ·exact h.m x hx
  ·exact⟨hp,hq⟩
theorem sm3 {x s:ByteArray}(hx:Sm x)(h:s∈[x,⟨#[]⟩,⟨#[97,110,110]⟩]):Sm s:=by
 simp at h;rcases h with rfl|rfl|rfl
 ·exact hx
 ·decide
 ·decide
noncomputable def sqM:Code:=(Tryz.f6.body).getD .skip
theorem fr_sqM (f:Nat→Value):frame 36 f=⟨#[f 0,f 1,f 2,f 3,f 4,f 5,f 6,f 7,f 8,f 9,f 10,f 11,f 12,f 13,f 14,f 15,f 16,f 17,f 18,f 19,f 20,f 21,f 22,f 23,f 24,f 25,f 26,f 27,f 28,f 29,f 30,f 31,f 32,f 33,f 34,f 35],[]⟩:=by rfl
theorem sq0 (B b:Nat)(w0:World)(hb:b≤40000):T3 Tryz.prog (fun a w=>(Str B w b∧IsW w0 w)∧Fr 36 [(0,.pointer (some ⟨B,0,none⟩))] a) (sel [0] sqM) (fun a w=>(Str B w b∧IsW w0 w)∧Fr 36 [(0,.pointer (some ⟨B,0,none⟩))] a) No 9 No:=by
 refine T3.leaf ?_;rintro Q JS JX JT K hS hK hX hE hT hR a w ⟨hW,⟨fr,rfl,q0,_⟩⟩;rw [fr_sqM,fe q0];clear q0;conv=>arg 2;whnf
 go_wp2_with fail
 refine Met.intro (hS _ _ ?_);exact⟨hW,Fr.of _ rfl ⟨rfl,trivial⟩⟩
theorem sq1 (B b:Nat)(w0:World)(hb:b≤40000):T3 Tryz.prog (fun a w=>(Str B w b∧IsW w0 w)∧Fr 36 [(0,.pointer (some ⟨B,0,none⟩))] a) (sel [1,0] sqM) (fun a w=>∃(v3:Value) (L:List ScD),(L.length≤6)∧(ScO B (b+48) w0 v3 L w)∧Fr 36 [(0,.pointer (some ⟨B,0,none⟩)),(3,v3)] a) No 9 No:=by
 refine T3.leaf ?_;rintro Q JS JX JT K hS hK hX hE hT hR a w ⟨⟨hS_,hW⟩,⟨fr,rfl,q0,_⟩⟩;obtain rfl:w=w0:=hW;have HS:=Lib.hid hS_;rw [fr_sqM,fe q0];clear q0;conv=>arg 2;whnf
 go_wp2_with fail
 refine(rightScorers_any B b w HS.out (by omega)).mono ?_;rintro e w1 ⟨v3,L,rfl,hn,h1⟩;have H1:=Lib.hid h1;have HN:=Lib.hid hn;obtain⟨p3,c3,rfl⟩:=(Row.of_owns h1.o).shape;clear h1 hn;go_wp2_with fail
 refine Met.intro (hS _ _ ?_);exact⟨_,L,HN.out,H1.out,Fr.r rfl rfl⟩
section
variable (B b:Nat)(w0:World)(hb:b≤40000)(v3:Value)(L:List ScD)(hn:L.length≤6)
include B w0 hb v3 hn
theorem sq2:T3 Tryz.prog (fun a w=>(ScO B (b+48) w0 v3 L w)∧Fr 36 [(0,.pointer (some ⟨B,0,none⟩)),(3,v3)] a) (sel [1,1,0,0] sqM) (fun a w=>∃q,Fr 36 ((13,.bool q)::[(0,.pointer (some ⟨B,0,none⟩)),(3,v3)]) a∧((q=true→0<L.length)∧ScO B (b+49) w0 v3 L w)) No 9 No:=by
 refine T3.leaf ?_;rintro Q JS JX JT K hS hK hX hE hT hR a w ⟨hW,⟨fr,rfl,q0,q3,_⟩⟩;obtain⟨p3,c3,rfl⟩:=(Row.of_owns hW.o).shape
 by_cases hp:(0:Int)<L.length
 ·have hpb:decide ((0:Int)<L.length)=true:=by simp;omega
  rw [fr_sqM,fe q0,fe q3];clear q0 q3;conv=>arg 2;whnf
  go_wp2_with fail
  refine(flip_d B (b+48) _ w hW.d.str rfl (by omega)).mono ?_;rintro e w1 ⟨q,rfl,hd⟩;have HW:=Lib.hid (hW.drawn hd);clear hd hW;go_wp2_with fail
  refine Met.intro (hS _ _ ?_);exact⟨_,Fr.r rfl rfl,fun _=>by omega,HW.out⟩
 ·have hpb:decide ((0:Int)<L.length)=false:=decide_eq_false hp;have HW:=Lib.hid (hW.mono (Nat.add_le_add_left (by decide:48≤49) b));clear hW;rw [fr_sqM,fe q0,fe q3];clear q0 q3;conv=>arg 2;whnf
  go_wp2_with fail
  refine Met.intro (hS _ _ ?_);exact⟨_,Fr.r rfl rfl,(fun h=>by cases h),HW.out⟩
theorem sq3 (hpos:0<L.length)(g:Nat)(c:Nat):T3 Tryz.prog (fun a w=>(ScO B (b+49) w0 (.slice (some ⟨g,0,none⟩) L.length c) L w)∧Fr 36 [(0,.pointer (some ⟨B,0,none⟩)),(3,.slice (some ⟨g,0,none⟩) L.length c)] a) (sel [1,1,0,1,2,0] sqM) (fun a w=>∃(i:Int),(0≤i∧i<L.length)∧(ScO B (b+50) w0 (.slice (some ⟨g,0,none⟩) L.length c) L w)∧Fr 36 [(0,.pointer (some ⟨B,0,none⟩)),(3,.slice (some ⟨g,0,none⟩) L.length c),(4,.pointer (some ⟨g,i.toNat*5,none⟩))] a) No 9 No:=by
 refine T3.leaf ?_;rintro Q JS JX JT K hS hK hX hE hT hR a w ⟨hW,⟨fr,rfl,q0,q3,_⟩⟩;rw [fr_sqM,fe q0,fe q3];clear q0 q3;conv=>arg 2;whnf
 go_wp2_with fail
 refine(next_d B (b+49) L.length w hW.d.str (by omega) (by omega) (by omega)).mono ?_;rintro e w1 ⟨i,rfl,hi0,hi1,hd⟩;have HW:=Lib.hid (hW.drawn hd);clear hd hW;go_wp2_with fail
 refine Met.intro (hS _ _ ?_);exact⟨i,⟨hi0,hi1⟩,HW.out,Fr.r rfl rfl⟩
theorem sq4 (hpos:0<L.length)(g:Nat)(c:Nat)(i:Int)(hi:0≤i∧i<L.length):T3 Tryz.prog (fun a w=>(ScO B (b+50) w0 (.slice (some ⟨g,0,none⟩) L.length c) L w)∧Fr 36 [(0,.pointer (some ⟨B,0,none⟩)),(3,.slice (some ⟨g,0,none⟩) L.length c),(4,.pointer (some ⟨g,i.toNat*5,none⟩))] a) (sel [1,1,0,1,2,1] sqM) (fun a w=>∃(L':List ScD),(L'.length=L.length)∧(ScO B (b+54) w0 (.slice (some ⟨g,0,none⟩) L'.length c) L' w)∧Fr 36 [(3,.slice (some ⟨g,0,none⟩) L.length c)] a) No 9 No:=by
 refine T3.leaf ?_;rintro Q JS JX JT K hS hK hX hE hT hR a w ⟨hW,⟨fr,rfl,q0,q3,q4,_⟩⟩;obtain⟨hi0,hi1⟩:=hi;obtain⟨g',c',hv3,_,_,hn3,hm3⟩:=owns_shape hW.o (by omega);simp only [Value.slice.injEq,Option.some.injEq,Addr.mk.injEq]at hv3;obtain⟨⟨rfl,_⟩,_,rfl⟩:=hv3;simp only [maxLen]at hm3;obtain⟨bz,off,hp,_,_,hcell⟩:=Row.nonnil ((Row.of_owns hW.o).mono (Nat.zero_le _)) (by omega);simp only [Option.some.injEq,Addr.mk.injEq]at hp;obtain⟨rfl,rfl,_⟩:=hp;have t0:=Row.elAt encSc_length hcell hi0 (by omega) 0 _ (by decide) rfl;rw [Nat.zero_add,Nat.add_zero]at t0;have hz:=hW.z _ (geta_mem hi0 (by omega));clear hcell;generalize hx:(geta L i).pl=x at *;rw [fr_sqM,fe q0,fe q3,fe q4];clear q0 q3 q4;conv=>arg 2;whnf
 go_wp2_with fail
 refine(some_lit B (b+50) [x,⟨#[]⟩,⟨#[97,110,110]⟩] 3 _ _ _ rfl rfl (by decide) (by decide) hW.d.str (by omega)).mono ?_;rintro e w1 ⟨s,rfl,hs,hd⟩;have hsz:Sm s:=sm3 hz hs;have h1:=hW.drawn hd;clear hd hW hs t0 hz;go_wp2_with fail
 refine(worth_any B (b+50+1) w1 h1.d.str (by omega)).mono ?_;rintro e w2 ⟨p,rfl,hp,hd⟩;have h2:=h1.drawn hd;obtain⟨hp1,hp2,hp3,hp4⟩:=hp;clear hd h1;obtain⟨pn,pd⟩:=p;have f0:=owns_frozenC h2.o (i.toNat*5);have f2:=owns_frozenC h2.o (i.toNat*5+2);have f3:=owns_frozenC h2.o (i.toNat*5+3);obtain⟨bz,off,hp,_,_,hcell⟩:=Row.nonnil ((Row.of_owns h2.o).mono (Nat.zero_le _)) (by omega);simp only [Option.some.injEq,Addr.mk.injEq]at hp;obtain⟨rfl,rfl,_⟩:=hp;have t0:=Row.elAt encSc_length hcell hi0 (by omega) 0 _ (by decide) rfl;have t2:=Row.elAt encSc_length hcell hi0 (by omega) 2 _ (by decide) rfl;have t3:=Row.elAt encSc_length hcell hi0 (by omega) 3 _ (by decide) rfl;rw [Nat.zero_add]at t0 t2 t3;rw [Nat.add_zero]at t0;clear hcell;have H3:=Lib.hid (h2.put rfl i.toNat (by omega) s hsz pn pd ⟨hp1,hp2⟩ ⟨hp3,hp4⟩);clear h2;go_wp2_with fail
 refine Met.intro (hS _ _ ?_);exact⟨_,List.length_modify _ _ _,by rw [List.length_modify];exact H3.out.mono (show b+50+1+3≤b+54 by omega),Fr.of _ rfl ⟨rfl,trivial⟩⟩
end
section
variable (B b:Nat)(w0:World)
include B b w0
theorem sq5 (v3:Value)(L:List ScD):T3 Tryz.prog (fun a w=>(ScO B (b+54) w0 v3 L w)∧Fr 36 [(3,v3)] a) (sel [1,1,1,0] sqM) (fun a w=>(ScO B (b+54) w0 v3 L w)∧Fr 36 [(2,v3)] a) No 9 No:=by
 refine T3.leaf ?_;rintro Q JS JX JT K hS hK hX hE hT hR a w ⟨hW,⟨fr,rfl,q3,_⟩⟩;have HW:=Lib.hid hW;obtain⟨p3,c3,rfl⟩:=(Row.of_owns hW.o).shape;clear hW;rw [fr_sqM,fe q3];clear q3;conv=>arg 2;whnf
 go_wp2_with fail
 refine Met.intro (hS _ _ ?_);exact⟨HW.out,Fr.of _ rfl ⟨rfl,trivial⟩⟩
theorem sq_all (hb:b≤40000):T3 Tryz.prog (fun a w=>(Str B w b∧IsW w0 w)∧Fr 36 [(0,.pointer (some ⟨B,0,none⟩))] a) sqM No No 9 (fun a w=>∃(v3:Value) (L:List ScD),(L.length≤6)∧(ScO B (b+54) w0 v3 L w)∧Fr 36 [(2,v3)] a):=by
 refine T3.seq (s:=(sel [0] sqM)) (c:=(sel [1] sqM)) (T3.noT (sq0 B b w0 hb)) ?_;refine T3.sq rfl (T3.noT (sq1 B b w0 hb)) ?_;refine T3.ex fun v3=>T3.ex fun L=>T3.pure fun hn=>?_
 refine T3.sq rfl (S:=(fun a w=>∃(v3:Value) (L:List ScD),(L.length≤6)∧(ScO B (b+54) w0 v3 L w)∧Fr 36 [(3,v3)] a)) ?_ (T3.ex fun v3=>T3.ex fun L=>T3.pure fun hn=>?_)
 ·refine T3.tt rfl (C:=fun q=>(q=true→0<L.length)) (W:=fun w=>ScO B (b+49) w0 v3 L w) (by decide) (T3.noT (sq2 B b w0 hb v3 L hn)) ?_ (T3.skip ?_)
  ·refine T3.pre (R:=fun a w=>(0<L.length)∧∃(g:Nat) (c:Nat),(ScO B (b+49) w0 (.slice (some ⟨g,0,none⟩) L.length c) L w)∧Fr 36 [(0,.pointer (some ⟨B,0,none⟩)),(3,.slice (some ⟨g,0,none⟩) L.length c)] a) (T3.pure fun hpos=>T3.ex fun g=>T3.ex fun c=>?_) ?_
   ·refine T3.sq rfl (T3.noT (sq3 B b w0 hb v3 L hn hpos g c)) (T3.ex fun i=>T3.pure fun hi=>?_);refine T3.post (T3.noT (sq4 B b w0 hb v3 L hn hpos g c i hi)) ?_;rintro a w ⟨L',hl,hW,hF⟩;exact⟨_,L',by omega,hW,hl.symm▸hF⟩
   ·rintro a w ⟨hF,hq,hW⟩;have hpos:=hq rfl;obtain⟨g,c,hv,_⟩:=owns_shape hW.o (by omega);subst hv;exact⟨hpos,g,c,hW,hF.sub (by simp)⟩
  ·rintro a w ⟨hq,hW,hF⟩;exact⟨v3,L,hn,hW.mono (Nat.add_le_add_left (by decide:49≤54) b),hF.sub (by simp)⟩
 exact T3.sr rfl (T3.noT (sq5 B b w0 v3 L)) (T3.ret fun a w q=>⟨v3,L,hn,q⟩)
theorem scorersS_any (hS:Str B w0 b)(hb:b≤40000):Calls Tryz.prog 6 #[.pointer (some ⟨B,0,none⟩)] w0 fun e w'=>∃(v3:Value) (L:List ScD),e=.returned v3∧L.length≤6∧ScO B (b+54) w0 v3 L w':=by
 have hall:=sq_all B b w0 hb
 go_enter Tryz.func6,Tryz.ntmps6
 refine T3.done (s:=sqM) hall ⟨⟨hS,rfl⟩,Fr.of _ rfl ⟨rfl,trivial⟩⟩ ?_;rintro a w ⟨v3,L,hn,hW,fr,rfl,q2,_⟩;rw [fr_sqM,fe q2]
 go_ret
 exact⟨v3,L,rfl,hn,hW⟩
end
end Go.Proofs.YtnmdpphddimfbaaGreat
/-
  Line-ups: an order that the stream hands out (Order): so many numbers, each of them a place. Conditions: the bounds that each theorem names.
-/
namespace Go.Proofs.YtnmdpphddimfbaaGreat
open Go.RowKit Go.Bw
theorem el_intO:Elem Tryz.prog 22 3 (.int .i64 0) 1 8:=⟨by kernel_rfl,by kernel_rfl,by kernel_rfl,by decide,by decide⟩
structure OrO (B b:Nat)(w0:World)(v:Value)(l:List Int)(w:World):Prop where
 d:Drawn B w0 w b
 hB:B<w0.heap.size
 o:w.ownsRow w0.heap.size 3 1 v l.length (l.map (.int .i64))
/-- Places among so many. -/
structure InN (n:Nat)(l:List Int):Prop where
 h:∀x∈l,0≤x∧x<n
section
variable {n:Nat}{l:List Int}
include n l
theorem InN.snoc {x:Int}(h:InN n l)(h0:0≤x)(h1:x<n):InN n (l++[x]):=⟨fun y hy=>by rcases List.mem_append.1 hy with hy|hy;exact h.h y hy;simp at hy;rw [hy];exact⟨h0,h1⟩⟩
theorem InN.set {x:Int}(h:InN n l)(i:Nat)(h0:0≤x)(h1:x<n):InN n (l.set i x):=⟨fun y hy=>by rcases List.mem_or_eq_of_mem_set hy with hy|rfl;exact h.h y hy;exact⟨h0,h1⟩⟩
theorem geti_in (h:InN n l){k:Int}(h0:0≤k)(h1:k<l.length):0≤geti l k∧geti l k<n:=by
 have hl:k.toNat<l.length:=by omega
 refine h.h _ ?_;unfold geti;rw [List.getElem?_eq_getElem hl];exact List.getElem_mem _
end
section
variable {B b b':Nat}{w0 w w':World}{v v':Value}{l:List Int}
section
variable (h:OrO B b w0 v l w)
include h
theorem OrO.drawn (d:Drawn B w w' b'):OrO B b' w0 v l w':=⟨h.d.trans d,h.hB,owns_drawn h.o d h.hB⟩
theorem OrO.mono (hb:b≤b'):OrO B b' w0 v l w:=⟨h.d.mono hb,h.hB,h.o⟩
theorem OrO.alloc (ob:Obj):OrO B b w0 v l (w.alloc ob):=h.drawn ((Drawn.refl h.d.str).alloc ob)
theorem OrO.app {x:Int}(ho:w'.ownsRow w0.heap.size 3 1 v' (l.length+1) (l.map (.int .i64)++[.int .i64 x]))(g:w.grownBy w' v.ownBlock):OrO B b w0 v' (l++[x]) w' :=
 ⟨h.d.app h.o (Nat.le_refl _) h.hB g,h.hB,by rw [List.map_append,List.length_append];exact ho⟩
end
theorem OrO.set {g c m:Nat}(h:OrO B b w0 (.slice (some ⟨g,0,none⟩) m c) l w)(hm:m=l.length)(i:Nat)(hi:i<l.length)(u:Int):OrO B b w0 (.slice (some ⟨g,0,none⟩) m c) (l.set i u) (w.setCell ⟨g,i,none⟩ (.int .i64 u)):=by
 subst hm;refine⟨h.d.set _ (h.o.lt g rfl).1 (by have:=(h.o.lt g rfl).1;have:=h.hB;omega),h.hB,?_⟩;rw [List.length_set];exact owns_set h.o i hi u
end
noncomputable def orM:Code:=(Tryz.f42.body).getD .skip
theorem fr_orM (f:Nat→Value):frame 43 f=⟨#[f 0,f 1,f 2,f 3,f 4,f 5,f 6,f 7,f 8,f 9,f 10,f 11,f 12,f 13,f 14,f 15,f 16,f 17,f 18,f 19,f 20,f 21,f 22,f 23,f 24,f 25,f 26,f 27,f 28,f 29,f 30,f 31,f 32,f 33,f 34,f 35,f 36,f 37,f 38,f 39,f 40,f 41,f 42],[]⟩:=by rfl
section
variable (B b:Nat)(w0:World)(n:Nat)(hn:n≤1000)(hb:b≤50000)
include B w0 hn hb
theorem or0:T3 Tryz.prog (fun a w=>(Str B w b∧IsW w0 w)∧Fr 43 [(0,.pointer (some ⟨B,0,none⟩)),(1,.int .i64 n)] a) (sel [0] orM) (fun a w=>(Str B w b∧IsW w0 w)∧Fr 43 [(0,.pointer (some ⟨B,0,none⟩)),(1,.int .i64 n)] a) No 9 No:=by
 refine T3.leaf ?_;rintro Q JS JX JT K hS hK hX hE hT hR a w ⟨hW,⟨fr,rfl,q0,q1,_⟩⟩;rw [fr_orM,fe q0,fe q1];clear q0 q1;conv=>arg 2;whnf
 go_wp2_with fail
 refine Met.intro (hS _ _ ?_);exact⟨hW,Fr.r rfl rfl⟩
theorem or1:T3 Tryz.prog (fun a w=>(Str B w b∧IsW w0 w)∧Fr 43 [(0,.pointer (some ⟨B,0,none⟩)),(1,.int .i64 n)] a) (sel [1,0] orM) (fun a w=>(Str B w b∧IsW w0 w)∧Fr 43 [(0,.pointer (some ⟨B,0,none⟩)),(1,.int .i64 n),(5,.slice none 0 0)] a) No 9 No:=by
 refine T3.leaf ?_;rintro Q JS JX JT K hS hK hX hE hT hR a w ⟨hW,⟨fr,rfl,q0,q1,_⟩⟩;rw [fr_orM,fe q0,fe q1];clear q0 q1;conv=>arg 2;whnf
 go_wp2_with fail
 refine Met.intro (hS _ _ ?_);exact⟨hW,Fr.r rfl rfl⟩
theorem or2:T3 Tryz.prog (fun a w=>(Str B w b∧IsW w0 w)∧Fr 43 [(0,.pointer (some ⟨B,0,none⟩)),(1,.int .i64 n),(5,.slice none 0 0)] a) (sel [1,1,0,0] orM) (fun a w=>(0≤(0:Int)∧(0:Int)≤n)∧∃(v5:Value) (l:List Int),(CntI 0 l.length∧InN n l)∧(OrO B b w0 v5 l w)∧Fr 43 [(0,.pointer (some ⟨B,0,none⟩)),(1,.int .i64 n),(5,v5),(9,.int .i64 n),(10,.int .i64 0)] a) No 9 No:=by
 refine T3.leaf ?_;rintro Q JS JX JT K hS hK hX hE hT hR a w ⟨⟨hS_,hW⟩,⟨fr,rfl,q0,q1,q5,_⟩⟩;obtain rfl:w=w0:=hW;have hlt:=hS_.lt;rw [fr_orM,fe q0,fe q1,fe q5];clear q0 q1 q5;conv=>arg 2;whnf
 go_wp2_with fail
 refine Met.intro (hS _ _ ?_);exact⟨⟨by omega,by omega⟩,_,[],⟨⟨by simp⟩,⟨fun x hx=>by cases hx⟩⟩,⟨Drawn.refl hS_,hlt,World.ownsRow_nil _ _ _ _⟩,Fr.r rfl rfl⟩
section
variable (k:Int)
include k
theorem or4:T3 Tryz.prog (fun a w=>∃(v5:Value) (l:List Int),((0≤k∧k<n)∧CntI k l.length∧InN n l)∧(OrO B b w0 v5 l w)∧Fr 43 [(0,.pointer (some ⟨B,0,none⟩)),(1,.int .i64 n),(5,v5),(9,.int .i64 n),(10,.int .i64 k)] a) (sel [1,1,0,1,4,4,1,1,0,4,0] orM) (fun a w=>∃(v5:Value) (l:List Int),((0≤k∧k<n)∧CntI k l.length∧InN n l)∧(OrO B b w0 v5 l w)∧Fr 43 [(0,.pointer (some ⟨B,0,none⟩)),(1,.int .i64 n),(5,v5),(6,.int .i64 k),(9,.int .i64 n),(10,.int .i64 k)] a) No 9 No:=by
 refine T3.leaf ?_;rintro Q JS JX JT K hS hK hX hE hT hR a w ⟨v5,l,hpre,hW,⟨fr,rfl,q0,q1,q5,q9,q10,_⟩⟩;have hpp:=Lib.hid hpre;have HW:=Lib.hid hW;obtain⟨p5,c5,rfl⟩:=(Row.of_owns hW.o).shape;clear hW;rw [fr_orM,fe q0,fe q1,fe q5,fe q9,fe q10];clear q0 q1 q5 q9 q10;conv=>arg 2;whnf
 go_wp2_with fail
 refine Met.intro (hS _ _ ?_);exact⟨_,_,hpp.out,HW.out,Fr.r rfl rfl⟩
theorem or5 (v5:Value)(l:List Int):T3 Tryz.prog (fun a w=>((0≤k∧k<n)∧CntI k l.length∧InN n l)∧(OrO B b w0 v5 l w)∧Fr 43 [(0,.pointer (some ⟨B,0,none⟩)),(1,.int .i64 n),(5,v5),(6,.int .i64 k),(9,.int .i64 n),(10,.int .i64 k)] a) (sel [1,1,0,1,4,4,1,1,0,4,1] orM) (fun a w=>∃(v5:Value) (l:List Int),((0≤k∧k<n)∧CntI (k+1) l.length∧InN n l)∧(OrO B b w0 v5 l w)∧Fr 43 [(0,.pointer (some ⟨B,0,none⟩)),(1,.int .i64 n),(5,v5),(9,.int .i64 n),(10,.int .i64 k)] a) No 9 No:=by
 refine T3.leaf ?_;rintro Q JS JX JT K hS hK hX hE hT hR a w ⟨hpre,hW,⟨fr,rfl,q0,q1,q5,q6,q9,q10,_⟩⟩;have hpp:=Lib.hid hpre;obtain⟨⟨hk0,hk1⟩,hl,_⟩:=hpre;have hl4:l.length≤1000:=by have:=hl.h;omega
 clear hl;have hE:=el_intO;have hz:=hW.d.size;obtain⟨p5,c5,rfl⟩:=(Row.of_owns hW.o).shape;rw [fr_orM,fe q0,fe q1,fe q5,fe q6,fe q9,fe q10];clear q0 q1 q5 q6 q9 q10;conv=>arg 2;whnf
 go_wp2_with (at_builtin;refine app_law rfl _ _ _ rfl hE (hW.o.alloc _) rfl [.int .i64 k] rfl rfl (cells_new w #[_] _) (by simp [Value.oneCell']) (by omega) (by simp;omega) ?_;intro v' w2 hown2 hgr2;have h2:=(hW.alloc _).app hown2 hgr2)
 refine Met.intro (hS _ _ ?_);exact⟨_,_,⟨hpp.out.1,⟨by have:=hpp.out.2.1.h;simp;omega⟩,hpp.out.2.2.snoc hpp.out.1.1 hpp.out.1.2⟩,h2,Fr.r rfl rfl⟩
theorem orb:T3 Tryz.prog (fun a w=>∃(v5:Value) (l:List Int),((0≤k∧k<n)∧CntI k l.length∧InN n l)∧(OrO B b w0 v5 l w)∧Fr 43 [(0,.pointer (some ⟨B,0,none⟩)),(1,.int .i64 n),(5,v5),(9,.int .i64 n),(10,.int .i64 k)] a) (sel [1,1,0,1,4,4,1,1,0] orM) (fun a w=>∃(v5:Value) (l:List Int),((0≤k∧k<n)∧CntI (k+1) l.length∧InN n l)∧(OrO B b w0 v5 l w)∧Fr 43 [(0,.pointer (some ⟨B,0,none⟩)),(1,.int .i64 n),(5,v5),(9,.int .i64 n),(10,.int .i64 k)] a) No 9 No:=T3.block (id':=1) (c:=(sel [1,1,0,1,4,4,1,1,0,4] orM)) (by decide) (T3.seq (s:=(sel [1,1,0,1,4,4,1,1,0,4,0] orM)) (c:=(sel [1,1,0,1,4,4,1,1,0,4,1] orM)) (or4 B b w0 n hn hb k) (T3.ex fun v5=>T3.ex fun l=>or5 B b w0 n hn hb k v5 l))
def orAI (B b:Nat)(w0:World)(n:Nat)(hn:n≤1000)(hb:b≤50000)(k:Int)(a:Act)(w:World):Prop:=(0≤k∧k≤n)∧∃(v5:Value) (l:List Int),(CntI k l.length∧InN n l)∧(OrO B b w0 v5 l w)∧Fr 43 [(0,.pointer (some ⟨B,0,none⟩)),(1,.int .i64 n),(5,v5),(9,.int .i64 n),(10,.int .i64 k)] a
theorem orAt:T3 Tryz.prog (fun a w=>orAI B b w0 n hn hb k a w) (sel [1,1,0,1,4,4,0] orM) (fun a w=>∃q,Fr 43 ((11,.bool q)::[(10,.int .i64 k)]) a∧((q=true↔k<n)∧orAI B b w0 n hn hb k a w)) No 9 No:=by
 refine T3.leaf ?_;rintro Q JS JX JT K hS hK hX hE hT hR a w ⟨hk,v5,l,hpre,hW,⟨fr,rfl,q0,q1,q5,q9,q10,_⟩⟩;have hn1:=hn;rw [fr_orM,fe q0,fe q1,fe q5,fe q9,fe q10];clear q0 q1 q5 q9 q10;conv=>arg 2;whnf
 by_cases hlt:k<n
 ·go_wp2_with fail
  refine Met.intro (hS _ _ ?_);exact⟨true,Fr.r rfl rfl,⟨fun _=>hlt,fun _=>rfl⟩,hk,v5,l,hpre,hW,Fr.r rfl rfl⟩
 ·have hpb:decide (k<(n))=false:=by simp;omega
  go_wp2_with fail
  refine Met.intro (hS _ _ ?_);exact⟨false,Fr.r rfl rfl,⟨(fun h=>by cases h),fun h=>absurd h (by omega)⟩,hk,v5,l,hpre,hW,Fr.r rfl rfl⟩
theorem orAn:T3 Tryz.prog (fun a w=>(0≤k∧k<n)∧∃(v5:Value) (l:List Int),(CntI (k+1) l.length∧InN n l)∧(OrO B b w0 v5 l w)∧Fr 43 [(0,.pointer (some ⟨B,0,none⟩)),(1,.int .i64 n),(5,v5),(9,.int .i64 n),(10,.int .i64 k)] a) (sel [1,1,0,1,4,4,1,1,1] orM) (fun a w=>orAI B b w0 n hn hb (k+1) a w) No 9 No:=by
 refine T3.leaf ?_;rintro Q JS JX JT K hS hK hX hE hT hR a w ⟨hk,v5,l,hpre,hW,⟨fr,rfl,q0,q1,q5,q9,q10,_⟩⟩;obtain⟨hk0,hk1⟩:=hk;have hn1:=hn;rw [fr_orM,fe q0,fe q1,fe q5,fe q9,fe q10];clear q0 q1 q5 q9 q10;conv=>arg 2;whnf
 go_wp2_with fail
 refine Met.intro (hS _ _ ?_);exact⟨⟨by omega,by omega⟩,v5,l,hpre,hW,Fr.r rfl rfl⟩
end
theorem orAloop:T3 Tryz.prog (fun a w=>orAI B b w0 n hn hb 0 a w) (sel [1,1,0,1] orM) (fun a w=>∃(v5:Value) (l:List Int),(CntI n l.length∧InN n l)∧(OrO B b w0 v5 l w)∧Fr 43 [(0,.pointer (some ⟨B,0,none⟩)),(1,.int .i64 n),(5,v5)] a) No 9 No :=
 T3.range (I:=orAI B b w0 n hn hb) rfl (by decide) (orAt B b w0 n hn hb) (orAn B b w0 n hn hb) (fun _ _ _ h=>h.1) (fun k hk=>T3.mono (orb B b w0 n hn hb k) (fun a w ⟨_,v5,l,hp,hI⟩=>⟨v5,l,⟨hk,hp⟩,hI⟩) (fun a w ⟨v5,l,⟨hk,hp⟩,hI⟩=>⟨hk,v5,l,hp,hI⟩) (fun _ _ q=>q) (fun _ _ q=>q)) (fun a w hI=>by
  obtain⟨hk,hI⟩:=hI;obtain⟨v5,l,hl,hW,hF⟩:=hI;exact⟨v5,l,hl,hW,hF.sub (by simp)⟩)
theorem or7 (v5:Value)(l:List Int)(hc:CntI n l.length)(hi:InN n l):T3 Tryz.prog (fun a w=>(OrO B b w0 v5 l w)∧Fr 43 [(0,.pointer (some ⟨B,0,none⟩)),(1,.int .i64 n),(5,v5)] a) (sel [1,1,1,0,0] orM) (fun a w=>(OrO B b w0 v5 l w)∧Fr 43 [(0,.pointer (some ⟨B,0,none⟩)),(1,.int .i64 n),(5,v5),(7,.int .i64 ((n:Int)-1))] a) No 9 No:=by
 refine T3.leaf ?_;rintro Q JS JX JT K hS hK hX hE hT hR a w ⟨hW,⟨fr,rfl,q0,q1,q5,_⟩⟩;have HW:=Lib.hid hW;obtain⟨p5,c5,rfl⟩:=(Row.of_owns hW.o).shape;clear hW;have e1:IntKind.i64.wrap ((n:Int)-1)=(n:Int)-1:=IntWalk.i64_in _ (by omega);rw [fr_orM,fe q0,fe q1,fe q5];clear q0 q1 q5;conv=>arg 2;whnf
 go_wp2_with fail
 refine Met.intro (hS _ _ ?_);exact⟨HW.out,Fr.r rfl rfl⟩
end
section
variable (B b:Nat)(w0:World)(n:Nat)(hn:n≤1000)(hb:b≤50000)(v5:Value)(l:List Int)(i:Int)(b2:Nat)
include B w0 hn hb v5 l i b2
section
variable (hi0:-1≤i)(hin:i<n)
include hi0 hin
theorem or8:T3 Tryz.prog (fun a w=>(OrO B b2 w0 v5 l w)∧Fr 43 [(0,.pointer (some ⟨B,0,none⟩)),(1,.int .i64 n),(5,v5),(7,.int .i64 i)] a) (sel [1,1,1,0,1,4,4,0,0] orM) (fun a w=>∃q,Fr 43 ((21,.bool q)::[(0,.pointer (some ⟨B,0,none⟩)),(1,.int .i64 n),(5,v5),(7,.int .i64 i)]) a∧((q=decide (0<i))∧OrO B b2 w0 v5 l w)) No 9 No:=by
 refine T3.leaf ?_;rintro Q JS JX JT K hS hK hX hE hT hR a w ⟨hW,⟨fr,rfl,q0,q1,q5,q7,_⟩⟩;have HW:=Lib.hid hW;obtain⟨p5,c5,rfl⟩:=(Row.of_owns hW.o).shape;clear hW;rw [fr_orM,fe q0,fe q1,fe q5,fe q7];clear q0 q1 q5 q7;conv=>arg 2;whnf
 go_wp2_with fail
 refine Met.intro (hS _ _ ?_);exact⟨_,Fr.r rfl rfl,rfl,HW.out⟩
theorem or10 (hpos:0<i)(hb2:b2≤60000):T3 Tryz.prog (fun a w=>(OrO B b2 w0 v5 l w)∧Fr 43 [(0,.pointer (some ⟨B,0,none⟩)),(1,.int .i64 n),(5,v5),(7,.int .i64 i)] a) (sel [1,1,1,0,1,4,4,1,0,4,0] orM) (fun a w=>∃(k:Int),(0≤k∧k≤i)∧(OrO B (b2+1) w0 v5 l w)∧Fr 43 [(0,.pointer (some ⟨B,0,none⟩)),(1,.int .i64 n),(5,v5),(7,.int .i64 i),(8,.int .i64 k)] a) No 9 No:=by
 refine T3.leaf ?_;rintro Q JS JX JT K hS hK hX hE hT hR a w ⟨hW,⟨fr,rfl,q0,q1,q5,q7,_⟩⟩;have HW:=Lib.hid hW;obtain⟨p5,c5,rfl⟩:=(Row.of_owns hW.o).shape;have e1:IntKind.i64.wrap (i+1)=i+1:=IntWalk.i64_in _ (by omega);rw [fr_orM,fe q0,fe q1,fe q5,fe q7];clear q0 q1 q5 q7;conv=>arg 2;whnf
 go_wp2_with fail
 refine(next_d B b2 (i+1) w hW.d.str (by omega) (by omega) (by omega)).mono ?_;rintro e w1 ⟨k,rfl,hk0,hk1,hd⟩;have HW1:=Lib.hid (HW.out.drawn hd);clear hW hd;go_wp2_with fail
 refine Met.intro (hS _ _ ?_);exact⟨k,⟨hk0,by omega⟩,HW1.out,Fr.r rfl rfl⟩
theorem or11 (hpos:0<i)(hb2:b2≤60000)(k:Int)(hk:0≤k∧k≤i)(hc:CntI n l.length)(hi:InN n l):T3 Tryz.prog (fun a w=>(OrO B (b2+1) w0 v5 l w)∧Fr 43 [(0,.pointer (some ⟨B,0,none⟩)),(1,.int .i64 n),(5,v5),(7,.int .i64 i),(8,.int .i64 k)] a) (sel [1,1,1,0,1,4,4,1,0,4,1] orM) (fun a w=>∃(l':List Int),(CntI n l'.length∧InN n l')∧(OrO B (b2+1) w0 v5 l' w)∧Fr 43 [(0,.pointer (some ⟨B,0,none⟩)),(1,.int .i64 n),(5,v5),(7,.int .i64 i)] a) No 9 No:=by
 refine T3.leafN ?_;rintro JS hS a w ⟨hW,⟨fr,rfl,q0,q1,q5,q7,q8,_⟩⟩;obtain⟨hk0,hk1⟩:=hk;have hl:(l.length:Int)=n:=hc.h;have hD:=hW.drawn (Drawn.drewN (Drawn.refl hW.d.str) 1);have hD:OrO B (b2+1) w0 v5 l w.drew:=hD;obtain⟨g5,c5,hv5,_,_,hn5,hm5⟩:=owns_shape hW.o (by omega);subst hv5;simp only [maxLen]at hm5;have t0:=ints_of_owns hD.o i (by omega) (by omega);have t1:=ints_of_owns hD.o k hk0 (by omega);have gi:=geti_in hi (k:=i) (by omega) (by omega);have gk:=geti_in hi (k:=k) hk0 (by omega);have f0:=owns_frozenC hD.o i.toNat;have hs1:=hD.set rfl i.toNat (by omega) (geti l k);have ho1:=hs1.o;rw [List.length_set]at ho1;have f1:=owns_frozenC ho1 k.toNat;have t2:=ints_of_owns ho1 k hk0 (by first|omega|(rw [List.length_set];omega)|(simp;omega));clear ho1;have hs2:=hs1.set (by simp) k.toNat (by simp;omega) (geti l i);have HF:=Lib.hid hs2;have HI:=Lib.hid ((hi.set i.toNat gk.1 gk.2).set k.toNat gi.1 gi.2);have HC:=Lib.hid hc;have G1:=Lib.hid (grown_setCell w.drew g5 i.toNat (.int .i64 (geti l k)));have G2:=Lib.hid (grown_trans G1.out (grown_setCell (w.drew.setCell ⟨g5,i.toNat,none⟩ (.int .i64 (geti l k))) g5 k.toNat (.int .i64 (geti l i))));have ii:0≤i∧i<l.length:=by omega
 have kk:0≤k∧k<l.length:=by omega
 clear hs1 hs2 hD hW hc hi gi gk;generalize hxi:geti l i=xi at *;generalize hxk:geti l k=xk at *;generalize geti (l.set i.toNat xk) k=xz at *;clear hxi hxk;have HL:=Lib.hid hl;clear hl;rw [fr_orM,fe q0,fe q1,fe q5,fe q7,fe q8];clear q0 q1 q5 q7 q8;conv=>arg 2;whnf
 refine wp_region_sch (some g5) (.calm 0 (.calm 1 (.calm 2 (.calm 3 (.calm 4 (.calm 5 (.calm 8 (.calm 9 (.calm 6 (.calm 10 (.two 7 11 (.one 11 (.calm 12 (.one 13 (.calm 14 (.one 15 .done))))) (.one 7 (.calm 12 (.one 13 (.calm 14 (.one 15 .done)))))))))))))))) (by kernel_rfl) (by kernel_rfl) (by intro c a d v w h;cases d <;> exact h) ?_;generalize hwd:w.drew=wd at *;clear hwd;refine sch_hide (fun W hH hC hN hT_ hE=>?_);refine hH.out _ _ _ _ _ rfl (fun K hK=>?_);go_simp;refine hK _ ?_;clear hK K;refine hH.out _ _ _ _ _ rfl (fun K hK=>?_);go_simp;refine hK _ ?_;clear hK K;refine hH.out _ _ _ _ _ rfl (fun K hK=>?_);go_simp;refine hK _ ?_;clear hK K;refine hH.out _ _ _ _ _ rfl (fun K hK=>?_);go_simp;refine hK _ ?_;clear hK K;refine hH.out _ _ _ _ _ rfl (fun K hK=>?_);go_simp;refine hK _ ?_;clear hK K;refine hH.out _ _ _ _ _ rfl (fun K hK=>?_);go_simp;refine hK _ ?_;clear hK K;refine hH.out _ _ _ _ _ rfl (fun K hK=>?_);go_simp;refine hK _ ?_;clear hK K;refine hH.out _ _ _ _ _ rfl (fun K hK=>?_);go_simp;refine hK _ ?_;clear hK K;refine hH.out _ _ _ _ _ rfl (fun K hK=>?_);go_simp;refine hK _ ?_;clear hK K;refine hH.out _ _ _ _ _ rfl (fun K hK=>?_);go_simp;refine hK _ ?_;clear hK K;refine hT_.out _ _ _ _ _ _ ?_ ?_
 ·refine hC.out _ _ _ _ _ rfl (by first|rfl|go_simp) (fun K hK=>?_);simp only [bare];go_wp2_with fail
  refine hK.out _ _ (grown_refl _ _) ?_;clear hK K;refine hC.out _ _ _ _ _ rfl (by first|rfl|go_simp) (fun K hK=>?_);simp only [bare];go_wp2_with fail
  refine hK.out _ _ (grown_refl _ _) ?_;clear hK K;refine hH.out _ _ _ _ _ rfl (fun K hK=>?_);go_simp;refine hK _ ?_;clear hK K;refine hC.out _ _ _ _ _ rfl (by first|rfl|go_simp) (fun K hK=>?_);simp only [bare];go_wp2_with fail
  generalize hw2:wd.setCell ⟨g5,i.toNat,none⟩ (.int .i64 xk)=w2 at *;clear hw2;refine hK.out _ _ (G1.out) ?_;clear hK K;refine hH.out _ _ _ _ _ rfl (fun K hK=>?_);go_simp;refine hK _ ?_;clear hK K;refine hC.out _ _ _ _ _ rfl (by first|rfl|go_simp) (fun K hK=>?_);simp only [bare];go_wp2_with fail
  refine hK.out _ _ (G2.out) ?_;clear hK K;refine hE.out _ _ ?_;clear hH hC hN hT_ hE W;show JS _ _;refine hS _ _ ?_;exact⟨_,⟨⟨by rw [List.length_set,List.length_set];exact HC.out.h⟩,HI.out⟩,HF.out,Fr.r rfl rfl⟩
 ·refine hC.out _ _ _ _ _ rfl (by first|rfl|go_simp) (fun K hK=>?_);simp only [bare];go_wp2_with fail
  refine hK.out _ _ (grown_refl _ _) ?_;clear hK K;refine hC.out _ _ _ _ _ rfl (by first|rfl|go_simp) (fun K hK=>?_);simp only [bare];go_wp2_with fail
  refine hK.out _ _ (grown_refl _ _) ?_;clear hK K;refine hH.out _ _ _ _ _ rfl (fun K hK=>?_);go_simp;refine hK _ ?_;clear hK K;refine hC.out _ _ _ _ _ rfl (by first|rfl|go_simp) (fun K hK=>?_);simp only [bare];go_wp2_with fail
  generalize hw2:wd.setCell ⟨g5,i.toNat,none⟩ (.int .i64 xk)=w2 at *;clear hw2;refine hK.out _ _ (G1.out) ?_;clear hK K;refine hH.out _ _ _ _ _ rfl (fun K hK=>?_);go_simp;refine hK _ ?_;clear hK K;refine hC.out _ _ _ _ _ rfl (by first|rfl|go_simp) (fun K hK=>?_);simp only [bare];go_wp2_with fail
  refine hK.out _ _ (G2.out) ?_;clear hK K;refine hE.out _ _ ?_;clear hH hC hN hT_ hE W;show JS _ _;refine hS _ _ ?_;exact⟨_,⟨⟨by rw [List.length_set,List.length_set];exact HC.out.h⟩,HI.out⟩,HF.out,Fr.r rfl rfl⟩
end
theorem or9 (hpos:0<i)(hin:i<n):T3 Tryz.prog (fun a w=>(OrO B b2 w0 v5 l w)∧Fr 43 [(0,.pointer (some ⟨B,0,none⟩)),(1,.int .i64 n),(5,v5),(7,.int .i64 i)] a) (sel [1,1,1,0,1,4,4,1,1] orM) (fun a w=>(OrO B b2 w0 v5 l w)∧Fr 43 [(0,.pointer (some ⟨B,0,none⟩)),(1,.int .i64 n),(5,v5),(7,.int .i64 (i-1))] a) No 9 No:=by
 refine T3.leaf ?_;rintro Q JS JX JT K hS hK hX hE hT hR a w ⟨hW,⟨fr,rfl,q0,q1,q5,q7,_⟩⟩;have HW:=Lib.hid hW;obtain⟨p5,c5,rfl⟩:=(Row.of_owns hW.o).shape;clear hW;have e1:IntKind.i64.wrap (i-1)=i-1:=IntWalk.i64_in _ (by omega);rw [fr_orM,fe q0,fe q1,fe q5,fe q7];clear q0 q1 q5 q7;conv=>arg 2;whnf
 go_wp2_with fail
 refine Met.intro (hS _ _ ?_);exact⟨HW.out,Fr.r rfl rfl⟩
end
end Go.Proofs.YtnmdpphddimfbaaGreat
/-
  Line-ups: an order that the stream hands out, whole. Conditions: the bounds that each theorem names.
-/
namespace Go.Proofs.YtnmdpphddimfbaaGreat
open Go.RowKit Go.Bw
section
variable (B b:Nat)(w0:World)(n:Nat)
include B b w0 n
theorem orB (hn:n≤1000)(hb:b≤50000)(v5:Value)(l:List Int)(hc:CntI n l.length)(hi:InN n l):T3 Tryz.prog (fun a w=>(OrO B b w0 v5 l w)∧Fr 43 [(0,.pointer (some ⟨B,0,none⟩)),(1,.int .i64 n),(5,v5)] a) (sel [1,1,1,0] orM) (fun a w=>∃(v5:Value) (l:List Int),(CntI n l.length∧InN n l)∧(OrO B (b+n) w0 v5 l w)∧Fr 43 [(5,v5)] a) No 9 No:=by
 refine T3.sq rfl (or7 B b w0 n hn hb v5 l hc hi) ?_;refine T3.loop (c:=(sel [1,1,1,0,1,4,4] orM)) (fun ng=>(fun a w=>∃(i:Int) (v5:Value) (l:List Int),(ng=i.toNat∧(-1≤i∧i<n)∧CntI n l.length∧InN n l)∧(OrO B (b+(n-i.toNat)) w0 v5 l w)∧Fr 43 [(0,.pointer (some ⟨B,0,none⟩)),(1,.int .i64 n),(5,v5),(7,.int .i64 i)] a)) (fun a w q=>⟨((n:Int)-1).toNat,(n:Int)-1,v5,l,⟨rfl,⟨by omega,by omega⟩,hc,hi⟩,q.1.mono (by omega),q.2⟩) (fun ng=>T3.ex fun i=>T3.ex fun v5=>T3.ex fun l=>T3.pure fun hp=>?_);obtain⟨hng,⟨hi0,hin⟩,hc,hi⟩:=hp;refine T3.sq rfl (S:=fun a w=>(0<i)∧(OrO B (b+(n-i.toNat)) w0 v5 l w)∧Fr 43 [(0,.pointer (some ⟨B,0,none⟩)),(1,.int .i64 n),(5,v5),(7,.int .i64 i)] a) ?_ (T3.pure fun hpos=>?_)
 ·refine T3.test (s:=(sel [1,1,1,0,1,4,4,0,0] orM)) (x:=.skip) (y:=.exit 2) (C:=fun q=>(q=decide (0<i))) (W:=fun w=>OrO B (b+(n-i.toNat)) w0 v5 l w) (by decide) ((or8 B b w0 n hn hb v5 l i (b+(n-i.toNat)) hi0 hin).noX) (T3.skip ?_) (T3.exit ?_)
  ·rintro a w ⟨hF,hq,hW⟩;exact⟨of_decide_eq_true hq.symm,hW,hF.tail⟩
  ·rintro a w ⟨hq,hW,hF⟩;exact⟨v5,l,⟨hc,hi⟩,hW.mono (by omega),hF.sub (by simp)⟩
 have hb2:b+(n-i.toNat)≤60000:=by omega
 refine T3.sq rfl (S:=fun a w=>∃l':List Int,(CntI n l'.length∧InN n l')∧(OrO B (b+(n-i.toNat)+1) w0 v5 l' w)∧Fr 43 [(0,.pointer (some ⟨B,0,none⟩)),(1,.int .i64 n),(5,v5),(7,.int .i64 i)] a) ?_ (T3.ex fun l'=>T3.pure fun hl=>?_)
 ·refine T3.block (id':=3) (c:=(sel [1,1,1,0,1,4,4,1,0,4] orM)) (by decide) ?_;refine T3.sq rfl ((or10 B b w0 n hn hb v5 l i (b+(n-i.toNat)) hi0 hin hpos hb2).noX) (T3.ex fun k=>T3.pure fun hk=>?_);exact(or11 B b w0 n hn hb v5 l i (b+(n-i.toNat)) hi0 hin hpos hb2 k hk hc hi).noX
 exact((or9 B b w0 n hn hb v5 l' i (b+(n-i.toNat)+1) hpos hin).noX).post (fun a w q=>⟨(i-1).toNat,by omega,i-1,v5,l',⟨rfl,⟨by omega,by omega⟩,hl⟩,q.1.mono (by omega),q.2⟩)
theorem or12 (v5:Value)(l:List Int):T3 Tryz.prog (fun a w=>(OrO B (b+n) w0 v5 l w)∧Fr 43 [(5,v5)] a) (sel [1,1,1,1,0] orM) (fun a w=>(OrO B (b+n) w0 v5 l w)∧Fr 43 [(4,v5)] a) No 9 No:=by
 refine T3.leaf ?_;rintro Q JS JX JT K hS hK hX hE hT hR a w ⟨hW,⟨fr,rfl,q5,_⟩⟩;have HW:=Lib.hid hW;obtain⟨p5,c5,rfl⟩:=(Row.of_owns hW.o).shape;clear hW;rw [fr_orM,fe q5];clear q5;conv=>arg 2;whnf
 go_wp2_with fail
 refine Met.intro (hS _ _ ?_);exact⟨HW.out,Fr.of _ rfl ⟨rfl,trivial⟩⟩
theorem or_all (hn:n≤1000)(hb:b≤50000):T3 Tryz.prog (fun a w=>(Str B w b∧IsW w0 w)∧Fr 43 [(0,.pointer (some ⟨B,0,none⟩)),(1,.int .i64 n)] a) orM No No 9 (fun a w=>∃(v5:Value) (l:List Int),(CntI n l.length∧InN n l)∧(OrO B (b+n) w0 v5 l w)∧Fr 43 [(4,v5)] a):=by
 refine T3.seq (s:=(sel [0] orM)) (c:=(sel [1] orM)) (T3.noT (or0 B b w0 n hn hb)) ?_;refine T3.sq rfl (T3.noT (or1 B b w0 n hn hb)) ?_;refine T3.sq rfl (T3.noT (T3.seq (s:=(sel [1,1,0,0] orM)) (c:=(sel [1,1,0,1] orM)) (or2 B b w0 n hn hb) (orAloop B b w0 n hn hb))) ?_;refine T3.sq rfl (T3.ex fun v5=>T3.ex fun l=>T3.pure fun h=>(orB B b w0 n hn hb v5 l h.1 h.2).noT) ?_;refine T3.ex fun v5=>T3.ex fun l=>T3.pure fun h=>?_
 exact T3.sr rfl (T3.noT (or12 B b w0 n v5 l)) (T3.ret fun a w q=>⟨v5,l,h,q⟩)
theorem order_any (hS:Str B w0 b)(hn:n≤1000)(hb:b≤50000):Calls Tryz.prog 42 #[.pointer (some ⟨B,0,none⟩),.int .i64 n] w0 fun e w'=>∃(v:Value) (l:List Int),e=.returned v∧(CntI n l.length∧InN n l)∧OrO B (b+n) w0 v l w':=by
 have hall:=or_all B b w0 n hn hb
 go_enter Tryz.func42,Tryz.ntmps42
 refine T3.done (s:=orM) hall ⟨⟨hS,rfl⟩,Fr.r rfl rfl⟩ ?_;rintro a w ⟨v,l,hn,hW,fr,rfl,q4,_⟩;rw [fr_orM,fe q4]
 go_ret
 exact⟨v,l,rfl,hn,hW⟩
end
end Go.Proofs.YtnmdpphddimfbaaGreat
