/-
  Contracts and lemmas towards the statement, of several parts; each part says ahead of it what it holds and under which conditions.
-/
import Derived.Test.YtnmdpphddimfbaaGreatMg6
import Derived.Test.YtnmdpphddimfbaaGreatMg7
import Derived.Test.YtnmdpphddimfbaaGreatMg8
set_option maxRecDepth 100000
set_option maxHeartbeats 1000000
set_option linter.unusedSectionVars false
/-
  Line-ups: the stream's Fills, up to its loops. Conditions: the bounds that each theorem names.
-/
set_option linter.unusedVariables false
namespace Go.Bw
open Go.RowKit Go.Maps
end Go.Bw
namespace Go.Proofs.YtnmdpphddimfbaaGreat
open Go.RowKit Go.Bw Go.Maps
theorem und_str:Tryz.prog.underlying 9=some .string:=by kernel_rfl
theorem und_bool:Tryz.prog.underlying 4=some .bool:=by kernel_rfl
theorem und_map:Tryz.prog.underlying 79=some (.map 9 4):=by kernel_rfl
noncomputable def fjM:Code:=(Tryz.f7.body).getD .skip
end Go.Proofs.YtnmdpphddimfbaaGreat
/-
  Line-ups: the stream's Fills, its rounds. Conditions: the bounds that each theorem names.
-/
namespace Go.Proofs.YtnmdpphddimfbaaGreat
open Go.RowKit Go.Bw Go.Maps
theorem FiO.apart {B b A1 m n:Nat}{w0 w:World}{vL v:Value}{Fs:List FlD}(h:FiO B b w0 A1 m n vL v Fs w):w0.heap.size≤w.heap.size∧w.heap.size≠A1∧w.heap.size≠m∧v.ownBlock≠some w.heap.size:=by
 refine⟨h.d.size,?_,?_,fun e=>?_⟩
 ·have:=(h.a.lt A1 rfl).2.1;omega
 ·obtain⟨D,hD⟩:=h.mp;have:=hD.lt;omega
 ·have:=(h.o.lt _ e).2;omega
end Go.Proofs.YtnmdpphddimfbaaGreat
/-
  Line-ups: the world within a round of the stream's Fills. Conditions: the bounds that each theorem names.
-/
namespace Go.Proofs.YtnmdpphddimfbaaGreat
open Go.RowKit Go.Bw Go.Maps
/-- A round of Fills: the box of its slot and the box of its fill. -/
structure FiR (B b:Nat)(w0:World)(A1 m n:Nat)(vL v:Value)(Fs:List FlD)(A2 A3:Nat)(x:SlD)(pl:ByteArray)(w:World):Prop where
 f:FiO B b w0 A1 m n vL v Fs w
 b2:RHd 72 B w.heap.size w 2 (.slice (some ⟨A2,0,none⟩) 2 2) [.string x.key,x.pv]
 b3:w.ownsRow w0.heap.size 49 2 (.slice (some ⟨A3,0,none⟩) 1 1) 1 [.string x.key,.string pl]
 n1:A1≠A3
 n2:m≠A3
 n3:v.ownBlock≠some A3
 z:Sm x.key∧Sm pl
section
variable {B b b' A1 m n A2 A3:Nat}{w0 w w':World}{vL v:Value}{Fs:List FlD}{x:SlD}{pl:ByteArray}
section
variable (h:FiR B b w0 A1 m n vL v Fs A2 A3 x pl w)
include h
theorem FiR.drawn (d:Drawn B w w' b'):FiR B b' w0 A1 m n vL v Fs A2 A3 x pl w' :=
 ⟨h.f.drawn d,(h.b2.str d.gr).mono d.size,owns_drawn h.b3 d h.f.hB,h.n1,h.n2,h.n3,h.z⟩
theorem FiR.mono (hb:b≤b'):FiR B b' w0 A1 m n vL v Fs A2 A3 x pl w:=⟨h.f.mono hb,h.b2,h.b3,h.n1,h.n2,h.n3,h.z⟩
theorem FiR.alloc (ob:Obj):FiR B b w0 A1 m n vL v Fs A2 A3 x pl (w.alloc ob):=h.drawn ((Drawn.refl h.f.d.str).alloc ob)
theorem FiR.below (g:Below w.heap.size w w'):FiR B b w0 A1 m n vL v Fs A2 A3 x pl w':=h.drawn ((Drawn.refl h.f.d.str).below g)
theorem FiR.slot:w.cell? ⟨A2,0,none⟩=some (.string x.key)∧w.cell? ⟨A2,1,none⟩=some x.pv:=by
 rcases h.b2.row.2 with ⟨h0,_⟩|⟨g,off,cap,hv,_,_,_,_,hc⟩
 ·cases h0
 ·simp only [Value.slice.injEq,Option.some.injEq,Addr.mk.injEq]at hv;obtain⟨⟨rfl,rfl,_⟩,_,_⟩:=hv;exact⟨hc 0 _ rfl,hc 1 _ rfl⟩
theorem FiR.fill:w.cell? ⟨A3,0,none⟩=some (.string x.key)∧w.cell? ⟨A3,1,none⟩=some (.string pl):=by
 rcases(Row.of_owns h.b3).2 with ⟨h0,_⟩|⟨g,off,cap,hv,_,_,_,_,hc⟩
 ·cases h0
 ·simp only [Value.slice.injEq,Option.some.injEq,Addr.mk.injEq]at hv;obtain⟨⟨rfl,rfl,_⟩,_,_⟩:=hv;exact⟨hc 0 _ rfl,hc 1 _ rfl⟩
theorem FiR.put (q:ByteArray)(hq:Sm q):FiR B b w0 A1 m n vL v Fs A2 A3 x q (w.setCell ⟨A3,1,none⟩ (.string q)):=by
 have g1:=grown_setCell w A3 1 (.string q);refine⟨h.f.put A3 g1 (h.b3.lt A3 rfl).1 h.n1 h.n2 h.n3,(h.b2.other h.b3 (by decide) g1).mono g1.size,?_,h.n1,h.n2,h.n3,⟨h.z.1,hq⟩⟩;exact owns_setC h.b3 1 (by omega) (.string q)
end
end
end Go.Proofs.YtnmdpphddimfbaaGreat
/-
  Line-ups: the stream's Fills, within a round. Conditions: the bounds that each theorem names.
-/
namespace Go.Bw
open Go.RowKit
/-- A row of elements of several cells, just made. -/
theorem owns_litZ (w:World)(base e:TypeId)(cs:Array Value)(n sz:Nat)(hn:n≤1099511627776)(hs:cs.size=n*sz)(hb:base≤w.heap.size):
  (w.alloc (.cells cs e)).ownsRow base e sz (.slice (some ⟨w.heap.size,0,none⟩) n n) n cs.toList :=
 ⟨by simp [hs],.inr ⟨w.heap.size,n,cs,rfl,hb,heap_alloc_new w _,Nat.le_refl _,by unfold maxLen;omega,by simp [hs],by rw [List.take_of_length_le (by simp [hs])]⟩⟩
end Go.Bw
namespace Go.Proofs.YtnmdpphddimfbaaGreat
open Go.RowKit Go.Bw Go.Maps
end Go.Proofs.YtnmdpphddimfbaaGreat
/-
  The reference's search for the best line-ups, one step. Conditions: at most 4 slots and 6 scorers; points are right.
-/
namespace Go.Proofs.YtnmdpphddimfbaaGreat
open Go.RowKit Go.Bw
def costN:Nat→Nat
 | 0=>0
 | r+1=>1+7*costN r
def kC (S:List SlD)(L:List ScD)(i u:Nat):Nat→Bool:=fun k=>!bitU u k&&fitP S L k i
def kY (S:List SlD)(L:List ScD)(i u:Nat):Nat→LuR:=fun k=>luY L (luS S L (S.length-(i+1)) (i+1) (updU (bitU u) k)) k
def kZ (S:List SlD)(L:List ScD)(i u:Nat):LuR:=luZ (luM S L (i+1) u)
def kX (S:List SlD)(L:List ScD)(i u:Nat)(k:Nat):LuR:=luTo (kC S L i u) (kY S L i u) (kZ S L i u) k
theorem luM_eq {S:List SlD}{L:List ScD}{i u:Nat}(hi:i<S.length):kX S L i u L.length=luM S L i u:=by
 have hr:S.length-i=(S.length-(i+1))+1:=by omega
 unfold luM;rw [hr];rfl
theorem bit_or {u k:Nat}:bitU (u ||| 2 ^ k)=updU (bitU u) k:=by
 funext j
 unfold bitU updU;rw [Nat.testBit_or,Nat.testBit_two_pow]
 by_cases e:k=j
 ·subst e;simp
 ·have e':¬j=k:=fun q=>e q.symm
  simp [e,e']
section
variable {S:List SlD}{L:List ScD}{i u k:Nat}
include S L i u k
theorem kY_eq:kY S L i u k=luY L (luM S L (i+1) (u ||| 2 ^ k)) k:=by
 unfold kY luM;rw [bit_or]
theorem kX_hit (hc:kC S L i u k=true)(hb:betterB (kY S L i u k) (kX S L i u k)=true):kX S L i u (k+1)=kY S L i u k:=by
 show(if kC S L i u k=true then _ else _)=_;rw [if_pos hc];show(if betterB (kY S L i u k) (kX S L i u k)=true then _ else _)=_;rw [if_pos hb]
theorem kX_miss (hb:betterB (kY S L i u k) (kX S L i u k)=false):kX S L i u (k+1)=kX S L i u k:=by
 show(if kC S L i u k=true then _ else _)=_
 split
 ·show(if betterB (kY S L i u k) (kX S L i u k)=true then _ else _)=_;rw [if_neg (by rw [hb];decide)];rfl
 ·rfl
theorem kX_skip (hc:kC S L i u k=false):kX S L i u (k+1)=kX S L i u k:=by
 show(if kC S L i u k=true then _ else _)=_;rw [if_neg (by rw [hc];decide)];rfl
end
theorem kX_len (S:List SlD)(L:List ScD)(i u k:Nat):(kX S L i u k).who.length=S.length-(i+1)+1 :=
 luTo_who (p:=fun x=>x.who.length=S.length-(i+1)+1) (by show(_::(luM S L (i+1) u).who).length=_;unfold luM;rw [List.length_cons,luS_len]) (fun k=>by show(_::_).length=_;rw [List.length_cons,luS_len]) k
theorem bit_w6:∀ s:Nat,s<64→∀i:Nat,i<6→(bits BinOp.and IntKind.i64 ((s:Int) / 2 ^ i) 1=1↔s.testBit i=true):=by decide +kernel
theorem or_w6:∀ s:Nat,s<64→∀i:Nat,i<6→bits BinOp.or IntKind.i64 (s:Int) (IntKind.i64.wrap (2 ^ i))=((s ||| 2 ^ i:Nat):Int)∧s ||| 2 ^ i<64:=by decide +kernel
theorem cells8 {w:World}{base g:Nat}{a b c:Value}(h:w.ownsRow base 103 3 (.slice (some ⟨g,0,none⟩) 1 1) 1 [a,b,c]):w.cell? ⟨g,0,none⟩=some a∧w.cell? ⟨g,1,none⟩=some b∧w.cell? ⟨g,2,none⟩=some c:=by
 rcases(Row.of_owns h).2 with ⟨h0,_⟩|⟨g',off,cap,hv,_,_,_,_,hc⟩
 ·cases h0
 ·simp only [Value.slice.injEq,Option.some.injEq,Addr.mk.injEq]at hv;obtain⟨⟨rfl,rfl,_⟩,_,_⟩:=hv;exact⟨hc 0 _ rfl,hc 1 _ rfl,hc 2 _ rfl⟩
noncomputable def lcR:Code:=(Tryz.f61.body).getD .skip
theorem fr_lcR (f:Nat→Value):frame 108 f=⟨#[f 0,f 1,f 2,f 3,f 4,f 5,f 6,f 7,f 8,f 9,f 10,f 11,f 12,f 13,f 14,f 15,f 16,f 17,f 18,f 19,f 20,f 21,f 22,f 23,f 24,f 25,f 26,f 27,f 28,f 29,f 30,f 31,f 32,f 33,f 34,f 35,f 36,f 37,f 38,f 39,f 40,f 41,f 42,f 43,f 44,f 45,f 46,f 47,f 48,f 49,f 50,f 51,f 52,f 53,f 54,f 55,f 56,f 57,f 58,f 59,f 60,f 61,f 62,f 63,f 64,f 65,f 66,f 67,f 68,f 69,f 70,f 71,f 72,f 73,f 74,f 75,f 76,f 77,f 78,f 79,f 80,f 81,f 82,f 83,f 84,f 85,f 86,f 87,f 88,f 89,f 90,f 91,f 92,f 93,f 94,f 95,f 96,f 97,f 98,f 99,f 100,f 101,f 102,f 103,f 104,f 105,f 106,f 107],[]⟩:=by rfl
section
variable (b2 b3 b4 b5 m n:Nat)(vs:Value)(S:List SlD)(vl:Value)(L:List ScD)(i u:Nat)(w0:World)(hx:ClX w0 b2 b3 b4 b5 m n vs S vl L)(hp:ScP L)(hS:S.length≤4)(hl:L.length≤6)(hi:i≤S.length)(hu:u<64)(hn:n+costN (S.length-i)≤10000)
include hx hp hS hl hi hu hn
theorem lc0:T3 Tryz.prog (fun a w=>(IsW w0 w)∧Fr 108 [(0,.int .i64 (i:Int)),(1,.int .i64 (u:Int)),(2,.pointer (some ⟨b2,0,none⟩)),(3,.pointer (some ⟨b3,0,none⟩)),(4,.pointer (some ⟨b4,0,none⟩)),(5,.pointer (some ⟨b5,0,none⟩))] a) (sel [0] lcR) (fun a w=>(ClS w0 w m (n) S L∧w.ownsRow w0.heap.size 103 3 (.slice (some ⟨w0.heap.size,0,none⟩) 1 1) 1 [.int .i64 0,.int .i64 0,.slice none 0 0])∧Fr 108 [(0,.int .i64 (i:Int)),(1,.int .i64 (u:Int)),(2,.pointer (some ⟨b2,0,none⟩)),(3,.pointer (some ⟨b3,0,none⟩)),(4,.pointer (some ⟨b4,0,none⟩)),(5,.pointer (some ⟨b5,0,none⟩)),(8,.pointer (some ⟨w0.heap.size,0,none⟩))] a) No 9 No:=by
 refine T3.leaf ?_;rintro Q JS JX JT K hS_ hK hX hE hT hR a w ⟨hW,⟨fr,rfl,q0,q1,q2,q3,q4,q5,_⟩⟩;obtain rfl:w=w0:=hW;have ha:=(Below.refl w.heap.size w).alloc (Nat.le_refl _) (.cells #[.int .i64 0,.int .i64 0,.slice none 0 0] 103);have HR:=Lib.hid (show ClS w (w.alloc (.cells #[.int .i64 0,.int .i64 0,.slice none 0 0] 103)) m n S L∧(w.alloc (.cells #[.int .i64 0,.int .i64 0,.slice none 0 0] 103)).ownsRow w.heap.size 103 3 (.slice (some ⟨w.heap.size,0,none⟩) 1 1) 1 [.int .i64 0,.int .i64 0,.slice none 0 0]from
  ⟨⟨grown_of_below ha,hx.mp.below ha⟩,owns_litZ w w.heap.size 103 #[.int .i64 0,.int .i64 0,.slice none 0 0] 1 3 (by decide) rfl (Nat.le_refl _)⟩)
 clear hx hp ha;rw [fr_lcR,fe q0,fe q1,fe q2,fe q3,fe q4,fe q5];clear q0 q1 q2 q3 q4 q5;conv=>arg 2;whnf
 go_wp2_with fail
 refine Met.intro (hS_ _ _ ?_);exact⟨HR.out,Fr.r rfl rfl⟩
theorem lc1:T3 Tryz.prog (fun a w=>(ClS w0 w m (n) S L∧w.ownsRow w0.heap.size 103 3 (.slice (some ⟨w0.heap.size,0,none⟩) 1 1) 1 [.int .i64 0,.int .i64 0,.slice none 0 0])∧Fr 108 [(0,.int .i64 (i:Int)),(1,.int .i64 (u:Int)),(2,.pointer (some ⟨b2,0,none⟩)),(3,.pointer (some ⟨b3,0,none⟩)),(4,.pointer (some ⟨b4,0,none⟩)),(5,.pointer (some ⟨b5,0,none⟩)),(8,.pointer (some ⟨w0.heap.size,0,none⟩))] a) (sel [1,0,0] lcR) (fun a w=>∃q,Fr 108 ((20,.bool q)::[(0,.int .i64 (i:Int)),(1,.int .i64 (u:Int)),(2,.pointer (some ⟨b2,0,none⟩)),(3,.pointer (some ⟨b3,0,none⟩)),(4,.pointer (some ⟨b4,0,none⟩)),(5,.pointer (some ⟨b5,0,none⟩)),(8,.pointer (some ⟨w0.heap.size,0,none⟩))]) a∧((q=((i:Int)==(S.length:Int)))∧ClS w0 w m (n) S L∧w.ownsRow w0.heap.size 103 3 (.slice (some ⟨w0.heap.size,0,none⟩) 1 1) 1 [.int .i64 0,.int .i64 0,.slice none 0 0])) No 9 No:=by
 refine T3.leaf ?_;rintro Q JS JX JT K hS_ hK hX hE hT hR a w ⟨hW,⟨fr,rfl,q0,q1,q2,q3,q4,q5,q8,_⟩⟩;have X:=hW.1.x hx;have c2:=X.c2;have HW:=Lib.hid hW;obtain⟨ps,cs,rfl⟩:=X.s.r.shape;obtain⟨pl,cl,rfl⟩:=X.c.r.shape;clear hW X hx hp;rw [fr_lcR,fe q0,fe q1,fe q2,fe q3,fe q4,fe q5,fe q8];clear q0 q1 q2 q3 q4 q5 q8;conv=>arg 2;whnf
 go_wp2_with fail
 refine Met.intro (hS_ _ _ ?_);exact⟨_,Fr.r rfl rfl,rfl,HW.out⟩
theorem lc2:T3 Tryz.prog (fun a w=>(ClS w0 w m (n) S L∧w.ownsRow w0.heap.size 103 3 (.slice (some ⟨w0.heap.size,0,none⟩) 1 1) 1 [.int .i64 0,.int .i64 0,.slice none 0 0])∧Fr 108 [(0,.int .i64 (i:Int)),(1,.int .i64 (u:Int)),(2,.pointer (some ⟨b2,0,none⟩)),(3,.pointer (some ⟨b3,0,none⟩)),(4,.pointer (some ⟨b4,0,none⟩)),(5,.pointer (some ⟨b5,0,none⟩)),(8,.pointer (some ⟨w0.heap.size,0,none⟩))] a) (sel [1,0,1,2,0] lcR) (fun a w=>∃(sv:Value),(ClS w0 w m (n) S L∧BxO m w0.heap.size w w0.heap.size ⟨0,0,[]⟩ sv)∧Fr 108 [(8,.pointer (some ⟨w0.heap.size,0,none⟩))] a) No 9 No:=by
 refine T3.leaf ?_;rintro Q JS JX JT K hS_ hK hX hE hT hR a w ⟨hW,⟨fr,rfl,q0,q1,q2,q3,q4,q5,q8,_⟩⟩;have hW8:=hW.2;have hml:m<w0.heap.size:=by obtain⟨es,cl,hb,_⟩:=hx.mp;exact(Array.getElem?_eq_some_iff.1 hb).1
 obtain⟨r0,r1,r2⟩:=cells8 hW8;have f0:=owns_frozenC hW8 0;have f1:=owns_frozenC hW8 1;have f2:=owns_frozenC hW8 2;have HF:=Lib.hid (And.intro (hW.1.put3 hW8 hml (.int .i64 0) (.int .i64 0) (.slice none 0 0)) (BxO.put (m:=m) (y:=⟨0,0,[]⟩) (sy:=.slice none 0 0) hW8 ⟨⟨rfl,.inl ⟨rfl,rfl⟩⟩,fun k hk=>by simp [Value.ownBlock]at hk⟩));clear hW hW8 hx hp;rw [fr_lcR,fe q0,fe q1,fe q2,fe q3,fe q4,fe q5,fe q8];clear q0 q1 q2 q3 q4 q5 q8;conv=>arg 2;whnf
 go_wp2_with fail
 refine Met.intro (hS_ _ _ ?_);exact⟨_,HF.out,Fr.of _ rfl ⟨rfl,trivial⟩⟩
theorem lc3:T3 Tryz.prog (fun a w=>(ClS w0 w m (n) S L∧w.ownsRow w0.heap.size 103 3 (.slice (some ⟨w0.heap.size,0,none⟩) 1 1) 1 [.int .i64 0,.int .i64 0,.slice none 0 0])∧Fr 108 [(0,.int .i64 (i:Int)),(1,.int .i64 (u:Int)),(2,.pointer (some ⟨b2,0,none⟩)),(3,.pointer (some ⟨b3,0,none⟩)),(4,.pointer (some ⟨b4,0,none⟩)),(5,.pointer (some ⟨b5,0,none⟩)),(8,.pointer (some ⟨w0.heap.size,0,none⟩))] a) (sel [1,1,0,0] lcR) (fun a w=>∃(g9:Nat) (ok:Bool),((ClS w0 w m (n) S L∧w.ownsRow w0.heap.size 103 3 (.slice (some ⟨w0.heap.size,0,none⟩) 1 1) 1 [.int .i64 0,.int .i64 0,.slice none 0 0])∧(ok=true→∃sv,Bx3 m w g9 (luM S L i u) sv))∧Fr 108 [(0,.int .i64 (i:Int)),(1,.int .i64 (u:Int)),(2,.pointer (some ⟨b2,0,none⟩)),(3,.pointer (some ⟨b3,0,none⟩)),(4,.pointer (some ⟨b4,0,none⟩)),(5,.pointer (some ⟨b5,0,none⟩)),(8,.pointer (some ⟨w0.heap.size,0,none⟩)),(9,.pointer (some ⟨g9,0,none⟩)),(10,.bool ok)] a) No 9 No:=by
 refine T3.leaf ?_;rintro Q JS JX JT K hS_ hK hX hE hT hR a w ⟨hW,⟨fr,rfl,q0,q1,q2,q3,q4,q5,q8,_⟩⟩;have X:=hW.1.x hx;have c3:=X.c3;have HB:=Lib.hid (fun o=>(Below.refl w.heap.size w).alloc (Nat.le_refl _) o);have HN:=Lib.hid (fun(w':World) (b:Below w.heap.size w w')=>And.intro (hW.1.below b) (owns_below hW.2 b (Nat.le_refl _)));rcases hW.1.mp.look (show i<5 by omega) hu with hrun|⟨v,⟨sv,rfl,hr⟩,hrun⟩
 ·unfold keyV at hrun;clear hW X hx hp;rw [fr_lcR,fe q0,fe q1,fe q2,fe q3,fe q4,fe q5,fe q8];clear q0 q1 q2 q3 q4 q5 q8;conv=>arg 2;whnf
  go_wp2_with fail
  refine Met.intro (hS_ _ _ ?_);exact⟨_,_,⟨HN.out _ (HB.out _),fun h=>by cases h⟩,Fr.r rfl rfl⟩
 ·unfold keyV at hrun;obtain⟨q,d,rfl⟩:=hr.row.shape;have HR:=Lib.hid (show Bx3 m (w.alloc (.cells #[.int .i64 (luM S L i u).sum,.int .i64 (luM S L i u).many,.slice q (luM S L i u).who.length d] 103)) w.heap.size (luM S L i u) (.slice q (luM S L i u).who.length d)from
   ⟨cells_new w _ _ 0 _ rfl,cells_new w _ _ 1 _ rfl,cells_new w _ _ 2 _ rfl,(hr.under ((Below.refl w.heap.size w).alloc (Nat.le_refl _) _)).mono (by simp)⟩)
  clear hW X hx hp hr;generalize luM S L i u=lm at *;rw [fr_lcR,fe q0,fe q1,fe q2,fe q3,fe q4,fe q5,fe q8];clear q0 q1 q2 q3 q4 q5 q8;conv=>arg 2;whnf
  go_wp2_with fail
  refine Met.intro (hS_ _ _ ?_);exact⟨_,_,⟨HN.out _ (HB.out _),fun _=>⟨_,HR.out⟩⟩,Fr.r rfl rfl⟩
theorem lc4 (g9:Nat)(ok:Bool):T3 Tryz.prog (fun a w=>((ClS w0 w m (n) S L∧w.ownsRow w0.heap.size 103 3 (.slice (some ⟨w0.heap.size,0,none⟩) 1 1) 1 [.int .i64 0,.int .i64 0,.slice none 0 0])∧(ok=true→∃sv,Bx3 m w g9 (luM S L i u) sv))∧Fr 108 [(0,.int .i64 (i:Int)),(1,.int .i64 (u:Int)),(2,.pointer (some ⟨b2,0,none⟩)),(3,.pointer (some ⟨b3,0,none⟩)),(4,.pointer (some ⟨b4,0,none⟩)),(5,.pointer (some ⟨b5,0,none⟩)),(8,.pointer (some ⟨w0.heap.size,0,none⟩)),(9,.pointer (some ⟨g9,0,none⟩)),(10,.bool ok)] a) (sel [1,1,0,1,0] lcR) (fun a w=>∃q,Fr 108 ((30,.bool q)::[(0,.int .i64 (i:Int)),(1,.int .i64 (u:Int)),(2,.pointer (some ⟨b2,0,none⟩)),(3,.pointer (some ⟨b3,0,none⟩)),(4,.pointer (some ⟨b4,0,none⟩)),(5,.pointer (some ⟨b5,0,none⟩)),(8,.pointer (some ⟨w0.heap.size,0,none⟩)),(9,.pointer (some ⟨g9,0,none⟩)),(10,.bool ok)]) a∧((q=ok)∧(ClS w0 w m (n) S L∧w.ownsRow w0.heap.size 103 3 (.slice (some ⟨w0.heap.size,0,none⟩) 1 1) 1 [.int .i64 0,.int .i64 0,.slice none 0 0])∧(ok=true→∃sv,Bx3 m w g9 (luM S L i u) sv))) No 9 No:=by
 refine T3.leaf ?_;rintro Q JS JX JT K hS_ hK hX hE hT hR a w ⟨hW,⟨fr,rfl,q0,q1,q2,q3,q4,q5,q8,q9,q10,_⟩⟩;have HW:=Lib.hid hW;clear hW hx hp;rw [fr_lcR,fe q0,fe q1,fe q2,fe q3,fe q4,fe q5,fe q8,fe q9,fe q10];clear q0 q1 q2 q3 q4 q5 q8 q9 q10;conv=>arg 2;whnf
 go_wp2_with fail
 refine Met.intro (hS_ _ _ ?_);exact⟨_,Fr.r rfl rfl,rfl,HW.out⟩
theorem lc5 (g9:Nat)(sv:Value):T3 Tryz.prog (fun a w=>((ClS w0 w m (n) S L∧w.ownsRow w0.heap.size 103 3 (.slice (some ⟨w0.heap.size,0,none⟩) 1 1) 1 [.int .i64 0,.int .i64 0,.slice none 0 0])∧Bx3 m w g9 (luM S L i u) sv)∧Fr 108 [(0,.int .i64 (i:Int)),(1,.int .i64 (u:Int)),(2,.pointer (some ⟨b2,0,none⟩)),(3,.pointer (some ⟨b3,0,none⟩)),(4,.pointer (some ⟨b4,0,none⟩)),(5,.pointer (some ⟨b5,0,none⟩)),(8,.pointer (some ⟨w0.heap.size,0,none⟩)),(9,.pointer (some ⟨g9,0,none⟩))] a) (sel [1,1,0,1,1,2,0] lcR) (fun a w=>∃(sv:Value),(ClS w0 w m (n) S L∧BxO m w0.heap.size w w0.heap.size (luM S L i u) sv)∧Fr 108 [(8,.pointer (some ⟨w0.heap.size,0,none⟩))] a) No 9 No:=by
 refine T3.leaf ?_;rintro Q JS JX JT K hS_ hK hX hE hT hR a w ⟨hW,⟨fr,rfl,q0,q1,q2,q3,q4,q5,q8,q9,_⟩⟩;have hW8:=hW.1.2;obtain⟨t0,t1,t2,hr⟩:=hW.2;have hml:m<w0.heap.size:=by obtain⟨es,cl,hb,_⟩:=hx.mp;exact(Array.getElem?_eq_some_iff.1 hb).1
 obtain⟨r0,r1,r2⟩:=cells8 hW8;have f0:=owns_frozenC hW8 0;have f1:=owns_frozenC hW8 1;have f2:=owns_frozenC hW8 2;have HF:=Lib.hid (And.intro (hW.1.1.put3 hW8 hml (.int .i64 (luM S L i u).sum) (.int .i64 (luM S L i u).many) sv) (BxO.put (m:=m) (y:=(luM S L i u)) (sy:=sv) hW8 hr));obtain⟨q,d,rfl⟩:=hr.row.shape;clear hW hW8 hx hp hr;generalize (luM S L i u)=lm at *;rw [fr_lcR,fe q0,fe q1,fe q2,fe q3,fe q4,fe q5,fe q8,fe q9];clear q0 q1 q2 q3 q4 q5 q8 q9;conv=>arg 2;whnf
 go_wp2_with fail
 refine Met.intro (hS_ _ _ ?_);exact⟨_,HF.out,Fr.of _ rfl ⟨rfl,trivial⟩⟩
theorem lc6 (hlt:i<S.length)(ih:∀(u2 n2:Nat) (w2:World),u2<64→ClX w2 b2 b3 b4 b5 m n2 vs S vl L→n2+costN (S.length-(i+1))≤10000→Calls Tryz.prog 61 #[.int .i64 ((i+1:Nat):Int),.int .i64 (u2:Int),.pointer (some ⟨b2,0,none⟩),.pointer (some ⟨b3,0,none⟩),.pointer (some ⟨b4,0,none⟩),.pointer (some ⟨b5,0,none⟩)] w2 fun e w3=>∃v,e=.returned v∧LuV m w3 (luM S L (i+1) u2) v∧MapL w3 m (n2+costN (S.length-(i+1))) S L∧w2.grownBy w3 (some m)):T3 Tryz.prog (fun a w=>(ClS w0 w m (n) S L∧w.ownsRow w0.heap.size 103 3 (.slice (some ⟨w0.heap.size,0,none⟩) 1 1) 1 [.int .i64 0,.int .i64 0,.slice none 0 0])∧Fr 108 [(0,.int .i64 (i:Int)),(1,.int .i64 (u:Int)),(2,.pointer (some ⟨b2,0,none⟩)),(3,.pointer (some ⟨b3,0,none⟩)),(4,.pointer (some ⟨b4,0,none⟩)),(5,.pointer (some ⟨b5,0,none⟩)),(8,.pointer (some ⟨w0.heap.size,0,none⟩))] a) (sel [1,1,1,0] lcR) (fun a w=>∃(g11:Nat) (sv:Value),((ClS w0 w m (n+costN (S.length-(i+1))) S L∧w.ownsRow w0.heap.size 103 3 (.slice (some ⟨w0.heap.size,0,none⟩) 1 1) 1 [.int .i64 0,.int .i64 0,.slice none 0 0])∧Bx3 m w g11 (luM S L (i+1) u) sv)∧Fr 108 [(0,.int .i64 (i:Int)),(1,.int .i64 (u:Int)),(2,.pointer (some ⟨b2,0,none⟩)),(3,.pointer (some ⟨b3,0,none⟩)),(4,.pointer (some ⟨b4,0,none⟩)),(5,.pointer (some ⟨b5,0,none⟩)),(8,.pointer (some ⟨w0.heap.size,0,none⟩)),(11,.pointer (some ⟨g11,0,none⟩))] a) No 9 No:=by
 refine T3.leaf ?_;rintro Q JS JX JT K hS_ hK hX hE hT hR a w ⟨hW,⟨fr,rfl,q0,q1,q2,q3,q4,q5,q8,_⟩⟩;have hcs:costN (S.length-i)=1+7*costN (S.length-(i+1)):=by
  rw [show S.length-i=(S.length-(i+1))+1 by omega];rfl
 have hi5:i<5:=by omega
 have hml:m<w0.heap.size:=by obtain⟨es,cl,hb,_⟩:=hx.mp;exact(Array.getElem?_eq_some_iff.1 hb).1
 have X:=hW.1.x hx;have c4:=X.c4;have HC:=Lib.hid (ih u n w hu X (by omega));have e1:((i+1:Nat):Int)=(i:Int)+1:=by omega
 rw [e1]at HC;have HW:=Lib.hid hW;clear hW X hx hp ih e1 hcs hn;generalize luM S L (i+1) u=lm at *;rw [fr_lcR,fe q0,fe q1,fe q2,fe q3,fe q4,fe q5,fe q8];clear q0 q1 q2 q3 q4 q5 q8;conv=>arg 2;whnf
 go_wp2_with fail
 refine HC.out.mono ?_;rintro e w1 ⟨v,rfl,⟨sv,rfl,hr⟩,hmp,hg⟩;have HB:=Lib.hid ((Below.refl w1.heap.size w1).alloc (Nat.le_refl _) (.cells #[.int .i64 lm.sum,.int .i64 lm.many,sv] 103));have H1:=Lib.hid (show(ClS w0 w1 m (n+costN (S.length-(i+1))) S L∧w1.ownsRow w0.heap.size 103 3 (.slice (some ⟨w0.heap.size,0,none⟩) 1 1) 1 [.int .i64 0,.int .i64 0,.slice none 0 0])from⟨HW.out.1.call hg hmp,HW.out.2.kept hg (.inr (by simp [Value.ownBlock];omega))⟩);have HR:=Lib.hid (show Bx3 m (w1.alloc (.cells #[.int .i64 lm.sum,.int .i64 lm.many,sv] 103)) w1.heap.size lm sv from
   ⟨cells_new w1 _ _ 0 _ rfl,cells_new w1 _ _ 1 _ rfl,cells_new w1 _ _ 2 _ rfl,(hr.under HB.out).mono (by simp)⟩)
 obtain⟨q,d,rfl⟩:=hr.row.shape;clear hr hmp hg;go_wp2_with fail
 refine Met.intro (hS_ _ _ ?_);exact⟨_,_,⟨⟨H1.out.1.below HB.out,owns_below H1.out.2 HB.out (Nat.le_refl _)⟩,HR.out⟩,Fr.r rfl rfl⟩
end
/-- A literal row of one string, then others behind it, put into a box. -/
theorem fin7 {w0 x0 xk:World}{m nn a9:Nat}{S:List SlD}{L:List ScD}{y:LuR}{v7:Value}{n7:Nat}{xs:List Value}(hcl:ClS w0 x0 m nn S L)(h8:x0.ownsRow w0.heap.size 103 3 (.slice (some ⟨w0.heap.size,0,none⟩) 1 1) 1 [.int .i64 0,.int .i64 0,.slice none 0 0])(hml:m<w0.heap.size)(hx0:w0.heap.size≤x0.heap.size)(hb:Below x0.heap.size x0 xk)(O9:xk.ownsRow x0.heap.size 103 3 (.slice (some ⟨a9,0,none⟩) 1 1) 1 [.int .i64 0,.int .i64 0,.slice none 0 0])(O7:xk.ownsRow x0.heap.size 9 1 v7 n7 xs)(hxs:xs=cellsOf encSt y.who)(hn7:n7=y.who.length):
  (ClS w0 (((xk.setCell ⟨a9,0,none⟩ (.int .i64 y.sum)).setCell ⟨a9,1,none⟩ (.int .i64 y.many)).setCell ⟨a9,2,none⟩ v7) m nn S L∧(((xk.setCell ⟨a9,0,none⟩ (.int .i64 y.sum)).setCell ⟨a9,1,none⟩ (.int .i64 y.many)).setCell ⟨a9,2,none⟩ v7).ownsRow w0.heap.size 103 3 (.slice (some ⟨w0.heap.size,0,none⟩) 1 1) 1 [.int .i64 0,.int .i64 0,.slice none 0 0])∧(BxO m w0.heap.size (((xk.setCell ⟨a9,0,none⟩ (.int .i64 y.sum)).setCell ⟨a9,1,none⟩ (.int .i64 y.many)).setCell ⟨a9,2,none⟩ v7) a9 y v7∧a9≠w0.heap.size):=by
 subst hxs;subst hn7;have ha:=(O9.lt a9 rfl).1;have h8x:=owns_below h8 hb (Nat.le_refl _);have h8l:=(h8.lt w0.heap.size rfl).2;have hne:w0.heap.size≠a9:=by omega
 have O9':xk.ownsRow w0.heap.size 103 3 (.slice (some ⟨a9,0,none⟩) 1 1) 1 [.int .i64 0,.int .i64 0,.slice none 0 0]:=owns_mono O9 hx0;have hr7:RHd 9 m xk.heap.size xk y.who.length v7 (cellsOf encSt y.who):=RHd.of_owns O7 (by omega);exact⟨⟨(hcl.below hb).put3 O9' hml _ _ _,owns_put3 (a:=v7) (b:=v7) (c:=v7) h8x hne _ _ _⟩,BxO.put O9' hr7,fun e=>hne e.symm⟩
theorem lc7 (b2 b3 b4 b5 m n:Nat)(vs:Value)(S:List SlD)(vl:Value)(L:List ScD)(i u:Nat)(w0:World)(hx:ClX w0 b2 b3 b4 b5 m n vs S vl L)(hp:ScP L)(hS:S.length≤4)(hl:L.length≤6)(hi:i≤S.length)(hu:u<64)(hn:n+costN (S.length-i)≤10000)(hlt:i<S.length)(ih:∀(u2 n2:Nat) (w2:World),u2<64→ClX w2 b2 b3 b4 b5 m n2 vs S vl L→n2+costN (S.length-(i+1))≤10000→Calls Tryz.prog 61 #[.int .i64 ((i+1:Nat):Int),.int .i64 (u2:Int),.pointer (some ⟨b2,0,none⟩),.pointer (some ⟨b3,0,none⟩),.pointer (some ⟨b4,0,none⟩),.pointer (some ⟨b5,0,none⟩)] w2 fun e w3=>∃v,e=.returned v∧LuV m w3 (luM S L (i+1) u2) v∧MapL w3 m (n2+costN (S.length-(i+1))) S L∧w2.grownBy w3 (some m))(g11:Nat)(sv:Value):T3 Tryz.prog (fun a w=>((ClS w0 w m (n+costN (S.length-(i+1))) S L∧w.ownsRow w0.heap.size 103 3 (.slice (some ⟨w0.heap.size,0,none⟩) 1 1) 1 [.int .i64 0,.int .i64 0,.slice none 0 0])∧Bx3 m w g11 (luM S L (i+1) u) sv)∧Fr 108 [(0,.int .i64 (i:Int)),(1,.int .i64 (u:Int)),(2,.pointer (some ⟨b2,0,none⟩)),(3,.pointer (some ⟨b3,0,none⟩)),(4,.pointer (some ⟨b4,0,none⟩)),(5,.pointer (some ⟨b5,0,none⟩)),(8,.pointer (some ⟨w0.heap.size,0,none⟩)),(11,.pointer (some ⟨g11,0,none⟩))] a) (sel [1,1,1,1,0] lcR) (fun a w=>∃(g12:Nat) (sz:Value),((ClS w0 w m (n+costN (S.length-(i+1))) S L∧w.ownsRow w0.heap.size 103 3 (.slice (some ⟨w0.heap.size,0,none⟩) 1 1) 1 [.int .i64 0,.int .i64 0,.slice none 0 0])∧(BxO m w0.heap.size w g12 (kZ S L i u) sz∧g12≠w0.heap.size))∧Fr 108 [(0,.int .i64 (i:Int)),(1,.int .i64 (u:Int)),(2,.pointer (some ⟨b2,0,none⟩)),(3,.pointer (some ⟨b3,0,none⟩)),(4,.pointer (some ⟨b4,0,none⟩)),(5,.pointer (some ⟨b5,0,none⟩)),(8,.pointer (some ⟨w0.heap.size,0,none⟩)),(12,.pointer (some ⟨g12,0,none⟩))] a) No 9 No:=by
 refine T3.leafN ?_;rintro JS hS_ a w ⟨hW,⟨fr,rfl,q0,q1,q2,q3,q4,q5,q8,q11,_⟩⟩;have hml:m<w0.heap.size:=by obtain⟨es,cl,hb,_⟩:=hx.mp;exact(Array.getElem?_eq_some_iff.1 hb).1
 obtain⟨t0,t1,t2,hrr⟩:=hW.2;have t0:w.drew.cell? ⟨g11,0,none⟩=_:=t0;have t1:w.drew.cell? ⟨g11,1,none⟩=_:=t1;have t2:w.drew.cell? ⟨g11,2,none⟩=_:=t2;have hr:Row w.drew 0 1 sv (luM S L (i+1) u).who.length (cellsOf encSt (luM S L (i+1) u).who):=hrr.row;have hcl:ClS w0 w.drew m (n+costN (S.length-(i+1))) S L:=hW.1.1.below (below_drewN (Below.refl _ _) 1);have h8:w.drew.ownsRow w0.heap.size 103 3 (.slice (some ⟨w0.heap.size,0,none⟩) 1 1) 1 [.int .i64 0,.int .i64 0,.slice none 0 0]:=hW.1.2;have hx0:w0.heap.size≤w.drew.heap.size:=hW.1.1.g.size;have hone:∀z∈cellsOf encSt (luM S L (i+1) u).who,z.oneCell'=true:=fun z hz=>by
  rw [cells_map]at hz;obtain⟨s,_,rfl⟩:=List.mem_map.1 hz;rfl
 have hlw:(luM S L (i+1) u).who.length≤4:=by unfold luM;rw [luS_len];omega
 have hkz:kZ S L i u=⟨(luM S L (i+1) u).sum,(luM S L (i+1) u).many,⟨#[]⟩::(luM S L (i+1) u).who⟩:=rfl;rw [hkz]at hS_;clear hkz hW hx hp ih hn hrr;generalize luM S L (i+1) u=lm at *;obtain⟨lms,lmm,lmw⟩:=lm;simp only at t0 t1 t2 hr hone hlw;obtain⟨q,d,rfl⟩:=hr.shape;rw [fr_lcR,fe q0,fe q1,fe q2,fe q3,fe q4,fe q5,fe q8,fe q11];clear q0 q1 q2 q3 q4 q5 q8 q11;conv=>arg 2;whnf
 refine wp_region_alt (fun w'=>Below w.drew.heap.size w.drew w') (.calm 0 (.calm 1 (.calm 2 (.calm 3 (.calm 5 (.calm 6 (.alt 4 (.alt 7 (.calm 8 (.one 9 (.one 10 .done))) (.one 9 (.one 7 (.calm 8 (.one 10 .done))))) (.one 9 (.one 4 (.one 7 (.calm 8 (.one 10 .done)))))))))))) (by kernel_rfl) (by kernel_rfl) (by intro c a d v w h;cases d <;> exact h) (Below.refl _ _) ?_;generalize w.drew=x0 at *;have B0:Below x0.heap.size x0 x0:=Below.refl _ _;have A0:=fun i=>((wofS_S (w₁:=x0) (S:=fun w'=>Below x0.heap.size x0 w') (Below.refl _ _) i).cell (p:=⟨g11,0,none⟩) (World.block_lt_of_cell? x0 _ t0)).trans t0
 have A1:=fun i=>((wofS_S (w₁:=x0) (S:=fun w'=>Below x0.heap.size x0 w') (Below.refl _ _) i).cell (p:=⟨g11,1,none⟩) (World.block_lt_of_cell? x0 _ t1)).trans t1
 have A2:=fun i=>((wofS_S (w₁:=x0) (S:=fun w'=>Below x0.heap.size x0 w') (Below.refl _ _) i).cell (p:=⟨g11,2,none⟩) (World.block_lt_of_cell? x0 _ t2)).trans t2
 refine alt_hide (w₁:=x0) (fun W hH hC hA_ hE_=>?_);refine hH.out _ _ _ _ _ rfl (fun K hK=>?_);go_simp;refine hK _ ?_;clear hK K;refine hH.out _ _ _ _ _ rfl (fun K hK=>?_);go_simp;refine hK _ ?_;clear hK K;refine hH.out _ _ _ _ _ rfl (fun K hK=>?_);go_simp;refine hK _ ?_;clear hK K;refine hH.out _ _ _ _ _ rfl (fun K hK=>?_);go_simp;refine hK _ ?_;clear hK K;refine hH.out _ _ _ _ _ rfl (fun K hK=>?_);go_simp;refine hK _ ?_;clear hK K;refine hH.out _ _ _ _ _ rfl (fun K hK=>?_);go_simp;refine hK _ ?_;clear hK K;refine hA_.out _ _ _ _ _ ?_ ?_
 ·refine hC.out _ _ _ _ _ rfl (by first|rfl|go_simp) (fun K hK=>?_);simp only [bare];have O4:=owns_lit x0 x0.heap.size 9 #[.string ⟨#[]⟩] 1 (by decide) rfl B0.size;have B4:Below x0.heap.size x0 (x0.alloc (.cells #[.string ⟨#[]⟩] 9)):=B0.alloc B0.size _;go_wp2_with fail
  generalize x0.alloc (.cells #[.string ⟨#[]⟩] 9)=x4 at *;refine hK.out _ _ (B4) ?_;clear hK K;refine hA_.out _ _ _ _ _ ?_ ?_
  ·refine hC.out _ _ _ _ _ rfl (by first|rfl|go_simp) (fun K hK=>?_);simp only [bare];have rr:=(hr.below B4).mono (Nat.le_refl 0);have hs7:=B4.size;go_wp2_with (at_builtin;refine app_rowR rfl _ _ _ rfl el_str O4 rfl rr rfl hone (by omega) B4.size ?_;intro v7 x7 O7 g7)
   have B7:Below x0.heap.size x0 x7:=below_grown B4 O4 g7 (Nat.le_refl _) B4.size;obtain⟨p7,c7,rfl⟩:=(Row.of_owns O7).shape;clear g7 O4;refine hK.out _ _ (B7) ?_;clear hK K;refine hH.out _ _ _ _ _ rfl (fun K hK=>?_);go_simp;refine hK _ ?_;clear hK K;refine hC.out _ _ _ _ _ rfl (by first|rfl|go_simp) (fun K hK=>?_);simp only [bare];have O9:=owns_litZ x7 x0.heap.size 103 #[.int .i64 0,.int .i64 0,.slice none 0 0] 1 3 (by decide) rfl B7.size;have B9:Below x0.heap.size x0 (x7.alloc (.cells #[.int .i64 0,.int .i64 0,.slice none 0 0] 103)):=B7.alloc B7.size _;have O7:=O7.alloc (.cells #[.int .i64 0,.int .i64 0,.slice none 0 0] 103);go_wp2_with fail
   generalize x7.alloc (.cells #[.int .i64 0,.int .i64 0,.slice none 0 0] 103)=x9 at *;refine hK.out _ _ (B9) ?_;clear hK K;refine hC.out _ _ _ _ _ rfl (by first|rfl|go_simp) (fun K hK=>?_);simp only [bare];have H10:=Lib.hid (fin7 hcl h8 hml hx0 B9 O9 O7 (y:=⟨lms,lmm,⟨#[]⟩::lmw⟩) rfl (by rw [List.length_cons,Nat.add_comm]));obtain⟨q0,q1,q2⟩:=cells8 O9;have f0:=owns_frozenC O9 0;have f1:=owns_frozenC O9 1;have f2:=owns_frozenC O9 2;go_wp2_with fail
   refine hK.out _ _ (((B9.setCell (by have:=(O9.lt _ rfl).1;omega) _).setCell (by have:=(O9.lt _ rfl).1;omega) _).setCell (by have:=(O9.lt _ rfl).1;omega) _) ?_;clear hK K;refine hE_.out _ _ ?_;clear hH hC hA_ hE_ W;show JS _ _;refine hS_ _ _ ?_;exact⟨_,_,H10.out,Fr.r rfl rfl⟩
  refine hC.out _ _ _ _ _ rfl (by first|rfl|go_simp) (fun K hK=>?_);simp only [bare];have O9:=owns_litZ x4 x0.heap.size 103 #[.int .i64 0,.int .i64 0,.slice none 0 0] 1 3 (by decide) rfl B4.size;have B9:Below x0.heap.size x0 (x4.alloc (.cells #[.int .i64 0,.int .i64 0,.slice none 0 0] 103)):=B4.alloc B4.size _;have O4:=O4.alloc (.cells #[.int .i64 0,.int .i64 0,.slice none 0 0] 103);go_wp2_with fail
  generalize x4.alloc (.cells #[.int .i64 0,.int .i64 0,.slice none 0 0] 103)=x9 at *;refine hK.out _ _ (B9) ?_;clear hK K;refine hC.out _ _ _ _ _ rfl (by first|rfl|go_simp) (fun K hK=>?_);simp only [bare];have rr:=(hr.below B9).mono (Nat.le_refl 0);have hs7:=B9.size;go_wp2_with (at_builtin;refine app_rowR rfl _ _ _ rfl el_str O4 rfl rr rfl hone (by omega) B9.size ?_;intro v7 x7 O7 g7)
  have B7:Below x0.heap.size x0 x7:=below_grown B9 O4 g7 (Nat.le_refl _) B9.size;have O9:=owns_apart O9 O4 (by decide) g7;obtain⟨p7,c7,rfl⟩:=(Row.of_owns O7).shape;clear g7 O4;refine hK.out _ _ (B7) ?_;clear hK K;refine hH.out _ _ _ _ _ rfl (fun K hK=>?_);go_simp;refine hK _ ?_;clear hK K;refine hC.out _ _ _ _ _ rfl (by first|rfl|go_simp) (fun K hK=>?_);simp only [bare];have H10:=Lib.hid (fin7 hcl h8 hml hx0 B7 O9 O7 (y:=⟨lms,lmm,⟨#[]⟩::lmw⟩) rfl (by rw [List.length_cons,Nat.add_comm]));obtain⟨q0,q1,q2⟩:=cells8 O9;have f0:=owns_frozenC O9 0;have f1:=owns_frozenC O9 1;have f2:=owns_frozenC O9 2;go_wp2_with fail
  refine hK.out _ _ (((B7.setCell (by have:=(O9.lt _ rfl).1;omega) _).setCell (by have:=(O9.lt _ rfl).1;omega) _).setCell (by have:=(O9.lt _ rfl).1;omega) _) ?_;clear hK K;refine hE_.out _ _ ?_;clear hH hC hA_ hE_ W;show JS _ _;refine hS_ _ _ ?_;exact⟨_,_,H10.out,Fr.r rfl rfl⟩
 refine hC.out _ _ _ _ _ rfl (by first|rfl|go_simp) (fun K hK=>?_);simp only [bare];have O9:=owns_litZ x0 x0.heap.size 103 #[.int .i64 0,.int .i64 0,.slice none 0 0] 1 3 (by decide) rfl B0.size;have B9:Below x0.heap.size x0 (x0.alloc (.cells #[.int .i64 0,.int .i64 0,.slice none 0 0] 103)):=B0.alloc B0.size _;go_wp2_with fail
 generalize x0.alloc (.cells #[.int .i64 0,.int .i64 0,.slice none 0 0] 103)=x9 at *;refine hK.out _ _ (B9) ?_;clear hK K;refine hC.out _ _ _ _ _ rfl (by first|rfl|go_simp) (fun K hK=>?_);simp only [bare];have O4:=owns_lit x9 x0.heap.size 9 #[.string ⟨#[]⟩] 1 (by decide) rfl B9.size;have B4:Below x0.heap.size x0 (x9.alloc (.cells #[.string ⟨#[]⟩] 9)):=B9.alloc B9.size _;have O9:=O9.alloc (.cells #[.string ⟨#[]⟩] 9);go_wp2_with fail
 generalize x9.alloc (.cells #[.string ⟨#[]⟩] 9)=x4 at *;refine hK.out _ _ (B4) ?_;clear hK K;refine hC.out _ _ _ _ _ rfl (by first|rfl|go_simp) (fun K hK=>?_);simp only [bare];have rr:=(hr.below B4).mono (Nat.le_refl 0);have hs7:=B4.size;go_wp2_with (at_builtin;refine app_rowR rfl _ _ _ rfl el_str O4 rfl rr rfl hone (by omega) B4.size ?_;intro v7 x7 O7 g7)
 have B7:Below x0.heap.size x0 x7:=below_grown B4 O4 g7 (Nat.le_refl _) B4.size;have O9:=owns_apart O9 O4 (by decide) g7;obtain⟨p7,c7,rfl⟩:=(Row.of_owns O7).shape;clear g7 O4;refine hK.out _ _ (B7) ?_;clear hK K;refine hH.out _ _ _ _ _ rfl (fun K hK=>?_);go_simp;refine hK _ ?_;clear hK K;refine hC.out _ _ _ _ _ rfl (by first|rfl|go_simp) (fun K hK=>?_);simp only [bare];have H10:=Lib.hid (fin7 hcl h8 hml hx0 B7 O9 O7 (y:=⟨lms,lmm,⟨#[]⟩::lmw⟩) rfl (by rw [List.length_cons,Nat.add_comm]));obtain⟨q0,q1,q2⟩:=cells8 O9;have f0:=owns_frozenC O9 0;have f1:=owns_frozenC O9 1;have f2:=owns_frozenC O9 2;go_wp2_with fail
 refine hK.out _ _ (((B7.setCell (by have:=(O9.lt _ rfl).1;omega) _).setCell (by have:=(O9.lt _ rfl).1;omega) _).setCell (by have:=(O9.lt _ rfl).1;omega) _) ?_;clear hK K;refine hE_.out _ _ ?_;clear hH hC hA_ hE_ W;show JS _ _;refine hS_ _ _ ?_;exact⟨_,_,H10.out,Fr.r rfl rfl⟩
def nK (n c k:Nat):Nat:=n+(k+1)*c
theorem nK_zero {n c:Nat}:nK n c 0=n+c:=by unfold nK;simp
theorem nK_succ {n c k:Nat}:nK n c (k+1)=nK n c k+c:=by unfold nK;rw [Nat.succ_mul (k+1) c];omega
theorem nK_le {n c k:Nat}(hk:k≤6):nK n c k≤n+7*c:=by
 unfold nK;have:=Nat.mul_le_mul_right c (show k+1≤7 by omega);omega
theorem nK_le5 {n c k:Nat}(hk:k≤5):nK n c k+c≤n+7*c:=by
 rw [←nK_succ];exact nK_le (by omega)
/-- The world within a round. -/
structure RdW (w0 w:World)(m n:Nat)(S:List SlD)(L:List ScD)(g12:Nat)(x:LuR)(sv:Value)(g14:Nat)(y:ScD):Prop where
 s:ClS w0 w m n S L
 o8:w.ownsRow w0.heap.size 103 3 (.slice (some ⟨w0.heap.size,0,none⟩) 1 1) 1 [.int .i64 0,.int .i64 0,.slice none 0 0]
 b:BxO m w0.heap.size w g12 x sv
 c:ScB w g14 y
section
variable {w0 w w':World}{m n n' g12 g14:Nat}{S:List SlD}{L:List ScD}{x:LuR}{sv:Value}{y:ScD}
section
variable (h:RdW w0 w m n S L g12 x sv g14 y)
include h
theorem RdW.below (g:Below w.heap.size w w'):RdW w0 w' m n S L g12 x sv g14 y:=⟨h.s.below g,owns_below h.o8 g (Nat.le_refl _),h.b.below g,h.c.below g⟩
theorem RdW.call (g:w.grownBy w' (some m))(mp:MapL w' m n' S L)(hml:m<w0.heap.size):RdW w0 w' m n' S L g12 x sv g14 y:=by
 have hm:=h.s.mp.ism;exact⟨h.s.call g mp,h.o8.kept g (.inr (by simp [Value.ownBlock];omega)),h.b.keep g hml,⟨hm.keep g h.c.c0,hm.keep g h.c.c1,hm.keep g h.c.c2,hm.keep g h.c.c3,hm.keep g h.c.c4⟩⟩
theorem RdW.put3 {a:Nat}{p q r:Value}(ho:w.ownsRow w0.heap.size 103 3 (.slice (some ⟨a,0,none⟩) 1 1) 1 [p,q,r])(hml:m<w0.heap.size)(h8:w0.heap.size≠a)(h12:g12≠a)(h14:g14≠a)(u v z:Value):
  RdW w0 (((w.setCell ⟨a,0,none⟩ u).setCell ⟨a,1,none⟩ v).setCell ⟨a,2,none⟩ z) m n S L g12 x sv g14 y:=by
 have o1:=owns_setC ho 0 (by omega) u;have o2:=owns_setC o1 1 (by omega) v;have g1:=grown_setCell w a 0 u;have g2:=grown_setCell (w.setCell ⟨a,0,none⟩ u) a 1 v;have g3:=grown_setCell ((w.setCell ⟨a,0,none⟩ u).setCell ⟨a,1,none⟩ v) a 2 z;have hc:∀(j:Nat) (t:Value),w.cell? ⟨g14,j,none⟩=some t→(((w.setCell ⟨a,0,none⟩ u).setCell ⟨a,1,none⟩ v).setCell ⟨a,2,none⟩ z).cell? ⟨g14,j,none⟩=some t:=fun j t ht=>by
  have e:∀l:Nat,(⟨a,l,none⟩:Addr).block≠(⟨g14,j,none⟩:Addr).block:=fun l e=>h14 e.symm
  rw [World.cell?_setCell_other _ _ _ _ (by simp [h14]),World.cell?_setCell_other _ _ _ _ (by simp [h14]),World.cell?_setCell_other _ _ _ _ (by simp [h14])];exact ht
 exact⟨h.s.put3 ho hml u v z,owns_put3 (a:=u) (b:=v) (c:=z) h.o8 h8 u v z,⟨owns_put3 (a:=u) (b:=v) (c:=z) h.b.o h12 u v z,(((h.b.r.other ho (by decide) g1).other o1 (by decide) g2).other o2 (by decide) g3).mono (Nat.le_trans g1.size (Nat.le_trans g2.size g3.size))⟩,
  ⟨hc 0 _ h.c.c0,hc 1 _ h.c.c1,hc 2 _ h.c.c2,hc 3 _ h.c.c3,hc 4 _ h.c.c4⟩⟩
end
end
section
variable (b2 b3 b4 b5 m n:Nat)(vs:Value)(S:List SlD)(vl:Value)(L:List ScD)(i u:Nat)(w0:World)(hx:ClX w0 b2 b3 b4 b5 m n vs S vl L)(hp:ScP L)(hS:S.length≤4)(hl:L.length≤6)(hi:i≤S.length)(hu:u<64)(hn:n+costN (S.length-i)≤10000)(hlt:i<S.length)(ih:∀(u2 n2:Nat) (w2:World),u2<64→ClX w2 b2 b3 b4 b5 m n2 vs S vl L→n2+costN (S.length-(i+1))≤10000→Calls Tryz.prog 61 #[.int .i64 ((i+1:Nat):Int),.int .i64 (u2:Int),.pointer (some ⟨b2,0,none⟩),.pointer (some ⟨b3,0,none⟩),.pointer (some ⟨b4,0,none⟩),.pointer (some ⟨b5,0,none⟩)] w2 fun e w3=>∃v,e=.returned v∧LuV m w3 (luM S L (i+1) u2) v∧MapL w3 m (n2+costN (S.length-(i+1))) S L∧w2.grownBy w3 (some m))(g12:Nat)(hg:w0.heap.size≠g12)
include hx hp hS hl hi hu hn hlt ih hg
theorem lc8 (sv:Value):T3 Tryz.prog (fun a w=>((ClS w0 w m (n+costN (S.length-(i+1))) S L∧w.ownsRow w0.heap.size 103 3 (.slice (some ⟨w0.heap.size,0,none⟩) 1 1) 1 [.int .i64 0,.int .i64 0,.slice none 0 0])∧BxO m w0.heap.size w g12 (kZ S L i u) sv)∧Fr 108 [(0,.int .i64 (i:Int)),(1,.int .i64 (u:Int)),(2,.pointer (some ⟨b2,0,none⟩)),(3,.pointer (some ⟨b3,0,none⟩)),(4,.pointer (some ⟨b4,0,none⟩)),(5,.pointer (some ⟨b5,0,none⟩)),(8,.pointer (some ⟨w0.heap.size,0,none⟩)),(12,.pointer (some ⟨g12,0,none⟩))] a) (sel [1,1,1,1,1,0,0] lcR) (fun a w=>(0≤(0:Int)∧(0:Int)≤L.length)∧∃(sv:Value),((ClS w0 w m (nK n (costN (S.length-(i+1))) (0:Int).toNat) S L∧w.ownsRow w0.heap.size 103 3 (.slice (some ⟨w0.heap.size,0,none⟩) 1 1) 1 [.int .i64 0,.int .i64 0,.slice none 0 0])∧BxO m w0.heap.size w g12 (kX S L i u (0:Int).toNat) sv)∧Fr 108 [(0,.int .i64 (i:Int)),(1,.int .i64 (u:Int)),(2,.pointer (some ⟨b2,0,none⟩)),(3,.pointer (some ⟨b3,0,none⟩)),(4,.pointer (some ⟨b4,0,none⟩)),(5,.pointer (some ⟨b5,0,none⟩)),(8,.pointer (some ⟨w0.heap.size,0,none⟩)),(12,.pointer (some ⟨g12,0,none⟩)),(46,vl),(47,.int .i64 L.length),(48,.int .i64 0)] a) No 9 No:=by
 refine T3.leaf ?_;rintro Q JS JX JT K hS_ hK hX hE hT hR a w ⟨hW,⟨fr,rfl,q0,q1,q2,q3,q4,q5,q8,q12,_⟩⟩;have X:=hW.1.1.x hx;have c5:=X.c5;have HW:=Lib.hid (show(ClS w0 w m (nK n (costN (S.length-(i+1))) (0:Int).toNat) S L∧w.ownsRow w0.heap.size 103 3 (.slice (some ⟨w0.heap.size,0,none⟩) 1 1) 1 [.int .i64 0,.int .i64 0,.slice none 0 0])∧BxO m w0.heap.size w g12 (kX S L i u (0:Int).toNat) sv from by
  rw [show nK n (costN (S.length-(i+1))) (0:Int).toNat=n+costN (S.length-(i+1))from nK_zero];exact hW)
 obtain⟨ps,cs,rfl⟩:=X.s.r.shape;obtain⟨pl,cl,rfl⟩:=X.c.r.shape;clear hW X hx hp ih;rw [fr_lcR,fe q0,fe q1,fe q2,fe q3,fe q4,fe q5,fe q8,fe q12];clear q0 q1 q2 q3 q4 q5 q8 q12;conv=>arg 2;whnf
 go_wp2_with fail
 refine Met.intro (hS_ _ _ ?_);exact⟨⟨by omega,by omega⟩,_,HW.out,Fr.r rfl rfl⟩
section
variable (k:Nat)(hk:k<L.length)(sv:Value)
include hk sv
theorem lc10:T3 Tryz.prog (fun a w=>((ClS w0 w m (nK n (costN (S.length-(i+1))) k) S L∧w.ownsRow w0.heap.size 103 3 (.slice (some ⟨w0.heap.size,0,none⟩) 1 1) 1 [.int .i64 0,.int .i64 0,.slice none 0 0])∧BxO m w0.heap.size w g12 (kX S L i u k) sv)∧Fr 108 [(0,.int .i64 (i:Int)),(1,.int .i64 (u:Int)),(2,.pointer (some ⟨b2,0,none⟩)),(3,.pointer (some ⟨b3,0,none⟩)),(4,.pointer (some ⟨b4,0,none⟩)),(5,.pointer (some ⟨b5,0,none⟩)),(8,.pointer (some ⟨w0.heap.size,0,none⟩)),(12,.pointer (some ⟨g12,0,none⟩)),(46,vl),(47,.int .i64 L.length),(48,.int .i64 (k:Int))] a) (sel [1,1,1,1,1,0,1,4,4,1,1,0,4,0] lcR) (fun a w=>∃(g14:Nat),(RdW w0 w m (nK n (costN (S.length-(i+1))) k) S L g12 (kX S L i u k) sv g14 (geta L (k:Int)))∧Fr 108 [(0,.int .i64 (i:Int)),(1,.int .i64 (u:Int)),(2,.pointer (some ⟨b2,0,none⟩)),(3,.pointer (some ⟨b3,0,none⟩)),(4,.pointer (some ⟨b4,0,none⟩)),(5,.pointer (some ⟨b5,0,none⟩)),(8,.pointer (some ⟨w0.heap.size,0,none⟩)),(12,.pointer (some ⟨g12,0,none⟩)),(13,.int .i64 (k:Int)),(14,.pointer (some ⟨g14,0,none⟩)),(46,vl),(47,.int .i64 L.length),(48,.int .i64 (k:Int))] a) No 9 No:=by
 refine T3.leaf ?_;rintro Q JS JX JT K hS_ hK hX hE hT hR a w ⟨hW,⟨fr,rfl,q0,q1,q2,q3,q4,q5,q8,q12,q46,q47,q48,_⟩⟩;have X:=hW.1.1.x hx;have hR:=X.c.r;obtain⟨qq,dd,hq⟩:=(X.c.p _ (geta_mem (l:=L) (i:=(k:Int)) (by omega) (by omega))).r.shape;obtain⟨pl,cl,rfl⟩:=hR.shape;obtain⟨bz,off,rfl,hnc,hcm,hcell⟩:=Row.nonnil hR (by omega);have t0:=Row.elAt encSc_length hcell (k:=(k:Int)) (by omega) (by omega) 0 _ (by decide) rfl;have t1:=Row.elAt encSc_length hcell (k:=(k:Int)) (by omega) (by omega) 1 _ (by decide) rfl;have t2:=Row.elAt encSc_length hcell (k:=(k:Int)) (by omega) (by omega) 2 _ (by decide) rfl;have t3:=Row.elAt encSc_length hcell (k:=(k:Int)) (by omega) (by omega) 3 _ (by decide) rfl;have t4:=Row.elAt encSc_length hcell (k:=(k:Int)) (by omega) (by omega) 4 _ (by decide) rfl;rw [Int.toNat_natCast]at t0 t1 t2 t3 t4;rw [Nat.add_zero]at t0;have HB:=Lib.hid (ScB.new w (geta L (k:Int)) 77);have HA:=Lib.hid (fun(w':World) (b:Below w.heap.size w w') (c:ScB w' w.heap.size (geta L (k:Int)))=>(show RdW w0 w' m (nK n (costN (S.length-(i+1))) k) S L g12 (kX S L i u k) sv w.heap.size (geta L (k:Int))from⟨hW.1.1.below b,owns_below hW.1.2 b (Nat.le_refl _),hW.2.below b,c⟩));have HL:=Lib.hid (fun o=>(Below.refl w.heap.size w).alloc (Nat.le_refl _) o);clear hcell hR hW X hx hp ih;generalize geta L (k:Int)=y at *;obtain⟨yk,yv,yps,yn,yd,yp⟩:=y;simp only at hq t0 t1 t2 t3 t4;subst hq;rw [fr_lcR,fe q0,fe q1,fe q2,fe q3,fe q4,fe q5,fe q8,fe q12,fe q46,fe q47,fe q48];clear q0 q1 q2 q3 q4 q5 q8 q12 q46 q47 q48;conv=>arg 2;whnf
 go_wp2_with fail
 refine Met.intro (hS_ _ _ ?_);exact⟨_,HA.out _ (HL.out _) HB.out,Fr.r rfl rfl⟩
theorem lc11 (g14:Nat):T3 Tryz.prog (fun a w=>(RdW w0 w m (nK n (costN (S.length-(i+1))) k) S L g12 (kX S L i u k) sv g14 (geta L (k:Int)))∧Fr 108 [(0,.int .i64 (i:Int)),(1,.int .i64 (u:Int)),(2,.pointer (some ⟨b2,0,none⟩)),(3,.pointer (some ⟨b3,0,none⟩)),(4,.pointer (some ⟨b4,0,none⟩)),(5,.pointer (some ⟨b5,0,none⟩)),(8,.pointer (some ⟨w0.heap.size,0,none⟩)),(12,.pointer (some ⟨g12,0,none⟩)),(13,.int .i64 (k:Int)),(14,.pointer (some ⟨g14,0,none⟩)),(46,vl),(47,.int .i64 L.length),(48,.int .i64 (k:Int))] a) (sel [1,1,1,1,1,0,1,4,4,1,1,0,4,1,0,0] lcR) (fun a w=>∃q,Fr 108 ((72,.bool q)::[(0,.int .i64 (i:Int)),(1,.int .i64 (u:Int)),(2,.pointer (some ⟨b2,0,none⟩)),(3,.pointer (some ⟨b3,0,none⟩)),(4,.pointer (some ⟨b4,0,none⟩)),(5,.pointer (some ⟨b5,0,none⟩)),(8,.pointer (some ⟨w0.heap.size,0,none⟩)),(12,.pointer (some ⟨g12,0,none⟩)),(13,.int .i64 (k:Int)),(14,.pointer (some ⟨g14,0,none⟩)),(46,vl),(47,.int .i64 L.length),(48,.int .i64 (k:Int))]) a∧((q=!kC S L i u k)∧RdW w0 w m (nK n (costN (S.length-(i+1))) k) S L g12 (kX S L i u k) sv g14 (geta L (k:Int)))) No 9 No:=by
 refine T3.leafN ?_;rintro JS hS_ a w ⟨hW,⟨fr,rfl,q0,q1,q2,q3,q4,q5,q8,q12,q13,q14,q46,q47,q48,_⟩⟩;have hD:RdW w0 w.drew m (nK n (costN (S.length-(i+1))) k) S L g12 (kX S L i u k) sv g14 (geta L (k:Int)):=hW.below (below_drewN (Below.refl _ _) 1);have X:=hD.s.x hx;have c2:w.cell? ⟨b2,0,none⟩=some vs:=X.c2;obtain⟨u0,u1,u2,u3,u4⟩:=hW.c;have hps:=X.s.p _ (geta_mem (l:=S) (i:=(i:Int)) (by omega) (by omega));have hpl:=X.c.p _ (geta_mem (l:=L) (i:=(k:Int)) (by omega) (by omega));have hRs:=X.s.r;have HC:=Lib.hid (fit_ref _ _ w.drew hps hpl);rw [commonB_comm]at HC;have hKC:kC S L i u k=(!bitU u k&&(fitK S L k i&&posK L k)):=rfl;have HF:=Lib.hid (show commonB (geta L (k:Int)).ps (geta S (i:Int)).ps=fitK S L k i from rfl);rw [HF.out]at HC;have HD:=Lib.hid hD;have hbw:=bit_w6 u hu k (by omega);have hbu:bitU u k=u.testBit k:=rfl;obtain⟨p1,c1,rfl⟩:=hRs.shape;obtain⟨z1,o1,rfl,_,_,hcs⟩:=Row.nonnil hRs (by omega);have t0:=Row.elAt encSl_length hcs (k:=(i:Int)) (by omega) (by omega) 0 _ (by decide) rfl;have t1:=Row.elAt encSl_length hcs (k:=(i:Int)) (by omega) (by omega) 1 _ (by decide) rfl;rw [Int.toNat_natCast]at t0 t1;rw [Nat.add_zero]at t0;obtain⟨aa1,d1,hq1⟩:=hpl.r.shape;obtain⟨aa2,d2,hq2⟩:=hps.r.shape;have hnum:=(hp.h _ (geta_mem (l:=L) (i:=(k:Int)) (by omega) (by omega))).2.2;have hpk:posK L k=decide (0<(geta L (k:Int)).num):=rfl;have hi9:i≤4:=by omega
 clear hcs hRs hW hD X hx hp ih HF;rw [hbu]at hKC;rw [hpk]at hKC;clear hbu hpk;generalize fitK S L k i=ff at *;generalize hkk:kC S L i u k=kk at *;clear hkk;generalize geta S (i:Int)=sx at *;generalize geta L (k:Int)=y at *;obtain⟨sk_,sv_,sps⟩:=sx;obtain⟨yk,yv,yps,yn,yd,yp⟩:=y;simp only at hq1 hq2 t0 t1 u0 u1 u2 u3 u4 HC hKC hnum;subst hq1;subst hq2;cases hbt:u.testBit k
 ·have hbf:¬bits BinOp.and IntKind.i64 ((u:Int) / 2 ^ k) 1=1:=fun e=>by have:=hbw.1 e;rw [hbt]at this;cases this
  rw [hbt]at hKC;clear hbt hbw;cases ff
  ·have HQ:=Lib.hid (show true=!kk by rw [hKC];rfl);clear hKC;rw [fr_lcR,fe q0,fe q1,fe q2,fe q3,fe q4,fe q5,fe q8,fe q12,fe q13,fe q14,fe q46,fe q47,fe q48];clear q0 q1 q2 q3 q4 q5 q8 q12 q13 q14 q46 q47 q48;conv=>arg 2;whnf
   refine wp_region_mix (none) [(true,0),(true,1),(true,2),(true,3),(true,4),(true,5),(true,6),(true,7),(true,10),(true,8),(true,9),(false,11),(true,12),(true,13),(true,14),(true,15),(true,16),(true,17),(true,18),(true,19)] (by kernel_rfl) (by kernel_rfl) (by intro c a d v w h;cases d <;> exact h) ?_;simp only [pickFlat,List.filterMap_cons,List.filterMap_nil,List.getElem?_cons_succ,List.getElem?_cons_zero,Option.map_some];have A2:=wof_at (w₁:=w.drew) (row:=none) (a:=⟨b2,0,none⟩) c2 (by simp);have T0:=wof_at (w₁:=w.drew) (row:=none) (a:=⟨z1,o1+i*2,none⟩) t0 (by simp);have T1:=wof_at (w₁:=w.drew) (row:=none) (a:=⟨z1,o1+i*2+1,none⟩) t1 (by simp);have U0:=wof_at (w₁:=w.drew) (row:=none) (a:=⟨g14,0,none⟩) u0 (by simp);have U1:=wof_at (w₁:=w.drew) (row:=none) (a:=⟨g14,1,none⟩) u1 (by simp);have U2:=wof_at (w₁:=w.drew) (row:=none) (a:=⟨g14,2,none⟩) u2 (by simp);have U3:=wof_at (w₁:=w.drew) (row:=none) (a:=⟨g14,3,none⟩) u3 (by simp);have U4:=wof_at (w₁:=w.drew) (row:=none) (a:=⟨g14,4,none⟩) u4 (by simp);refine flat_hide (fun W hH hC hN hE=>?_)
   iterate 6 (refine hH.out _ _ _ _ (fun K hK=>?_);go_simp;refine hK _ ?_;clear hK K)
   iterate 5 (refine hH.out _ _ _ _ (fun K hK=>?_);go_simp;refine hK _ ?_;clear hK K)
   refine hC.out _ _ _ _ (by first|rfl|go_simp) (fun K hK=>?_);simp only [bare];go_wp2_with fail
   refine HC.out.mono ?_;rintro e w2 ⟨rfl,hb1⟩;have HB1:=Lib.hid hb1;have HR1:=Lib.hid (HD.out.below hb1);clear hb1;go_wp2_with fail
   refine hK.out _ _ (grown_of_below HB1.out) ?_;clear hK K
   iterate 8 (refine hH.out _ _ _ _ (fun K hK=>?_);go_simp;refine hK _ ?_;clear hK K)
   refine hE.out _ _ ?_;clear hH hC hN hE W;show JS _ _;refine hS_ _ _ ?_;exact⟨_,Fr.r rfl rfl,HQ.out,HR1.out⟩
  ·by_cases hpos:0<yn
   ·have HQ:=Lib.hid (show false=!kk by rw [hKC];simp [hpos]);have hle:¬yn≤0:=by omega
    clear hKC hpos;rw [fr_lcR,fe q0,fe q1,fe q2,fe q3,fe q4,fe q5,fe q8,fe q12,fe q13,fe q14,fe q46,fe q47,fe q48];clear q0 q1 q2 q3 q4 q5 q8 q12 q13 q14 q46 q47 q48;conv=>arg 2;whnf
    refine wp_region_mix (none) [(true,0),(true,1),(true,2),(true,3),(true,4),(true,5),(true,6),(true,7),(true,10),(true,8),(true,9),(false,11),(true,12),(true,13),(true,14),(true,15),(true,16),(true,17),(true,18),(true,19)] (by kernel_rfl) (by kernel_rfl) (by intro c a d v w h;cases d <;> exact h) ?_;simp only [pickFlat,List.filterMap_cons,List.filterMap_nil,List.getElem?_cons_succ,List.getElem?_cons_zero,Option.map_some];have A2:=wof_at (w₁:=w.drew) (row:=none) (a:=⟨b2,0,none⟩) c2 (by simp);have T0:=wof_at (w₁:=w.drew) (row:=none) (a:=⟨z1,o1+i*2,none⟩) t0 (by simp);have T1:=wof_at (w₁:=w.drew) (row:=none) (a:=⟨z1,o1+i*2+1,none⟩) t1 (by simp);have U0:=wof_at (w₁:=w.drew) (row:=none) (a:=⟨g14,0,none⟩) u0 (by simp);have U1:=wof_at (w₁:=w.drew) (row:=none) (a:=⟨g14,1,none⟩) u1 (by simp);have U2:=wof_at (w₁:=w.drew) (row:=none) (a:=⟨g14,2,none⟩) u2 (by simp);have U3:=wof_at (w₁:=w.drew) (row:=none) (a:=⟨g14,3,none⟩) u3 (by simp);have U4:=wof_at (w₁:=w.drew) (row:=none) (a:=⟨g14,4,none⟩) u4 (by simp);refine flat_hide (fun W hH hC hN hE=>?_)
    iterate 6 (refine hH.out _ _ _ _ (fun K hK=>?_);go_simp;refine hK _ ?_;clear hK K)
    iterate 5 (refine hH.out _ _ _ _ (fun K hK=>?_);go_simp;refine hK _ ?_;clear hK K)
    refine hC.out _ _ _ _ (by first|rfl|go_simp) (fun K hK=>?_);simp only [bare];go_wp2_with fail
    refine HC.out.mono ?_;rintro e w2 ⟨rfl,hb1⟩;have HB1:=Lib.hid hb1;have HR1:=Lib.hid (HD.out.below hb1);clear hb1;go_wp2_with fail
    refine hK.out _ _ (grown_of_below HB1.out) ?_;clear hK K
    iterate 8 (refine hH.out _ _ _ _ (fun K hK=>?_);go_simp;refine hK _ ?_;clear hK K)
    refine hE.out _ _ ?_;clear hH hC hN hE W;show JS _ _;refine hS_ _ _ ?_;exact⟨_,Fr.r rfl rfl,(by first|exact HQ.out|(rw [show(bits BinOp.and IntKind.i64 ((u:Int) / 2 ^ k) 1==1)=false by simpa using hbf,show decide (yn≤0)=false by simpa using hle];exact HQ.out)),HR1.out⟩
   ·have HQ:=Lib.hid (show true=!kk by rw [hKC];simp [hpos]);have hle:yn≤0:=by omega
    clear hKC hpos;rw [fr_lcR,fe q0,fe q1,fe q2,fe q3,fe q4,fe q5,fe q8,fe q12,fe q13,fe q14,fe q46,fe q47,fe q48];clear q0 q1 q2 q3 q4 q5 q8 q12 q13 q14 q46 q47 q48;conv=>arg 2;whnf
    refine wp_region_mix (none) [(true,0),(true,1),(true,2),(true,3),(true,4),(true,5),(true,6),(true,7),(true,10),(true,8),(true,9),(false,11),(true,12),(true,13),(true,14),(true,15),(true,16),(true,17),(true,18),(true,19)] (by kernel_rfl) (by kernel_rfl) (by intro c a d v w h;cases d <;> exact h) ?_;simp only [pickFlat,List.filterMap_cons,List.filterMap_nil,List.getElem?_cons_succ,List.getElem?_cons_zero,Option.map_some];have A2:=wof_at (w₁:=w.drew) (row:=none) (a:=⟨b2,0,none⟩) c2 (by simp);have T0:=wof_at (w₁:=w.drew) (row:=none) (a:=⟨z1,o1+i*2,none⟩) t0 (by simp);have T1:=wof_at (w₁:=w.drew) (row:=none) (a:=⟨z1,o1+i*2+1,none⟩) t1 (by simp);have U0:=wof_at (w₁:=w.drew) (row:=none) (a:=⟨g14,0,none⟩) u0 (by simp);have U1:=wof_at (w₁:=w.drew) (row:=none) (a:=⟨g14,1,none⟩) u1 (by simp);have U2:=wof_at (w₁:=w.drew) (row:=none) (a:=⟨g14,2,none⟩) u2 (by simp);have U3:=wof_at (w₁:=w.drew) (row:=none) (a:=⟨g14,3,none⟩) u3 (by simp);have U4:=wof_at (w₁:=w.drew) (row:=none) (a:=⟨g14,4,none⟩) u4 (by simp);refine flat_hide (fun W hH hC hN hE=>?_)
    iterate 6 (refine hH.out _ _ _ _ (fun K hK=>?_);go_simp;refine hK _ ?_;clear hK K)
    iterate 5 (refine hH.out _ _ _ _ (fun K hK=>?_);go_simp;refine hK _ ?_;clear hK K)
    refine hC.out _ _ _ _ (by first|rfl|go_simp) (fun K hK=>?_);simp only [bare];go_wp2_with fail
    refine HC.out.mono ?_;rintro e w2 ⟨rfl,hb1⟩;have HB1:=Lib.hid hb1;have HR1:=Lib.hid (HD.out.below hb1);clear hb1;go_wp2_with fail
    refine hK.out _ _ (grown_of_below HB1.out) ?_;clear hK K
    iterate 8 (refine hH.out _ _ _ _ (fun K hK=>?_);go_simp;refine hK _ ?_;clear hK K)
    refine hE.out _ _ ?_;clear hH hC hN hE W;show JS _ _;refine hS_ _ _ ?_;exact⟨_,Fr.r rfl rfl,HQ.out,HR1.out⟩
 ·have hbf:bits BinOp.and IntKind.i64 ((u:Int) / 2 ^ k) 1=1:=hbw.2 hbt;rw [hbt]at hKC;have HQ:=Lib.hid (show true=!kk by rw [hKC];rfl);clear hbt hbw hKC;rw [fr_lcR,fe q0,fe q1,fe q2,fe q3,fe q4,fe q5,fe q8,fe q12,fe q13,fe q14,fe q46,fe q47,fe q48];clear q0 q1 q2 q3 q4 q5 q8 q12 q13 q14 q46 q47 q48;conv=>arg 2;whnf
  refine wp_region_mix (none) [(true,0),(true,1),(true,2),(true,3),(true,4),(true,5),(true,6),(true,7),(true,10),(true,8),(true,9),(false,11),(true,12),(true,13),(true,14),(true,15),(true,16),(true,17),(true,18),(true,19)] (by kernel_rfl) (by kernel_rfl) (by intro c a d v w h;cases d <;> exact h) ?_;simp only [pickFlat,List.filterMap_cons,List.filterMap_nil,List.getElem?_cons_succ,List.getElem?_cons_zero,Option.map_some];have A2:=wof_at (w₁:=w.drew) (row:=none) (a:=⟨b2,0,none⟩) c2 (by simp);have T0:=wof_at (w₁:=w.drew) (row:=none) (a:=⟨z1,o1+i*2,none⟩) t0 (by simp);have T1:=wof_at (w₁:=w.drew) (row:=none) (a:=⟨z1,o1+i*2+1,none⟩) t1 (by simp);have U0:=wof_at (w₁:=w.drew) (row:=none) (a:=⟨g14,0,none⟩) u0 (by simp);have U1:=wof_at (w₁:=w.drew) (row:=none) (a:=⟨g14,1,none⟩) u1 (by simp);have U2:=wof_at (w₁:=w.drew) (row:=none) (a:=⟨g14,2,none⟩) u2 (by simp);have U3:=wof_at (w₁:=w.drew) (row:=none) (a:=⟨g14,3,none⟩) u3 (by simp);have U4:=wof_at (w₁:=w.drew) (row:=none) (a:=⟨g14,4,none⟩) u4 (by simp);refine flat_hide (fun W hH hC hN hE=>?_)
  iterate 6 (refine hH.out _ _ _ _ (fun K hK=>?_);go_simp;refine hK _ ?_;clear hK K)
  iterate 5 (refine hH.out _ _ _ _ (fun K hK=>?_);go_simp;refine hK _ ?_;clear hK K)
  refine hN.out _ _ _ _ (grown_refl _ _) (by first|rfl|go_simp) ?_
  iterate 8 (refine hH.out _ _ _ _ (fun K hK=>?_);go_simp;refine hK _ ?_;clear hK K)
  refine hE.out _ _ ?_;clear hH hC hN hE W;show JS _ _;refine hS_ _ _ ?_;exact⟨_,Fr.r rfl rfl,HQ.out,HD.out⟩
theorem lc12 (g14:Nat):T3 Tryz.prog (fun a w=>(RdW w0 w m (nK n (costN (S.length-(i+1))) k) S L g12 (kX S L i u k) sv g14 (geta L (k:Int)))∧Fr 108 [(0,.int .i64 (i:Int)),(1,.int .i64 (u:Int)),(2,.pointer (some ⟨b2,0,none⟩)),(3,.pointer (some ⟨b3,0,none⟩)),(4,.pointer (some ⟨b4,0,none⟩)),(5,.pointer (some ⟨b5,0,none⟩)),(8,.pointer (some ⟨w0.heap.size,0,none⟩)),(12,.pointer (some ⟨g12,0,none⟩)),(13,.int .i64 (k:Int)),(14,.pointer (some ⟨g14,0,none⟩)),(46,vl),(47,.int .i64 L.length),(48,.int .i64 (k:Int))] a) (sel [1,1,1,1,1,0,1,4,4,1,1,0,4,1,1,0] lcR) (fun a w=>∃(g15:Nat) (sv5:Value),(RdW w0 w m (nK n (costN (S.length-(i+1))) (k+1)) S L g12 (kX S L i u k) sv g14 (geta L (k:Int))∧Bx3 m w g15 (luM S L (i+1) (u ||| 2 ^ k)) sv5)∧Fr 108 [(0,.int .i64 (i:Int)),(1,.int .i64 (u:Int)),(2,.pointer (some ⟨b2,0,none⟩)),(3,.pointer (some ⟨b3,0,none⟩)),(4,.pointer (some ⟨b4,0,none⟩)),(5,.pointer (some ⟨b5,0,none⟩)),(8,.pointer (some ⟨w0.heap.size,0,none⟩)),(12,.pointer (some ⟨g12,0,none⟩)),(13,.int .i64 (k:Int)),(14,.pointer (some ⟨g14,0,none⟩)),(15,.pointer (some ⟨g15,0,none⟩)),(46,vl),(47,.int .i64 L.length),(48,.int .i64 (k:Int))] a) No 9 No:=by
 refine T3.leafN ?_;rintro JS hS_ a w ⟨hW,⟨fr,rfl,q0,q1,q2,q3,q4,q5,q8,q12,q13,q14,q46,q47,q48,_⟩⟩;have hcs:costN (S.length-i)=1+7*costN (S.length-(i+1)):=by
  rw [show S.length-i=(S.length-(i+1))+1 by omega];rfl
 have hi5:i<5:=by omega
 have hml:m<w0.heap.size:=by obtain⟨es,cl,hb,_⟩:=hx.mp;exact(Array.getElem?_eq_some_iff.1 hb).1
 have R0:RdW w0 w.drew m (nK n (costN (S.length-(i+1))) k) S L g12 (kX S L i u k) sv g14 (geta L (k:Int)):=hW.below (below_drewN (Below.refl _ _) 1);obtain⟨hor1,hor2⟩:=or_w6 u hu k (by omega);have hc4:=R0.s.x hx |>.c4;have hnn:nK n (costN (S.length-(i+1))) k+costN (S.length-(i+1))≤10000:=by have:=nK_le5 (n:=n) (c:=costN (S.length-(i+1))) (k:=k) (by omega);omega
 have e1:((i+1:Nat):Int)=(i:Int)+1:=by omega
 clear hW hp hcs hn;rw [fr_lcR,fe q0,fe q1,fe q2,fe q3,fe q4,fe q5,fe q8,fe q12,fe q13,fe q14,fe q46,fe q47,fe q48];clear q0 q1 q2 q3 q4 q5 q8 q12 q13 q14 q46 q47 q48;conv=>arg 2;whnf
 refine wp_region_alt (fun w'=>w'.cell? ⟨b4,0,none⟩=some (.func (.func 61) #[] #[.pointer (some ⟨b2,0,none⟩),.pointer (some ⟨b3,0,none⟩),.pointer (some ⟨b4,0,none⟩),.pointer (some ⟨b5,0,none⟩)])) (.calm 0 (.calm 1 (.calm 2 (.calm 3 (.calm 4 (.calm 5 (.calm 6 (.alt 7 (.one 8 (.one 9 .done)) (.one 8 (.one 7 (.one 9 .done))))))))))) (by kernel_rfl) (by kernel_rfl) (by intro c a d v w h;cases d <;> exact h) (hc4) ?_;generalize w.drew=x0 at *;clear e1;have e1:((i+1:Nat):Int)=(i:Int)+1:=by omega
 have A4:=fun i=>wofS_S (w₁:=x0) (S:=fun w'=>w'.cell? ⟨b4,0,none⟩=some (.func (.func 61) #[] #[.pointer (some ⟨b2,0,none⟩),.pointer (some ⟨b3,0,none⟩),.pointer (some ⟨b4,0,none⟩),.pointer (some ⟨b5,0,none⟩)])) hc4 i
 refine alt_hide (w₁:=x0) (fun W hH hC hA_ hE_=>?_);refine hH.out _ _ _ _ _ rfl (fun K hK=>?_);go_simp;refine hK _ ?_;clear hK K;refine hH.out _ _ _ _ _ rfl (fun K hK=>?_);go_simp;refine hK _ ?_;clear hK K;refine hH.out _ _ _ _ _ rfl (fun K hK=>?_);go_simp;refine hK _ ?_;clear hK K;refine hH.out _ _ _ _ _ rfl (fun K hK=>?_);go_simp;refine hK _ ?_;clear hK K;refine hH.out _ _ _ _ _ rfl (fun K hK=>?_);go_simp;refine hK _ ?_;clear hK K;refine hH.out _ _ _ _ _ rfl (fun K hK=>?_);go_simp;refine hK _ ?_;clear hK K;refine hH.out _ _ _ _ _ rfl (fun K hK=>?_);go_simp;refine hK _ ?_;clear hK K;refine hA_.out _ _ _ _ _ ?_ ?_
 ·refine hC.out _ _ _ _ _ rfl (by first|rfl|go_simp) (fun K hK=>?_);simp only [bare];have HC:=Lib.hid (ih _ _ x0 hor2 (R0.s.x hx) hnn);rw [e1]at HC;go_wp2_with fail
  refine HC.out.mono ?_;rintro e x7 ⟨v,rfl,⟨sv5,rfl,hr7⟩,hmp7,hg7⟩;have R7:=RdW.call (n':=nK n (costN (S.length-(i+1))) (k+1)) R0 hg7 (by rw [nK_succ];exact hmp7) hml;have hc4_7:=R7.s.x hx |>.c4;obtain⟨p7,c7,rfl⟩:=hr7.row.shape;clear hmp7 hg7 HC;go_wp2_with fail
  refine hK.out _ _ (hc4_7) ?_;clear hK K;refine hC.out _ _ _ _ _ rfl (by first|rfl|go_simp) (fun K hK=>?_);simp only [bare];have b8_:=(Below.refl x7.heap.size x7).alloc (Nat.le_refl _) (.cells #[.int .i64 0,.int .i64 0,.slice none 0 0] 103);have R8:=R7.below b8_;have O15:=owns_litZ x7 x7.heap.size 103 #[.int .i64 0,.int .i64 0,.slice none 0 0] 1 3 (by decide) rfl (Nat.le_refl _);have h15:w0.heap.size≤x7.heap.size∧w0.heap.size≠x7.heap.size∧g12≠x7.heap.size∧g14≠x7.heap.size:=⟨R7.s.g.size,by have:=(R7.o8.lt w0.heap.size rfl).2;omega,by have:=(R7.b.o.lt g12 rfl).2;omega,by have:=World.block_lt_of_cell? x7 ⟨g14,0,none⟩ R7.c.c0;simp only at this;omega⟩
  have O15:=owns_mono O15 h15.1;have hc4_8:=(b8_.cell (p:=⟨b4,0,none⟩) (World.block_lt_of_cell? x7 _ hc4_7)).trans hc4_7;have hr7:=(hr7.under b8_).mono b8_.size;clear b8_;go_wp2_with fail
  generalize x7.alloc (.cells #[.int .i64 0,.int .i64 0,.slice none 0 0] 103)=x8 at *;refine hK.out _ _ (hc4_8) ?_;clear hK K;refine hC.out _ _ _ _ _ rfl (by first|rfl|go_simp) (fun K hK=>?_);simp only [bare];have H9:=Lib.hid (And.intro (R8.put3 O15 hml h15.2.1 h15.2.2.1 h15.2.2.2 (.int .i64 (luM S L (i+1) (u ||| 2 ^ k)).sum) (.int .i64 (luM S L (i+1) (u ||| 2 ^ k)).many) (.slice p7 (luM S L (i+1) (u ||| 2 ^ k)).who.length c7)) (BxO.put O15 (y:=(luM S L (i+1) (u ||| 2 ^ k))) hr7).b);obtain⟨q0,q1,q2⟩:=cells8 O15;have f0:=owns_frozenC O15 0;have f1:=owns_frozenC O15 1;have f2:=owns_frozenC O15 2;have hc9:=(R8.put3 O15 hml h15.2.1 h15.2.2.1 h15.2.2.2 (.int .i64 (luM S L (i+1) (u ||| 2 ^ k)).sum) (.int .i64 (luM S L (i+1) (u ||| 2 ^ k)).many) (.slice p7 (luM S L (i+1) (u ||| 2 ^ k)).who.length c7)).s.x hx |>.c4;go_wp2_with fail
  refine hK.out _ _ (hc9) ?_;clear hK K;refine hE_.out _ _ ?_;clear hH hC hA_ hE_ W;show JS _ _;refine hS_ _ _ ?_;exact⟨_,_,H9.out,Fr.r rfl rfl⟩
 refine hC.out _ _ _ _ _ rfl (by first|rfl|go_simp) (fun K hK=>?_);simp only [bare];have b8_:=(Below.refl x0.heap.size x0).alloc (Nat.le_refl _) (.cells #[.int .i64 0,.int .i64 0,.slice none 0 0] 103);have R8:=R0.below b8_;have O15:=owns_litZ x0 x0.heap.size 103 #[.int .i64 0,.int .i64 0,.slice none 0 0] 1 3 (by decide) rfl (Nat.le_refl _);have h15:w0.heap.size≤x0.heap.size∧w0.heap.size≠x0.heap.size∧g12≠x0.heap.size∧g14≠x0.heap.size:=⟨R0.s.g.size,by have:=(R0.o8.lt w0.heap.size rfl).2;omega,by have:=(R0.b.o.lt g12 rfl).2;omega,by have:=World.block_lt_of_cell? x0 ⟨g14,0,none⟩ R0.c.c0;simp only at this;omega⟩
 have O15:=owns_mono O15 h15.1;have hc4_8:=(b8_.cell (p:=⟨b4,0,none⟩) (World.block_lt_of_cell? x0 _ hc4)).trans hc4;clear b8_;go_wp2_with fail
 generalize x0.alloc (.cells #[.int .i64 0,.int .i64 0,.slice none 0 0] 103)=x8 at *;refine hK.out _ _ (hc4_8) ?_;clear hK K;refine hC.out _ _ _ _ _ rfl (by first|rfl|go_simp) (fun K hK=>?_);simp only [bare];have HC:=Lib.hid (ih _ _ x8 hor2 (R8.s.x hx) hnn);rw [e1]at HC;go_wp2_with fail
 refine HC.out.mono ?_;rintro e x7 ⟨v,rfl,⟨sv5,rfl,hr7⟩,hmp7,hg7⟩;have R7:=RdW.call (n':=nK n (costN (S.length-(i+1))) (k+1)) R8 hg7 (by rw [nK_succ];exact hmp7) hml;have hc4_7:=R7.s.x hx |>.c4;have O15:=O15.kept hg7 (.inr (by simp [Value.ownBlock];omega));obtain⟨p7,c7,rfl⟩:=hr7.row.shape;clear hmp7 hg7 HC;go_wp2_with fail
 refine hK.out _ _ (hc4_7) ?_;clear hK K;refine hC.out _ _ _ _ _ rfl (by first|rfl|go_simp) (fun K hK=>?_);simp only [bare];have H9:=Lib.hid (And.intro (R7.put3 O15 hml h15.2.1 h15.2.2.1 h15.2.2.2 (.int .i64 (luM S L (i+1) (u ||| 2 ^ k)).sum) (.int .i64 (luM S L (i+1) (u ||| 2 ^ k)).many) (.slice p7 (luM S L (i+1) (u ||| 2 ^ k)).who.length c7)) (BxO.put O15 (y:=(luM S L (i+1) (u ||| 2 ^ k))) hr7).b);obtain⟨q0,q1,q2⟩:=cells8 O15;have f0:=owns_frozenC O15 0;have f1:=owns_frozenC O15 1;have f2:=owns_frozenC O15 2;have hc9:=(R7.put3 O15 hml h15.2.1 h15.2.2.1 h15.2.2.2 (.int .i64 (luM S L (i+1) (u ||| 2 ^ k)).sum) (.int .i64 (luM S L (i+1) (u ||| 2 ^ k)).many) (.slice p7 (luM S L (i+1) (u ||| 2 ^ k)).who.length c7)).s.x hx |>.c4;go_wp2_with fail
 refine hK.out _ _ (hc9) ?_;clear hK K;refine hE_.out _ _ ?_;clear hH hC hA_ hE_ W;show JS _ _;refine hS_ _ _ ?_;exact⟨_,_,H9.out,Fr.r rfl rfl⟩
end
end
end Go.Proofs.YtnmdpphddimfbaaGreat
/-
  CanOf of the reference: whether some set of slots can be taken. Conditions: at most 4 slots; at most 7 players, who are scorers.
-/
namespace Go.Proofs.YtnmdpphddimfbaaGreat
open Go.RowKit Go.Bw
def wkK (L:List ScD)(K:List ByteArray)(j:Nat):Nat:=(scIdx L (geta K (j:Int))).toNat
def McS (S:List SlD)(L:List ScD)(K:List ByteArray)(k:Nat):Nat→Prop:=RchC (fitK S L) S.length (wkK L K) k
/-- A slot more. -/
def stF (fit:Nat→Bool)(m i x:Nat):Prop:=m.testBit i=false∧fit i=true∧x=orBit m i
/-- What has been made: of those that were done; and of the one that is under way, by the first slots. -/
def M2F (fit:Nat→Bool)(n:Nat)(M Lf:Nat→Prop):Nat→Prop:=fun x=>∃m i,(M m∧¬Lf m)∧i<n∧stF fit m i x
def M3F (fit:Nat→Bool)(n:Nat)(M Lf:Nat→Prop)(m j:Nat):Nat→Prop:=fun x=>M2F fit n M Lf x∨∃i,i<j∧stF fit m i x
section
variable {fit:Nat→Bool}{n m j x:Nat}{M Lf:Nat→Prop}
theorem m3_start:M2F fit n M Lf x↔M3F fit n M Lf m 0 x:=⟨.inl,fun h=>h.elim id fun⟨_,h,_⟩=>absurd h (Nat.not_lt_zero _)⟩
theorem m3_yes (h1:m.testBit j=false)(h2:fit j=true):(M3F fit n M Lf m j x∨x=orBit m j)↔M3F fit n M Lf m (j+1) x:=by
 constructor
 ·rintro((h|⟨i,h,hs⟩)|rfl)
  ·exact .inl h
  ·exact .inr ⟨i,by omega,hs⟩
  ·exact .inr ⟨j,by omega,h1,h2,rfl⟩
 ·rintro(h|⟨i,h,hs⟩)
  ·exact .inl (.inl h)
  ·by_cases e:i=j
   ·subst e;exact .inr hs.2.2
   ·exact .inl (.inr ⟨i,by omega,hs⟩)
theorem m3_no (h:¬(m.testBit j=false∧fit j=true)):M3F fit n M Lf m j x↔M3F fit n M Lf m (j+1) x:=by
 constructor
 ·rintro(h|⟨i,h,hs⟩)
  ·exact .inl h
  ·exact .inr ⟨i,by omega,hs⟩
 ·rintro(h1|⟨i,h1,hs⟩)
  ·exact .inl h1
  ·by_cases e:i=j
   ·subst e;exact absurd ⟨hs.1,hs.2.1⟩ h
   ·exact .inr ⟨i,by omega,hs⟩
theorem m3_end (hM:M m):M3F fit n M Lf m n x↔M2F fit n M (fun y=>Lf y∧y≠m) x:=by
 constructor
 ·rintro(⟨m1,i,⟨h1,h2⟩,h3,h4⟩|⟨i,h3,h4⟩)
  ·exact⟨m1,i,⟨h1,fun h=>h2 h.1⟩,h3,h4⟩
  ·exact⟨m,i,⟨hM,fun h=>h.2 rfl⟩,h3,h4⟩
 ·rintro⟨m1,i,⟨h1,h2⟩,h3,h4⟩
  by_cases e:m1=m
  ·subst e;exact .inr ⟨i,h3,h4⟩
  ·exact .inl ⟨m1,i,⟨h1,fun h=>h2 ⟨h,e⟩⟩,h3,h4⟩
theorem m2_start:False ↔ M2F fit n M M x:=⟨False.elim,fun⟨_,_,h,_⟩=>h.2 h.1⟩
end
theorem m2_end {S:List SlD}{L:List ScD}{K:List ByteArray}{k x:Nat}{Lf:Nat→Prop}(hl:∀m,¬Lf m):M2F (fitK S L (wkK L K k)) S.length (McS S L K k) Lf x↔McS S L K (k+1) x:=by
 constructor
 ·rintro⟨m,i,h1,h2,h3⟩;exact⟨m,i,h1.1,h2,h3⟩
 ·rintro⟨m,i,h1,h2,h3⟩;exact⟨m,i,⟨h1,hl m⟩,h2,h3⟩
theorem bit_z:∀ s:Nat,s<16→∀i:Nat,i<4→(bits BinOp.and IntKind.i64 ((s:Int) / 2 ^ i) 1=0↔s.testBit i=false):=by decide +kernel
theorem or_w4:∀ s:Nat,s<16→∀i:Nat,i<4→bits BinOp.or IntKind.i64 (s:Int) (wrap64 (2 ^ i))=((orBit s i:Nat):Int)∧orBit s i<16:=by decide +kernel
theorem rchC_16 {fit:Nat→Nat→Bool}{n:Nat}{w:Nat→Nat}(hn:n≤4):∀{j m},RchC fit n w j m→m<16
 | 0,m,h=>by have:m=0:=h;omega
 | j+1,m,⟨m0,i,h,hi,_,_,e⟩=>by rw [e];exact(or_w4 m0 (rchC_16 hn h) i (by omega)).2
/-- A set that the call made, and what was there before. -/
structure CoA (w0:World)(B n:Nat)(M:Nat→Prop)(w:World):Prop where
 bel:Below w0.heap.size w0 w
 lo:w0.heap.size≤B
 s:SetW w B n M
/-- One is ranged over, the next one is filled. -/
structure CoM (w0:World)(B r n:Nat)(M Lf:Nat→Prop)(cnt B2 n2:Nat)(M2:Nat→Prop)(w:World):Prop where
 bel:Below w0.heap.size w0 w
 lo2:w0.heap.size≤B2
 lor:w0.heap.size≤r
 g:RngW w B r n M Lf cnt
 s2:SetW w B2 n2 M2
 ne:B2≠B
 ner:B2≠r
section
variable {w0 w w':World}{B r n cnt cnt' B2 n2 n3:Nat}{M Lf Lf' M2 M3:Nat→Prop}
theorem CoA.below (h:CoA w0 B n M w)(b:Below w.heap.size w w'):CoA w0 B n M w':=⟨h.bel.trans (b.mono h.bel.size),h.lo,h.s.below b⟩
section
variable (h:CoM w0 B r n M Lf cnt B2 n2 M2 w)
include h
theorem CoM.below (b:Below w.heap.size w w'):CoM w0 B r n M Lf cnt B2 n2 M2 w':=⟨h.bel.trans (b.mono h.bel.size),h.lo2,h.lor,h.g.below b,h.s2.below b,h.ne,h.ner⟩
theorem CoM.put (hs:SetW w' B2 n3 M3)(g:w.grownBy w' (some B2)):CoM w0 B r n M Lf cnt B2 n3 M3 w' :=
 ⟨h.bel.grown g h.bel.size (fun k e=>by cases e;exact h.lo2),h.lo2,h.lor,h.g.kept g (fun e=>h.ne (by cases e;rfl)) (fun e=>h.ner (by cases e;rfl)),hs,h.ne,h.ner⟩
theorem CoM.next (hr:RngW w' B r n M Lf' cnt')(g:w.grownBy w' (some r)):CoM w0 B r n M Lf' cnt' B2 n2 M2 w' :=
 ⟨h.bel.grown g h.bel.size (fun k e=>by cases e;exact h.lor),h.lo2,h.lor,hr,h.s2.kept g (fun e=>h.ner (by cases e;rfl)),h.ne,h.ner⟩
theorem CoM.congr (e:∀m,M2 m↔M3 m):CoM w0 B r n M Lf cnt B2 n2 M3 w:=⟨h.bel,h.lo2,h.lor,h.g,h.s2.congr e,h.ne,h.ner⟩
end
end
noncomputable def coR:Code:=(Tryz.f35.body).getD .skip
theorem fr_coR (f:Nat→Value):frame 62 f=⟨#[f 0,f 1,f 2,f 3,f 4,f 5,f 6,f 7,f 8,f 9,f 10,f 11,f 12,f 13,f 14,f 15,f 16,f 17,f 18,f 19,f 20,f 21,f 22,f 23,f 24,f 25,f 26,f 27,f 28,f 29,f 30,f 31,f 32,f 33,f 34,f 35,f 36,f 37,f 38,f 39,f 40,f 41,f 42,f 43,f 44,f 45,f 46,f 47,f 48,f 49,f 50,f 51,f 52,f 53,f 54,f 55,f 56,f 57,f 58,f 59,f 60,f 61],[]⟩:=by rfl
section
variable (w0:World)(vs vl vk:Value)(S:List SlD)(L:List ScD)(K:List ByteArray)(hs:SlH w0 vs S)(hl:ScH w0 vl L)(hb:BnH w0 vk K)(hS4:S.length≤4)(hK6:K.length≤7)(hin:Hid (∀k:Nat,k<K.length→0≤scIdx L (geta K (k:Int))∧scIdx L (geta K (k:Int))<L.length))
include hs hl hb hS4 hK6 hin
theorem co0:T3 Tryz.prog (fun a w=>(Below w0.heap.size w0 w)∧Fr 62 [(0,vs),(1,vl),(2,vk)] a) (sel [0] coR) (fun a w=>(Below w0.heap.size w0 w)∧Fr 62 [(0,vs),(1,vl),(2,vk)] a) No 9 No:=by
 refine T3.leaf ?_;rintro Q JS JX JT K_ hS_ hK hX hE hT hR a w ⟨hW,⟨fr,rfl,q0,q1,q2,_⟩⟩;have HW:=Lib.hid hW;have hkn:=hb.n;have hsn:=hs.n;obtain⟨p1,c1,rfl⟩:=hs.r.shape;obtain⟨p2,c2,rfl⟩:=hl.r.shape;obtain⟨p3,c3,rfl⟩:=hb.r.shape;clear hW hs hl hb;rw [fr_coR,fe q0,fe q1,fe q2];clear q0 q1 q2;conv=>arg 2;whnf
 go_wp2_with fail
 refine Met.intro (hS_ _ _ ?_);exact⟨HW.out,Fr.r rfl rfl⟩
theorem co1:T3 Tryz.prog (fun a w=>(Below w0.heap.size w0 w)∧Fr 62 [(0,vs),(1,vl),(2,vk)] a) (sel [1,0] coR) (fun a w=>∃(B:Nat),(CoA w0 B 1 (McS S L K 0) w)∧Fr 62 [(0,vs),(1,vl),(2,vk),(7,.map (some B))] a) No 9 No:=by
 refine T3.leaf ?_;rintro Q JS JX JT K_ hS_ hK hX hE hT hR a w ⟨hW,⟨fr,rfl,q0,q1,q2,_⟩⟩;have HW:=Lib.hid hW;have hkn:=hb.n;have hsn:=hs.n;obtain⟨p1,c1,rfl⟩:=hs.r.shape;obtain⟨p2,c2,rfl⟩:=hl.r.shape;obtain⟨p3,c3,rfl⟩:=hb.r.shape;clear hW hs hl hb;have hmm:=@run_makeMap Tryz.prog;have HM:=Lib.hid (fun x=>show((fun _=>False) x∨x=0)↔McS S L K 0 x from⟨fun h=>h.elim False.elim id,.inr⟩);rw [fr_coR,fe q0,fe q1,fe q2];clear q0 q1 q2;conv=>arg 2;whnf
 go_wp2_with (refine wp_insert_set rfl _ _ _ rfl w.heap.size 0 0 true _ rfl rfl rfl (by decide) (by decide) (SetW.new w) ?_;intro w' hs' hg')
 have hb1:=HW.out.alloc HW.out.size (.map #[] 0);refine Met.intro (hS_ _ _ ?_);exact⟨_,⟨hb1.grown hg' hb1.size (fun k e=>by cases e;exact HW.out.size),HW.out.size,hs'.congr HM.out⟩,Fr.r rfl rfl⟩
theorem co2 (B:Nat):T3 Tryz.prog (fun a w=>(CoA w0 B 1 (McS S L K 0) w)∧Fr 62 [(0,vs),(1,vl),(2,vk),(7,.map (some B))] a) (sel [1,1,0,0] coR) (fun a w=>(0≤(0:Int)∧(0:Int)≤K.length)∧∃(B n:Nat),(n≤4 ^ (0:Int).toNat)∧(CoA w0 B n (McS S L K (0:Int).toNat) w)∧Fr 62 [(0,vs),(1,vl),(2,vk),(7,.map (some B)),(15,vk),(16,.int .i64 K.length),(17,.int .i64 0)] a) No 9 No:=by
 refine T3.leaf ?_;rintro Q JS JX JT K_ hS_ hK hX hE hT hR a w ⟨hW,⟨fr,rfl,q0,q1,q2,q7,_⟩⟩;have HW:=Lib.hid hW;have hkn:=hb.n;have hsn:=hs.n;obtain⟨p1,c1,rfl⟩:=hs.r.shape;obtain⟨p2,c2,rfl⟩:=hl.r.shape;obtain⟨p3,c3,rfl⟩:=hb.r.shape;clear hW hs hl hb;rw [fr_coR,fe q0,fe q1,fe q2,fe q7];clear q0 q1 q2 q7;conv=>arg 2;whnf
 go_wp2_with fail
 refine Met.intro (hS_ _ _ ?_);exact⟨⟨by omega,by omega⟩,_,_,by decide,HW.out,Fr.r rfl rfl⟩
section
variable (kk:Nat)(hkk:kk<K.length)(B n:Nat)
include hkk B n
theorem co4:T3 Tryz.prog (fun a w=>(CoA w0 B n (McS S L K kk) w)∧Fr 62 [(0,vs),(1,vl),(2,vk),(7,.map (some B)),(15,vk),(16,.int .i64 K.length),(17,.int .i64 (kk:Int))] a) (sel [1,1,0,1,4,4,1,1,0,4,0] coR) (fun a w=>(CoA w0 B n (McS S L K kk) w)∧Fr 62 [(0,vs),(1,vl),(2,vk),(7,.map (some B)),(9,.string (geta K (kk:Int))),(15,vk),(16,.int .i64 K.length),(17,.int .i64 (kk:Int))] a) No 9 No:=by
 refine T3.leaf ?_;rintro Q JS JX JT K_ hS_ hK hX hE hT hR a w ⟨hW,⟨fr,rfl,q0,q1,q2,q7,q15,q16,q17,_⟩⟩;obtain⟨_,hcs⟩:=(hb.below hW.bel).r.els encSt_length (by decide);rcases hcs with ⟨rfl,h0⟩|⟨bz,off,cap,rfl,_,hbz,hnc,hcm,hcell⟩
 ·omega
 have t0:=hcell kk (by omega) (by omega) 0 _ rfl;rw [Nat.mul_one,Nat.add_zero,Int.toNat_natCast]at t0;have hkn:=hb.n;obtain⟨p1,c1,rfl⟩:=hs.r.shape;obtain⟨p2,c2,rfl⟩:=hl.r.shape;have HW:=Lib.hid hW;clear hcell hW hb hs hl hin;generalize geta K (kk:Int)=x at *;rw [fr_coR,fe q0,fe q1,fe q2,fe q7,fe q15,fe q16,fe q17];clear q0 q1 q2 q7 q15 q16 q17;conv=>arg 2;whnf
 go_wp2_with fail
 refine Met.intro (hS_ _ _ ?_);exact⟨HW.out,Fr.r rfl rfl⟩
theorem co5:T3 Tryz.prog (fun a w=>(CoA w0 B n (McS S L K kk) w)∧Fr 62 [(0,vs),(1,vl),(2,vk),(7,.map (some B)),(9,.string (geta K (kk:Int))),(15,vk),(16,.int .i64 K.length),(17,.int .i64 (kk:Int))] a) (sel [1,1,0,1,4,4,1,1,0,4,1,0] coR) (fun a w=>∃(B2:Nat),(CoA w0 B n (McS S L K kk) w∧SetW w B2 0 (fun _=>False)∧w0.heap.size≤B2∧B2≠B)∧Fr 62 [(0,vs),(1,vl),(2,vk),(7,.map (some B)),(9,.string (geta K (kk:Int))),(10,.map (some B2)),(15,vk),(16,.int .i64 K.length),(17,.int .i64 (kk:Int))] a) No 9 No:=by
 refine T3.leaf ?_;rintro Q JS JX JT K_ hS_ hK hX hE hT hR a w ⟨hW,⟨fr,rfl,q0,q1,q2,q7,q9,q15,q16,q17,_⟩⟩;have HF:=Lib.hid (show CoA w0 B n (McS S L K kk) (w.alloc (.map #[] 0))∧SetW (w.alloc (.map #[] 0)) w.heap.size 0 (fun _=>False)∧w0.heap.size≤w.heap.size∧w.heap.size≠B from
  ⟨hW.below ((Below.refl w.heap.size w).alloc (Nat.le_refl _) _),SetW.new w,hW.bel.size,by have:=hW.s.lt;omega⟩)
 have hkn:=hb.n;have hsn:=hs.n;obtain⟨p1,c1,rfl⟩:=hs.r.shape;obtain⟨p2,c2,rfl⟩:=hl.r.shape;obtain⟨p3,c3,rfl⟩:=hb.r.shape;clear hW hs hl hb;have hmm:=@run_makeMap Tryz.prog;generalize geta K (kk:Int)=x at *;rw [fr_coR,fe q0,fe q1,fe q2,fe q7,fe q9,fe q15,fe q16,fe q17];clear q0 q1 q2 q7 q9 q15 q16 q17;conv=>arg 2;whnf
 go_wp2_with fail
 refine Met.intro (hS_ _ _ ?_);exact⟨_,HF.out,Fr.r rfl rfl⟩
theorem co6 (B2:Nat):T3 Tryz.prog (fun a w=>(CoA w0 B n (McS S L K kk) w∧SetW w B2 0 (fun _=>False)∧w0.heap.size≤B2∧B2≠B)∧Fr 62 [(0,vs),(1,vl),(2,vk),(7,.map (some B)),(9,.string (geta K (kk:Int))),(10,.map (some B2)),(15,vk),(16,.int .i64 K.length),(17,.int .i64 (kk:Int))] a) (sel [1,1,0,1,4,4,1,1,0,4,1,1,0,0] coR) (fun a w=>∃(r cnt:Nat),(cnt≤n)∧(CoM w0 B r n (McS S L K kk) (McS S L K kk) cnt B2 0 (M2F (fitK S L (wkK L K kk)) S.length (McS S L K kk) (McS S L K kk)) w)∧Fr 62 [(0,vs),(1,vl),(2,vk),(7,.map (some B)),(9,.string (geta K (kk:Int))),(10,.map (some B2)),(15,vk),(16,.int .i64 K.length),(17,.int .i64 (kk:Int)),(23,.pointer (some ⟨r,0,none⟩))] a) No 9 No:=by
 refine T3.leaf ?_;rintro Q JS JX JT K_ hS_ hK hX hE hT hR a w ⟨hW,⟨fr,rfl,q0,q1,q2,q7,q9,q10,q15,q16,q17,_⟩⟩;obtain⟨hA,hs2,hlo2,hne⟩:=hW;have HS:=Lib.hid hA.s;have HF:=Lib.hid (fun w' cnt (hr:RngW w' B w.heap.size n (McS S L K kk) (McS S L K kk) cnt) (g:w.grownBy w' none)=>show CoM w0 B w.heap.size n (McS S L K kk) (McS S L K kk) cnt B2 0 (M2F (fitK S L (wkK L K kk)) S.length (McS S L K kk) (McS S L K kk)) w' from
  ⟨hA.bel.trans ((below_of_grown g (by simp)).mono hA.bel.size),hlo2,hA.bel.size,hr,(hs2.kept g (by simp)).congr (fun _=>m2_start),hne,by have:=hs2.lt;omega⟩)
 clear hA hs2;have hkn:=hb.n;have hsn:=hs.n;obtain⟨p1,c1,rfl⟩:=hs.r.shape;obtain⟨p2,c2,rfl⟩:=hl.r.shape;obtain⟨p3,c3,rfl⟩:=hb.r.shape;clear hs hl hb;generalize geta K (kk:Int)=x at *;rw [fr_coR,fe q0,fe q1,fe q2,fe q7,fe q9,fe q10,fe q15,fe q16,fe q17];clear q0 q1 q2 q7 q9 q10 q15 q16 q17;conv=>arg 2;whnf
 go_wp2_with (at_range;refine wp_range_set rfl _ rfl B n _ rfl HS.out ?_;intro w' cnt hcn hr hg hsz)
 refine Met.intro (hS_ _ _ ?_);exact⟨_,cnt,hcn,HF.out w' cnt hr hg,Fr.r rfl rfl⟩
theorem co7 (B2:Nat)(r:Nat)(Lf:Nat→Prop)(cnt n2:Nat):T3 Tryz.prog (fun a w=>(CoM w0 B r n (McS S L K kk) Lf cnt B2 n2 (M2F (fitK S L (wkK L K kk)) S.length (McS S L K kk) Lf) w)∧Fr 62 [(0,vs),(1,vl),(2,vk),(7,.map (some B)),(9,.string (geta K (kk:Int))),(10,.map (some B2)),(15,vk),(16,.int .i64 K.length),(17,.int .i64 (kk:Int)),(23,.pointer (some ⟨r,0,none⟩))] a) (sel [1,1,0,1,4,4,1,1,0,4,1,1,0,1,4,4,0] coR) (fun a w=>∃q,Fr 62 ((25,.bool q)::[(0,vs),(1,vl),(2,vk),(7,.map (some B)),(9,.string (geta K (kk:Int))),(10,.map (some B2)),(15,vk),(16,.int .i64 K.length),(17,.int .i64 (kk:Int)),(23,.pointer (some ⟨r,0,none⟩))]) a∧(fun(q:Bool) (w:World)=>(q=false∧(∀m,¬Lf m)∧CoM w0 B r n (McS S L K kk) Lf cnt B2 n2 (M2F (fitK S L (wkK L K kk)) S.length (McS S L K kk) Lf) w)∨(q=true∧∃(m:Nat) (c:Value) (cnt2:Nat),(Lf m∧cnt2<cnt)∧CoM w0 B r n (McS S L K kk) (fun y=>Lf y∧y≠m) cnt2 B2 n2 (M2F (fitK S L (wkK L K kk)) S.length (McS S L K kk) Lf) w∧(Instr.entry (.pointer (some ⟨r,0,none⟩))).run Tryz.prog w=.ok (.tuple #[.int .i64 (m:Int),c]) w)) q w) No 9 No:=by
 refine T3.leaf ?_;rintro Q JS JX JT K_ hS_ hK hX hE hT hR a w ⟨hW,⟨fr,rfl,q0,q1,q2,q7,q9,q10,q15,q16,q17,q23,_⟩⟩;have HG:=Lib.hid hW.g;have HN:=Lib.hid (fun w' m cnt2 (hr:RngW w' B r n (McS S L K kk) (fun y=>Lf y∧y≠m) cnt2) (g:w.grownBy w' (some r))=>hW.next hr g);have HW:=Lib.hid hW;have hkn:=hb.n;have hsn:=hs.n;obtain⟨p1,c1,rfl⟩:=hs.r.shape;obtain⟨p2,c2,rfl⟩:=hl.r.shape;obtain⟨p3,c3,rfl⟩:=hb.r.shape;clear hW hs hl hb;generalize geta K (kk:Int)=x at *;rw [fr_coR,fe q0,fe q1,fe q2,fe q7,fe q9,fe q10,fe q15,fe q16,fe q17,fe q23];clear q0 q1 q2 q7 q9 q10 q15 q16 q17 q23;conv=>arg 2;whnf
 go_wp2_with (at_next;refine wp_next_set rfl _ rfl B r n _ _ cnt rfl HG.out ?_ ?_)
 ·intro hl0;go_wp2_with fail
  refine Met.intro (hS_ _ _ ?_);exact⟨_,Fr.r rfl rfl,.inl ⟨rfl,hl0,HW.out⟩⟩
 ·intro m c w1 cnt2 hm hr hlt hg hsz hen;have HF:=Lib.hid (HN.out w1 m cnt2 hr hg);clear hr hg;go_wp2_with fail
  refine Met.intro (hS_ _ _ ?_);exact⟨_,Fr.r rfl rfl,.inr ⟨rfl,m,c,cnt2,⟨hm,hlt⟩,HF.out,hen⟩⟩
end
end
section
variable (w0:World)(vs vl vk:Value)(S:List SlD)(L:List ScD)(K:List ByteArray)(hs:SlH w0 vs S)(hl:ScH w0 vl L)(hb:BnH w0 vk K)(hS4:S.length≤4)(hK6:K.length≤7)(hin:Hid (∀k:Nat,k<K.length→0≤scIdx L (geta K (k:Int))∧scIdx L (geta K (k:Int))<L.length))(kk:Nat)(hkk:kk<K.length)(B n:Nat)(B2:Nat)(r:Nat)(Lf:Nat→Prop)(cnt n2:Nat)(m cnt2:Nat)(hm:Hid (Lf m∧McS S L K kk m))(hnb:n2≤1000000)
include hs hl hb hS4 hK6 hin hkk B n B2 r cnt cnt2 hm hnb
theorem co8 (c:Value):T3 Tryz.prog (fun a w=>(CoM w0 B r n (McS S L K kk) (fun y=>Lf y∧y≠m) cnt2 B2 n2 (M2F (fitK S L (wkK L K kk)) S.length (McS S L K kk) Lf) w∧(Instr.entry (.pointer (some ⟨r,0,none⟩))).run Tryz.prog w=.ok (.tuple #[.int .i64 (m:Int),c]) w)∧Fr 62 [(0,vs),(1,vl),(2,vk),(7,.map (some B)),(9,.string (geta K (kk:Int))),(10,.map (some B2)),(15,vk),(16,.int .i64 K.length),(17,.int .i64 (kk:Int)),(23,.pointer (some ⟨r,0,none⟩))] a) (sel [1,1,0,1,4,4,1,1,0,4,1,1,0,1,4,4,1,1,4,0] coR) (fun a w=>(CoM w0 B r n (McS S L K kk) (fun y=>Lf y∧y≠m) cnt2 B2 n2 (M2F (fitK S L (wkK L K kk)) S.length (McS S L K kk) Lf) w)∧Fr 62 [(0,vs),(1,vl),(2,vk),(7,.map (some B)),(9,.string (geta K (kk:Int))),(10,.map (some B2)),(11,.int .i64 (m:Int)),(15,vk),(16,.int .i64 K.length),(17,.int .i64 (kk:Int)),(23,.pointer (some ⟨r,0,none⟩))] a) No 9 No:=by
 refine T3.leaf ?_;rintro Q JS JX JT K_ hS_ hK hX hE hT hR a w ⟨hW,⟨fr,rfl,q0,q1,q2,q7,q9,q10,q15,q16,q17,q23,_⟩⟩;have hen:=hW.2;have HW:=Lib.hid hW.1;have hkn:=hb.n;have hsn:=hs.n;obtain⟨p1,c1,rfl⟩:=hs.r.shape;obtain⟨p2,c2,rfl⟩:=hl.r.shape;obtain⟨p3,c3,rfl⟩:=hb.r.shape;clear hW hs hl hb;generalize geta K (kk:Int)=x at *;rw [fr_coR,fe q0,fe q1,fe q2,fe q7,fe q9,fe q10,fe q15,fe q16,fe q17,fe q23];clear q0 q1 q2 q7 q9 q10 q15 q16 q17 q23;conv=>arg 2;whnf
 go_wp2_with fail
 refine Met.intro (hS_ _ _ ?_);exact⟨HW.out,Fr.r rfl rfl⟩
theorem co9:T3 Tryz.prog (fun a w=>(CoM w0 B r n (McS S L K kk) (fun y=>Lf y∧y≠m) cnt2 B2 n2 (M2F (fitK S L (wkK L K kk)) S.length (McS S L K kk) Lf) w)∧Fr 62 [(0,vs),(1,vl),(2,vk),(7,.map (some B)),(9,.string (geta K (kk:Int))),(10,.map (some B2)),(11,.int .i64 (m:Int)),(15,vk),(16,.int .i64 K.length),(17,.int .i64 (kk:Int)),(23,.pointer (some ⟨r,0,none⟩))] a) (sel [1,1,0,1,4,4,1,1,0,4,1,1,0,1,4,4,1,1,4,1,0] coR) (fun a w=>(0≤(0:Int)∧(0:Int)≤S.length)∧∃(n3:Nat),(n3≤n2+(0:Int).toNat)∧(CoM w0 B r n (McS S L K kk) (fun y=>Lf y∧y≠m) cnt2 B2 n3 (M3F (fitK S L (wkK L K kk)) S.length (McS S L K kk) Lf m (0:Int).toNat) w)∧Fr 62 [(0,vs),(1,vl),(2,vk),(7,.map (some B)),(9,.string (geta K (kk:Int))),(10,.map (some B2)),(11,.int .i64 (m:Int)),(15,vk),(16,.int .i64 K.length),(17,.int .i64 (kk:Int)),(23,.pointer (some ⟨r,0,none⟩)),(28,vs),(29,.int .i64 S.length),(30,.int .i64 0)] a) No 9 No:=by
 refine T3.leaf ?_;rintro Q JS JX JT K_ hS_ hK hX hE hT hR a w ⟨hW,⟨fr,rfl,q0,q1,q2,q7,q9,q10,q11,q15,q16,q17,q23,_⟩⟩;have HF:=Lib.hid (hW.congr (M3:=(M3F (fitK S L (wkK L K kk)) S.length (McS S L K kk) Lf m (0:Int).toNat)) (fun _=>m3_start));have HW:=Lib.hid hW;have hkn:=hb.n;have hsn:=hs.n;obtain⟨p1,c1,rfl⟩:=hs.r.shape;obtain⟨p2,c2,rfl⟩:=hl.r.shape;obtain⟨p3,c3,rfl⟩:=hb.r.shape;clear hW hs hl hb;generalize geta K (kk:Int)=x at *;rw [fr_coR,fe q0,fe q1,fe q2,fe q7,fe q9,fe q10,fe q11,fe q15,fe q16,fe q17,fe q23];clear q0 q1 q2 q7 q9 q10 q11 q15 q16 q17 q23;conv=>arg 2;whnf
 go_wp2_with fail
 refine Met.intro (hS_ _ _ ?_);exact⟨⟨by omega,by omega⟩,_,Nat.le_add_right _ _,HF.out,Fr.r rfl rfl⟩
section
variable (i n3:Nat)(hi:i<S.length)
include n3 hi
theorem co11:T3 Tryz.prog (fun a w=>(CoM w0 B r n (McS S L K kk) (fun y=>Lf y∧y≠m) cnt2 B2 n3 (M3F (fitK S L (wkK L K kk)) S.length (McS S L K kk) Lf m i) w)∧Fr 62 [(0,vs),(1,vl),(2,vk),(7,.map (some B)),(9,.string (geta K (kk:Int))),(10,.map (some B2)),(11,.int .i64 (m:Int)),(15,vk),(16,.int .i64 K.length),(17,.int .i64 (kk:Int)),(23,.pointer (some ⟨r,0,none⟩)),(28,vs),(29,.int .i64 S.length),(30,.int .i64 (i:Int))] a) (sel [1,1,0,1,4,4,1,1,0,4,1,1,0,1,4,4,1,1,4,1,1,4,4,1,1,0,4,0] coR) (fun a w=>(CoM w0 B r n (McS S L K kk) (fun y=>Lf y∧y≠m) cnt2 B2 n3 (M3F (fitK S L (wkK L K kk)) S.length (McS S L K kk) Lf m i) w)∧Fr 62 [(0,vs),(1,vl),(2,vk),(7,.map (some B)),(9,.string (geta K (kk:Int))),(10,.map (some B2)),(11,.int .i64 (m:Int)),(12,.int .i64 (i:Int)),(15,vk),(16,.int .i64 K.length),(17,.int .i64 (kk:Int)),(23,.pointer (some ⟨r,0,none⟩)),(28,vs),(29,.int .i64 S.length),(30,.int .i64 (i:Int))] a) No 9 No:=by
 refine T3.leaf ?_;rintro Q JS JX JT K_ hS_ hK hX hE hT hR a w ⟨hW,⟨fr,rfl,q0,q1,q2,q7,q9,q10,q11,q15,q16,q17,q23,q28,q29,q30,_⟩⟩;have HW:=Lib.hid hW;have hkn:=hb.n;have hsn:=hs.n;obtain⟨p1,c1,rfl⟩:=hs.r.shape;obtain⟨p2,c2,rfl⟩:=hl.r.shape;obtain⟨p3,c3,rfl⟩:=hb.r.shape;clear hW hs hl hb;generalize geta K (kk:Int)=x at *;rw [fr_coR,fe q0,fe q1,fe q2,fe q7,fe q9,fe q10,fe q11,fe q15,fe q16,fe q17,fe q23,fe q28,fe q29,fe q30];clear q0 q1 q2 q7 q9 q10 q11 q15 q16 q17 q23 q28 q29 q30;conv=>arg 2;whnf
 go_wp2_with fail
 refine Met.intro (hS_ _ _ ?_);exact⟨HW.out,Fr.r rfl rfl⟩
theorem co12:T3 Tryz.prog (fun a w=>(CoM w0 B r n (McS S L K kk) (fun y=>Lf y∧y≠m) cnt2 B2 n3 (M3F (fitK S L (wkK L K kk)) S.length (McS S L K kk) Lf m i) w)∧Fr 62 [(0,vs),(1,vl),(2,vk),(7,.map (some B)),(9,.string (geta K (kk:Int))),(10,.map (some B2)),(11,.int .i64 (m:Int)),(12,.int .i64 (i:Int)),(15,vk),(16,.int .i64 K.length),(17,.int .i64 (kk:Int)),(23,.pointer (some ⟨r,0,none⟩)),(28,vs),(29,.int .i64 S.length),(30,.int .i64 (i:Int))] a) (sel [1,1,0,1,4,4,1,1,0,4,1,1,0,1,4,4,1,1,4,1,1,4,4,1,1,0,4,1,0] coR) (fun a w=>∃q,Fr 62 ((50,.bool q)::[(0,vs),(1,vl),(2,vk),(7,.map (some B)),(9,.string (geta K (kk:Int))),(10,.map (some B2)),(11,.int .i64 (m:Int)),(12,.int .i64 (i:Int)),(15,vk),(16,.int .i64 K.length),(17,.int .i64 (kk:Int)),(23,.pointer (some ⟨r,0,none⟩)),(28,vs),(29,.int .i64 S.length),(30,.int .i64 (i:Int))]) a∧((q=(!m.testBit i&&fitK S L (wkK L K kk) i))∧CoM w0 B r n (McS S L K kk) (fun y=>Lf y∧y≠m) cnt2 B2 n3 (M3F (fitK S L (wkK L K kk)) S.length (McS S L K kk) Lf m i) w)) No 9 No:=by
 refine T3.leafN ?_;rintro JS hS_ a w ⟨hW,⟨fr,rfl,q0,q1,q2,q7,q9,q10,q11,q12,q15,q16,q17,q23,q28,q29,q30,_⟩⟩;have hD:CoM w0 B r n (McS S L K kk) (fun y=>Lf y∧y≠m) cnt2 B2 n3 (M3F (fitK S L (wkK L K kk)) S.length (McS S L K kk) Lf m i) w.drew:=hW.below (below_drewN (Below.refl _ _) 1);have hsd:=hs.below hD.bel;have hld:=hl.below hD.bel;obtain⟨hi0,hi1⟩:=hin.out kk hkk;have hRs:=hsd.r;have hRl:=hld.r;have hps:=hsd.p _ (geta_mem (l:=S) (i:=(i:Int)) (by omega) (by omega));have hpl:=hld.p _ (geta_mem (l:=L) (i:=scIdx L (geta K (kk:Int))) hi0 hi1);have HC1:=Lib.hid (scorerAt_ref vl L (geta K (kk:Int)) w.drew hld);have HC2:=Lib.hid (fun w' (b:Below w.drew.heap.size w.drew w')=>fit_ref _ _ w' (hps.below b) (hpl.below b));rw [commonB_comm]at HC2;have HF:=Lib.hid (show commonB (geta L (scIdx L (geta K (kk:Int)))).ps (geta S (i:Int)).ps=fitK S L (wkK L K kk) i by unfold fitK wkK;rw [Int.toNat_of_nonneg hi0]);rw [HF.out]at HC2;have HD:=Lib.hid hD;have hbz:=bit_z m (rchC_16 hS4 hm.out.2) i (by omega);obtain⟨p1,c1,rfl⟩:=hRs.shape;obtain⟨z1,o1,rfl,_,_,hcs⟩:=Row.nonnil hRs (by omega);have t0:=Row.elAt encSl_length hcs (k:=(i:Int)) (by omega) (by omega) 0 _ (by decide) rfl;have t1:=Row.elAt encSl_length hcs (k:=(i:Int)) (by omega) (by omega) 1 _ (by decide) rfl;rw [Int.toNat_natCast]at t0 t1;rw [Nat.add_zero]at t0;obtain⟨p2,c2,rfl⟩:=hRl.shape;obtain⟨z2,o2,rfl,_,_,hcl⟩:=Row.nonnil hRl (by omega);generalize hix:scIdx L (geta K (kk:Int))=ix at *;have HIX:=Lib.hid hix;clear hix;have u0:=Row.elAt encSc_length hcl hi0 hi1 0 _ (by decide) rfl;have u1:=Row.elAt encSc_length hcl hi0 hi1 1 _ (by decide) rfl;have u2:=Row.elAt encSc_length hcl hi0 hi1 2 _ (by decide) rfl;have u3:=Row.elAt encSc_length hcl hi0 hi1 3 _ (by decide) rfl;have u4:=Row.elAt encSc_length hcl hi0 hi1 4 _ (by decide) rfl;rw [Nat.add_zero]at u0;obtain⟨aa1,d1,hq1⟩:=hpl.r.shape;obtain⟨aa2,d2,hq2⟩:=hps.r.shape;have hln:=hl.n;obtain⟨p3,c3,rfl⟩:=hb.r.shape;clear hcs hRs hcl hRl hW hD hsd hld hs hl hb HF hm hin;generalize fitK S L (wkK L K kk) i=ff at *;generalize geta S (i:Int)=sx at *;generalize geta L ix=y at *;generalize geta K (kk:Int)=x at *;obtain⟨sk_,sv_,sps⟩:=sx;obtain⟨yk,yv,yps,yn,yd,yp⟩:=y;simp only at hq1 hq2 t0 t1 u0 u1 u2 u3 u4 HC2;subst hq1;subst hq2;have hi4:i<4:=by omega
 cases hbt:m.testBit i
 ·have hbf:=hbz.2 hbt;have HQ:=Lib.hid (show ff=(!m.testBit i&&ff)by rw [hbt];cases ff <;> rfl);clear hbt hbz;rw [fr_coR,fe q0,fe q1,fe q2,fe q7,fe q9,fe q10,fe q11,fe q12,fe q15,fe q16,fe q17,fe q23,fe q28,fe q29,fe q30];clear q0 q1 q2 q7 q9 q10 q11 q12 q15 q16 q17 q23 q28 q29 q30;conv=>arg 2;whnf
  refine wp_region_mix (none) [(true,0),(true,1),(true,2),(true,3),(true,4),(true,5),(true,6),(true,7),(true,10),(true,11),(true,12),(true,8),(true,9),(false,13),(true,14),(true,15),(false,16),(true,17)] (by kernel_rfl) (by kernel_rfl) (by intro c a d v w h;cases d <;> exact h) ?_;simp only [pickFlat,List.filterMap_cons,List.filterMap_nil,List.getElem?_cons_succ,List.getElem?_cons_zero,Option.map_some];have T0:=wof_at (w₁:=w.drew) (row:=none) (a:=⟨z1,o1+i*2,none⟩) t0 (by simp);have T1:=wof_at (w₁:=w.drew) (row:=none) (a:=⟨z1,o1+i*2+1,none⟩) t1 (by simp);have U0:=wof_at (w₁:=w.drew) (row:=none) (a:=⟨z2,o2+ix.toNat*5,none⟩) u0 (by simp);have U1:=wof_at (w₁:=w.drew) (row:=none) (a:=⟨z2,o2+ix.toNat*5+1,none⟩) u1 (by simp);have U2:=wof_at (w₁:=w.drew) (row:=none) (a:=⟨z2,o2+ix.toNat*5+2,none⟩) u2 (by simp);have U3:=wof_at (w₁:=w.drew) (row:=none) (a:=⟨z2,o2+ix.toNat*5+3,none⟩) u3 (by simp);have U4:=wof_at (w₁:=w.drew) (row:=none) (a:=⟨z2,o2+ix.toNat*5+4,none⟩) u4 (by simp);refine flat_hide (fun W hH hC hN hE=>?_)
  iterate 6 (refine hH.out _ _ _ _ (fun K hK=>?_);go_simp;refine hK _ ?_;clear hK K)
  iterate 7 (refine hH.out _ _ _ _ (fun K hK=>?_);go_simp;refine hK _ ?_;clear hK K)
  refine hC.out _ _ _ _ (by first|rfl|go_simp) (fun K hK=>?_);simp only [bare];go_wp2_with fail
  refine HC1.out.mono ?_;rintro e w1 ⟨rfl,hb1⟩;have HB1:=Lib.hid hb1;clear hb1;go_wp2_with fail
  refine hK.out _ _ (grown_of_below HB1.out) ?_;clear hK K
  iterate 2 (refine hH.out _ _ _ _ (fun K hK=>?_);go_simp;refine hK _ ?_;clear hK K)
  refine hC.out _ _ _ _ (by first|rfl|go_simp) (fun K hK=>?_);simp only [bare];go_wp2_with fail
  refine(HC2.out w1 HB1.out).mono ?_;rintro e w2 ⟨rfl,hb2⟩;have HB2:=Lib.hid (HB1.out.trans (hb2.mono HB1.out.size));have HR2:=Lib.hid (HD.out.below HB2.out);clear hb2;go_wp2_with fail
  refine hK.out _ _ (grown_of_below HB2.out) ?_;clear hK K
  iterate 1 (refine hH.out _ _ _ _ (fun K hK=>?_);go_simp;refine hK _ ?_;clear hK K)
  refine hE.out _ _ ?_;clear hH hC hN hE W;show JS _ _;refine hS_ _ _ ?_;exact⟨_,Fr.r rfl rfl,HQ.out,HR2.out⟩
 ·have hbf:¬bits BinOp.and IntKind.i64 ((m:Int) / 2 ^ i) 1=0:=fun e=>by have:=hbz.1 e;rw [hbt]at this;cases this
  have HQ:=Lib.hid (show false=(!m.testBit i&&ff)by rw [hbt];rfl);clear hbt hbz;rw [fr_coR,fe q0,fe q1,fe q2,fe q7,fe q9,fe q10,fe q11,fe q12,fe q15,fe q16,fe q17,fe q23,fe q28,fe q29,fe q30];clear q0 q1 q2 q7 q9 q10 q11 q12 q15 q16 q17 q23 q28 q29 q30;conv=>arg 2;whnf
  refine wp_region_mix (none) [(true,0),(true,1),(true,2),(true,3),(true,4),(true,5),(true,6),(true,7),(true,10),(true,11),(true,12),(true,8),(true,9),(false,13),(true,14),(true,15),(false,16),(true,17)] (by kernel_rfl) (by kernel_rfl) (by intro c a d v w h;cases d <;> exact h) ?_;simp only [pickFlat,List.filterMap_cons,List.filterMap_nil,List.getElem?_cons_succ,List.getElem?_cons_zero,Option.map_some];have T0:=wof_at (w₁:=w.drew) (row:=none) (a:=⟨z1,o1+i*2,none⟩) t0 (by simp);have T1:=wof_at (w₁:=w.drew) (row:=none) (a:=⟨z1,o1+i*2+1,none⟩) t1 (by simp);have U0:=wof_at (w₁:=w.drew) (row:=none) (a:=⟨z2,o2+ix.toNat*5,none⟩) u0 (by simp);have U1:=wof_at (w₁:=w.drew) (row:=none) (a:=⟨z2,o2+ix.toNat*5+1,none⟩) u1 (by simp);have U2:=wof_at (w₁:=w.drew) (row:=none) (a:=⟨z2,o2+ix.toNat*5+2,none⟩) u2 (by simp);have U3:=wof_at (w₁:=w.drew) (row:=none) (a:=⟨z2,o2+ix.toNat*5+3,none⟩) u3 (by simp);have U4:=wof_at (w₁:=w.drew) (row:=none) (a:=⟨z2,o2+ix.toNat*5+4,none⟩) u4 (by simp);refine flat_hide (fun W hH hC hN hE=>?_)
  iterate 6 (refine hH.out _ _ _ _ (fun K hK=>?_);go_simp;refine hK _ ?_;clear hK K)
  iterate 7 (refine hH.out _ _ _ _ (fun K hK=>?_);go_simp;refine hK _ ?_;clear hK K)
  refine hN.out _ _ _ _ (grown_refl _ _) (by first|rfl|go_simp) ?_
  iterate 2 (refine hH.out _ _ _ _ (fun K hK=>?_);go_simp;refine hK _ ?_;clear hK K)
  refine hN.out _ _ _ _ (grown_refl _ _) (by first|rfl|go_simp) ?_
  iterate 1 (refine hH.out _ _ _ _ (fun K hK=>?_);go_simp;refine hK _ ?_;clear hK K)
  refine hE.out _ _ ?_;clear hH hC hN hE W;show JS _ _;refine hS_ _ _ ?_;exact⟨_,Fr.r rfl rfl,HQ.out,HD.out⟩
theorem co13 (h1:m.testBit i=false)(h2:fitK S L (wkK L K kk) i=true)(hn3:n3≤n2+i):T3 Tryz.prog (fun a w=>(CoM w0 B r n (McS S L K kk) (fun y=>Lf y∧y≠m) cnt2 B2 n3 (M3F (fitK S L (wkK L K kk)) S.length (McS S L K kk) Lf m i) w)∧Fr 62 [(0,vs),(1,vl),(2,vk),(7,.map (some B)),(9,.string (geta K (kk:Int))),(10,.map (some B2)),(11,.int .i64 (m:Int)),(12,.int .i64 (i:Int)),(15,vk),(16,.int .i64 K.length),(17,.int .i64 (kk:Int)),(23,.pointer (some ⟨r,0,none⟩)),(28,vs),(29,.int .i64 S.length),(30,.int .i64 (i:Int))] a) (sel [1,1,0,1,4,4,1,1,0,4,1,1,0,1,4,4,1,1,4,1,1,4,4,1,1,0,4,1,1,2] coR) (fun a w=>(CoM w0 B r n (McS S L K kk) (fun y=>Lf y∧y≠m) cnt2 B2 (n3+1) (M3F (fitK S L (wkK L K kk)) S.length (McS S L K kk) Lf m (i+1)) w)∧Fr 62 [(0,vs),(1,vl),(2,vk),(7,.map (some B)),(9,.string (geta K (kk:Int))),(10,.map (some B2)),(11,.int .i64 (m:Int)),(12,.int .i64 (i:Int)),(15,vk),(16,.int .i64 K.length),(17,.int .i64 (kk:Int)),(23,.pointer (some ⟨r,0,none⟩)),(28,vs),(29,.int .i64 S.length),(30,.int .i64 (i:Int))] a) No 9 No:=by
 refine T3.leaf ?_;rintro Q JS JX JT K_ hS_ hK hX hE hT hR a w ⟨hW,⟨fr,rfl,q0,q1,q2,q7,q9,q10,q11,q12,q15,q16,q17,q23,q28,q29,q30,_⟩⟩;have hm16:=rchC_16 hS4 hm.out.2;obtain⟨hor,hlt⟩:=or_w4 m hm16 i (by omega);have HS:=Lib.hid hW.s2;have HP:=Lib.hid (fun w' (hs2:SetW w' B2 (n3+1) (fun x=>(M3F (fitK S L (wkK L K kk)) S.length (McS S L K kk) Lf m i) x∨x=orBit m i)) (g:w.grownBy w' (some B2))=>(hW.put hs2 g).congr (M3:=(M3F (fitK S L (wkK L K kk)) S.length (McS S L K kk) Lf m (i+1))) (fun _=>m3_yes h1 h2));have hi4:i<4:=by omega
 have hn9:n3<1000000000:=by omega
 obtain⟨p1,c1,rfl⟩:=hs.r.shape;obtain⟨p2,c2,rfl⟩:=hl.r.shape;obtain⟨p3,c3,rfl⟩:=hb.r.shape;have HW:=Lib.hid hW;clear hW hs hl hb hm hin;generalize geta K (kk:Int)=x at *;generalize hob:orBit m i=ob at *;clear hob;rw [fr_coR,fe q0,fe q1,fe q2,fe q7,fe q9,fe q10,fe q11,fe q12,fe q15,fe q16,fe q17,fe q23,fe q28,fe q29,fe q30];clear q0 q1 q2 q7 q9 q10 q11 q12 q15 q16 q17 q23 q28 q29 q30;conv=>arg 2;whnf
 go_wp2_with (at_mapUpdate;refine wp_put_set rfl _ _ _ rfl B2 n3 ob true _ rfl rfl rfl (by omega) hn9 HS.out ?_;intro w' hs2 hg2)
 refine Met.intro (hS_ _ _ ?_);exact⟨HP.out w' hs2 hg2,Fr.r rfl rfl⟩
theorem coI (hn3:n3≤n2+i):T3 Tryz.prog (fun a w=>(CoM w0 B r n (McS S L K kk) (fun y=>Lf y∧y≠m) cnt2 B2 n3 (M3F (fitK S L (wkK L K kk)) S.length (McS S L K kk) Lf m i) w)∧Fr 62 [(0,vs),(1,vl),(2,vk),(7,.map (some B)),(9,.string (geta K (kk:Int))),(10,.map (some B2)),(11,.int .i64 (m:Int)),(15,vk),(16,.int .i64 K.length),(17,.int .i64 (kk:Int)),(23,.pointer (some ⟨r,0,none⟩)),(28,vs),(29,.int .i64 S.length),(30,.int .i64 (i:Int))] a) (sel [1,1,0,1,4,4,1,1,0,4,1,1,0,1,4,4,1,1,4,1,1,4,4,1,1,0] coR) (fun a w=>∃(n3:Nat),(n3≤n2+(i+1))∧(CoM w0 B r n (McS S L K kk) (fun y=>Lf y∧y≠m) cnt2 B2 n3 (M3F (fitK S L (wkK L K kk)) S.length (McS S L K kk) Lf m (i+1)) w)∧Fr 62 [(0,vs),(1,vl),(2,vk),(7,.map (some B)),(9,.string (geta K (kk:Int))),(10,.map (some B2)),(11,.int .i64 (m:Int)),(15,vk),(16,.int .i64 K.length),(17,.int .i64 (kk:Int)),(23,.pointer (some ⟨r,0,none⟩)),(28,vs),(29,.int .i64 S.length),(30,.int .i64 (i:Int))] a) No 9 No:=by
 refine T3.block (id':=5) (c:=(sel [1,1,0,1,4,4,1,1,0,4,1,1,0,1,4,4,1,1,4,1,1,4,4,1,1,0,4] coR)) (by decide) ?_;refine T3.sq rfl ((co11 w0 vs vl vk S L K hs hl hb hS4 hK6 hin kk hkk B n B2 r Lf cnt n2 m cnt2 hm hnb i n3 hi).noX) ?_;refine T3.tt rfl (C:=fun q=>(q=(!m.testBit i&&fitK S L (wkK L K kk) i))) (W:=fun w=>CoM w0 B r n (McS S L K kk) (fun y=>Lf y∧y≠m) cnt2 B2 n3 (M3F (fitK S L (wkK L K kk)) S.length (McS S L K kk) Lf m i) w) (by decide) ((co12 w0 vs vl vk S L K hs hl hb hS4 hK6 hin kk hkk B n B2 r Lf cnt n2 m cnt2 hm hnb i n3 hi).noX) ?_ (T3.skip ?_)
 ·refine T3.pre (R:=fun a w=>(m.testBit i=false∧fitK S L (wkK L K kk) i=true)∧(CoM w0 B r n (McS S L K kk) (fun y=>Lf y∧y≠m) cnt2 B2 n3 (M3F (fitK S L (wkK L K kk)) S.length (McS S L K kk) Lf m i) w)∧Fr 62 [(0,vs),(1,vl),(2,vk),(7,.map (some B)),(9,.string (geta K (kk:Int))),(10,.map (some B2)),(11,.int .i64 (m:Int)),(12,.int .i64 (i:Int)),(15,vk),(16,.int .i64 K.length),(17,.int .i64 (kk:Int)),(23,.pointer (some ⟨r,0,none⟩)),(28,vs),(29,.int .i64 S.length),(30,.int .i64 (i:Int))] a) (T3.pure fun hq=>((co13 w0 vs vl vk S L K hs hl hb hS4 hK6 hin kk hkk B n B2 r Lf cnt n2 m cnt2 hm hnb i n3 hi hq.1 hq.2 hn3).noX).post ?_) (fun a w ⟨hF,hq,hW⟩=>⟨by have:=hq.symm;simp only [Bool.and_eq_true,Bool.not_eq_true']at this;exact this,hW,hF.tail⟩);rintro a w ⟨hW,hF⟩;exact⟨n3+1,by omega,hW,hF.sub (by simp)⟩
 ·rintro a w ⟨hq,hW,hF⟩;refine⟨n3,by omega,hW.congr (fun _=>m3_no (fun h=>?_)),hF.sub (by simp)⟩;rw [h.1,h.2]at hq;cases hq
end
theorem coi (k:Int):T3 Tryz.prog (fun a w=>∃(n3:Nat),((0≤k∧k<S.length)∧(n3≤n2+(k:Int).toNat))∧(CoM w0 B r n (McS S L K kk) (fun y=>Lf y∧y≠m) cnt2 B2 n3 (M3F (fitK S L (wkK L K kk)) S.length (McS S L K kk) Lf m (k:Int).toNat) w)∧Fr 62 [(0,vs),(1,vl),(2,vk),(7,.map (some B)),(9,.string (geta K (kk:Int))),(10,.map (some B2)),(11,.int .i64 (m:Int)),(15,vk),(16,.int .i64 K.length),(17,.int .i64 (kk:Int)),(23,.pointer (some ⟨r,0,none⟩)),(28,vs),(29,.int .i64 S.length),(30,.int .i64 k)] a) (sel [1,1,0,1,4,4,1,1,0,4,1,1,0,1,4,4,1,1,4,1,1,4,4,1,1,0] coR) (fun a w=>∃(n3:Nat),((0≤k∧k<S.length)∧(n3≤n2+((k+1):Int).toNat))∧(CoM w0 B r n (McS S L K kk) (fun y=>Lf y∧y≠m) cnt2 B2 n3 (M3F (fitK S L (wkK L K kk)) S.length (McS S L K kk) Lf m ((k+1):Int).toNat) w)∧Fr 62 [(0,vs),(1,vl),(2,vk),(7,.map (some B)),(9,.string (geta K (kk:Int))),(10,.map (some B2)),(11,.int .i64 (m:Int)),(15,vk),(16,.int .i64 K.length),(17,.int .i64 (kk:Int)),(23,.pointer (some ⟨r,0,none⟩)),(28,vs),(29,.int .i64 S.length),(30,.int .i64 k)] a) No 9 No:=by
 refine T3.ex fun n3=>T3.pure fun hh=>?_
 obtain⟨hh,hI⟩:=hh;obtain⟨i,rfl⟩:=Int.eq_ofNat_of_zero_le hh.1;rw [Int.toNat_natCast]at hI ⊢;refine T3.mono (coI w0 vs vl vk S L K hs hl hb hS4 hK6 hin kk hkk B n B2 r Lf cnt n2 m cnt2 hm hnb i n3 (by omega) hI) (fun _ _ q=>q) ?_ (fun _ _ q=>q) (fun _ _ q=>q);rintro a w ⟨n4,hI2,hW,hF⟩;refine⟨n4,⟨hh,?_⟩,?_,hF⟩
 ·rw [show((i:Int)+1).toNat=i+1 by omega];exact hI2
 ·rw [show((i:Int)+1).toNat=i+1 by omega];exact hW
def coIAI (w0:World)(vs vl vk:Value)(S:List SlD)(L:List ScD)(K:List ByteArray)(hs:SlH w0 vs S)(hl:ScH w0 vl L)(hb:BnH w0 vk K)(hS4:S.length≤4)(hK6:K.length≤7)(hin:Hid (∀k:Nat,k<K.length→0≤scIdx L (geta K (k:Int))∧scIdx L (geta K (k:Int))<L.length))(kk:Nat)(hkk:kk<K.length)(B n:Nat)(B2:Nat)(r:Nat)(Lf:Nat→Prop)(cnt n2:Nat)(m cnt2:Nat)(hm:Hid (Lf m∧McS S L K kk m))(hnb:n2≤1000000)(k:Int)(a:Act)(w:World):Prop:=(0≤k∧k≤S.length)∧∃(n3:Nat),(n3≤n2+(k:Int).toNat)∧(CoM w0 B r n (McS S L K kk) (fun y=>Lf y∧y≠m) cnt2 B2 n3 (M3F (fitK S L (wkK L K kk)) S.length (McS S L K kk) Lf m (k:Int).toNat) w)∧Fr 62 [(0,vs),(1,vl),(2,vk),(7,.map (some B)),(9,.string (geta K (kk:Int))),(10,.map (some B2)),(11,.int .i64 (m:Int)),(15,vk),(16,.int .i64 K.length),(17,.int .i64 (kk:Int)),(23,.pointer (some ⟨r,0,none⟩)),(28,vs),(29,.int .i64 S.length),(30,.int .i64 k)] a
theorem coIAt (k:Int):T3 Tryz.prog (fun a w=>coIAI w0 vs vl vk S L K hs hl hb hS4 hK6 hin kk hkk B n B2 r Lf cnt n2 m cnt2 hm hnb k a w) (sel [1,1,0,1,4,4,1,1,0,4,1,1,0,1,4,4,1,1,4,1,1,4,4,0] coR) (fun a w=>∃q,Fr 62 ((31,.bool q)::[(30,.int .i64 k)]) a∧((q=true↔k<S.length)∧coIAI w0 vs vl vk S L K hs hl hb hS4 hK6 hin kk hkk B n B2 r Lf cnt n2 m cnt2 hm hnb k a w)) No 9 No:=by
 refine T3.leaf ?_;rintro Q JS JX JT K_ hS_ hK hX hE hT hR a w ⟨hk,n3,hpre,hW,⟨fr,rfl,q0,q1,q2,q7,q9,q10,q11,q15,q16,q17,q23,q28,q29,q30,_⟩⟩;have hsn:=hs.n;rw [fr_coR,fe q0,fe q1,fe q2,fe q7,fe q9,fe q10,fe q11,fe q15,fe q16,fe q17,fe q23,fe q28,fe q29,fe q30];clear q0 q1 q2 q7 q9 q10 q11 q15 q16 q17 q23 q28 q29 q30;conv=>arg 2;whnf
 by_cases hlt:k<S.length
 ·go_wp2_with fail
  refine Met.intro (hS_ _ _ ?_);exact⟨true,Fr.r rfl rfl,⟨fun _=>hlt,fun _=>rfl⟩,hk,n3,hpre,hW,Fr.r rfl rfl⟩
 ·have hpb:decide (k<(S.length:Int))=false:=by simp;omega
  go_wp2_with fail
  refine Met.intro (hS_ _ _ ?_);exact⟨false,Fr.r rfl rfl,⟨(fun h=>by cases h),fun h=>absurd h (by omega)⟩,hk,n3,hpre,hW,Fr.r rfl rfl⟩
theorem coIAn (k:Int):T3 Tryz.prog (fun a w=>(0≤k∧k<S.length)∧∃(n3:Nat),(n3≤n2+((k+1):Int).toNat)∧(CoM w0 B r n (McS S L K kk) (fun y=>Lf y∧y≠m) cnt2 B2 n3 (M3F (fitK S L (wkK L K kk)) S.length (McS S L K kk) Lf m ((k+1):Int).toNat) w)∧Fr 62 [(0,vs),(1,vl),(2,vk),(7,.map (some B)),(9,.string (geta K (kk:Int))),(10,.map (some B2)),(11,.int .i64 (m:Int)),(15,vk),(16,.int .i64 K.length),(17,.int .i64 (kk:Int)),(23,.pointer (some ⟨r,0,none⟩)),(28,vs),(29,.int .i64 S.length),(30,.int .i64 k)] a) (sel [1,1,0,1,4,4,1,1,0,4,1,1,0,1,4,4,1,1,4,1,1,4,4,1,1,1] coR) (fun a w=>coIAI w0 vs vl vk S L K hs hl hb hS4 hK6 hin kk hkk B n B2 r Lf cnt n2 m cnt2 hm hnb (k+1) a w) No 9 No:=by
 refine T3.leaf ?_;rintro Q JS JX JT K_ hS_ hK hX hE hT hR a w ⟨hk,n3,hpre,hW,⟨fr,rfl,q0,q1,q2,q7,q9,q10,q11,q15,q16,q17,q23,q28,q29,q30,_⟩⟩;obtain⟨hk0,hk1⟩:=hk;have hsn:=hs.n;rw [fr_coR,fe q0,fe q1,fe q2,fe q7,fe q9,fe q10,fe q11,fe q15,fe q16,fe q17,fe q23,fe q28,fe q29,fe q30];clear q0 q1 q2 q7 q9 q10 q11 q15 q16 q17 q23 q28 q29 q30;conv=>arg 2;whnf
 go_wp2_with fail
 refine Met.intro (hS_ _ _ ?_);exact⟨⟨by omega,by omega⟩,n3,hpre,hW,Fr.r rfl rfl⟩
theorem coIAloop:T3 Tryz.prog (fun a w=>coIAI w0 vs vl vk S L K hs hl hb hS4 hK6 hin kk hkk B n B2 r Lf cnt n2 m cnt2 hm hnb 0 a w) (sel [1,1,0,1,4,4,1,1,0,4,1,1,0,1,4,4,1,1,4,1,1] coR) (fun a w=>∃(n3:Nat),(n3≤n2+4)∧(CoM w0 B r n (McS S L K kk) (fun y=>Lf y∧y≠m) cnt2 B2 n3 (M2F (fitK S L (wkK L K kk)) S.length (McS S L K kk) (fun y=>Lf y∧y≠m)) w)∧Fr 62 [(0,vs),(1,vl),(2,vk),(7,.map (some B)),(9,.string (geta K (kk:Int))),(10,.map (some B2)),(11,.int .i64 (m:Int)),(15,vk),(16,.int .i64 K.length),(17,.int .i64 (kk:Int)),(23,.pointer (some ⟨r,0,none⟩))] a) No 9 No :=
 T3.range (I:=coIAI w0 vs vl vk S L K hs hl hb hS4 hK6 hin kk hkk B n B2 r Lf cnt n2 m cnt2 hm hnb) rfl (by decide) (coIAt w0 vs vl vk S L K hs hl hb hS4 hK6 hin kk hkk B n B2 r Lf cnt n2 m cnt2 hm hnb) (coIAn w0 vs vl vk S L K hs hl hb hS4 hK6 hin kk hkk B n B2 r Lf cnt n2 m cnt2 hm hnb) (fun _ _ _ h=>h.1) (fun k hk=>T3.mono (coi w0 vs vl vk S L K hs hl hb hS4 hK6 hin kk hkk B n B2 r Lf cnt n2 m cnt2 hm hnb k) (fun a w ⟨_,n3,hp,hI⟩=>⟨n3,⟨hk,hp⟩,hI⟩) (fun a w ⟨n3,⟨hk,hp⟩,hI⟩=>⟨hk,n3,hp,hI⟩) (fun _ _ q=>q) (fun _ _ q=>q)) (fun a w hI=>by
  obtain⟨hk,hI⟩:=hI;obtain⟨n3,hn3,hW,hF⟩:=hI;rw [Int.toNat_natCast]at hn3 hW;exact⟨n3,by omega,hW.congr (fun _=>m3_end hm.out.2),hF.sub (by simp)⟩)
end
section
variable (w0:World)(vs vl vk:Value)(S:List SlD)(L:List ScD)(K:List ByteArray)(hs:SlH w0 vs S)(hl:ScH w0 vl L)(hb:BnH w0 vk K)(hS4:S.length≤4)(hK6:K.length≤7)(hin:Hid (∀k:Nat,k<K.length→0≤scIdx L (geta K (k:Int))∧scIdx L (geta K (k:Int))<L.length))
include hs hl hb hS4 hK6 hin
section
variable (kk:Nat)(hkk:kk<K.length)(B n:Nat)
include hkk B n
theorem coM (B2:Nat)(r:Nat)(hn6:n≤4 ^ 7):T3 Tryz.prog (fun a w=>∃cnt:Nat,cnt≤n∧(CoM w0 B r n (McS S L K kk) (McS S L K kk) cnt B2 0 (M2F (fitK S L (wkK L K kk)) S.length (McS S L K kk) (McS S L K kk)) w)∧Fr 62 [(0,vs),(1,vl),(2,vk),(7,.map (some B)),(9,.string (geta K (kk:Int))),(10,.map (some B2)),(15,vk),(16,.int .i64 K.length),(17,.int .i64 (kk:Int)),(23,.pointer (some ⟨r,0,none⟩))] a) (sel [1,1,0,1,4,4,1,1,0,4,1,1,0,1] coR) (fun a w=>∃(n2:Nat),(n2≤4*n)∧(CoA w0 B2 n2 (McS S L K (kk+1)) w)∧Fr 62 [(0,vs),(1,vl),(2,vk),(7,.map (some B)),(9,.string (geta K (kk:Int))),(10,.map (some B2)),(15,vk),(16,.int .i64 K.length),(17,.int .i64 (kk:Int))] a) No 9 No:=by
 refine T3.loop (c:=(sel [1,1,0,1,4,4,1,1,0,4,1,1,0,1,4,4] coR)) (fun ng a w=>∃(Lf:Nat→Prop) (cnt n2:Nat),(cnt=ng∧n2+4*cnt≤4*n∧(∀x,Lf x→McS S L K kk x))∧(CoM w0 B r n (McS S L K kk) Lf cnt B2 n2 (M2F (fitK S L (wkK L K kk)) S.length (McS S L K kk) Lf) w)∧Fr 62 [(0,vs),(1,vl),(2,vk),(7,.map (some B)),(9,.string (geta K (kk:Int))),(10,.map (some B2)),(15,vk),(16,.int .i64 K.length),(17,.int .i64 (kk:Int)),(23,.pointer (some ⟨r,0,none⟩))] a) (fun a w ⟨cnt,hc,h⟩=>⟨_,_,cnt,0,⟨rfl,by omega,fun _ h=>h⟩,h⟩) (fun ng=>T3.ex fun Lf=>T3.ex fun cnt=>T3.ex fun n2=>T3.pure fun hh=>?_);obtain⟨rfl,hnn,hLf⟩:=hh;refine T3.sq rfl ((co7 w0 vs vl vk S L K hs hl hb hS4 hK6 hin kk hkk B n B2 r Lf cnt n2).noX) ?_;refine T3.sq rfl (S:=fun a w=>∃(m:Nat) (c:Value) (cnt2:Nat),(Lf m∧cnt2<cnt)∧(CoM w0 B r n (McS S L K kk) (fun y=>Lf y∧y≠m) cnt2 B2 n2 (M2F (fitK S L (wkK L K kk)) S.length (McS S L K kk) Lf) w∧(Instr.entry (.pointer (some ⟨r,0,none⟩))).run Tryz.prog w=.ok (.tuple #[.int .i64 (m:Int),c]) w)∧Fr 62 [(0,vs),(1,vl),(2,vk),(7,.map (some B)),(9,.string (geta K (kk:Int))),(10,.map (some B2)),(15,vk),(16,.int .i64 K.length),(17,.int .i64 (kk:Int)),(23,.pointer (some ⟨r,0,none⟩))] a) ?_ ?_
 ·refine T3.iff (x:=.skip) (y:=.exit 2) (M:=(fun(q:Bool) (w:World)=>(q=false∧(∀m,¬Lf m)∧CoM w0 B r n (McS S L K kk) Lf cnt B2 n2 (M2F (fitK S L (wkK L K kk)) S.length (McS S L K kk) Lf) w)∨(q=true∧∃(m:Nat) (c:Value) (cnt2:Nat),(Lf m∧cnt2<cnt)∧CoM w0 B r n (McS S L K kk) (fun y=>Lf y∧y≠m) cnt2 B2 n2 (M2F (fitK S L (wkK L K kk)) S.length (McS S L K kk) Lf) w∧(Instr.entry (.pointer (some ⟨r,0,none⟩))).run Tryz.prog w=.ok (.tuple #[.int .i64 (m:Int),c]) w))) (by decide) (T3.skip ?_) (T3.exit ?_)
  ·rintro a w ⟨hF,h|⟨_,m,c,cnt2,h1,h2,h3⟩⟩
   ·cases h.1
   ·exact⟨m,c,cnt2,h1,⟨h2,h3⟩,hF.tail⟩
  ·rintro a w ⟨hF,⟨_,hl0,hW⟩|h⟩
   ·exact⟨n2,by omega,⟨hW.bel,hW.lo2,hW.s2.congr (fun _=>m2_end hl0)⟩,hF.sub (by simp)⟩
   ·cases h.1
 refine T3.ex fun m=>T3.ex fun c=>T3.ex fun cnt2=>T3.pure fun hm=>?_
 refine T3.block (id':=3) (c:=(sel [1,1,0,1,4,4,1,1,0,4,1,1,0,1,4,4,1,1,4] coR)) (by decide) ?_;have hmm:Hid (Lf m∧McS S L K kk m):=Lib.hid ⟨hm.1,hLf m hm.1⟩;have hnb:n2≤1000000:=by omega
 refine T3.sq rfl ((co8 w0 vs vl vk S L K hs hl hb hS4 hK6 hin kk hkk B n B2 r Lf cnt n2 m cnt2 hmm hnb c).noX) ?_;refine((T3.seq (s:=(sel [1,1,0,1,4,4,1,1,0,4,1,1,0,1,4,4,1,1,4,1,0] coR)) (c:=(sel [1,1,0,1,4,4,1,1,0,4,1,1,0,1,4,4,1,1,4,1,1] coR)) (co9 w0 vs vl vk S L K hs hl hb hS4 hK6 hin kk hkk B n B2 r Lf cnt n2 m cnt2 hmm hnb) (coIAloop w0 vs vl vk S L K hs hl hb hS4 hK6 hin kk hkk B n B2 r Lf cnt n2 m cnt2 hmm hnb)).noX).post ?_;rintro a w ⟨n3,hn3,hW,hF⟩;exact⟨cnt2,hm.2,_,cnt2,n3,⟨rfl,by omega,fun x h=>hLf x h.1⟩,hW,hF.sub (by simp)⟩
theorem co15 (B2:Nat)(n2:Nat):T3 Tryz.prog (fun a w=>(CoA w0 B2 n2 (McS S L K (kk+1)) w)∧Fr 62 [(0,vs),(1,vl),(2,vk),(7,.map (some B)),(9,.string (geta K (kk:Int))),(10,.map (some B2)),(15,vk),(16,.int .i64 K.length),(17,.int .i64 (kk:Int))] a) (sel [1,1,0,1,4,4,1,1,0,4,1,1,1] coR) (fun a w=>(CoA w0 B2 n2 (McS S L K (kk+1)) w)∧Fr 62 [(0,vs),(1,vl),(2,vk),(7,.map (some B2)),(15,vk),(16,.int .i64 K.length),(17,.int .i64 (kk:Int))] a) No 9 No:=by
 refine T3.leaf ?_;rintro Q JS JX JT K_ hS_ hK hX hE hT hR a w ⟨hW,⟨fr,rfl,q0,q1,q2,q7,q9,q10,q15,q16,q17,_⟩⟩;have HW:=Lib.hid hW;have hkn:=hb.n;have hsn:=hs.n;obtain⟨p1,c1,rfl⟩:=hs.r.shape;obtain⟨p2,c2,rfl⟩:=hl.r.shape;obtain⟨p3,c3,rfl⟩:=hb.r.shape;clear hW hs hl hb;generalize geta K (kk:Int)=x at *;rw [fr_coR,fe q0,fe q1,fe q2,fe q7,fe q9,fe q10,fe q15,fe q16,fe q17];clear q0 q1 q2 q7 q9 q10 q15 q16 q17;conv=>arg 2;whnf
 go_wp2_with fail
 refine Met.intro (hS_ _ _ ?_);exact⟨HW.out,Fr.r rfl rfl⟩
theorem coB (hn:n≤4 ^ kk):T3 Tryz.prog (fun a w=>(CoA w0 B n (McS S L K kk) w)∧Fr 62 [(0,vs),(1,vl),(2,vk),(7,.map (some B)),(15,vk),(16,.int .i64 K.length),(17,.int .i64 (kk:Int))] a) (sel [1,1,0,1,4,4,1,1,0] coR) (fun a w=>∃(B n:Nat),(n≤4 ^ (kk+1))∧(CoA w0 B n (McS S L K (kk+1)) w)∧Fr 62 [(0,vs),(1,vl),(2,vk),(7,.map (some B)),(15,vk),(16,.int .i64 K.length),(17,.int .i64 (kk:Int))] a) No 9 No:=by
 have hn6:n≤4 ^ 7:=Nat.le_trans hn (Nat.pow_le_pow_right (by decide) (by omega));refine T3.block (id':=1) (c:=(sel [1,1,0,1,4,4,1,1,0,4] coR)) (by decide) ?_;refine T3.sq rfl ((co4 w0 vs vl vk S L K hs hl hb hS4 hK6 hin kk hkk B n).noX) ?_;refine T3.sq rfl ((co5 w0 vs vl vk S L K hs hl hb hS4 hK6 hin kk hkk B n).noX) (T3.ex fun B2=>?_);refine T3.sq rfl ((T3.seq (s:=(sel [1,1,0,1,4,4,1,1,0,4,1,1,0,0] coR)) (c:=(sel [1,1,0,1,4,4,1,1,0,4,1,1,0,1] coR)) (co6 w0 vs vl vk S L K hs hl hb hS4 hK6 hin kk hkk B n B2) (T3.ex fun r=>(coM w0 vs vl vk S L K hs hl hb hS4 hK6 hin kk hkk B n B2 r hn6).pre fun a w ⟨cnt,h⟩=>⟨cnt,h⟩)).noX) (T3.ex fun n2=>T3.pure fun hn2=>((co15 w0 vs vl vk S L K hs hl hb hS4 hK6 hin kk hkk B n B2 n2).noX).post ?_);rintro a w ⟨hW,hF⟩;exact⟨B2,n2,by rw [Nat.pow_succ];omega,hW,hF⟩
end
theorem cob (k:Int):T3 Tryz.prog (fun a w=>∃(B n:Nat),((0≤k∧k<K.length)∧(n≤4 ^ (k:Int).toNat))∧(CoA w0 B n (McS S L K (k:Int).toNat) w)∧Fr 62 [(0,vs),(1,vl),(2,vk),(7,.map (some B)),(15,vk),(16,.int .i64 K.length),(17,.int .i64 k)] a) (sel [1,1,0,1,4,4,1,1,0] coR) (fun a w=>∃(B n:Nat),((0≤k∧k<K.length)∧(n≤4 ^ ((k+1):Int).toNat))∧(CoA w0 B n (McS S L K ((k+1):Int).toNat) w)∧Fr 62 [(0,vs),(1,vl),(2,vk),(7,.map (some B)),(15,vk),(16,.int .i64 K.length),(17,.int .i64 k)] a) No 9 No:=by
 refine T3.ex fun B=>T3.ex fun n=>T3.pure fun hh=>?_
 obtain⟨hh,hI⟩:=hh;obtain⟨kn,rfl⟩:=Int.eq_ofNat_of_zero_le hh.1;rw [Int.toNat_natCast]at hI ⊢;refine T3.mono (coB w0 vs vl vk S L K hs hl hb hS4 hK6 hin kn (by omega) B n hI) (fun _ _ q=>q) ?_ (fun _ _ q=>q) (fun _ _ q=>q);rintro a w ⟨B2,n2,hI2,hW,hF⟩;refine⟨B2,n2,⟨hh,?_⟩,?_,hF⟩
 ·rw [show((kn:Int)+1).toNat=kn+1 by omega];exact hI2
 ·rw [show((kn:Int)+1).toNat=kn+1 by omega];exact hW
def coAI (w0:World)(vs vl vk:Value)(S:List SlD)(L:List ScD)(K:List ByteArray)(hs:SlH w0 vs S)(hl:ScH w0 vl L)(hb:BnH w0 vk K)(hS4:S.length≤4)(hK6:K.length≤7)(hin:Hid (∀k:Nat,k<K.length→0≤scIdx L (geta K (k:Int))∧scIdx L (geta K (k:Int))<L.length))(k:Int)(a:Act)(w:World):Prop:=(0≤k∧k≤K.length)∧∃(B n:Nat),(n≤4 ^ (k:Int).toNat)∧(CoA w0 B n (McS S L K (k:Int).toNat) w)∧Fr 62 [(0,vs),(1,vl),(2,vk),(7,.map (some B)),(15,vk),(16,.int .i64 K.length),(17,.int .i64 k)] a
theorem coAt (k:Int):T3 Tryz.prog (fun a w=>coAI w0 vs vl vk S L K hs hl hb hS4 hK6 hin k a w) (sel [1,1,0,1,4,4,0] coR) (fun a w=>∃q,Fr 62 ((18,.bool q)::[(17,.int .i64 k)]) a∧((q=true↔k<K.length)∧coAI w0 vs vl vk S L K hs hl hb hS4 hK6 hin k a w)) No 9 No:=by
 refine T3.leaf ?_;rintro Q JS JX JT K_ hS_ hK hX hE hT hR a w ⟨hk,B,n,hpre,hW,⟨fr,rfl,q0,q1,q2,q7,q15,q16,q17,_⟩⟩;have hkn:=hb.n;rw [fr_coR,fe q0,fe q1,fe q2,fe q7,fe q15,fe q16,fe q17];clear q0 q1 q2 q7 q15 q16 q17;conv=>arg 2;whnf
 by_cases hlt:k<K.length
 ·go_wp2_with fail
  refine Met.intro (hS_ _ _ ?_);exact⟨true,Fr.r rfl rfl,⟨fun _=>hlt,fun _=>rfl⟩,hk,B,n,hpre,hW,Fr.r rfl rfl⟩
 ·have hpb:decide (k<(K.length:Int))=false:=by simp;omega
  go_wp2_with fail
  refine Met.intro (hS_ _ _ ?_);exact⟨false,Fr.r rfl rfl,⟨(fun h=>by cases h),fun h=>absurd h (by omega)⟩,hk,B,n,hpre,hW,Fr.r rfl rfl⟩
theorem coAn (k:Int):T3 Tryz.prog (fun a w=>(0≤k∧k<K.length)∧∃(B n:Nat),(n≤4 ^ ((k+1):Int).toNat)∧(CoA w0 B n (McS S L K ((k+1):Int).toNat) w)∧Fr 62 [(0,vs),(1,vl),(2,vk),(7,.map (some B)),(15,vk),(16,.int .i64 K.length),(17,.int .i64 k)] a) (sel [1,1,0,1,4,4,1,1,1] coR) (fun a w=>coAI w0 vs vl vk S L K hs hl hb hS4 hK6 hin (k+1) a w) No 9 No:=by
 refine T3.leaf ?_;rintro Q JS JX JT K_ hS_ hK hX hE hT hR a w ⟨hk,B,n,hpre,hW,⟨fr,rfl,q0,q1,q2,q7,q15,q16,q17,_⟩⟩;obtain⟨hk0,hk1⟩:=hk;have hkn:=hb.n;rw [fr_coR,fe q0,fe q1,fe q2,fe q7,fe q15,fe q16,fe q17];clear q0 q1 q2 q7 q15 q16 q17;conv=>arg 2;whnf
 go_wp2_with fail
 refine Met.intro (hS_ _ _ ?_);exact⟨⟨by omega,by omega⟩,B,n,hpre,hW,Fr.r rfl rfl⟩
theorem coAloop:T3 Tryz.prog (fun a w=>coAI w0 vs vl vk S L K hs hl hb hS4 hK6 hin 0 a w) (sel [1,1,0,1] coR) (fun a w=>∃(B n:Nat),(n≤4 ^ K.length)∧(CoA w0 B n (McS S L K K.length) w)∧Fr 62 [(7,.map (some B))] a) No 9 No :=
 T3.range (I:=coAI w0 vs vl vk S L K hs hl hb hS4 hK6 hin) rfl (by decide) (coAt w0 vs vl vk S L K hs hl hb hS4 hK6 hin) (coAn w0 vs vl vk S L K hs hl hb hS4 hK6 hin) (fun _ _ _ h=>h.1) (fun k hk=>T3.mono (cob w0 vs vl vk S L K hs hl hb hS4 hK6 hin k) (fun a w ⟨_,B,n,hp,hI⟩=>⟨B,n,⟨hk,hp⟩,hI⟩) (fun a w ⟨B,n,⟨hk,hp⟩,hI⟩=>⟨hk,B,n,hp,hI⟩) (fun _ _ q=>q) (fun _ _ q=>q)) (fun a w hI=>by
  obtain⟨hk,hI⟩:=hI;obtain⟨B,n,hn,hW,hF⟩:=hI;rw [Int.toNat_natCast]at hn hW;exact⟨B,n,hn,hW,hF.sub (by simp)⟩)
theorem co17 (B n:Nat):T3 Tryz.prog (fun a w=>(CoA w0 B n (McS S L K K.length) w)∧Fr 62 [(7,.map (some B))] a) (sel [1,1,1,0] coR) (fun a w=>∃(q:Bool),(Below w0.heap.size w0 w∧(q=true↔∃m,McS S L K K.length m))∧Fr 62 [(6,.bool q)] a) No 9 No:=by
 refine T3.leaf ?_;rintro Q JS JX JT K_ hS_ hK hX hE hT hR a w ⟨hW,⟨fr,rfl,q7,_⟩⟩;have HS:=Lib.hid hW.s;have HW:=Lib.hid hW.bel;clear hW hs hl hb hin;rw [fr_coR,fe q7];clear q7;conv=>arg 2;whnf
 go_wp2_with (at_len;refine wp_len_set rfl _ rfl B n _ rfl HS.out ?_;intro c hc hcn)
 have HC:=Lib.hid hc;clear hc;go_wp2_with fail
 refine Met.intro (hS_ _ _ ?_);exact⟨decide ((c:Int)>0),⟨HW.out,by rw [←HC.out];simp⟩,Fr.of _ rfl ⟨rfl,trivial⟩⟩
theorem co_all:T3 Tryz.prog (fun a w=>(Below w0.heap.size w0 w)∧Fr 62 [(0,vs),(1,vl),(2,vk)] a) coR No No 9 (fun a w=>∃q:Bool,(Below w0.heap.size w0 w∧(q=true↔∃m,McS S L K K.length m))∧Fr 62 [(6,.bool q)] a):=by
 refine T3.seq (s:=(sel [0] coR)) (c:=(sel [1] coR)) (T3.noT (co0 w0 vs vl vk S L K hs hl hb hS4 hK6 hin)) ?_;refine T3.sq rfl (T3.noT (co1 w0 vs vl vk S L K hs hl hb hS4 hK6 hin)) ?_;refine T3.ex fun B0=>?_
 refine T3.sq rfl (T3.noT (T3.seq (s:=(sel [1,1,0,0] coR)) (c:=(sel [1,1,0,1] coR)) (co2 w0 vs vl vk S L K hs hl hb hS4 hK6 hin B0) (coAloop w0 vs vl vk S L K hs hl hb hS4 hK6 hin))) ?_;refine T3.ex fun B=>T3.ex fun n=>T3.pure fun _=>?_
 refine T3.sr rfl (T3.noT (co17 w0 vs vl vk S L K hs hl hb hS4 hK6 hin B n)) (T3.ret ?_);exact fun a w q=>q
/-- CanOf of the reference. -/
theorem canOf_ref:Calls Tryz.prog 35 #[vs,vl,vk] w0 fun e w'=>∃q:Bool,e=.returned (.bool q)∧(q=true↔∃m,McS S L K K.length m)∧Below w0.heap.size w0 w':=by
 have hall:=co_all w0 vs vl vk S L K hs hl hb hS4 hK6 hin;clear hin
 go_enter Tryz.func35,Tryz.ntmps35
 refine T3.done (s:=coR) hall ⟨Below.refl _ _,Fr.r rfl rfl⟩ ?_;rintro a w ⟨q,⟨hb1,hq⟩,fr,rfl,q6,_⟩;rw [fr_coR,fe q6];exact bodyPost_ret (v:=.bool q) (by simp [results,Tryz.results35,go_sem]) rfl ⟨q,rfl,hq,hb1⟩
end
end Go.Proofs.YtnmdpphddimfbaaGreat
/-
  LackingOf of the reference: the sets of slots that can be filled; which slots of a set are filled, as a row. Conditions: at most 4 slots and 6 scorers.
-/
namespace Go.Proofs.YtnmdpphddimfbaaGreat
open Go.RowKit Go.Bw
/-- What has been made: of those that were done; and of the one that is under way. -/
def M2G (fit:Nat→Bool)(n:Nat)(M Lf:Nat→Prop):Nat→Prop:=fun x=>∃m,(M m∧¬Lf m)∧(x=m∨∃i,i<n∧stF fit m i x)
def M3G (fit:Nat→Bool)(n:Nat)(M Lf:Nat→Prop)(m j:Nat):Nat→Prop:=fun x=>(M2G fit n M Lf x∨x=m)∨∃i,i<j∧stF fit m i x
section
variable {fit:Nat→Bool}{n m j x:Nat}{M Lf:Nat→Prop}
theorem g3_start:(M2G fit n M Lf x∨x=m)↔M3G fit n M Lf m 0 x:=⟨.inl,fun h=>h.elim id fun⟨_,h,_⟩=>absurd h (Nat.not_lt_zero _)⟩
theorem g3_yes (h1:m.testBit j=false)(h2:fit j=true):(M3G fit n M Lf m j x∨x=orBit m j)↔M3G fit n M Lf m (j+1) x:=by
 constructor
 ·rintro((h|⟨i,h,hs⟩)|rfl)
  ·exact .inl h
  ·exact .inr ⟨i,by omega,hs⟩
  ·exact .inr ⟨j,by omega,h1,h2,rfl⟩
 ·rintro(h|⟨i,h,hs⟩)
  ·exact .inl (.inl h)
  ·by_cases e:i=j
   ·subst e;exact .inr hs.2.2
   ·exact .inl (.inr ⟨i,by omega,hs⟩)
theorem g3_no (h:¬(m.testBit j=false∧fit j=true)):M3G fit n M Lf m j x↔M3G fit n M Lf m (j+1) x:=by
 constructor
 ·rintro(h|⟨i,h,hs⟩)
  ·exact .inl h
  ·exact .inr ⟨i,by omega,hs⟩
 ·rintro(h1|⟨i,h1,hs⟩)
  ·exact .inl h1
  ·by_cases e:i=j
   ·subst e;exact absurd ⟨hs.1,hs.2.1⟩ h
   ·exact .inr ⟨i,by omega,hs⟩
theorem g3_end (hM:M m):M3G fit n M Lf m n x↔M2G fit n M (fun y=>Lf y∧y≠m) x:=by
 constructor
 ·rintro((⟨m1,⟨h1,h2⟩,h3⟩|rfl)|⟨i,h3,h4⟩)
  ·exact⟨m1,⟨h1,fun h=>h2 h.1⟩,h3⟩
  ·exact⟨x,⟨hM,fun h=>h.2 rfl⟩,.inl rfl⟩
  ·exact⟨m,⟨hM,fun h=>h.2 rfl⟩,.inr ⟨i,h3,h4⟩⟩
 ·rintro⟨m1,⟨h1,h2⟩,h3⟩
  by_cases e:m1=m
  ·subst e;rcases h3 with rfl|⟨i,h3,h4⟩
   ·exact .inl (.inr rfl)
   ·exact .inr ⟨i,h3,h4⟩
  ·exact .inl (.inl ⟨m1,⟨h1,fun h=>h2 ⟨h,e⟩⟩,h3⟩)
theorem g2_start:False ↔ M2G fit n M M x:=⟨False.elim,fun⟨_,h,_⟩=>h.2 h.1⟩
end
def MlS (S:List SlD)(L:List ScD)(k:Nat):Nat→Prop:=RchL (fitK S L) S.length k
theorem g2_end {S:List SlD}{L:List ScD}{k x:Nat}{Lf:Nat→Prop}(hl:∀m,¬Lf m):M2G (fitK S L k) S.length (MlS S L k) Lf x↔MlS S L (k+1) x:=by
 constructor
 ·rintro⟨m,h1,rfl|⟨i,h2,h3⟩⟩
  ·exact .inl h1.1
  ·exact .inr ⟨m,i,h1.1,h2,h3⟩
 ·rintro(h|⟨m,i,h1,h2,h3⟩)
  ·exact⟨x,⟨h,hl x⟩,.inl rfl⟩
  ·exact⟨m,⟨h1,hl m⟩,.inr ⟨i,h2,h3⟩⟩
theorem rchL_16 {fit:Nat→Nat→Bool}{n:Nat}(hn:n≤4):∀{j m},RchL fit n j m→m<16
 | 0,m,h=>by have:m=0:=h;omega
 | j+1,m,.inl h=>rchL_16 hn h
 | j+1,m,.inr ⟨m0,i,h,hi,_,_,e⟩=>by rw [e];exact(or_w4 m0 (rchL_16 hn h) i (by omega)).2
theorem bit_i:∀ s:Nat,s<16→∀i:Nat,i<4→bits BinOp.and IntKind.i64 ((s:Int) / 2 ^ i) 1=bitI s i:=by decide +kernel
theorem fill_snoc (m:Nat):∀r i,fillL m i (r+1)=fillL m i r++[bitI m (i+r)]
 | 0,i=>rfl
 | r+1,i=>by
  have h:=fill_snoc m r (i+1);rw [show i+1+r=i+(r+1)by omega]at h;rw [fillL,h];rfl
theorem el_int:Elem Tryz.prog 22 3 (.int .i64 0) 1 8:=⟨by kernel_rfl,by kernel_rfl,by kernel_rfl,by decide,by decide⟩
/-- And the scorer in a box. -/
structure LkM (w0:World)(B r n:Nat)(M Lf:Nat→Prop)(cnt B2 n2:Nat)(M2:Nat→Prop)(g7:Nat)(y:ScD)(w:World):Prop where
 m:CoM w0 B r n M Lf cnt B2 n2 M2 w
 b:ScB w g7 y
 n2:g7≠B2
 nr:g7≠r
theorem ScB.grown {w w':World}{g7:Nat}{y:ScD}{row:Option Nat}(h:ScB w g7 y)(g:w.grownBy w' row)(hn:some g7≠row):ScB w' g7 y :=
 ⟨g.cell (a:=⟨g7,0,none⟩) h.c0 hn,g.cell (a:=⟨g7,1,none⟩) h.c1 hn,g.cell (a:=⟨g7,2,none⟩) h.c2 hn,g.cell (a:=⟨g7,3,none⟩) h.c3 hn,g.cell (a:=⟨g7,4,none⟩) h.c4 hn⟩
section
variable {w0 w w':World}{B r n cnt cnt' B2 n2 n3 g7:Nat}{M Lf Lf' M2 M3:Nat→Prop}{y:ScD}
section
variable (h:LkM w0 B r n M Lf cnt B2 n2 M2 g7 y w)
include h
theorem LkM.below (b:Below w.heap.size w w'):LkM w0 B r n M Lf cnt B2 n2 M2 g7 y w':=⟨h.m.below b,h.b.below b,h.n2,h.nr⟩
theorem LkM.put (hs:SetW w' B2 n3 M3)(g:w.grownBy w' (some B2)):LkM w0 B r n M Lf cnt B2 n3 M3 g7 y w' :=
 ⟨h.m.put hs g,h.b.grown g (fun e=>h.n2 (by cases e;rfl)),h.n2,h.nr⟩
theorem LkM.next (hr:RngW w' B r n M Lf' cnt')(g:w.grownBy w' (some r)):LkM w0 B r n M Lf' cnt' B2 n2 M2 g7 y w' :=
 ⟨h.m.next hr g,h.b.grown g (fun e=>h.nr (by cases e;rfl)),h.n2,h.nr⟩
theorem LkM.congr (e:∀m,M2 m↔M3 m):LkM w0 B r n M Lf cnt B2 n2 M3 g7 y w:=⟨h.m.congr e,h.b,h.n2,h.nr⟩
end
end
noncomputable def lfR:Code:=(Tryz.f77.body).getD .skip
theorem fr_lfR (f:Nat→Value):frame 20 f=⟨#[f 0,f 1,f 2,f 3,f 4,f 5,f 6,f 7,f 8,f 9,f 10,f 11,f 12,f 13,f 14,f 15,f 16,f 17,f 18,f 19],[]⟩:=by rfl
section
variable (w0:World)(b2 m:Nat)(vs:Value)(S:List SlD)(hs:SlH w0 vs S)(h2:w0.cell? ⟨b2,0,none⟩=some vs)(hS4:S.length≤4)(hm:m<16)
include hs h2 hS4 hm
theorem lf0:T3 Tryz.prog (fun a w=>(Below w0.heap.size w0 w)∧Fr 20 [(0,.int .i64 (m:Int)),(1,.pointer (some ⟨b2,0,none⟩))] a) (sel [0] lfR) (fun a w=>(Below w0.heap.size w0 w)∧Fr 20 [(0,.int .i64 (m:Int)),(1,.pointer (some ⟨b2,0,none⟩))] a) No 9 No:=by
 refine T3.leaf ?_;rintro Q JS JX JT K_ hS_ hK hX hE hT hR a w ⟨hW,⟨fr,rfl,q0,q1,_⟩⟩;have HW:=Lib.hid hW;clear hW hs h2;rw [fr_lfR,fe q0,fe q1];clear q0 q1;conv=>arg 2;whnf
 go_wp2_with fail
 refine Met.intro (hS_ _ _ ?_);exact⟨HW.out,Fr.r rfl rfl⟩
theorem lf1:T3 Tryz.prog (fun a w=>(Below w0.heap.size w0 w)∧Fr 20 [(0,.int .i64 (m:Int)),(1,.pointer (some ⟨b2,0,none⟩))] a) (sel [1,0] lfR) (fun a w=>∃(v4:Value),(Below w0.heap.size w0 w∧w.ownsRow w0.heap.size 3 1 v4 0 (cellsOf encI (fillL m 0 0)))∧Fr 20 [(0,.int .i64 (m:Int)),(1,.pointer (some ⟨b2,0,none⟩)),(4,v4)] a) No 9 No:=by
 refine T3.leaf ?_;rintro Q JS JX JT K_ hS_ hK hX hE hT hR a w ⟨hW,⟨fr,rfl,q0,q1,_⟩⟩;have HO:=Lib.hid (World.ownsRow_nil w w0.heap.size 3 1);have HW:=Lib.hid hW;clear hW hs h2;rw [fr_lfR,fe q0,fe q1];clear q0 q1;conv=>arg 2;whnf
 go_wp2_with fail
 refine Met.intro (hS_ _ _ ?_);exact⟨_,⟨HW.out,HO.out⟩,Fr.r rfl rfl⟩
theorem lf2 (v4:Value):T3 Tryz.prog (fun a w=>(Below w0.heap.size w0 w∧w.ownsRow w0.heap.size 3 1 v4 0 (cellsOf encI (fillL m 0 0)))∧Fr 20 [(0,.int .i64 (m:Int)),(1,.pointer (some ⟨b2,0,none⟩)),(4,v4)] a) (sel [1,1,0,0] lfR) (fun a w=>(0≤(0:Int)∧(0:Int)≤S.length)∧∃(v4:Value),(Below w0.heap.size w0 w∧w.ownsRow w0.heap.size 3 1 v4 (0:Int).toNat (cellsOf encI (fillL m 0 (0:Int).toNat)))∧Fr 20 [(0,.int .i64 (m:Int)),(1,.pointer (some ⟨b2,0,none⟩)),(4,v4),(7,.int .i64 S.length),(8,.int .i64 0)] a) No 9 No:=by
 refine T3.leaf ?_;rintro Q JS JX JT K_ hS_ hK hX hE hT hR a w ⟨hW,⟨fr,rfl,q0,q1,q4,_⟩⟩;have c2:=(hW.1.cell (p:=⟨b2,0,none⟩) (World.block_lt_of_cell? w0 _ h2)).trans h2;obtain⟨p1,c1,rfl⟩:=hs.r.shape;obtain⟨q4,d4,rfl⟩:=(Row.of_owns hW.2).shape;have HW:=Lib.hid hW;clear hW hs h2;rw [fr_lfR,fe q0,fe q1,fe q4];clear q0 q1 q4;conv=>arg 2;whnf
 go_wp2_with fail
 refine Met.intro (hS_ _ _ ?_);exact⟨⟨by omega,by omega⟩,_,HW.out,Fr.r rfl rfl⟩
theorem lf4 (v4:Value)(k:Nat)(hk:k<S.length):T3 Tryz.prog (fun a w=>(Below w0.heap.size w0 w∧w.ownsRow w0.heap.size 3 1 v4 k (cellsOf encI (fillL m 0 k)))∧Fr 20 [(0,.int .i64 (m:Int)),(1,.pointer (some ⟨b2,0,none⟩)),(4,v4),(7,.int .i64 S.length),(8,.int .i64 (k:Int))] a) (sel [1,1,0,1,4,4,1,1,0,4,0] lfR) (fun a w=>(Below w0.heap.size w0 w∧w.ownsRow w0.heap.size 3 1 v4 k (cellsOf encI (fillL m 0 k)))∧Fr 20 [(0,.int .i64 (m:Int)),(1,.pointer (some ⟨b2,0,none⟩)),(4,v4),(5,.int .i64 (k:Int)),(7,.int .i64 S.length),(8,.int .i64 (k:Int))] a) No 9 No:=by
 refine T3.leaf ?_;rintro Q JS JX JT K_ hS_ hK hX hE hT hR a w ⟨hW,⟨fr,rfl,q0,q1,q4,q7,q8,_⟩⟩;obtain⟨q4,d4,rfl⟩:=(Row.of_owns hW.2).shape;have HW:=Lib.hid hW;clear hW hs h2;rw [fr_lfR,fe q0,fe q1,fe q4,fe q7,fe q8];clear q0 q1 q4 q7 q8;conv=>arg 2;whnf
 go_wp2_with fail
 refine Met.intro (hS_ _ _ ?_);exact⟨HW.out,Fr.r rfl rfl⟩
theorem lf5 (v4:Value)(k:Nat)(hk:k<S.length):T3 Tryz.prog (fun a w=>(Below w0.heap.size w0 w∧w.ownsRow w0.heap.size 3 1 v4 k (cellsOf encI (fillL m 0 k)))∧Fr 20 [(0,.int .i64 (m:Int)),(1,.pointer (some ⟨b2,0,none⟩)),(4,v4),(5,.int .i64 (k:Int)),(7,.int .i64 S.length),(8,.int .i64 (k:Int))] a) (sel [1,1,0,1,4,4,1,1,0,4,1] lfR) (fun a w=>∃(v':Value),(Below w0.heap.size w0 w∧w.ownsRow w0.heap.size 3 1 v' (k+1) (cellsOf encI (fillL m 0 (k+1))))∧Fr 20 [(0,.int .i64 (m:Int)),(1,.pointer (some ⟨b2,0,none⟩)),(4,v'),(7,.int .i64 S.length),(8,.int .i64 (k:Int))] a) No 9 No:=by
 refine T3.leaf ?_;rintro Q JS JX JT K_ hS_ hK hX hE hT hR a w ⟨hW,⟨fr,rfl,q0,q1,q4,q5,q7,q8,_⟩⟩;have hE1:=el_int;have hbit:=bit_i m hm k (by omega);have hsz:=hW.1.size;have hown:=hW.2.alloc (.cells #[.int .i64 (bitI m k)] 3);have hbs:w0.heap.size≤(w.alloc (.cells #[.int .i64 (bitI m k)] 3)).heap.size:=by simp;omega
 have HA:=Lib.hid (fun v' w' (ho:w'.ownsRow w0.heap.size 3 1 v' (k+1) (cellsOf encI (fillL m 0 k)++[.int .i64 (bitI m k)])) (g:(w.alloc (.cells #[.int .i64 (bitI m k)] 3)).grownBy w' v4.ownBlock) =>
  show Below w0.heap.size w0 w'∧w'.ownsRow w0.heap.size 3 1 v' (k+1) (cellsOf encI (fillL m 0 (k+1)))from
   ⟨below_grown (hW.1.alloc hW.1.size _) hown g (Nat.le_refl _) hbs,by rw [fill_snoc,cellsOf_snoc,Nat.zero_add];exact ho⟩)
 obtain⟨q4,d4,rfl⟩:=(Row.of_owns hW.2).shape;have hk4:k<4:=by omega
 clear hW hs h2;generalize bitI m k=bb at *;rw [fr_lfR,fe q0,fe q1,fe q4,fe q5,fe q7,fe q8];clear q0 q1 q4 q5 q7 q8;conv=>arg 2;whnf
 go_wp2_with (at_builtin;refine app_law rfl _ _ _ rfl hE1 hown rfl [.int .i64 bb] rfl rfl (cells_new w #[_] _) (by simp [Value.oneCell']) (by omega) hbs ?_;intro v' w3 hown3 hgr)
 refine Met.intro (hS_ _ _ ?_);exact⟨_,HA.out _ _ hown3 hgr,Fr.r rfl rfl⟩
theorem lfb (k:Int):T3 Tryz.prog (fun a w=>(0≤k∧k<S.length)∧∃(v4:Value),(Below w0.heap.size w0 w∧w.ownsRow w0.heap.size 3 1 v4 (k:Int).toNat (cellsOf encI (fillL m 0 (k:Int).toNat)))∧Fr 20 [(0,.int .i64 (m:Int)),(1,.pointer (some ⟨b2,0,none⟩)),(4,v4),(7,.int .i64 S.length),(8,.int .i64 k)] a) (sel [1,1,0,1,4,4,1,1,0] lfR) (fun a w=>(0≤k∧k<S.length)∧∃(v4:Value),(Below w0.heap.size w0 w∧w.ownsRow w0.heap.size 3 1 v4 ((k+1):Int).toNat (cellsOf encI (fillL m 0 ((k+1):Int).toNat)))∧Fr 20 [(0,.int .i64 (m:Int)),(1,.pointer (some ⟨b2,0,none⟩)),(4,v4),(7,.int .i64 S.length),(8,.int .i64 k)] a) No 9 No:=by
 refine T3.pure fun hh=>T3.ex fun v4=>?_
 obtain⟨kn,rfl⟩:=Int.eq_ofNat_of_zero_le hh.1;rw [Int.toNat_natCast];refine T3.block (id':=1) (c:=(sel [1,1,0,1,4,4,1,1,0,4] lfR)) (by decide) ?_;refine T3.sq rfl ((lf4 w0 b2 m vs S hs h2 hS4 hm v4 kn (by omega)).noX) (((lf5 w0 b2 m vs S hs h2 hS4 hm v4 kn (by omega)).noX).post ?_);rintro a w ⟨v2,hW,hF⟩;refine⟨hh,v2,?_,hF.sub (by simp)⟩;rw [show((kn:Int)+1).toNat=kn+1 by omega];exact hW
def lfLI (w0:World)(b2 m:Nat)(vs:Value)(S:List SlD)(hs:SlH w0 vs S)(h2:w0.cell? ⟨b2,0,none⟩=some vs)(hS4:S.length≤4)(hm:m<16)(k:Int)(a:Act)(w:World):Prop:=(0≤k∧k≤S.length)∧∃(v4:Value),(Below w0.heap.size w0 w∧w.ownsRow w0.heap.size 3 1 v4 (k:Int).toNat (cellsOf encI (fillL m 0 (k:Int).toNat)))∧Fr 20 [(0,.int .i64 (m:Int)),(1,.pointer (some ⟨b2,0,none⟩)),(4,v4),(7,.int .i64 S.length),(8,.int .i64 k)] a
theorem lfLt (k:Int):T3 Tryz.prog (fun a w=>lfLI w0 b2 m vs S hs h2 hS4 hm k a w) (sel [1,1,0,1,4,4,0] lfR) (fun a w=>∃q,Fr 20 ((9,.bool q)::[(8,.int .i64 k)]) a∧((q=true↔k<S.length)∧lfLI w0 b2 m vs S hs h2 hS4 hm k a w)) No 9 No:=by
 refine T3.leaf ?_;rintro Q JS JX JT K_ hS_ hK hX hE hT hR a w ⟨hk,v4,hW,⟨fr,rfl,q0,q1,q4,q7,q8,_⟩⟩;rw [fr_lfR,fe q0,fe q1,fe q4,fe q7,fe q8];clear q0 q1 q4 q7 q8;conv=>arg 2;whnf
 by_cases hlt:k<S.length
 ·go_wp2_with fail
  refine Met.intro (hS_ _ _ ?_);exact⟨true,Fr.r rfl rfl,⟨fun _=>hlt,fun _=>rfl⟩,hk,v4,hW,Fr.r rfl rfl⟩
 ·have hpb:decide (k<(S.length:Int))=false:=by simp;omega
  go_wp2_with fail
  refine Met.intro (hS_ _ _ ?_);exact⟨false,Fr.r rfl rfl,⟨(fun h=>by cases h),fun h=>absurd h (by omega)⟩,hk,v4,hW,Fr.r rfl rfl⟩
theorem lfLn (k:Int):T3 Tryz.prog (fun a w=>(0≤k∧k<S.length)∧∃(v4:Value),(Below w0.heap.size w0 w∧w.ownsRow w0.heap.size 3 1 v4 ((k+1):Int).toNat (cellsOf encI (fillL m 0 ((k+1):Int).toNat)))∧Fr 20 [(0,.int .i64 (m:Int)),(1,.pointer (some ⟨b2,0,none⟩)),(4,v4),(7,.int .i64 S.length),(8,.int .i64 k)] a) (sel [1,1,0,1,4,4,1,1,1] lfR) (fun a w=>lfLI w0 b2 m vs S hs h2 hS4 hm (k+1) a w) No 9 No:=by
 refine T3.leaf ?_;rintro Q JS JX JT K_ hS_ hK hX hE hT hR a w ⟨hk,v4,hW,⟨fr,rfl,q0,q1,q4,q7,q8,_⟩⟩;obtain⟨hk0,hk1⟩:=hk;rw [fr_lfR,fe q0,fe q1,fe q4,fe q7,fe q8];clear q0 q1 q4 q7 q8;conv=>arg 2;whnf
 go_wp2_with fail
 refine Met.intro (hS_ _ _ ?_);exact⟨⟨by omega,by omega⟩,v4,hW,Fr.r rfl rfl⟩
theorem lfLloop:T3 Tryz.prog (fun a w=>lfLI w0 b2 m vs S hs h2 hS4 hm 0 a w) (sel [1,1,0,1] lfR) (fun a w=>∃(v4:Value),(Below w0.heap.size w0 w∧w.ownsRow w0.heap.size 3 1 v4 S.length (cellsOf encI (fillL m 0 S.length)))∧Fr 20 [(4,v4)] a) No 9 No :=
 T3.range (I:=lfLI w0 b2 m vs S hs h2 hS4 hm) rfl (by decide) (lfLt w0 b2 m vs S hs h2 hS4 hm) (lfLn w0 b2 m vs S hs h2 hS4 hm) (fun _ _ _ h=>h.1) (fun k hk=>T3.pre (lfb w0 b2 m vs S hs h2 hS4 hm k) (fun a w q=>⟨hk,q.2⟩)) (fun a w hI=>by
  obtain⟨hk,hI⟩:=hI;obtain⟨v4,hW,hF⟩:=hI;rw [Int.toNat_natCast]at hW;exact⟨v4,hW,hF.sub (by simp)⟩)
theorem lf7 (v4:Value):T3 Tryz.prog (fun a w=>(Below w0.heap.size w0 w∧w.ownsRow w0.heap.size 3 1 v4 S.length (cellsOf encI (fillL m 0 S.length)))∧Fr 20 [(4,v4)] a) (sel [1,1,1,0] lfR) (fun a w=>(Below w0.heap.size w0 w∧w.ownsRow w0.heap.size 3 1 v4 S.length (cellsOf encI (fillL m 0 S.length)))∧Fr 20 [(3,v4)] a) No 9 No:=by
 refine T3.leaf ?_;rintro Q JS JX JT K_ hS_ hK hX hE hT hR a w ⟨hW,⟨fr,rfl,q4,_⟩⟩;obtain⟨q4,d4,rfl⟩:=(Row.of_owns hW.2).shape;have HW:=Lib.hid hW;clear hW hs h2;rw [fr_lfR,fe q4];clear q4;conv=>arg 2;whnf
 go_wp2_with fail
 refine Met.intro (hS_ _ _ ?_);exact⟨HW.out,Fr.of _ rfl ⟨rfl,trivial⟩⟩
theorem lf_all:T3 Tryz.prog (fun a w=>(Below w0.heap.size w0 w)∧Fr 20 [(0,.int .i64 (m:Int)),(1,.pointer (some ⟨b2,0,none⟩))] a) lfR No No 9 (fun a w=>∃v4:Value,(Below w0.heap.size w0 w∧w.ownsRow w0.heap.size 3 1 v4 S.length (cellsOf encI (fillL m 0 S.length)))∧Fr 20 [(3,v4)] a):=by
 refine T3.seq (s:=(sel [0] lfR)) (c:=(sel [1] lfR)) (T3.noT (lf0 w0 b2 m vs S hs h2 hS4 hm)) ?_;refine T3.sq rfl (T3.noT (lf1 w0 b2 m vs S hs h2 hS4 hm)) ?_;refine T3.ex fun v0=>?_
 refine T3.sq rfl (T3.noT (T3.seq (s:=(sel [1,1,0,0] lfR)) (c:=(sel [1,1,0,1] lfR)) (lf2 w0 b2 m vs S hs h2 hS4 hm v0) (lfLloop w0 b2 m vs S hs h2 hS4 hm))) ?_;refine T3.ex fun v4=>?_
 exact T3.sr rfl (T3.noT (lf7 w0 b2 m vs S hs h2 hS4 hm v4)) (T3.ret fun a w q=>⟨v4,q⟩)
/-- Which slots of a set are filled. -/
theorem filled_ref:Calls Tryz.prog 77 #[.int .i64 (m:Int),.pointer (some ⟨b2,0,none⟩)] w0 fun e w=>∃v4:Value,e=.returned v4∧w.ownsRow w0.heap.size 3 1 v4 S.length (cellsOf encI (fillL m 0 S.length))∧Below w0.heap.size w0 w:=by
 have hall:=lf_all w0 b2 m vs S hs h2 hS4 hm;clear hs
 go_enter Tryz.func77,Tryz.ntmps77
 refine T3.done (s:=lfR) hall ⟨Below.refl _ _,Fr.r rfl rfl⟩ ?_;rintro a w ⟨v4,⟨hb,ho⟩,fr,rfl,q3,_⟩;rw [fr_lfR,fe q3];exact bodyPost_ret (v:=v4) (by simp [results,Tryz.results77,go_sem]) rfl ⟨v4,rfl,ho,hb⟩
end
end Go.Proofs.YtnmdpphddimfbaaGreat
