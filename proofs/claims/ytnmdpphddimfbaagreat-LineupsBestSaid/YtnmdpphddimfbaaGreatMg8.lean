/-
  Contracts and lemmas towards the statement, of several parts; each part says ahead of it what it holds and under which conditions.
-/
import Derived.Test.YtnmdpphddimfbaaGreatMg6
import Derived.Test.YtnmdpphddimfbaaGreatMg7
import Derived.Laws.CopyOwn
import Derived.Deep.RegionLaw
import Derived.Test.YtnmdpphddimfbaaGreatMg3
import Derived.Maps.RangeWalk
import Derived.Maps.OwnSet
set_option maxRecDepth 100000
set_option maxHeartbeats 1000000
set_option linter.unusedSectionVars false
/-
  A layer of package score lays a thing, moving others, as layF. Conditions: at most 1000 places; what can lie where is told by a function that leaves the memory as it is.
-/
set_option linter.unusedVariables false
namespace Go.Proofs.YtnmdpphddimfbaaGreat
open Go.RowKit Go.Bw
/-- A layer, its rows, and what was there before (wB: what the function may read; wS: before the row of those seen). -/
structure LyW (wB wS:World)(A0 gw gs m N:Nat)(fv:Value)(wi:List Int)(se:List Bool)(w:World):Prop where
 bel:Below wB.heap.size wB w
 gr:wS.grownBy w (some gw)
 hgs:wS.heap.size≤gs
 c0:w.cell? ⟨A0,0,none⟩=some fv
 c1:w.cell? ⟨A0,1,none⟩=some (.slice (some ⟨gw,0,none⟩) m m)
 wr:w.ownsRow wB.heap.size 3 1 (.slice (some ⟨gw,0,none⟩) m m) m (cellsOf encI wi)
 sr:w.ownsRow wB.heap.size 4 1 (.slice (some ⟨gs,0,none⟩) m m) m (cellsOf encB se)
 lw:wi.length=m
 ls:se.length=m
 rg:∀b,b<m→-1≤atB wi b∧atB wi b<N
 nw:A0≠gw
 ns:A0≠gs
theorem cellsI_set (xs:List Int)(i:Nat)(x:Int):(cellsOf encI xs).set i (.int .i64 x)=cellsOf encI (xs.set i x):=by
 rw [cellsI,cellsI,List.map_set]
section
variable {wB wS w w':World}{A0 gw gs m N:Nat}{fv:Value}{wi:List Int}{se:List Bool}
theorem LyW.below (h:LyW wB wS A0 gw gs m N fv wi se w)(b:Below w.heap.size w w'):LyW wB wS A0 gw gs m N fv wi se w' :=
 ⟨h.bel.trans (b.mono h.bel.size),grown_trans h.gr (grown_of_below b),h.hgs,(b.cell (p:=⟨A0,0,none⟩) (World.block_lt_of_cell? w _ h.c0)).trans h.c0,(b.cell (p:=⟨A0,1,none⟩) (World.block_lt_of_cell? w _ h.c1)).trans h.c1,
  owns_below h.wr b (Nat.le_refl _),owns_below h.sr b (Nat.le_refl _),h.lw,h.ls,h.rg,h.nw,h.ns⟩
section
variable (h:LyW wB wS A0 gw gs m N fv wi se w){k:Nat}(hk:k<m)
include h hk
theorem LyW.sput (b:Bool):LyW wB wS A0 gw gs m N fv wi (se.set k b) (w.setCell ⟨gs,k,none⟩ (.bool b)):=by
 have g1:=grown_setCell w gs k (.bool b);have t1:=owns_setC h.sr k (by omega) (.bool b);rw [cellsB_set]at t1;exact⟨h.bel.setCell (p:=⟨gs,k,none⟩) (h.sr.lt gs rfl).1 _,grown_newer h.gr h.hgs g1,h.hgs,g1.cell (a:=⟨A0,0,none⟩) h.c0 (fun e=>h.ns (by simpa using e)),g1.cell (a:=⟨A0,1,none⟩) h.c1 (fun e=>h.ns (by simpa using e)),
  owns_apart h.wr h.sr (by decide) g1,t1,h.lw,by rw [List.length_set];exact h.ls,h.rg,h.nw,h.ns⟩
theorem LyW.wput {x:Nat}(hx:x<N):LyW wB wS A0 gw gs m N fv (wi.set k (x:Int)) se (w.setCell ⟨gw,k,none⟩ (.int .i64 (x:Int))):=by
 have g1:=grown_setCell w gw k (.int .i64 (x:Int));have t1:=owns_setC h.wr k (by omega) (.int .i64 (x:Int));rw [cellsI_set]at t1;refine⟨h.bel.setCell (p:=⟨gw,k,none⟩) (h.wr.lt gw rfl).1 _,grown_trans h.gr g1,h.hgs,g1.cell (a:=⟨A0,0,none⟩) h.c0 (fun e=>h.nw (by simpa using e)),g1.cell (a:=⟨A0,1,none⟩) h.c1 (fun e=>h.nw (by simpa using e)),
  t1,owns_apart h.sr h.wr (by decide) g1,by rw [List.length_set];exact h.lw,h.ls,fun b hb=>?_,h.nw,h.ns⟩
 rw [atB_set (by have:=h.lw;omega)]
 split
 ·omega
 ·exact h.rg b hb
theorem LyW.scell:w.cell? ⟨gs,k,none⟩=some (.bool (geta se (k:Int)))∧w.frozen? ⟨gs,k,none⟩=false:=by
 refine⟨?_,owns_frozenC h.sr k⟩;have hl:=h.ls;have hr:=Row.of_owns h.sr;subst hl;obtain⟨bz,off,hp,_,_,hcell⟩:=Row.nonnil (hr.mono (Nat.zero_le _)) (by omega);simp only [Option.some.injEq,Addr.mk.injEq]at hp;obtain⟨rfl,rfl,_⟩:=hp;have t0:=Row.elAt encB_length hcell (k:=(k:Int)) (by omega) (by omega) 0 _ (by decide) rfl;rw [Nat.zero_add,Nat.mul_one,Nat.add_zero,Int.toNat_natCast]at t0;exact t0
theorem LyW.wcell:w.cell? ⟨gw,k,none⟩=some (.int .i64 (atB wi k))∧w.frozen? ⟨gw,k,none⟩=false:=by
 refine⟨?_,owns_frozenC h.wr k⟩;have hl:=h.lw;have hr:=Row.of_owns h.wr;subst hl;obtain⟨bz,off,hp,_,_,hcell⟩:=Row.nonnil (hr.mono (Nat.zero_le _)) (by omega);simp only [Option.some.injEq,Addr.mk.injEq]at hp;obtain⟨rfl,rfl,_⟩:=hp;have t0:=Row.elAt encI_length hcell (k:=(k:Int)) (by omega) (by omega) 0 _ (by decide) rfl;rw [Nat.zero_add,Nat.mul_one,Nat.add_zero,Int.toNat_natCast]at t0;exact t0
end
end
/-- What the test of a place makes. -/
def layS (rec:Nat→List Bool→List Int→Bool×List Bool×List Int)(wi:List Int)(se:List Bool)(k:Nat):Bool×List Bool×List Int:=if atB wi k<0 then(true,se,wi)else rec (atB wi k).toNat se wi
/-- Where the rounds are. -/
structure LyE (can:Nat→Nat→Bool)(n x m:Nat)(se0:List Bool)(wi0:List Int)(k:Nat)(se:List Bool)(wi:List Int):Prop where
 e:layL can (layF can n) x (m-k) k se wi=layF can (n+1) x se0 wi0
 u:unseen se<n+1
section
variable {can:Nat→Nat→Bool}{n x m k:Nat}{se0 se:List Bool}{wi0 wi:List Int}
section
variable (h:LyE can n x m se0 wi0 k se wi)(hk:k<m)
include h hk
theorem LyE.skip (hq:(geta se (k:Int) || !can x k)=true):LyE can n x m se0 wi0 (k+1) se wi:=by
 refine⟨?_,h.u⟩;have e:=h.e;rw [show m-k=(m-(k+1))+1 by omega,layL,if_pos (show(seenB se k || !can x k)=true from hq)]at e;exact e
theorem LyE.seen (hls:se.length=m)(hq:(geta se (k:Int) || !can x k)=false):unseen (se.set k true)<n:=by
 have hs:seenB se k=false:=by
  have:geta se (k:Int)=false:=by simp only [Bool.or_eq_false_iff]at hq;exact hq.1
  exact this
 have:=unseen_set (by omega) hs;have:=h.u;omega
theorem LyE.yes (hq:(geta se (k:Int) || !can x k)=false)(hy:(layS (layF can n) wi (se.set k true) k).1=true):
  layF can (n+1) x se0 wi0=(true,(layS (layF can n) wi (se.set k true) k).2.1,(layS (layF can n) wi (se.set k true) k).2.2.set k (x:Int)):=by
 have e:=h.e;rw [show m-k=(m-(k+1))+1 by omega,layL,if_neg (show ¬(seenB se k || !can x k)=true by rw [show(seenB se k || !can x k)=false from hq];decide)]at e;rw [←e];unfold layS at hy ⊢
 by_cases hn:atB wi k<0
 ·rw [if_pos hn,if_pos hn]
 ·rw [if_neg hn]at hy;rw [if_neg hn,if_neg hn,if_pos hy]
theorem LyE.no (hls:se.length=m)(hlw:wi.length=m)(hq:(geta se (k:Int) || !can x k)=false)(hy:(layS (layF can n) wi (se.set k true) k).1=false):
  LyE can n x m se0 wi0 (k+1) (layS (layF can n) wi (se.set k true) k).2.1 (layS (layF can n) wi (se.set k true) k).2.2:=by
 have hu:=h.seen hk hls hq;have e:=h.e;rw [show m-k=(m-(k+1))+1 by omega,layL,if_neg (show ¬(seenB se k || !can x k)=true by rw [show(seenB se k || !can x k)=false from hq];decide)]at e;unfold layS at hy ⊢
 by_cases hn:atB wi k<0
 ·rw [if_pos hn]at hy;cases hy
 ·rw [if_neg hn]at hy;rw [if_neg hn,if_neg (by rw [hy];decide)]at e;rw [if_neg hn];refine⟨e,?_⟩;have hr:=layF_ok can n (atB wi k).toNat (se.set k true) wi hu (by rw [List.length_set];omega);have:=unseen_le hr.ls hr.up;omega
end
end
noncomputable def lyP:Code:=(Tryz.f109.body).getD .skip
theorem fr_lyP (f:Nat→Value):frame 61 f=⟨#[f 0,f 1,f 2,f 3,f 4,f 5,f 6,f 7,f 8,f 9,f 10,f 11,f 12,f 13,f 14,f 15,f 16,f 17,f 18,f 19,f 20,f 21,f 22,f 23,f 24,f 25,f 26,f 27,f 28,f 29,f 30,f 31,f 32,f 33,f 34,f 35,f 36,f 37,f 38,f 39,f 40,f 41,f 42,f 43,f 44,f 45,f 46,f 47,f 48,f 49,f 50,f 51,f 52,f 53,f 54,f 55,f 56,f 57,f 58,f 59,f 60],[]⟩:=by rfl
section
variable (can:Nat→Nat→Bool)(Fn:Nat)(hF:∀args w,(callFunc Fn args).run Tryz.prog w=.ok (.enter Fn args) w)(bs cs:Array Value)(wB wS:World)(A0 gw gs m N:Nat)(hm:m≤1000000)(hN:N≤1000000)(hcan:Hid (∀(a b:Nat) (w:World),a<N→b<m→Below wB.heap.size wB w→Calls Tryz.prog Fn (bs++((#[Value.int .i64 (a:Int),Value.int .i64 (b:Int)]:Array Value)++cs)) w fun e w2=>e=.returned (.bool (can a b))∧Below w.heap.size w w2))(n:Nat)(ih:Hid (∀(x:Nat) (se:List Bool) (wi:List Int) (w:World),x<N→unseen se<n→LyW wB wS A0 gw gs m N (.func (.func Fn) bs cs) wi se w→Calls Tryz.prog 109 #[.pointer (some ⟨A0,0,none⟩),.int .i64 (x:Int),.slice (some ⟨gs,0,none⟩) m m] w fun e w2=>e=.returned (.bool (layF can n x se wi).1)∧LyW wB wS A0 gw gs m N (.func (.func Fn) bs cs) (layF can n x se wi).2.2 (layF can n x se wi).2.1 w2))(x:Nat)(hxN:x<N)(se0:List Bool)(wi0:List Int)
include hF hm hN hcan ih hxN se0 wi0
theorem ly0:T3 Tryz.prog (fun a w=>(LyW wB wS A0 gw gs m N (.func (.func Fn) bs cs) wi0 se0 w)∧Fr 61 [(0,.pointer (some ⟨A0,0,none⟩)),(1,.int .i64 (x:Int)),(2,.slice (some ⟨gs,0,none⟩) m m)] a) (sel [0] lyP) (fun a w=>(LyW wB wS A0 gw gs m N (.func (.func Fn) bs cs) wi0 se0 w)∧Fr 61 [(0,.pointer (some ⟨A0,0,none⟩)),(1,.int .i64 (x:Int)),(2,.slice (some ⟨gs,0,none⟩) m m)] a) No 9 (fun a w=>LyW wB wS A0 gw gs m N (.func (.func Fn) bs cs) (layF can (n+1) x se0 wi0).2.2 (layF can (n+1) x se0 wi0).2.1 w∧Fr 61 [(6,.bool (layF can (n+1) x se0 wi0).1)] a):=by
 refine T3.leaf ?_;rintro Q JS JX JT K hS_ hK hX hE hT hR a w ⟨hW,⟨fr,rfl,q0,q1,q2,_⟩⟩;have HW:=Lib.hid hW;clear hW hcan ih;rw [fr_lyP,fe q0,fe q1,fe q2];clear q0 q1 q2;conv=>arg 2;whnf
 go_wp2_with fail
 refine Met.intro (hS_ _ _ ?_);exact⟨HW.out,Fr.r rfl rfl⟩
theorem ly1 (hu:unseen se0<n+1):T3 Tryz.prog (fun a w=>(LyW wB wS A0 gw gs m N (.func (.func Fn) bs cs) wi0 se0 w)∧Fr 61 [(0,.pointer (some ⟨A0,0,none⟩)),(1,.int .i64 (x:Int)),(2,.slice (some ⟨gs,0,none⟩) m m)] a) (sel [1,0,0] lyP) (fun a w=>(0≤(0:Int)∧(0:Int)≤m)∧∃(se:List Bool) (wi:List Int),(LyE can n x m se0 wi0 (0:Int).toNat se wi)∧(LyW wB wS A0 gw gs m N (.func (.func Fn) bs cs) wi se w)∧Fr 61 [(0,.pointer (some ⟨A0,0,none⟩)),(1,.int .i64 (x:Int)),(2,.slice (some ⟨gs,0,none⟩) m m),(12,.int .i64 m),(13,.int .i64 0)] a) No 9 (fun a w=>LyW wB wS A0 gw gs m N (.func (.func Fn) bs cs) (layF can (n+1) x se0 wi0).2.2 (layF can (n+1) x se0 wi0).2.1 w∧Fr 61 [(6,.bool (layF can (n+1) x se0 wi0).1)] a):=by
 refine T3.leaf ?_;rintro Q JS JX JT K hS_ hK hX hE hT hR a w ⟨hW,⟨fr,rfl,q0,q1,q2,_⟩⟩;have c0:=hW.c0;have c1:=hW.c1;have HI:=Lib.hid (show LyE can n x m se0 wi0 (0:Int).toNat se0 wi0 from⟨by have:=hW.lw;subst this;rfl,hu⟩);have HW:=Lib.hid hW;clear hW hcan ih;rw [fr_lyP,fe q0,fe q1,fe q2];clear q0 q1 q2;conv=>arg 2;whnf
 go_wp2_with fail
 refine Met.intro (hS_ _ _ ?_);exact⟨⟨by omega,by omega⟩,_,_,HI.out,HW.out,Fr.r rfl rfl⟩
section
variable (k:Nat)(hk:k<m)(se:List Bool)(wi:List Int)(hI:LyE can n x m se0 wi0 k se wi)
include hk hI
theorem ly3:T3 Tryz.prog (fun a w=>(LyW wB wS A0 gw gs m N (.func (.func Fn) bs cs) wi se w)∧Fr 61 [(0,.pointer (some ⟨A0,0,none⟩)),(1,.int .i64 (x:Int)),(2,.slice (some ⟨gs,0,none⟩) m m),(12,.int .i64 m),(13,.int .i64 (k:Int))] a) (sel [1,0,1,4,4,1,1,0,4,0] lyP) (fun a w=>(LyW wB wS A0 gw gs m N (.func (.func Fn) bs cs) wi se w)∧Fr 61 [(0,.pointer (some ⟨A0,0,none⟩)),(1,.int .i64 (x:Int)),(2,.slice (some ⟨gs,0,none⟩) m m),(7,.int .i64 (k:Int)),(12,.int .i64 m),(13,.int .i64 (k:Int))] a) No 9 (fun a w=>LyW wB wS A0 gw gs m N (.func (.func Fn) bs cs) (layF can (n+1) x se0 wi0).2.2 (layF can (n+1) x se0 wi0).2.1 w∧Fr 61 [(6,.bool (layF can (n+1) x se0 wi0).1)] a):=by
 refine T3.leaf ?_;rintro Q JS JX JT K hS_ hK hX hE hT hR a w ⟨hW,⟨fr,rfl,q0,q1,q2,q12,q13,_⟩⟩;have HW:=Lib.hid hW;clear hW hcan ih hI;rw [fr_lyP,fe q0,fe q1,fe q2,fe q12,fe q13];clear q0 q1 q2 q12 q13;conv=>arg 2;whnf
 go_wp2_with fail
 refine Met.intro (hS_ _ _ ?_);exact⟨HW.out,Fr.r rfl rfl⟩
theorem ly4:T3 Tryz.prog (fun a w=>(LyW wB wS A0 gw gs m N (.func (.func Fn) bs cs) wi se w)∧Fr 61 [(0,.pointer (some ⟨A0,0,none⟩)),(1,.int .i64 (x:Int)),(2,.slice (some ⟨gs,0,none⟩) m m),(7,.int .i64 (k:Int)),(12,.int .i64 m),(13,.int .i64 (k:Int))] a) (sel [1,0,1,4,4,1,1,0,4,1,0,0] lyP) (fun a w=>∃q,Fr 61 ((29,.bool q)::[(0,.pointer (some ⟨A0,0,none⟩)),(1,.int .i64 (x:Int)),(2,.slice (some ⟨gs,0,none⟩) m m),(7,.int .i64 (k:Int)),(12,.int .i64 m),(13,.int .i64 (k:Int))]) a∧((q=(geta se (k:Int) || !can x k))∧LyW wB wS A0 gw gs m N (.func (.func Fn) bs cs) wi se w)) No 9 (fun a w=>LyW wB wS A0 gw gs m N (.func (.func Fn) bs cs) (layF can (n+1) x se0 wi0).2.2 (layF can (n+1) x se0 wi0).2.1 w∧Fr 61 [(6,.bool (layF can (n+1) x se0 wi0).1)] a):=by
 refine T3.leaf ?_;rintro Q JS JX JT K hS_ hK hX hE hT hR a w ⟨hW,⟨fr,rfl,q0,q1,q2,q7,q12,q13,_⟩⟩;obtain⟨t0,_⟩:=hW.scell hk;have c0:=hW.c0;have HC:=Lib.hid (hcan.out x k w hxN hk hW.bel);have hls:=hW.ls;have HW:=Lib.hid hW;clear hW hcan ih hI;generalize can x k=ff at *;generalize hgt:geta se (k:Int)=tq at *;have HGT:=Lib.hid hgt;clear hgt;cases tq
 ·rw [fr_lyP,fe q0,fe q1,fe q2,fe q7,fe q12,fe q13];clear q0 q1 q2 q7 q12 q13;conv=>arg 2;whnf
  go_wp2_with fail
  refine HC.out.mono ?_;rintro e w1 ⟨rfl,hb⟩;have H1:=Lib.hid (HW.out.below hb);clear hb;go_wp2_with fail
  refine Met.intro (hS_ _ _ ?_);exact⟨_,Fr.r rfl rfl,by simp,H1.out⟩
 ·clear HC;rw [fr_lyP,fe q0,fe q1,fe q2,fe q7,fe q12,fe q13];clear q0 q1 q2 q7 q12 q13;conv=>arg 2;whnf
  go_wp2_with fail
  refine Met.intro (hS_ _ _ ?_);exact⟨_,Fr.r rfl rfl,by simp,HW.out⟩
theorem ly5:T3 Tryz.prog (fun a w=>(LyW wB wS A0 gw gs m N (.func (.func Fn) bs cs) wi se w)∧Fr 61 [(0,.pointer (some ⟨A0,0,none⟩)),(1,.int .i64 (x:Int)),(2,.slice (some ⟨gs,0,none⟩) m m),(7,.int .i64 (k:Int)),(12,.int .i64 m),(13,.int .i64 (k:Int))] a) (sel [1,0,1,4,4,1,1,0,4,1,1,0] lyP) (fun a w=>(LyW wB wS A0 gw gs m N (.func (.func Fn) bs cs) wi (se.set k true) w)∧Fr 61 [(0,.pointer (some ⟨A0,0,none⟩)),(1,.int .i64 (x:Int)),(2,.slice (some ⟨gs,0,none⟩) m m),(7,.int .i64 (k:Int)),(12,.int .i64 m),(13,.int .i64 (k:Int))] a) No 9 (fun a w=>LyW wB wS A0 gw gs m N (.func (.func Fn) bs cs) (layF can (n+1) x se0 wi0).2.2 (layF can (n+1) x se0 wi0).2.1 w∧Fr 61 [(6,.bool (layF can (n+1) x se0 wi0).1)] a):=by
 refine T3.leaf ?_;rintro Q JS JX JT K hS_ hK hX hE hT hR a w ⟨hW,⟨fr,rfl,q0,q1,q2,q7,q12,q13,_⟩⟩;obtain⟨t0,f0⟩:=hW.scell hk;have HW:=Lib.hid (hW.sput hk true);clear hW hcan ih hI;generalize geta se (k:Int)=tq at *;rw [fr_lyP,fe q0,fe q1,fe q2,fe q7,fe q12,fe q13];clear q0 q1 q2 q7 q12 q13;conv=>arg 2;whnf
 go_wp2_with fail
 refine Met.intro (hS_ _ _ ?_);exact⟨HW.out,Fr.r rfl rfl⟩
theorem ly6 (hq:(geta se (k:Int) || !can x k)=false)(hls:se.length=m):T3 Tryz.prog (fun a w=>(LyW wB wS A0 gw gs m N (.func (.func Fn) bs cs) wi (se.set k true) w)∧Fr 61 [(0,.pointer (some ⟨A0,0,none⟩)),(1,.int .i64 (x:Int)),(2,.slice (some ⟨gs,0,none⟩) m m),(7,.int .i64 (k:Int)),(12,.int .i64 m),(13,.int .i64 (k:Int))] a) (sel [1,0,1,4,4,1,1,0,4,1,1,1,0] lyP) (fun a w=>∃q,Fr 61 ((52,.bool q)::[(0,.pointer (some ⟨A0,0,none⟩)),(1,.int .i64 (x:Int)),(2,.slice (some ⟨gs,0,none⟩) m m),(7,.int .i64 (k:Int)),(12,.int .i64 m),(13,.int .i64 (k:Int))]) a∧((q=(layS (layF can n) wi (se.set k true) k).1)∧LyW wB wS A0 gw gs m N (.func (.func Fn) bs cs) (layS (layF can n) wi (se.set k true) k).2.2 (layS (layF can n) wi (se.set k true) k).2.1 w)) No 9 (fun a w=>LyW wB wS A0 gw gs m N (.func (.func Fn) bs cs) (layF can (n+1) x se0 wi0).2.2 (layF can (n+1) x se0 wi0).2.1 w∧Fr 61 [(6,.bool (layF can (n+1) x se0 wi0).1)] a):=by
 refine T3.leaf ?_;rintro Q JS JX JT K hS_ hK hX hE hT hR a w ⟨hW,⟨fr,rfl,q0,q1,q2,q7,q12,q13,_⟩⟩;obtain⟨t0,_⟩:=hW.wcell hk;have c0:=hW.c0;have c1:=hW.c1;have hrg:=hW.rg k hk
 by_cases hn:atB wi k<0
 ·have HS:=Lib.hid (show(layS (layF can n) wi (se.set k true) k)=(true,se.set k true,wi)by unfold layS;rw [if_pos hn]);have HW:=Lib.hid hW;clear hW hcan ih hI;generalize atB wi k=y at *;have hpb:decide (y<0)=true:=by simp;omega
  rw [fr_lyP,fe q0,fe q1,fe q2,fe q7,fe q12,fe q13];clear q0 q1 q2 q7 q12 q13;conv=>arg 2;whnf
  go_wp2_with fail
  refine Met.intro (hS_ _ _ ?_);rw [HS.out];exact⟨_,Fr.r rfl rfl,rfl,HW.out⟩
 ·have HS:=Lib.hid (show(layS (layF can n) wi (se.set k true) k)=layF can n (atB wi k).toNat (se.set k true) wi by unfold layS;rw [if_neg hn]);have HC:=Lib.hid (ih.out (atB wi k).toNat (se.set k true) wi w (by omega) (hI.seen hk hls hq) hW);rw [show(((atB wi k).toNat:Nat):Int)=atB wi k by omega]at HC;clear hW hcan ih hI;generalize layF can n (atB wi k).toNat (se.set k true) wi=rr at *;generalize atB wi k=y at *;have hpb:decide (y<0)=false:=by simp;omega
  clear hn;rw [fr_lyP,fe q0,fe q1,fe q2,fe q7,fe q12,fe q13];clear q0 q1 q2 q7 q12 q13;conv=>arg 2;whnf
  go_wp2_with fail
  refine HC.out.mono ?_;rintro e w1 ⟨rfl,hb⟩;have H1:=Lib.hid hb;clear hb;go_wp2_with fail
  refine Met.intro (hS_ _ _ ?_);rw [HS.out];exact⟨_,Fr.r rfl rfl,rfl,H1.out⟩
end
section
variable (k:Nat)(hk:k<m)(se:List Bool)(wi:List Int)
include hk se wi
theorem ly7:T3 Tryz.prog (fun a w=>(LyW wB wS A0 gw gs m N (.func (.func Fn) bs cs) wi se w)∧Fr 61 [(0,.pointer (some ⟨A0,0,none⟩)),(1,.int .i64 (x:Int)),(2,.slice (some ⟨gs,0,none⟩) m m),(7,.int .i64 (k:Int)),(12,.int .i64 m),(13,.int .i64 (k:Int))] a) (sel [1,0,1,4,4,1,1,0,4,1,1,1,1,2,0] lyP) (fun a w=>(LyW wB wS A0 gw gs m N (.func (.func Fn) bs cs) (wi.set k (x:Int)) se w)∧Fr 61 [(0,.pointer (some ⟨A0,0,none⟩)),(1,.int .i64 (x:Int)),(2,.slice (some ⟨gs,0,none⟩) m m),(7,.int .i64 (k:Int)),(12,.int .i64 m),(13,.int .i64 (k:Int))] a) No 9 (fun a w=>LyW wB wS A0 gw gs m N (.func (.func Fn) bs cs) (layF can (n+1) x se0 wi0).2.2 (layF can (n+1) x se0 wi0).2.1 w∧Fr 61 [(6,.bool (layF can (n+1) x se0 wi0).1)] a):=by
 refine T3.leaf ?_;rintro Q JS JX JT K hS_ hK hX hE hT hR a w ⟨hW,⟨fr,rfl,q0,q1,q2,q7,q12,q13,_⟩⟩;obtain⟨t0,f0⟩:=hW.wcell hk;have c1:=hW.c1;have HW:=Lib.hid (hW.wput hk hxN);clear hW hcan ih;generalize atB wi k=y at *;rw [fr_lyP,fe q0,fe q1,fe q2,fe q7,fe q12,fe q13];clear q0 q1 q2 q7 q12 q13;conv=>arg 2;whnf
 go_wp2_with fail
 refine Met.intro (hS_ _ _ ?_);exact⟨HW.out,Fr.r rfl rfl⟩
theorem ly8:T3 Tryz.prog (fun a w=>(LyW wB wS A0 gw gs m N (.func (.func Fn) bs cs) wi se w)∧Fr 61 [(0,.pointer (some ⟨A0,0,none⟩)),(1,.int .i64 (x:Int)),(2,.slice (some ⟨gs,0,none⟩) m m),(7,.int .i64 (k:Int)),(12,.int .i64 m),(13,.int .i64 (k:Int))] a) (sel [1,0,1,4,4,1,1,0,4,1,1,1,1,2,1,0] lyP) (fun a w=>(LyW wB wS A0 gw gs m N (.func (.func Fn) bs cs) wi se w)∧Fr 61 [(6,.bool true)] a) No 9 (fun a w=>LyW wB wS A0 gw gs m N (.func (.func Fn) bs cs) (layF can (n+1) x se0 wi0).2.2 (layF can (n+1) x se0 wi0).2.1 w∧Fr 61 [(6,.bool (layF can (n+1) x se0 wi0).1)] a):=by
 refine T3.leaf ?_;rintro Q JS JX JT K hS_ hK hX hE hT hR a w ⟨hW,⟨fr,rfl,q0,q1,q2,q7,q12,q13,_⟩⟩;have HW:=Lib.hid hW;clear hW hcan ih;rw [fr_lyP,fe q0,fe q1,fe q2,fe q7,fe q12,fe q13];clear q0 q1 q2 q7 q12 q13;conv=>arg 2;whnf
 go_wp2_with fail
 refine Met.intro (hS_ _ _ ?_);exact⟨HW.out,Fr.of _ rfl ⟨rfl,trivial⟩⟩
theorem lyB (hI:LyE can n x m se0 wi0 k se wi):T3 Tryz.prog (fun a w=>(LyW wB wS A0 gw gs m N (.func (.func Fn) bs cs) wi se w)∧Fr 61 [(0,.pointer (some ⟨A0,0,none⟩)),(1,.int .i64 (x:Int)),(2,.slice (some ⟨gs,0,none⟩) m m),(12,.int .i64 m),(13,.int .i64 (k:Int))] a) (sel [1,0,1,4,4,1,1,0] lyP) (fun a w=>∃(se:List Bool) (wi:List Int),(LyE can n x m se0 wi0 (k+1) se wi)∧(LyW wB wS A0 gw gs m N (.func (.func Fn) bs cs) wi se w)∧Fr 61 [(0,.pointer (some ⟨A0,0,none⟩)),(1,.int .i64 (x:Int)),(2,.slice (some ⟨gs,0,none⟩) m m),(12,.int .i64 m),(13,.int .i64 (k:Int))] a) No 9 (fun a w=>LyW wB wS A0 gw gs m N (.func (.func Fn) bs cs) (layF can (n+1) x se0 wi0).2.2 (layF can (n+1) x se0 wi0).2.1 w∧Fr 61 [(6,.bool (layF can (n+1) x se0 wi0).1)] a):=by
 refine T3.blockX (id:=1) (c:=(sel [1,0,1,4,4,1,1,0,4] lyP)) ?_;refine T3.sq rfl ((ly3 can Fn hF bs cs wB wS A0 gw gs m N hm hN hcan n ih x hxN se0 wi0 k hk se wi hI).noX) ?_;refine T3.sq rfl (S:=fun a w=>((geta se (k:Int) || !can x k)=false)∧(LyW wB wS A0 gw gs m N (.func (.func Fn) bs cs) wi se w)∧Fr 61 [(0,.pointer (some ⟨A0,0,none⟩)),(1,.int .i64 (x:Int)),(2,.slice (some ⟨gs,0,none⟩) m m),(7,.int .i64 (k:Int)),(12,.int .i64 m),(13,.int .i64 (k:Int))] a) ?_ (T3.pure fun hq=>?_)
 ·refine T3.test (s:=(sel [1,0,1,4,4,1,1,0,4,1,0,0] lyP)) (x:=.exit 1) (y:=.skip) (C:=fun q=>(q=(geta se (k:Int) || !can x k))) (W:=fun w=>LyW wB wS A0 gw gs m N (.func (.func Fn) bs cs) wi se w) (by decide) ((ly4 can Fn hF bs cs wB wS A0 gw gs m N hm hN hcan n ih x hxN se0 wi0 k hk se wi hI).noX) (T3.exit ?_) (T3.skip ?_)
  ·rintro a w ⟨hF,hq,hW⟩;exact⟨se,wi,hI.skip hk hq.symm,hW,hF.sub (by simp)⟩
  ·rintro a w ⟨hq,hW,hF⟩;exact⟨hq.symm,hW,hF⟩
 refine T3.sq rfl (S:=fun a w=>(se.length=m∧wi.length=m)∧(LyW wB wS A0 gw gs m N (.func (.func Fn) bs cs) wi (se.set k true) w)∧Fr 61 [(0,.pointer (some ⟨A0,0,none⟩)),(1,.int .i64 (x:Int)),(2,.slice (some ⟨gs,0,none⟩) m m),(7,.int .i64 (k:Int)),(12,.int .i64 m),(13,.int .i64 (k:Int))] a) (((ly5 can Fn hF bs cs wB wS A0 gw gs m N hm hN hcan n ih x hxN se0 wi0 k hk se wi hI).noX).post fun a w q=>⟨⟨by have:=q.1.ls;rwa [List.length_set]at this,q.1.lw⟩,q⟩) (T3.pure fun hl=>?_);refine T3.tt rfl (C:=fun q=>(q=(layS (layF can n) wi (se.set k true) k).1)) (W:=fun w=>LyW wB wS A0 gw gs m N (.func (.func Fn) bs cs) (layS (layF can n) wi (se.set k true) k).2.2 (layS (layF can n) wi (se.set k true) k).2.1 w) (by decide) ((ly6 can Fn hF bs cs wB wS A0 gw gs m N hm hN hcan n ih x hxN se0 wi0 k hk se wi hI hq hl.1).noX) ?_ (T3.skip ?_)
 ·refine T3.pre (R:=fun a w=>((layS (layF can n) wi (se.set k true) k).1=true)∧(LyW wB wS A0 gw gs m N (.func (.func Fn) bs cs) (layS (layF can n) wi (se.set k true) k).2.2 (layS (layF can n) wi (se.set k true) k).2.1 w)∧Fr 61 [(0,.pointer (some ⟨A0,0,none⟩)),(1,.int .i64 (x:Int)),(2,.slice (some ⟨gs,0,none⟩) m m),(7,.int .i64 (k:Int)),(12,.int .i64 m),(13,.int .i64 (k:Int))] a) (T3.pure fun hy=>?_) (fun a w ⟨hF,hq,hW⟩=>⟨hq.symm,hW,hF.tail⟩);refine T3.sq rfl ((ly7 can Fn hF bs cs wB wS A0 gw gs m N hm hN hcan n ih x hxN se0 wi0 k hk (layS (layF can n) wi (se.set k true) k).2.1 (layS (layF can n) wi (se.set k true) k).2.2).noX) ?_;refine T3.sr rfl ((ly8 can Fn hF bs cs wB wS A0 gw gs m N hm hN hcan n ih x hxN se0 wi0 k hk (layS (layF can n) wi (se.set k true) k).2.1 ((layS (layF can n) wi (se.set k true) k).2.2.set k (x:Int))).noX) (T3.ret ?_);rintro a w ⟨hW,hF⟩;rw [hI.yes hk hq hy];exact⟨hW,hF⟩
 ·rintro a w ⟨hq2,hW,hF⟩;exact⟨_,_,hI.no hk hl.1 hl.2 hq hq2.symm,hW,hF.sub (by simp)⟩
end
theorem lyb (k:Int):T3 Tryz.prog (fun a w=>∃(se:List Bool) (wi:List Int),((0≤k∧k<m)∧(LyE can n x m se0 wi0 (k:Int).toNat se wi))∧(LyW wB wS A0 gw gs m N (.func (.func Fn) bs cs) wi se w)∧Fr 61 [(0,.pointer (some ⟨A0,0,none⟩)),(1,.int .i64 (x:Int)),(2,.slice (some ⟨gs,0,none⟩) m m),(12,.int .i64 m),(13,.int .i64 k)] a) (sel [1,0,1,4,4,1,1,0] lyP) (fun a w=>∃(se:List Bool) (wi:List Int),((0≤k∧k<m)∧(LyE can n x m se0 wi0 ((k+1):Int).toNat se wi))∧(LyW wB wS A0 gw gs m N (.func (.func Fn) bs cs) wi se w)∧Fr 61 [(0,.pointer (some ⟨A0,0,none⟩)),(1,.int .i64 (x:Int)),(2,.slice (some ⟨gs,0,none⟩) m m),(12,.int .i64 m),(13,.int .i64 k)] a) No 9 (fun a w=>LyW wB wS A0 gw gs m N (.func (.func Fn) bs cs) (layF can (n+1) x se0 wi0).2.2 (layF can (n+1) x se0 wi0).2.1 w∧Fr 61 [(6,.bool (layF can (n+1) x se0 wi0).1)] a):=by
 refine T3.ex fun se=>T3.ex fun wi=>T3.pure fun hh=>?_
 obtain⟨hh,hI⟩:=hh;obtain⟨kn,rfl⟩:=Int.eq_ofNat_of_zero_le hh.1;rw [Int.toNat_natCast]at hI;refine T3.mono (lyB can Fn hF bs cs wB wS A0 gw gs m N hm hN hcan n ih x hxN se0 wi0 kn (by omega) se wi hI) (fun _ _ q=>q) ?_ (fun _ _ q=>q) (fun _ _ q=>q);rintro a w ⟨se2,wi2,hI2,hW,hF⟩;refine⟨se2,wi2,⟨hh,?_⟩,hW,hF⟩;rw [show((kn:Int)+1).toNat=kn+1 by omega];exact hI2
def lyAI (can:Nat→Nat→Bool)(Fn:Nat)(hF:∀args w,(callFunc Fn args).run Tryz.prog w=.ok (.enter Fn args) w)(bs cs:Array Value)(wB wS:World)(A0 gw gs m N:Nat)(hm:m≤1000000)(hN:N≤1000000)(hcan:Hid (∀(a b:Nat) (w:World),a<N→b<m→Below wB.heap.size wB w→Calls Tryz.prog Fn (bs++((#[Value.int .i64 (a:Int),Value.int .i64 (b:Int)]:Array Value)++cs)) w fun e w2=>e=.returned (.bool (can a b))∧Below w.heap.size w w2))(n:Nat)(ih:Hid (∀(x:Nat) (se:List Bool) (wi:List Int) (w:World),x<N→unseen se<n→LyW wB wS A0 gw gs m N (.func (.func Fn) bs cs) wi se w→Calls Tryz.prog 109 #[.pointer (some ⟨A0,0,none⟩),.int .i64 (x:Int),.slice (some ⟨gs,0,none⟩) m m] w fun e w2=>e=.returned (.bool (layF can n x se wi).1)∧LyW wB wS A0 gw gs m N (.func (.func Fn) bs cs) (layF can n x se wi).2.2 (layF can n x se wi).2.1 w2))(x:Nat)(hxN:x<N)(se0:List Bool)(wi0:List Int)(k:Int)(a:Act)(w:World):Prop:=(0≤k∧k≤m)∧∃(se:List Bool) (wi:List Int),(LyE can n x m se0 wi0 (k:Int).toNat se wi)∧(LyW wB wS A0 gw gs m N (.func (.func Fn) bs cs) wi se w)∧Fr 61 [(0,.pointer (some ⟨A0,0,none⟩)),(1,.int .i64 (x:Int)),(2,.slice (some ⟨gs,0,none⟩) m m),(12,.int .i64 m),(13,.int .i64 k)] a
theorem lyAt (k:Int):T3 Tryz.prog (fun a w=>lyAI can Fn hF bs cs wB wS A0 gw gs m N hm hN hcan n ih x hxN se0 wi0 k a w) (sel [1,0,1,4,4,0] lyP) (fun a w=>∃q,Fr 61 ((14,.bool q)::[(13,.int .i64 k)]) a∧((q=true↔k<m)∧lyAI can Fn hF bs cs wB wS A0 gw gs m N hm hN hcan n ih x hxN se0 wi0 k a w)) No 9 (fun a w=>LyW wB wS A0 gw gs m N (.func (.func Fn) bs cs) (layF can (n+1) x se0 wi0).2.2 (layF can (n+1) x se0 wi0).2.1 w∧Fr 61 [(6,.bool (layF can (n+1) x se0 wi0).1)] a):=by
 refine T3.leaf ?_;rintro Q JS JX JT K hS_ hK hX hE hT hR a w ⟨hk,se,wi,hpre,hW,⟨fr,rfl,q0,q1,q2,q12,q13,_⟩⟩;rw [fr_lyP,fe q0,fe q1,fe q2,fe q12,fe q13];clear q0 q1 q2 q12 q13;conv=>arg 2;whnf
 by_cases hlt:k<m
 ·go_wp2_with fail
  refine Met.intro (hS_ _ _ ?_);exact⟨true,Fr.r rfl rfl,⟨fun _=>hlt,fun _=>rfl⟩,hk,se,wi,hpre,hW,Fr.r rfl rfl⟩
 ·have hpb:decide (k<(m))=false:=by simp;omega
  go_wp2_with fail
  refine Met.intro (hS_ _ _ ?_);exact⟨false,Fr.r rfl rfl,⟨(fun h=>by cases h),fun h=>absurd h (by omega)⟩,hk,se,wi,hpre,hW,Fr.r rfl rfl⟩
theorem lyAn (k:Int):T3 Tryz.prog (fun a w=>(0≤k∧k<m)∧∃(se:List Bool) (wi:List Int),(LyE can n x m se0 wi0 ((k+1):Int).toNat se wi)∧(LyW wB wS A0 gw gs m N (.func (.func Fn) bs cs) wi se w)∧Fr 61 [(0,.pointer (some ⟨A0,0,none⟩)),(1,.int .i64 (x:Int)),(2,.slice (some ⟨gs,0,none⟩) m m),(12,.int .i64 m),(13,.int .i64 k)] a) (sel [1,0,1,4,4,1,1,1] lyP) (fun a w=>lyAI can Fn hF bs cs wB wS A0 gw gs m N hm hN hcan n ih x hxN se0 wi0 (k+1) a w) No 9 (fun a w=>LyW wB wS A0 gw gs m N (.func (.func Fn) bs cs) (layF can (n+1) x se0 wi0).2.2 (layF can (n+1) x se0 wi0).2.1 w∧Fr 61 [(6,.bool (layF can (n+1) x se0 wi0).1)] a):=by
 refine T3.leaf ?_;rintro Q JS JX JT K hS_ hK hX hE hT hR a w ⟨hk,se,wi,hpre,hW,⟨fr,rfl,q0,q1,q2,q12,q13,_⟩⟩;obtain⟨hk0,hk1⟩:=hk;rw [fr_lyP,fe q0,fe q1,fe q2,fe q12,fe q13];clear q0 q1 q2 q12 q13;conv=>arg 2;whnf
 go_wp2_with fail
 refine Met.intro (hS_ _ _ ?_);exact⟨⟨by omega,by omega⟩,se,wi,hpre,hW,Fr.r rfl rfl⟩
theorem lyAloop:T3 Tryz.prog (fun a w=>lyAI can Fn hF bs cs wB wS A0 gw gs m N hm hN hcan n ih x hxN se0 wi0 0 a w) (sel [1,0,1] lyP) (fun a w=>((layF can (n+1) x se0 wi0).1=false)∧(LyW wB wS A0 gw gs m N (.func (.func Fn) bs cs) (layF can (n+1) x se0 wi0).2.2 (layF can (n+1) x se0 wi0).2.1 w)∧Fr 61 [(0,.pointer (some ⟨A0,0,none⟩)),(1,.int .i64 (x:Int)),(2,.slice (some ⟨gs,0,none⟩) m m)] a) No 9 (fun a w=>LyW wB wS A0 gw gs m N (.func (.func Fn) bs cs) (layF can (n+1) x se0 wi0).2.2 (layF can (n+1) x se0 wi0).2.1 w∧Fr 61 [(6,.bool (layF can (n+1) x se0 wi0).1)] a) :=
 T3.range (I:=lyAI can Fn hF bs cs wB wS A0 gw gs m N hm hN hcan n ih x hxN se0 wi0) rfl (by decide) (lyAt can Fn hF bs cs wB wS A0 gw gs m N hm hN hcan n ih x hxN se0 wi0) (lyAn can Fn hF bs cs wB wS A0 gw gs m N hm hN hcan n ih x hxN se0 wi0) (fun _ _ _ h=>h.1) (fun k hk=>T3.mono (lyb can Fn hF bs cs wB wS A0 gw gs m N hm hN hcan n ih x hxN se0 wi0 k) (fun a w ⟨_,se,wi,hp,hI⟩=>⟨se,wi,⟨hk,hp⟩,hI⟩) (fun a w ⟨se,wi,⟨hk,hp⟩,hI⟩=>⟨hk,se,wi,hp,hI⟩) (fun _ _ q=>q) (fun _ _ q=>q)) (fun a w hI=>by
  obtain⟨hk,hI⟩:=hI;obtain⟨se,wi,hI,hW,hF⟩:=hI;have e:=hI.e;rw [Int.toNat_natCast,Nat.sub_self,layL]at e;rw [←e];exact⟨rfl,hW,hF.sub (by simp)⟩)
theorem ly10:T3 Tryz.prog (fun a w=>(LyW wB wS A0 gw gs m N (.func (.func Fn) bs cs) (layF can (n+1) x se0 wi0).2.2 (layF can (n+1) x se0 wi0).2.1 w)∧Fr 61 [] a) (sel [1,1,0] lyP) (fun a w=>(LyW wB wS A0 gw gs m N (.func (.func Fn) bs cs) (layF can (n+1) x se0 wi0).2.2 (layF can (n+1) x se0 wi0).2.1 w)∧Fr 61 [(6,.bool false)] a) No 9 (fun a w=>LyW wB wS A0 gw gs m N (.func (.func Fn) bs cs) (layF can (n+1) x se0 wi0).2.2 (layF can (n+1) x se0 wi0).2.1 w∧Fr 61 [(6,.bool (layF can (n+1) x se0 wi0).1)] a):=by
 refine T3.leaf ?_;rintro Q JS JX JT K hS_ hK hX hE hT hR a w ⟨hW,⟨fr,rfl,_⟩⟩;generalize (layF can (n+1) x se0 wi0).2.2=wi9 at *;generalize (layF can (n+1) x se0 wi0).2.1=se9 at *;have HW:=Lib.hid hW;clear hW hcan ih;rw [fr_lyP];conv=>arg 2;whnf
 go_wp2_with fail
 refine Met.intro (hS_ _ _ ?_);exact⟨HW.out,Fr.of _ rfl ⟨rfl,trivial⟩⟩
theorem ly_all (hu:unseen se0<n+1):T3 Tryz.prog (fun a w=>(LyW wB wS A0 gw gs m N (.func (.func Fn) bs cs) wi0 se0 w)∧Fr 61 [(0,.pointer (some ⟨A0,0,none⟩)),(1,.int .i64 (x:Int)),(2,.slice (some ⟨gs,0,none⟩) m m)] a) lyP No No 9 (fun a w=>LyW wB wS A0 gw gs m N (.func (.func Fn) bs cs) (layF can (n+1) x se0 wi0).2.2 (layF can (n+1) x se0 wi0).2.1 w∧Fr 61 [(6,.bool (layF can (n+1) x se0 wi0).1)] a):=by
 refine T3.seq (s:=(sel [0] lyP)) (c:=(sel [1] lyP)) ((ly0 can Fn hF bs cs wB wS A0 gw gs m N hm hN hcan n ih x hxN se0 wi0)) ?_;refine T3.sq rfl (T3.seq (s:=(sel [1,0,0] lyP)) (c:=(sel [1,0,1] lyP)) (ly1 can Fn hF bs cs wB wS A0 gw gs m N hm hN hcan n ih x hxN se0 wi0 hu) (lyAloop can Fn hF bs cs wB wS A0 gw gs m N hm hN hcan n ih x hxN se0 wi0)) ?_;refine T3.pure fun hf=>?_
 refine T3.sr rfl ((ly10 can Fn hF bs cs wB wS A0 gw gs m N hm hN hcan n ih x hxN se0 wi0).pre fun a w q=>⟨q.1,q.2.sub (by simp)⟩) (T3.ret ?_);rintro a w ⟨hW,hF⟩;rw [hf];exact⟨hW,hF⟩
theorem ly_one (hu:unseen se0<n+1)(w:World)(hW:LyW wB wS A0 gw gs m N (.func (.func Fn) bs cs) wi0 se0 w):Calls Tryz.prog 109 #[.pointer (some ⟨A0,0,none⟩),.int .i64 (x:Int),.slice (some ⟨gs,0,none⟩) m m] w fun e w2=>e=.returned (.bool (layF can (n+1) x se0 wi0).1)∧LyW wB wS A0 gw gs m N (.func (.func Fn) bs cs) (layF can (n+1) x se0 wi0).2.2 (layF can (n+1) x se0 wi0).2.1 w2:=by
 have hall:=ly_all can Fn hF bs cs wB wS A0 gw gs m N hm hN hcan n ih x hxN se0 wi0 hu;clear hcan ih
 go_enter Tryz.func109,Tryz.ntmps109
 refine T3.done (s:=lyP) hall ⟨hW,Fr.r rfl rfl⟩ ?_;rintro a w ⟨hW,fr,rfl,q6,_⟩;rw [fr_lyP,fe q6];exact bodyPost_ret (v:=.bool (layF can (n+1) x se0 wi0).1) (by simp [results,Tryz.results109,go_sem]) rfl ⟨rfl,hW⟩
end
/-- A layer lays as layF. -/
theorem ly_any (can:Nat→Nat→Bool)(Fn:Nat)(hF:∀args w,(callFunc Fn args).run Tryz.prog w=.ok (.enter Fn args) w)(bs cs:Array Value)(wB wS:World)(A0 gw gs m N:Nat)(hm:m≤1000000)(hN:N≤1000000)(hcan:Hid (∀(a b:Nat) (w:World),a<N→b<m→Below wB.heap.size wB w→Calls Tryz.prog Fn (bs++((#[Value.int .i64 (a:Int),Value.int .i64 (b:Int)]:Array Value)++cs)) w fun e w2=>e=.returned (.bool (can a b))∧Below w.heap.size w w2)):∀(n x:Nat) (se:List Bool) (wi:List Int) (w:World),x<N→unseen se<n→LyW wB wS A0 gw gs m N (.func (.func Fn) bs cs) wi se w→Calls Tryz.prog 109 #[.pointer (some ⟨A0,0,none⟩),.int .i64 (x:Int),.slice (some ⟨gs,0,none⟩) m m] w fun e w2=>e=.returned (.bool (layF can n x se wi).1)∧LyW wB wS A0 gw gs m N (.func (.func Fn) bs cs) (layF can n x se wi).2.2 (layF can n x se wi).2.1 w2
 | 0,_,_,_,_,_,hu,_=>absurd hu (Nat.not_lt_zero _)
 | n+1,x,se,wi,w,hx,hu,hW=>ly_one can Fn hF bs cs wB wS A0 gw gs m N hm hN hcan n (Lib.hid (ly_any can Fn hF bs cs wB wS A0 gw gs m N hm hN hcan n)) x hx se wi hu w hW
end Go.Proofs.YtnmdpphddimfbaaGreat
/-
  slices.Repeat of one number, a new layer, and add as addF. Conditions: at most 1000000 places; what can lie where is told by a function that leaves the memory as it is.
-/
namespace Go.Proofs.YtnmdpphddimfbaaGreat
open Go.RowKit Go.Bw
/-- The row that is filled: the first k are -1. -/
structure RpW (w0:World)(g m k:Nat)(w:World):Prop where
 bel:Below w0.heap.size w0 w
 hg:w0.heap.size≤g
 km:k≤m
 c:∃cur:List Value,w.heap[g]?=some (.cells cur.toArray 3 (0,0))∧cur.length=m∧∀i,i<k→cur[i]?=some (.int .i64 (-1))
theorem splice_rep {cur:List Value}{m k j:Nat}(hl:cur.length=m)(h:∀i,i<k→cur[i]?=some (.int .i64 (-1)))(hj:k+j≤m):(splice cur k (List.replicate j (.int .i64 (-1)))).length=m∧∀i,i<k+j→(splice cur k (List.replicate j (Value.int .i64 (-1))))[i]?=some (.int .i64 (-1)):=by
 refine⟨by rw [length_splice _ _ _ (by simp;omega)];exact hl,fun i hi=>?_⟩;unfold splice
 by_cases e:i<k
 ·rw [List.getElem?_append_left (by simp;omega),List.getElem?_take_of_lt e];exact h i e
 ·rw [List.getElem?_append_right (by simp;omega),List.getElem?_append_left (by simp;omega),List.getElem?_replicate,if_pos (by simp;omega)]
theorem RpW.owns {w0 w:World}{g m:Nat}(h:RpW w0 g m m w)(hm:m≤1000000):w.ownsRow w0.heap.size 3 1 (.slice (some ⟨g,0,none⟩) m m) m (cellsOf encI (List.replicate m (-1))):=by
 obtain⟨cur,hg,hl,hc⟩:=h.c;refine⟨by rw [cellsI];simp,.inr ⟨g,m,cur.toArray,rfl,h.hg,hg,Nat.le_refl _,by unfold maxLen;omega,by simp [hl],?_⟩⟩;rw [cellsI,List.map_replicate,Nat.mul_one];refine List.ext_getElem? (fun i=>?_);show(cur.take m)[i]?=_
 by_cases e:i<m
 ·rw [List.getElem?_take_of_lt e,hc i e,List.getElem?_replicate,if_pos e]
 ·rw [List.getElem?_eq_none (by simp;omega),List.getElem?_eq_none (by simp;omega)]
theorem row_cells {w:World}{base e n g:Nat}{xs:List Value}(h:w.ownsRow base e 1 (.slice (some ⟨g,0,none⟩) n n) n xs):base≤g∧∃cur:List Value,w.heap[g]?=some (.cells cur.toArray e (0,0))∧cur.length=n:=by
 rcases h.2 with ⟨h0,_⟩|⟨g1,cap1,cur1,h1,hb,hg1,_,_,hs,_⟩
 ·cases h0
 ·simp only [Value.slice.injEq,Option.some.injEq,Addr.mk.injEq]at h1;obtain⟨⟨rfl,_⟩,_,rfl⟩:=h1;exact⟨hb,cur1.toList,by simpa using hg1,by simpa using hs⟩
noncomputable def lrpP:Code:=(Tryz.f108.body).getD .skip
theorem fr_lrpP (f:Nat→Value):frame 48 f=⟨#[f 0,f 1,f 2,f 3,f 4,f 5,f 6,f 7,f 8,f 9,f 10,f 11,f 12,f 13,f 14,f 15,f 16,f 17,f 18,f 19,f 20,f 21,f 22,f 23,f 24,f 25,f 26,f 27,f 28,f 29,f 30,f 31,f 32,f 33,f 34,f 35,f 36,f 37,f 38,f 39,f 40,f 41,f 42,f 43,f 44,f 45,f 46,f 47],[]⟩:=by rfl
section
variable (px:Addr)(cx m:Nat)(w0:World)(hm:m≤1000000)(hx:w0.cell? px=some (.int .i64 (-1)))
include cx hm hx
theorem lrp0:T3 Tryz.prog (fun a w=>(Below w0.heap.size w0 w)∧Fr 48 [(0,.slice (some px) 1 cx),(1,.int .i64 m)] a) (sel [0] lrpP) (fun a w=>(Below w0.heap.size w0 w)∧Fr 48 [(0,.slice (some px) 1 cx),(1,.int .i64 m)] a) No 9 No:=by
 refine T3.leaf ?_;rintro Q JS JX JT K hS_ hK hX hE hT hR a w ⟨hW,⟨fr,rfl,q0,q1,_⟩⟩;have HW:=Lib.hid hW;clear hW;rw [fr_lrpP,fe q0,fe q1];clear q0 q1;conv=>arg 2;whnf
 go_wp2_with fail
 refine Met.intro (hS_ _ _ ?_);exact⟨HW.out,Fr.r rfl rfl⟩
theorem lrp1:T3 Tryz.prog (fun a w=>(Below w0.heap.size w0 w)∧Fr 48 [(0,.slice (some px) 1 cx),(1,.int .i64 m)] a) (sel [1,0,0] lrpP) (fun a w=>∃q,Fr 48 ((10,.bool q)::[(0,.slice (some px) 1 cx),(1,.int .i64 m)]) a∧((q=false)∧Below w0.heap.size w0 w)) No 9 No:=by
 refine T3.leaf ?_;rintro Q JS JX JT K hS_ hK hX hE hT hR a w ⟨hW,⟨fr,rfl,q0,q1,_⟩⟩;have HW:=Lib.hid hW;clear hW;have hpb:decide ((m:Int)<0)=false:=decide_eq_false (by omega);rw [fr_lrpP,fe q0,fe q1];clear q0 q1;conv=>arg 2;whnf
 go_wp2_with fail
 refine Met.intro (hS_ _ _ ?_);exact⟨_,Fr.r rfl rfl,rfl,HW.out⟩
theorem lrp3:T3 Tryz.prog (fun a w=>(Below w0.heap.size w0 w)∧Fr 48 [(0,.slice (some px) 1 cx),(1,.int .i64 m)] a) (sel [1,1,0] lrpP) (fun a w=>(Below w0.heap.size w0 w)∧Fr 48 [(0,.slice (some px) 1 cx),(1,.int .i64 m),(5,.int .u64 0),(6,.int .u64 m)] a) No 9 No:=by
 refine T3.leaf ?_;rintro Q JS JX JT K hS_ hK hX hE hT hR a w ⟨hW,⟨fr,rfl,q0,q1,_⟩⟩;have HC:=Lib.hid (Tryz.bits_Mul 1 m (by decide) (by omega) w);rw [show 1*m / 18446744073709551616=0 by omega,show 1*m % 18446744073709551616=m by omega]at HC;have HW:=Lib.hid hW;clear hW;have hw1:IntKind.u64.wrap (m:Int)=(m:Int):=by simp [IntKind.wrap,IntKind.bits,IntKind.signed];omega
 rw [fr_lrpP,fe q0,fe q1];clear q0 q1;conv=>arg 2;whnf
 go_wp2_with fail
 refine HC.out.mono ?_;rintro e w1 ⟨rfl,rfl⟩;go_wp2_with fail
 refine Met.intro (hS_ _ _ ?_);exact⟨HW.out,Fr.r rfl rfl⟩
theorem lrp4:T3 Tryz.prog (fun a w=>(Below w0.heap.size w0 w)∧Fr 48 [(0,.slice (some px) 1 cx),(1,.int .i64 m),(5,.int .u64 0),(6,.int .u64 m)] a) (sel [1,1,1,0,0] lrpP) (fun a w=>∃q,Fr 48 ((26,.bool q)::[(0,.slice (some px) 1 cx),(1,.int .i64 m),(5,.int .u64 0),(6,.int .u64 m)]) a∧((q=false)∧Below w0.heap.size w0 w)) No 9 No:=by
 refine T3.leaf ?_;rintro Q JS JX JT K hS_ hK hX hE hT hR a w ⟨hW,⟨fr,rfl,q0,q1,q5,q6,_⟩⟩;have HW:=Lib.hid hW;clear hW;have hpb:decide ((9223372036854775807:Int)<(m:Int))=false:=decide_eq_false (by omega);rw [fr_lrpP,fe q0,fe q1,fe q5,fe q6];clear q0 q1 q5 q6;conv=>arg 2;whnf
 go_wp2_with fail
 refine Met.intro (hS_ _ _ ?_);exact⟨_,Fr.r rfl rfl,rfl,HW.out⟩
theorem lrp6:T3 Tryz.prog (fun a w=>(Below w0.heap.size w0 w)∧Fr 48 [(0,.slice (some px) 1 cx),(1,.int .i64 m),(5,.int .u64 0),(6,.int .u64 m)] a) (sel [1,1,1,1,0] lrpP) (fun a w=>∃(g:Nat),(RpW w0 g m 0 w)∧Fr 48 [(0,.slice (some px) 1 cx),(1,.int .i64 m),(7,.slice (some ⟨g,0,none⟩) m m)] a) No 9 No:=by
 refine T3.leaf ?_;rintro Q JS JX JT K hS_ hK hX hE hT hR a w ⟨hW,⟨fr,rfl,q0,q1,q5,q6,_⟩⟩;have hsz:=hW.size;obtain⟨i0,hi,hz0,hz1,hz2⟩:=info_parts info_int;have HW:=Lib.hid hW;clear hW;have hw1:IntKind.i64.wrap (m:Int)=(m:Int):=by simp [IntKind.wrap,IntKind.bits,IntKind.signed];omega
 rw [fr_lrpP,fe q0,fe q1,fe q5,fe q6];clear q0 q1 q5 q6;conv=>arg 2;whnf
 go_wp2_with (at_make;refine wpList_make_full _ rfl _ _ 22 rfl w0.heap.size 3 i0 (.int .i64 0) 1 und_ints hi hz0 hz1 .i64 .i64 _ _ m rfl rfl rfl rfl (by rw [hz2];omega) (by unfold maxLen;omega) hsz ?_;intro w' hown hgrow)
 obtain⟨hb,cur,hg,hl⟩:=row_cells hown;refine Met.intro (hS_ _ _ ?_);exact⟨_,⟨HW.out.trans ((below_of_grown hgrow (by simp)).mono hsz),hb,Nat.zero_le _,cur,hg,hl,fun i hi=>absurd hi (Nat.not_lt_zero _)⟩,Fr.r rfl rfl⟩
section
variable (g:Nat)
include g
theorem lrp7:T3 Tryz.prog (fun a w=>(RpW w0 g m 0 w)∧Fr 48 [(0,.slice (some px) 1 cx),(1,.int .i64 m),(7,.slice (some ⟨g,0,none⟩) m m)] a) (sel [1,1,1,1,1,0] lrpP) (fun a w=>(RpW w0 g m (Nat.min 1 m) w)∧Fr 48 [(0,.slice (some px) 1 cx),(1,.int .i64 m),(7,.slice (some ⟨g,0,none⟩) m m),(8,.int .i64 ((Nat.min 1 m:Nat):Int))] a) No 9 No:=by
 refine T3.leaf ?_;rintro Q JS JX JT K hS_ hK hX hE hT hR a w ⟨hW,⟨fr,rfl,q0,q1,q7,_⟩⟩;obtain⟨hbel,hg0,hk0,cur,hg,hl,hc⟩:=hW;have hx1:=(hbel.cell (p:=px) (World.block_lt_of_cell? w0 _ hx)).trans hx;have hmin:Nat.min 1 m≤m∧Nat.min 1 m≤1:=⟨Nat.min_le_right _ _,Nat.min_le_left _ _⟩
 have hsp:=splice_rep (k:=0) (j:=Nat.min 1 m) hl hc (by omega);have HSP:=Lib.hid hsp;have HB:=Lib.hid hbel;have HX:=Lib.hid hx1;clear hsp hbel hc hx hx1;rw [fr_lrpP,fe q0,fe q1,fe q7];clear q0 q1 q7;conv=>arg 2;whnf
 go_wp2_with (refine wpList_copy_splice rfl (.tmp 31) (.tmp 32) 22 22 rfl 3 und_ints (by kernel_rfl) (some ⟨g,0,none⟩) (some px) m m 1 cx rfl rfl g 0 cur 3 hg (List.replicate (Nat.min 1 m) (.int .i64 (-1))) (by simp) (fun _=>⟨rfl,px,rfl,fun j v hj=>by
   rw [List.getElem?_replicate]at hj
   split at hj
   ·obtain rfl:j=0:=by omega
    cases hj
    exact HX.out
   ·cases hj⟩) (by simp;omega) (fun v hv=>by rw [List.eq_of_mem_replicate hv];rfl) w0.heap.size w0 HB.out hg0 ?_;intro w4 hg4 hb4)
 refine Met.intro (hS_ _ _ ?_);exact⟨⟨hb4,hg0,hmin.1,_,hg4,HSP.out.1,by have:=HSP.out.2;rwa [Nat.zero_add]at this⟩,Fr.r rfl rfl⟩
theorem lrp8 (k:Nat)(hkm:0<m→0<k):T3 Tryz.prog (fun a w=>(RpW w0 g m k w)∧Fr 48 [(0,.slice (some px) 1 cx),(1,.int .i64 m),(7,.slice (some ⟨g,0,none⟩) m m),(8,.int .i64 (k:Int))] a) (sel [1,1,1,1,1,1,0,4,4,0,0] lrpP) (fun a w=>∃q,Fr 48 ((37,.bool q)::[(0,.slice (some px) 1 cx),(1,.int .i64 m),(7,.slice (some ⟨g,0,none⟩) m m),(8,.int .i64 (k:Int))]) a∧((q=decide (k<m))∧RpW w0 g m k w)) No 9 No:=by
 refine T3.leaf ?_;rintro Q JS JX JT K hS_ hK hX hE hT hR a w ⟨hW,⟨fr,rfl,q0,q1,q7,q8,_⟩⟩;have HW:=Lib.hid hW;clear hW;rw [fr_lrpP,fe q0,fe q1,fe q7,fe q8];clear q0 q1 q7 q8;conv=>arg 2;whnf
 go_wp2_with fail
 refine Met.intro (hS_ _ _ ?_);exact⟨_,Fr.r rfl rfl,by simp,HW.out⟩
theorem lrp9 (k:Nat)(hkm:0<m→0<k)(hk:k<m):T3 Tryz.prog (fun a w=>(RpW w0 g m k w)∧Fr 48 [(0,.slice (some px) 1 cx),(1,.int .i64 m),(7,.slice (some ⟨g,0,none⟩) m m),(8,.int .i64 (k:Int))] a) (sel [1,1,1,1,1,1,0,4,4,1,4] lrpP) (fun a w=>(RpW w0 g m (k+Nat.min k (m-k)) w)∧Fr 48 [(0,.slice (some px) 1 cx),(1,.int .i64 m),(7,.slice (some ⟨g,0,none⟩) m m),(8,.int .i64 (((k+Nat.min k (m-k)):Nat):Int))] a) No 9 No:=by
 refine T3.leafN ?_;rintro JS hS_ a w ⟨hW,⟨fr,rfl,q0,q1,q7,q8,_⟩⟩;obtain⟨hbel,hg0,hk0,cur,hg,hl,hc⟩:=hW;have hmin:Nat.min k (m-k)≤m-k∧Nat.min k (m-k)≤k:=⟨Nat.min_le_right _ _,Nat.min_le_left _ _⟩
 have HSP:=Lib.hid (splice_rep (k:=k) (j:=Nat.min k (m-k)) hl hc (by omega));have HB:=Lib.hid hbel.drew;have HCC:=Lib.hid (fun i (h:i<k)=>show w.drew.cell? ((⟨g,0,none⟩:Addr).add i)=some (.int .i64 (-1))by
  have h1:=hc i h;show w.cell? _=_;cases i with
  | zero=>simp [Addr.add,World.cell?,hg,h1]
  | succ j1=>simp [Addr.add,World.cell?,hg,h1])
 have hwr:IntKind.i64.wrap ((k:Int)+((Nat.min k (m-k):Nat):Int))=((k:Int)+((Nat.min k (m-k):Nat):Int)):=by simp [IntKind.wrap,IntKind.bits,IntKind.signed];omega
 have hmk:¬m=k:=by omega
 have hkm2:k≤m:=by omega
 clear hbel hc hx;generalize hj:Nat.min k (m-k)=j at *;have HJ:=Lib.hid hj;have HCJ:=Lib.hid (fun j1 v (hj1:(List.replicate j (Value.int .i64 (-1)))[j1]?=some v)=>show w.drew.cell? ((⟨g,0,none⟩:Addr).add j1)=some v by
  rw [List.getElem?_replicate]at hj1
  split at hj1
  ·cases hj1
   exact HCC.out j1 (by omega)
  ·cases hj1)
 clear hj;rw [fr_lrpP,fe q0,fe q1,fe q7,fe q8];clear q0 q1 q7 q8;conv=>arg 2;whnf
 go_region_law (refine step_copy_splice rfl (.tmp 41) (.tmp 44) 22 22 rfl 3 und_ints (by kernel_rfl) (some ⟨g,k,none⟩) (some ⟨g,0,none⟩) (m-k) (m-k) k m (by simp [Act.eval,Act.put]) (by simp [Act.eval,Act.put]) g k cur 3 hg (List.replicate j (.int .i64 (-1))) (by rw [List.length_replicate];exact HJ.out.symm) (fun _=>⟨rfl,_,rfl,HCJ.out⟩) (by simp;omega) (fun v hv=>by rw [List.eq_of_mem_replicate hv];rfl) w0.heap.size w0 HB.out hg0 ?_;intro w4 hg4 hb4)
 refine hS_ _ _ ?_;exact⟨⟨hb4,hg0,by omega,_,hg4,HSP.out.1,HSP.out.2⟩,Fr.r rfl rfl⟩
theorem lrpL:T3 Tryz.prog (fun a w=>(RpW w0 g m (Nat.min 1 m) w)∧Fr 48 [(0,.slice (some px) 1 cx),(1,.int .i64 m),(7,.slice (some ⟨g,0,none⟩) m m),(8,.int .i64 ((Nat.min 1 m:Nat):Int))] a) (sel [1,1,1,1,1,1,0] lrpP) (fun a w=>(RpW w0 g m m w)∧Fr 48 [(7,.slice (some ⟨g,0,none⟩) m m)] a) No 9 No:=by
 refine T3.loop (c:=(sel [1,1,1,1,1,1,0,4,4] lrpP)) (fun nn a w=>∃k:Nat,(nn=m-k∧(0<m→0<k))∧(RpW w0 g m k w)∧Fr 48 [(0,.slice (some px) 1 cx),(1,.int .i64 m),(7,.slice (some ⟨g,0,none⟩) m m),(8,.int .i64 (k:Int))] a) (fun a w h=>⟨_,Nat.min 1 m,⟨rfl,fun h1=>by show 0<min 1 m;omega⟩,h⟩) (fun nn=>T3.ex fun k=>T3.pure fun hk=>?_);refine T3.sq rfl (S:=fun a w=>(k<m)∧(RpW w0 g m k w)∧Fr 48 [(0,.slice (some px) 1 cx),(1,.int .i64 m),(7,.slice (some ⟨g,0,none⟩) m m),(8,.int .i64 (k:Int))] a) ?_ (T3.pure fun hlt=>?_)
 ·refine T3.test (s:=(sel [1,1,1,1,1,1,0,4,4,0,0] lrpP)) (x:=.skip) (y:=.exit 0) (C:=fun q=>(q=decide (k<m))) (W:=fun w=>RpW w0 g m k w) (by decide) ((lrp8 px cx m w0 hm hx g k hk.2).noX) (T3.skip ?_) (T3.exit ?_)
  ·rintro a w ⟨hF,hq,hW⟩;exact⟨by simpa using hq.symm,hW,hF.tail⟩
  ·rintro a w ⟨hq,hW,hF⟩;have:k=m:=by have:=hW.km;have:=hq.symm;simp at this;omega
   subst this;exact⟨hW,hF.sub (by simp)⟩
 ·refine T3.block (id':=1) (c:=(sel [1,1,1,1,1,1,0,4,4,1,4] lrpP)) (by decide) (((lrp9 px cx m w0 hm hx g k hk.2 hlt).noX).post ?_);rintro a w ⟨hW,hF⟩;have hmin:Nat.min k (m-k)=min k (m-k):=rfl;have hk2:=hk.2;exact⟨m-(k+Nat.min k (m-k)),by omega,_,⟨rfl,fun _=>by omega⟩,hW,hF⟩
theorem lrp10:T3 Tryz.prog (fun a w=>(RpW w0 g m m w)∧Fr 48 [(7,.slice (some ⟨g,0,none⟩) m m)] a) (sel [1,1,1,1,1,1,1,0] lrpP) (fun a w=>(RpW w0 g m m w)∧Fr 48 [(4,.slice (some ⟨g,0,none⟩) m m)] a) No 9 No:=by
 refine T3.leaf ?_;rintro Q JS JX JT K hS_ hK hX hE hT hR a w ⟨hW,⟨fr,rfl,q7,_⟩⟩;have HW:=Lib.hid hW;clear hW;rw [fr_lrpP,fe q7];clear q7;conv=>arg 2;whnf
 go_wp2_with fail
 refine Met.intro (hS_ _ _ ?_);exact⟨HW.out,Fr.of _ rfl ⟨rfl,trivial⟩⟩
end
theorem lrp_all:T3 Tryz.prog (fun a w=>(Below w0.heap.size w0 w)∧Fr 48 [(0,.slice (some px) 1 cx),(1,.int .i64 m)] a) lrpP No No 9 (fun a w=>∃g,RpW w0 g m m w∧Fr 48 [(4,.slice (some ⟨g,0,none⟩) m m)] a):=by
 refine T3.seq (s:=(sel [0] lrpP)) (c:=(sel [1] lrpP)) (T3.noT (lrp0 px cx m w0 hm hx)) ?_;refine T3.sq rfl (S:=fun a w=>(Below w0.heap.size w0 w)∧Fr 48 [(0,.slice (some px) 1 cx),(1,.int .i64 m)] a) ?_ ?_
 ·refine T3.tt rfl (C:=fun q=>(q=false)) (W:=fun w=>Below w0.heap.size w0 w) (by decide) (T3.noT (lrp1 px cx m w0 hm hx)) ?_ (T3.skip ?_)
  ·rintro a w ⟨_,hq,_⟩;cases hq
  ·rintro a w ⟨_,hW,hF⟩;exact⟨hW,hF⟩
 refine T3.sq rfl (T3.noT (lrp3 px cx m w0 hm hx)) ?_;refine T3.sq rfl (S:=fun a w=>(Below w0.heap.size w0 w)∧Fr 48 [(0,.slice (some px) 1 cx),(1,.int .i64 m),(5,.int .u64 0),(6,.int .u64 m)] a) ?_ ?_
 ·refine T3.tt rfl (C:=fun q=>(q=false)) (W:=fun w=>Below w0.heap.size w0 w) (by decide) (T3.noT (lrp4 px cx m w0 hm hx)) ?_ (T3.skip ?_)
  ·rintro a w ⟨_,hq,_⟩;cases hq
  ·rintro a w ⟨_,hW,hF⟩;exact⟨hW,hF⟩
 refine T3.sq rfl (T3.noT (lrp6 px cx m w0 hm hx)) ?_;refine T3.ex fun g=>?_
 refine T3.sq rfl (T3.noT (lrp7 px cx m w0 hm hx g)) ?_;refine T3.sq rfl (T3.noT (lrpL px cx m w0 hm hx g)) ?_;refine T3.sr rfl (T3.noT (lrp10 px cx m w0 hm hx g)) (T3.ret ?_);rintro a w ⟨hW,hF⟩;exact⟨g,hW,hF⟩
/-- One number over and over. -/
theorem repeat_one:Calls Tryz.prog 108 #[.slice (some px) 1 cx,.int .i64 m] w0 fun e w=>∃g,e=.returned (.slice (some ⟨g,0,none⟩) m m)∧Below w0.heap.size w0 w∧w.ownsRow w0.heap.size 3 1 (.slice (some ⟨g,0,none⟩) m m) m (cellsOf encI (List.replicate m (-1))):=by
 have hall:=lrp_all px cx m w0 hm hx;clear hx
 go_enter Tryz.func108,Tryz.ntmps108
 refine T3.done (s:=lrpP) hall ⟨Below.refl _ _,Fr.r rfl rfl⟩ ?_;rintro a w ⟨g,hW,fr,rfl,q4,_⟩;rw [fr_lrpP,fe q4];exact bodyPost_ret (v:=.slice (some ⟨g,0,none⟩) m m) (by simp [results,Tryz.results108,go_sem]) rfl ⟨g,rfl,hW.bel,hW.owns hm⟩
end
/-- A layer between two things that are laid. -/
structure LzW (wB:World)(A0 gw m N:Nat)(fv:Value)(wi:List Int)(w:World):Prop where
 bel:Below wB.heap.size wB w
 c0:w.cell? ⟨A0,0,none⟩=some fv
 c1:w.cell? ⟨A0,1,none⟩=some (.slice (some ⟨gw,0,none⟩) m m)
 wr:w.ownsRow wB.heap.size 3 1 (.slice (some ⟨gw,0,none⟩) m m) m (cellsOf encI wi)
 lw:wi.length=m
 rg:∀b,b<m→-1≤atB wi b∧atB wi b<N
 nw:A0≠gw
 lo:wB.heap.size≤A0
theorem LzW.below {wB w w':World}{A0 gw m N:Nat}{fv:Value}{wi:List Int}(h:LzW wB A0 gw m N fv wi w)(b:Below w.heap.size w w'):LzW wB A0 gw m N fv wi w' :=
 ⟨h.bel.trans (b.mono h.bel.size),(b.cell (p:=⟨A0,0,none⟩) (World.block_lt_of_cell? w _ h.c0)).trans h.c0,(b.cell (p:=⟨A0,1,none⟩) (World.block_lt_of_cell? w _ h.c1)).trans h.c1,
  owns_below h.wr b (Nat.le_refl _),h.lw,h.rg,h.nw,h.lo⟩
/-- A new layer: nobody is laid. -/
theorem new_layer (Fn:Nat)(bs cs:Array Value)(m N:Nat)(w0:World)(hm:m≤1000000):Calls Tryz.prog 73 #[.int .i64 m,.func (.func Fn) bs cs] w0 fun e w=>∃A0 gw,e=.returned (.pointer (some ⟨A0,0,none⟩))∧LzW w0 A0 gw m N (.func (.func Fn) bs cs) (List.replicate m (-1)) w:=by
 have ha:=(Below.refl w0.heap.size w0).alloc (Nat.le_refl _) (.cells #[.int .i64 (-1)] 3);have HC:=Lib.hid (repeat_one ⟨w0.heap.size,0,none⟩ 1 m (w0.alloc (.cells #[.int .i64 (-1)] 3)) hm (cells_new w0 #[.int .i64 (-1)] 3 0 _ rfl));have HA:=Lib.hid ha;clear ha
 go_enter Tryz.func73,Tryz.ntmps73
 go_wp2_with fail
 refine HC.out.mono ?_;rintro e w1 ⟨g,rfl,hb,ho⟩;have HB:=Lib.hid (HA.out.trans (hb.mono HA.out.size));have HO:=Lib.hid ho;clear hb ho;go_wp2_with fail
 go_ret
 have hsz:=HB.out.size;have hlt:=(HO.out.lt g rfl).2;have hge:=(HO.out.lt g rfl).1;have hs1:(w0.alloc (.cells #[.int .i64 (-1)] 3)).heap.size=w0.heap.size+1:=by simp
 refine⟨w1.heap.size,g,rfl,HB.out.alloc hsz _,cells_new w1 _ _ 0 _ rfl,cells_new w1 _ _ 1 _ rfl,owns_mono (HO.out.alloc _) (by omega),by simp,fun b hb=>?_,by omega,hsz⟩;have e:atB (List.replicate m (-1)) b=-1:=by
  unfold atB geta;rw [Int.toNat_natCast,List.getElem?_replicate,if_pos hb];rfl
 rw [e];omega
/-- A thing is laid, or it cannot be. -/
theorem add_prog (can:Nat→Nat→Bool)(Fn:Nat)(hF:∀args w,(callFunc Fn args).run Tryz.prog w=.ok (.enter Fn args) w)(bs cs:Array Value)(wB:World)(A0 gw m N:Nat)(hm:m≤1000000)(hN:N≤1000000)(hcan:Hid (∀(a b:Nat) (w:World),a<N→b<m→Below wB.heap.size wB w→Calls Tryz.prog Fn (bs++((#[Value.int .i64 (a:Int),Value.int .i64 (b:Int)]:Array Value)++cs)) w fun e w2=>e=.returned (.bool (can a b))∧Below w.heap.size w w2))(x:Nat)(wi:List Int)(w:World)(hxN:x<N)(h:LzW wB A0 gw m N (.func (.func Fn) bs cs) wi w):
  Calls Tryz.prog 75 #[.pointer (some ⟨A0,0,none⟩),.int .i64 (x:Int)] w fun e w'=>e=.returned (.bool (addF can x wi).1)∧LzW wB A0 gw m N (.func (.func Fn) bs cs) (addF can x wi).2.2 w'∧w.grownBy w' (some gw):=by
 have c0:=h.c0;have c1:=h.c1;have hA:=World.block_lt_of_cell? w _ c0;obtain⟨i0,hi,hz0,hz1,hz2⟩:=info_parts info_bool;have HH:=Lib.hid h;have HL:=Lib.hid (fun gs wS w1 se (hW:LyW wB wS A0 gw gs m N (.func (.func Fn) bs cs) wi se w1) (hu:unseen se<m+1)=>ly_any can Fn hF bs cs wB wS A0 gw gs m N hm hN hcan (m+1) x se wi w1 hxN hu hW);have hlw:=h.lw;clear h hcan;have HADD:=Lib.hid (show addF can x wi=layF can (m+1) x (List.replicate m false) wi by unfold addF;rw [hlw]);rw [HADD.out];clear hlw HADD
 go_enter Tryz.func75,Tryz.ntmps75
 go_wp2_with (at_make;refine wpList_make_full _ rfl _ _ 128 rfl w.heap.size 4 i0 (.bool false) 1 und_bools hi hz0 hz1 .i64 .i64 _ _ m rfl rfl rfl rfl (by rw [hz2];omega) (by unfold maxLen;omega) (Nat.le_refl _) ?_;intro w' hown hgrow)
 rw [made_bools]at hown;have hb:=below_of_grown hgrow (by simp);have hH:=HH.out;have hW:LyW wB w A0 gw w.heap.size m N (.func (.func Fn) bs cs) wi (List.replicate m false) w' :=
  ⟨hH.bel.trans (hb.mono hH.bel.size),grown_of_below hb,Nat.le_refl _,(hb.cell (p:=⟨A0,0,none⟩) hA).trans c0,(hb.cell (p:=⟨A0,1,none⟩) hA).trans c1,owns_below hH.wr hb (Nat.le_refl _),owns_mono hown hH.bel.size,hH.lw,by simp,hH.rg,hH.nw,fun e=>by omega⟩
 have HC:=Lib.hid (HL.out _ w w' _ hW (by have:=unseen_new m;omega));clear hW hH hb hown hgrow HL;refine HC.out.mono ?_;rintro e w2 ⟨rfl,h2⟩;have H2:=Lib.hid h2;clear h2;go_wp2_with fail
 go_ret
 have h2:=H2.out;exact⟨rfl,⟨h2.bel,h2.c0,h2.c1,h2.wr,h2.lw,h2.rg,h2.nw,HH.out.lo⟩,h2.gr⟩
end Go.Proofs.YtnmdpphddimfbaaGreat
/-
  Line-ups: what is wrong with players that are asked about (benchFault, WhoFault). Conditions: at most 1000 of each; strings of at most 1000 bytes; where the scorers do not rise some error is told.
-/
namespace Go.Proofs.YtnmdpphddimfbaaGreat
open Go.RowKit Go.Bw
def whoAt (L:List ScD)(K:List ByteArray)(k:Int):Int:=if scIdx L (geta K k)<0 then 8 else if hasUp K k (geta K k)=true then 6 else 0
def whoE (L:List ScD)(K:List ByteArray):Int:=if 20<K.length then 2 else firstErr (whoAt L K) K.length
section
variable {L:List ScD}{K:List ByteArray}
include L K
theorem whoE_big (h:20<K.length):whoE L K=2:=by unfold whoE;rw [if_pos h]
theorem whoE_hit (h:K.length≤20){k:Int}(h0:0≤k)(h1:k<K.length)(hn:NoErr (whoAt L K) k)(hk:whoAt L K k≠0):whoE L K=whoAt L K k:=by unfold whoE;rw [if_neg (by omega)];exact firstErr_hit hn h0 h1 hk
theorem whoE_ok (h:K.length≤20)(hn:NoErr (whoAt L K) K.length):whoE L K=0:=by unfold whoE;rw [if_neg (by omega)];exact firstErr_none hn
end
noncomputable def nfP:Code:=(Tryz.f72.body).getD .skip
theorem fr_nfP (f:Nat→Value):frame 27 f=⟨#[f 0,f 1,f 2,f 3,f 4,f 5,f 6,f 7,f 8,f 9,f 10,f 11,f 12,f 13,f 14,f 15,f 16,f 17,f 18,f 19,f 20,f 21,f 22,f 23,f 24,f 25,f 26],[]⟩:=by rfl
section
variable (Z:Prop)(w0:World)(vl vk:Value)(L:List ScD)(K:List ByteArray)(hl:ScH w0 vl L)(hb:BnH w0 vk K)(hfind:Hid (∀x w,Below w0.heap.size w0 w→Calls Tryz.prog 69 #[vl,.string x] w fun e w2=>∃i:Int,e=.returned (.int .i64 i)∧(Z→i=scIdx L x)∧Below w.heap.size w w2))
include hl hb hfind
theorem nf0:T3 Tryz.prog (fun a w=>(Below w0.heap.size w0 w)∧Fr 27 [(0,vl),(1,vk)] a) (sel [0] nfP) (fun a w=>(Below w0.heap.size w0 w)∧Fr 27 [(0,vl),(1,vk)] a) No 9 (fun a w=>∃v:Int,(Z→v=whoE L K)∧Fr 27 [(4,.int .i64 v)] a∧Below w0.heap.size w0 w):=by
 refine T3.leaf ?_;rintro Q JS JX JT K_ hS hK hX hE hT hR a w ⟨hW,⟨fr,rfl,q0,q1,_⟩⟩;have HW:=Lib.hid hW;have hsn:=hb.n;obtain⟨p1,c1,rfl⟩:=hl.r.shape;obtain⟨p3,c3,rfl⟩:=hb.r.shape;clear hW;rw [fr_nfP,fe q0,fe q1];clear q0 q1;conv=>arg 2;whnf
 go_wp2_with fail
 refine Met.intro (hS _ _ ?_);exact⟨HW.out,Fr.r rfl rfl⟩
theorem nf1:T3 Tryz.prog (fun a w=>(Below w0.heap.size w0 w)∧Fr 27 [(0,vl),(1,vk)] a) (sel [1,0,0] nfP) (fun a w=>∃q,Fr 27 ((9,.bool q)::[(0,vl),(1,vk)]) a∧((q=decide ((20:Int)<(K.length:Int)))∧Below w0.heap.size w0 w)) No 9 (fun a w=>∃v:Int,(Z→v=whoE L K)∧Fr 27 [(4,.int .i64 v)] a∧Below w0.heap.size w0 w):=by
 refine T3.leaf ?_;rintro Q JS JX JT K_ hS hK hX hE hT hR a w ⟨hW,⟨fr,rfl,q0,q1,_⟩⟩;have HW:=Lib.hid hW;have hsn:=hb.n;obtain⟨p1,c1,rfl⟩:=hl.r.shape;obtain⟨p3,c3,rfl⟩:=hb.r.shape;clear hW;rw [fr_nfP,fe q0,fe q1];clear q0 q1;conv=>arg 2;whnf
 go_wp2_with fail
 refine Met.intro (hS _ _ ?_);exact⟨_,Fr.r rfl rfl,rfl,HW.out⟩
theorem nf2:T3 Tryz.prog (fun a w=>(Below w0.heap.size w0 w)∧Fr 27 [(0,vl),(1,vk)] a) (sel [1,0,1,2,0] nfP) (fun a w=>(Below w0.heap.size w0 w)∧Fr 27 [(4,.int .i64 2)] a) No 9 (fun a w=>∃v:Int,(Z→v=whoE L K)∧Fr 27 [(4,.int .i64 v)] a∧Below w0.heap.size w0 w):=by
 refine T3.leaf ?_;rintro Q JS JX JT K_ hS hK hX hE hT hR a w ⟨hW,⟨fr,rfl,q0,q1,_⟩⟩;have HW:=Lib.hid hW;have hsn:=hb.n;obtain⟨p1,c1,rfl⟩:=hl.r.shape;obtain⟨p3,c3,rfl⟩:=hb.r.shape;clear hW;rw [fr_nfP,fe q0,fe q1];clear q0 q1;conv=>arg 2;whnf
 go_wp2_with fail
 refine Met.intro (hS _ _ ?_);exact⟨HW.out,Fr.of _ rfl ⟨rfl,trivial⟩⟩
theorem nf3 (h20:K.length≤20):T3 Tryz.prog (fun a w=>(Below w0.heap.size w0 w)∧Fr 27 [(0,vl),(1,vk)] a) (sel [1,1,0,0] nfP) (fun a w=>(0≤(0:Int)∧(0:Int)≤K.length)∧(Z→NoErr (whoAt L K) 0)∧(Below w0.heap.size w0 w)∧Fr 27 [(0,vl),(1,vk),(10,vk),(11,.int .i64 K.length),(12,.int .i64 0)] a) No 9 (fun a w=>∃v:Int,(Z→v=whoE L K)∧Fr 27 [(4,.int .i64 v)] a∧Below w0.heap.size w0 w):=by
 refine T3.leaf ?_;rintro Q JS JX JT K_ hS hK hX hE hT hR a w ⟨hW,⟨fr,rfl,q0,q1,_⟩⟩;have HW:=Lib.hid hW;have hsn:=hb.n;obtain⟨p1,c1,rfl⟩:=hl.r.shape;obtain⟨p3,c3,rfl⟩:=hb.r.shape;clear hW;rw [fr_nfP,fe q0,fe q1];clear q0 q1;conv=>arg 2;whnf
 go_wp2_with fail
 refine Met.intro (hS _ _ ?_);exact⟨⟨by omega,by omega⟩,fun _=>NoErr.zero _,HW.out,Fr.r rfl rfl⟩
section
variable (h20:K.length≤20)(k:Int)
include h20 k
theorem nf5:T3 Tryz.prog (fun a w=>((0≤k∧k<K.length)∧(Z→NoErr (whoAt L K) k))∧(Below w0.heap.size w0 w)∧Fr 27 [(0,vl),(1,vk),(10,vk),(11,.int .i64 K.length),(12,.int .i64 k)] a) (sel [1,1,0,1,4,4,1,1,0,4,0] nfP) (fun a w=>((0≤k∧k<K.length)∧(Z→NoErr (whoAt L K) k))∧(Below w0.heap.size w0 w)∧Fr 27 [(0,vl),(1,vk),(5,.int .i64 k),(6,.string (geta K k)),(10,vk),(11,.int .i64 K.length),(12,.int .i64 k)] a) No 9 (fun a w=>∃v:Int,(Z→v=whoE L K)∧Fr 27 [(4,.int .i64 v)] a∧Below w0.heap.size w0 w):=by
 refine T3.leaf ?_;rintro Q JS JX JT K_ hS hK hX hE hT hR a w ⟨hpre,hW,⟨fr,rfl,q0,q1,q10,q11,q12,_⟩⟩;have hpp:=Lib.hid hpre;obtain⟨⟨hk0,hk1⟩,_⟩:=hpre;have hsn:=hb.n;have hHW:=Lib.hid hW;obtain⟨p1,c1,rfl⟩:=hl.r.shape;obtain⟨_,hcs⟩:=(hb.below hW).r.els encSt_length (by decide);rcases hcs with ⟨rfl,h0⟩|⟨bz,off,cap,rfl,_,hbz,hnc,hcm,hcell⟩
 ·omega
 have t0:=hcell k hk0 hk1 0 _ rfl;rw [Nat.mul_one,Nat.add_zero]at t0;clear hcell hW hl hb;generalize geta K k=x at *;rw [fr_nfP,fe q0,fe q1,fe q10,fe q11,fe q12];clear q0 q1 q10 q11 q12;conv=>arg 2;whnf
 go_wp2_with fail
 refine Met.intro (hS _ _ ?_);exact⟨hpp.out,hHW.out,Fr.r rfl rfl⟩
theorem nf6:T3 Tryz.prog (fun a w=>((0≤k∧k<K.length)∧(Z→NoErr (whoAt L K) k))∧(Below w0.heap.size w0 w)∧Fr 27 [(0,vl),(1,vk),(5,.int .i64 k),(6,.string (geta K k)),(10,vk),(11,.int .i64 K.length),(12,.int .i64 k)] a) (sel [1,1,0,1,4,4,1,1,0,4,1,0,0] nfP) (fun a w=>∃q,Fr 27 ((20,.bool q)::[(0,vl),(1,vk),(5,.int .i64 k),(6,.string (geta K k)),(10,vk),(11,.int .i64 K.length),(12,.int .i64 k)]) a∧((((0≤k∧k<K.length)∧(Z→NoErr (whoAt L K) k))∧(Z→q=decide (scIdx L (geta K k)<0)))∧Below w0.heap.size w0 w)) No 9 (fun a w=>∃v:Int,(Z→v=whoE L K)∧Fr 27 [(4,.int .i64 v)] a∧Below w0.heap.size w0 w):=by
 refine T3.leaf ?_;rintro Q JS JX JT K_ hS hK hX hE hT hR a w ⟨hpre,hW,⟨fr,rfl,q0,q1,q5,q6,q10,q11,q12,_⟩⟩;have hpp:=Lib.hid hpre;obtain⟨⟨hk0,hk1⟩,_⟩:=hpre;have hsn:=hb.n;have HW:=Lib.hid hW;have HC:=Lib.hid (hfind.out (geta K k) w hW);obtain⟨p1,c1,rfl⟩:=hl.r.shape;obtain⟨p3,c3,rfl⟩:=hb.r.shape;clear hl hb hW hfind;generalize hxx:geta K k=x at *;rw [fr_nfP,fe q0,fe q1,fe q5,fe q6,fe q10,fe q11,fe q12];clear q0 q1 q5 q6 q10 q11 q12;conv=>arg 2;whnf
 go_wp2_with fail
 refine HC.out.mono ?_;rintro e w1 ⟨i,rfl,hi,hb1⟩;have HR:=Lib.hid (HW.out.trans (hb1.mono HW.out.size));have HI:=Lib.hid (fun z=>congrArg (fun j:Int=>decide (j<0)) (hi z));clear hb1 hi;go_wp2_with fail
 refine Met.intro (hS _ _ ?_);exact⟨_,Fr.r rfl rfl,⟨hpp.out,HI.out⟩,HR.out⟩
theorem nf7:T3 Tryz.prog (fun a w=>(Below w0.heap.size w0 w)∧Fr 27 [(0,vl),(1,vk),(5,.int .i64 k),(6,.string (geta K k)),(10,vk),(11,.int .i64 K.length),(12,.int .i64 k)] a) (sel [1,1,0,1,4,4,1,1,0,4,1,0,1,2,0] nfP) (fun a w=>(Below w0.heap.size w0 w)∧Fr 27 [(4,.int .i64 8)] a) No 9 (fun a w=>∃v:Int,(Z→v=whoE L K)∧Fr 27 [(4,.int .i64 v)] a∧Below w0.heap.size w0 w):=by
 refine T3.leaf ?_;rintro Q JS JX JT K_ hS hK hX hE hT hR a w ⟨hW,⟨fr,rfl,q0,q1,q5,q6,q10,q11,q12,_⟩⟩;have HW:=Lib.hid hW;clear hW;obtain⟨p1,c1,rfl⟩:=hl.r.shape;obtain⟨p3,c3,rfl⟩:=hb.r.shape;generalize geta K k=x at *;rw [fr_nfP,fe q0,fe q1,fe q5,fe q6,fe q10,fe q11,fe q12];clear q0 q1 q5 q6 q10 q11 q12;conv=>arg 2;whnf
 go_wp2_with fail
 refine Met.intro (hS _ _ ?_);exact⟨HW.out,Fr.of _ rfl ⟨rfl,trivial⟩⟩
theorem nf8:T3 Tryz.prog (fun a w=>((0≤k∧k<K.length)∧(Z→NoErr (whoAt L K) k))∧(Below w0.heap.size w0 w)∧Fr 27 [(0,vl),(1,vk),(5,.int .i64 k),(6,.string (geta K k)),(10,vk),(11,.int .i64 K.length),(12,.int .i64 k)] a) (sel [1,1,0,1,4,4,1,1,0,4,1,1,0] nfP) (fun a w=>∃q,Fr 27 ((25,.bool q)::[(0,vl),(1,vk),(5,.int .i64 k),(6,.string (geta K k)),(10,vk),(11,.int .i64 K.length),(12,.int .i64 k)]) a∧((((0≤k∧k<K.length)∧(Z→NoErr (whoAt L K) k))∧q=hasUp K k (geta K k))∧Below w0.heap.size w0 w)) No 9 (fun a w=>∃v:Int,(Z→v=whoE L K)∧Fr 27 [(4,.int .i64 v)] a∧Below w0.heap.size w0 w):=by
 refine T3.leaf ?_;rintro Q JS JX JT K_ hS hK hX hE hT hR a w ⟨hpre,hW,⟨fr,rfl,q0,q1,q5,q6,q10,q11,q12,_⟩⟩;have hpp:=Lib.hid hpre;obtain⟨⟨hk0,hk1⟩,_⟩:=hpre;have hsn:=hb.n;have HW:=Lib.hid hW;have hR:=(hb.below hW).r;rcases hR.2 with ⟨hv,h0⟩|⟨bz,off,cap,hv,_,hbz,hnc,hcm,hcell⟩
 ·omega
 subst hv;simp only [maxLen]at hcm;have hbq:(0:Int)≤k∧k≤K.length∧(K.length:Int)≤cap:=by omega
 have hkc:k≤(cap:Int):=by omega
 have hE:hasS (K.take k.toNat) (geta K k)=hasUp K k (geta K k):=rfl;have HC:=Lib.hid (contains_str _ _ (K.take k.toNat) (geta K k) 0 w (Row.firstN encSt_length hR hk0 (by omega)));rw [hE]at HC;obtain⟨p1,c1,rfl⟩:=hl.r.shape;clear hcell hR hl hb hW hE hfind;generalize hasUp K k (geta K k)=q at *;generalize geta K k=x at *;rw [fr_nfP,fe q0,fe q1,fe q5,fe q6,fe q10,fe q11,fe q12];clear q0 q1 q5 q6 q10 q11 q12;conv=>arg 2;whnf
 go_wp2_with fail
 refine HC.out.mono ?_;rintro e w1 ⟨rfl,rfl⟩;go_wp2_with fail
 have hpre:=hpp.out;refine Met.intro (hS _ _ ?_);exact⟨_,Fr.r rfl rfl,⟨hpre,rfl⟩,HW.out⟩
theorem nf9:T3 Tryz.prog (fun a w=>(Below w0.heap.size w0 w)∧Fr 27 [(0,vl),(1,vk),(5,.int .i64 k),(6,.string (geta K k)),(10,vk),(11,.int .i64 K.length),(12,.int .i64 k)] a) (sel [1,1,0,1,4,4,1,1,0,4,1,1,1,2,0] nfP) (fun a w=>(Below w0.heap.size w0 w)∧Fr 27 [(4,.int .i64 6)] a) No 9 (fun a w=>∃v:Int,(Z→v=whoE L K)∧Fr 27 [(4,.int .i64 v)] a∧Below w0.heap.size w0 w):=by
 refine T3.leaf ?_;rintro Q JS JX JT K_ hS hK hX hE hT hR a w ⟨hW,⟨fr,rfl,q0,q1,q5,q6,q10,q11,q12,_⟩⟩;have HW:=Lib.hid hW;clear hW;obtain⟨p1,c1,rfl⟩:=hl.r.shape;obtain⟨p3,c3,rfl⟩:=hb.r.shape;generalize geta K k=x at *;rw [fr_nfP,fe q0,fe q1,fe q5,fe q6,fe q10,fe q11,fe q12];clear q0 q1 q5 q6 q10 q11 q12;conv=>arg 2;whnf
 go_wp2_with fail
 refine Met.intro (hS _ _ ?_);exact⟨HW.out,Fr.of _ rfl ⟨rfl,trivial⟩⟩
end
theorem nf11:T3 Tryz.prog (fun a w=>(Below w0.heap.size w0 w)∧Fr 27 [] a) (sel [1,1,1,0] nfP) (fun a w=>(Below w0.heap.size w0 w)∧Fr 27 [(4,.int .i64 0)] a) No 9 (fun a w=>∃v:Int,(Z→v=whoE L K)∧Fr 27 [(4,.int .i64 v)] a∧Below w0.heap.size w0 w):=by
 refine T3.leaf ?_;rintro Q JS JX JT K_ hS hK hX hE hT hR a w ⟨hW,⟨fr,rfl,_⟩⟩;have HW:=Lib.hid hW;clear hW;rw [fr_nfP];conv=>arg 2;whnf
 go_wp2_with fail
 refine Met.intro (hS _ _ ?_);exact⟨HW.out,Fr.of _ rfl ⟨rfl,trivial⟩⟩
section
variable (h20:K.length≤20)
include h20
theorem nfb (k:Int):T3 Tryz.prog (fun a w=>((0≤k∧k<K.length)∧(Z→NoErr (whoAt L K) k))∧(Below w0.heap.size w0 w)∧Fr 27 [(0,vl),(1,vk),(10,vk),(11,.int .i64 K.length),(12,.int .i64 k)] a) (sel [1,1,0,1,4,4,1,1,0] nfP) (fun a w=>((0≤k∧k<K.length)∧(Z→NoErr (whoAt L K) (k+1)))∧(Below w0.heap.size w0 w)∧Fr 27 [(0,vl),(1,vk),(10,vk),(11,.int .i64 K.length),(12,.int .i64 k)] a) No 100 (fun a w=>∃v:Int,(Z→v=whoE L K)∧Fr 27 [(4,.int .i64 v)] a∧Below w0.heap.size w0 w):=by
 refine T3.block (id':=1) (c:=(sel [1,1,0,1,4,4,1,1,0,4] nfP)) (by decide) ?_;refine T3.sq rfl ((nf5 Z w0 vl vk L K hl hb hfind h20 k).noX) ?_;refine T3.sq rfl (S:=fun a w=>(Z→¬scIdx L (geta K k)<0)∧((0≤k∧k<K.length)∧(Z→NoErr (whoAt L K) k))∧(Below w0.heap.size w0 w)∧Fr 27 [(0,vl),(1,vk),(5,.int .i64 k),(6,.string (geta K k)),(10,vk),(11,.int .i64 K.length),(12,.int .i64 k)] a) ?_ (T3.pure fun h8=>?_)
 ·refine T3.tt rfl (C:=fun q=>(((0≤k∧k<K.length)∧(Z→NoErr (whoAt L K) k))∧(Z→q=decide (scIdx L (geta K k)<0)))) (W:=fun w=>Below w0.heap.size w0 w) (by decide) ((nf6 Z w0 vl vk L K hl hb hfind h20 k).noX) ?_ (T3.skip ?_)
  ·skip
   refine T3.sr rfl (t3_seqx (p:=((0≤k∧k<K.length)∧(Z→NoErr (whoAt L K) k))∧(Z→scIdx L (geta K k)<0)) ((nf7 Z w0 vl vk L K hl hb hfind h20 k).noX) ?_) (T3.ret ?_)
   ·rintro a w ⟨hF,⟨hk,hq⟩,hW⟩;exact⟨⟨hk,fun z=>of_decide_eq_true (hq z).symm⟩,hW,hF.tail⟩
   ·rintro a w ⟨⟨hk,hne⟩,hW,hF⟩;refine⟨8,fun z=>?_,hF,hW⟩;have e:whoAt L K k=8:=by have hne:=hne z;unfold whoAt;rw [if_pos hne]
    rw [whoE_hit h20 hk.1.1 hk.1.2 (hk.2 z) (by rw [e];decide),e]
  ·rintro a w ⟨⟨hk,hq⟩,hW,hF⟩;exact⟨fun z=>of_decide_eq_false (hq z).symm,hk,hW,hF⟩
 refine T3.tt rfl (C:=fun q=>(((0≤k∧k<K.length)∧(Z→NoErr (whoAt L K) k))∧q=hasUp K k (geta K k))) (W:=fun w=>Below w0.heap.size w0 w) (by decide) ((nf8 Z w0 vl vk L K hl hb hfind h20 k).noX) ?_ (T3.skip ?_)
 ·skip
  refine T3.sr rfl (t3_seqx (p:=((0≤k∧k<K.length)∧(Z→NoErr (whoAt L K) k))∧(Z→hasUp K k (geta K k)=true)) ((nf9 Z w0 vl vk L K hl hb hfind h20 k).noX) ?_) (T3.ret ?_)
  ·rintro a w ⟨hF,⟨hk,hq⟩,hW⟩;exact⟨⟨hk,fun _=>hq.symm⟩,hW,hF.tail⟩
  ·rintro a w ⟨⟨hk,hne⟩,hW,hF⟩;refine⟨6,fun z=>?_,hF,hW⟩;have e:whoAt L K k=6:=by have hne:=hne z;unfold whoAt;rw [if_neg (h8 z),if_pos hne]
   rw [whoE_hit h20 hk.1.1 hk.1.2 (hk.2 z) (by rw [e];decide),e]
 ·rintro a w ⟨⟨hk,hq⟩,hW,hF⟩;refine⟨⟨hk.1,fun z=>(hk.2 z).step ?_⟩,hW,hF.sub (by simp)⟩;unfold whoAt;rw [if_neg (h8 z),if_neg (by rw [←hq];decide)]
def nfLI (Z:Prop)(w0:World)(vl vk:Value)(L:List ScD)(K:List ByteArray)(hl:ScH w0 vl L)(hb:BnH w0 vk K)(hfind:Hid (∀x w,Below w0.heap.size w0 w→Calls Tryz.prog 69 #[vl,.string x] w fun e w2=>∃i:Int,e=.returned (.int .i64 i)∧(Z→i=scIdx L x)∧Below w.heap.size w w2))(h20:K.length≤20)(k:Int)(a:Act)(w:World):Prop:=(0≤k∧k≤K.length)∧(Z→NoErr (whoAt L K) k)∧(Below w0.heap.size w0 w)∧Fr 27 [(0,vl),(1,vk),(10,vk),(11,.int .i64 K.length),(12,.int .i64 k)] a
theorem nfLt (k:Int):T3 Tryz.prog (fun a w=>nfLI Z w0 vl vk L K hl hb hfind h20 k a w) (sel [1,1,0,1,4,4,0] nfP) (fun a w=>∃q,Fr 27 ((13,.bool q)::[(12,.int .i64 k)]) a∧((q=true↔k<K.length)∧nfLI Z w0 vl vk L K hl hb hfind h20 k a w)) No 9 (fun a w=>∃v:Int,(Z→v=whoE L K)∧Fr 27 [(4,.int .i64 v)] a∧Below w0.heap.size w0 w):=by
 refine T3.leaf ?_;rintro Q JS JX JT K_ hS hK hX hE hT hR a w ⟨hk,hpre,hW,⟨fr,rfl,q0,q1,q10,q11,q12,_⟩⟩;have hln:=hb.n;rw [fr_nfP,fe q0,fe q1,fe q10,fe q11,fe q12];clear q0 q1 q10 q11 q12;conv=>arg 2;whnf
 by_cases hlt:k<K.length
 ·go_wp2_with fail
  refine Met.intro (hS _ _ ?_);exact⟨true,Fr.r rfl rfl,⟨fun _=>hlt,fun _=>rfl⟩,hk,hpre,hW,Fr.r rfl rfl⟩
 ·have hpb:decide (k<(K.length:Int))=false:=by simp;omega
  go_wp2_with fail
  refine Met.intro (hS _ _ ?_);exact⟨false,Fr.r rfl rfl,⟨(fun h=>by cases h),fun h=>absurd h (by omega)⟩,hk,hpre,hW,Fr.r rfl rfl⟩
theorem nfLn (k:Int):T3 Tryz.prog (fun a w=>(0≤k∧k<K.length)∧(Z→NoErr (whoAt L K) (k+1))∧(Below w0.heap.size w0 w)∧Fr 27 [(0,vl),(1,vk),(10,vk),(11,.int .i64 K.length),(12,.int .i64 k)] a) (sel [1,1,0,1,4,4,1,1,1] nfP) (fun a w=>nfLI Z w0 vl vk L K hl hb hfind h20 (k+1) a w) No 9 (fun a w=>∃v:Int,(Z→v=whoE L K)∧Fr 27 [(4,.int .i64 v)] a∧Below w0.heap.size w0 w):=by
 refine T3.leaf ?_;rintro Q JS JX JT K_ hS hK hX hE hT hR a w ⟨hk,hpre,hW,⟨fr,rfl,q0,q1,q10,q11,q12,_⟩⟩;obtain⟨hk0,hk1⟩:=hk;have hln:=hb.n;rw [fr_nfP,fe q0,fe q1,fe q10,fe q11,fe q12];clear q0 q1 q10 q11 q12;conv=>arg 2;whnf
 go_wp2_with fail
 refine Met.intro (hS _ _ ?_);exact⟨⟨by omega,by omega⟩,hpre,hW,Fr.r rfl rfl⟩
theorem nfLloop:T3 Tryz.prog (fun a w=>nfLI Z w0 vl vk L K hl hb hfind h20 0 a w) (sel [1,1,0,1] nfP) (fun a w=>(Z→NoErr (whoAt L K) K.length)∧(Below w0.heap.size w0 w)∧Fr 27 [] a) No 9 (fun a w=>∃v:Int,(Z→v=whoE L K)∧Fr 27 [(4,.int .i64 v)] a∧Below w0.heap.size w0 w) :=
 T3.range (I:=nfLI Z w0 vl vk L K hl hb hfind h20) rfl (by decide) (nfLt Z w0 vl vk L K hl hb hfind h20) (nfLn Z w0 vl vk L K hl hb hfind h20) (fun _ _ _ h=>h.1) (fun k hk=>T3.mono (nfb Z w0 vl vk L K hl hb hfind h20 k) (fun a w ⟨_,hp,hI⟩=>⟨⟨hk,hp⟩,hI⟩) (fun a w ⟨⟨hk,hp⟩,hI⟩=>⟨hk,hp,hI⟩) (fun _ _ q=>q) (fun _ _ q=>q)) (fun a w hI=>by
  obtain⟨hk,hI⟩:=hI;obtain⟨hn,hW,hF⟩:=hI;exact⟨hn,hW,hF.sub (by simp)⟩)
end
theorem nf_all:T3 Tryz.prog (fun a w=>(Below w0.heap.size w0 w)∧Fr 27 [(0,vl),(1,vk)] a) nfP No No 9 (fun a w=>∃v:Int,(Z→v=whoE L K)∧Fr 27 [(4,.int .i64 v)] a∧Below w0.heap.size w0 w):=by
 refine T3.seq (s:=(sel [0] nfP)) (c:=(sel [1] nfP)) (nf0 Z w0 vl vk L K hl hb hfind) ?_;refine T3.sq rfl (S:=fun a w=>(K.length≤20)∧(Below w0.heap.size w0 w)∧Fr 27 [(0,vl),(1,vk)] a) ?_ (T3.pure fun h20=>?_)
 ·refine T3.tt rfl (C:=fun q=>(q=decide ((20:Int)<(K.length:Int)))) (W:=fun w=>Below w0.heap.size w0 w) (by decide) (nf1 Z w0 vl vk L K hl hb hfind) ?_ (T3.skip ?_)
  ·refine T3.sr rfl (t3_seqx (p:=20<K.length) (nf2 Z w0 vl vk L K hl hb hfind) ?_) (T3.ret ?_)
   ·rintro a w ⟨hF,hq,hW⟩;exact⟨by have:=of_decide_eq_true hq.symm;omega,hW,hF.tail⟩
   ·rintro a w ⟨hp,hW,hF⟩;exact⟨2,fun _=>(whoE_big hp).symm,hF,hW⟩
  ·rintro a w ⟨hq,hW,hF⟩;exact⟨by have:=of_decide_eq_false hq.symm;omega,hW,hF⟩
 refine T3.sq rfl (T3.seq (s:=(sel [1,1,0,0] nfP)) (c:=(sel [1,1,0,1] nfP)) (nf3 Z w0 vl vk L K hl hb hfind h20) (nfLloop Z w0 vl vk L K hl hb hfind h20)) (T3.pure fun hn=>?_);refine T3.sr rfl (nf11 Z w0 vl vk L K hl hb hfind) (T3.ret ?_);rintro a w ⟨hW,hF⟩;exact⟨0,fun z=>(whoE_ok h20 (hn z)).symm,hF,hW⟩
theorem nf_any:Calls Tryz.prog 72 #[vl,vk] w0 fun e w'=>∃v:Int,e=.returned (.int .i64 v)∧(Z→v=whoE L K)∧Below w0.heap.size w0 w':=by
 have hall:=nf_all Z w0 vl vk L K hl hb hfind;clear hfind
 go_enter Tryz.func72,Tryz.ntmps72
 refine T3.done (s:=nfP) hall ⟨Below.refl _ _,Fr.r rfl rfl⟩ ?_;rintro a w ⟨v,hv,⟨fr,rfl,q4,_⟩,hw⟩;rw [fr_nfP,fe q4]
 go_ret
 exact⟨v,rfl,hv,hw⟩
end
theorem who_prog (w0:World)(vl vk:Value)(L:List ScD)(K:List ByteArray)(hl:ScH w0 vl L)(hb:BnH w0 vk K):Calls Tryz.prog 72 #[vl,vk] w0 fun e w'=>∃v:Int,e=.returned (.int .i64 v)∧(ScRise L→v=whoE L K)∧Below w0.heap.size w0 w' :=
 nf_any (ScRise L) w0 vl vk L K hl hb (Lib.hid fun x w hW=>find_any w vl L x (hl.below hW))
noncomputable def nrR:Code:=(Tryz.f32.body).getD .skip
theorem fr_nrR (f:Nat→Value):frame 27 f=⟨#[f 0,f 1,f 2,f 3,f 4,f 5,f 6,f 7,f 8,f 9,f 10,f 11,f 12,f 13,f 14,f 15,f 16,f 17,f 18,f 19,f 20,f 21,f 22,f 23,f 24,f 25,f 26],[]⟩:=by rfl
section
variable (Z:Prop)(w0:World)(vl vk:Value)(L:List ScD)(K:List ByteArray)(hl:ScH w0 vl L)(hb:BnH w0 vk K)(hfind:Hid (∀x w,Below w0.heap.size w0 w→Calls Tryz.prog 55 #[vl,.string x] w fun e w2=>∃i:Int,e=.returned (.int .i64 i)∧(Z→i=scIdx L x)∧Below w.heap.size w w2))
include hl hb hfind
theorem nr0:T3 Tryz.prog (fun a w=>(Below w0.heap.size w0 w)∧Fr 27 [(0,vl),(1,vk)] a) (sel [0] nrR) (fun a w=>(Below w0.heap.size w0 w)∧Fr 27 [(0,vl),(1,vk)] a) No 9 (fun a w=>∃v:Int,(Z→v=whoE L K)∧Fr 27 [(4,.int .i64 v)] a∧Below w0.heap.size w0 w):=by
 refine T3.leaf ?_;rintro Q JS JX JT K_ hS hK hX hE hT hR a w ⟨hW,⟨fr,rfl,q0,q1,_⟩⟩;have HW:=Lib.hid hW;have hsn:=hb.n;obtain⟨p1,c1,rfl⟩:=hl.r.shape;obtain⟨p3,c3,rfl⟩:=hb.r.shape;clear hW;rw [fr_nrR,fe q0,fe q1];clear q0 q1;conv=>arg 2;whnf
 go_wp2_with fail
 refine Met.intro (hS _ _ ?_);exact⟨HW.out,Fr.r rfl rfl⟩
theorem nr1:T3 Tryz.prog (fun a w=>(Below w0.heap.size w0 w)∧Fr 27 [(0,vl),(1,vk)] a) (sel [1,0,0] nrR) (fun a w=>∃q,Fr 27 ((9,.bool q)::[(0,vl),(1,vk)]) a∧((q=decide ((20:Int)<(K.length:Int)))∧Below w0.heap.size w0 w)) No 9 (fun a w=>∃v:Int,(Z→v=whoE L K)∧Fr 27 [(4,.int .i64 v)] a∧Below w0.heap.size w0 w):=by
 refine T3.leaf ?_;rintro Q JS JX JT K_ hS hK hX hE hT hR a w ⟨hW,⟨fr,rfl,q0,q1,_⟩⟩;have HW:=Lib.hid hW;have hsn:=hb.n;obtain⟨p1,c1,rfl⟩:=hl.r.shape;obtain⟨p3,c3,rfl⟩:=hb.r.shape;clear hW;rw [fr_nrR,fe q0,fe q1];clear q0 q1;conv=>arg 2;whnf
 go_wp2_with fail
 refine Met.intro (hS _ _ ?_);exact⟨_,Fr.r rfl rfl,rfl,HW.out⟩
theorem nr2:T3 Tryz.prog (fun a w=>(Below w0.heap.size w0 w)∧Fr 27 [(0,vl),(1,vk)] a) (sel [1,0,1,2,0] nrR) (fun a w=>(Below w0.heap.size w0 w)∧Fr 27 [(4,.int .i64 2)] a) No 9 (fun a w=>∃v:Int,(Z→v=whoE L K)∧Fr 27 [(4,.int .i64 v)] a∧Below w0.heap.size w0 w):=by
 refine T3.leaf ?_;rintro Q JS JX JT K_ hS hK hX hE hT hR a w ⟨hW,⟨fr,rfl,q0,q1,_⟩⟩;have HW:=Lib.hid hW;have hsn:=hb.n;obtain⟨p1,c1,rfl⟩:=hl.r.shape;obtain⟨p3,c3,rfl⟩:=hb.r.shape;clear hW;rw [fr_nrR,fe q0,fe q1];clear q0 q1;conv=>arg 2;whnf
 go_wp2_with fail
 refine Met.intro (hS _ _ ?_);exact⟨HW.out,Fr.of _ rfl ⟨rfl,trivial⟩⟩
theorem nr3 (h20:K.length≤20):T3 Tryz.prog (fun a w=>(Below w0.heap.size w0 w)∧Fr 27 [(0,vl),(1,vk)] a) (sel [1,1,0,0] nrR) (fun a w=>(0≤(0:Int)∧(0:Int)≤K.length)∧(Z→NoErr (whoAt L K) 0)∧(Below w0.heap.size w0 w)∧Fr 27 [(0,vl),(1,vk),(10,vk),(11,.int .i64 K.length),(12,.int .i64 0)] a) No 9 (fun a w=>∃v:Int,(Z→v=whoE L K)∧Fr 27 [(4,.int .i64 v)] a∧Below w0.heap.size w0 w):=by
 refine T3.leaf ?_;rintro Q JS JX JT K_ hS hK hX hE hT hR a w ⟨hW,⟨fr,rfl,q0,q1,_⟩⟩;have HW:=Lib.hid hW;have hsn:=hb.n;obtain⟨p1,c1,rfl⟩:=hl.r.shape;obtain⟨p3,c3,rfl⟩:=hb.r.shape;clear hW;rw [fr_nrR,fe q0,fe q1];clear q0 q1;conv=>arg 2;whnf
 go_wp2_with fail
 refine Met.intro (hS _ _ ?_);exact⟨⟨by omega,by omega⟩,fun _=>NoErr.zero _,HW.out,Fr.r rfl rfl⟩
section
variable (h20:K.length≤20)(k:Int)
include h20 k
theorem nr5:T3 Tryz.prog (fun a w=>((0≤k∧k<K.length)∧(Z→NoErr (whoAt L K) k))∧(Below w0.heap.size w0 w)∧Fr 27 [(0,vl),(1,vk),(10,vk),(11,.int .i64 K.length),(12,.int .i64 k)] a) (sel [1,1,0,1,4,4,1,1,0,4,0] nrR) (fun a w=>((0≤k∧k<K.length)∧(Z→NoErr (whoAt L K) k))∧(Below w0.heap.size w0 w)∧Fr 27 [(0,vl),(1,vk),(5,.int .i64 k),(6,.string (geta K k)),(10,vk),(11,.int .i64 K.length),(12,.int .i64 k)] a) No 9 (fun a w=>∃v:Int,(Z→v=whoE L K)∧Fr 27 [(4,.int .i64 v)] a∧Below w0.heap.size w0 w):=by
 refine T3.leaf ?_;rintro Q JS JX JT K_ hS hK hX hE hT hR a w ⟨hpre,hW,⟨fr,rfl,q0,q1,q10,q11,q12,_⟩⟩;have hpp:=Lib.hid hpre;obtain⟨⟨hk0,hk1⟩,_⟩:=hpre;have hsn:=hb.n;have hHW:=Lib.hid hW;obtain⟨p1,c1,rfl⟩:=hl.r.shape;obtain⟨_,hcs⟩:=(hb.below hW).r.els encSt_length (by decide);rcases hcs with ⟨rfl,h0⟩|⟨bz,off,cap,rfl,_,hbz,hnc,hcm,hcell⟩
 ·omega
 have t0:=hcell k hk0 hk1 0 _ rfl;rw [Nat.mul_one,Nat.add_zero]at t0;clear hcell hW hl hb;generalize geta K k=x at *;rw [fr_nrR,fe q0,fe q1,fe q10,fe q11,fe q12];clear q0 q1 q10 q11 q12;conv=>arg 2;whnf
 go_wp2_with fail
 refine Met.intro (hS _ _ ?_);exact⟨hpp.out,hHW.out,Fr.r rfl rfl⟩
theorem nr6:T3 Tryz.prog (fun a w=>((0≤k∧k<K.length)∧(Z→NoErr (whoAt L K) k))∧(Below w0.heap.size w0 w)∧Fr 27 [(0,vl),(1,vk),(5,.int .i64 k),(6,.string (geta K k)),(10,vk),(11,.int .i64 K.length),(12,.int .i64 k)] a) (sel [1,1,0,1,4,4,1,1,0,4,1,0,0] nrR) (fun a w=>∃q,Fr 27 ((20,.bool q)::[(0,vl),(1,vk),(5,.int .i64 k),(6,.string (geta K k)),(10,vk),(11,.int .i64 K.length),(12,.int .i64 k)]) a∧((((0≤k∧k<K.length)∧(Z→NoErr (whoAt L K) k))∧(Z→q=decide (scIdx L (geta K k)<0)))∧Below w0.heap.size w0 w)) No 9 (fun a w=>∃v:Int,(Z→v=whoE L K)∧Fr 27 [(4,.int .i64 v)] a∧Below w0.heap.size w0 w):=by
 refine T3.leaf ?_;rintro Q JS JX JT K_ hS hK hX hE hT hR a w ⟨hpre,hW,⟨fr,rfl,q0,q1,q5,q6,q10,q11,q12,_⟩⟩;have hpp:=Lib.hid hpre;obtain⟨⟨hk0,hk1⟩,_⟩:=hpre;have hsn:=hb.n;have HW:=Lib.hid hW;have HC:=Lib.hid (hfind.out (geta K k) w hW);obtain⟨p1,c1,rfl⟩:=hl.r.shape;obtain⟨p3,c3,rfl⟩:=hb.r.shape;clear hl hb hW hfind;generalize hxx:geta K k=x at *;rw [fr_nrR,fe q0,fe q1,fe q5,fe q6,fe q10,fe q11,fe q12];clear q0 q1 q5 q6 q10 q11 q12;conv=>arg 2;whnf
 go_wp2_with fail
 refine HC.out.mono ?_;rintro e w1 ⟨i,rfl,hi,hb1⟩;have HR:=Lib.hid (HW.out.trans (hb1.mono HW.out.size));have HI:=Lib.hid (fun z=>congrArg (fun j:Int=>decide (j<0)) (hi z));clear hb1 hi;go_wp2_with fail
 refine Met.intro (hS _ _ ?_);exact⟨_,Fr.r rfl rfl,⟨hpp.out,HI.out⟩,HR.out⟩
theorem nr7:T3 Tryz.prog (fun a w=>(Below w0.heap.size w0 w)∧Fr 27 [(0,vl),(1,vk),(5,.int .i64 k),(6,.string (geta K k)),(10,vk),(11,.int .i64 K.length),(12,.int .i64 k)] a) (sel [1,1,0,1,4,4,1,1,0,4,1,0,1,2,0] nrR) (fun a w=>(Below w0.heap.size w0 w)∧Fr 27 [(4,.int .i64 8)] a) No 9 (fun a w=>∃v:Int,(Z→v=whoE L K)∧Fr 27 [(4,.int .i64 v)] a∧Below w0.heap.size w0 w):=by
 refine T3.leaf ?_;rintro Q JS JX JT K_ hS hK hX hE hT hR a w ⟨hW,⟨fr,rfl,q0,q1,q5,q6,q10,q11,q12,_⟩⟩;have HW:=Lib.hid hW;clear hW;obtain⟨p1,c1,rfl⟩:=hl.r.shape;obtain⟨p3,c3,rfl⟩:=hb.r.shape;generalize geta K k=x at *;rw [fr_nrR,fe q0,fe q1,fe q5,fe q6,fe q10,fe q11,fe q12];clear q0 q1 q5 q6 q10 q11 q12;conv=>arg 2;whnf
 go_wp2_with fail
 refine Met.intro (hS _ _ ?_);exact⟨HW.out,Fr.of _ rfl ⟨rfl,trivial⟩⟩
theorem nr8:T3 Tryz.prog (fun a w=>((0≤k∧k<K.length)∧(Z→NoErr (whoAt L K) k))∧(Below w0.heap.size w0 w)∧Fr 27 [(0,vl),(1,vk),(5,.int .i64 k),(6,.string (geta K k)),(10,vk),(11,.int .i64 K.length),(12,.int .i64 k)] a) (sel [1,1,0,1,4,4,1,1,0,4,1,1,0] nrR) (fun a w=>∃q,Fr 27 ((25,.bool q)::[(0,vl),(1,vk),(5,.int .i64 k),(6,.string (geta K k)),(10,vk),(11,.int .i64 K.length),(12,.int .i64 k)]) a∧((((0≤k∧k<K.length)∧(Z→NoErr (whoAt L K) k))∧q=hasUp K k (geta K k))∧Below w0.heap.size w0 w)) No 9 (fun a w=>∃v:Int,(Z→v=whoE L K)∧Fr 27 [(4,.int .i64 v)] a∧Below w0.heap.size w0 w):=by
 refine T3.leaf ?_;rintro Q JS JX JT K_ hS hK hX hE hT hR a w ⟨hpre,hW,⟨fr,rfl,q0,q1,q5,q6,q10,q11,q12,_⟩⟩;have hpp:=Lib.hid hpre;obtain⟨⟨hk0,hk1⟩,_⟩:=hpre;have hsn:=hb.n;have HW:=Lib.hid hW;have hR:=(hb.below hW).r;rcases hR.2 with ⟨hv,h0⟩|⟨bz,off,cap,hv,_,hbz,hnc,hcm,hcell⟩
 ·omega
 subst hv;simp only [maxLen]at hcm;have hbq:(0:Int)≤k∧k≤K.length∧(K.length:Int)≤cap:=by omega
 have hkc:k≤(cap:Int):=by omega
 have hE:hasS (K.take k.toNat) (geta K k)=hasUp K k (geta K k):=rfl;have HC:=Lib.hid (contains_str _ _ (K.take k.toNat) (geta K k) 0 w (Row.firstN encSt_length hR hk0 (by omega)));rw [hE]at HC;obtain⟨p1,c1,rfl⟩:=hl.r.shape;clear hcell hR hl hb hW hE hfind;generalize hasUp K k (geta K k)=q at *;generalize geta K k=x at *;rw [fr_nrR,fe q0,fe q1,fe q5,fe q6,fe q10,fe q11,fe q12];clear q0 q1 q5 q6 q10 q11 q12;conv=>arg 2;whnf
 go_wp2_with fail
 refine HC.out.mono ?_;rintro e w1 ⟨rfl,rfl⟩;go_wp2_with fail
 have hpre:=hpp.out;refine Met.intro (hS _ _ ?_);exact⟨_,Fr.r rfl rfl,⟨hpre,rfl⟩,HW.out⟩
theorem nr9:T3 Tryz.prog (fun a w=>(Below w0.heap.size w0 w)∧Fr 27 [(0,vl),(1,vk),(5,.int .i64 k),(6,.string (geta K k)),(10,vk),(11,.int .i64 K.length),(12,.int .i64 k)] a) (sel [1,1,0,1,4,4,1,1,0,4,1,1,1,2,0] nrR) (fun a w=>(Below w0.heap.size w0 w)∧Fr 27 [(4,.int .i64 6)] a) No 9 (fun a w=>∃v:Int,(Z→v=whoE L K)∧Fr 27 [(4,.int .i64 v)] a∧Below w0.heap.size w0 w):=by
 refine T3.leaf ?_;rintro Q JS JX JT K_ hS hK hX hE hT hR a w ⟨hW,⟨fr,rfl,q0,q1,q5,q6,q10,q11,q12,_⟩⟩;have HW:=Lib.hid hW;clear hW;obtain⟨p1,c1,rfl⟩:=hl.r.shape;obtain⟨p3,c3,rfl⟩:=hb.r.shape;generalize geta K k=x at *;rw [fr_nrR,fe q0,fe q1,fe q5,fe q6,fe q10,fe q11,fe q12];clear q0 q1 q5 q6 q10 q11 q12;conv=>arg 2;whnf
 go_wp2_with fail
 refine Met.intro (hS _ _ ?_);exact⟨HW.out,Fr.of _ rfl ⟨rfl,trivial⟩⟩
end
theorem nr11:T3 Tryz.prog (fun a w=>(Below w0.heap.size w0 w)∧Fr 27 [] a) (sel [1,1,1,0] nrR) (fun a w=>(Below w0.heap.size w0 w)∧Fr 27 [(4,.int .i64 0)] a) No 9 (fun a w=>∃v:Int,(Z→v=whoE L K)∧Fr 27 [(4,.int .i64 v)] a∧Below w0.heap.size w0 w):=by
 refine T3.leaf ?_;rintro Q JS JX JT K_ hS hK hX hE hT hR a w ⟨hW,⟨fr,rfl,_⟩⟩;have HW:=Lib.hid hW;clear hW;rw [fr_nrR];conv=>arg 2;whnf
 go_wp2_with fail
 refine Met.intro (hS _ _ ?_);exact⟨HW.out,Fr.of _ rfl ⟨rfl,trivial⟩⟩
section
variable (h20:K.length≤20)
include h20
theorem nrb (k:Int):T3 Tryz.prog (fun a w=>((0≤k∧k<K.length)∧(Z→NoErr (whoAt L K) k))∧(Below w0.heap.size w0 w)∧Fr 27 [(0,vl),(1,vk),(10,vk),(11,.int .i64 K.length),(12,.int .i64 k)] a) (sel [1,1,0,1,4,4,1,1,0] nrR) (fun a w=>((0≤k∧k<K.length)∧(Z→NoErr (whoAt L K) (k+1)))∧(Below w0.heap.size w0 w)∧Fr 27 [(0,vl),(1,vk),(10,vk),(11,.int .i64 K.length),(12,.int .i64 k)] a) No 100 (fun a w=>∃v:Int,(Z→v=whoE L K)∧Fr 27 [(4,.int .i64 v)] a∧Below w0.heap.size w0 w):=by
 refine T3.block (id':=1) (c:=(sel [1,1,0,1,4,4,1,1,0,4] nrR)) (by decide) ?_;refine T3.sq rfl ((nr5 Z w0 vl vk L K hl hb hfind h20 k).noX) ?_;refine T3.sq rfl (S:=fun a w=>(Z→¬scIdx L (geta K k)<0)∧((0≤k∧k<K.length)∧(Z→NoErr (whoAt L K) k))∧(Below w0.heap.size w0 w)∧Fr 27 [(0,vl),(1,vk),(5,.int .i64 k),(6,.string (geta K k)),(10,vk),(11,.int .i64 K.length),(12,.int .i64 k)] a) ?_ (T3.pure fun h8=>?_)
 ·refine T3.tt rfl (C:=fun q=>(((0≤k∧k<K.length)∧(Z→NoErr (whoAt L K) k))∧(Z→q=decide (scIdx L (geta K k)<0)))) (W:=fun w=>Below w0.heap.size w0 w) (by decide) ((nr6 Z w0 vl vk L K hl hb hfind h20 k).noX) ?_ (T3.skip ?_)
  ·skip
   refine T3.sr rfl (t3_seqx (p:=((0≤k∧k<K.length)∧(Z→NoErr (whoAt L K) k))∧(Z→scIdx L (geta K k)<0)) ((nr7 Z w0 vl vk L K hl hb hfind h20 k).noX) ?_) (T3.ret ?_)
   ·rintro a w ⟨hF,⟨hk,hq⟩,hW⟩;exact⟨⟨hk,fun z=>of_decide_eq_true (hq z).symm⟩,hW,hF.tail⟩
   ·rintro a w ⟨⟨hk,hne⟩,hW,hF⟩;refine⟨8,fun z=>?_,hF,hW⟩;have e:whoAt L K k=8:=by have hne:=hne z;unfold whoAt;rw [if_pos hne]
    rw [whoE_hit h20 hk.1.1 hk.1.2 (hk.2 z) (by rw [e];decide),e]
  ·rintro a w ⟨⟨hk,hq⟩,hW,hF⟩;exact⟨fun z=>of_decide_eq_false (hq z).symm,hk,hW,hF⟩
 refine T3.tt rfl (C:=fun q=>(((0≤k∧k<K.length)∧(Z→NoErr (whoAt L K) k))∧q=hasUp K k (geta K k))) (W:=fun w=>Below w0.heap.size w0 w) (by decide) ((nr8 Z w0 vl vk L K hl hb hfind h20 k).noX) ?_ (T3.skip ?_)
 ·skip
  refine T3.sr rfl (t3_seqx (p:=((0≤k∧k<K.length)∧(Z→NoErr (whoAt L K) k))∧(Z→hasUp K k (geta K k)=true)) ((nr9 Z w0 vl vk L K hl hb hfind h20 k).noX) ?_) (T3.ret ?_)
  ·rintro a w ⟨hF,⟨hk,hq⟩,hW⟩;exact⟨⟨hk,fun _=>hq.symm⟩,hW,hF.tail⟩
  ·rintro a w ⟨⟨hk,hne⟩,hW,hF⟩;refine⟨6,fun z=>?_,hF,hW⟩;have e:whoAt L K k=6:=by have hne:=hne z;unfold whoAt;rw [if_neg (h8 z),if_pos hne]
   rw [whoE_hit h20 hk.1.1 hk.1.2 (hk.2 z) (by rw [e];decide),e]
 ·rintro a w ⟨⟨hk,hq⟩,hW,hF⟩;refine⟨⟨hk.1,fun z=>(hk.2 z).step ?_⟩,hW,hF.sub (by simp)⟩;unfold whoAt;rw [if_neg (h8 z),if_neg (by rw [←hq];decide)]
def nrLI (Z:Prop)(w0:World)(vl vk:Value)(L:List ScD)(K:List ByteArray)(hl:ScH w0 vl L)(hb:BnH w0 vk K)(hfind:Hid (∀x w,Below w0.heap.size w0 w→Calls Tryz.prog 55 #[vl,.string x] w fun e w2=>∃i:Int,e=.returned (.int .i64 i)∧(Z→i=scIdx L x)∧Below w.heap.size w w2))(h20:K.length≤20)(k:Int)(a:Act)(w:World):Prop:=(0≤k∧k≤K.length)∧(Z→NoErr (whoAt L K) k)∧(Below w0.heap.size w0 w)∧Fr 27 [(0,vl),(1,vk),(10,vk),(11,.int .i64 K.length),(12,.int .i64 k)] a
theorem nrLt (k:Int):T3 Tryz.prog (fun a w=>nrLI Z w0 vl vk L K hl hb hfind h20 k a w) (sel [1,1,0,1,4,4,0] nrR) (fun a w=>∃q,Fr 27 ((13,.bool q)::[(12,.int .i64 k)]) a∧((q=true↔k<K.length)∧nrLI Z w0 vl vk L K hl hb hfind h20 k a w)) No 9 (fun a w=>∃v:Int,(Z→v=whoE L K)∧Fr 27 [(4,.int .i64 v)] a∧Below w0.heap.size w0 w):=by
 refine T3.leaf ?_;rintro Q JS JX JT K_ hS hK hX hE hT hR a w ⟨hk,hpre,hW,⟨fr,rfl,q0,q1,q10,q11,q12,_⟩⟩;have hln:=hb.n;rw [fr_nrR,fe q0,fe q1,fe q10,fe q11,fe q12];clear q0 q1 q10 q11 q12;conv=>arg 2;whnf
 by_cases hlt:k<K.length
 ·go_wp2_with fail
  refine Met.intro (hS _ _ ?_);exact⟨true,Fr.r rfl rfl,⟨fun _=>hlt,fun _=>rfl⟩,hk,hpre,hW,Fr.r rfl rfl⟩
 ·have hpb:decide (k<(K.length:Int))=false:=by simp;omega
  go_wp2_with fail
  refine Met.intro (hS _ _ ?_);exact⟨false,Fr.r rfl rfl,⟨(fun h=>by cases h),fun h=>absurd h (by omega)⟩,hk,hpre,hW,Fr.r rfl rfl⟩
theorem nrLn (k:Int):T3 Tryz.prog (fun a w=>(0≤k∧k<K.length)∧(Z→NoErr (whoAt L K) (k+1))∧(Below w0.heap.size w0 w)∧Fr 27 [(0,vl),(1,vk),(10,vk),(11,.int .i64 K.length),(12,.int .i64 k)] a) (sel [1,1,0,1,4,4,1,1,1] nrR) (fun a w=>nrLI Z w0 vl vk L K hl hb hfind h20 (k+1) a w) No 9 (fun a w=>∃v:Int,(Z→v=whoE L K)∧Fr 27 [(4,.int .i64 v)] a∧Below w0.heap.size w0 w):=by
 refine T3.leaf ?_;rintro Q JS JX JT K_ hS hK hX hE hT hR a w ⟨hk,hpre,hW,⟨fr,rfl,q0,q1,q10,q11,q12,_⟩⟩;obtain⟨hk0,hk1⟩:=hk;have hln:=hb.n;rw [fr_nrR,fe q0,fe q1,fe q10,fe q11,fe q12];clear q0 q1 q10 q11 q12;conv=>arg 2;whnf
 go_wp2_with fail
 refine Met.intro (hS _ _ ?_);exact⟨⟨by omega,by omega⟩,hpre,hW,Fr.r rfl rfl⟩
theorem nrLloop:T3 Tryz.prog (fun a w=>nrLI Z w0 vl vk L K hl hb hfind h20 0 a w) (sel [1,1,0,1] nrR) (fun a w=>(Z→NoErr (whoAt L K) K.length)∧(Below w0.heap.size w0 w)∧Fr 27 [] a) No 9 (fun a w=>∃v:Int,(Z→v=whoE L K)∧Fr 27 [(4,.int .i64 v)] a∧Below w0.heap.size w0 w) :=
 T3.range (I:=nrLI Z w0 vl vk L K hl hb hfind h20) rfl (by decide) (nrLt Z w0 vl vk L K hl hb hfind h20) (nrLn Z w0 vl vk L K hl hb hfind h20) (fun _ _ _ h=>h.1) (fun k hk=>T3.mono (nrb Z w0 vl vk L K hl hb hfind h20 k) (fun a w ⟨_,hp,hI⟩=>⟨⟨hk,hp⟩,hI⟩) (fun a w ⟨⟨hk,hp⟩,hI⟩=>⟨hk,hp,hI⟩) (fun _ _ q=>q) (fun _ _ q=>q)) (fun a w hI=>by
  obtain⟨hk,hI⟩:=hI;obtain⟨hn,hW,hF⟩:=hI;exact⟨hn,hW,hF.sub (by simp)⟩)
end
theorem nr_all:T3 Tryz.prog (fun a w=>(Below w0.heap.size w0 w)∧Fr 27 [(0,vl),(1,vk)] a) nrR No No 9 (fun a w=>∃v:Int,(Z→v=whoE L K)∧Fr 27 [(4,.int .i64 v)] a∧Below w0.heap.size w0 w):=by
 refine T3.seq (s:=(sel [0] nrR)) (c:=(sel [1] nrR)) (nr0 Z w0 vl vk L K hl hb hfind) ?_;refine T3.sq rfl (S:=fun a w=>(K.length≤20)∧(Below w0.heap.size w0 w)∧Fr 27 [(0,vl),(1,vk)] a) ?_ (T3.pure fun h20=>?_)
 ·refine T3.tt rfl (C:=fun q=>(q=decide ((20:Int)<(K.length:Int)))) (W:=fun w=>Below w0.heap.size w0 w) (by decide) (nr1 Z w0 vl vk L K hl hb hfind) ?_ (T3.skip ?_)
  ·refine T3.sr rfl (t3_seqx (p:=20<K.length) (nr2 Z w0 vl vk L K hl hb hfind) ?_) (T3.ret ?_)
   ·rintro a w ⟨hF,hq,hW⟩;exact⟨by have:=of_decide_eq_true hq.symm;omega,hW,hF.tail⟩
   ·rintro a w ⟨hp,hW,hF⟩;exact⟨2,fun _=>(whoE_big hp).symm,hF,hW⟩
  ·rintro a w ⟨hq,hW,hF⟩;exact⟨by have:=of_decide_eq_false hq.symm;omega,hW,hF⟩
 refine T3.sq rfl (T3.seq (s:=(sel [1,1,0,0] nrR)) (c:=(sel [1,1,0,1] nrR)) (nr3 Z w0 vl vk L K hl hb hfind h20) (nrLloop Z w0 vl vk L K hl hb hfind h20)) (T3.pure fun hn=>?_);refine T3.sr rfl (nr11 Z w0 vl vk L K hl hb hfind) (T3.ret ?_);rintro a w ⟨hW,hF⟩;exact⟨0,fun z=>(whoE_ok h20 (hn z)).symm,hF,hW⟩
theorem nr_any:Calls Tryz.prog 32 #[vl,vk] w0 fun e w'=>∃v:Int,e=.returned (.int .i64 v)∧(Z→v=whoE L K)∧Below w0.heap.size w0 w':=by
 have hall:=nr_all Z w0 vl vk L K hl hb hfind;clear hfind
 go_enter Tryz.func32,Tryz.ntmps32
 refine T3.done (s:=nrR) hall ⟨Below.refl _ _,Fr.r rfl rfl⟩ ?_;rintro a w ⟨v,hv,⟨fr,rfl,q4,_⟩,hw⟩;rw [fr_nrR,fe q4]
 go_ret
 exact⟨v,rfl,hv,hw⟩
end
theorem who_ref (w0:World)(vl vk:Value)(L:List ScD)(K:List ByteArray)(hl:ScH w0 vl L)(hb:BnH w0 vk K):Calls Tryz.prog 32 #[vl,vk] w0 fun e w'=>e=.returned (.int .i64 (whoE L K))∧Below w0.heap.size w0 w' :=
 (nr_any True w0 vl vk L K hl hb (Lib.hid fun x w hW=>(scorerAt_ref vl L x w (hl.below hW)).mono fun _ _ q=>⟨_,q.1,fun _=>rfl,q.2⟩)).mono fun _ _ ⟨_,he,hv,hw⟩=>⟨by rw [he,hv trivial],hw⟩
end Go.Proofs.YtnmdpphddimfbaaGreat
/-
  Can of package score: whether players can be in slots all at once, one laid behind the other. Conditions: at most 1000 of each; strings of at most 1000 bytes.
-/
namespace Go.Proofs.YtnmdpphddimfbaaGreat
open Go.RowKit Go.Bw
theorem es_new3 (w:World)(x y z:Int)(e:TypeId):EsH (w.alloc (.cells #[.int .i64 x,.int .i64 y,.int .i64 z] e)) (.slice (some ⟨w.heap.size,0,none⟩) 3 3) [x,y,z]:=by
 refine⟨⟨rfl,.inr ⟨_,0,3,rfl,Nat.zero_le _,by simp,Nat.le_refl _,by decide,?_⟩⟩,by simp⟩;intro i u hi
 match i,hi with
 | 0,hi=>cases hi;exact cells_new w _ _ 0 _ rfl
 | 1,hi=>cases hi;exact cells_new w _ _ 1 _ rfl
 | 2,hi=>cases hi;exact cells_new w _ _ 2 _ rfl
theorem fst3 (x y z:Int):fstE [x,y,z]=if x≠0 then x else if y≠0 then y else z:=by
 unfold fstE
 by_cases hx:x=0
 ·rw [if_neg (by simp [hx])]
  by_cases hy:y=0
  ·rw [if_neg (by simp [hy])]
   by_cases hz:z=0
   ·subst hx;subst hy;subst hz;decide
   ·exact firstErr_hit (f:=geti [x,y,z]) (n:=3) (i:=2) (fun j h0 h1=>by
     have:j=0∨j=1:=by omega
     rcases this with rfl|rfl <;> simp [geti,hx,hy]) (by decide) (by decide) (by simp [geti,hz])
  ·rw [if_pos hy];exact firstErr_hit (f:=geti [x,y,z]) (n:=3) (i:=1) (fun j h0 h1=>by
    obtain rfl:j=0:=by omega
    simp [geti,hx]) (by decide) (by decide) (by simp [geti,hy])
 ·rw [if_pos hx];exact firstErr_hit (f:=geti [x,y,z]) (n:=3) (i:=0) (NoErr.zero _) (by decide) (by decide) (by simp [geti,hx])
def canE (S:List SlD)(L:List ScD)(K:List ByteArray):Int:=if ssE S L≠0 then ssE S L else whoE L K
theorem canE_of {S:List SlD}{L:List ScD}{K:List ByteArray}{v:Int}(h:ScRise L→v=whoE L K):fstE [slotsE S,scorersE L,v]=canE S L K:=by
 rw [fst3];unfold canE ssE
 by_cases h1:slotsE S=0
 ·by_cases h2:scorersE L=0
  ·simp [h1,h2];exact h (rise_of h2)
  ·simp [h1,h2]
 ·simp [h1]
def idxL (L:List ScD)(K:List ByteArray):List Nat:=K.map fun x=>(scIdx L x).toNat
/-- Whether all can be laid. -/
def canR (S:List SlD)(L:List ScD)(K:List ByteArray):Bool:=addAll (fitK S L) (idxL L K) (List.replicate S.length (-1))
def canB (S:List SlD)(L:List ScD)(K:List ByteArray):Bool:=decide (canE S L K=0)&&canR S L K
theorem can_rise {S:List SlD}{L:List ScD}{K:List ByteArray}(h:canE S L K=0):ScRise L∧whoE L K=0:=by
 unfold canE at h
 split at h
 ·rename_i h1;exact absurd h h1
 ·rename_i h1
  exact⟨ss_rise (by simpa using h1),h⟩
theorem who_in {L:List ScD}{K:List ByteArray}(h:whoE L K=0){k:Int}(h0:0≤k)(h1:k<K.length):0≤scIdx L (geta K k)∧scIdx L (geta K k)<L.length∧K.length≤20:=by
 unfold whoE at h
 split at h
 ·cases h
 ·rename_i h20
  have:=firstErr_zero h k h0 h1;unfold whoAt at this
  split at this
  ·cases this
  ·rename_i h2
   exact⟨by omega,sc_mem h2,by omega⟩
theorem idx_drop {L:List ScD}{K:List ByteArray}{k:Nat}(hk:k<K.length):idxL L (K.drop k)=(scIdx L (geta K (k:Int))).toNat::idxL L (K.drop (k+1)):=by
 unfold idxL;rw [List.drop_eq_getElem_cons hk,List.map_cons,geta_eq K (k:Int) (by omega) (by omega)];simp
noncomputable def ncP:Code:=(Tryz.f30.body).getD .skip
theorem fr_ncP (f:Nat→Value):frame 47 f=⟨#[f 0,f 1,f 2,f 3,f 4,f 5,f 6,f 7,f 8,f 9,f 10,f 11,f 12,f 13,f 14,f 15,f 16,f 17,f 18,f 19,f 20,f 21,f 22,f 23,f 24,f 25,f 26,f 27,f 28,f 29,f 30,f 31,f 32,f 33,f 34,f 35,f 36,f 37,f 38,f 39,f 40,f 41,f 42,f 43,f 44,f 45,f 46],[]⟩:=by rfl
section
variable (w0:World)(vs vl vk:Value)(S:List SlD)(L:List ScD)(K:List ByteArray)(hs:SlH w0 vs S)(hl:ScH w0 vl L)(hb:BnH w0 vk K)
include hs hl hb
theorem nc0:T3 Tryz.prog (fun a w=>(Below w0.heap.size w0 w)∧Fr 47 [(0,vs),(1,vl),(2,vk)] a) (sel [0] ncP) (fun a w=>(Below w0.heap.size w0 w)∧Fr 47 [(0,vs),(1,vl),(2,vk)] a) No 9 (fun a w=>Fr 47 [(6,.bool (canB S L K)),(7,.int .i64 (canE S L K))] a∧Below w0.heap.size w0 w):=by
 refine T3.leaf ?_;rintro Q JS JX JT K_ hS_ hK hX hE hT hR a w ⟨hW,⟨fr,rfl,q0,q1,q2,_⟩⟩;have HW:=Lib.hid hW;have hsn:=hs.n;have hkn:=hb.n;obtain⟨p1,c1,rfl⟩:=hs.r.shape;obtain⟨p2,c2,rfl⟩:=hl.r.shape;obtain⟨p3,c3,rfl⟩:=hb.r.shape;clear hW;rw [fr_ncP,fe q0,fe q1,fe q2];clear q0 q1 q2;conv=>arg 2;whnf
 go_wp2_with fail
 refine Met.intro (hS_ _ _ ?_);exact⟨HW.out,Fr.r rfl rfl⟩
theorem nc1:T3 Tryz.prog (fun a w=>(Below w0.heap.size w0 w)∧Fr 47 [(0,vs),(1,vl),(2,vk)] a) (sel [1,0,0] ncP) (fun a w=>(Below w0.heap.size w0 w)∧Fr 47 [(0,vs),(1,vl),(2,vk),(8,.int .i64 (canE S L K))] a) No 9 (fun a w=>Fr 47 [(6,.bool (canB S L K)),(7,.int .i64 (canE S L K))] a∧Below w0.heap.size w0 w):=by
 refine T3.leaf ?_;rintro Q JS JX JT K_ hS_ hK hX hE hT hR a w ⟨hW,⟨fr,rfl,q0,q1,q2,_⟩⟩;have HA:=Lib.hid (slots_prog w vs S (hs.below hW));have HB:=Lib.hid (fun w' (b:Below w.heap.size w w')=>scorers_prog w' vl L ((hl.below hW).below b));have HC:=Lib.hid (fun w' (b:Below w.heap.size w w')=>who_prog w' vl vk L K ((hl.below hW).below b) ((hb.below hW).below b));have HN:=Lib.hid (fun w' x y z=>first_prog2 _ _ [x,y,z] (es_new3 w' x y z 35));have HF:=Lib.hid (fun v (hv:ScRise L→v=whoE L K)=>canE_of (S:=S) hv);have HW:=Lib.hid hW;have hsn:=hs.n;have hkn:=hb.n;obtain⟨p1,c1,rfl⟩:=hs.r.shape;obtain⟨p2,c2,rfl⟩:=hl.r.shape;obtain⟨p3,c3,rfl⟩:=hb.r.shape;clear hW;generalize canE S L K=ff at *;generalize slotsE S=e1 at *;generalize scorersE L=e2 at *;rw [fr_ncP,fe q0,fe q1,fe q2];clear q0 q1 q2;conv=>arg 2;whnf
 go_wp2_with fail
 refine HA.out.mono ?_;rintro e w1 ⟨rfl,hb1⟩;have HB1:=Lib.hid hb1;clear hb1;go_wp2_with fail
 refine(HB.out w1 HB1.out).mono ?_;rintro e w2 ⟨rfl,hb2⟩;have HB2:=Lib.hid (HB1.out.trans (hb2.mono HB1.out.size));clear hb2;go_wp2_with fail
 refine(HC.out w2 HB2.out).mono ?_;rintro e w3 ⟨v,rfl,hv,hb3⟩;have HB3:=Lib.hid (HB2.out.trans (hb3.mono HB2.out.size));have HV:=Lib.hid hv;clear hb3 hv;go_wp2_with fail
 refine(HN.out w3 e1 e2 v).mono ?_;rintro e w4 ⟨rfl,rfl⟩;rw [HF.out v HV.out];have HR:=Lib.hid (HW.out.trans (HB3.out.mono HW.out.size));go_wp2_with fail
 refine Met.intro (hS_ _ _ ?_);exact⟨HR.out.alloc HR.out.size _,Fr.r rfl rfl⟩
theorem nc2:T3 Tryz.prog (fun a w=>(Below w0.heap.size w0 w)∧Fr 47 [(0,vs),(1,vl),(2,vk),(8,.int .i64 (canE S L K))] a) (sel [1,0,1,0] ncP) (fun a w=>∃q,Fr 47 ((23,.bool q)::[(0,vs),(1,vl),(2,vk),(8,.int .i64 (canE S L K))]) a∧((q=(canE S L K != 0))∧Below w0.heap.size w0 w)) No 9 (fun a w=>Fr 47 [(6,.bool (canB S L K)),(7,.int .i64 (canE S L K))] a∧Below w0.heap.size w0 w):=by
 refine T3.leaf ?_;rintro Q JS JX JT K_ hS_ hK hX hE hT hR a w ⟨hW,⟨fr,rfl,q0,q1,q2,q8,_⟩⟩;have HW:=Lib.hid hW;have hsn:=hs.n;have hkn:=hb.n;obtain⟨p1,c1,rfl⟩:=hs.r.shape;obtain⟨p2,c2,rfl⟩:=hl.r.shape;obtain⟨p3,c3,rfl⟩:=hb.r.shape;clear hW;generalize canE S L K=ff at *;generalize hqq:(ff != 0)=qq at *;rw [fr_ncP,fe q0,fe q1,fe q2,fe q8];clear q0 q1 q2 q8;conv=>arg 2;whnf
 go_wp2_with fail
 refine Met.intro (hS_ _ _ ?_);exact⟨_,Fr.r rfl rfl,rfl,HW.out⟩
theorem nc3:T3 Tryz.prog (fun a w=>(Below w0.heap.size w0 w)∧Fr 47 [(0,vs),(1,vl),(2,vk),(8,.int .i64 (canE S L K))] a) (sel [1,0,1,1,2,0] ncP) (fun a w=>(Below w0.heap.size w0 w)∧Fr 47 [(6,.bool false),(7,.int .i64 (canE S L K))] a) No 9 (fun a w=>Fr 47 [(6,.bool (canB S L K)),(7,.int .i64 (canE S L K))] a∧Below w0.heap.size w0 w):=by
 refine T3.leaf ?_;rintro Q JS JX JT K_ hS_ hK hX hE hT hR a w ⟨hW,⟨fr,rfl,q0,q1,q2,q8,_⟩⟩;have HW:=Lib.hid hW;have hsn:=hs.n;have hkn:=hb.n;obtain⟨p1,c1,rfl⟩:=hs.r.shape;obtain⟨p2,c2,rfl⟩:=hl.r.shape;obtain⟨p3,c3,rfl⟩:=hb.r.shape;clear hW;generalize canE S L K=ff at *;rw [fr_ncP,fe q0,fe q1,fe q2,fe q8];clear q0 q1 q2 q8;conv=>arg 2;whnf
 go_wp2_with fail
 refine Met.intro (hS_ _ _ ?_);exact⟨HW.out,Fr.r rfl rfl⟩
theorem nc4:T3 Tryz.prog (fun a w=>(Below w0.heap.size w0 w)∧Fr 47 [(0,vs),(1,vl),(2,vk)] a) (sel [1,1,0] ncP) (fun a w=>∃(A9:Nat),(Below w0.heap.size w0 w∧BoH w A9 vs S vl L)∧Fr 47 [(0,vs),(1,vl),(2,vk),(9,.pointer (some ⟨A9,0,none⟩))] a) No 9 (fun a w=>Fr 47 [(6,.bool (canB S L K)),(7,.int .i64 (canE S L K))] a∧Below w0.heap.size w0 w):=by
 refine T3.leaf ?_;rintro Q JS JX JT K_ hS_ hK hX hE hT hR a w ⟨hW,⟨fr,rfl,q0,q1,q2,_⟩⟩;have hA:=(Below.refl w.heap.size w).alloc (Nat.le_refl _) (.cells #[vs,vl] 88);have HF:=Lib.hid (show Below w0.heap.size w0 (w.alloc (.cells #[vs,vl] 88))∧BoH (w.alloc (.cells #[vs,vl] 88)) w.heap.size vs S vl L from
  ⟨hW.alloc hW.size _,cells_new w #[vs,vl] _ 0 _ rfl,cells_new w #[vs,vl] _ 1 _ rfl,(hs.below hW).below hA,(hl.below hW).below hA⟩)
 clear hA;obtain⟨p1,c1,rfl⟩:=hs.r.shape;obtain⟨p2,c2,rfl⟩:=hl.r.shape;obtain⟨p3,c3,rfl⟩:=hb.r.shape;clear hW hs hl hb;rw [fr_ncP,fe q0,fe q1,fe q2];clear q0 q1 q2;conv=>arg 2;whnf
 go_wp2_with fail
 refine Met.intro (hS_ _ _ ?_);exact⟨_,HF.out,Fr.r rfl rfl⟩
theorem nc5 (A9:Nat):T3 Tryz.prog (fun a w=>(Below w0.heap.size w0 w∧BoH w A9 vs S vl L)∧Fr 47 [(0,vs),(1,vl),(2,vk),(9,.pointer (some ⟨A9,0,none⟩))] a) (sel [1,1,1,0] ncP) (fun a w=>∃(wB:World) (A0 gw:Nat),(Hid (Below w0.heap.size w0 wB∧BoH wB A9 vs S vl L))∧(LzW wB A0 gw S.length L.length (.func (.func 74) #[.pointer (some ⟨A9,0,none⟩)] #[]) (List.replicate S.length (-1)) w)∧Fr 47 [(0,vs),(1,vl),(2,vk),(9,.pointer (some ⟨A9,0,none⟩)),(10,.pointer (some ⟨A0,0,none⟩))] a) No 9 (fun a w=>Fr 47 [(6,.bool (canB S L K)),(7,.int .i64 (canE S L K))] a∧Below w0.heap.size w0 w):=by
 refine T3.leaf ?_;rintro Q JS JX JT K_ hS_ hK hX hE hT hR a w ⟨hW,⟨fr,rfl,q0,q1,q2,q9,_⟩⟩;have HC:=Lib.hid (new_layer 74 #[.pointer (some ⟨A9,0,none⟩)] #[] S.length L.length w (by have:=hs.n;omega));have HW:=Lib.hid hW;have hsn:=hs.n;have hkn:=hb.n;obtain⟨p1,c1,rfl⟩:=hs.r.shape;obtain⟨p2,c2,rfl⟩:=hl.r.shape;obtain⟨p3,c3,rfl⟩:=hb.r.shape;clear hW;generalize S.length=m at *;rw [fr_ncP,fe q0,fe q1,fe q2,fe q9];clear q0 q1 q2 q9;conv=>arg 2;whnf
 go_wp2_with fail
 refine HC.out.mono ?_;rintro e w1 ⟨A0,gw,rfl,hz⟩;have HZ:=Lib.hid hz;clear hz;go_wp2_with fail
 refine Met.intro (hS_ _ _ ?_);exact⟨w,A0,gw,Lib.hid HW.out,HZ.out,Fr.r rfl rfl⟩
end
section
variable (w0:World)(vs vl vk:Value)(S:List SlD)(L:List ScD)(K:List ByteArray)(hs:SlH w0 vs S)(hl:ScH w0 vl L)(hb:BnH w0 vk K)(A9:Nat)(wB:World)(A0 gw:Nat)(hB:Hid (Below w0.heap.size w0 wB∧BoH wB A9 vs S vl L))(hE:Hid (canE S L K=0))
include hs hl hb A0 gw hB hE
theorem nc6:T3 Tryz.prog (fun a w=>(LzW wB A0 gw S.length L.length (.func (.func 74) #[.pointer (some ⟨A9,0,none⟩)] #[]) (List.replicate S.length (-1)) w)∧Fr 47 [(0,vs),(1,vl),(2,vk),(10,.pointer (some ⟨A0,0,none⟩))] a) (sel [1,1,1,1,0,0] ncP) (fun a w=>(0≤(0:Int)∧(0:Int)≤K.length)∧∃(wi:List Int),(addAll (fitK S L) (idxL L (K.drop (0:Int).toNat)) wi=canR S L K)∧(LzW wB A0 gw S.length L.length (.func (.func 74) #[.pointer (some ⟨A9,0,none⟩)] #[]) wi w)∧Fr 47 [(0,vs),(1,vl),(2,vk),(10,.pointer (some ⟨A0,0,none⟩)),(34,vk),(35,.int .i64 K.length),(36,.int .i64 0)] a) No 9 (fun a w=>Fr 47 [(6,.bool (canB S L K)),(7,.int .i64 (canE S L K))] a∧Below w0.heap.size w0 w):=by
 refine T3.leaf ?_;rintro Q JS JX JT K_ hS_ hK hX hE_ hT hR a w ⟨hW,⟨fr,rfl,q0,q1,q2,q10,_⟩⟩;have HW:=Lib.hid hW;have hsn:=hs.n;have hkn:=hb.n;obtain⟨p1,c1,rfl⟩:=hs.r.shape;obtain⟨p2,c2,rfl⟩:=hl.r.shape;obtain⟨p3,c3,rfl⟩:=hb.r.shape;clear hW;rw [fr_ncP,fe q0,fe q1,fe q2,fe q10];clear q0 q1 q2 q10;conv=>arg 2;whnf
 go_wp2_with fail
 refine Met.intro (hS_ _ _ ?_);exact⟨⟨by omega,by omega⟩,_,rfl,HW.out,Fr.r rfl rfl⟩
section
variable (k:Nat)(hk:k<K.length)(wi:List Int)
include hk wi
theorem nc8:T3 Tryz.prog (fun a w=>(LzW wB A0 gw S.length L.length (.func (.func 74) #[.pointer (some ⟨A9,0,none⟩)] #[]) wi w)∧Fr 47 [(0,vs),(1,vl),(2,vk),(10,.pointer (some ⟨A0,0,none⟩)),(34,vk),(35,.int .i64 K.length),(36,.int .i64 (k:Int))] a) (sel [1,1,1,1,0,1,4,4,1,1,0,4,0] ncP) (fun a w=>(LzW wB A0 gw S.length L.length (.func (.func 74) #[.pointer (some ⟨A9,0,none⟩)] #[]) wi w)∧Fr 47 [(0,vs),(1,vl),(2,vk),(10,.pointer (some ⟨A0,0,none⟩)),(12,.string (geta K (k:Int))),(34,vk),(35,.int .i64 K.length),(36,.int .i64 (k:Int))] a) No 9 (fun a w=>Fr 47 [(6,.bool (canB S L K)),(7,.int .i64 (canE S L K))] a∧Below w0.heap.size w0 w):=by
 refine T3.leaf ?_;rintro Q JS JX JT K_ hS_ hK hX hE_ hT hR a w ⟨hW,⟨fr,rfl,q0,q1,q2,q10,q34,q35,q36,_⟩⟩;have hbw:=hB.out.1.trans (hW.bel.mono hB.out.1.size);obtain⟨_,hcs⟩:=(hb.below hbw).r.els encSt_length (by decide);rcases hcs with ⟨rfl,h0⟩|⟨bz,off,cap,rfl,_,hbz,hnc,hcm,hcell⟩
 ·omega
 have t0:=hcell k (by omega) (by omega) 0 _ rfl;rw [Nat.mul_one,Nat.add_zero,Int.toNat_natCast]at t0;have hkn:=hb.n;obtain⟨p1,c1,rfl⟩:=hs.r.shape;obtain⟨p2,c2,rfl⟩:=hl.r.shape;have HW:=Lib.hid hW;clear hcell hW hb hs hl hbw hB;generalize geta K (k:Int)=x at *;rw [fr_ncP,fe q0,fe q1,fe q2,fe q10,fe q34,fe q35,fe q36];clear q0 q1 q2 q10 q34 q35 q36;conv=>arg 2;whnf
 go_wp2_with fail
 refine Met.intro (hS_ _ _ ?_);exact⟨HW.out,Fr.r rfl rfl⟩
theorem nc9:T3 Tryz.prog (fun a w=>(LzW wB A0 gw S.length L.length (.func (.func 74) #[.pointer (some ⟨A9,0,none⟩)] #[]) wi w)∧Fr 47 [(0,vs),(1,vl),(2,vk),(10,.pointer (some ⟨A0,0,none⟩)),(12,.string (geta K (k:Int))),(34,vk),(35,.int .i64 K.length),(36,.int .i64 (k:Int))] a) (sel [1,1,1,1,0,1,4,4,1,1,0,4,1,0] ncP) (fun a w=>∃q,Fr 47 ((45,.bool q)::[(0,vs),(1,vl),(2,vk),(10,.pointer (some ⟨A0,0,none⟩)),(12,.string (geta K (k:Int))),(34,vk),(35,.int .i64 K.length),(36,.int .i64 (k:Int))]) a∧((q=!(addF (fitK S L) (scIdx L (geta K (k:Int))).toNat wi).1)∧LzW wB A0 gw S.length L.length (.func (.func 74) #[.pointer (some ⟨A9,0,none⟩)] #[]) (addF (fitK S L) (scIdx L (geta K (k:Int))).toNat wi).2.2 w)) No 9 (fun a w=>Fr 47 [(6,.bool (canB S L K)),(7,.int .i64 (canE S L K))] a∧Below w0.heap.size w0 w):=by
 refine T3.leaf ?_;rintro Q JS JX JT K_ hS_ hK hX hE_ hT hR a w ⟨hW,⟨fr,rfl,q0,q1,q2,q10,q12,q34,q35,q36,_⟩⟩;obtain⟨hrise,hwho⟩:=can_rise hE.out;obtain⟨hi0,hi1,_⟩:=who_in hwho (k:=(k:Int)) (by omega) (by omega);have hbw:=hB.out.1.trans (hW.bel.mono hB.out.1.size);have HC:=Lib.hid (find_prog w vl L (geta K (k:Int)) (hl.below hbw) hrise);have HD:=Lib.hid (fun w1 (b:Below w.heap.size w w1)=>add_prog (fitK S L) 74 Tryz.call74 #[.pointer (some ⟨A9,0,none⟩)] #[] wB A0 gw S.length L.length (by have:=hs.n;omega) (by have:=hl.n;omega)
  (Lib.hid fun a b w2 ha hb2 hB2=>by
   have e:(#[.pointer (some ⟨A9,0,none⟩)]:Array Value)++((#[Value.int .i64 (a:Int),Value.int .i64 (b:Int)]:Array Value)++#[])=#[.pointer (some ⟨A9,0,none⟩),Value.int .i64 (a:Int),Value.int .i64 (b:Int)]:=by simp
   rw [e];exact(fits_prog A9 vl vs S L a b w2 (hB.out.2.below hB2) ha hb2).mono fun _ _ q=>q) ((scIdx L (geta K (k:Int))).toNat) wi w1 (by omega) (hW.below b))
 rw [show(((scIdx L (geta K (k:Int))).toNat:Nat):Int)=scIdx L (geta K (k:Int))by omega]at HD;obtain⟨p1,c1,rfl⟩:=hs.r.shape;obtain⟨p2,c2,rfl⟩:=hl.r.shape;obtain⟨p3,c3,rfl⟩:=hb.r.shape;clear hW hb hs hl hbw hB hE hrise hwho;generalize addF (fitK S L) ((scIdx L (geta K (k:Int))).toNat) wi=rr at *;generalize scIdx L (geta K (k:Int))=ix at *;generalize (geta K (k:Int))=x at *;rw [fr_ncP,fe q0,fe q1,fe q2,fe q10,fe q12,fe q34,fe q35,fe q36];clear q0 q1 q2 q10 q12 q34 q35 q36;conv=>arg 2;whnf
 go_wp2_with fail
 refine HC.out.mono ?_;rintro e w1 ⟨rfl,hb1⟩;have HB1:=Lib.hid hb1;clear hb1;go_wp2_with fail
 refine(HD.out w1 HB1.out).mono ?_;rintro e w2 ⟨rfl,hz,_⟩;have HZ:=Lib.hid hz;clear hz;go_wp2_with fail
 refine Met.intro (hS_ _ _ ?_);exact⟨_,Fr.r rfl rfl,rfl,HZ.out⟩
theorem nc10:T3 Tryz.prog (fun a w=>(LzW wB A0 gw S.length L.length (.func (.func 74) #[.pointer (some ⟨A9,0,none⟩)] #[]) wi w)∧Fr 47 [(0,vs),(1,vl),(2,vk),(10,.pointer (some ⟨A0,0,none⟩)),(12,.string (geta K (k:Int))),(34,vk),(35,.int .i64 K.length),(36,.int .i64 (k:Int))] a) (sel [1,1,1,1,0,1,4,4,1,1,0,4,1,1,2,0] ncP) (fun a w=>(LzW wB A0 gw S.length L.length (.func (.func 74) #[.pointer (some ⟨A9,0,none⟩)] #[]) wi w)∧Fr 47 [(6,.bool false),(7,.int .i64 0)] a) No 9 (fun a w=>Fr 47 [(6,.bool (canB S L K)),(7,.int .i64 (canE S L K))] a∧Below w0.heap.size w0 w):=by
 refine T3.leaf ?_;rintro Q JS JX JT K_ hS_ hK hX hE_ hT hR a w ⟨hW,⟨fr,rfl,q0,q1,q2,q10,q12,q34,q35,q36,_⟩⟩;have HW:=Lib.hid hW;have hsn:=hs.n;have hkn:=hb.n;obtain⟨p1,c1,rfl⟩:=hs.r.shape;obtain⟨p2,c2,rfl⟩:=hl.r.shape;obtain⟨p3,c3,rfl⟩:=hb.r.shape;clear hW;generalize (geta K (k:Int))=x at *;rw [fr_ncP,fe q0,fe q1,fe q2,fe q10,fe q12,fe q34,fe q35,fe q36];clear q0 q1 q2 q10 q12 q34 q35 q36;conv=>arg 2;whnf
 go_wp2_with fail
 refine Met.intro (hS_ _ _ ?_);exact⟨HW.out,Fr.r rfl rfl⟩
theorem ncB (ha:addAll (fitK S L) (idxL L (K.drop k)) wi=canR S L K):T3 Tryz.prog (fun a w=>(LzW wB A0 gw S.length L.length (.func (.func 74) #[.pointer (some ⟨A9,0,none⟩)] #[]) wi w)∧Fr 47 [(0,vs),(1,vl),(2,vk),(10,.pointer (some ⟨A0,0,none⟩)),(34,vk),(35,.int .i64 K.length),(36,.int .i64 (k:Int))] a) (sel [1,1,1,1,0,1,4,4,1,1,0] ncP) (fun a w=>∃(wi:List Int),(addAll (fitK S L) (idxL L (K.drop (k+1))) wi=canR S L K)∧(LzW wB A0 gw S.length L.length (.func (.func 74) #[.pointer (some ⟨A9,0,none⟩)] #[]) wi w)∧Fr 47 [(0,vs),(1,vl),(2,vk),(10,.pointer (some ⟨A0,0,none⟩)),(34,vk),(35,.int .i64 K.length),(36,.int .i64 (k:Int))] a) No 9 (fun a w=>Fr 47 [(6,.bool (canB S L K)),(7,.int .i64 (canE S L K))] a∧Below w0.heap.size w0 w):=by
 rw [idx_drop hk,addAll]at ha;refine T3.block (id':=1) (c:=(sel [1,1,1,1,0,1,4,4,1,1,0,4] ncP)) (by decide) ?_;refine T3.sq rfl ((nc8 w0 vs vl vk S L K hs hl hb A9 wB A0 gw hB hE k hk wi).noX) ?_;refine T3.tt rfl (C:=fun q=>(q=!(addF (fitK S L) (scIdx L (geta K (k:Int))).toNat wi).1)) (W:=fun w=>LzW wB A0 gw S.length L.length (.func (.func 74) #[.pointer (some ⟨A9,0,none⟩)] #[]) (addF (fitK S L) (scIdx L (geta K (k:Int))).toNat wi).2.2 w) (by decide) ((nc9 w0 vs vl vk S L K hs hl hb A9 wB A0 gw hB hE k hk wi).noX) ?_ (T3.skip ?_)
 ·refine T3.pre (R:=fun a w=>((addF (fitK S L) (scIdx L (geta K (k:Int))).toNat wi).1=false)∧(LzW wB A0 gw S.length L.length (.func (.func 74) #[.pointer (some ⟨A9,0,none⟩)] #[]) (addF (fitK S L) (scIdx L (geta K (k:Int))).toNat wi).2.2 w)∧Fr 47 [(0,vs),(1,vl),(2,vk),(10,.pointer (some ⟨A0,0,none⟩)),(12,.string (geta K (k:Int))),(34,vk),(35,.int .i64 K.length),(36,.int .i64 (k:Int))] a) (T3.pure fun hf=>?_) (fun a w ⟨hF,hq,hW⟩=>⟨by simpa using hq.symm,hW,hF.tail⟩);refine T3.sr rfl ((nc10 w0 vs vl vk S L K hs hl hb A9 wB A0 gw hB hE k hk (addF (fitK S L) (scIdx L (geta K (k:Int))).toNat wi).2.2).noX) (T3.ret ?_);rintro a w ⟨hW,hF⟩;rw [if_neg (by rw [hf];decide)]at ha;refine⟨?_,hB.out.1.trans (hW.bel.mono hB.out.1.size)⟩;unfold canB;rw [hE.out,←ha];exact hF
 ·rintro a w ⟨hq,hW,hF⟩;have hq2:(addF (fitK S L) (scIdx L (geta K (k:Int))).toNat wi).1=true:=by simpa using hq.symm
  rw [if_pos hq2]at ha;exact⟨_,ha,hW,hF.sub (by simp)⟩
end
theorem ncb (k:Int):T3 Tryz.prog (fun a w=>∃(wi:List Int),((0≤k∧k<K.length)∧(addAll (fitK S L) (idxL L (K.drop (k:Int).toNat)) wi=canR S L K))∧(LzW wB A0 gw S.length L.length (.func (.func 74) #[.pointer (some ⟨A9,0,none⟩)] #[]) wi w)∧Fr 47 [(0,vs),(1,vl),(2,vk),(10,.pointer (some ⟨A0,0,none⟩)),(34,vk),(35,.int .i64 K.length),(36,.int .i64 k)] a) (sel [1,1,1,1,0,1,4,4,1,1,0] ncP) (fun a w=>∃(wi:List Int),((0≤k∧k<K.length)∧(addAll (fitK S L) (idxL L (K.drop ((k+1):Int).toNat)) wi=canR S L K))∧(LzW wB A0 gw S.length L.length (.func (.func 74) #[.pointer (some ⟨A9,0,none⟩)] #[]) wi w)∧Fr 47 [(0,vs),(1,vl),(2,vk),(10,.pointer (some ⟨A0,0,none⟩)),(34,vk),(35,.int .i64 K.length),(36,.int .i64 k)] a) No 9 (fun a w=>Fr 47 [(6,.bool (canB S L K)),(7,.int .i64 (canE S L K))] a∧Below w0.heap.size w0 w):=by
 refine T3.ex fun wi=>T3.pure fun hh=>?_
 obtain⟨hh,hI⟩:=hh;obtain⟨kn,rfl⟩:=Int.eq_ofNat_of_zero_le hh.1;rw [Int.toNat_natCast]at hI;refine T3.mono (ncB w0 vs vl vk S L K hs hl hb A9 wB A0 gw hB hE kn (by omega) wi hI) (fun _ _ q=>q) ?_ (fun _ _ q=>q) (fun _ _ q=>q);rintro a w ⟨wi2,hI2,hW,hF⟩;refine⟨wi2,⟨hh,?_⟩,hW,hF⟩;rw [show((kn:Int)+1).toNat=kn+1 by omega];exact hI2
def ncAI (w0:World)(vs vl vk:Value)(S:List SlD)(L:List ScD)(K:List ByteArray)(hs:SlH w0 vs S)(hl:ScH w0 vl L)(hb:BnH w0 vk K)(A9:Nat)(wB:World)(A0 gw:Nat)(hB:Hid (Below w0.heap.size w0 wB∧BoH wB A9 vs S vl L))(hE:Hid (canE S L K=0))(k:Int)(a:Act)(w:World):Prop:=(0≤k∧k≤K.length)∧∃(wi:List Int),(addAll (fitK S L) (idxL L (K.drop (k:Int).toNat)) wi=canR S L K)∧(LzW wB A0 gw S.length L.length (.func (.func 74) #[.pointer (some ⟨A9,0,none⟩)] #[]) wi w)∧Fr 47 [(0,vs),(1,vl),(2,vk),(10,.pointer (some ⟨A0,0,none⟩)),(34,vk),(35,.int .i64 K.length),(36,.int .i64 k)] a
theorem ncAt (k:Int):T3 Tryz.prog (fun a w=>ncAI w0 vs vl vk S L K hs hl hb A9 wB A0 gw hB hE k a w) (sel [1,1,1,1,0,1,4,4,0] ncP) (fun a w=>∃q,Fr 47 ((37,.bool q)::[(36,.int .i64 k)]) a∧((q=true↔k<K.length)∧ncAI w0 vs vl vk S L K hs hl hb A9 wB A0 gw hB hE k a w)) No 9 (fun a w=>Fr 47 [(6,.bool (canB S L K)),(7,.int .i64 (canE S L K))] a∧Below w0.heap.size w0 w):=by
 refine T3.leaf ?_;rintro Q JS JX JT K_ hS_ hK hX hE_ hT hR a w ⟨hk,wi,hpre,hW,⟨fr,rfl,q0,q1,q2,q10,q34,q35,q36,_⟩⟩;have hkn:=hb.n;rw [fr_ncP,fe q0,fe q1,fe q2,fe q10,fe q34,fe q35,fe q36];clear q0 q1 q2 q10 q34 q35 q36;conv=>arg 2;whnf
 by_cases hlt:k<K.length
 ·go_wp2_with fail
  refine Met.intro (hS_ _ _ ?_);exact⟨true,Fr.r rfl rfl,⟨fun _=>hlt,fun _=>rfl⟩,hk,wi,hpre,hW,Fr.r rfl rfl⟩
 ·have hpb:decide (k<(K.length:Int))=false:=by simp;omega
  go_wp2_with fail
  refine Met.intro (hS_ _ _ ?_);exact⟨false,Fr.r rfl rfl,⟨(fun h=>by cases h),fun h=>absurd h (by omega)⟩,hk,wi,hpre,hW,Fr.r rfl rfl⟩
theorem ncAn (k:Int):T3 Tryz.prog (fun a w=>(0≤k∧k<K.length)∧∃(wi:List Int),(addAll (fitK S L) (idxL L (K.drop ((k+1):Int).toNat)) wi=canR S L K)∧(LzW wB A0 gw S.length L.length (.func (.func 74) #[.pointer (some ⟨A9,0,none⟩)] #[]) wi w)∧Fr 47 [(0,vs),(1,vl),(2,vk),(10,.pointer (some ⟨A0,0,none⟩)),(34,vk),(35,.int .i64 K.length),(36,.int .i64 k)] a) (sel [1,1,1,1,0,1,4,4,1,1,1] ncP) (fun a w=>ncAI w0 vs vl vk S L K hs hl hb A9 wB A0 gw hB hE (k+1) a w) No 9 (fun a w=>Fr 47 [(6,.bool (canB S L K)),(7,.int .i64 (canE S L K))] a∧Below w0.heap.size w0 w):=by
 refine T3.leaf ?_;rintro Q JS JX JT K_ hS_ hK hX hE_ hT hR a w ⟨hk,wi,hpre,hW,⟨fr,rfl,q0,q1,q2,q10,q34,q35,q36,_⟩⟩;obtain⟨hk0,hk1⟩:=hk;have hkn:=hb.n;rw [fr_ncP,fe q0,fe q1,fe q2,fe q10,fe q34,fe q35,fe q36];clear q0 q1 q2 q10 q34 q35 q36;conv=>arg 2;whnf
 go_wp2_with fail
 refine Met.intro (hS_ _ _ ?_);exact⟨⟨by omega,by omega⟩,wi,hpre,hW,Fr.r rfl rfl⟩
theorem ncAloop:T3 Tryz.prog (fun a w=>ncAI w0 vs vl vk S L K hs hl hb A9 wB A0 gw hB hE 0 a w) (sel [1,1,1,1,0,1] ncP) (fun a w=>(canR S L K=true)∧(Below w0.heap.size w0 w)∧Fr 47 [] a) No 9 (fun a w=>Fr 47 [(6,.bool (canB S L K)),(7,.int .i64 (canE S L K))] a∧Below w0.heap.size w0 w) :=
 T3.range (I:=ncAI w0 vs vl vk S L K hs hl hb A9 wB A0 gw hB hE) rfl (by decide) (ncAt w0 vs vl vk S L K hs hl hb A9 wB A0 gw hB hE) (ncAn w0 vs vl vk S L K hs hl hb A9 wB A0 gw hB hE) (fun _ _ _ h=>h.1) (fun k hk=>T3.mono (ncb w0 vs vl vk S L K hs hl hb A9 wB A0 gw hB hE k) (fun a w ⟨_,wi,hp,hI⟩=>⟨wi,⟨hk,hp⟩,hI⟩) (fun a w ⟨wi,⟨hk,hp⟩,hI⟩=>⟨hk,wi,hp,hI⟩) (fun _ _ q=>q) (fun _ _ q=>q)) (fun a w hI=>by
  obtain⟨hk,hI⟩:=hI;obtain⟨wi,hI,hW,hF⟩:=hI;rw [Int.toNat_natCast,List.drop_length]at hI;exact⟨hI.symm,hB.out.1.trans (hW.bel.mono hB.out.1.size),hF.sub (by simp)⟩)
end
section
variable (w0:World)(vs vl vk:Value)(S:List SlD)(L:List ScD)(K:List ByteArray)(hs:SlH w0 vs S)(hl:ScH w0 vl L)(hb:BnH w0 vk K)
include hs hl hb
theorem nc12:T3 Tryz.prog (fun a w=>(Below w0.heap.size w0 w)∧Fr 47 [] a) (sel [1,1,1,1,1,0] ncP) (fun a w=>(Below w0.heap.size w0 w)∧Fr 47 [(6,.bool true),(7,.int .i64 0)] a) No 9 (fun a w=>Fr 47 [(6,.bool (canB S L K)),(7,.int .i64 (canE S L K))] a∧Below w0.heap.size w0 w):=by
 refine T3.leaf ?_;rintro Q JS JX JT K_ hS_ hK hX hE_ hT hR a w ⟨hW,⟨fr,rfl,_⟩⟩;have HW:=Lib.hid hW;clear hW;rw [fr_ncP];conv=>arg 2;whnf
 go_wp2_with fail
 refine Met.intro (hS_ _ _ ?_);exact⟨HW.out,Fr.r rfl rfl⟩
theorem nc_all:T3 Tryz.prog (fun a w=>(Below w0.heap.size w0 w)∧Fr 47 [(0,vs),(1,vl),(2,vk)] a) ncP No No 9 (fun a w=>Fr 47 [(6,.bool (canB S L K)),(7,.int .i64 (canE S L K))] a∧Below w0.heap.size w0 w):=by
 refine T3.seq (s:=(sel [0] ncP)) (c:=(sel [1] ncP)) (nc0 w0 vs vl vk S L K hs hl hb) ?_;refine T3.sq rfl (S:=fun a w=>(canE S L K=0)∧(Below w0.heap.size w0 w)∧Fr 47 [(0,vs),(1,vl),(2,vk)] a) ?_ (T3.pure fun hz=>?_)
 ·refine T3.sq rfl (nc1 w0 vs vl vk S L K hs hl hb) ?_;refine T3.tt rfl (C:=fun q=>(q=(canE S L K != 0))) (W:=fun w=>Below w0.heap.size w0 w) (by decide) (nc2 w0 vs vl vk S L K hs hl hb) ?_ (T3.skip ?_)
  ·refine T3.sr rfl (t3_seqx (p:=canE S L K≠0) (nc3 w0 vs vl vk S L K hs hl hb) ?_) (T3.ret ?_)
   ·rintro a w ⟨hF,hq,hW⟩;exact⟨by simpa using hq.symm,hW,hF.tail⟩
   ·rintro a w ⟨hp,hW,hF⟩;refine⟨?_,hW⟩;unfold canB;rw [decide_eq_false hp];exact hF
  ·rintro a w ⟨hq,hW,hF⟩;exact⟨by simpa using hq.symm,hW,hF.sub (by simp)⟩
 refine T3.sq rfl (nc4 w0 vs vl vk S L K hs hl hb) ?_;refine T3.ex fun A9=>?_
 refine T3.sq rfl (nc5 w0 vs vl vk S L K hs hl hb A9) ?_;refine T3.ex fun wB=>T3.ex fun A0=>T3.ex fun gw=>T3.pure fun hB=>?_
 refine T3.sq rfl (T3.seq (s:=(sel [1,1,1,1,0,0] ncP)) (c:=(sel [1,1,1,1,0,1] ncP)) ((nc6 w0 vs vl vk S L K hs hl hb A9 wB A0 gw hB (Lib.hid hz)).pre fun a w q=>⟨q.1,q.2.sub (by simp)⟩) (ncAloop w0 vs vl vk S L K hs hl hb A9 wB A0 gw hB (Lib.hid hz))) ?_;refine T3.pure fun hc=>?_
 refine T3.sr rfl (nc12 w0 vs vl vk S L K hs hl hb) (T3.ret ?_);rintro a w ⟨hW,hF⟩;refine⟨?_,hW⟩;unfold canB;rw [hz,hc];exact hF
/-- Can of the program. -/
theorem can_prog:Calls Tryz.prog 30 #[vs,vl,vk] w0 fun e w'=>e=.returned (.tuple #[.bool (canB S L K),.int .i64 (canE S L K)])∧Below w0.heap.size w0 w':=by
 have hall:=nc_all w0 vs vl vk S L K hs hl hb
 go_enter Tryz.func30,Tryz.ntmps30
 refine T3.done (s:=ncP) hall ⟨Below.refl _ _,Fr.r rfl rfl⟩ ?_;rintro a w ⟨⟨fr,rfl,q6,q7,_⟩,hw⟩;rw [fr_ncP,fe q6,fe q7];generalize canB S L K=cb at *;generalize canE S L K=ce at *
 go_ret2
 exact⟨rfl,hw⟩
end
end Go.Proofs.YtnmdpphddimfbaaGreat
/-
  Sets of numbers in a map that the call makes: made, added to, ranged over, counted. Conditions: numbers below 2^62.
-/
namespace Go.Proofs.YtnmdpphddimfbaaGreat
open Go.RowKit Go.Bw
theorem und_i64:Tryz.prog.underlying 3=some (.int .i64):=by kernel_rfl
theorem und_boo:Tryz.prog.underlying 4=some .bool:=by kernel_rfl
theorem und_mib:Tryz.prog.underlying 120=some (.map 3 4):=by kernel_rfl
theorem key_i64:Maps.Keyed Tryz.prog 3:=Maps.int_keyed und_i64
/-- How a Boolean reads. -/
noncomputable def bolR:Value→Option (DataW Unit×List MemPlace):=plainElem Tryz.prog 4
theorem bolR_mk (x:Bool):bolR (.bool x)=some (.lit (.bool x),[]):=plainElem_bool und_boo x
theorem bolR_inv (v:Value)(y:DataW Unit×List MemPlace)(h:bolR v=some y):∃c,v=.bool c:=by
 unfold bolR plainElem at h;rw [und_boo]at h;cases v <;> simp at h
 exact⟨_,rfl⟩
/-- The datum has just these keys. -/
def HasM (f:Lit→Bool)(M:Nat→Prop):Prop:=∀kl,f kl=true↔∃m:Nat,M m∧kl=.int .i64 (m:Int)
theorem lit_inj {a b:Nat}(h:(Lit.int .i64 (a:Int))=.int .i64 (b:Int)):a=b:=by
 cases h':h
 simp at h;omega
/-- Block B holds a set of numbers. -/
structure SetW (w:World)(B n:Nat)(M:Nat→Prop):Prop where
 own:∃D,w.ownsMap Tryz.prog 3 bolR B n D∧HasM (Maps.has D) M
/-- And is ranged over by iterator r; what is to come. -/
structure RngW (w:World)(B r n:Nat)(M Lf:Nat→Prop)(cnt:Nat):Prop where
 own:∃D left,w.ranges Tryz.prog 3 bolR B r n D left cnt∧HasM (Maps.has D) M∧HasM left Lf
section
variable {w w':World}{B r n:Nat}{M Lf:Nat→Prop}{cnt:Nat}{row:Option Nat}
theorem SetW.new (w:World):SetW (w.alloc (.map #[] 0)) w.heap.size 0 (fun _=>False) :=
 ⟨_,World.ownsMap_made w _ _ _,fun kl=>⟨(fun h=>by cases h),fun⟨_,h,_⟩=>h.elim⟩⟩
theorem SetW.mono {n':Nat}(h:SetW w B n M)(hn:n≤n'):SetW w B n' M:=by
 obtain⟨D,h1,h2⟩:=h.own;exact⟨D,h1.mono hn,h2⟩
theorem SetW.congr {M':Nat→Prop}(h:SetW w B n M)(e:∀m,M m↔M' m):SetW w B n M':=by
 obtain⟨D,h1,h2⟩:=h.own;refine⟨D,h1,fun kl=>(h2 kl).trans ?_⟩;simp only [e]
section
variable (h:SetW w B n M)
include h
theorem SetW.kept (hg:w.grownBy w' row)(hne:some B≠row):SetW w' B n M:=by
 obtain⟨D,h1,h2⟩:=h.own;exact⟨D,h1.kept hg hne,h2⟩
theorem SetW.below (b:Below w.heap.size w w'):SetW w' B n M:=h.kept (grown_of_below b (row:=none)) (by simp)
theorem SetW.lt:B<w.heap.size:=by
 obtain⟨D,h1,_⟩:=h.own;exact h1.lt
end
section
variable (h:RngW w B r n M Lf cnt)
include h
theorem RngW.kept (hg:w.grownBy w' row)(hb:some B≠row)(hr:some r≠row):RngW w' B r n M Lf cnt:=by
 obtain⟨D,left,h1,h2,h3⟩:=h.own;exact⟨D,left,h1.kept hg hb hr,h2,h3⟩
theorem RngW.below (b:Below w.heap.size w w'):RngW w' B r n M Lf cnt:=h.kept (grown_of_below b (row:=none)) (by simp) (by simp)
theorem RngW.set:SetW w B n M:=by
 obtain⟨D,left,h1,h2,_⟩:=h.own;exact⟨D,h1.owns,h2⟩
end
theorem has_put {D:DataW Unit}{m:Nat}{d:DataW Unit}(hD:Maps.IsMap D)(h:HasM (Maps.has D) M):HasM (Maps.has (D.put (.int .i64 (m:Int)) d)) (fun x=>M x∨x=m):=by
 intro kl
 by_cases e:kl=.int .i64 (m:Int)
 ·subst e;rw [Maps.has_put_same hD (by trivial)];exact⟨fun _=>⟨m,.inr rfl,rfl⟩,fun _=>rfl⟩
 ·rw [Maps.has_put_other e,h kl];constructor
  ·rintro⟨x,hx,rfl⟩;exact⟨x,.inl hx,rfl⟩
  ·rintro⟨x,hx|rfl,rfl⟩
   ·exact⟨x,hx,rfl⟩
   ·exact absurd rfl e
theorem key_wf {m:Nat}(hm:m<4611686018427387904):keyOf Tryz.prog 3 (.int .i64 (m:Int))=some (.int .i64 (m:Int)):=Maps.keyOf_int_mk und_i64 (WalkArith.wf_i64 (by omega))
/-- A set has somebody, or it is empty. -/
theorem SetW.size {D:DataW Unit}(h:w.ownsMap Tryz.prog 3 bolR B n D)(hM:HasM (Maps.has D) M):0<Maps.size D↔∃m,M m:=by
 obtain⟨es,rfl,_,hk⟩:=h.entries key_i64;rw [Maps.size_eq];constructor
 ·intro h0
  match es,h0,hM,hk with
  | p::es,_,hM,hk =>
   have h1:Maps.has (.map (p::es)) p.1=true:=by
    rw [Maps.has_eq];have hp:=hk p (by simp);have:p.1.sameKey p.1=true:=by
     generalize p.1=q at hp ⊢;cases q <;> simp_all [Lit.sameKey,WideAt.IsKeyLit]
    simp [this]
   obtain⟨m,hm,_⟩:=(hM p.1).1 h1;exact⟨m,hm⟩
 ·rintro⟨m,hm⟩;have h1:=(hM (.int .i64 (m:Int))).2 ⟨m,hm,rfl⟩;rw [Maps.has_eq]at h1;cases es with
  | nil=>cases h1
  | cons p es=>simp
end
section
variable {w:World}{ops:Array Oper}{rest:List Oper}{o:Oper}{a:Act}{Q:Exit→Act→World→Prop}{B r n cnt:Nat}{M Lf:Nat→Prop}
section
variable (hg:o.guard=none)
include hg
/-- A number is put into a set. -/
theorem wp_put_set (m x v:Operand)(hop:o.op=Op.mapUpdate 120 m x v)(B n k:Nat)(b:Bool)(M:Nat→Prop)(hm:a.eval m=.map (some B))(hx:a.eval x=.int .i64 (k:Int))(hv:a.eval v=.bool b)(hk:k<4611686018427387904)(hn:n<1000000000)(h:SetW w B n M)(hK:∀w',SetW w' B (n+1) (fun x=>M x∨x=k)→w.grownBy w' (some B)→wpList Tryz.prog ops Q rest (a.put o.dst undef) w'):wpList Tryz.prog ops Q (o::rest) a w:=by
 obtain⟨D,h1,h2⟩:=h.own;refine wpList_mapUpdate_own w hg m x v _ hop 3 4 key_i64 und_mib bolR B n D hm h1 (by unfold maxLen;omega) _ _ _ hx hv (key_wf hk) _ _ (bolR_mk b) ?_;intro w' h3 g;exact hK w' ⟨_,h3,has_put h1.isMap h2⟩ g
/-- A number of a set that is written out. -/
theorem wp_insert_set (m x v:Operand)(hop:o.op=Op.insert 120 m x v)(B n k:Nat)(b:Bool)(M:Nat→Prop)(hm:a.eval m=.map (some B))(hx:a.eval x=.int .i64 (k:Int))(hv:a.eval v=.bool b)(hk:k<4611686018427387904)(hn:n<1000000000)(h:SetW w B n M)(hK:∀w',SetW w' B (n+1) (fun x=>M x∨x=k)→w.grownBy w' (some B)→wpList Tryz.prog ops Q rest (a.put o.dst undef) w'):wpList Tryz.prog ops Q (o::rest) a w:=by
 obtain⟨D,h1,h2⟩:=h.own;refine wpList_plain hg fun K' hK'=>?_
 obtain⟨w',hrun,r1,r2⟩:=h1.update key_i64 und_mib (by unfold maxLen;omega) (key_wf hk) (bolR_mk b);unfold Oper.wp;simp [execOp,hop,hm,hx,hv,hrun,Result.andThen];exact hK' _ _ (hK w' ⟨_,r1,has_put h1.isMap h2⟩ r2)
/-- A set begins to be ranged over. -/
theorem wp_range_set (m:Operand)(hop:o.op=Op.range 120 m)(B n:Nat)(M:Nat→Prop)(hm:a.eval m=.map (some B))(h:SetW w B n M)(hK:∀w' cnt,cnt≤n→RngW w' B w.heap.size n M M cnt→w.grownBy w' none→w'.heap.size=w.heap.size+1→wpList Tryz.prog ops Q rest (a.put o.dst (.pointer (some ⟨w.heap.size,0,none⟩))) w'):wpList Tryz.prog ops Q (o::rest) a w:=by
 obtain⟨D,h1,h2⟩:=h.own;refine wpList_range_own w hg m _ hop 3 4 key_i64 und_mib bolR B n D hm h1 ?_;intro w' hr g hs;exact hK w' _ h1.size_le ⟨D,_,hr,h2,h2⟩ g hs
/-- The next number, or the end. -/
theorem wp_next_set (it:Operand) (hop:o.op=Op.next it false) (B r n:Nat) (M Lf:Nat→Prop) (cnt:Nat) (hit:a.eval it=.pointer (some ⟨r,0,none⟩)) (h:RngW w B r n M Lf cnt) (hDone:(∀m,¬Lf m)→wpList Tryz.prog ops Q rest (a.put o.dst (.tuple #[.bool false])) w) (hMore:∀(m:Nat) (c:Value) (w':World) (cnt':Nat),Lf m→RngW w' B r n M (fun x=>Lf x∧x≠m) cnt'→cnt'<cnt→w.grownBy w' (some r)→w'.heap.size=w.heap.size →
   (Instr.entry (.pointer (some ⟨r,0,none⟩))).run Tryz.prog w'=.ok (.tuple #[.int .i64 (m:Int),c]) w'→wpList Tryz.prog ops Q rest (a.put o.dst (.tuple #[.bool true,.int .i64 (m:Int),c])) w') :
  wpList Tryz.prog ops Q (o::rest) a w:=by
 obtain⟨D,left,h1,h2,h3⟩:=h.own;refine wpList_next_ranges w hg it hop 3 key_i64 bolR (Value.int .i64) Value.bool (fun key kl hkey=>by obtain⟨x,rfl,_⟩:=Maps.keyOf_int_inv und_i64 hkey;exact⟨x,rfl⟩) bolR_inv B r n D left cnt hit h1 ?_ ?_
 ·intro _ hl;refine hDone fun m hm=>?_
  have:=(h3 (.int .i64 (m:Int))).2 ⟨m,hm,rfl⟩;rw [hl]at this;cases this
 ·intro x c kl y w' cnt' hkey hlk _ _ hrg hlt hgr hs hen;obtain⟨x',ex,rfl,_⟩:=Maps.keyOf_int_inv und_i64 hkey;cases ex
  obtain⟨m,hm,e⟩:=(h3 _).1 hlk;have ex:x=(m:Int):=by
   simp at e;exact e
  subst ex;refine hMore m (.bool c) w' cnt' hm ⟨D,_,hrg,h2,fun z=>?_⟩ hlt hgr hs hen;rw [Bool.and_eq_true,h3 z];constructor
  ·rintro⟨⟨x,hx,rfl⟩,h5⟩;refine⟨x,⟨hx,fun e=>?_⟩,rfl⟩;subst e;simp [Lit.sameKey]at h5
  ·rintro⟨x,⟨hx,hne⟩,rfl⟩;refine⟨⟨x,hx,rfl⟩,?_⟩;rw [Maps.sameKey_ne (fun e=>hne (lit_inj e))];rfl
/-- How many are in a set. -/
theorem wp_len_set (m:Operand)(hop:o.op=Op.call { callee:=Callee.builtin Builtin.len,args:=#[m],argTypes:=#[120] })(B n:Nat)(M:Nat→Prop)(hm:a.eval m=.map (some B))(h:SetW w B n M)(hK:∀c:Nat,(0<c↔∃m,M m)→c≤n→wpList Tryz.prog ops Q rest (a.put o.dst (.int .i64 (c:Int))) w):wpList Tryz.prog ops Q (o::rest) a w:=by
 obtain⟨D,h1,h2⟩:=h.own;refine wpList_len_own w hg m _ hop 3 4 und_mib bolR B n D hm h1 ?_;exact hK _ (SetW.size h1 h2) h1.size_le
end
end
end Go.Proofs.YtnmdpphddimfbaaGreat
