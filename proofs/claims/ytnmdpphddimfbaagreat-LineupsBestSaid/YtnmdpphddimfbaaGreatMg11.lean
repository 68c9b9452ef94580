/-
  Contracts and lemmas towards the statement, of several parts; each part says ahead of it what it holds and under which conditions.
-/
import Derived.Test.YtnmdpphddimfbaaGreatMg10
import Derived.Test.YtnmdpphddimfbaaGreatMg9
import Derived.Laws.EntriesVeiled
set_option maxRecDepth 100000
set_option maxHeartbeats 1000000
set_option linter.unusedSectionVars false
/-
  Best of package score. Conditions: at most 4 slots and 6 scorers.
-/
set_option linter.unusedVariables false
namespace Go.Proofs.YtnmdpphddimfbaaGreat
open Go.RowKit Go.Bw
section
variable {S:List SlD}{L:List ScD}(h:ssE S L=0)
include h
theorem ss_sc:scorersE L=0:=by
 unfold ssE at h
 split at h
 ·rename_i e;exact absurd h e
 ·exact h
theorem ss_sl:slotsE S=0:=by
 unfold ssE at h
 split at h
 ·rename_i e;exact absurd h e
 ·rename_i e;simpa using e
end
def bestSum (S:List SlD)(L:List ScD):Int:=sumK L (bestF S L) ⟨#[]⟩ (bestF S L).length
def bestV (S:List SlD)(L:List ScD):List FlD:=if ssE S L=0 then bestF S L else []
def bestN (S:List SlD)(L:List ScD):Int×Int:=if ssE S L=0 then(ofHn (bestSum S L),ofHd (bestSum S L))else(0,0)
noncomputable def nbP:Code:=(Tryz.f29.body).getD .skip
theorem fr_nbP (f:Nat→Value):frame 29 f=⟨#[f 0,f 1,f 2,f 3,f 4,f 5,f 6,f 7,f 8,f 9,f 10,f 11,f 12,f 13,f 14,f 15,f 16,f 17,f 18,f 19,f 20,f 21,f 22,f 23,f 24,f 25,f 26,f 27,f 28],[]⟩:=by rfl
section
variable (w0:World)(vs vl:Value)(S:List SlD)(L:List ScD)(hs:SlH w0 vs S)(hl:ScH w0 vl L)(hS4:S.length≤4)(hL6:L.length≤6)
include hs hl hS4 hL6
theorem nb0:T3 Tryz.prog (fun a w=>(IsW w0 w)∧Fr 29 [(0,vs),(1,vl)] a) (sel [0] nbP) (fun a w=>(Pz w0 0 0 w)∧Fr 29 [(0,vs),(1,vl),(5,.pointer (some ⟨w0.heap.size,0,none⟩))] a) No 9 No:=by
 refine T3.leaf ?_;rintro Q JS JX JT K_ hS_ hK hX hE hT hR a w ⟨hW,⟨fr,rfl,q0,q1,_⟩⟩;obtain rfl:w=w0:=hW;obtain⟨p1,c1,rfl⟩:=hs.r.shape;obtain⟨p2,c2,rfl⟩:=hl.r.shape;have HP:=Lib.hid (Pz.new w 0 0 34);clear hs hl;rw [fr_nbP,fe q0,fe q1];clear q0 q1;conv=>arg 2;whnf
 go_wp2_with fail
 refine Met.intro (hS_ _ _ ?_);exact⟨HP.out,Fr.r rfl rfl⟩
theorem nb1:T3 Tryz.prog (fun a w=>(Pz w0 0 0 w)∧Fr 29 [(0,vs),(1,vl),(5,.pointer (some ⟨w0.heap.size,0,none⟩))] a) (sel [1,0,0] nbP) (fun a w=>(Pz w0 0 0 w)∧Fr 29 [(0,vs),(1,vl),(5,.pointer (some ⟨w0.heap.size,0,none⟩)),(7,.int .i64 (ssE S L))] a) No 9 No:=by
 refine T3.leaf ?_;rintro Q JS JX JT K_ hS_ hK hX hE hT hR a w ⟨hW,⟨fr,rfl,q0,q1,q5,_⟩⟩;have HA:=Lib.hid (slots_prog w vs S (hs.below hW.bel));have HB:=Lib.hid (fun w' (b:Below w.heap.size w w')=>scorers_prog w' vl L ((hl.below hW.bel).below b));have HN:=Lib.hid (fun w' x y=>first_prog2 _ _ [x,y] (es_new w' x y 35));have HF:=Lib.hid (show fstE [slotsE S,scorersE L]=ssE S L by rw [fst2];rfl);have HW:=Lib.hid hW;have hln:=hl.n;have hsn:=hs.n;obtain⟨p1,c1,rfl⟩:=hs.r.shape;obtain⟨p2,c2,rfl⟩:=hl.r.shape;clear hW hs hl;generalize ssE S L=ff at *;generalize slotsE S=e1 at *;generalize scorersE L=e2 at *;rw [fr_nbP,fe q0,fe q1,fe q5];clear q0 q1 q5;conv=>arg 2;whnf
 go_wp2_with fail
 refine HA.out.mono ?_;rintro e w1 ⟨rfl,hb1⟩;have HB1:=Lib.hid hb1;clear hb1;go_wp2_with fail
 refine(HB.out w1 HB1.out).mono ?_;rintro e w2 ⟨rfl,hb2⟩;have HB2:=Lib.hid (HB1.out.trans (hb2.mono HB1.out.size));clear hb2;go_wp2_with fail
 refine(HN.out w2 e1 e2).mono ?_;rintro e w3 ⟨rfl,rfl⟩;rw [HF.out];have HR:=Lib.hid ((HW.out.below HB2.out).below ((Below.refl w2.heap.size w2).alloc (Nat.le_refl _) (.cells #[.int .i64 e1,.int .i64 e2] 35)));go_wp2_with fail
 refine Met.intro (hS_ _ _ ?_);exact⟨HR.out,Fr.r rfl rfl⟩
theorem nb2:T3 Tryz.prog (fun a w=>(Pz w0 0 0 w)∧Fr 29 [(0,vs),(1,vl),(5,.pointer (some ⟨w0.heap.size,0,none⟩)),(7,.int .i64 (ssE S L))] a) (sel [1,0,1,0] nbP) (fun a w=>∃q,Fr 29 ((16,.bool q)::[(0,vs),(1,vl),(5,.pointer (some ⟨w0.heap.size,0,none⟩)),(7,.int .i64 (ssE S L))]) a∧((q=(ssE S L != 0))∧Pz w0 0 0 w)) No 9 No:=by
 refine T3.leaf ?_;rintro Q JS JX JT K_ hS_ hK hX hE hT hR a w ⟨hW,⟨fr,rfl,q0,q1,q5,q7,_⟩⟩;have HW:=Lib.hid hW;have hln:=hl.n;have hsn:=hs.n;obtain⟨p1,c1,rfl⟩:=hs.r.shape;obtain⟨p2,c2,rfl⟩:=hl.r.shape;clear hW hs hl;generalize ssE S L=ff at *;generalize hqq:(ff != 0)=qq at *;rw [fr_nbP,fe q0,fe q1,fe q5,fe q7];clear q0 q1 q5 q7;conv=>arg 2;whnf
 go_wp2_with fail
 refine Met.intro (hS_ _ _ ?_);exact⟨_,Fr.r rfl rfl,rfl,HW.out⟩
theorem nb3:T3 Tryz.prog (fun a w=>(Pz w0 0 0 w)∧Fr 29 [(0,vs),(1,vl),(5,.pointer (some ⟨w0.heap.size,0,none⟩)),(7,.int .i64 (ssE S L))] a) (sel [1,0,1,1,2,0] nbP) (fun a w=>(Pz w0 0 0 w)∧Fr 29 [(4,.slice none 0 0),(5,.pointer (some ⟨w0.heap.size,0,none⟩)),(6,.int .i64 (ssE S L))] a) No 9 No:=by
 refine T3.leaf ?_;rintro Q JS JX JT K_ hS_ hK hX hE hT hR a w ⟨hW,⟨fr,rfl,q0,q1,q5,q7,_⟩⟩;have HF:=Lib.hid (hW.put 0 0);have r0:=hW.r0;have r1:=hW.r1;have f0:=hW.f0;have f1:=hW.f1;clear hW hs hl;generalize ssE S L=ff at *;rw [fr_nbP,fe q0,fe q1,fe q5,fe q7];clear q0 q1 q5 q7;conv=>arg 2;whnf
 go_wp2_with fail
 refine Met.intro (hS_ _ _ ?_);exact⟨HF.out,Fr.r rfl rfl⟩
theorem nb4 (hz:ssE S L=0):T3 Tryz.prog (fun a w=>(Pz w0 0 0 w)∧Fr 29 [(0,vs),(1,vl),(5,.pointer (some ⟨w0.heap.size,0,none⟩))] a) (sel [1,1,0] nbP) (fun a w=>∃(v8:Value),(Pz w0 0 0 w∧w.ownsRow (w0.heap.size+1) 49 2 v8 (bestF S L).length (cellsOf encFl (bestF S L)))∧Fr 29 [(0,vs),(1,vl),(5,.pointer (some ⟨w0.heap.size,0,none⟩)),(8,v8)] a) No 9 No:=by
 refine T3.leaf ?_;rintro Q JS JX JT K_ hS_ hK hX hE hT hR a w ⟨hW,⟨fr,rfl,q0,q1,q5,_⟩⟩;have hp:=scp_of (ss_sc hz);have hbl:Below w.heap.size w (w.alloc (.cells #[vs,vl] 88)):=(Below.refl _ _).alloc (Nat.le_refl _) _;have hbo:BoH (w.alloc (.cells #[vs,vl] 88)) w.heap.size vs S vl L:=⟨cells_new w _ _ 0 _ rfl,cells_new w _ _ 1 _ rfl,(hs.below hW.bel).below hbl,(hl.below hW.bel).below hbl⟩
 have HB:=Lib.hid (best_prog w.heap.size vl vs S L (w.alloc (.cells #[vs,vl] 88)) hbo hp hS4 hL6);have HW1:=Lib.hid (hW.below hbl);have hsz:w0.heap.size+1≤(w.alloc (.cells #[vs,vl] 88)).heap.size:=by have:=hW.bel.size;simp;omega
 obtain⟨p1,c1,rfl⟩:=hs.r.shape;obtain⟨p2,c2,rfl⟩:=hl.r.shape;clear hW hs hl hp hbl hbo;rw [fr_nbP,fe q0,fe q1,fe q5];clear q0 q1 q5;conv=>arg 2;whnf
 go_wp2_with fail
 refine HB.out.mono ?_;rintro e w1 ⟨v5,rfl,ho,hb⟩;have HF:=Lib.hid (And.intro (HW1.out.below hb) (owns_mono ho hsz));obtain⟨p5,c5,rfl⟩:=(Row.of_owns ho).shape;clear hb ho;go_wp2_with fail
 refine Met.intro (hS_ _ _ ?_);exact⟨_,HF.out,Fr.r rfl rfl⟩
theorem nb5 (hz:ssE S L=0)(v8:Value):T3 Tryz.prog (fun a w=>(Pz w0 0 0 w∧w.ownsRow (w0.heap.size+1) 49 2 v8 (bestF S L).length (cellsOf encFl (bestF S L)))∧Fr 29 [(0,vs),(1,vl),(5,.pointer (some ⟨w0.heap.size,0,none⟩)),(8,v8)] a) (sel [1,1,1,0] nbP) (fun a w=>(Pz w0 (ofHn (bestSum S L)) (ofHd (bestSum S L)) w∧w.ownsRow (w0.heap.size+1) 49 2 v8 (bestF S L).length (cellsOf encFl (bestF S L)))∧Fr 29 [(4,v8),(5,.pointer (some ⟨w0.heap.size,0,none⟩)),(6,.int .i64 0)] a) No 9 No:=by
 refine T3.leaf ?_;rintro Q JS JX JT K_ hS_ hK hX hE hT hR a w ⟨hW,⟨fr,rfl,q0,q1,q5,q8,_⟩⟩;have hp:=scp_of (ss_sc hz);have hr:=rise_of (ss_sc hz);have hib:=bestF_in (S:=S) hr (by omega);have hb2:=sumK_b hp (cap:=⟨#[]⟩) hib (bestF S L).length (Nat.le_refl _);have hn13:=hib.n;have HZ:=best_z hs hl (S:=S) (L:=L);have HC:=Lib.hid (sum_prog w vl v8 L (bestF S L) ⟨#[]⟩ (hl.below hW.1.bel) ⟨(Row.of_owns hW.2).mono (Nat.zero_le _),HZ,by omega⟩ hr hp hib);have hQ:sumK L (bestF S L) ⟨#[]⟩ (bestF S L).length=bestSum S L:=rfl;rw [hQ]at HC hb2;have HO:=Lib.hid (fun w'=>ofHundredths_prog (bestSum S L) w' (by omega) (by omega));have HK:=Lib.hid (fun w' (h:Pz w0 0 0 w') (ho:w'.ownsRow (w0.heap.size+1) 49 2 v8 (bestF S L).length (cellsOf encFl (bestF S L)))=>And.intro (h.put (ofHn (bestSum S L)) (ofHd (bestSum S L)))
  ((ho.kept (grown_setCell w' w0.heap.size 0 (.int .i64 (ofHn (bestSum S L)))) (.inr fun e=>by have:=(ho.lt _ e).1;omega)).kept (grown_setCell _ w0.heap.size 1 (.int .i64 (ofHd (bestSum S L)))) (.inr fun e=>by have:=(ho.lt _ e).1;omega)))
 have HW1:=Lib.hid hW;obtain⟨p5,c5,rfl⟩:=(Row.of_owns hW.2).shape;obtain⟨p1,c1,rfl⟩:=hs.r.shape;obtain⟨p2,c2,rfl⟩:=hl.r.shape;clear hW hp hr hib hQ HZ hs hl;generalize bestSum S L=sb at *;rw [fr_nbP,fe q0,fe q1,fe q5,fe q8];clear q0 q1 q5 q8;conv=>arg 2;whnf
 go_wp2_with fail
 refine HC.out.mono ?_;rintro e w1 ⟨rfl,hb⟩;have H2:=Lib.hid (And.intro (HW1.out.1.below hb) (owns_below HW1.out.2 hb (Nat.le_refl _)));clear hb;go_wp2_with fail
 refine(HO.out w1).mono ?_;rintro e w2 ⟨rfl,hb⟩;have H5:=H2.out.1.below hb;have HF:=Lib.hid (HK.out w2 H5 (owns_below H2.out.2 hb (Nat.le_refl _)));have r0:=H5.r0;have r1:=H5.r1;have f0:=H5.f0;have f1:=H5.f1;clear hb H5;go_wp2_with fail
 refine Met.intro (hS_ _ _ ?_);exact⟨HF.out,Fr.r rfl rfl⟩
theorem nb_all:T3 Tryz.prog (fun a w=>(IsW w0 w)∧Fr 29 [(0,vs),(1,vl)] a) nbP No No 9 (fun a w=>∃(v4:Value) (x y:Int),((x,y)=bestN S L∧w.ownsRow (w0.heap.size+1) 49 2 v4 (bestV S L).length (cellsOf encFl (bestV S L)))∧(Pz w0 x y w)∧Fr 29 [(4,v4),(5,.pointer (some ⟨w0.heap.size,0,none⟩)),(6,.int .i64 (ssE S L))] a):=by
 refine T3.seq (s:=(sel [0] nbP)) (c:=(sel [1] nbP)) (T3.noT (nb0 w0 vs vl S L hs hl hS4 hL6)) ?_;refine T3.sq rfl (S:=fun a w=>(ssE S L=0)∧(Pz w0 0 0 w)∧Fr 29 [(0,vs),(1,vl),(5,.pointer (some ⟨w0.heap.size,0,none⟩))] a) ?_ (T3.pure fun hz=>?_)
 ·refine T3.sq rfl (T3.noT (nb1 w0 vs vl S L hs hl hS4 hL6)) ?_;refine T3.tt rfl (C:=fun q=>(q=(ssE S L != 0))) (W:=fun w=>Pz w0 0 0 w) (by decide) (T3.noT (nb2 w0 vs vl S L hs hl hS4 hL6)) ?_ (T3.skip ?_)
  ·refine T3.pre (R:=fun a w=>(ssE S L≠0)∧(Pz w0 0 0 w)∧Fr 29 [(0,vs),(1,vl),(5,.pointer (some ⟨w0.heap.size,0,none⟩)),(7,.int .i64 (ssE S L))] a) (T3.pure fun hne=>?_) (fun a w ⟨hF,hq,hW⟩=>⟨by have:=hq.symm;simpa using this,hW,hF.tail⟩);refine T3.sr rfl (T3.noT (nb3 w0 vs vl S L hs hl hS4 hL6)) (T3.ret fun a w q=>⟨_,0,0,⟨?_,?_⟩,q.1,q.2⟩)
   ·unfold bestN;rw [if_neg hne]
   ·unfold bestV;rw [if_neg hne];exact World.ownsRow_nil _ _ _ _
  ·rintro a w ⟨hq,hW,hF⟩;exact⟨by have:=hq.symm;simpa using this,hW,hF.sub (by simp)⟩
 refine T3.sq rfl (T3.noT (nb4 w0 vs vl S L hs hl hS4 hL6 hz)) ?_;refine T3.ex fun v8=>?_
 refine T3.sr rfl (T3.noT (nb5 w0 vs vl S L hs hl hS4 hL6 hz v8)) (T3.ret ?_);rintro a w ⟨⟨hP,hO⟩,hF⟩;refine⟨v8,_,_,⟨?_,?_⟩,hP,by rw [hz];exact hF⟩
 ·unfold bestN;rw [if_pos hz]
 ·unfold bestV;rw [if_pos hz];exact hO
/-- Best of the program. -/
theorem bestP:Calls Tryz.prog 29 #[vs,vl] w0 fun e w'=>∃v4:Value,e=.returned (.tuple #[v4,.agg #[.int .i64 (bestN S L).1,.int .i64 (bestN S L).2],.int .i64 (ssE S L)])∧w'.ownsRow w0.heap.size 49 2 v4 (bestV S L).length (cellsOf encFl (bestV S L))∧Below w0.heap.size w0 w':=by
 have hall:=nb_all w0 vs vl S L hs hl hS4 hL6
 go_enter Tryz.func29,Tryz.ntmps29
 refine T3.done (s:=nbP) hall ⟨rfl,Fr.r rfl rfl⟩ ?_;rintro a w ⟨v4,x,y,⟨hxy,ho⟩,hz,fr,rfl,q4,q5,q6,_⟩;rw [fr_nbP,fe q4,fe q5,fe q6];have r0:=hz.r0;have r1:=hz.r1;rw [←hxy];exact bodyPost_ret (v:=.tuple #[v4,.agg #[.int .i64 x,.int .i64 y],.int .i64 (ssE S L)]) (by simp [results,Tryz.results29,go_sem,r0,r1]) rfl ⟨v4,rfl,owns_mono ho (Nat.le_succ _),hz.bel⟩
end
end Go.Proofs.YtnmdpphddimfbaaGreat
/-
  The reference's search for the best line-ups, the rest of a step, and whole. Conditions: at most 4 slots and 6 scorers; points are right.
-/
namespace Go.Proofs.YtnmdpphddimfbaaGreat
open Go.RowKit Go.Bw
/-- A way with one more, put into a box. -/
theorem fin13 {w0 x0 xk:World}{m nn a9 g12 g14:Nat}{S:List SlD}{L:List ScD}{x y:LuR}{sv v7:Value}{z:ScD}{n7:Nat}{xs:List Value}(hR:RdW w0 x0 m nn S L g12 x sv g14 z)(hml:m<w0.heap.size)(hb:Below x0.heap.size x0 xk)(O9:xk.ownsRow x0.heap.size 103 3 (.slice (some ⟨a9,0,none⟩) 1 1) 1 [.int .i64 0,.int .i64 0,.slice none 0 0])(O7:xk.ownsRow x0.heap.size 9 1 v7 n7 xs)(hxs:xs=cellsOf encSt y.who)(hn7:n7=y.who.length):
  RdW w0 (((xk.setCell ⟨a9,0,none⟩ (.int .i64 y.sum)).setCell ⟨a9,1,none⟩ (.int .i64 y.many)).setCell ⟨a9,2,none⟩ v7) m nn S L g12 x sv g14 z∧Bx3 m (((xk.setCell ⟨a9,0,none⟩ (.int .i64 y.sum)).setCell ⟨a9,1,none⟩ (.int .i64 y.many)).setCell ⟨a9,2,none⟩ v7) a9 y v7:=by
 subst hxs;subst hn7;have ha:=(O9.lt a9 rfl).1;have hx0:=hR.s.g.size;have h8:=(hR.o8.lt w0.heap.size rfl).2;have h12:=(hR.b.o.lt g12 rfl).2;have h14:=World.block_lt_of_cell? x0 ⟨g14,0,none⟩ hR.c.c0;simp only at h14;have O9':xk.ownsRow w0.heap.size 103 3 (.slice (some ⟨a9,0,none⟩) 1 1) 1 [.int .i64 0,.int .i64 0,.slice none 0 0]:=owns_mono O9 hx0;have hr7:RHd 9 m xk.heap.size xk y.who.length v7 (cellsOf encSt y.who):=RHd.of_owns O7 (by omega);exact⟨(hR.below hb).put3 O9' hml (by omega) (by omega) (by omega) _ _ _,(BxO.put O9' hr7).b⟩
theorem lc13 (b2 b3 b4 b5 m n:Nat)(vs:Value)(S:List SlD)(vl:Value)(L:List ScD)(i u:Nat)(w0:World)(hx:ClX w0 b2 b3 b4 b5 m n vs S vl L)(hp:ScP L)(hS:S.length≤4)(hl:L.length≤6)(hi:i≤S.length)(hu:u<64)(hn:n+costN (S.length-i)≤10000)(hlt:i<S.length)(ih:∀(u2 n2:Nat) (w2:World),u2<64→ClX w2 b2 b3 b4 b5 m n2 vs S vl L→n2+costN (S.length-(i+1))≤10000→Calls Tryz.prog 61 #[.int .i64 ((i+1:Nat):Int),.int .i64 (u2:Int),.pointer (some ⟨b2,0,none⟩),.pointer (some ⟨b3,0,none⟩),.pointer (some ⟨b4,0,none⟩),.pointer (some ⟨b5,0,none⟩)] w2 fun e w3=>∃v,e=.returned v∧LuV m w3 (luM S L (i+1) u2) v∧MapL w3 m (n2+costN (S.length-(i+1))) S L∧w2.grownBy w3 (some m))(g12:Nat)(hg:w0.heap.size≠g12)(k:Nat)(hk:k<L.length)(sv:Value)(g14:Nat)(g15:Nat)(sv5:Value):T3 Tryz.prog (fun a w=>(RdW w0 w m (nK n (costN (S.length-(i+1))) (k+1)) S L g12 (kX S L i u k) sv g14 (geta L (k:Int))∧Bx3 m w g15 (luM S L (i+1) (u ||| 2 ^ k)) sv5)∧Fr 108 [(0,.int .i64 (i:Int)),(1,.int .i64 (u:Int)),(2,.pointer (some ⟨b2,0,none⟩)),(3,.pointer (some ⟨b3,0,none⟩)),(4,.pointer (some ⟨b4,0,none⟩)),(5,.pointer (some ⟨b5,0,none⟩)),(8,.pointer (some ⟨w0.heap.size,0,none⟩)),(12,.pointer (some ⟨g12,0,none⟩)),(13,.int .i64 (k:Int)),(14,.pointer (some ⟨g14,0,none⟩)),(15,.pointer (some ⟨g15,0,none⟩)),(46,vl),(47,.int .i64 L.length),(48,.int .i64 (k:Int))] a) (sel [1,1,1,1,1,0,1,4,4,1,1,0,4,1,1,1,0] lcR) (fun a w=>∃(g16:Nat) (sv6:Value),(RdW w0 w m (nK n (costN (S.length-(i+1))) (k+1)) S L g12 (kX S L i u k) sv g14 (geta L (k:Int))∧Bx3 m w g16 (kY S L i u k) sv6)∧Fr 108 [(0,.int .i64 (i:Int)),(1,.int .i64 (u:Int)),(2,.pointer (some ⟨b2,0,none⟩)),(3,.pointer (some ⟨b3,0,none⟩)),(4,.pointer (some ⟨b4,0,none⟩)),(5,.pointer (some ⟨b5,0,none⟩)),(8,.pointer (some ⟨w0.heap.size,0,none⟩)),(12,.pointer (some ⟨g12,0,none⟩)),(13,.int .i64 (k:Int)),(14,.pointer (some ⟨g14,0,none⟩)),(16,.pointer (some ⟨g16,0,none⟩)),(46,vl),(47,.int .i64 L.length),(48,.int .i64 (k:Int))] a) No 9 No:=by
 refine T3.leafN ?_;rintro JS hS_ a w ⟨hW,⟨fr,rfl,q0,q1,q2,q3,q4,q5,q8,q12,q13,q14,q15,q46,q47,q48,_⟩⟩;have hml:m<w0.heap.size:=by obtain⟨es,cl,hb,_⟩:=hx.mp;exact(Array.getElem?_eq_some_iff.1 hb).1
 have R0:RdW w0 w.drew m (nK n (costN (S.length-(i+1))) (k+1)) S L g12 (kX S L i u k) sv g14 (geta L (k:Int)):=hW.1.below (below_drewN (Below.refl _ _) 1);obtain⟨t0,t1,t2,hrr⟩:=hW.2;have t0:w.drew.cell? ⟨g15,0,none⟩=_:=t0;have t1:w.drew.cell? ⟨g15,1,none⟩=_:=t1;have t2:w.drew.cell? ⟨g15,2,none⟩=_:=t2;obtain⟨u0,u1,u2,u3,u4⟩:=R0.c;have hr:Row w.drew 0 1 sv5 (luM S L (i+1) (u ||| 2 ^ k)).who.length (cellsOf encSt (luM S L (i+1) (u ||| 2 ^ k)).who):=hrr.row;have hone:∀z∈cellsOf encSt (luM S L (i+1) (u ||| 2 ^ k)).who,z.oneCell'=true:=fun z hz=>by
  rw [cells_map]at hz;obtain⟨s,_,rfl⟩:=List.mem_map.1 hz;rfl
 have hlw:(luM S L (i+1) (u ||| 2 ^ k)).who.length≤4:=by unfold luM;rw [luS_len];omega
 have hlb:0≤(luM S L (i+1) (u ||| 2 ^ k)).sum∧(luM S L (i+1) (u ||| 2 ^ k)).sum≤4000000:=by
  have:=luS_b hp (S:=S) (S.length-(i+1)) (i+1) (bitU (u ||| 2 ^ k));unfold luM;omega
 have hlm:0≤(luM S L (i+1) (u ||| 2 ^ k)).many∧(luM S L (i+1) (u ||| 2 ^ k)).many≤4:=by
  have:=luS_many S L (S.length-(i+1)) (i+1) (bitU (u ||| 2 ^ k));unfold luM;omega
 obtain⟨d1,d2,n1,n2,m1,m2⟩:=hp.h _ (geta_mem (l:=L) (i:=(k:Int)) (by omega) (by omega));have HH:=Lib.hid (fun w'=>hundredths_ref (geta L (k:Int)).num (geta L (k:Int)).den w' (by omega) (by omega) d1 (by omega));have hky:kY S L i u k=⟨(luM S L (i+1) (u ||| 2 ^ k)).sum+hnK L k,(luM S L (i+1) (u ||| 2 ^ k)).many+1,(geta L (k:Int)).pl::(luM S L (i+1) (u ||| 2 ^ k)).who⟩:=kY_eq;have hnk:hnK L k=hund (geta L (k:Int)).num (geta L (k:Int)).den:=rfl;rw [hky,hnk]at hS_;clear hky hnk hW hx hp ih hn hrr;generalize (luM S L (i+1) (u ||| 2 ^ k))=lm at *;obtain⟨lms,lmm,lmw⟩:=lm;simp only at t0 t1 t2 hr hone hlw hlb hlm;generalize hund (geta L (k:Int)).num (geta L (k:Int)).den=hh at *;generalize (geta L (k:Int)).num=ynn at *;generalize (geta L (k:Int)).den=ydd at *;generalize hpl:(geta L (k:Int)).pl=ypl at *;clear hpl;obtain⟨q,d,rfl⟩:=hr.shape;rw [fr_lcR,fe q0,fe q1,fe q2,fe q3,fe q4,fe q5,fe q8,fe q12,fe q13,fe q14,fe q15,fe q46,fe q47,fe q48];clear q0 q1 q2 q3 q4 q5 q8 q12 q13 q14 q15 q46 q47 q48;conv=>arg 2;whnf
 refine wp_region_alt (fun w'=>Below w.drew.heap.size w.drew w') (.calm 0 (.calm 1 (.calm 2 (.calm 3 (.calm 6 (.calm 7 (.calm 8 (.calm 9 (.calm 10 (.calm 12 (.calm 13 (.alt 4 (.calm 5 (.alt 11 (.alt 14 (.calm 15 (.one 16 (.one 17 .done))) (.one 16 (.one 14 (.calm 15 (.one 17 .done))))) (.one 16 (.one 11 (.one 14 (.calm 15 (.one 17 .done))))))) (.alt 11 (.alt 4 (.calm 5 (.alt 14 (.calm 15 (.one 16 (.one 17 .done))) (.one 16 (.one 14 (.calm 15 (.one 17 .done)))))) (.one 16 (.one 4 (.calm 5 (.one 14 (.calm 15 (.one 17 .done))))))) (.one 16 (.alt 4 (.calm 5 (.one 11 (.one 14 (.calm 15 (.one 17 .done))))) (.one 11 (.one 4 (.calm 5 (.one 14 (.calm 15 (.one 17 .done))))))))))))))))))))) (by kernel_rfl) (by kernel_rfl) (by intro c a d v w h;cases d <;> exact h) (Below.refl _ _) ?_;generalize w.drew=x0 at *;have B0:Below x0.heap.size x0 x0:=Below.refl _ _;have A0:=fun i=>((wofS_S (w₁:=x0) (S:=fun w'=>Below x0.heap.size x0 w') (Below.refl _ _) i).cell (p:=⟨g15,0,none⟩) (World.block_lt_of_cell? x0 _ t0)).trans t0
 have A1:=fun i=>((wofS_S (w₁:=x0) (S:=fun w'=>Below x0.heap.size x0 w') (Below.refl _ _) i).cell (p:=⟨g15,1,none⟩) (World.block_lt_of_cell? x0 _ t1)).trans t1
 have A2:=fun i=>((wofS_S (w₁:=x0) (S:=fun w'=>Below x0.heap.size x0 w') (Below.refl _ _) i).cell (p:=⟨g15,2,none⟩) (World.block_lt_of_cell? x0 _ t2)).trans t2
 have U0:=fun i=>((wofS_S (w₁:=x0) (S:=fun w'=>Below x0.heap.size x0 w') (Below.refl _ _) i).cell (p:=⟨g14,0,none⟩) (World.block_lt_of_cell? x0 _ u0)).trans u0
 have U2:=fun i=>((wofS_S (w₁:=x0) (S:=fun w'=>Below x0.heap.size x0 w') (Below.refl _ _) i).cell (p:=⟨g14,2,none⟩) (World.block_lt_of_cell? x0 _ u2)).trans u2
 have U3:=fun i=>((wofS_S (w₁:=x0) (S:=fun w'=>Below x0.heap.size x0 w') (Below.refl _ _) i).cell (p:=⟨g14,3,none⟩) (World.block_lt_of_cell? x0 _ u3)).trans u3
 refine alt_hide (w₁:=x0) (fun W hH hC hA_ hE_=>?_);refine hH.out _ _ _ _ _ rfl (fun K hK=>?_);go_simp;refine hK _ ?_;clear hK K;refine hH.out _ _ _ _ _ rfl (fun K hK=>?_);go_simp;refine hK _ ?_;clear hK K;refine hH.out _ _ _ _ _ rfl (fun K hK=>?_);go_simp;refine hK _ ?_;clear hK K;refine hH.out _ _ _ _ _ rfl (fun K hK=>?_);go_simp;refine hK _ ?_;clear hK K;refine hH.out _ _ _ _ _ rfl (fun K hK=>?_);go_simp;refine hK _ ?_;clear hK K;refine hH.out _ _ _ _ _ rfl (fun K hK=>?_);go_simp;refine hK _ ?_;clear hK K;refine hH.out _ _ _ _ _ rfl (fun K hK=>?_);go_simp;refine hK _ ?_;clear hK K;refine hH.out _ _ _ _ _ rfl (fun K hK=>?_);go_simp;refine hK _ ?_;clear hK K;refine hH.out _ _ _ _ _ rfl (fun K hK=>?_);go_simp;refine hK _ ?_;clear hK K;refine hH.out _ _ _ _ _ rfl (fun K hK=>?_);go_simp;refine hK _ ?_;clear hK K;refine hH.out _ _ _ _ _ rfl (fun K hK=>?_);go_simp;refine hK _ ?_;clear hK K;refine hA_.out _ _ _ _ _ ?_ ?_
 ·refine hC.out _ _ _ _ _ rfl (by first|rfl|go_simp) (fun K hK=>?_);simp only [bare];go_wp2_with fail
  refine(HH.out x0).mono ?_;rintro e x4 ⟨rfl,b4_⟩;have B4:Below x0.heap.size x0 x4:=B0.trans (b4_.mono B0.size);clear b4_;go_wp2_with fail
  refine hK.out _ _ (B4) ?_;clear hK K;refine hH.out _ _ _ _ _ rfl (fun K hK=>?_);go_simp;refine hK _ ?_;clear hK K;refine hA_.out _ _ _ _ _ ?_ ?_
  ·refine hC.out _ _ _ _ _ rfl (by first|rfl|go_simp) (fun K hK=>?_);simp only [bare];have O11:=owns_lit x4 x0.heap.size 9 #[.string ypl] 1 (by decide) rfl B4.size;have B11:Below x0.heap.size x0 (x4.alloc (.cells #[.string ypl] 9)):=B4.alloc B4.size _;go_wp2_with fail
   generalize x4.alloc (.cells #[.string ypl] 9)=x11 at *;refine hK.out _ _ (B11) ?_;clear hK K;refine hA_.out _ _ _ _ _ ?_ ?_
   ·refine hC.out _ _ _ _ _ rfl (by first|rfl|go_simp) (fun K hK=>?_);simp only [bare];have rr:=(hr.below B11).mono (Nat.le_refl 0);go_wp2_with (at_builtin;refine app_rowR rfl _ _ _ rfl el_str O11 rfl rr rfl hone (by omega) B11.size ?_;intro v14 x14 O14 g14_)
    have B14:Below x0.heap.size x0 x14:=below_grown B11 O11 g14_ (Nat.le_refl _) B11.size;obtain⟨p14,c14,rfl⟩:=(Row.of_owns O14).shape;clear g14_ O11;refine hK.out _ _ (B14) ?_;clear hK K;refine hH.out _ _ _ _ _ rfl (fun K hK=>?_);go_simp;refine hK _ ?_;clear hK K;refine hC.out _ _ _ _ _ rfl (by first|rfl|go_simp) (fun K hK=>?_);simp only [bare];have O16:=owns_litZ x14 x0.heap.size 103 #[.int .i64 0,.int .i64 0,.slice none 0 0] 1 3 (by decide) rfl B14.size;have B16:Below x0.heap.size x0 (x14.alloc (.cells #[.int .i64 0,.int .i64 0,.slice none 0 0] 103)):=B14.alloc B14.size _;have O14:=O14.alloc (.cells #[.int .i64 0,.int .i64 0,.slice none 0 0] 103);go_wp2_with fail
    generalize x14.alloc (.cells #[.int .i64 0,.int .i64 0,.slice none 0 0] 103)=x16 at *;refine hK.out _ _ (B16) ?_;clear hK K;refine hC.out _ _ _ _ _ rfl (by first|rfl|go_simp) (fun K hK=>?_);simp only [bare];have H17:=Lib.hid (fin13 R0 hml B16 O16 O14 (y:=⟨lms+hh,lmm+1,ypl::lmw⟩) rfl (by rw [List.length_cons,Nat.add_comm]));obtain⟨q0,q1,q2⟩:=cells8 O16;have f0:=owns_frozenC O16 0;have f1:=owns_frozenC O16 1;have f2:=owns_frozenC O16 2;go_wp2_with fail
    refine hK.out _ _ (((B16.setCell (by have:=(O16.lt _ rfl).1;omega) _).setCell (by have:=(O16.lt _ rfl).1;omega) _).setCell (by have:=(O16.lt _ rfl).1;omega) _) ?_;clear hK K;refine hE_.out _ _ ?_;clear hH hC hA_ hE_ W;show JS _ _;refine hS_ _ _ ?_;exact⟨_,_,H17.out,Fr.r rfl rfl⟩
   refine hC.out _ _ _ _ _ rfl (by first|rfl|go_simp) (fun K hK=>?_);simp only [bare];have O16:=owns_litZ x11 x0.heap.size 103 #[.int .i64 0,.int .i64 0,.slice none 0 0] 1 3 (by decide) rfl B11.size;have B16:Below x0.heap.size x0 (x11.alloc (.cells #[.int .i64 0,.int .i64 0,.slice none 0 0] 103)):=B11.alloc B11.size _;have O11:=O11.alloc (.cells #[.int .i64 0,.int .i64 0,.slice none 0 0] 103);go_wp2_with fail
   generalize x11.alloc (.cells #[.int .i64 0,.int .i64 0,.slice none 0 0] 103)=x16 at *;refine hK.out _ _ (B16) ?_;clear hK K;refine hC.out _ _ _ _ _ rfl (by first|rfl|go_simp) (fun K hK=>?_);simp only [bare];have rr:=(hr.below B16).mono (Nat.le_refl 0);go_wp2_with (at_builtin;refine app_rowR rfl _ _ _ rfl el_str O11 rfl rr rfl hone (by omega) B16.size ?_;intro v14 x14 O14 g14_)
   have B14:Below x0.heap.size x0 x14:=below_grown B16 O11 g14_ (Nat.le_refl _) B16.size;have O16:=owns_apart O16 O11 (by decide) g14_;obtain⟨p14,c14,rfl⟩:=(Row.of_owns O14).shape;clear g14_ O11;refine hK.out _ _ (B14) ?_;clear hK K;refine hH.out _ _ _ _ _ rfl (fun K hK=>?_);go_simp;refine hK _ ?_;clear hK K;refine hC.out _ _ _ _ _ rfl (by first|rfl|go_simp) (fun K hK=>?_);simp only [bare];have H17:=Lib.hid (fin13 R0 hml B14 O16 O14 (y:=⟨lms+hh,lmm+1,ypl::lmw⟩) rfl (by rw [List.length_cons,Nat.add_comm]));obtain⟨q0,q1,q2⟩:=cells8 O16;have f0:=owns_frozenC O16 0;have f1:=owns_frozenC O16 1;have f2:=owns_frozenC O16 2;go_wp2_with fail
   refine hK.out _ _ (((B14.setCell (by have:=(O16.lt _ rfl).1;omega) _).setCell (by have:=(O16.lt _ rfl).1;omega) _).setCell (by have:=(O16.lt _ rfl).1;omega) _) ?_;clear hK K;refine hE_.out _ _ ?_;clear hH hC hA_ hE_ W;show JS _ _;refine hS_ _ _ ?_;exact⟨_,_,H17.out,Fr.r rfl rfl⟩
  refine hC.out _ _ _ _ _ rfl (by first|rfl|go_simp) (fun K hK=>?_);simp only [bare];have O16:=owns_litZ x4 x0.heap.size 103 #[.int .i64 0,.int .i64 0,.slice none 0 0] 1 3 (by decide) rfl B4.size;have B16:Below x0.heap.size x0 (x4.alloc (.cells #[.int .i64 0,.int .i64 0,.slice none 0 0] 103)):=B4.alloc B4.size _;go_wp2_with fail
  generalize x4.alloc (.cells #[.int .i64 0,.int .i64 0,.slice none 0 0] 103)=x16 at *;refine hK.out _ _ (B16) ?_;clear hK K;refine hC.out _ _ _ _ _ rfl (by first|rfl|go_simp) (fun K hK=>?_);simp only [bare];have O11:=owns_lit x16 x0.heap.size 9 #[.string ypl] 1 (by decide) rfl B16.size;have B11:Below x0.heap.size x0 (x16.alloc (.cells #[.string ypl] 9)):=B16.alloc B16.size _;have O16:=O16.alloc (.cells #[.string ypl] 9);go_wp2_with fail
  generalize x16.alloc (.cells #[.string ypl] 9)=x11 at *;refine hK.out _ _ (B11) ?_;clear hK K;refine hC.out _ _ _ _ _ rfl (by first|rfl|go_simp) (fun K hK=>?_);simp only [bare];have rr:=(hr.below B11).mono (Nat.le_refl 0);go_wp2_with (at_builtin;refine app_rowR rfl _ _ _ rfl el_str O11 rfl rr rfl hone (by omega) B11.size ?_;intro v14 x14 O14 g14_)
  have B14:Below x0.heap.size x0 x14:=below_grown B11 O11 g14_ (Nat.le_refl _) B11.size;have O16:=owns_apart O16 O11 (by decide) g14_;obtain⟨p14,c14,rfl⟩:=(Row.of_owns O14).shape;clear g14_ O11;refine hK.out _ _ (B14) ?_;clear hK K;refine hH.out _ _ _ _ _ rfl (fun K hK=>?_);go_simp;refine hK _ ?_;clear hK K;refine hC.out _ _ _ _ _ rfl (by first|rfl|go_simp) (fun K hK=>?_);simp only [bare];have H17:=Lib.hid (fin13 R0 hml B14 O16 O14 (y:=⟨lms+hh,lmm+1,ypl::lmw⟩) rfl (by rw [List.length_cons,Nat.add_comm]));obtain⟨q0,q1,q2⟩:=cells8 O16;have f0:=owns_frozenC O16 0;have f1:=owns_frozenC O16 1;have f2:=owns_frozenC O16 2;go_wp2_with fail
  refine hK.out _ _ (((B14.setCell (by have:=(O16.lt _ rfl).1;omega) _).setCell (by have:=(O16.lt _ rfl).1;omega) _).setCell (by have:=(O16.lt _ rfl).1;omega) _) ?_;clear hK K;refine hE_.out _ _ ?_;clear hH hC hA_ hE_ W;show JS _ _;refine hS_ _ _ ?_;exact⟨_,_,H17.out,Fr.r rfl rfl⟩
 refine hA_.out _ _ _ _ _ ?_ ?_
 ·refine hC.out _ _ _ _ _ rfl (by first|rfl|go_simp) (fun K hK=>?_);simp only [bare];have O11:=owns_lit x0 x0.heap.size 9 #[.string ypl] 1 (by decide) rfl B0.size;have B11:Below x0.heap.size x0 (x0.alloc (.cells #[.string ypl] 9)):=B0.alloc B0.size _;go_wp2_with fail
  generalize x0.alloc (.cells #[.string ypl] 9)=x11 at *;refine hK.out _ _ (B11) ?_;clear hK K;refine hA_.out _ _ _ _ _ ?_ ?_
  ·refine hC.out _ _ _ _ _ rfl (by first|rfl|go_simp) (fun K hK=>?_);simp only [bare];go_wp2_with fail
   refine(HH.out x11).mono ?_;rintro e x4 ⟨rfl,b4_⟩;have B4:Below x0.heap.size x0 x4:=B11.trans (b4_.mono B11.size);have O11:=owns_below O11 b4_ (Nat.le_refl _);clear b4_;go_wp2_with fail
   refine hK.out _ _ (B4) ?_;clear hK K;refine hH.out _ _ _ _ _ rfl (fun K hK=>?_);go_simp;refine hK _ ?_;clear hK K;refine hA_.out _ _ _ _ _ ?_ ?_
   ·refine hC.out _ _ _ _ _ rfl (by first|rfl|go_simp) (fun K hK=>?_);simp only [bare];have rr:=(hr.below B4).mono (Nat.le_refl 0);go_wp2_with (at_builtin;refine app_rowR rfl _ _ _ rfl el_str O11 rfl rr rfl hone (by omega) B4.size ?_;intro v14 x14 O14 g14_)
    have B14:Below x0.heap.size x0 x14:=below_grown B4 O11 g14_ (Nat.le_refl _) B4.size;obtain⟨p14,c14,rfl⟩:=(Row.of_owns O14).shape;clear g14_ O11;refine hK.out _ _ (B14) ?_;clear hK K;refine hH.out _ _ _ _ _ rfl (fun K hK=>?_);go_simp;refine hK _ ?_;clear hK K;refine hC.out _ _ _ _ _ rfl (by first|rfl|go_simp) (fun K hK=>?_);simp only [bare];have O16:=owns_litZ x14 x0.heap.size 103 #[.int .i64 0,.int .i64 0,.slice none 0 0] 1 3 (by decide) rfl B14.size;have B16:Below x0.heap.size x0 (x14.alloc (.cells #[.int .i64 0,.int .i64 0,.slice none 0 0] 103)):=B14.alloc B14.size _;have O14:=O14.alloc (.cells #[.int .i64 0,.int .i64 0,.slice none 0 0] 103);go_wp2_with fail
    generalize x14.alloc (.cells #[.int .i64 0,.int .i64 0,.slice none 0 0] 103)=x16 at *;refine hK.out _ _ (B16) ?_;clear hK K;refine hC.out _ _ _ _ _ rfl (by first|rfl|go_simp) (fun K hK=>?_);simp only [bare];have H17:=Lib.hid (fin13 R0 hml B16 O16 O14 (y:=⟨lms+hh,lmm+1,ypl::lmw⟩) rfl (by rw [List.length_cons,Nat.add_comm]));obtain⟨q0,q1,q2⟩:=cells8 O16;have f0:=owns_frozenC O16 0;have f1:=owns_frozenC O16 1;have f2:=owns_frozenC O16 2;go_wp2_with fail
    refine hK.out _ _ (((B16.setCell (by have:=(O16.lt _ rfl).1;omega) _).setCell (by have:=(O16.lt _ rfl).1;omega) _).setCell (by have:=(O16.lt _ rfl).1;omega) _) ?_;clear hK K;refine hE_.out _ _ ?_;clear hH hC hA_ hE_ W;show JS _ _;refine hS_ _ _ ?_;exact⟨_,_,H17.out,Fr.r rfl rfl⟩
   refine hC.out _ _ _ _ _ rfl (by first|rfl|go_simp) (fun K hK=>?_);simp only [bare];have O16:=owns_litZ x4 x0.heap.size 103 #[.int .i64 0,.int .i64 0,.slice none 0 0] 1 3 (by decide) rfl B4.size;have B16:Below x0.heap.size x0 (x4.alloc (.cells #[.int .i64 0,.int .i64 0,.slice none 0 0] 103)):=B4.alloc B4.size _;have O11:=O11.alloc (.cells #[.int .i64 0,.int .i64 0,.slice none 0 0] 103);go_wp2_with fail
   generalize x4.alloc (.cells #[.int .i64 0,.int .i64 0,.slice none 0 0] 103)=x16 at *;refine hK.out _ _ (B16) ?_;clear hK K;refine hC.out _ _ _ _ _ rfl (by first|rfl|go_simp) (fun K hK=>?_);simp only [bare];have rr:=(hr.below B16).mono (Nat.le_refl 0);go_wp2_with (at_builtin;refine app_rowR rfl _ _ _ rfl el_str O11 rfl rr rfl hone (by omega) B16.size ?_;intro v14 x14 O14 g14_)
   have B14:Below x0.heap.size x0 x14:=below_grown B16 O11 g14_ (Nat.le_refl _) B16.size;have O16:=owns_apart O16 O11 (by decide) g14_;obtain⟨p14,c14,rfl⟩:=(Row.of_owns O14).shape;clear g14_ O11;refine hK.out _ _ (B14) ?_;clear hK K;refine hH.out _ _ _ _ _ rfl (fun K hK=>?_);go_simp;refine hK _ ?_;clear hK K;refine hC.out _ _ _ _ _ rfl (by first|rfl|go_simp) (fun K hK=>?_);simp only [bare];have H17:=Lib.hid (fin13 R0 hml B14 O16 O14 (y:=⟨lms+hh,lmm+1,ypl::lmw⟩) rfl (by rw [List.length_cons,Nat.add_comm]));obtain⟨q0,q1,q2⟩:=cells8 O16;have f0:=owns_frozenC O16 0;have f1:=owns_frozenC O16 1;have f2:=owns_frozenC O16 2;go_wp2_with fail
   refine hK.out _ _ (((B14.setCell (by have:=(O16.lt _ rfl).1;omega) _).setCell (by have:=(O16.lt _ rfl).1;omega) _).setCell (by have:=(O16.lt _ rfl).1;omega) _) ?_;clear hK K;refine hE_.out _ _ ?_;clear hH hC hA_ hE_ W;show JS _ _;refine hS_ _ _ ?_;exact⟨_,_,H17.out,Fr.r rfl rfl⟩
  refine hC.out _ _ _ _ _ rfl (by first|rfl|go_simp) (fun K hK=>?_);simp only [bare];have O16:=owns_litZ x11 x0.heap.size 103 #[.int .i64 0,.int .i64 0,.slice none 0 0] 1 3 (by decide) rfl B11.size;have B16:Below x0.heap.size x0 (x11.alloc (.cells #[.int .i64 0,.int .i64 0,.slice none 0 0] 103)):=B11.alloc B11.size _;have O11:=O11.alloc (.cells #[.int .i64 0,.int .i64 0,.slice none 0 0] 103);go_wp2_with fail
  generalize x11.alloc (.cells #[.int .i64 0,.int .i64 0,.slice none 0 0] 103)=x16 at *;refine hK.out _ _ (B16) ?_;clear hK K;refine hC.out _ _ _ _ _ rfl (by first|rfl|go_simp) (fun K hK=>?_);simp only [bare];go_wp2_with fail
  refine(HH.out x16).mono ?_;rintro e x4 ⟨rfl,b4_⟩;have B4:Below x0.heap.size x0 x4:=B16.trans (b4_.mono B16.size);have O16:=owns_below O16 b4_ (Nat.le_refl _);have O11:=owns_below O11 b4_ (Nat.le_refl _);clear b4_;go_wp2_with fail
  refine hK.out _ _ (B4) ?_;clear hK K;refine hH.out _ _ _ _ _ rfl (fun K hK=>?_);go_simp;refine hK _ ?_;clear hK K;refine hC.out _ _ _ _ _ rfl (by first|rfl|go_simp) (fun K hK=>?_);simp only [bare];have rr:=(hr.below B4).mono (Nat.le_refl 0);go_wp2_with (at_builtin;refine app_rowR rfl _ _ _ rfl el_str O11 rfl rr rfl hone (by omega) B4.size ?_;intro v14 x14 O14 g14_)
  have B14:Below x0.heap.size x0 x14:=below_grown B4 O11 g14_ (Nat.le_refl _) B4.size;have O16:=owns_apart O16 O11 (by decide) g14_;obtain⟨p14,c14,rfl⟩:=(Row.of_owns O14).shape;clear g14_ O11;refine hK.out _ _ (B14) ?_;clear hK K;refine hH.out _ _ _ _ _ rfl (fun K hK=>?_);go_simp;refine hK _ ?_;clear hK K;refine hC.out _ _ _ _ _ rfl (by first|rfl|go_simp) (fun K hK=>?_);simp only [bare];have H17:=Lib.hid (fin13 R0 hml B14 O16 O14 (y:=⟨lms+hh,lmm+1,ypl::lmw⟩) rfl (by rw [List.length_cons,Nat.add_comm]));obtain⟨q0,q1,q2⟩:=cells8 O16;have f0:=owns_frozenC O16 0;have f1:=owns_frozenC O16 1;have f2:=owns_frozenC O16 2;go_wp2_with fail
  refine hK.out _ _ (((B14.setCell (by have:=(O16.lt _ rfl).1;omega) _).setCell (by have:=(O16.lt _ rfl).1;omega) _).setCell (by have:=(O16.lt _ rfl).1;omega) _) ?_;clear hK K;refine hE_.out _ _ ?_;clear hH hC hA_ hE_ W;show JS _ _;refine hS_ _ _ ?_;exact⟨_,_,H17.out,Fr.r rfl rfl⟩
 refine hC.out _ _ _ _ _ rfl (by first|rfl|go_simp) (fun K hK=>?_);simp only [bare];have O16:=owns_litZ x0 x0.heap.size 103 #[.int .i64 0,.int .i64 0,.slice none 0 0] 1 3 (by decide) rfl B0.size;have B16:Below x0.heap.size x0 (x0.alloc (.cells #[.int .i64 0,.int .i64 0,.slice none 0 0] 103)):=B0.alloc B0.size _;go_wp2_with fail
 generalize x0.alloc (.cells #[.int .i64 0,.int .i64 0,.slice none 0 0] 103)=x16 at *;refine hK.out _ _ (B16) ?_;clear hK K;refine hA_.out _ _ _ _ _ ?_ ?_
 ·refine hC.out _ _ _ _ _ rfl (by first|rfl|go_simp) (fun K hK=>?_);simp only [bare];go_wp2_with fail
  refine(HH.out x16).mono ?_;rintro e x4 ⟨rfl,b4_⟩;have B4:Below x0.heap.size x0 x4:=B16.trans (b4_.mono B16.size);have O16:=owns_below O16 b4_ (Nat.le_refl _);clear b4_;go_wp2_with fail
  refine hK.out _ _ (B4) ?_;clear hK K;refine hH.out _ _ _ _ _ rfl (fun K hK=>?_);go_simp;refine hK _ ?_;clear hK K;refine hC.out _ _ _ _ _ rfl (by first|rfl|go_simp) (fun K hK=>?_);simp only [bare];have O11:=owns_lit x4 x0.heap.size 9 #[.string ypl] 1 (by decide) rfl B4.size;have B11:Below x0.heap.size x0 (x4.alloc (.cells #[.string ypl] 9)):=B4.alloc B4.size _;have O16:=O16.alloc (.cells #[.string ypl] 9);go_wp2_with fail
  generalize x4.alloc (.cells #[.string ypl] 9)=x11 at *;refine hK.out _ _ (B11) ?_;clear hK K;refine hC.out _ _ _ _ _ rfl (by first|rfl|go_simp) (fun K hK=>?_);simp only [bare];have rr:=(hr.below B11).mono (Nat.le_refl 0);go_wp2_with (at_builtin;refine app_rowR rfl _ _ _ rfl el_str O11 rfl rr rfl hone (by omega) B11.size ?_;intro v14 x14 O14 g14_)
  have B14:Below x0.heap.size x0 x14:=below_grown B11 O11 g14_ (Nat.le_refl _) B11.size;have O16:=owns_apart O16 O11 (by decide) g14_;obtain⟨p14,c14,rfl⟩:=(Row.of_owns O14).shape;clear g14_ O11;refine hK.out _ _ (B14) ?_;clear hK K;refine hH.out _ _ _ _ _ rfl (fun K hK=>?_);go_simp;refine hK _ ?_;clear hK K;refine hC.out _ _ _ _ _ rfl (by first|rfl|go_simp) (fun K hK=>?_);simp only [bare];have H17:=Lib.hid (fin13 R0 hml B14 O16 O14 (y:=⟨lms+hh,lmm+1,ypl::lmw⟩) rfl (by rw [List.length_cons,Nat.add_comm]));obtain⟨q0,q1,q2⟩:=cells8 O16;have f0:=owns_frozenC O16 0;have f1:=owns_frozenC O16 1;have f2:=owns_frozenC O16 2;go_wp2_with fail
  refine hK.out _ _ (((B14.setCell (by have:=(O16.lt _ rfl).1;omega) _).setCell (by have:=(O16.lt _ rfl).1;omega) _).setCell (by have:=(O16.lt _ rfl).1;omega) _) ?_;clear hK K;refine hE_.out _ _ ?_;clear hH hC hA_ hE_ W;show JS _ _;refine hS_ _ _ ?_;exact⟨_,_,H17.out,Fr.r rfl rfl⟩
 refine hC.out _ _ _ _ _ rfl (by first|rfl|go_simp) (fun K hK=>?_);simp only [bare];have O11:=owns_lit x16 x0.heap.size 9 #[.string ypl] 1 (by decide) rfl B16.size;have B11:Below x0.heap.size x0 (x16.alloc (.cells #[.string ypl] 9)):=B16.alloc B16.size _;have O16:=O16.alloc (.cells #[.string ypl] 9);go_wp2_with fail
 generalize x16.alloc (.cells #[.string ypl] 9)=x11 at *;refine hK.out _ _ (B11) ?_;clear hK K;refine hC.out _ _ _ _ _ rfl (by first|rfl|go_simp) (fun K hK=>?_);simp only [bare];go_wp2_with fail
 refine(HH.out x11).mono ?_;rintro e x4 ⟨rfl,b4_⟩;have B4:Below x0.heap.size x0 x4:=B11.trans (b4_.mono B11.size);have O16:=owns_below O16 b4_ (Nat.le_refl _);have O11:=owns_below O11 b4_ (Nat.le_refl _);clear b4_;go_wp2_with fail
 refine hK.out _ _ (B4) ?_;clear hK K;refine hH.out _ _ _ _ _ rfl (fun K hK=>?_);go_simp;refine hK _ ?_;clear hK K;refine hC.out _ _ _ _ _ rfl (by first|rfl|go_simp) (fun K hK=>?_);simp only [bare];have rr:=(hr.below B4).mono (Nat.le_refl 0);go_wp2_with (at_builtin;refine app_rowR rfl _ _ _ rfl el_str O11 rfl rr rfl hone (by omega) B4.size ?_;intro v14 x14 O14 g14_)
 have B14:Below x0.heap.size x0 x14:=below_grown B4 O11 g14_ (Nat.le_refl _) B4.size;have O16:=owns_apart O16 O11 (by decide) g14_;obtain⟨p14,c14,rfl⟩:=(Row.of_owns O14).shape;clear g14_ O11;refine hK.out _ _ (B14) ?_;clear hK K;refine hH.out _ _ _ _ _ rfl (fun K hK=>?_);go_simp;refine hK _ ?_;clear hK K;refine hC.out _ _ _ _ _ rfl (by first|rfl|go_simp) (fun K hK=>?_);simp only [bare];have H17:=Lib.hid (fin13 R0 hml B14 O16 O14 (y:=⟨lms+hh,lmm+1,ypl::lmw⟩) rfl (by rw [List.length_cons,Nat.add_comm]));obtain⟨q0,q1,q2⟩:=cells8 O16;have f0:=owns_frozenC O16 0;have f1:=owns_frozenC O16 1;have f2:=owns_frozenC O16 2;go_wp2_with fail
 refine hK.out _ _ (((B14.setCell (by have:=(O16.lt _ rfl).1;omega) _).setCell (by have:=(O16.lt _ rfl).1;omega) _).setCell (by have:=(O16.lt _ rfl).1;omega) _) ?_;clear hK K;refine hE_.out _ _ ?_;clear hH hC hA_ hE_ W;show JS _ _;refine hS_ _ _ ?_;exact⟨_,_,H17.out,Fr.r rfl rfl⟩
end Go.Proofs.YtnmdpphddimfbaaGreat
/-
  The reference's search for the best line-ups: its function of itself, whole. Conditions: at most 4 slots and 6 scorers; points are right.
-/
namespace Go.Proofs.YtnmdpphddimfbaaGreat
open Go.RowKit Go.Bw
section
variable (b2 b3 b4 b5 m n:Nat)(vs:Value)(S:List SlD)(vl:Value)(L:List ScD)(i u:Nat)(w0:World)(hx:ClX w0 b2 b3 b4 b5 m n vs S vl L)(hp:ScP L)(hS:S.length≤4)(hl:L.length≤6)(hi:i≤S.length)(hu:u<64)(hn:n+costN (S.length-i)≤10000)(hlt:i<S.length)(ih:∀(u2 n2:Nat) (w2:World),u2<64→ClX w2 b2 b3 b4 b5 m n2 vs S vl L→n2+costN (S.length-(i+1))≤10000→Calls Tryz.prog 61 #[.int .i64 ((i+1:Nat):Int),.int .i64 (u2:Int),.pointer (some ⟨b2,0,none⟩),.pointer (some ⟨b3,0,none⟩),.pointer (some ⟨b4,0,none⟩),.pointer (some ⟨b5,0,none⟩)] w2 fun e w3=>∃v,e=.returned v∧LuV m w3 (luM S L (i+1) u2) v∧MapL w3 m (n2+costN (S.length-(i+1))) S L∧w2.grownBy w3 (some m))(g12:Nat)(hg:w0.heap.size≠g12)
include hx hp hS hl hi hu hn hlt ih hg
section
variable (k:Nat)(hk:k<L.length)(sv:Value)
include hk sv
theorem lc14 (g14:Nat)(g16:Nat)(sv6:Value):T3 Tryz.prog (fun a w=>(RdW w0 w m (nK n (costN (S.length-(i+1))) (k+1)) S L g12 (kX S L i u k) sv g14 (geta L (k:Int))∧Bx3 m w g16 (kY S L i u k) sv6)∧Fr 108 [(0,.int .i64 (i:Int)),(1,.int .i64 (u:Int)),(2,.pointer (some ⟨b2,0,none⟩)),(3,.pointer (some ⟨b3,0,none⟩)),(4,.pointer (some ⟨b4,0,none⟩)),(5,.pointer (some ⟨b5,0,none⟩)),(8,.pointer (some ⟨w0.heap.size,0,none⟩)),(12,.pointer (some ⟨g12,0,none⟩)),(13,.int .i64 (k:Int)),(14,.pointer (some ⟨g14,0,none⟩)),(16,.pointer (some ⟨g16,0,none⟩)),(46,vl),(47,.int .i64 L.length),(48,.int .i64 (k:Int))] a) (sel [1,1,1,1,1,0,1,4,4,1,1,0,4,1,1,1,1,0] lcR) (fun a w=>∃q,Fr 108 ((99,.bool q)::[(0,.int .i64 (i:Int)),(1,.int .i64 (u:Int)),(2,.pointer (some ⟨b2,0,none⟩)),(3,.pointer (some ⟨b3,0,none⟩)),(4,.pointer (some ⟨b4,0,none⟩)),(5,.pointer (some ⟨b5,0,none⟩)),(8,.pointer (some ⟨w0.heap.size,0,none⟩)),(12,.pointer (some ⟨g12,0,none⟩)),(13,.int .i64 (k:Int)),(14,.pointer (some ⟨g14,0,none⟩)),(16,.pointer (some ⟨g16,0,none⟩)),(46,vl),(47,.int .i64 L.length),(48,.int .i64 (k:Int))]) a∧((q=betterB (kY S L i u k) (kX S L i u k))∧RdW w0 w m (nK n (costN (S.length-(i+1))) (k+1)) S L g12 (kX S L i u k) sv g14 (geta L (k:Int))∧Bx3 m w g16 (kY S L i u k) sv6)) No 9 No:=by
 refine T3.leaf ?_;rintro Q JS JX JT K hS_ hK hX hE hT hR a w ⟨hW,⟨fr,rfl,q0,q1,q2,q3,q4,q5,q8,q12,q13,q14,q16,q46,q47,q48,_⟩⟩;obtain⟨t0,t1,t2,hrr⟩:=hW.2;obtain⟨r0,r1,r2,hrb⟩:=hW.1.b.b;have hk1:(kY S L i u k).who.length≤1000:=by rw [kY_eq];show(_::(luM S L (i+1) (u ||| 2 ^ k)).who).length≤_;unfold luM;rw [List.length_cons,luS_len];omega
 have hk2:(kX S L i u k).who.length≤1000:=by rw [kX_len];omega
 have HC:=Lib.hid (better_ref (kY S L i u k) (kX S L i u k) sv6 sv w hrr.row hrb.row hk1 hk2);have HW:=Lib.hid (fun w' (b:Below w.heap.size w w')=>And.intro (hW.1.below b) (hW.2.below b));obtain⟨p6,c6,rfl⟩:=hrr.row.shape;obtain⟨p5,c5,rfl⟩:=hrb.row.shape;clear hW hx hp ih hn hrr hrb hk1 hk2;generalize kY S L i u k=ky at *;generalize kX S L i u k=kx at *;rw [fr_lcR,fe q0,fe q1,fe q2,fe q3,fe q4,fe q5,fe q8,fe q12,fe q13,fe q14,fe q16,fe q46,fe q47,fe q48];clear q0 q1 q2 q3 q4 q5 q8 q12 q13 q14 q16 q46 q47 q48;conv=>arg 2;whnf
 go_wp2_with fail
 refine HC.out.mono ?_;rintro e w1 ⟨rfl,hb⟩;have H1:=Lib.hid (HW.out w1 hb);clear hb;go_wp2_with fail
 refine Met.intro (hS_ _ _ ?_);exact⟨_,Fr.r rfl rfl,rfl,H1.out⟩
theorem lc15 (g14:Nat)(g16:Nat)(sv6:Value):T3 Tryz.prog (fun a w=>(RdW w0 w m (nK n (costN (S.length-(i+1))) (k+1)) S L g12 (kX S L i u k) sv g14 (geta L (k:Int))∧Bx3 m w g16 (kY S L i u k) sv6)∧Fr 108 [(0,.int .i64 (i:Int)),(1,.int .i64 (u:Int)),(2,.pointer (some ⟨b2,0,none⟩)),(3,.pointer (some ⟨b3,0,none⟩)),(4,.pointer (some ⟨b4,0,none⟩)),(5,.pointer (some ⟨b5,0,none⟩)),(8,.pointer (some ⟨w0.heap.size,0,none⟩)),(12,.pointer (some ⟨g12,0,none⟩)),(13,.int .i64 (k:Int)),(14,.pointer (some ⟨g14,0,none⟩)),(16,.pointer (some ⟨g16,0,none⟩)),(46,vl),(47,.int .i64 L.length),(48,.int .i64 (k:Int))] a) (sel [1,1,1,1,1,0,1,4,4,1,1,0,4,1,1,1,1,1,2] lcR) (fun a w=>((ClS w0 w m (nK n (costN (S.length-(i+1))) (k+1)) S L∧w.ownsRow w0.heap.size 103 3 (.slice (some ⟨w0.heap.size,0,none⟩) 1 1) 1 [.int .i64 0,.int .i64 0,.slice none 0 0])∧BxO m w0.heap.size w g12 (kY S L i u k) sv6)∧Fr 108 [(0,.int .i64 (i:Int)),(1,.int .i64 (u:Int)),(2,.pointer (some ⟨b2,0,none⟩)),(3,.pointer (some ⟨b3,0,none⟩)),(4,.pointer (some ⟨b4,0,none⟩)),(5,.pointer (some ⟨b5,0,none⟩)),(8,.pointer (some ⟨w0.heap.size,0,none⟩)),(12,.pointer (some ⟨g12,0,none⟩)),(46,vl),(47,.int .i64 L.length),(48,.int .i64 (k:Int))] a) No 9 No:=by
 refine T3.leaf ?_;rintro Q JS JX JT K hS_ hK hX hE hT hR a w ⟨hW,⟨fr,rfl,q0,q1,q2,q3,q4,q5,q8,q12,q13,q14,q16,q46,q47,q48,_⟩⟩;have hml:m<w0.heap.size:=by obtain⟨es,cl,hb,_⟩:=hx.mp;exact(Array.getElem?_eq_some_iff.1 hb).1
 obtain⟨t0,t1,t2,hrr⟩:=hW.2;have hb:=hW.1.b;obtain⟨r0,r1,r2,hrb⟩:=hb.b;have f0:=owns_frozenC hb.o 0;have f1:=owns_frozenC hb.o 1;have f2:=owns_frozenC hb.o 2;have HF:=Lib.hid (And.intro (And.intro (hW.1.s.put3 hb.o hml (.int .i64 (kY S L i u k).sum) (.int .i64 (kY S L i u k).many) sv6) (owns_put3 (a:=sv6) (b:=sv6) (c:=sv6) hW.1.o8 hg (.int .i64 (kY S L i u k).sum) (.int .i64 (kY S L i u k).many) sv6)) (BxO.put hb.o (y:=(kY S L i u k)) hrr));obtain⟨p6,c6,rfl⟩:=hrr.row.shape;obtain⟨p5,c5,rfl⟩:=hrb.row.shape;clear hW hx hp ih hn hrr hrb hb;generalize kY S L i u k=ky at *;generalize kX S L i u k=kx at *;rw [fr_lcR,fe q0,fe q1,fe q2,fe q3,fe q4,fe q5,fe q8,fe q12,fe q13,fe q14,fe q16,fe q46,fe q47,fe q48];clear q0 q1 q2 q3 q4 q5 q8 q12 q13 q14 q16 q46 q47 q48;conv=>arg 2;whnf
 go_wp2_with fail
 refine Met.intro (hS_ _ _ ?_);exact⟨HF.out,Fr.r rfl rfl⟩
theorem lcB:T3 Tryz.prog (fun a w=>((ClS w0 w m (nK n (costN (S.length-(i+1))) k) S L∧w.ownsRow w0.heap.size 103 3 (.slice (some ⟨w0.heap.size,0,none⟩) 1 1) 1 [.int .i64 0,.int .i64 0,.slice none 0 0])∧BxO m w0.heap.size w g12 (kX S L i u k) sv)∧Fr 108 [(0,.int .i64 (i:Int)),(1,.int .i64 (u:Int)),(2,.pointer (some ⟨b2,0,none⟩)),(3,.pointer (some ⟨b3,0,none⟩)),(4,.pointer (some ⟨b4,0,none⟩)),(5,.pointer (some ⟨b5,0,none⟩)),(8,.pointer (some ⟨w0.heap.size,0,none⟩)),(12,.pointer (some ⟨g12,0,none⟩)),(46,vl),(47,.int .i64 L.length),(48,.int .i64 (k:Int))] a) (sel [1,1,1,1,1,0,1,4,4,1,1,0] lcR) (fun a w=>∃(sv:Value),((ClS w0 w m (nK n (costN (S.length-(i+1))) (k+1)) S L∧w.ownsRow w0.heap.size 103 3 (.slice (some ⟨w0.heap.size,0,none⟩) 1 1) 1 [.int .i64 0,.int .i64 0,.slice none 0 0])∧BxO m w0.heap.size w g12 (kX S L i u (k+1)) sv)∧Fr 108 [(0,.int .i64 (i:Int)),(1,.int .i64 (u:Int)),(2,.pointer (some ⟨b2,0,none⟩)),(3,.pointer (some ⟨b3,0,none⟩)),(4,.pointer (some ⟨b4,0,none⟩)),(5,.pointer (some ⟨b5,0,none⟩)),(8,.pointer (some ⟨w0.heap.size,0,none⟩)),(12,.pointer (some ⟨g12,0,none⟩)),(46,vl),(47,.int .i64 L.length),(48,.int .i64 (k:Int))] a) No 9 No:=by
 refine T3.blockX (id:=1) (c:=(sel [1,1,1,1,1,0,1,4,4,1,1,0,4] lcR)) ?_;refine T3.sq rfl ((lc10 b2 b3 b4 b5 m n vs S vl L i u w0 hx hp hS hl hi hu hn hlt ih g12 hg k hk sv).noX) (T3.ex fun g14=>?_);refine T3.sq rfl (S:=fun a w=>(kC S L i u k=true)∧(RdW w0 w m (nK n (costN (S.length-(i+1))) k) S L g12 (kX S L i u k) sv g14 (geta L (k:Int)))∧Fr 108 [(0,.int .i64 (i:Int)),(1,.int .i64 (u:Int)),(2,.pointer (some ⟨b2,0,none⟩)),(3,.pointer (some ⟨b3,0,none⟩)),(4,.pointer (some ⟨b4,0,none⟩)),(5,.pointer (some ⟨b5,0,none⟩)),(8,.pointer (some ⟨w0.heap.size,0,none⟩)),(12,.pointer (some ⟨g12,0,none⟩)),(13,.int .i64 (k:Int)),(14,.pointer (some ⟨g14,0,none⟩)),(46,vl),(47,.int .i64 L.length),(48,.int .i64 (k:Int))] a) ?_ (T3.pure fun hc=>?_)
 ·refine T3.test (s:=(sel [1,1,1,1,1,0,1,4,4,1,1,0,4,1,0,0] lcR)) (x:=.exit 1) (y:=.skip) (C:=fun q=>(q=!kC S L i u k)) (W:=fun w=>RdW w0 w m (nK n (costN (S.length-(i+1))) k) S L g12 (kX S L i u k) sv g14 (geta L (k:Int))) (by decide) ((lc11 b2 b3 b4 b5 m n vs S vl L i u w0 hx hp hS hl hi hu hn hlt ih g12 hg k hk sv g14).noX) (T3.exit ?_) (T3.skip ?_)
  ·rintro a w ⟨hF,hq,hW⟩;have hc:kC S L i u k=false:=by simpa using hq.symm
   refine⟨sv,⟨⟨⟨hW.s.g,hW.s.mp.mono (by rw [nK_succ];omega)⟩,hW.o8⟩,?_⟩,hF.sub (by simp)⟩;rw [kX_skip hc];exact hW.b
  ·rintro a w ⟨hq,hW,hF⟩;exact⟨by simpa using hq.symm,hW,hF⟩
 refine T3.sq rfl ((lc12 b2 b3 b4 b5 m n vs S vl L i u w0 hx hp hS hl hi hu hn hlt ih g12 hg k hk sv g14).noX) (T3.ex fun g15=>T3.ex fun sv5=>?_);refine T3.sq rfl ((lc13 b2 b3 b4 b5 m n vs S vl L i u w0 hx hp hS hl hi hu hn hlt ih g12 hg k hk sv g14 g15 sv5).noX) (T3.ex fun g16=>T3.ex fun sv6=>?_);refine T3.tt rfl (C:=fun q=>(q=betterB (kY S L i u k) (kX S L i u k))) (W:=fun w=>RdW w0 w m (nK n (costN (S.length-(i+1))) (k+1)) S L g12 (kX S L i u k) sv g14 (geta L (k:Int))∧Bx3 m w g16 (kY S L i u k) sv6) (by decide) ((lc14 b2 b3 b4 b5 m n vs S vl L i u w0 hx hp hS hl hi hu hn hlt ih g12 hg k hk sv g14 g16 sv6).noX) ?_ (T3.skip ?_)
 ·refine T3.pre (R:=fun a w=>(betterB (kY S L i u k) (kX S L i u k)=true)∧(RdW w0 w m (nK n (costN (S.length-(i+1))) (k+1)) S L g12 (kX S L i u k) sv g14 (geta L (k:Int))∧Bx3 m w g16 (kY S L i u k) sv6)∧Fr 108 [(0,.int .i64 (i:Int)),(1,.int .i64 (u:Int)),(2,.pointer (some ⟨b2,0,none⟩)),(3,.pointer (some ⟨b3,0,none⟩)),(4,.pointer (some ⟨b4,0,none⟩)),(5,.pointer (some ⟨b5,0,none⟩)),(8,.pointer (some ⟨w0.heap.size,0,none⟩)),(12,.pointer (some ⟨g12,0,none⟩)),(13,.int .i64 (k:Int)),(14,.pointer (some ⟨g14,0,none⟩)),(16,.pointer (some ⟨g16,0,none⟩)),(46,vl),(47,.int .i64 L.length),(48,.int .i64 (k:Int))] a) (T3.pure fun hb=>((lc15 b2 b3 b4 b5 m n vs S vl L i u w0 hx hp hS hl hi hu hn hlt ih g12 hg k hk sv g14 g16 sv6).noX).post ?_) (fun a w ⟨hF,hq,hW⟩=>⟨hq.symm,hW,hF.tail⟩);rintro a w ⟨hW,hF⟩;refine⟨sv6,?_,hF⟩;rw [kX_hit hc hb];exact hW
 ·rintro a w ⟨hq,hW,hF⟩;refine⟨sv,⟨⟨hW.1.s,hW.1.o8⟩,?_⟩,hF.sub (by simp)⟩;rw [kX_miss hq.symm];exact hW.1.b
end
theorem lcb (k:Int):T3 Tryz.prog (fun a w=>∃(sv:Value),(0≤k∧k<L.length)∧((ClS w0 w m (nK n (costN (S.length-(i+1))) (k:Int).toNat) S L∧w.ownsRow w0.heap.size 103 3 (.slice (some ⟨w0.heap.size,0,none⟩) 1 1) 1 [.int .i64 0,.int .i64 0,.slice none 0 0])∧BxO m w0.heap.size w g12 (kX S L i u (k:Int).toNat) sv)∧Fr 108 [(0,.int .i64 (i:Int)),(1,.int .i64 (u:Int)),(2,.pointer (some ⟨b2,0,none⟩)),(3,.pointer (some ⟨b3,0,none⟩)),(4,.pointer (some ⟨b4,0,none⟩)),(5,.pointer (some ⟨b5,0,none⟩)),(8,.pointer (some ⟨w0.heap.size,0,none⟩)),(12,.pointer (some ⟨g12,0,none⟩)),(46,vl),(47,.int .i64 L.length),(48,.int .i64 k)] a) (sel [1,1,1,1,1,0,1,4,4,1,1,0] lcR) (fun a w=>∃(sv:Value),(0≤k∧k<L.length)∧((ClS w0 w m (nK n (costN (S.length-(i+1))) ((k+1):Int).toNat) S L∧w.ownsRow w0.heap.size 103 3 (.slice (some ⟨w0.heap.size,0,none⟩) 1 1) 1 [.int .i64 0,.int .i64 0,.slice none 0 0])∧BxO m w0.heap.size w g12 (kX S L i u ((k+1):Int).toNat) sv)∧Fr 108 [(0,.int .i64 (i:Int)),(1,.int .i64 (u:Int)),(2,.pointer (some ⟨b2,0,none⟩)),(3,.pointer (some ⟨b3,0,none⟩)),(4,.pointer (some ⟨b4,0,none⟩)),(5,.pointer (some ⟨b5,0,none⟩)),(8,.pointer (some ⟨w0.heap.size,0,none⟩)),(12,.pointer (some ⟨g12,0,none⟩)),(46,vl),(47,.int .i64 L.length),(48,.int .i64 k)] a) No 9 No:=by
 refine T3.ex fun sv=>T3.pure fun hh=>?_
 obtain⟨kn,rfl⟩:=Int.eq_ofNat_of_zero_le hh.1;refine T3.mono (lcB b2 b3 b4 b5 m n vs S vl L i u w0 hx hp hS hl hi hu hn hlt ih g12 hg kn (by omega) sv) ?_ ?_ (fun _ _ q=>q) (fun _ _ q=>q)
 ·rintro a w ⟨hW,hF⟩;rw [Int.toNat_natCast]at hW;exact⟨hW,hF⟩
 ·rintro a w ⟨sv2,hW,hF⟩;refine⟨sv2,hh,?_,hF⟩;rw [show((kn:Int)+1).toNat=kn+1 by omega];exact hW
end
def lcAI (b2 b3 b4 b5 m n:Nat)(vs:Value)(S:List SlD)(vl:Value)(L:List ScD)(i u:Nat)(w0:World)(hcx:ClX w0 b2 b3 b4 b5 m n vs S vl L)(hp:ScP L)(hS:S.length≤4)(hl:L.length≤6)(hi:i≤S.length)(hu:u<64)(hn:n+costN (S.length-i)≤10000)(hiS:i<S.length)(ih:∀(u2 n2:Nat) (w2:World),u2<64→ClX w2 b2 b3 b4 b5 m n2 vs S vl L→n2+costN (S.length-(i+1))≤10000→Calls Tryz.prog 61 #[.int .i64 ((i+1:Nat):Int),.int .i64 (u2:Int),.pointer (some ⟨b2,0,none⟩),.pointer (some ⟨b3,0,none⟩),.pointer (some ⟨b4,0,none⟩),.pointer (some ⟨b5,0,none⟩)] w2 fun e w3=>∃v,e=.returned v∧LuV m w3 (luM S L (i+1) u2) v∧MapL w3 m (n2+costN (S.length-(i+1))) S L∧w2.grownBy w3 (some m))(g12:Nat)(hg:w0.heap.size≠g12)(k:Int)(a:Act)(w:World):Prop:=(0≤k∧k≤L.length)∧∃(sv:Value),((ClS w0 w m (nK n (costN (S.length-(i+1))) (k:Int).toNat) S L∧w.ownsRow w0.heap.size 103 3 (.slice (some ⟨w0.heap.size,0,none⟩) 1 1) 1 [.int .i64 0,.int .i64 0,.slice none 0 0])∧BxO m w0.heap.size w g12 (kX S L i u (k:Int).toNat) sv)∧Fr 108 [(0,.int .i64 (i:Int)),(1,.int .i64 (u:Int)),(2,.pointer (some ⟨b2,0,none⟩)),(3,.pointer (some ⟨b3,0,none⟩)),(4,.pointer (some ⟨b4,0,none⟩)),(5,.pointer (some ⟨b5,0,none⟩)),(8,.pointer (some ⟨w0.heap.size,0,none⟩)),(12,.pointer (some ⟨g12,0,none⟩)),(46,vl),(47,.int .i64 L.length),(48,.int .i64 k)] a
section
variable (b2 b3 b4 b5 m n:Nat)(vs:Value)(S:List SlD)(vl:Value)(L:List ScD)(i u:Nat)(w0:World)(hcx:ClX w0 b2 b3 b4 b5 m n vs S vl L)(hp:ScP L)(hS:S.length≤4)(hl:L.length≤6)(hi:i≤S.length)(hu:u<64)(hn:n+costN (S.length-i)≤10000)(hiS:i<S.length)(ih:∀(u2 n2:Nat) (w2:World),u2<64→ClX w2 b2 b3 b4 b5 m n2 vs S vl L→n2+costN (S.length-(i+1))≤10000→Calls Tryz.prog 61 #[.int .i64 ((i+1:Nat):Int),.int .i64 (u2:Int),.pointer (some ⟨b2,0,none⟩),.pointer (some ⟨b3,0,none⟩),.pointer (some ⟨b4,0,none⟩),.pointer (some ⟨b5,0,none⟩)] w2 fun e w3=>∃v,e=.returned v∧LuV m w3 (luM S L (i+1) u2) v∧MapL w3 m (n2+costN (S.length-(i+1))) S L∧w2.grownBy w3 (some m))(g12:Nat)(hg:w0.heap.size≠g12)
include hcx hp hS hl hi hu hn hiS ih hg
theorem lcAt (k:Int):T3 Tryz.prog (fun a w=>lcAI b2 b3 b4 b5 m n vs S vl L i u w0 hcx hp hS hl hi hu hn hiS ih g12 hg k a w) (sel [1,1,1,1,1,0,1,4,4,0] lcR) (fun a w=>∃q,Fr 108 ((49,.bool q)::[(48,.int .i64 k)]) a∧((q=true↔k<L.length)∧lcAI b2 b3 b4 b5 m n vs S vl L i u w0 hcx hp hS hl hi hu hn hiS ih g12 hg k a w)) No 9 No:=by
 refine T3.leaf ?_;rintro Q JS JX JT K hS_ hK hX hE hT hR a w ⟨hk,sv,hW,⟨fr,rfl,q0,q1,q2,q3,q4,q5,q8,q12,q46,q47,q48,_⟩⟩;rw [fr_lcR,fe q0,fe q1,fe q2,fe q3,fe q4,fe q5,fe q8,fe q12,fe q46,fe q47,fe q48];clear q0 q1 q2 q3 q4 q5 q8 q12 q46 q47 q48;conv=>arg 2;whnf
 by_cases hlt:k<L.length
 ·go_wp2_with fail
  refine Met.intro (hS_ _ _ ?_);exact⟨true,Fr.r rfl rfl,⟨fun _=>hlt,fun _=>rfl⟩,hk,sv,hW,Fr.r rfl rfl⟩
 ·have hpb:decide (k<(L.length:Int))=false:=by simp;omega
  go_wp2_with fail
  refine Met.intro (hS_ _ _ ?_);exact⟨false,Fr.r rfl rfl,⟨(fun h=>by cases h),fun h=>absurd h (by omega)⟩,hk,sv,hW,Fr.r rfl rfl⟩
theorem lcAn (k:Int):T3 Tryz.prog (fun a w=>(0≤k∧k<L.length)∧∃(sv:Value),((ClS w0 w m (nK n (costN (S.length-(i+1))) ((k+1):Int).toNat) S L∧w.ownsRow w0.heap.size 103 3 (.slice (some ⟨w0.heap.size,0,none⟩) 1 1) 1 [.int .i64 0,.int .i64 0,.slice none 0 0])∧BxO m w0.heap.size w g12 (kX S L i u ((k+1):Int).toNat) sv)∧Fr 108 [(0,.int .i64 (i:Int)),(1,.int .i64 (u:Int)),(2,.pointer (some ⟨b2,0,none⟩)),(3,.pointer (some ⟨b3,0,none⟩)),(4,.pointer (some ⟨b4,0,none⟩)),(5,.pointer (some ⟨b5,0,none⟩)),(8,.pointer (some ⟨w0.heap.size,0,none⟩)),(12,.pointer (some ⟨g12,0,none⟩)),(46,vl),(47,.int .i64 L.length),(48,.int .i64 k)] a) (sel [1,1,1,1,1,0,1,4,4,1,1,1] lcR) (fun a w=>lcAI b2 b3 b4 b5 m n vs S vl L i u w0 hcx hp hS hl hi hu hn hiS ih g12 hg (k+1) a w) No 9 No:=by
 refine T3.leaf ?_;rintro Q JS JX JT K hS_ hK hX hE hT hR a w ⟨hk,sv,hW,⟨fr,rfl,q0,q1,q2,q3,q4,q5,q8,q12,q46,q47,q48,_⟩⟩;obtain⟨hk0,hk1⟩:=hk;rw [fr_lcR,fe q0,fe q1,fe q2,fe q3,fe q4,fe q5,fe q8,fe q12,fe q46,fe q47,fe q48];clear q0 q1 q2 q3 q4 q5 q8 q12 q46 q47 q48;conv=>arg 2;whnf
 go_wp2_with fail
 refine Met.intro (hS_ _ _ ?_);exact⟨⟨by omega,by omega⟩,sv,hW,Fr.r rfl rfl⟩
theorem lcAloop:T3 Tryz.prog (fun a w=>lcAI b2 b3 b4 b5 m n vs S vl L i u w0 hcx hp hS hl hi hu hn hiS ih g12 hg 0 a w) (sel [1,1,1,1,1,0,1] lcR) (fun a w=>∃(sv:Value),((ClS w0 w m (nK n (costN (S.length-(i+1))) L.length) S L∧w.ownsRow w0.heap.size 103 3 (.slice (some ⟨w0.heap.size,0,none⟩) 1 1) 1 [.int .i64 0,.int .i64 0,.slice none 0 0])∧BxO m w0.heap.size w g12 (luM S L i u) sv)∧Fr 108 [(0,.int .i64 (i:Int)),(1,.int .i64 (u:Int)),(2,.pointer (some ⟨b2,0,none⟩)),(3,.pointer (some ⟨b3,0,none⟩)),(4,.pointer (some ⟨b4,0,none⟩)),(5,.pointer (some ⟨b5,0,none⟩)),(8,.pointer (some ⟨w0.heap.size,0,none⟩)),(12,.pointer (some ⟨g12,0,none⟩))] a) No 9 No :=
 T3.range (I:=lcAI b2 b3 b4 b5 m n vs S vl L i u w0 hcx hp hS hl hi hu hn hiS ih g12 hg) rfl (by decide) (lcAt b2 b3 b4 b5 m n vs S vl L i u w0 hcx hp hS hl hi hu hn hiS ih g12 hg) (lcAn b2 b3 b4 b5 m n vs S vl L i u w0 hcx hp hS hl hi hu hn hiS ih g12 hg) (fun _ _ _ h=>h.1) (fun k hk=>T3.mono (lcb b2 b3 b4 b5 m n vs S vl L i u w0 hcx hp hS hl hi hu hn hiS ih g12 hg k) (fun a w ⟨_,sv,hI⟩=>⟨sv,hk,hI⟩) (fun a w ⟨sv,hk,hI⟩=>⟨hk,sv,hI⟩) (fun _ _ q=>q) (fun _ _ q=>q)) (fun a w hI=>by
  obtain⟨hk,hI⟩:=hI;obtain⟨sv,hW,hF⟩:=hI;rw [Int.toNat_natCast,luM_eq hiS]at hW;exact⟨sv,hW,hF.sub (by simp)⟩)
end
section
variable (b2 b3 b4 b5 m n:Nat)(vs:Value)(S:List SlD)(vl:Value)(L:List ScD)(i u:Nat)(w0:World)(hx:ClX w0 b2 b3 b4 b5 m n vs S vl L)(hp:ScP L)(hS:S.length≤4)(hl:L.length≤6)(hi:i≤S.length)(hu:u<64)(hn:n+costN (S.length-i)≤10000)(hlt:i<S.length)(ih:∀(u2 n2:Nat) (w2:World),u2<64→ClX w2 b2 b3 b4 b5 m n2 vs S vl L→n2+costN (S.length-(i+1))≤10000→Calls Tryz.prog 61 #[.int .i64 ((i+1:Nat):Int),.int .i64 (u2:Int),.pointer (some ⟨b2,0,none⟩),.pointer (some ⟨b3,0,none⟩),.pointer (some ⟨b4,0,none⟩),.pointer (some ⟨b5,0,none⟩)] w2 fun e w3=>∃v,e=.returned v∧LuV m w3 (luM S L (i+1) u2) v∧MapL w3 m (n2+costN (S.length-(i+1))) S L∧w2.grownBy w3 (some m))(g12:Nat)(hg:w0.heap.size≠g12)(sv:Value)
include hx hp hS hl hi hu hn hlt ih hg sv
theorem lc17:T3 Tryz.prog (fun a w=>((ClS w0 w m (nK n (costN (S.length-(i+1))) L.length) S L∧w.ownsRow w0.heap.size 103 3 (.slice (some ⟨w0.heap.size,0,none⟩) 1 1) 1 [.int .i64 0,.int .i64 0,.slice none 0 0])∧BxO m w0.heap.size w g12 (luM S L i u) sv)∧Fr 108 [(0,.int .i64 (i:Int)),(1,.int .i64 (u:Int)),(2,.pointer (some ⟨b2,0,none⟩)),(3,.pointer (some ⟨b3,0,none⟩)),(4,.pointer (some ⟨b4,0,none⟩)),(5,.pointer (some ⟨b5,0,none⟩)),(8,.pointer (some ⟨w0.heap.size,0,none⟩)),(12,.pointer (some ⟨g12,0,none⟩))] a) (sel [1,1,1,1,1,1,0] lcR) (fun a w=>((ClS w0 w m (nK n (costN (S.length-(i+1))) L.length+1) S L∧w.ownsRow w0.heap.size 103 3 (.slice (some ⟨w0.heap.size,0,none⟩) 1 1) 1 [.int .i64 0,.int .i64 0,.slice none 0 0])∧BxO m w0.heap.size w g12 (luM S L i u) sv)∧Fr 108 [(0,.int .i64 (i:Int)),(1,.int .i64 (u:Int)),(2,.pointer (some ⟨b2,0,none⟩)),(3,.pointer (some ⟨b3,0,none⟩)),(4,.pointer (some ⟨b4,0,none⟩)),(5,.pointer (some ⟨b5,0,none⟩)),(8,.pointer (some ⟨w0.heap.size,0,none⟩)),(12,.pointer (some ⟨g12,0,none⟩))] a) No 9 No:=by
 refine T3.leaf ?_;rintro Q JS JX JT K hS_ hK hX hE hT hR a w ⟨hW,⟨fr,rfl,q0,q1,q2,q3,q4,q5,q8,q12,_⟩⟩;have hml:m<w0.heap.size:=by obtain⟨es,cl,hb,_⟩:=hx.mp;exact(Array.getElem?_eq_some_iff.1 hb).1
 have hcs:costN (S.length-i)=1+7*costN (S.length-(i+1)):=by
  rw [show S.length-i=(S.length-(i+1))+1 by omega];rfl
 have hi5:i<5:=by omega
 have X:=hW.1.1.x hx;have c3:=X.c3;obtain⟨t0,t1,t2,hrr⟩:=hW.2.b;have hnk:=nK_le (n:=n) (c:=costN (S.length-(i+1))) (k:=L.length) (by omega);obtain⟨w',hrun,hmp,hg'⟩:=hW.1.1.mp.store (show i<5 by omega) hu (by omega) (v:=.agg #[.int .i64 (luM S L i u).sum,.int .i64 (luM S L i u).many,sv]) ⟨sv,rfl,hrr⟩;unfold keyV at hrun;have HF:=Lib.hid (show(ClS w0 w' m (nK n (costN (S.length-(i+1))) L.length+1) S L∧w'.ownsRow w0.heap.size 103 3 (.slice (some ⟨w0.heap.size,0,none⟩) 1 1) 1 [.int .i64 0,.int .i64 0,.slice none 0 0])∧BxO m w0.heap.size w' g12 (luM S L i u) sv from
  ⟨⟨hW.1.1.call hg' hmp,hW.1.2.kept hg' (.inr (by simp [Value.ownBlock];omega))⟩,hW.2.keep hg' hml⟩)
 obtain⟨p5,c5,rfl⟩:=hrr.row.shape;clear hW X hx hp ih hn hrr hmp hg' hcs hnk;generalize luM S L i u=lm at *;rw [fr_lcR,fe q0,fe q1,fe q2,fe q3,fe q4,fe q5,fe q8,fe q12];clear q0 q1 q2 q3 q4 q5 q8 q12;conv=>arg 2;whnf
 go_wp2_with fail
 refine Met.intro (hS_ _ _ ?_);exact⟨HF.out,Fr.r rfl rfl⟩
theorem lc18:T3 Tryz.prog (fun a w=>((ClS w0 w m (nK n (costN (S.length-(i+1))) L.length+1) S L∧w.ownsRow w0.heap.size 103 3 (.slice (some ⟨w0.heap.size,0,none⟩) 1 1) 1 [.int .i64 0,.int .i64 0,.slice none 0 0])∧BxO m w0.heap.size w g12 (luM S L i u) sv)∧Fr 108 [(0,.int .i64 (i:Int)),(1,.int .i64 (u:Int)),(2,.pointer (some ⟨b2,0,none⟩)),(3,.pointer (some ⟨b3,0,none⟩)),(4,.pointer (some ⟨b4,0,none⟩)),(5,.pointer (some ⟨b5,0,none⟩)),(8,.pointer (some ⟨w0.heap.size,0,none⟩)),(12,.pointer (some ⟨g12,0,none⟩))] a) (sel [1,1,1,1,1,1,1,0] lcR) (fun a w=>∃(sv:Value),(ClS w0 w m (nK n (costN (S.length-(i+1))) L.length+1) S L∧BxO m w0.heap.size w w0.heap.size (luM S L i u) sv)∧Fr 108 [(8,.pointer (some ⟨w0.heap.size,0,none⟩))] a) No 9 No:=by
 refine T3.leaf ?_;rintro Q JS JX JT K hS_ hK hX hE hT hR a w ⟨hW,⟨fr,rfl,q0,q1,q2,q3,q4,q5,q8,q12,_⟩⟩;have hml:m<w0.heap.size:=by obtain⟨es,cl,hb,_⟩:=hx.mp;exact(Array.getElem?_eq_some_iff.1 hb).1
 have hW8:=hW.1.2;obtain⟨t0,t1,t2,hrr⟩:=hW.2.b;obtain⟨r0,r1,r2⟩:=cells8 hW8;have f0:=owns_frozenC hW8 0;have f1:=owns_frozenC hW8 1;have f2:=owns_frozenC hW8 2;have HF:=Lib.hid (And.intro (hW.1.1.put3 hW8 hml (.int .i64 (luM S L i u).sum) (.int .i64 (luM S L i u).many) sv) (BxO.put (m:=m) (y:=(luM S L i u)) (sy:=sv) hW8 hrr));obtain⟨q,d,rfl⟩:=hrr.row.shape;clear hW hW8 hx hp ih hn hrr;generalize (luM S L i u)=lm at *;rw [fr_lcR,fe q0,fe q1,fe q2,fe q3,fe q4,fe q5,fe q8,fe q12];clear q0 q1 q2 q3 q4 q5 q8 q12;conv=>arg 2;whnf
 go_wp2_with fail
 refine Met.intro (hS_ _ _ ?_);exact⟨_,HF.out,Fr.of _ rfl ⟨rfl,trivial⟩⟩
end
section
variable (b2 b3 b4 b5 m n:Nat)(vs:Value)(S:List SlD)(vl:Value)(L:List ScD)(i u:Nat)(w0:World)(hx:ClX w0 b2 b3 b4 b5 m n vs S vl L)(hp:ScP L)(hS:S.length≤4)(hl:L.length≤6)(hi:i≤S.length)(hu:u<64)(hn:n+costN (S.length-i)≤10000)(ih:i<S.length→∀(u2 n2:Nat) (w2:World),u2<64→ClX w2 b2 b3 b4 b5 m n2 vs S vl L→n2+costN (S.length-(i+1))≤10000→Calls Tryz.prog 61 #[.int .i64 ((i+1:Nat):Int),.int .i64 (u2:Int),.pointer (some ⟨b2,0,none⟩),.pointer (some ⟨b3,0,none⟩),.pointer (some ⟨b4,0,none⟩),.pointer (some ⟨b5,0,none⟩)] w2 fun e w3=>∃v,e=.returned v∧LuV m w3 (luM S L (i+1) u2) v∧MapL w3 m (n2+costN (S.length-(i+1))) S L∧w2.grownBy w3 (some m))
include hx hp hS hl hi hu hn ih
theorem lc_all:T3 Tryz.prog (fun a w=>(IsW w0 w)∧Fr 108 [(0,.int .i64 (i:Int)),(1,.int .i64 (u:Int)),(2,.pointer (some ⟨b2,0,none⟩)),(3,.pointer (some ⟨b3,0,none⟩)),(4,.pointer (some ⟨b4,0,none⟩)),(5,.pointer (some ⟨b5,0,none⟩))] a) lcR No No 9 (fun a w=>∃sv:Value,(ClS w0 w m (n+costN (S.length-i)) S L∧BxO m w0.heap.size w w0.heap.size (luM S L i u) sv)∧Fr 108 [(8,.pointer (some ⟨w0.heap.size,0,none⟩))] a):=by
 refine T3.seq (s:=(sel [0] lcR)) (c:=(sel [1] lcR)) (T3.noT (lc0 b2 b3 b4 b5 m n vs S vl L i u w0 hx hp hS hl hi hu hn)) ?_;refine T3.sq rfl (S:=fun a w=>(i<S.length)∧(ClS w0 w m (n) S L∧w.ownsRow w0.heap.size 103 3 (.slice (some ⟨w0.heap.size,0,none⟩) 1 1) 1 [.int .i64 0,.int .i64 0,.slice none 0 0])∧Fr 108 [(0,.int .i64 (i:Int)),(1,.int .i64 (u:Int)),(2,.pointer (some ⟨b2,0,none⟩)),(3,.pointer (some ⟨b3,0,none⟩)),(4,.pointer (some ⟨b4,0,none⟩)),(5,.pointer (some ⟨b5,0,none⟩)),(8,.pointer (some ⟨w0.heap.size,0,none⟩))] a) ?_ (T3.pure fun hlt=>?_)
 ·refine T3.tt rfl (C:=fun q=>(q=((i:Int)==(S.length:Int)))) (W:=fun w=>ClS w0 w m (n) S L∧w.ownsRow w0.heap.size 103 3 (.slice (some ⟨w0.heap.size,0,none⟩) 1 1) 1 [.int .i64 0,.int .i64 0,.slice none 0 0]) (by decide) (T3.noT (lc1 b2 b3 b4 b5 m n vs S vl L i u w0 hx hp hS hl hi hu hn)) ?_ (T3.skip ?_)
  ·refine T3.pre (R:=fun a w=>(i=S.length)∧(ClS w0 w m (n) S L∧w.ownsRow w0.heap.size 103 3 (.slice (some ⟨w0.heap.size,0,none⟩) 1 1) 1 [.int .i64 0,.int .i64 0,.slice none 0 0])∧Fr 108 [(0,.int .i64 (i:Int)),(1,.int .i64 (u:Int)),(2,.pointer (some ⟨b2,0,none⟩)),(3,.pointer (some ⟨b3,0,none⟩)),(4,.pointer (some ⟨b4,0,none⟩)),(5,.pointer (some ⟨b5,0,none⟩)),(8,.pointer (some ⟨w0.heap.size,0,none⟩))] a) (T3.pure fun he=>?_) (fun a w ⟨hF,hq,hW⟩=>⟨by have:=hq.symm;simp at this;omega,hW,hF.tail⟩);refine T3.sr rfl (T3.noT (lc2 b2 b3 b4 b5 m n vs S vl L i u w0 hx hp hS hl hi hu hn)) (T3.ret ?_);rintro a w ⟨sv,⟨hs,hb⟩,hF⟩;refine⟨sv,⟨⟨hs.g,hs.mp.mono (by omega)⟩,?_⟩,hF⟩;have e:luM S L i u=⟨0,0,[]⟩:=by unfold luM;rw [show S.length-i=0 by omega];rfl
   rw [e];exact hb
  ·rintro a w ⟨hq,hW,hF⟩;exact⟨by have:=hq.symm;simp at this;omega,hW,hF⟩
 have hcs:costN (S.length-i)=1+7*costN (S.length-(i+1)):=by
  rw [show S.length-i=(S.length-(i+1))+1 by omega];rfl
 refine T3.sq rfl (S:=fun a w=>(ClS w0 w m (n) S L∧w.ownsRow w0.heap.size 103 3 (.slice (some ⟨w0.heap.size,0,none⟩) 1 1) 1 [.int .i64 0,.int .i64 0,.slice none 0 0])∧Fr 108 [(0,.int .i64 (i:Int)),(1,.int .i64 (u:Int)),(2,.pointer (some ⟨b2,0,none⟩)),(3,.pointer (some ⟨b3,0,none⟩)),(4,.pointer (some ⟨b4,0,none⟩)),(5,.pointer (some ⟨b5,0,none⟩)),(8,.pointer (some ⟨w0.heap.size,0,none⟩))] a) ?_ ?_
 ·refine T3.sq rfl (T3.noT (lc3 b2 b3 b4 b5 m n vs S vl L i u w0 hx hp hS hl hi hu hn)) (T3.ex fun g9=>T3.ex fun ok=>?_);refine T3.tt rfl (C:=fun q=>(q=ok)) (W:=fun w=>(ClS w0 w m (n) S L∧w.ownsRow w0.heap.size 103 3 (.slice (some ⟨w0.heap.size,0,none⟩) 1 1) 1 [.int .i64 0,.int .i64 0,.slice none 0 0])∧(ok=true→∃sv,Bx3 m w g9 (luM S L i u) sv)) (by decide) (T3.noT (lc4 b2 b3 b4 b5 m n vs S vl L i u w0 hx hp hS hl hi hu hn g9 ok)) ?_ (T3.skip ?_)
  ·refine T3.pre (R:=fun a w=>∃sv:Value,((ClS w0 w m (n) S L∧w.ownsRow w0.heap.size 103 3 (.slice (some ⟨w0.heap.size,0,none⟩) 1 1) 1 [.int .i64 0,.int .i64 0,.slice none 0 0])∧Bx3 m w g9 (luM S L i u) sv)∧Fr 108 [(0,.int .i64 (i:Int)),(1,.int .i64 (u:Int)),(2,.pointer (some ⟨b2,0,none⟩)),(3,.pointer (some ⟨b3,0,none⟩)),(4,.pointer (some ⟨b4,0,none⟩)),(5,.pointer (some ⟨b5,0,none⟩)),(8,.pointer (some ⟨w0.heap.size,0,none⟩)),(9,.pointer (some ⟨g9,0,none⟩))] a) (T3.ex fun sv=>?_) ?_
   ·refine T3.sr rfl (T3.noT (lc5 b2 b3 b4 b5 m n vs S vl L i u w0 hx hp hS hl hi hu hn g9 sv)) (T3.ret ?_);rintro a w ⟨sv2,⟨hs,hb⟩,hF⟩;exact⟨sv2,⟨⟨hs.g,hs.mp.mono (by omega)⟩,hb⟩,hF⟩
   ·rintro a w ⟨hF,hq,hW⟩;obtain⟨sv,hb⟩:=hW.2 hq.symm;exact⟨sv,⟨hW.1,hb⟩,hF.sub (by simp)⟩
  ·rintro a w ⟨hq,hW,hF⟩;exact⟨hW.1,hF.sub (by simp)⟩
 refine T3.sq rfl (T3.noT (lc6 b2 b3 b4 b5 m n vs S vl L i u w0 hx hp hS hl hi hu hn hlt (ih hlt))) ?_;refine T3.ex fun g11=>T3.ex fun sv=>?_
 refine T3.sq rfl (T3.noT (lc7 b2 b3 b4 b5 m n vs S vl L i u w0 hx hp hS hl hi hu hn hlt (ih hlt) g11 sv)) ?_;refine T3.ex fun g12=>T3.ex fun sz=>?_
 refine T3.pre (R:=fun a w=>(w0.heap.size≠g12)∧((ClS w0 w m (n+costN (S.length-(i+1))) S L∧w.ownsRow w0.heap.size 103 3 (.slice (some ⟨w0.heap.size,0,none⟩) 1 1) 1 [.int .i64 0,.int .i64 0,.slice none 0 0])∧BxO m w0.heap.size w g12 (kZ S L i u) sz)∧Fr 108 [(0,.int .i64 (i:Int)),(1,.int .i64 (u:Int)),(2,.pointer (some ⟨b2,0,none⟩)),(3,.pointer (some ⟨b3,0,none⟩)),(4,.pointer (some ⟨b4,0,none⟩)),(5,.pointer (some ⟨b5,0,none⟩)),(8,.pointer (some ⟨w0.heap.size,0,none⟩)),(12,.pointer (some ⟨g12,0,none⟩))] a) (T3.pure fun hg=>?_) (fun a w ⟨hW,hF⟩=>⟨fun e=>hW.2.2 e.symm,⟨hW.1,hW.2.1⟩,hF⟩);refine T3.sq rfl (T3.noT (T3.seq (s:=(sel [1,1,1,1,1,0,0] lcR)) (c:=(sel [1,1,1,1,1,0,1] lcR)) (lc8 b2 b3 b4 b5 m n vs S vl L i u w0 hx hp hS hl hi hu hn hlt (ih hlt) g12 hg sz) (lcAloop b2 b3 b4 b5 m n vs S vl L i u w0 hx hp hS hl hi hu hn hlt (ih hlt) g12 hg))) ?_;refine T3.ex fun sv=>?_
 refine T3.sq rfl (T3.noT (lc17 b2 b3 b4 b5 m n vs S vl L i u w0 hx hp hS hl hi hu hn hlt (ih hlt) g12 hg sv)) ?_;refine T3.sr rfl (T3.noT (lc18 b2 b3 b4 b5 m n vs S vl L i u w0 hx hp hS hl hi hu hn hlt (ih hlt) g12 hg sv)) (T3.ret ?_);rintro a w ⟨sv2,⟨hs,hb⟩,hF⟩;have hnk:=nK_le (n:=n) (c:=costN (S.length-(i+1))) (k:=L.length) (by omega);exact⟨sv2,⟨⟨hs.g,hs.mp.mono (by omega)⟩,hb⟩,hF⟩
theorem lc_one:Calls Tryz.prog 61 #[.int .i64 (i:Int),.int .i64 (u:Int),.pointer (some ⟨b2,0,none⟩),.pointer (some ⟨b3,0,none⟩),.pointer (some ⟨b4,0,none⟩),.pointer (some ⟨b5,0,none⟩)] w0 fun e w3=>∃v,e=.returned v∧LuV m w3 (luM S L i u) v∧MapL w3 m (n+costN (S.length-i)) S L∧w0.grownBy w3 (some m):=by
 have hall:=lc_all b2 b3 b4 b5 m n vs S vl L i u w0 hx hp hS hl hi hu hn ih;clear hp ih
 go_enter Tryz.func61,Tryz.ntmps61
 refine T3.done (s:=lcR) hall ⟨rfl,Fr.r rfl rfl⟩ ?_;rintro a w ⟨sv,⟨hs,hb⟩,fr,rfl,q8,_⟩;rw [fr_lcR,fe q8];obtain⟨r0,r1,r2,hr⟩:=hb.b;exact bodyPost_ret (v:=.agg #[.int .i64 (luM S L i u).sum,.int .i64 (luM S L i u).many,sv]) (by simp [results,Tryz.results61,go_sem,r0,r1,r2]) rfl ⟨_,rfl,⟨sv,rfl,hr⟩,hs.mp,hs.g⟩
end
theorem lc_any (b2 b3 b4 b5 m:Nat)(vs:Value)(S:List SlD)(vl:Value)(L:List ScD)(hp:ScP L)(hS:S.length≤4)(hl:L.length≤6):∀(r i:Nat),i+r=S.length→∀(u n:Nat) (w0:World),u<64→ClX w0 b2 b3 b4 b5 m n vs S vl L→n+costN r≤10000 →
  Calls Tryz.prog 61 #[.int .i64 (i:Int),.int .i64 (u:Int),.pointer (some ⟨b2,0,none⟩),.pointer (some ⟨b3,0,none⟩),.pointer (some ⟨b4,0,none⟩),.pointer (some ⟨b5,0,none⟩)] w0 fun e w3=>∃v,e=.returned v∧LuV m w3 (luM S L i u) v∧MapL w3 m (n+costN r) S L∧w0.grownBy w3 (some m)
 | 0,i,hi,u,n,w0,hu,hx,hn=>by
  have:=lc_one b2 b3 b4 b5 m n vs S vl L i u w0 hx hp hS hl (by omega) hu (by rw [show S.length-i=0 by omega];exact hn) (fun h=>by omega)
  rwa [show S.length-i=0 by omega]at this
 | r+1,i,hi,u,n,w0,hu,hx,hn=>by
  have hr:S.length-i=r+1:=by omega
  have hr1:S.length-(i+1)=r:=by omega
  have:=lc_one b2 b3 b4 b5 m n vs S vl L i u w0 hx hp hS hl (by omega) hu (by rw [hr];exact hn) (fun _ u2 n2 w2 h1 h2 h3=>by
   rw [hr1]at h3 ⊢;exact lc_any b2 b3 b4 b5 m vs S vl L hp hS hl r (i+1) (by omega) u2 n2 w2 h1 h2 h3)
  rwa [hr]at this
end Go.Proofs.YtnmdpphddimfbaaGreat
/-
  The reference's best line-ups (BestOf). Conditions: at most 4 slots and 6 scorers; points are right.
-/
namespace Go.Proofs.YtnmdpphddimfbaaGreat
open Go.RowKit Go.Bw
def fwK (S:List SlD)(who:List ByteArray):Nat→List FlD
 | 0=>[]
 | k+1=>fwK S who k++[⟨(geta S (k:Int)).key,geta who (k:Int)⟩]
theorem fwK_len (S:List SlD)(who:List ByteArray):∀k,(fwK S who k).length=k
 | 0=>rfl
 | k+1=>by show(_++[_]).length=_;rw [List.length_append,fwK_len S who k];rfl
def refX (S:List SlD)(L:List ScD):LuR:=luS S L S.length 0 (fun _=>false)
def refF (S:List SlD)(L:List ScD):List FlD:=fwK S (refX S L).who S.length
theorem ref_eq (S:List SlD)(L:List ScD):luM S L 0 0=refX S L:=by
 have e:bitU 0=fun _=>false:=by funext j;unfold bitU;exact Nat.zero_testBit j
 unfold luM refX;rw [e,Nat.sub_zero]
theorem refX_len (S:List SlD)(L:List ScD):(refX S L).who.length=S.length:=luS_len S L _ _ _
noncomputable def lvR:Code:=(Tryz.f21.body).getD .skip
theorem fr_lvR (f:Nat→Value):frame 38 f=⟨#[f 0,f 1,f 2,f 3,f 4,f 5,f 6,f 7,f 8,f 9,f 10,f 11,f 12,f 13,f 14,f 15,f 16,f 17,f 18,f 19,f 20,f 21,f 22,f 23,f 24,f 25,f 26,f 27,f 28,f 29,f 30,f 31,f 32,f 33,f 34,f 35,f 36,f 37],[]⟩:=by rfl
section
variable (vs:Value)(S:List SlD)(vl:Value)(L:List ScD)(w0:World)(hs:SlH w0 vs S)(hl:ScH w0 vl L)(hp:ScP L)(hS:S.length≤4)(hL6:L.length≤6)
include hs hl hp hS hL6
theorem lv0:T3 Tryz.prog (fun a w=>(Below w0.heap.size w0 w)∧Fr 38 [(0,vs),(1,vl)] a) (sel [0] lvR) (fun a w=>∃(b2 b5:Nat),(Below w0.heap.size w0 w∧(w.cell? ⟨b2,0,none⟩=some (vs)∧w.cell? ⟨b5,0,none⟩=some (vl)))∧Fr 38 [(2,.pointer (some ⟨b2,0,none⟩)),(3,.pointer (some ⟨b5,0,none⟩))] a) No 9 No:=by
 refine T3.leaf ?_;rintro Q JS JX JT K hS_ hK hX hE hT hR a w ⟨hW,⟨fr,rfl,q0,q1,_⟩⟩;have h1:=hW.alloc hW.size (.cells #[vs] 26);have h2:=h1.alloc h1.size (.cells #[vl] 28);have hb:=(Below.refl (w.alloc (.cells #[vs] 26)).heap.size (w.alloc (.cells #[vs] 26))).alloc (Nat.le_refl _) (.cells #[vl] 28);have k0:=(hb.cell (p:=⟨w.heap.size,0,none⟩) (by simp)).trans (cells_new w #[vs] 26 0 _ rfl);have k1:=cells_at (w.alloc (.cells #[vs] 26)) #[vl] 28 (w.heap.size+1) (by simp) 0 _ rfl;have HF:=Lib.hid (And.intro h2 (And.intro k0 k1));obtain⟨ps,cs,rfl⟩:=hs.r.shape;obtain⟨pl,cl,rfl⟩:=hl.r.shape;clear hW h1 h2 hb k0 k1 hs hl hp;rw [fr_lvR,fe q0,fe q1];clear q0 q1;conv=>arg 2;whnf
 go_wp2_with fail
 refine Met.intro (hS_ _ _ ?_);exact⟨_,_,HF.out,Fr.r rfl rfl⟩
theorem lv1 (b2 b5:Nat):T3 Tryz.prog (fun a w=>(Below w0.heap.size w0 w∧(w.cell? ⟨b2,0,none⟩=some (vs)∧w.cell? ⟨b5,0,none⟩=some (vl)))∧Fr 38 [(2,.pointer (some ⟨b2,0,none⟩)),(3,.pointer (some ⟨b5,0,none⟩))] a) (sel [1,0] lvR) (fun a w=>∃(b3 m:Nat),((Below w0.heap.size w0 w∧(w.cell? ⟨b2,0,none⟩=some (vs)∧w.cell? ⟨b5,0,none⟩=some (vl)))∧MapL w m 0 S L∧(w0.heap.size≤m∧w.cell? ⟨b3,0,none⟩=some (.map (some m))))∧Fr 38 [(2,.pointer (some ⟨b2,0,none⟩)),(3,.pointer (some ⟨b5,0,none⟩)),(6,.pointer (some ⟨b3,0,none⟩))] a) No 9 No:=by
 refine T3.leaf ?_;rintro Q JS JX JT K hS_ hK hX hE hT hR a w ⟨hW,⟨fr,rfl,q2,q3,_⟩⟩;have hmm:=@run_makeMap Tryz.prog;have a1:=(Below.refl w.heap.size w).alloc (Nat.le_refl _) (.map #[] 0);have hM:MapL (w.alloc (.map #[] 0)) w.heap.size 0 S L:=MapL.made w;have a2:=(Below.refl (w.alloc (.map #[] 0)).heap.size (w.alloc (.map #[] 0))).alloc (Nat.le_refl _) (.cells #[.map (some w.heap.size)] 100);have a12:=a1.trans (a2.mono a1.size);have HF:=Lib.hid (show(Below w0.heap.size w0 ((w.alloc (.map #[] 0)).alloc (.cells #[.map (some w.heap.size)] 100))∧_∧_)∧_∧_∧_ from
  ⟨⟨hW.1.trans (a12.mono hW.1.size),(a12.cell (p:=⟨b2,0,none⟩) (World.block_lt_of_cell? w _ hW.2.1)).trans hW.2.1,(a12.cell (p:=⟨b5,0,none⟩) (World.block_lt_of_cell? w _ hW.2.2)).trans hW.2.2⟩,hM.below a2,hW.1.size,cells_at (w.alloc (.map #[] 0)) #[.map (some w.heap.size)] 100 (w.heap.size+1) (by simp) 0 _ rfl⟩)
 clear hW a1 hM a2 a12 hs hl hp;rw [fr_lvR,fe q2,fe q3];clear q2 q3;conv=>arg 2;whnf
 go_wp2_with fail
 refine Met.intro (hS_ _ _ ?_);exact⟨_,_,HF.out,Fr.r rfl rfl⟩
section
variable (b2 b5:Nat)(b3 m:Nat)
include b2 b5 b3 m
theorem lv2:T3 Tryz.prog (fun a w=>((Below w0.heap.size w0 w∧(w.cell? ⟨b2,0,none⟩=some (vs)∧w.cell? ⟨b5,0,none⟩=some (vl)))∧MapL w m 0 S L∧(w0.heap.size≤m∧w.cell? ⟨b3,0,none⟩=some (.map (some m))))∧Fr 38 [(2,.pointer (some ⟨b2,0,none⟩)),(3,.pointer (some ⟨b5,0,none⟩)),(6,.pointer (some ⟨b3,0,none⟩))] a) (sel [1,1,0] lvR) (fun a w=>∃(b4:Nat),(((Below w0.heap.size w0 w∧(w.cell? ⟨b2,0,none⟩=some (vs)∧w.cell? ⟨b5,0,none⟩=some (vl)))∧MapL w m 0 S L∧(w0.heap.size≤m∧w.cell? ⟨b3,0,none⟩=some (.map (some m))))∧(∃z:Value,w.ownsRow (m+1) 101 1 (.slice (some ⟨b4,0,none⟩) 1 1) 1 [z])∧b2≠b4∧b5≠b4∧b3≠b4∧w0.heap.size≤b4)∧Fr 38 [(2,.pointer (some ⟨b2,0,none⟩)),(3,.pointer (some ⟨b5,0,none⟩)),(6,.pointer (some ⟨b3,0,none⟩)),(7,.pointer (some ⟨b4,0,none⟩))] a) No 9 No:=by
 refine T3.leaf ?_;rintro Q JS JX JT K hS_ hK hX hE hT hR a w ⟨hW,⟨fr,rfl,q2,q3,q6,_⟩⟩;have hml:m<w.heap.size:=by obtain⟨es,cl,hb,_⟩:=hW.2.1;exact(Array.getElem?_eq_some_iff.1 hb).1
 have l2:=World.block_lt_of_cell? w _ hW.1.2.1;have l5:=World.block_lt_of_cell? w _ hW.1.2.2;have l3:=World.block_lt_of_cell? w _ hW.2.2.2;simp only at l2 l5 l3;have HB:=Lib.hid (fun(z:Value)=>(Below.refl w.heap.size w).alloc (Nat.le_refl _) (.cells #[z] 101));have HO:=Lib.hid (fun(z:Value)=>owns_lit w (m+1) 101 #[z] 1 (by decide) rfl hml);have HW:=Lib.hid (fun(w':World) (a12:Below w.heap.size w w')=>(show(Below w0.heap.size w0 w'∧w'.cell? ⟨b2,0,none⟩=some vs∧w'.cell? ⟨b5,0,none⟩=some vl)∧MapL w' m 0 S L∧(w0.heap.size≤m∧w'.cell? ⟨b3,0,none⟩=some (.map (some m)))from
  ⟨⟨hW.1.1.trans (a12.mono hW.1.1.size),(a12.cell (p:=⟨b2,0,none⟩) l2).trans hW.1.2.1,(a12.cell (p:=⟨b5,0,none⟩) l5).trans hW.1.2.2⟩,hW.2.1.below a12,hW.2.2.1,(a12.cell (p:=⟨b3,0,none⟩) l3).trans hW.2.2.2⟩))
 have hz:=hW.1.1.size;clear hW hs hl hp;rw [fr_lvR,fe q2,fe q3,fe q6];clear q2 q3 q6;conv=>arg 2;whnf
 go_wp2_with fail
 refine Met.intro (hS_ _ _ ?_);exact⟨_,⟨HW.out _ (HB.out _),⟨_,HO.out _⟩,by omega,by omega,by omega,hz⟩,Fr.r rfl rfl⟩
theorem lv3 (b4:Nat):T3 Tryz.prog (fun a w=>(((Below w0.heap.size w0 w∧(w.cell? ⟨b2,0,none⟩=some (vs)∧w.cell? ⟨b5,0,none⟩=some (vl)))∧MapL w m 0 S L∧(w0.heap.size≤m∧w.cell? ⟨b3,0,none⟩=some (.map (some m))))∧(∃z:Value,w.ownsRow (m+1) 101 1 (.slice (some ⟨b4,0,none⟩) 1 1) 1 [z])∧b2≠b4∧b5≠b4∧b3≠b4∧w0.heap.size≤b4)∧Fr 38 [(2,.pointer (some ⟨b2,0,none⟩)),(3,.pointer (some ⟨b5,0,none⟩)),(6,.pointer (some ⟨b3,0,none⟩)),(7,.pointer (some ⟨b4,0,none⟩))] a) (sel [1,1,1,0] lvR) (fun a w=>((Below w0.heap.size w0 w∧w0.heap.size≤m)∧ClX w b2 b3 b4 b5 m 0 vs S vl L)∧Fr 38 [(2,.pointer (some ⟨b2,0,none⟩)),(7,.pointer (some ⟨b4,0,none⟩))] a) No 9 No:=by
 refine T3.leaf ?_;rintro Q JS JX JT K hS_ hK hX hE hT hR a w ⟨hW,⟨fr,rfl,q2,q3,q6,q7,_⟩⟩;obtain⟨z,ho⟩:=hW.2.1;obtain⟨n2,n5,n3,nb⟩:=hW.2.2;have t0:w.cell? ⟨b4,0,none⟩=some z:=by
  rcases(Row.of_owns ho).2 with ⟨h0,_⟩|⟨g',off,cap,hv,_,_,_,_,hc⟩
  ·cases h0
  ·simp only [Value.slice.injEq,Option.some.injEq,Addr.mk.injEq]at hv;obtain⟨⟨rfl,rfl,_⟩,_,_⟩:=hv;exact hc 0 _ rfl
 have f0:=owns_frozenC ho 0;have hb:Below w0.heap.size w0 (w.setCell ⟨b4,0,none⟩ (.func (.func 61) #[] #[.pointer (some ⟨b2,0,none⟩),.pointer (some ⟨b3,0,none⟩),.pointer (some ⟨b4,0,none⟩),.pointer (some ⟨b5,0,none⟩)])):=hW.1.1.1.setCell (p:=⟨b4,0,none⟩) nb _;have HF:=Lib.hid (show(Below w0.heap.size w0 (w.setCell ⟨b4,0,none⟩ (.func (.func 61) #[] #[.pointer (some ⟨b2,0,none⟩),.pointer (some ⟨b3,0,none⟩),.pointer (some ⟨b4,0,none⟩),.pointer (some ⟨b5,0,none⟩)]))∧w0.heap.size≤m)∧ClX (w.setCell ⟨b4,0,none⟩ (.func (.func 61) #[] #[.pointer (some ⟨b2,0,none⟩),.pointer (some ⟨b3,0,none⟩),.pointer (some ⟨b4,0,none⟩),.pointer (some ⟨b5,0,none⟩)])) b2 b3 b4 b5 m 0 vs S vl L from
  ⟨⟨hb,hW.1.2.2.1⟩,by rw [World.cell?_setCell_other _ _ _ _ (by simp [n2])];exact hW.1.1.2.1,by rw [World.cell?_setCell_other _ _ _ _ (by simp [n3])];exact hW.1.2.2.2,
   World.cell?_setCell_same' _ _ _ (by rw [t0];rfl),by rw [World.cell?_setCell_other _ _ _ _ (by simp [n5])];exact hW.1.1.2.2,hs.below hb,hl.below hb,hW.1.2.1.other ho (by decide) (by omega) (grown_setCell w b4 0 _)⟩)
 clear hW ho hb hs hl hp n2 n5 n3 nb;rw [fr_lvR,fe q2,fe q3,fe q6,fe q7];clear q2 q3 q6 q7;conv=>arg 2;whnf
 go_wp2_with fail
 refine Met.intro (hS_ _ _ ?_);exact⟨HF.out,Fr.r rfl rfl⟩
theorem lv4 (b4:Nat):T3 Tryz.prog (fun a w=>((Below w0.heap.size w0 w∧w0.heap.size≤m)∧ClX w b2 b3 b4 b5 m 0 vs S vl L)∧Fr 38 [(2,.pointer (some ⟨b2,0,none⟩)),(7,.pointer (some ⟨b4,0,none⟩))] a) (sel [1,1,1,1,0] lvR) (fun a w=>∃(g8:Nat) (sv:Value),((Below w0.heap.size w0 w∧w.cell? ⟨b2,0,none⟩=some (vs))∧Bx3 m w g8 (refX S L) sv)∧Fr 38 [(2,.pointer (some ⟨b2,0,none⟩)),(8,.pointer (some ⟨g8,0,none⟩))] a) No 9 No:=by
 refine T3.leaf ?_;rintro Q JS JX JT K hS_ hK hX hE hT hR a w ⟨hW,⟨fr,rfl,q2,q7,_⟩⟩;have c4:=hW.2.c4;have HC:=Lib.hid (lc_any b2 b3 b4 b5 m vs S vl L hp hS hL6 S.length 0 (by omega) 0 0 w (by decide) hW.2 (by
  have h:∀k,k≤4→0+costN k≤10000:=by decide
  exact h _ hS))
 rw [ref_eq,show((0:Nat):Int)=0 from rfl]at HC;have HG:=Lib.hid (fun(w':World) (g:w.grownBy w' (some m)) (mp:MapL w' m (0+costN S.length) S L)=>(show Below w0.heap.size w0 w'∧w'.cell? ⟨b2,0,none⟩=some vs from
  ⟨hW.1.1.grown g hW.1.1.size (fun j hj=>by cases hj;exact hW.1.2),(hW.2.grow g mp).c2⟩))
 clear hW hs hl hp;generalize refX S L=lm at *;rw [fr_lvR,fe q2,fe q7];clear q2 q7;conv=>arg 2;whnf
 go_wp2_with fail
 refine HC.out.mono ?_;rintro e w1 ⟨v,rfl,⟨sv,rfl,hr⟩,hmp,hg⟩;obtain⟨hb1,hb2⟩:=HG.out w1 hg hmp;have hba:=(Below.refl w1.heap.size w1).alloc (Nat.le_refl _) (.cells #[.int .i64 lm.sum,.int .i64 lm.many,sv] 103);have HF:=Lib.hid (show(Below w0.heap.size w0 (w1.alloc (.cells #[.int .i64 lm.sum,.int .i64 lm.many,sv] 103))∧_)∧Bx3 m (w1.alloc (.cells #[.int .i64 lm.sum,.int .i64 lm.many,sv] 103)) w1.heap.size lm sv from
  ⟨⟨hb1.trans (hba.mono hb1.size),(hba.cell (p:=⟨b2,0,none⟩) (World.block_lt_of_cell? w1 _ hb2)).trans hb2⟩,cells_new w1 _ _ 0 _ rfl,cells_new w1 _ _ 1 _ rfl,cells_new w1 _ _ 2 _ rfl,(hr.under hba).mono (by simp)⟩)
 obtain⟨q,d,rfl⟩:=hr.row.shape;clear hr hmp hg hb1 hb2 hba;go_wp2_with fail
 refine Met.intro (hS_ _ _ ?_);exact⟨_,_,HF.out,Fr.r rfl rfl⟩
end
end
section
variable (vs:Value)(S:List SlD)(vl:Value)(L:List ScD)(w0:World)(hs:SlH w0 vs S)(hl:ScH w0 vl L)(hp:ScP L)(hS:S.length≤4)(hL6:L.length≤6)(b2 b5:Nat)(b3 m:Nat)(b4:Nat)(g8:Nat)(sv:Value)(wM:World)(hM:((Below w0.heap.size w0 wM∧wM.cell? ⟨b2,0,none⟩=some (vs))∧Bx3 m wM g8 (refX S L) sv))
include hs hl hp hS hL6 b5 b3 b4 hM
theorem lv5:T3 Tryz.prog (fun a w=>(IsW wM w)∧Fr 38 [(2,.pointer (some ⟨b2,0,none⟩)),(8,.pointer (some ⟨g8,0,none⟩))] a) (sel [1,1,1,1,1,0] lvR) (fun a w=>(Below wM.heap.size wM w∧w.ownsRow wM.heap.size 49 2 (.slice none 0 0) (fwK S (refX S L).who (0)).length (cellsOf encFl (fwK S (refX S L).who (0))))∧Fr 38 [(2,.pointer (some ⟨b2,0,none⟩)),(8,.pointer (some ⟨g8,0,none⟩)),(9,.slice none 0 0)] a) No 9 No:=by
 refine T3.leaf ?_;rintro Q JS JX JT K hS_ hK hX hE hT hR a w ⟨hW,⟨fr,rfl,q2,q8,_⟩⟩;obtain rfl:w=wM:=hW;have HW:=Lib.hid (show Below w.heap.size w w∧w.ownsRow w.heap.size 49 2 (.slice none 0 0) 0 []from⟨Below.refl _ _,World.ownsRow_nil _ _ _ _⟩);clear hs hl hp hM;rw [fr_lvR,fe q2,fe q8];clear q2 q8;conv=>arg 2;whnf
 go_wp2_with fail
 refine Met.intro (hS_ _ _ ?_);exact⟨HW.out,Fr.r rfl rfl⟩
theorem lv6:T3 Tryz.prog (fun a w=>(Below wM.heap.size wM w∧w.ownsRow wM.heap.size 49 2 (.slice none 0 0) (fwK S (refX S L).who (0)).length (cellsOf encFl (fwK S (refX S L).who (0))))∧Fr 38 [(2,.pointer (some ⟨b2,0,none⟩)),(8,.pointer (some ⟨g8,0,none⟩)),(9,.slice none 0 0)] a) (sel [1,1,1,1,1,1,0,0] lvR) (fun a w=>(0≤(0:Int)∧(0:Int)≤S.length)∧∃(v9:Value),(Below wM.heap.size wM w∧w.ownsRow wM.heap.size 49 2 v9 (fwK S (refX S L).who ((0:Int).toNat)).length (cellsOf encFl (fwK S (refX S L).who ((0:Int).toNat))))∧Fr 38 [(2,.pointer (some ⟨b2,0,none⟩)),(8,.pointer (some ⟨g8,0,none⟩)),(9,v9),(17,sv),(18,.int .i64 S.length),(19,.int .i64 0)] a) No 9 No:=by
 refine T3.leaf ?_;rintro Q JS JX JT K hS_ hK hX hE hT hR a w ⟨hW,⟨fr,rfl,q2,q8,q9,_⟩⟩;have hb8:=hM.2.below hW.1;have t2:=hb8.c2;have hrx:=refX_len S L;have hr:=hb8.r.row;rw [hrx]at hr;have HW:=Lib.hid hW;obtain⟨q,d,rfl⟩:=hr.shape;clear hW hs hl hp hr hrx hM hb8;rw [fr_lvR,fe q2,fe q8,fe q9];clear q2 q8 q9;conv=>arg 2;whnf
 go_wp2_with fail
 refine Met.intro (hS_ _ _ ?_);exact⟨⟨by omega,by omega⟩,_,HW.out,Fr.r rfl rfl⟩
section
variable (k:Nat)(hk:k<S.length)(v9:Value)
include hk v9
theorem lv8:T3 Tryz.prog (fun a w=>(Below wM.heap.size wM w∧w.ownsRow wM.heap.size 49 2 v9 (fwK S (refX S L).who (k)).length (cellsOf encFl (fwK S (refX S L).who (k))))∧Fr 38 [(2,.pointer (some ⟨b2,0,none⟩)),(8,.pointer (some ⟨g8,0,none⟩)),(9,v9),(17,sv),(18,.int .i64 S.length),(19,.int .i64 (k:Int))] a) (sel [1,1,1,1,1,1,0,1,4,4,1,1,0,4,0] lvR) (fun a w=>(Below wM.heap.size wM w∧w.ownsRow wM.heap.size 49 2 v9 (fwK S (refX S L).who (k)).length (cellsOf encFl (fwK S (refX S L).who (k))))∧Fr 38 [(2,.pointer (some ⟨b2,0,none⟩)),(8,.pointer (some ⟨g8,0,none⟩)),(9,v9),(10,.int .i64 (k:Int)),(11,.string (geta (refX S L).who (k:Int))),(17,sv),(18,.int .i64 S.length),(19,.int .i64 (k:Int))] a) No 9 No:=by
 refine T3.leaf ?_;rintro Q JS JX JT K hS_ hK hX hE hT hR a w ⟨hW,⟨fr,rfl,q2,q8,q9,q17,q18,q19,_⟩⟩;have hrx:=refX_len S L;have hr:=(hM.2.below hW.1).r.row;obtain⟨q,d,rfl⟩:=hr.shape;have HW:=Lib.hid hW;obtain⟨p9,c9,rfl⟩:=(Row.of_owns hW.2).shape;obtain⟨bz,off,rfl,_,_,hcell⟩:=Row.nonnil hr (by omega);have t0:=Row.elAt encSt_length hcell (k:=(k:Int)) (by omega) (by omega) 0 _ (by decide) rfl;rw [Int.toNat_natCast,Nat.mul_one,Nat.add_zero]at t0;have hkw:k<(refX S L).who.length:=by omega
 clear hcell hr hW hs hl hp hrx hM;generalize geta (refX S L).who (k:Int)=pl_ at *;generalize (refX S L).who.length=wl at *;rw [fr_lvR,fe q2,fe q8,fe q9,fe q17,fe q18,fe q19];clear q2 q8 q9 q17 q18 q19;conv=>arg 2;whnf
 go_wp2_with fail
 refine Met.intro (hS_ _ _ ?_);exact⟨HW.out,Fr.r rfl rfl⟩
theorem lv9:T3 Tryz.prog (fun a w=>(Below wM.heap.size wM w∧w.ownsRow wM.heap.size 49 2 v9 (fwK S (refX S L).who (k)).length (cellsOf encFl (fwK S (refX S L).who (k))))∧Fr 38 [(2,.pointer (some ⟨b2,0,none⟩)),(8,.pointer (some ⟨g8,0,none⟩)),(9,v9),(10,.int .i64 (k:Int)),(11,.string (geta (refX S L).who (k:Int))),(17,sv),(18,.int .i64 S.length),(19,.int .i64 (k:Int))] a) (sel [1,1,1,1,1,1,0,1,4,4,1,1,0,4,1] lvR) (fun a w=>∃(v9':Value),(Below wM.heap.size wM w∧w.ownsRow wM.heap.size 49 2 v9' (fwK S (refX S L).who (k+1)).length (cellsOf encFl (fwK S (refX S L).who (k+1))))∧Fr 38 [(2,.pointer (some ⟨b2,0,none⟩)),(8,.pointer (some ⟨g8,0,none⟩)),(9,v9'),(17,sv),(18,.int .i64 S.length),(19,.int .i64 (k:Int))] a) No 9 No:=by
 refine T3.leaf ?_;rintro Q JS JX JT K hS_ hK hX hE hT hR a w ⟨hW,⟨fr,rfl,q2,q8,q9,q10,q11,q17,q18,q19,_⟩⟩;have hE:=el_flL;have hb:=hW.1;have hb8:=hM.2.below hb;have c2:=(hb.cell (p:=⟨b2,0,none⟩) (World.block_lt_of_cell? wM _ hM.1.2)).trans hM.1.2;have hR:=((hs.below hM.1.1).below hb).r;have hown:=hW.2;have hfl:=fwK_len S (refX S L).who k;have HQ:=Lib.hid (show ∀(w':World) (v':Value),w'.ownsRow wM.heap.size 49 2 v' ((fwK S (refX S L).who k).length+1) (cellsOf encFl (fwK S (refX S L).who k)++[.string (geta S (k:Int)).key,.string (geta (refX S L).who (k:Int))])→w'.ownsRow wM.heap.size 49 2 v' (fwK S (refX S L).who (k+1)).length (cellsOf encFl (fwK S (refX S L).who (k+1)))from fun w' v' ho=>by
  show w'.ownsRow wM.heap.size 49 2 v' (fwK S (refX S L).who k++[_]).length (cellsOf encFl (fwK S (refX S L).who k++[_]));rw [cellsOf_snoc,List.length_append];exact ho)
 obtain⟨q,d,rfl⟩:=hb8.r.row.shape;obtain⟨ps,cs,rfl⟩:=hR.shape;obtain⟨z1,o1,rfl,_,_,hcell⟩:=Row.nonnil hR (by omega);have t0:=Row.elAt encSl_length hcell (k:=(k:Int)) (by omega) (by omega) 0 _ (by decide) rfl;rw [Int.toNat_natCast,Nat.add_zero]at t0;obtain⟨p9,c9,rfl⟩:=(Row.of_owns hown).shape;have hsz:=hb.size;have HB:=Lib.hid hb;have hf9:(fwK S (refX S L).who k).length≤1000:=by omega
 clear hcell hR hW hs hl hp hb hM hb8 hfl;generalize (geta S (k:Int)).key=sk_ at *;generalize geta (refX S L).who (k:Int)=pl_ at *;generalize fwK S (refX S L).who (k+1)=fw1 at *;generalize fwK S (refX S L).who k=fw at *;rw [fr_lvR,fe q2,fe q8,fe q9,fe q10,fe q11,fe q17,fe q18,fe q19];clear q2 q8 q9 q10 q11 q17 q18 q19;conv=>arg 2;whnf
 go_wp2_with (at_builtin;refine app_law rfl _ _ _ rfl hE (hown.alloc _) rfl [.string sk_,.string pl_] rfl rfl (cells_new w #[_,_] _) (by simp [Value.oneCell']) (by omega) (by simp;omega) ?_;intro v' w2 hown2 hgr2)
 have hbw:=below_grown (HB.out.alloc hsz (.cells #[.string sk_,.string pl_] 49)) (hown.alloc _) hgr2 (Nat.le_refl _) (by simp;omega);refine Met.intro (hS_ _ _ ?_);exact⟨_,⟨hbw,HQ.out w2 v' hown2⟩,Fr.r rfl rfl⟩
theorem lvB:T3 Tryz.prog (fun a w=>(Below wM.heap.size wM w∧w.ownsRow wM.heap.size 49 2 v9 (fwK S (refX S L).who (k)).length (cellsOf encFl (fwK S (refX S L).who (k))))∧Fr 38 [(2,.pointer (some ⟨b2,0,none⟩)),(8,.pointer (some ⟨g8,0,none⟩)),(9,v9),(17,sv),(18,.int .i64 S.length),(19,.int .i64 (k:Int))] a) (sel [1,1,1,1,1,1,0,1,4,4,1,1,0] lvR) (fun a w=>∃(v9':Value),(Below wM.heap.size wM w∧w.ownsRow wM.heap.size 49 2 v9' (fwK S (refX S L).who (k+1)).length (cellsOf encFl (fwK S (refX S L).who (k+1))))∧Fr 38 [(2,.pointer (some ⟨b2,0,none⟩)),(8,.pointer (some ⟨g8,0,none⟩)),(9,v9'),(17,sv),(18,.int .i64 S.length),(19,.int .i64 (k:Int))] a) No 9 No:=by
 refine T3.block (id':=1) (c:=(sel [1,1,1,1,1,1,0,1,4,4,1,1,0,4] lvR)) (by decide) ?_;exact T3.sq rfl (lv8 vs S vl L w0 hs hl hp hS hL6 b2 b5 b3 m b4 g8 sv wM hM k hk v9) (lv9 vs S vl L w0 hs hl hp hS hL6 b2 b5 b3 m b4 g8 sv wM hM k hk v9)
end
theorem lvb (k:Int):T3 Tryz.prog (fun a w=>∃(v9:Value),(0≤k∧k<S.length)∧(Below wM.heap.size wM w∧w.ownsRow wM.heap.size 49 2 v9 (fwK S (refX S L).who ((k:Int).toNat)).length (cellsOf encFl (fwK S (refX S L).who ((k:Int).toNat))))∧Fr 38 [(2,.pointer (some ⟨b2,0,none⟩)),(8,.pointer (some ⟨g8,0,none⟩)),(9,v9),(17,sv),(18,.int .i64 S.length),(19,.int .i64 k)] a) (sel [1,1,1,1,1,1,0,1,4,4,1,1,0] lvR) (fun a w=>∃(v9:Value),(0≤k∧k<S.length)∧(Below wM.heap.size wM w∧w.ownsRow wM.heap.size 49 2 v9 (fwK S (refX S L).who (((k+1):Int).toNat)).length (cellsOf encFl (fwK S (refX S L).who (((k+1):Int).toNat))))∧Fr 38 [(2,.pointer (some ⟨b2,0,none⟩)),(8,.pointer (some ⟨g8,0,none⟩)),(9,v9),(17,sv),(18,.int .i64 S.length),(19,.int .i64 k)] a) No 9 No:=by
 refine T3.ex fun v9=>T3.pure fun hh=>?_
 obtain⟨kn,rfl⟩:=Int.eq_ofNat_of_zero_le hh.1;refine T3.mono (lvB vs S vl L w0 hs hl hp hS hL6 b2 b5 b3 m b4 g8 sv wM hM kn (by omega) v9) ?_ ?_ (fun _ _ q=>q) (fun _ _ q=>q)
 ·rintro a w ⟨hW,hF⟩;rw [Int.toNat_natCast]at hW;exact⟨hW,hF⟩
 ·rintro a w ⟨v2,hW,hF⟩;refine⟨v2,hh,?_,hF⟩;rw [show((kn:Int)+1).toNat=kn+1 by omega];exact hW
def lvAI (vs:Value)(S:List SlD)(vl:Value)(L:List ScD)(w0:World)(hs:SlH w0 vs S)(hl:ScH w0 vl L)(hp:ScP L)(hS:S.length≤4)(hL6:L.length≤6)(b2 b5:Nat)(b3 m:Nat)(b4:Nat)(g8:Nat)(sv:Value)(wM:World)(hM:((Below w0.heap.size w0 wM∧wM.cell? ⟨b2,0,none⟩=some (vs))∧Bx3 m wM g8 (refX S L) sv))(k:Int)(a:Act)(w:World):Prop:=(0≤k∧k≤S.length)∧∃(v9:Value),(Below wM.heap.size wM w∧w.ownsRow wM.heap.size 49 2 v9 (fwK S (refX S L).who ((k:Int).toNat)).length (cellsOf encFl (fwK S (refX S L).who ((k:Int).toNat))))∧Fr 38 [(2,.pointer (some ⟨b2,0,none⟩)),(8,.pointer (some ⟨g8,0,none⟩)),(9,v9),(17,sv),(18,.int .i64 S.length),(19,.int .i64 k)] a
theorem lvAt (k:Int):T3 Tryz.prog (fun a w=>lvAI vs S vl L w0 hs hl hp hS hL6 b2 b5 b3 m b4 g8 sv wM hM k a w) (sel [1,1,1,1,1,1,0,1,4,4,0] lvR) (fun a w=>∃q,Fr 38 ((20,.bool q)::[(19,.int .i64 k)]) a∧((q=true↔k<S.length)∧lvAI vs S vl L w0 hs hl hp hS hL6 b2 b5 b3 m b4 g8 sv wM hM k a w)) No 9 No:=by
 refine T3.leaf ?_;rintro Q JS JX JT K hS_ hK hX hE hT hR a w ⟨hk,v9,hW,⟨fr,rfl,q2,q8,q9,q17,q18,q19,_⟩⟩;rw [fr_lvR,fe q2,fe q8,fe q9,fe q17,fe q18,fe q19];clear q2 q8 q9 q17 q18 q19;conv=>arg 2;whnf
 by_cases hlt:k<S.length
 ·go_wp2_with fail
  refine Met.intro (hS_ _ _ ?_);exact⟨true,Fr.r rfl rfl,⟨fun _=>hlt,fun _=>rfl⟩,hk,v9,hW,Fr.r rfl rfl⟩
 ·have hpb:decide (k<(S.length:Int))=false:=by simp;omega
  go_wp2_with fail
  refine Met.intro (hS_ _ _ ?_);exact⟨false,Fr.r rfl rfl,⟨(fun h=>by cases h),fun h=>absurd h (by omega)⟩,hk,v9,hW,Fr.r rfl rfl⟩
theorem lvAn (k:Int):T3 Tryz.prog (fun a w=>(0≤k∧k<S.length)∧∃(v9:Value),(Below wM.heap.size wM w∧w.ownsRow wM.heap.size 49 2 v9 (fwK S (refX S L).who (((k+1):Int).toNat)).length (cellsOf encFl (fwK S (refX S L).who (((k+1):Int).toNat))))∧Fr 38 [(2,.pointer (some ⟨b2,0,none⟩)),(8,.pointer (some ⟨g8,0,none⟩)),(9,v9),(17,sv),(18,.int .i64 S.length),(19,.int .i64 k)] a) (sel [1,1,1,1,1,1,0,1,4,4,1,1,1] lvR) (fun a w=>lvAI vs S vl L w0 hs hl hp hS hL6 b2 b5 b3 m b4 g8 sv wM hM (k+1) a w) No 9 No:=by
 refine T3.leaf ?_;rintro Q JS JX JT K hS_ hK hX hE hT hR a w ⟨hk,v9,hW,⟨fr,rfl,q2,q8,q9,q17,q18,q19,_⟩⟩;obtain⟨hk0,hk1⟩:=hk;rw [fr_lvR,fe q2,fe q8,fe q9,fe q17,fe q18,fe q19];clear q2 q8 q9 q17 q18 q19;conv=>arg 2;whnf
 go_wp2_with fail
 refine Met.intro (hS_ _ _ ?_);exact⟨⟨by omega,by omega⟩,v9,hW,Fr.r rfl rfl⟩
theorem lvAloop:T3 Tryz.prog (fun a w=>lvAI vs S vl L w0 hs hl hp hS hL6 b2 b5 b3 m b4 g8 sv wM hM 0 a w) (sel [1,1,1,1,1,1,0,1] lvR) (fun a w=>∃(v9:Value),(Below wM.heap.size wM w∧w.ownsRow wM.heap.size 49 2 v9 (refF S L).length (cellsOf encFl (refF S L)))∧Fr 38 [(2,.pointer (some ⟨b2,0,none⟩)),(8,.pointer (some ⟨g8,0,none⟩)),(9,v9)] a) No 9 No :=
 T3.range (I:=lvAI vs S vl L w0 hs hl hp hS hL6 b2 b5 b3 m b4 g8 sv wM hM) rfl (by decide) (lvAt vs S vl L w0 hs hl hp hS hL6 b2 b5 b3 m b4 g8 sv wM hM) (lvAn vs S vl L w0 hs hl hp hS hL6 b2 b5 b3 m b4 g8 sv wM hM) (fun _ _ _ h=>h.1) (fun k hk=>T3.mono (lvb vs S vl L w0 hs hl hp hS hL6 b2 b5 b3 m b4 g8 sv wM hM k) (fun a w ⟨_,v9,hI⟩=>⟨v9,hk,hI⟩) (fun a w ⟨v9,hk,hI⟩=>⟨hk,v9,hI⟩) (fun _ _ q=>q) (fun _ _ q=>q)) (fun a w hI=>by
  obtain⟨hk,hI⟩:=hI;obtain⟨v9,hW,hF⟩:=hI;rw [Int.toNat_natCast]at hW;exact⟨v9,hW,hF.sub (by simp)⟩)
theorem lv11 (v9:Value):T3 Tryz.prog (fun a w=>(Below wM.heap.size wM w∧w.ownsRow wM.heap.size 49 2 v9 (refF S L).length (cellsOf encFl (refF S L)))∧Fr 38 [(2,.pointer (some ⟨b2,0,none⟩)),(8,.pointer (some ⟨g8,0,none⟩)),(9,v9)] a) (sel [1,1,1,1,1,1,1,0] lvR) (fun a w=>(w.ownsRow w0.heap.size 49 2 v9 (refF S L).length (cellsOf encFl (refF S L))∧Below w0.heap.size w0 w)∧Fr 38 [(4,v9),(5,.int .i64 (refX S L).sum)] a) No 9 No:=by
 refine T3.leaf ?_;rintro Q JS JX JT K hS_ hK hX hE hT hR a w ⟨hW,⟨fr,rfl,q2,q8,q9,_⟩⟩;have t0:=(hM.2.below hW.1).c0;have HF:=Lib.hid (fun(w':World) (b:Below w.heap.size w w')=>(show w'.ownsRow w0.heap.size 49 2 v9 (refF S L).length (cellsOf encFl (refF S L))∧Below w0.heap.size w0 w' from
  ⟨owns_below (owns_mono hW.2 hM.1.1.size) b (Nat.le_refl _),hM.1.1.trans ((hW.1.trans (b.mono hW.1.size)).mono hM.1.1.size)⟩))
 have HD:=Lib.hid (fun q=>below_drewN (Below.refl w.heap.size w) q);obtain⟨p9,c9,rfl⟩:=(Row.of_owns hW.2).shape;clear hW hs hl hp hM;generalize (refX S L).sum=rs at *;rw [fr_lvR,fe q2,fe q8,fe q9];clear q2 q8 q9;conv=>arg 2;whnf
 go_quiet (fail)
 go_wp2_with fail
 refine Met.intro (hS_ _ _ ?_);exact⟨HF.out _ (HD.out _),Fr.r rfl rfl⟩
end
section
variable (vs:Value)(S:List SlD)(vl:Value)(L:List ScD)(w0:World)(hs:SlH w0 vs S)(hl:ScH w0 vl L)(hp:ScP L)(hS:S.length≤4)(hL6:L.length≤6)
include hs hl hp hS hL6
theorem lv_all:T3 Tryz.prog (fun a w=>(Below w0.heap.size w0 w)∧Fr 38 [(0,vs),(1,vl)] a) lvR No No 9 (fun a w=>∃v9:Value,(w.ownsRow w0.heap.size 49 2 v9 (refF S L).length (cellsOf encFl (refF S L))∧Below w0.heap.size w0 w)∧Fr 38 [(4,v9),(5,.int .i64 (refX S L).sum)] a):=by
 refine T3.seq (s:=(sel [0] lvR)) (c:=(sel [1] lvR)) (T3.noT (lv0 vs S vl L w0 hs hl hp hS hL6)) ?_;refine T3.ex fun b2=>T3.ex fun b5=>?_
 refine T3.sq rfl (T3.noT (lv1 vs S vl L w0 hs hl hp hS hL6 b2 b5)) ?_;refine T3.ex fun b3=>T3.ex fun m=>?_
 refine T3.sq rfl (T3.noT (lv2 vs S vl L w0 hs hl hp hS hL6 b2 b5 b3 m)) ?_;refine T3.ex fun b4=>?_
 refine T3.sq rfl (T3.noT (lv3 vs S vl L w0 hs hl hp hS hL6 b2 b5 b3 m b4)) ?_;refine T3.sq rfl (T3.noT (lv4 vs S vl L w0 hs hl hp hS hL6 b2 b5 b3 m b4)) ?_;refine T3.ex fun g8=>T3.ex fun sv=>?_
 refine T3.pre (R:=fun a w=>∃wM:World,((Below w0.heap.size w0 wM∧wM.cell? ⟨b2,0,none⟩=some (vs))∧Bx3 m wM g8 (refX S L) sv)∧(IsW wM w)∧Fr 38 [(2,.pointer (some ⟨b2,0,none⟩)),(8,.pointer (some ⟨g8,0,none⟩))] a) (T3.ex fun wM=>T3.pure fun hM=>?_) (fun a w ⟨hW,hF⟩=>⟨w,hW,rfl,hF⟩);refine T3.sq rfl (T3.noT (lv5 vs S vl L w0 hs hl hp hS hL6 b2 b5 b3 m b4 g8 sv wM hM)) ?_;refine T3.sq rfl (T3.noT (T3.seq (s:=(sel [1,1,1,1,1,1,0,0] lvR)) (c:=(sel [1,1,1,1,1,1,0,1] lvR)) (lv6 vs S vl L w0 hs hl hp hS hL6 b2 b5 b3 m b4 g8 sv wM hM) (lvAloop vs S vl L w0 hs hl hp hS hL6 b2 b5 b3 m b4 g8 sv wM hM))) ?_;refine T3.ex fun v9=>?_
 exact T3.sr rfl (T3.noT (lv11 vs S vl L w0 hs hl hp hS hL6 b2 b5 b3 m b4 g8 sv wM hM v9)) (T3.ret fun a w q=>⟨v9,q⟩)
theorem bestOf_ref:Calls Tryz.prog 21 #[vs,vl] w0 fun e w'=>∃v9:Value,e=.returned (.tuple #[v9,.int .i64 (refX S L).sum])∧w'.ownsRow w0.heap.size 49 2 v9 (refF S L).length (cellsOf encFl (refF S L))∧Below w0.heap.size w0 w':=by
 have hall:=lv_all vs S vl L w0 hs hl hp hS hL6
 go_enter Tryz.func21,Tryz.ntmps21
 refine T3.done (s:=lvR) hall ⟨Below.refl _ _,Fr.r rfl rfl⟩ ?_;rintro a w ⟨v9,⟨ho,hb⟩,fr,rfl,q4,q5,_⟩;rw [fr_lvR,fe q4,fe q5]
 go_ret2
 exact⟨v9,rfl,ho,hb⟩
end
end Go.Proofs.YtnmdpphddimfbaaGreat
/-
  The reference's best way is the program's choice, name by name: the sum first, then how few, then the names. Condition: points are right, players rise.
-/
namespace Go.Proofs.YtnmdpphddimfbaaGreat
open Go.RowKit Go.Bw
def rankR (x:LuR):Int:=64*x.sum-x.many
/-- Few are in slots. -/
structure Few (x:LuR):Prop where
 a:0≤x.many
 b:x.many≤12
theorem better_iff {x y:LuR}(hx:Few x)(hy:Few y):betterB x y=true↔rankR y<rankR x∨(rankR x=rankR y∧cmpL x.who y.who<0):=by
 obtain⟨a,b⟩:=hx;obtain⟨c,d⟩:=hy;unfold betterB rankR
 split
 ·rw [decide_eq_true_eq];omega
 ·split
  ·rw [decide_eq_true_eq];omega
  ·rw [decide_eq_true_eq];omega
section
variable {c:Nat→Bool}{y:Nat→LuR}{b:LuR}
theorem luTo_pick (hb:Few b)(hy:∀k,Few (y k))(h1:∀k,¬cmpL (y k).who b.who<0):∀n,(∀j k,j<k→k<n→¬cmpL (y k).who (y j).who<0) →
  (luTo c y b n=b∧∀k,k<n→c k=true→rankR (y k)≤rankR b)∨∃k,k<n∧c k=true∧luTo c y b n=y k∧rankR b<rankR (y k)∧(∀j,j<k→c j=true→rankR (y j)<rankR (y k))∧∀j,j<n→c j=true→rankR (y j)≤rankR (y k)
 | 0,_=>.inl ⟨rfl,fun k hk=>by omega⟩
 | n+1,h2=>by
  have ih:=luTo_pick hb hy h1 n (fun j k hj hk=>h2 j k hj (by omega));unfold luTo
  by_cases hc:c n=true
  ·rw [if_pos hc];rcases ih with ⟨e,hl⟩|⟨k,hk,hck,e,hg,hf,hl⟩
   ·rw [e]
    by_cases hbt:betterB (y n) b=true
    ·rw [if_pos hbt];have hr:=(better_iff (hy n) hb).1 hbt;have hr2:rankR b<rankR (y n):=by
      rcases hr with h|h
      ·exact h
      ·exact absurd h.2 (h1 n)
     refine .inr ⟨n,by omega,hc,rfl,hr2,fun j hj hcj=>?_,fun j hj hcj=>?_⟩
     ·have:=hl j hj hcj;omega
     ·by_cases ej:j=n
      ·subst ej;omega
      ·have:=hl j (by omega) hcj;omega
    ·rw [if_neg hbt];have hr:¬rankR b<rankR (y n):=fun h=>hbt ((better_iff (hy n) hb).2 (.inl h))
     refine .inl ⟨rfl,fun k hk hck=>?_⟩
     by_cases ek:k=n
     ·subst ek;omega
     ·exact hl k (by omega) hck
   ·rw [e]
    by_cases hbt:betterB (y n) (y k)=true
    ·rw [if_pos hbt];have hr:=(better_iff (hy n) (hy k)).1 hbt;have hr2:rankR (y k)<rankR (y n):=by
      rcases hr with h|h
      ·exact h
      ·exact absurd h.2 (h2 k n hk (by omega))
     refine .inr ⟨n,by omega,hc,rfl,by omega,fun j hj hcj=>?_,fun j hj hcj=>?_⟩
     ·have:=hl j hj hcj;omega
     ·by_cases ej:j=n
      ·subst ej;omega
      ·have:=hl j (by omega) hcj;omega
    ·rw [if_neg hbt];have hr:¬rankR (y k)<rankR (y n):=fun h=>hbt ((better_iff (hy n) (hy k)).2 (.inl h))
     refine .inr ⟨k,by omega,hck,rfl,hg,hf,fun j hj hcj=>?_⟩
     by_cases ej:j=n
     ·subst ej;omega
     ·exact hl j (by omega) hcj
  ·rw [if_neg hc];rcases ih with ⟨e,hl⟩|⟨k,hk,hck,e,hg,hf,hl⟩
   ·refine .inl ⟨e,fun k hk hck=>?_⟩
    by_cases ek:k=n
    ·subst ek;exact absurd hck hc
    ·exact hl k (by omega) hck
   ·refine .inr ⟨k,by omega,hck,e,hg,hf,fun j hj hcj=>?_⟩
    by_cases ej:j=n
    ·subst ej;exact absurd hcj hc
    ·exact hl j (by omega) hcj
end
theorem cmpL_after {a b:ByteArray}{r s:List ByteArray}(h:b.toList<a.toList):¬cmpL (a::r) (b::s)<0:=by
 have h1:Op.bytesLess a.toList b.toList=false:=by
  rw [Go.Proofs.bytesLess_eq];exact decide_eq_false (fun h2=>lst_asymm h h2)
 have h2:cmpB a b=1:=by
  unfold cmpB;rw [h1,if_neg (by decide),if_neg];intro e;have e2:a.toList=b.toList:=by simpa using e
  rw [e2]at h;exact List.lt_irrefl _ h
 unfold cmpL;rw [h2,if_pos (by decide)];decide
theorem cmpL_same:∀ l:List ByteArray,cmpL l l=0
 | []=>rfl
 | a::l=>by
  have h:cmpB a a=0:=by
   unfold cmpB;rw [Go.Proofs.bytesLess_eq,decide_eq_false (List.lt_irrefl _)];simp
  unfold cmpL;rw [h,if_neg (by decide)];exact cmpL_same l
theorem luTo_congr {c:Nat→Bool}{y z:Nat→LuR}{b:LuR}:∀{n},(∀k,k<n→y k=z k)→luTo c y b n=luTo c z b n
 | 0,_=>rfl
 | n+1,h=>by
  unfold luTo;rw [luTo_congr (n:=n) (fun k hk=>h k (by omega)),h n (by omega)]
theorem geta_mid {l s:List ByteArray}{x:ByteArray}{i:Nat}(h:l.length=i):geta (l++(x::s)) (i:Int)=x:=by
 unfold geta;rw [Int.toNat_natCast,List.getElem?_append_right (by omega),h,Nat.sub_self];rfl
theorem empty_lt {x:ByteArray}(h:x≠ByteArray.empty):(⟨#[]⟩:ByteArray).toList<x.toList:=by
 rw [ByteArray.toList_eq,ByteArray.toList_eq];cases e:x.data.toList with
 | nil=>exact absurd (ByteArray.ext (Array.toList_inj.1 e)) h
 | cons a l=>exact List.nil_lt_cons a l
/-- Who is in the slots, by name. -/
def namesF (L:List ScD):List (Option Nat)→List ByteArray
 | []=>[]
 | none::l=>⟨#[]⟩::namesF L l
 | some k::l=>(geta L (k:Int)).pl::namesF L l
theorem slotV_less (fit:Nat→Nat→Bool)(w:Nat→Int)(l r i k:Nat)(U:Nat→Bool):slotV fit w l r i (updU U k)≤slotV fit w l r i U:=by
 obtain⟨ps,h1,h2⟩:=(slotV_max fit w l r i (updU U k)).at_;rw [←h2];refine(slotV_max fit w l r i U).le ps (h1.mono (fun _ q=>q) (fun j q=>⟨q.1,?_⟩));have:=q.2;unfold updU at this;rw [Bool.or_eq_false_iff]at this;exact this.1
theorem few_luS (S:List SlD)(L:List ScD){r i:Nat}{U:Nat→Bool}(h:r≤12):Few (luS S L r i U):=by
 have:=luS_many S L r i U;exact⟨this.1,by omega⟩
theorem luS_greed {S:List SlD}{L:List ScD}(hp:ScP L)(hr:ScRise L)(hn:∀k,k<L.length→(geta L (k:Int)).pl≠ByteArray.empty):
  ∀r i U,r≤12→rankR (luS S L r i U)=slV S L r i U∧(luS S L r i U).who=namesF L (grF S L r i U)
 | 0,i,U,_=>⟨rfl,rfl⟩
 | r+1,i,U,hR=>by
  obtain⟨hv0,hw0⟩:=luS_greed hp hr hn r (i+1) U (by omega);have ihk:=fun k=>luS_greed (S:=S) hp hr hn r (i+1) (updU U k) (by omega)
  have hyk:∀k,rankR (luY L (luS S L r (i+1) (updU U k)) k)=slV S L r (i+1) (updU U k)+wK L k:=fun k=>by
   have:=(ihk k).1;unfold rankR at this ⊢;show 64*((luS S L r (i+1) (updU U k)).sum+hnK L k)-((luS S L r (i+1) (updU U k)).many+1)=_+(64*hnK L k-1);omega
  have hbz:rankR (luZ (luS S L r (i+1) U))=slV S L r (i+1) U:=hv0;have hcut:=luTo_pick (c:=fun k=>!U k&&fitP S L k i) (y:=fun k=>if k<L.length then luY L (luS S L r (i+1) (updU U k)) k else luZ (luS S L r (i+1) U)) (b:=luZ (luS S L r (i+1) U)) (by
    have:=few_luS S L (r:=r) (i:=i+1) (U:=U) (by omega);exact⟨this.a,this.b⟩) (fun k=>by
    show Few (if _ then _ else _)
    split
    ·have:=luS_many S L r (i+1) (updU U k);exact⟨by show 0≤(luS S L r (i+1) (updU U k)).many+1;omega,by show(luS S L r (i+1) (updU U k)).many+1≤12;omega⟩
    ·have:=few_luS S L (r:=r) (i:=i+1) (U:=U) (by omega);exact⟨this.a,this.b⟩) (fun k=>by
    show ¬cmpL (LuR.who (if _ then _ else _)) _<0
    split
    ·rename_i hk
     exact cmpL_after (empty_lt (hn k hk))
    ·rw [cmpL_same];decide) L.length (fun j k hj hk=>by
    show ¬cmpL (LuR.who (if _ then _ else _)) (LuR.who (if _ then _ else _))<0;rw [if_pos hk,if_pos (by omega)];exact cmpL_after (hr.h (j:Int) (k:Int) (by omega) (by omega) (by omega)))
  have hsame:luTo (fun k=>!U k&&fitP S L k i) (fun k=>if k<L.length then luY L (luS S L r (i+1) (updU U k)) k else luZ (luS S L r (i+1) U)) (luZ (luS S L r (i+1) U)) L.length=luS S L (r+1) i U:=luTo_congr (fun k hk=>if_pos hk);rw [hsame]at hcut;have hge:slV S L r (i+1) U≤slV S L (r+1) i U:=maxTo_ge (c:=fun k=>!U k&&fitK S L k i) (g:=fun k=>slotV (fitK S L) (wK L) L.length r (i+1) (updU U k)+wK L k) _;have hle:∀k,k<L.length→U k=false→fitK S L k i=true→slV S L r (i+1) (updU U k)+wK L k≤slV S L (r+1) i U:=fun k hk hu hf =>
   maxTo_le (c:=fun k=>!U k&&fitK S L k i) (g:=fun k=>slotV (fitK S L) (wK L) L.length r (i+1) (updU U k)+wK L k) (by show(!U k&&fitK S L k i)=true;rw [hu,hf];rfl) L.length hk
  have hat:slV S L (r+1) i U=slV S L r (i+1) U∨∃k,k<L.length∧(!U k&&fitK S L k i)=true∧slV S L (r+1) i U=slV S L r (i+1) (updU U k)+wK L k :=
   maxTo_at (c:=fun k=>!U k&&fitK S L k i) (g:=fun k=>slotV (fitK S L) (wK L) L.length r (i+1) (updU U k)+wK L k) (v0:=slV S L r (i+1) U) L.length
    -- who brings nothing is not in the best
  have hneg:∀k,k<L.length→posK L k=false→slV S L r (i+1) (updU U k)+wK L k<slV S L r (i+1) U:=fun k hk hp0=>by
   have h1:=hn_neg hp hk hp0;have h2:slV S L r (i+1) (updU U k)≤slV S L r (i+1) U:=slotV_less _ _ _ _ _ _ _;have h3:wK L k=64*hnK L k-1:=rfl;omega
  have hcc:∀k,(!U k&&fitK S L k i)=true→posK L k=true→(!U k&&fitP S L k i)=true:=fun k h1 h2=>by
   unfold fitP;rw [h2,Bool.and_true];exact h1
  have hck:∀k,(!U k&&fitP S L k i)=true→U k=false∧fitK S L k i=true:=fun k h=>by
   unfold fitP at h;simp only [Bool.and_eq_true,Bool.not_eq_true']at h;exact⟨h.1,h.2.1⟩
  rcases hcut with ⟨e,hl⟩|⟨k,hk,hc,e,hg,hf,hl⟩
  ·-- nobody
   have hV:slV S L r (i+1) U=slV S L (r+1) i U:=by
    rcases hat with h|⟨k,hk,hc,h⟩
    ·exact h.symm
    ·cases hpk:posK L k with
     | false=>have:=hneg k hk hpk;omega
     | true =>
      have h1:=hl k hk (hcc k hc hpk);rw [if_pos hk,hyk,hbz]at h1;omega
   refine⟨by rw [e,hbz,hV],?_⟩;rw [e];show⟨#[]⟩::(luS S L r (i+1) U).who=namesF L (greedF (fitK S L) (wK L) L.length (r+1) i U);unfold greedF;rw [if_pos (show slotV (fitK S L) (wK L) L.length r (i+1) U=slotV (fitK S L) (wK L) L.length (r+1) i U from hV),hw0];rfl
  ·rw [if_pos hk]at e hg;rw [hyk,hbz]at hg;obtain⟨huk,hfk⟩:=hck k hc;have h0:=hle k hk huk hfk;have hV:slV S L (r+1) i U=slV S L r (i+1) (updU U k)+wK L k:=by
    rcases hat with h|⟨j,hj,hcj,h⟩
    ·omega
    ·cases hpj:posK L j with
     | false=>have:=hneg j hj hpj;omega
     | true =>
      have h1:=hl j hj (hcc j hcj hpj);rw [if_pos hj,if_pos hk,hyk,hyk]at h1;omega
   have hF:firstK (fun k=>!U k&&(fitK S L k i&&decide (slotV (fitK S L) (wK L) L.length r (i+1) (updU U k)=slotV (fitK S L) (wK L) L.length (r+1) i U-wK L k))) L.length 0=some k:=by
    refine firstK_eq (Nat.zero_le _) (by omega) ?_ (fun j _ hj=>?_)
    ·show(!U k&&(fitK S L k i&&decide (slV S L r (i+1) (updU U k)=slV S L (r+1) i U-wK L k)))=true;rw [huk,hfk,decide_eq_true (by omega)];rfl
    ·show(!U j&&(fitK S L j i&&decide (slV S L r (i+1) (updU U j)=slV S L (r+1) i U-wK L j)))=false;rw [Bool.eq_false_iff];intro hq;simp only [Bool.and_eq_true,Bool.not_eq_true',decide_eq_true_eq]at hq;obtain⟨q1,q2,q3⟩:=hq;cases hpj:posK L j with
     | false=>have:=hneg j (by omega) hpj;omega
     | true =>
      have h1:=hf j hj (hcc j (by rw [q1,q2];rfl) hpj);rw [if_pos (by omega),if_pos hk,hyk,hyk]at h1;omega
   refine⟨by rw [e,hyk,hV],?_⟩;rw [e];show(geta L (k:Int)).pl::(luS S L r (i+1) (updU U k)).who=namesF L (greedF (fitK S L) (wK L) L.length (r+1) i U);unfold greedF;rw [if_neg (show ¬slotV (fitK S L) (wK L) L.length r (i+1) U=slotV (fitK S L) (wK L) L.length (r+1) i U from fun h=>by
    have h':slV S L r (i+1) U=slV S L (r+1) i U:=h;omega),hF,(ihk k).2]
   rfl
/-- The fills of names, slot by slot. -/
theorem fwK_names (S:List SlD)(L:List ScD):∀(l:List (Option Nat)) (i:Nat) (pre:List ByteArray),pre.length=i→fwK S (pre++namesF L l) (i+l.length)=fwK S (pre++namesF L l) i++fillsOf S L i l
 | [],i,pre,_=>by simp [fillsOf]
 | none::l,i,pre,h=>by
  have ih:=fwK_names S L l (i+1) (pre++[⟨#[]⟩]) (by simp [h]);rw [List.append_assoc,List.singleton_append]at ih;show fwK S (pre++(⟨#[]⟩::namesF L l)) (i+(l.length+1))=fwK S (pre++(⟨#[]⟩::namesF L l)) i++(⟨(geta S (i:Int)).key,⟨#[]⟩⟩::fillsOf S L (i+1) l);rw [show i+(l.length+1)=i+1+l.length by omega,ih];show(fwK S (pre++(⟨#[]⟩::namesF L l)) i++[⟨(geta S (i:Int)).key,geta (pre++(⟨#[]⟩::namesF L l)) (i:Int)⟩])++_=_;rw [geta_mid h,List.append_assoc,List.singleton_append]
 | some k::l,i,pre,h=>by
  have ih:=fwK_names S L l (i+1) (pre++[(geta L (k:Int)).pl]) (by simp [h]);rw [List.append_assoc,List.singleton_append]at ih;show fwK S (pre++((geta L (k:Int)).pl::namesF L l)) (i+(l.length+1))=fwK S (pre++((geta L (k:Int)).pl::namesF L l)) i++(⟨(geta S (i:Int)).key,(geta L (k:Int)).pl⟩::fillsOf S L (i+1) l);rw [show i+(l.length+1)=i+1+l.length by omega,ih];show(fwK S (pre++((geta L (k:Int)).pl::namesF L l)) i++[⟨(geta S (i:Int)).key,geta (pre++((geta L (k:Int)).pl::namesF L l)) (i:Int)⟩])++_=_;rw [geta_mid h,List.append_assoc,List.singleton_append]
/-- The reference's fills are the program's. -/
theorem ref_best {S:List SlD}{L:List ScD}(hsc:scorersE L=0)(hS:S.length≤12):refF S L=bestF S L:=by
 obtain⟨_,h2⟩:=luS_greed (S:=S) (scp_of hsc) (rise_of hsc) (fun k hk=>pl_ne hsc hk) S.length 0 (fun _=>false) hS;have h3:=fwK_names S L (grF S L S.length 0 (fun _=>false)) 0 [] rfl;have hl:(grF S L S.length 0 (fun _=>false)).length=S.length:=greed_len _ _ _ _ _ _;rw [hl,Nat.zero_add,List.nil_append]at h3;unfold refF refX bestF;rw [h2,h3];rfl
end Go.Proofs.YtnmdpphddimfbaaGreat
/-
  LineupsBest in plain words: what the program answers is what the reference answers. No program in sight.
-/
namespace Go.Proofs.YtnmdpphddimfbaaGreat
open Go.RowKit Go.Bw
section
variable {S:List SlD}{L:List ScD}
include S L
theorem bestSum_eq (h:scorersE L=0)(hS:S.length≤12):bestSum S L=(refX S L).sum:=by
 unfold bestSum refX;rw [sumK_sumL L _ (bestF S L),←best_sum (scp_of h) hS];unfold bestF;rw [sumL_fills (rise_of h) h _ 0 (fun k hk=>by
  obtain⟨j,hj⟩:=pairs_mem _ 0 k hk;exact((greed_mt (fitK S L) (wK L) L.length S.length 0 (fun _=>false)).1.f _ hj).2.1.1)]
theorem bestV_eq (h:ssE S L=0):refF S L=bestV S L:=by
 unfold bestV;rw [if_pos h];exact ref_best (ss_sc h) (slots_len (ss_sl h))
theorem bestN_eq (h:ssE S L=0):(ofHn (refX S L).sum,ofHd (refX S L).sum)=bestN S L:=by
 unfold bestN;rw [if_pos h,bestSum_eq (ss_sc h) (slots_len (ss_sl h))]
end
/-- Who is asked about is there once. -/
theorem who_once {L:List ScD}{K:List ByteArray}(h:whoE L K=0){a b:Nat}(hab:a<b)(hb:b<K.length):geta K (a:Int)≠geta K (b:Int):=by
 intro e;unfold whoE at h
 split at h
 ·cases h
 ·have h1:=firstErr_zero h (b:Int) (by omega) (by omega);unfold whoAt at h1
  split at h1
  ·cases h1
  ·split at h1
   ·cases h1
   ·rename_i h2
    refine h2 ?_;unfold hasUp;rw [hasS_iff,←e,geta_eq K (a:Int) (by omega) (by omega),Int.toNat_natCast];simp only [Int.toNat_natCast];exact List.mem_take_iff_getElem.2 ⟨a,by omega,rfl⟩
theorem sc_at {L:List ScD}{x:ByteArray}(h:0≤scIdx L x):(geta L (scIdx L x)).pl=x:=by
 have:=(idxI_lt h).2;exact of_decide_eq_true this
section
variable {L:List ScD}{K:List ByteArray}
include L K
theorem wk_inj (h:whoE L K=0){a b:Nat}(ha:a<K.length)(hb:b<K.length)(e:wkK L K a=wkK L K b):a=b:=by
 have ia:=who_in h (k:=(a:Int)) (by omega) (by omega);have ib:=who_in h (k:=(b:Int)) (by omega) (by omega);have e1:scIdx L (geta K (a:Int))=scIdx L (geta K (b:Int)):=by unfold wkK at e;omega
 have e2:geta K (a:Int)=geta K (b:Int):=by rw [←sc_at ia.1,←sc_at ib.1,e1]
 rcases Nat.lt_trichotomy a b with q|q|q
 ·exact absurd e2 (who_once h q hb)
 ·exact q
 ·exact absurd e2.symm (who_once h q ha)
theorem idx_mem {x:Nat}:x∈idxL L K↔∃a,a<K.length∧wkK L K a=x:=by
 unfold idxL wkK;rw [List.mem_map];constructor
 ·rintro⟨s,hs,rfl⟩;obtain⟨a,ha,rfl⟩:=List.getElem_of_mem hs;refine⟨a,ha,?_⟩;rw [geta_eq K (a:Int) (by omega) (by omega)];simp
 ·rintro⟨a,ha,rfl⟩;exact⟨_,geta_mem (l:=K) (i:=(a:Int)) (by omega) (by omega),rfl⟩
theorem idx_nodup (h:whoE L K=0):(idxL L K).Nodup:=by
 show(K.map fun x=>(scIdx L x).toNat).Nodup;rw [List.Nodup,List.pairwise_map,List.pairwise_iff_getElem];intro i j hi hj hij e;have gi:=geta_eq K (i:Int) (by omega) (by omega);have gj:=geta_eq K (j:Int) (by omega) (by omega);simp only [Int.toNat_natCast]at gi gj;rw [←gi,←gj]at e;have:=wk_inj h hi hj e;omega
end
/-- Can: laid one behind the other, or by the sets of slots. -/
theorem can_law {S:List SlD}{L:List ScD}{K:List ByteArray}(h:canE S L K=0):canR S L K=true↔∃m,McS S L K K.length m:=by
 obtain⟨_,hw⟩:=can_rise h;unfold canR McS;rw [addAll_iff (N:=L.length) (MwS.start (fitK S L) S.length) (fun _ h=>h.elim) (fun x hx=>⟨?_,id⟩) (idx_nodup hw),rchC_ma (fun a b ha hb=>wk_inj hw ha hb),List.length_replicate]
 ·constructor <;> intro q <;> refine q.mono fun x hx=>?_
  ·exact .inr (idx_mem.2 hx)
  ·exact idx_mem.1 (hx.elim False.elim id)
 ·obtain⟨a,ha,rfl⟩:=idx_mem.1 hx;have:=who_in hw (k:=(a:Int)) (by omega) (by omega);unfold wkK;omega
theorem lack_walk {S:List SlD}{can:Nat→Nat→Bool}{bb:Nat}:∀(r i:Nat) (wi:List Int),(∀j,j<r→(bb.testBit (i+j)=true↔seenB (layAll can r i wi) j=true))→lackG S bb (i+r)=lackG S bb i++lackF can S r i wi
 | 0,i,wi,_=>by rw [lackF,List.append_nil];rfl
 | r+1,i,wi,h=>by
  have h0:=h 0 (by omega);have hs0:seenB (layAll can (r+1) i wi) 0=(addF can i wi).1:=rfl;rw [hs0,Nat.add_zero]at h0;have ih:=lack_walk (S:=S) (can:=can) (bb:=bb) r (i+1) (addF can i wi).2.2 (fun j hj=>by
   have h1:=h (j+1) (by omega);rw [show i+(j+1)=i+1+j by omega]at h1;exact h1)
  rw [show i+(r+1)=i+1+r by omega,ih,lackF,lackG,List.append_assoc]
  congr 2
  by_cases e:(addF can i wi).1=true
  ·rw [if_pos e,if_pos (h0.2 e)]
  ·rw [if_neg e,if_neg (fun q=>e (h0.1 q))]
/-- Lacking: laid one behind the other, or by the best set of slots. -/
theorem lack_law {S:List SlD}{L:List ScD}{bb:Nat}(h:ssE S L=0)(hb:MlS S L L.length bb)(hm:∀m,MlS S L L.length m→keyM S.length m≤keyM S.length bb):lackG S bb S.length=lackV S L:=by
 obtain⟨wi,h1,h2,h3⟩:=layAll_greed (can:=fun i k=>fitK S L k i) (m:=L.length) (N:=S.length) (r:=S.length) (a:=0) (wi:=List.replicate L.length (-1)) (G:=fun _=>False) (by simp) (by omega) (MwS.start _ _) (fun _ h=>h.elim) (fun i hi=>absurd hi (Nat.not_lt_zero _));have h4:=best_greed (fit:=fitK S L) (n:=S.length) (K:=L.length) (best:=bb) (wi:=wi) (G:=_) h1 h2 (fun x hx=>by rcases hx with hx|hx;exact hx.elim;exact hx.2.1) (fun i hi hn=>h3 i hi hn) hb hm;have h5:=lack_walk (S:=S) (can:=fun i k=>fitK S L k i) (bb:=bb) S.length 0 (List.replicate L.length (-1)) (fun j hj=>by
  rw [Nat.zero_add,h4 j hj];constructor
  ·rintro(q|q)
   ·exact q.elim
   ·exact q.2.2
  ·exact fun q=>.inr ⟨Nat.zero_le _,hj,q⟩)
 rw [Nat.zero_add]at h5;unfold lackV lackR;rw [if_pos h,h5];rfl
end Go.Proofs.YtnmdpphddimfbaaGreat
/-
  Line-ups: the stream's Fills, who stands in a slot. Conditions: the bounds that each theorem names.
-/
namespace Go.Proofs.YtnmdpphddimfbaaGreat
open Go.RowKit Go.Bw Go.Maps
end Go.Proofs.YtnmdpphddimfbaaGreat
/-
  Line-ups: the stream's Fills, whether one may stand in a slot. Conditions: the bounds that each theorem names.
-/
namespace Go.Proofs.YtnmdpphddimfbaaGreat
open Go.RowKit Go.Bw Go.Maps
end Go.Proofs.YtnmdpphddimfbaaGreat
/-
  Line-ups: a look into the map of Fills, and a store into it. Conditions: the bounds that each theorem names.
-/
namespace Go.Proofs.YtnmdpphddimfbaaGreat
open Go.RowKit Go.Bw Go.Maps
theorem plain_bool_inv {H:Type}{P:Program}{e:TypeId}(he:P.underlying e=some .bool){v:Value}{z:DataW H×List MemPlace}(h:plainElem P e v=some z):∃x,v=.bool x:=by
 unfold plainElem at h;cases v <;> simp [he]at h
 exact⟨_,rfl⟩
section
variable {w:World}{m n:Nat}(h:MapB w m n)(s:ByteArray)(hs:Sm s)
include h hs
theorem MapB.look:∃ q,(Instr.lookup 79 (.map (some m)) (.string s) false).run Tryz.prog w=.ok (.bool q) w:=by
 obtain⟨D,h⟩:=h;have hz:(zeroValue 4).run Tryz.prog w=.ok (.bool false) w:=by kernel_rfl
 obtain⟨v,ps,hrun,hv⟩:=h.lookup (t:=79) (string_keyed und_str) und_map hz (plainElem_bool und_bool false) (Go.WideMaps.keyOf_string_mk und_str (s:=s) (Nat.le_trans hs (by decide)));obtain⟨x,rfl⟩:=plain_bool_inv und_bool hv;exact⟨x,hrun⟩
theorem MapB.store (hn:n≤1000000):∃w',(Instr.mapUpdate 79 (.map (some m)) (.string s) (.bool true)).run Tryz.prog w=.ok () w'∧MapB w' m (n+1)∧w.grownBy w' (some m):=by
 obtain⟨D,h⟩:=h;obtain⟨w',hrun,h1,h2⟩:=h.update (t:=79) (string_keyed und_str) und_map (by unfold maxLen;omega) (Go.WideMaps.keyOf_string_mk und_str (s:=s) (Nat.le_trans hs (by decide))) (plainElem_bool und_bool true);exact⟨w',hrun,⟨_,h1⟩,h2⟩
end
end Go.Proofs.YtnmdpphddimfbaaGreat
/-
  Line-ups: the stream's Fills, whether one is taken to a slot. Conditions: the bounds that each theorem names.
-/
namespace Go.Proofs.YtnmdpphddimfbaaGreat
open Go.RowKit Go.Bw Go.Maps
end Go.Proofs.YtnmdpphddimfbaaGreat
/-
  Line-ups: the stream's Fills, one is taken to a slot. Conditions: the bounds that each theorem names.
-/
namespace Go.Proofs.YtnmdpphddimfbaaGreat
open Go.RowKit Go.Bw Go.Maps
end Go.Proofs.YtnmdpphddimfbaaGreat
