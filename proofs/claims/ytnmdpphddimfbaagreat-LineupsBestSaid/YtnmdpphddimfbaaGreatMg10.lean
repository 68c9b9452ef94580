/-
  Contracts and lemmas towards the statement, of several parts; each part says ahead of it what it holds and under which conditions.
-/
import Derived.Test.YtnmdpphddimfbaaGreatMg9
import Derived.Test.YtnmdpphddimfbaaGreatMg8
import Derived.Test.YtnmdpphddimfbaaGreatMg7
set_option maxRecDepth 100000
set_option maxHeartbeats 1000000
set_option linter.unusedSectionVars false
/-
  LackingOf of the reference: its sets of slots, scorer by scorer. Conditions: at most 4 slots and 6 scorers.
-/
set_option linter.unusedVariables false
namespace Go.Proofs.YtnmdpphddimfbaaGreat
open Go.RowKit Go.Bw
noncomputable def lkR:Code:=(Tryz.f33.body).getD .skip
theorem fr_lkR (f:Nat→Value):frame 122 f=⟨#[f 0,f 1,f 2,f 3,f 4,f 5,f 6,f 7,f 8,f 9,f 10,f 11,f 12,f 13,f 14,f 15,f 16,f 17,f 18,f 19,f 20,f 21,f 22,f 23,f 24,f 25,f 26,f 27,f 28,f 29,f 30,f 31,f 32,f 33,f 34,f 35,f 36,f 37,f 38,f 39,f 40,f 41,f 42,f 43,f 44,f 45,f 46,f 47,f 48,f 49,f 50,f 51,f 52,f 53,f 54,f 55,f 56,f 57,f 58,f 59,f 60,f 61,f 62,f 63,f 64,f 65,f 66,f 67,f 68,f 69,f 70,f 71,f 72,f 73,f 74,f 75,f 76,f 77,f 78,f 79,f 80,f 81,f 82,f 83,f 84,f 85,f 86,f 87,f 88,f 89,f 90,f 91,f 92,f 93,f 94,f 95,f 96,f 97,f 98,f 99,f 100,f 101,f 102,f 103,f 104,f 105,f 106,f 107,f 108,f 109,f 110,f 111,f 112,f 113,f 114,f 115,f 116,f 117,f 118,f 119,f 120,f 121],[]⟩:=by rfl
section
variable (w0:World)(b2:Nat)(vs vl:Value)(S:List SlD)(L:List ScD)(hs:SlH w0 vs S)(hl:ScH w0 vl L)(h2:w0.cell? ⟨b2,0,none⟩=some vs)(hS4:S.length≤4)(hL6:L.length≤6)
include hs hl h2 hS4 hL6
theorem lk1:T3 Tryz.prog (fun a w=>(Below w0.heap.size w0 w)∧Fr 122 [(1,vl),(2,.pointer (some ⟨b2,0,none⟩))] a) (sel [1,0] lkR) (fun a w=>∃(B:Nat),(CoA w0 B 1 (MlS S L 0) w)∧Fr 122 [(1,vl),(2,.pointer (some ⟨b2,0,none⟩)),(5,.map (some B))] a) No 9 No:=by
 refine T3.leaf ?_;rintro Q JS JX JT K_ hS_ hK hX hE hT hR a w ⟨hW,⟨fr,rfl,q1,q2,_⟩⟩;have HW:=Lib.hid hW;have hln:=hl.n;have hsn:=hs.n;obtain⟨p1,c1,rfl⟩:=hs.r.shape;obtain⟨p2,c2,rfl⟩:=hl.r.shape;clear hW hs hl h2;have hmm:=@run_makeMap Tryz.prog;have HM:=Lib.hid (fun x=>show((fun _=>False) x∨x=0)↔MlS S L 0 x from⟨fun h=>h.elim False.elim id,.inr⟩);rw [fr_lkR,fe q1,fe q2];clear q1 q2;conv=>arg 2;whnf
 go_wp2_with (refine wp_insert_set rfl _ _ _ rfl w.heap.size 0 0 true _ rfl rfl rfl (by decide) (by decide) (SetW.new w) ?_;intro w' hs' hg')
 have hb1:=HW.out.alloc HW.out.size (.map #[] 0);refine Met.intro (hS_ _ _ ?_);exact⟨_,⟨hb1.grown hg' hb1.size (fun k e=>by cases e;exact HW.out.size),HW.out.size,hs'.congr HM.out⟩,Fr.r rfl rfl⟩
theorem lk2 (B:Nat):T3 Tryz.prog (fun a w=>(CoA w0 B 1 (MlS S L 0) w)∧Fr 122 [(1,vl),(2,.pointer (some ⟨b2,0,none⟩)),(5,.map (some B))] a) (sel [1,1,0,0] lkR) (fun a w=>(0≤(0:Int)∧(0:Int)≤L.length)∧∃(B n:Nat),(n≤5 ^ (0:Int).toNat)∧(CoA w0 B n (MlS S L (0:Int).toNat) w)∧Fr 122 [(1,vl),(2,.pointer (some ⟨b2,0,none⟩)),(5,.map (some B)),(22,vl),(23,.int .i64 L.length),(24,.int .i64 0)] a) No 9 No:=by
 refine T3.leaf ?_;rintro Q JS JX JT K_ hS_ hK hX hE hT hR a w ⟨hW,⟨fr,rfl,q1,q2,q5,_⟩⟩;have HW:=Lib.hid hW;have hln:=hl.n;have hsn:=hs.n;obtain⟨p1,c1,rfl⟩:=hs.r.shape;obtain⟨p2,c2,rfl⟩:=hl.r.shape;clear hW hs hl h2;rw [fr_lkR,fe q1,fe q2,fe q5];clear q1 q2 q5;conv=>arg 2;whnf
 go_wp2_with fail
 refine Met.intro (hS_ _ _ ?_);exact⟨⟨by omega,by omega⟩,_,_,by decide,HW.out,Fr.r rfl rfl⟩
section
variable (kk:Nat)(hkk:kk<L.length)(B n:Nat)
include hkk B n
theorem lk4:T3 Tryz.prog (fun a w=>(CoA w0 B n (MlS S L kk) w)∧Fr 122 [(1,vl),(2,.pointer (some ⟨b2,0,none⟩)),(5,.map (some B)),(22,vl),(23,.int .i64 L.length),(24,.int .i64 (kk:Int))] a) (sel [1,1,0,1,4,4,1,1,0,4,0] lkR) (fun a w=>∃(g7:Nat),(CoA w0 B n (MlS S L kk) w∧ScB w g7 (geta L (kk:Int)))∧Fr 122 [(1,vl),(2,.pointer (some ⟨b2,0,none⟩)),(5,.map (some B)),(7,.pointer (some ⟨g7,0,none⟩)),(22,vl),(23,.int .i64 L.length),(24,.int .i64 (kk:Int))] a) No 9 No:=by
 refine T3.leaf ?_;rintro Q JS JX JT K_ hS_ hK hX hE hT hR a w ⟨hW,⟨fr,rfl,q1,q2,q5,q22,q23,q24,_⟩⟩;have hld:=hl.below hW.bel;have hRl:=hld.r;have hln:=hl.n;obtain⟨aa1,d1,hq1⟩:=(hld.p _ (geta_mem (l:=L) (i:=(kk:Int)) (by omega) (by omega))).r.shape;obtain⟨p2,c2,rfl⟩:=hRl.shape;obtain⟨z2,o2,rfl,_,_,hcl⟩:=Row.nonnil hRl (by omega);have u0:=Row.elAt encSc_length hcl (k:=(kk:Int)) (by omega) (by omega) 0 _ (by decide) rfl;have u1:=Row.elAt encSc_length hcl (k:=(kk:Int)) (by omega) (by omega) 1 _ (by decide) rfl;have u2:=Row.elAt encSc_length hcl (k:=(kk:Int)) (by omega) (by omega) 2 _ (by decide) rfl;have u3:=Row.elAt encSc_length hcl (k:=(kk:Int)) (by omega) (by omega) 3 _ (by decide) rfl;have u4:=Row.elAt encSc_length hcl (k:=(kk:Int)) (by omega) (by omega) 4 _ (by decide) rfl;rw [Int.toNat_natCast]at u0 u1 u2 u3 u4;rw [Nat.add_zero]at u0;have HB:=Lib.hid (ScB.new w (geta L (kk:Int)) 77);have HA:=Lib.hid (fun o=>hW.below ((Below.refl w.heap.size w).alloc (Nat.le_refl _) o));clear hcl hRl hld hW hs hl h2;generalize geta L (kk:Int)=y at *;obtain⟨yk,yv,yps,yn,yd,yp⟩:=y;simp only at hq1 u0 u1 u2 u3 u4;subst hq1;rw [fr_lkR,fe q1,fe q2,fe q5,fe q22,fe q23,fe q24];clear q1 q2 q5 q22 q23 q24;conv=>arg 2;whnf
 go_wp2_with fail
 refine Met.intro (hS_ _ _ ?_);exact⟨_,⟨HA.out _,HB.out⟩,Fr.r rfl rfl⟩
theorem lk5 (g7:Nat):T3 Tryz.prog (fun a w=>(CoA w0 B n (MlS S L kk) w∧ScB w g7 (geta L (kk:Int)))∧Fr 122 [(1,vl),(2,.pointer (some ⟨b2,0,none⟩)),(5,.map (some B)),(7,.pointer (some ⟨g7,0,none⟩)),(22,vl),(23,.int .i64 L.length),(24,.int .i64 (kk:Int))] a) (sel [1,1,0,1,4,4,1,1,0,4,1,0] lkR) (fun a w=>∃(B2:Nat),((CoA w0 B n (MlS S L kk) w∧ScB w g7 (geta L (kk:Int)))∧SetW w B2 0 (fun _=>False)∧w0.heap.size≤B2∧B2≠B∧g7<B2)∧Fr 122 [(1,vl),(2,.pointer (some ⟨b2,0,none⟩)),(5,.map (some B)),(7,.pointer (some ⟨g7,0,none⟩)),(8,.map (some B2)),(22,vl),(23,.int .i64 L.length),(24,.int .i64 (kk:Int))] a) No 9 No:=by
 refine T3.leaf ?_;rintro Q JS JX JT K_ hS_ hK hX hE hT hR a w ⟨hW,⟨fr,rfl,q1,q2,q5,q7,q22,q23,q24,_⟩⟩;have hA:=(Below.refl w.heap.size w).alloc (Nat.le_refl _) (.map #[] 0);have HF:=Lib.hid (show(CoA w0 B n (MlS S L kk) (w.alloc (.map #[] 0))∧ScB (w.alloc (.map #[] 0)) g7 (geta L (kk:Int)))∧SetW (w.alloc (.map #[] 0)) w.heap.size 0 (fun _=>False)∧w0.heap.size≤w.heap.size∧w.heap.size≠B∧g7<w.heap.size from
  ⟨⟨hW.1.below hA,hW.2.below hA⟩,SetW.new w,hW.1.bel.size,by have:=hW.1.s.lt;omega,World.block_lt_of_cell? w _ hW.2.c0⟩)
 clear hA;have hln:=hl.n;have hsn:=hs.n;obtain⟨p1,c1,rfl⟩:=hs.r.shape;obtain⟨p2,c2,rfl⟩:=hl.r.shape;clear hW hs hl h2;have hmm:=@run_makeMap Tryz.prog;generalize geta L (kk:Int)=y at *;rw [fr_lkR,fe q1,fe q2,fe q5,fe q7,fe q22,fe q23,fe q24];clear q1 q2 q5 q7 q22 q23 q24;conv=>arg 2;whnf
 go_wp2_with fail
 refine Met.intro (hS_ _ _ ?_);exact⟨_,HF.out,Fr.r rfl rfl⟩
theorem lk6 (g7:Nat)(B2:Nat):T3 Tryz.prog (fun a w=>((CoA w0 B n (MlS S L kk) w∧ScB w g7 (geta L (kk:Int)))∧SetW w B2 0 (fun _=>False)∧w0.heap.size≤B2∧B2≠B∧g7<B2)∧Fr 122 [(1,vl),(2,.pointer (some ⟨b2,0,none⟩)),(5,.map (some B)),(7,.pointer (some ⟨g7,0,none⟩)),(8,.map (some B2)),(22,vl),(23,.int .i64 L.length),(24,.int .i64 (kk:Int))] a) (sel [1,1,0,1,4,4,1,1,0,4,1,1,0,0] lkR) (fun a w=>∃(r cnt:Nat),(cnt≤n)∧(LkM w0 B r n (MlS S L kk) (MlS S L kk) cnt B2 0 (M2G (fitK S L kk) S.length (MlS S L kk) (MlS S L kk)) g7 (geta L (kk:Int)) w)∧Fr 122 [(1,vl),(2,.pointer (some ⟨b2,0,none⟩)),(5,.map (some B)),(7,.pointer (some ⟨g7,0,none⟩)),(8,.map (some B2)),(22,vl),(23,.int .i64 L.length),(24,.int .i64 (kk:Int)),(30,.pointer (some ⟨r,0,none⟩))] a) No 9 No:=by
 refine T3.leaf ?_;rintro Q JS JX JT K_ hS_ hK hX hE hT hR a w ⟨hW,⟨fr,rfl,q1,q2,q5,q7,q8,q22,q23,q24,_⟩⟩;obtain⟨⟨hA,hbx⟩,hs2,hlo2,hne,h72⟩:=hW;have HS:=Lib.hid hA.s;have HF:=Lib.hid (fun w' cnt (hr:RngW w' B w.heap.size n (MlS S L kk) (MlS S L kk) cnt) (g:w.grownBy w' none)=>show LkM w0 B w.heap.size n (MlS S L kk) (MlS S L kk) cnt B2 0 (M2G (fitK S L kk) S.length (MlS S L kk) (MlS S L kk)) g7 (geta L (kk:Int)) w' from
  ⟨⟨hA.bel.trans ((below_of_grown g (by simp)).mono hA.bel.size),hlo2,hA.bel.size,hr,(hs2.kept g (by simp)).congr (fun _=>g2_start),hne,by have:=hs2.lt;omega⟩,hbx.grown g (by simp),by omega,by have:=World.block_lt_of_cell? w _ hbx.c0;simp only at this;omega⟩)
 clear hA hs2 hbx;have hln:=hl.n;have hsn:=hs.n;obtain⟨p1,c1,rfl⟩:=hs.r.shape;obtain⟨p2,c2,rfl⟩:=hl.r.shape;clear hs hl h2;generalize geta L (kk:Int)=y at *;rw [fr_lkR,fe q1,fe q2,fe q5,fe q7,fe q8,fe q22,fe q23,fe q24];clear q1 q2 q5 q7 q8 q22 q23 q24;conv=>arg 2;whnf
 go_wp2_with (at_range;refine wp_range_set rfl _ rfl B n _ rfl HS.out ?_;intro w' cnt hcn hr hg hsz)
 refine Met.intro (hS_ _ _ ?_);exact⟨_,cnt,hcn,HF.out w' cnt hr hg,Fr.r rfl rfl⟩
theorem lk7 (g7:Nat)(B2:Nat)(r:Nat)(Lf:Nat→Prop)(cnt n2:Nat):T3 Tryz.prog (fun a w=>(LkM w0 B r n (MlS S L kk) Lf cnt B2 n2 (M2G (fitK S L kk) S.length (MlS S L kk) Lf) g7 (geta L (kk:Int)) w)∧Fr 122 [(1,vl),(2,.pointer (some ⟨b2,0,none⟩)),(5,.map (some B)),(7,.pointer (some ⟨g7,0,none⟩)),(8,.map (some B2)),(22,vl),(23,.int .i64 L.length),(24,.int .i64 (kk:Int)),(30,.pointer (some ⟨r,0,none⟩))] a) (sel [1,1,0,1,4,4,1,1,0,4,1,1,0,1,4,4,0] lkR) (fun a w=>∃q,Fr 122 ((32,.bool q)::[(1,vl),(2,.pointer (some ⟨b2,0,none⟩)),(5,.map (some B)),(7,.pointer (some ⟨g7,0,none⟩)),(8,.map (some B2)),(22,vl),(23,.int .i64 L.length),(24,.int .i64 (kk:Int)),(30,.pointer (some ⟨r,0,none⟩))]) a∧(fun(q:Bool) (w:World)=>(q=false∧(∀m,¬Lf m)∧LkM w0 B r n (MlS S L kk) Lf cnt B2 n2 (M2G (fitK S L kk) S.length (MlS S L kk) Lf) g7 (geta L (kk:Int)) w)∨(q=true∧∃(m:Nat) (c:Value) (cnt2:Nat),(Lf m∧cnt2<cnt)∧LkM w0 B r n (MlS S L kk) (fun y=>Lf y∧y≠m) cnt2 B2 n2 (M2G (fitK S L kk) S.length (MlS S L kk) Lf) g7 (geta L (kk:Int)) w∧(Instr.entry (.pointer (some ⟨r,0,none⟩))).run Tryz.prog w=.ok (.tuple #[.int .i64 (m:Int),c]) w)) q w) No 9 No:=by
 refine T3.leaf ?_;rintro Q JS JX JT K_ hS_ hK hX hE hT hR a w ⟨hW,⟨fr,rfl,q1,q2,q5,q7,q8,q22,q23,q24,q30,_⟩⟩;have HG:=Lib.hid hW.m.g;have HN:=Lib.hid (fun w' m cnt2 (hr:RngW w' B r n (MlS S L kk) (fun y=>Lf y∧y≠m) cnt2) (g:w.grownBy w' (some r))=>hW.next hr g);have HW:=Lib.hid hW;have hln:=hl.n;have hsn:=hs.n;obtain⟨p1,c1,rfl⟩:=hs.r.shape;obtain⟨p2,c2,rfl⟩:=hl.r.shape;clear hW hs hl h2;generalize geta L (kk:Int)=y at *;rw [fr_lkR,fe q1,fe q2,fe q5,fe q7,fe q8,fe q22,fe q23,fe q24,fe q30];clear q1 q2 q5 q7 q8 q22 q23 q24 q30;conv=>arg 2;whnf
 go_wp2_with (at_next;refine wp_next_set rfl _ rfl B r n _ _ cnt rfl HG.out ?_ ?_)
 ·intro hl0;go_wp2_with fail
  refine Met.intro (hS_ _ _ ?_);exact⟨_,Fr.r rfl rfl,.inl ⟨rfl,hl0,HW.out⟩⟩
 ·intro m c w1 cnt2 hm hr hlt hg hsz hen;have HF:=Lib.hid (HN.out w1 m cnt2 hr hg);clear hr hg;go_wp2_with fail
  refine Met.intro (hS_ _ _ ?_);exact⟨_,Fr.r rfl rfl,.inr ⟨rfl,m,c,cnt2,⟨hm,hlt⟩,HF.out,hen⟩⟩
end
end
section
variable (w0:World)(b2:Nat)(vs vl:Value)(S:List SlD)(L:List ScD)(hs:SlH w0 vs S)(hl:ScH w0 vl L)(h2:w0.cell? ⟨b2,0,none⟩=some vs)(hS4:S.length≤4)(hL6:L.length≤6)(kk:Nat)(hkk:kk<L.length)(B n:Nat)(g7:Nat)(B2:Nat)(r:Nat)(Lf:Nat→Prop)(cnt n2:Nat)(m cnt2:Nat)(hm:Hid (Lf m∧MlS S L kk m))(hnb:n2≤1000000)
include hs hl h2 hS4 hL6 hkk B n g7 B2 r cnt cnt2 hm hnb
theorem lk8 (c:Value):T3 Tryz.prog (fun a w=>(LkM w0 B r n (MlS S L kk) (fun y=>Lf y∧y≠m) cnt2 B2 n2 (M2G (fitK S L kk) S.length (MlS S L kk) Lf) g7 (geta L (kk:Int)) w∧(Instr.entry (.pointer (some ⟨r,0,none⟩))).run Tryz.prog w=.ok (.tuple #[.int .i64 (m:Int),c]) w)∧Fr 122 [(1,vl),(2,.pointer (some ⟨b2,0,none⟩)),(5,.map (some B)),(7,.pointer (some ⟨g7,0,none⟩)),(8,.map (some B2)),(22,vl),(23,.int .i64 L.length),(24,.int .i64 (kk:Int)),(30,.pointer (some ⟨r,0,none⟩))] a) (sel [1,1,0,1,4,4,1,1,0,4,1,1,0,1,4,4,1,1,4,0] lkR) (fun a w=>(LkM w0 B r n (MlS S L kk) (fun y=>Lf y∧y≠m) cnt2 B2 n2 (M2G (fitK S L kk) S.length (MlS S L kk) Lf) g7 (geta L (kk:Int)) w)∧Fr 122 [(1,vl),(2,.pointer (some ⟨b2,0,none⟩)),(5,.map (some B)),(7,.pointer (some ⟨g7,0,none⟩)),(8,.map (some B2)),(9,.int .i64 (m:Int)),(22,vl),(23,.int .i64 L.length),(24,.int .i64 (kk:Int)),(30,.pointer (some ⟨r,0,none⟩))] a) No 9 No:=by
 refine T3.leaf ?_;rintro Q JS JX JT K_ hS_ hK hX hE hT hR a w ⟨hW,⟨fr,rfl,q1,q2,q5,q7,q8,q22,q23,q24,q30,_⟩⟩;have hen:=hW.2;have HW:=Lib.hid hW.1;have hln:=hl.n;have hsn:=hs.n;obtain⟨p1,c1,rfl⟩:=hs.r.shape;obtain⟨p2,c2,rfl⟩:=hl.r.shape;clear hW hs hl h2;generalize geta L (kk:Int)=y at *;rw [fr_lkR,fe q1,fe q2,fe q5,fe q7,fe q8,fe q22,fe q23,fe q24,fe q30];clear q1 q2 q5 q7 q8 q22 q23 q24 q30;conv=>arg 2;whnf
 go_wp2_with fail
 refine Met.intro (hS_ _ _ ?_);exact⟨HW.out,Fr.r rfl rfl⟩
theorem lk9:T3 Tryz.prog (fun a w=>(LkM w0 B r n (MlS S L kk) (fun y=>Lf y∧y≠m) cnt2 B2 n2 (M2G (fitK S L kk) S.length (MlS S L kk) Lf) g7 (geta L (kk:Int)) w)∧Fr 122 [(1,vl),(2,.pointer (some ⟨b2,0,none⟩)),(5,.map (some B)),(7,.pointer (some ⟨g7,0,none⟩)),(8,.map (some B2)),(9,.int .i64 (m:Int)),(22,vl),(23,.int .i64 L.length),(24,.int .i64 (kk:Int)),(30,.pointer (some ⟨r,0,none⟩))] a) (sel [1,1,0,1,4,4,1,1,0,4,1,1,0,1,4,4,1,1,4,1,0] lkR) (fun a w=>(LkM w0 B r n (MlS S L kk) (fun y=>Lf y∧y≠m) cnt2 B2 (n2+1) (M3G (fitK S L kk) S.length (MlS S L kk) Lf m 0) g7 (geta L (kk:Int)) w)∧Fr 122 [(1,vl),(2,.pointer (some ⟨b2,0,none⟩)),(5,.map (some B)),(7,.pointer (some ⟨g7,0,none⟩)),(8,.map (some B2)),(9,.int .i64 (m:Int)),(22,vl),(23,.int .i64 L.length),(24,.int .i64 (kk:Int)),(30,.pointer (some ⟨r,0,none⟩))] a) No 9 No:=by
 refine T3.leaf ?_;rintro Q JS JX JT K_ hS_ hK hX hE hT hR a w ⟨hW,⟨fr,rfl,q1,q2,q5,q7,q8,q9,q22,q23,q24,q30,_⟩⟩;have hm16:=rchL_16 hS4 hm.out.2;have HS:=Lib.hid hW.m.s2;have HP:=Lib.hid (fun w' (hs2:SetW w' B2 (n2+1) (fun x=>(M2G (fitK S L kk) S.length (MlS S L kk) Lf) x∨x=m)) (g:w.grownBy w' (some B2))=>(hW.put hs2 g).congr (M3:=(M3G (fitK S L kk) S.length (MlS S L kk) Lf m 0)) (fun _=>g3_start));have hn9:n2<1000000000:=by omega
 obtain⟨p1,c1,rfl⟩:=hs.r.shape;obtain⟨p2,c2,rfl⟩:=hl.r.shape;have HW:=Lib.hid hW;clear hW hs hl hm h2;generalize geta L (kk:Int)=y at *;rw [fr_lkR,fe q1,fe q2,fe q5,fe q7,fe q8,fe q9,fe q22,fe q23,fe q24,fe q30];clear q1 q2 q5 q7 q8 q9 q22 q23 q24 q30;conv=>arg 2;whnf
 go_wp2_with (at_mapUpdate;refine wp_put_set rfl _ _ _ rfl B2 n2 m true _ rfl rfl rfl (by omega) hn9 HS.out ?_;intro w' hs2 hg2)
 refine Met.intro (hS_ _ _ ?_);exact⟨HP.out w' hs2 hg2,Fr.r rfl rfl⟩
theorem lk10:T3 Tryz.prog (fun a w=>(LkM w0 B r n (MlS S L kk) (fun y=>Lf y∧y≠m) cnt2 B2 (n2+1) (M3G (fitK S L kk) S.length (MlS S L kk) Lf m 0) g7 (geta L (kk:Int)) w)∧Fr 122 [(1,vl),(2,.pointer (some ⟨b2,0,none⟩)),(5,.map (some B)),(7,.pointer (some ⟨g7,0,none⟩)),(8,.map (some B2)),(9,.int .i64 (m:Int)),(22,vl),(23,.int .i64 L.length),(24,.int .i64 (kk:Int)),(30,.pointer (some ⟨r,0,none⟩))] a) (sel [1,1,0,1,4,4,1,1,0,4,1,1,0,1,4,4,1,1,4,1,1,0] lkR) (fun a w=>(0≤(0:Int)∧(0:Int)≤S.length)∧∃(n3:Nat),(n3≤n2+1+(0:Int).toNat)∧(LkM w0 B r n (MlS S L kk) (fun y=>Lf y∧y≠m) cnt2 B2 n3 (M3G (fitK S L kk) S.length (MlS S L kk) Lf m (0:Int).toNat) g7 (geta L (kk:Int)) w)∧Fr 122 [(1,vl),(2,.pointer (some ⟨b2,0,none⟩)),(5,.map (some B)),(7,.pointer (some ⟨g7,0,none⟩)),(8,.map (some B2)),(9,.int .i64 (m:Int)),(22,vl),(23,.int .i64 L.length),(24,.int .i64 (kk:Int)),(30,.pointer (some ⟨r,0,none⟩)),(38,.int .i64 S.length),(39,.int .i64 0)] a) No 9 No:=by
 refine T3.leaf ?_;rintro Q JS JX JT K_ hS_ hK hX hE hT hR a w ⟨hW,⟨fr,rfl,q1,q2,q5,q7,q8,q9,q22,q23,q24,q30,_⟩⟩;have cb2:=(hW.m.bel.cell (p:=⟨b2,0,none⟩) (World.block_lt_of_cell? w0 _ h2)).trans h2;have HW:=Lib.hid hW;have hln:=hl.n;have hsn:=hs.n;obtain⟨p1,c1,rfl⟩:=hs.r.shape;obtain⟨p2,c2,rfl⟩:=hl.r.shape;clear hW hs hl h2;generalize geta L (kk:Int)=y at *;rw [fr_lkR,fe q1,fe q2,fe q5,fe q7,fe q8,fe q9,fe q22,fe q23,fe q24,fe q30];clear q1 q2 q5 q7 q8 q9 q22 q23 q24 q30;conv=>arg 2;whnf
 go_wp2_with fail
 refine Met.intro (hS_ _ _ ?_);exact⟨⟨by omega,by omega⟩,_,Nat.le_add_right _ _,HW.out,Fr.r rfl rfl⟩
section
variable (i n3:Nat)(hi:i<S.length)
include n3 hi
theorem lk12:T3 Tryz.prog (fun a w=>(LkM w0 B r n (MlS S L kk) (fun y=>Lf y∧y≠m) cnt2 B2 n3 (M3G (fitK S L kk) S.length (MlS S L kk) Lf m i) g7 (geta L (kk:Int)) w)∧Fr 122 [(1,vl),(2,.pointer (some ⟨b2,0,none⟩)),(5,.map (some B)),(7,.pointer (some ⟨g7,0,none⟩)),(8,.map (some B2)),(9,.int .i64 (m:Int)),(22,vl),(23,.int .i64 L.length),(24,.int .i64 (kk:Int)),(30,.pointer (some ⟨r,0,none⟩)),(38,.int .i64 S.length),(39,.int .i64 (i:Int))] a) (sel [1,1,0,1,4,4,1,1,0,4,1,1,0,1,4,4,1,1,4,1,1,1,4,4,1,1,0,4,0] lkR) (fun a w=>(LkM w0 B r n (MlS S L kk) (fun y=>Lf y∧y≠m) cnt2 B2 n3 (M3G (fitK S L kk) S.length (MlS S L kk) Lf m i) g7 (geta L (kk:Int)) w)∧Fr 122 [(1,vl),(2,.pointer (some ⟨b2,0,none⟩)),(5,.map (some B)),(7,.pointer (some ⟨g7,0,none⟩)),(8,.map (some B2)),(9,.int .i64 (m:Int)),(10,.int .i64 (i:Int)),(22,vl),(23,.int .i64 L.length),(24,.int .i64 (kk:Int)),(30,.pointer (some ⟨r,0,none⟩)),(38,.int .i64 S.length),(39,.int .i64 (i:Int))] a) No 9 No:=by
 refine T3.leaf ?_;rintro Q JS JX JT K_ hS_ hK hX hE hT hR a w ⟨hW,⟨fr,rfl,q1,q2,q5,q7,q8,q9,q22,q23,q24,q30,q38,q39,_⟩⟩;have HW:=Lib.hid hW;have hln:=hl.n;have hsn:=hs.n;obtain⟨p1,c1,rfl⟩:=hs.r.shape;obtain⟨p2,c2,rfl⟩:=hl.r.shape;clear hW hs hl h2;generalize geta L (kk:Int)=y at *;rw [fr_lkR,fe q1,fe q2,fe q5,fe q7,fe q8,fe q9,fe q22,fe q23,fe q24,fe q30,fe q38,fe q39];clear q1 q2 q5 q7 q8 q9 q22 q23 q24 q30 q38 q39;conv=>arg 2;whnf
 go_wp2_with fail
 refine Met.intro (hS_ _ _ ?_);exact⟨HW.out,Fr.r rfl rfl⟩
theorem lk13:T3 Tryz.prog (fun a w=>(LkM w0 B r n (MlS S L kk) (fun y=>Lf y∧y≠m) cnt2 B2 n3 (M3G (fitK S L kk) S.length (MlS S L kk) Lf m i) g7 (geta L (kk:Int)) w)∧Fr 122 [(1,vl),(2,.pointer (some ⟨b2,0,none⟩)),(5,.map (some B)),(7,.pointer (some ⟨g7,0,none⟩)),(8,.map (some B2)),(9,.int .i64 (m:Int)),(10,.int .i64 (i:Int)),(22,vl),(23,.int .i64 L.length),(24,.int .i64 (kk:Int)),(30,.pointer (some ⟨r,0,none⟩)),(38,.int .i64 S.length),(39,.int .i64 (i:Int))] a) (sel [1,1,0,1,4,4,1,1,0,4,1,1,0,1,4,4,1,1,4,1,1,1,4,4,1,1,0,4,1,0] lkR) (fun a w=>∃q,Fr 122 ((54,.bool q)::[(1,vl),(2,.pointer (some ⟨b2,0,none⟩)),(5,.map (some B)),(7,.pointer (some ⟨g7,0,none⟩)),(8,.map (some B2)),(9,.int .i64 (m:Int)),(10,.int .i64 (i:Int)),(22,vl),(23,.int .i64 L.length),(24,.int .i64 (kk:Int)),(30,.pointer (some ⟨r,0,none⟩)),(38,.int .i64 S.length),(39,.int .i64 (i:Int))]) a∧((q=(!m.testBit i&&fitK S L kk i))∧LkM w0 B r n (MlS S L kk) (fun y=>Lf y∧y≠m) cnt2 B2 n3 (M3G (fitK S L kk) S.length (MlS S L kk) Lf m i) g7 (geta L (kk:Int)) w)) No 9 No:=by
 refine T3.leafN ?_;rintro JS hS_ a w ⟨hW,⟨fr,rfl,q1,q2,q5,q7,q8,q9,q10,q22,q23,q24,q30,q38,q39,_⟩⟩;have hD:LkM w0 B r n (MlS S L kk) (fun y=>Lf y∧y≠m) cnt2 B2 n3 (M3G (fitK S L kk) S.length (MlS S L kk) Lf m i) g7 (geta L (kk:Int)) w.drew:=hW.below (below_drewN (Below.refl _ _) 1);have cb2:w.cell? ⟨b2,0,none⟩=some vs:=(hW.m.bel.cell (p:=⟨b2,0,none⟩) (World.block_lt_of_cell? w0 _ h2)).trans h2;have hsd:=hs.below hD.m.bel;have hld:=hl.below hD.m.bel;have hRs:=hsd.r;have hps:=hsd.p _ (geta_mem (l:=S) (i:=(i:Int)) (by omega) (by omega));have hpl:=hld.p _ (geta_mem (l:=L) (i:=(kk:Int)) (by omega) (by omega));obtain⟨u0,u1,u2,u3,u4⟩:=hD.b;have HC2:=Lib.hid (fit_ref _ _ w.drew hps hpl);rw [commonB_comm]at HC2;have HF:=Lib.hid (show commonB (geta L (kk:Int)).ps (geta S (i:Int)).ps=fitK S L kk i from rfl);rw [HF.out]at HC2;have HD:=Lib.hid hD;have hbz:=bit_z m (rchL_16 hS4 hm.out.2) i (by omega);obtain⟨p1,c1,rfl⟩:=hRs.shape;obtain⟨z1,o1,rfl,_,_,hcs⟩:=Row.nonnil hRs (by omega);have t0:=Row.elAt encSl_length hcs (k:=(i:Int)) (by omega) (by omega) 0 _ (by decide) rfl;have t1:=Row.elAt encSl_length hcs (k:=(i:Int)) (by omega) (by omega) 1 _ (by decide) rfl;rw [Int.toNat_natCast]at t0 t1;rw [Nat.add_zero]at t0;obtain⟨p2,c2,rfl⟩:=hl.r.shape;obtain⟨aa1,d1,hq1⟩:=hpl.r.shape;obtain⟨aa2,d2,hq2⟩:=hps.r.shape;have hln:=hl.n;clear hcs hRs hW hD hsd hld hs hl h2 HF hm;generalize fitK S L kk i=ff at *;generalize geta S (i:Int)=sx at *;generalize geta L (kk:Int)=y at *;obtain⟨sk_,sv_,sps⟩:=sx;obtain⟨yk,yv,yps,yn,yd,yp⟩:=y;simp only at hq1 hq2 t0 t1 u0 u1 u2 u3 u4 HC2;subst hq1;subst hq2;have hi4:i<4:=by omega
 cases hbt:m.testBit i
 ·have hbf:=hbz.2 hbt;have HQ:=Lib.hid (show ff=(!m.testBit i&&ff)by rw [hbt];cases ff <;> rfl);clear hbt hbz;rw [fr_lkR,fe q1,fe q2,fe q5,fe q7,fe q8,fe q9,fe q10,fe q22,fe q23,fe q24,fe q30,fe q38,fe q39];clear q1 q2 q5 q7 q8 q9 q10 q22 q23 q24 q30 q38 q39;conv=>arg 2;whnf
  refine wp_region_mix (none) [(true,0),(true,1),(true,2),(true,3),(true,4),(true,5),(true,6),(true,7),(true,10),(true,8),(true,9),(false,11),(true,12)] (by kernel_rfl) (by kernel_rfl) (by intro c a d v w h;cases d <;> exact h) ?_;simp only [pickFlat,List.filterMap_cons,List.filterMap_nil,List.getElem?_cons_succ,List.getElem?_cons_zero,Option.map_some];have A2:=wof_at (w₁:=w.drew) (row:=none) (a:=⟨b2,0,none⟩) cb2 (by simp);have T0:=wof_at (w₁:=w.drew) (row:=none) (a:=⟨z1,o1+i*2,none⟩) t0 (by simp);have T1:=wof_at (w₁:=w.drew) (row:=none) (a:=⟨z1,o1+i*2+1,none⟩) t1 (by simp);have U0:=wof_at (w₁:=w.drew) (row:=none) (a:=⟨g7,0,none⟩) u0 (by simp);have U1:=wof_at (w₁:=w.drew) (row:=none) (a:=⟨g7,1,none⟩) u1 (by simp);have U2:=wof_at (w₁:=w.drew) (row:=none) (a:=⟨g7,2,none⟩) u2 (by simp);have U3:=wof_at (w₁:=w.drew) (row:=none) (a:=⟨g7,3,none⟩) u3 (by simp);have U4:=wof_at (w₁:=w.drew) (row:=none) (a:=⟨g7,4,none⟩) u4 (by simp);refine flat_hide (fun W hH hC hN hE=>?_)
  iterate 6 (refine hH.out _ _ _ _ (fun K hK=>?_);go_simp;refine hK _ ?_;clear hK K)
  iterate 5 (refine hH.out _ _ _ _ (fun K hK=>?_);go_simp;refine hK _ ?_;clear hK K)
  refine hC.out _ _ _ _ (by first|rfl|go_simp) (fun K hK=>?_);simp only [bare];go_wp2_with fail
  refine HC2.out.mono ?_;rintro e w2 ⟨rfl,hb2⟩;have HB2:=Lib.hid hb2;have HR2:=Lib.hid (HD.out.below HB2.out);clear hb2;go_wp2_with fail
  refine hK.out _ _ (grown_of_below HB2.out) ?_;clear hK K
  iterate 1 (refine hH.out _ _ _ _ (fun K hK=>?_);go_simp;refine hK _ ?_;clear hK K)
  refine hE.out _ _ ?_;clear hH hC hN hE W;show JS _ _;refine hS_ _ _ ?_;exact⟨_,Fr.r rfl rfl,HQ.out,HR2.out⟩
 ·have hbf:¬bits BinOp.and IntKind.i64 ((m:Int) / 2 ^ i) 1=0:=fun e=>by have:=hbz.1 e;rw [hbt]at this;cases this
  have HQ:=Lib.hid (show false=(!m.testBit i&&ff)by rw [hbt];rfl);clear hbt hbz;rw [fr_lkR,fe q1,fe q2,fe q5,fe q7,fe q8,fe q9,fe q10,fe q22,fe q23,fe q24,fe q30,fe q38,fe q39];clear q1 q2 q5 q7 q8 q9 q10 q22 q23 q24 q30 q38 q39;conv=>arg 2;whnf
  refine wp_region_mix (none) [(true,0),(true,1),(true,2),(true,3),(true,4),(true,5),(true,6),(true,7),(true,10),(true,8),(true,9),(false,11),(true,12)] (by kernel_rfl) (by kernel_rfl) (by intro c a d v w h;cases d <;> exact h) ?_;simp only [pickFlat,List.filterMap_cons,List.filterMap_nil,List.getElem?_cons_succ,List.getElem?_cons_zero,Option.map_some];have A2:=wof_at (w₁:=w.drew) (row:=none) (a:=⟨b2,0,none⟩) cb2 (by simp);have T0:=wof_at (w₁:=w.drew) (row:=none) (a:=⟨z1,o1+i*2,none⟩) t0 (by simp);have T1:=wof_at (w₁:=w.drew) (row:=none) (a:=⟨z1,o1+i*2+1,none⟩) t1 (by simp);have U0:=wof_at (w₁:=w.drew) (row:=none) (a:=⟨g7,0,none⟩) u0 (by simp);have U1:=wof_at (w₁:=w.drew) (row:=none) (a:=⟨g7,1,none⟩) u1 (by simp);have U2:=wof_at (w₁:=w.drew) (row:=none) (a:=⟨g7,2,none⟩) u2 (by simp);have U3:=wof_at (w₁:=w.drew) (row:=none) (a:=⟨g7,3,none⟩) u3 (by simp);have U4:=wof_at (w₁:=w.drew) (row:=none) (a:=⟨g7,4,none⟩) u4 (by simp);refine flat_hide (fun W hH hC hN hE=>?_)
  iterate 6 (refine hH.out _ _ _ _ (fun K hK=>?_);go_simp;refine hK _ ?_;clear hK K)
  iterate 5 (refine hH.out _ _ _ _ (fun K hK=>?_);go_simp;refine hK _ ?_;clear hK K)
  refine hN.out _ _ _ _ (grown_refl _ _) (by first|rfl|go_simp) ?_
  iterate 1 (refine hH.out _ _ _ _ (fun K hK=>?_);go_simp;refine hK _ ?_;clear hK K)
  refine hE.out _ _ ?_;clear hH hC hN hE W;show JS _ _;refine hS_ _ _ ?_;exact⟨_,Fr.r rfl rfl,HQ.out,HD.out⟩
theorem lk14 (h1:m.testBit i=false)(h3:fitK S L kk i=true)(hn3:n3≤n2+1+i):T3 Tryz.prog (fun a w=>(LkM w0 B r n (MlS S L kk) (fun y=>Lf y∧y≠m) cnt2 B2 n3 (M3G (fitK S L kk) S.length (MlS S L kk) Lf m i) g7 (geta L (kk:Int)) w)∧Fr 122 [(1,vl),(2,.pointer (some ⟨b2,0,none⟩)),(5,.map (some B)),(7,.pointer (some ⟨g7,0,none⟩)),(8,.map (some B2)),(9,.int .i64 (m:Int)),(10,.int .i64 (i:Int)),(22,vl),(23,.int .i64 L.length),(24,.int .i64 (kk:Int)),(30,.pointer (some ⟨r,0,none⟩)),(38,.int .i64 S.length),(39,.int .i64 (i:Int))] a) (sel [1,1,0,1,4,4,1,1,0,4,1,1,0,1,4,4,1,1,4,1,1,1,4,4,1,1,0,4,1,1,2] lkR) (fun a w=>(LkM w0 B r n (MlS S L kk) (fun y=>Lf y∧y≠m) cnt2 B2 (n3+1) (M3G (fitK S L kk) S.length (MlS S L kk) Lf m (i+1)) g7 (geta L (kk:Int)) w)∧Fr 122 [(1,vl),(2,.pointer (some ⟨b2,0,none⟩)),(5,.map (some B)),(7,.pointer (some ⟨g7,0,none⟩)),(8,.map (some B2)),(9,.int .i64 (m:Int)),(10,.int .i64 (i:Int)),(22,vl),(23,.int .i64 L.length),(24,.int .i64 (kk:Int)),(30,.pointer (some ⟨r,0,none⟩)),(38,.int .i64 S.length),(39,.int .i64 (i:Int))] a) No 9 No:=by
 refine T3.leaf ?_;rintro Q JS JX JT K_ hS_ hK hX hE hT hR a w ⟨hW,⟨fr,rfl,q1,q2,q5,q7,q8,q9,q10,q22,q23,q24,q30,q38,q39,_⟩⟩;have hm16:=rchL_16 hS4 hm.out.2;obtain⟨hor,hlt⟩:=or_w4 m hm16 i (by omega);have HS:=Lib.hid hW.m.s2;have HP:=Lib.hid (fun w' (hs2:SetW w' B2 (n3+1) (fun x=>(M3G (fitK S L kk) S.length (MlS S L kk) Lf m i) x∨x=orBit m i)) (g:w.grownBy w' (some B2))=>(hW.put hs2 g).congr (M3:=(M3G (fitK S L kk) S.length (MlS S L kk) Lf m (i+1))) (fun _=>g3_yes h1 h3));have hi4:i<4:=by omega
 have hn9:n3<1000000000:=by omega
 obtain⟨p1,c1,rfl⟩:=hs.r.shape;obtain⟨p2,c2,rfl⟩:=hl.r.shape;have HW:=Lib.hid hW;clear hW hs hl hm h2;generalize geta L (kk:Int)=y at *;generalize hob:orBit m i=ob at *;clear hob;rw [fr_lkR,fe q1,fe q2,fe q5,fe q7,fe q8,fe q9,fe q10,fe q22,fe q23,fe q24,fe q30,fe q38,fe q39];clear q1 q2 q5 q7 q8 q9 q10 q22 q23 q24 q30 q38 q39;conv=>arg 2;whnf
 go_wp2_with (at_mapUpdate;refine wp_put_set rfl _ _ _ rfl B2 n3 ob true _ rfl rfl rfl (by omega) hn9 HS.out ?_;intro w' hs2 hg2)
 refine Met.intro (hS_ _ _ ?_);exact⟨HP.out w' hs2 hg2,Fr.r rfl rfl⟩
theorem lkI (hn3:n3≤n2+1+i):T3 Tryz.prog (fun a w=>(LkM w0 B r n (MlS S L kk) (fun y=>Lf y∧y≠m) cnt2 B2 n3 (M3G (fitK S L kk) S.length (MlS S L kk) Lf m i) g7 (geta L (kk:Int)) w)∧Fr 122 [(1,vl),(2,.pointer (some ⟨b2,0,none⟩)),(5,.map (some B)),(7,.pointer (some ⟨g7,0,none⟩)),(8,.map (some B2)),(9,.int .i64 (m:Int)),(22,vl),(23,.int .i64 L.length),(24,.int .i64 (kk:Int)),(30,.pointer (some ⟨r,0,none⟩)),(38,.int .i64 S.length),(39,.int .i64 (i:Int))] a) (sel [1,1,0,1,4,4,1,1,0,4,1,1,0,1,4,4,1,1,4,1,1,1,4,4,1,1,0] lkR) (fun a w=>∃(n3:Nat),(n3≤n2+1+(i+1))∧(LkM w0 B r n (MlS S L kk) (fun y=>Lf y∧y≠m) cnt2 B2 n3 (M3G (fitK S L kk) S.length (MlS S L kk) Lf m (i+1)) g7 (geta L (kk:Int)) w)∧Fr 122 [(1,vl),(2,.pointer (some ⟨b2,0,none⟩)),(5,.map (some B)),(7,.pointer (some ⟨g7,0,none⟩)),(8,.map (some B2)),(9,.int .i64 (m:Int)),(22,vl),(23,.int .i64 L.length),(24,.int .i64 (kk:Int)),(30,.pointer (some ⟨r,0,none⟩)),(38,.int .i64 S.length),(39,.int .i64 (i:Int))] a) No 9 No:=by
 refine T3.block (id':=5) (c:=(sel [1,1,0,1,4,4,1,1,0,4,1,1,0,1,4,4,1,1,4,1,1,1,4,4,1,1,0,4] lkR)) (by decide) ?_;refine T3.sq rfl ((lk12 w0 b2 vs vl S L hs hl h2 hS4 hL6 kk hkk B n g7 B2 r Lf cnt n2 m cnt2 hm hnb i n3 hi).noX) ?_;refine T3.tt rfl (C:=fun q=>(q=(!m.testBit i&&fitK S L kk i))) (W:=fun w=>LkM w0 B r n (MlS S L kk) (fun y=>Lf y∧y≠m) cnt2 B2 n3 (M3G (fitK S L kk) S.length (MlS S L kk) Lf m i) g7 (geta L (kk:Int)) w) (by decide) ((lk13 w0 b2 vs vl S L hs hl h2 hS4 hL6 kk hkk B n g7 B2 r Lf cnt n2 m cnt2 hm hnb i n3 hi).noX) ?_ (T3.skip ?_)
 ·refine T3.pre (R:=fun a w=>(m.testBit i=false∧fitK S L kk i=true)∧(LkM w0 B r n (MlS S L kk) (fun y=>Lf y∧y≠m) cnt2 B2 n3 (M3G (fitK S L kk) S.length (MlS S L kk) Lf m i) g7 (geta L (kk:Int)) w)∧Fr 122 [(1,vl),(2,.pointer (some ⟨b2,0,none⟩)),(5,.map (some B)),(7,.pointer (some ⟨g7,0,none⟩)),(8,.map (some B2)),(9,.int .i64 (m:Int)),(10,.int .i64 (i:Int)),(22,vl),(23,.int .i64 L.length),(24,.int .i64 (kk:Int)),(30,.pointer (some ⟨r,0,none⟩)),(38,.int .i64 S.length),(39,.int .i64 (i:Int))] a) (T3.pure fun hq=>((lk14 w0 b2 vs vl S L hs hl h2 hS4 hL6 kk hkk B n g7 B2 r Lf cnt n2 m cnt2 hm hnb i n3 hi hq.1 hq.2 hn3).noX).post ?_) (fun a w ⟨hF,hq,hW⟩=>⟨by have:=hq.symm;simp only [Bool.and_eq_true,Bool.not_eq_true']at this;exact this,hW,hF.tail⟩);rintro a w ⟨hW,hF⟩;exact⟨n3+1,by omega,hW,hF.sub (by simp)⟩
 ·rintro a w ⟨hq,hW,hF⟩;refine⟨n3,by omega,hW.congr (fun _=>g3_no (fun h=>?_)),hF.sub (by simp)⟩;rw [h.1,h.2]at hq;cases hq
end
theorem lki (k:Int):T3 Tryz.prog (fun a w=>∃(n3:Nat),((0≤k∧k<S.length)∧(n3≤n2+1+(k:Int).toNat))∧(LkM w0 B r n (MlS S L kk) (fun y=>Lf y∧y≠m) cnt2 B2 n3 (M3G (fitK S L kk) S.length (MlS S L kk) Lf m (k:Int).toNat) g7 (geta L (kk:Int)) w)∧Fr 122 [(1,vl),(2,.pointer (some ⟨b2,0,none⟩)),(5,.map (some B)),(7,.pointer (some ⟨g7,0,none⟩)),(8,.map (some B2)),(9,.int .i64 (m:Int)),(22,vl),(23,.int .i64 L.length),(24,.int .i64 (kk:Int)),(30,.pointer (some ⟨r,0,none⟩)),(38,.int .i64 S.length),(39,.int .i64 k)] a) (sel [1,1,0,1,4,4,1,1,0,4,1,1,0,1,4,4,1,1,4,1,1,1,4,4,1,1,0] lkR) (fun a w=>∃(n3:Nat),((0≤k∧k<S.length)∧(n3≤n2+1+((k+1):Int).toNat))∧(LkM w0 B r n (MlS S L kk) (fun y=>Lf y∧y≠m) cnt2 B2 n3 (M3G (fitK S L kk) S.length (MlS S L kk) Lf m ((k+1):Int).toNat) g7 (geta L (kk:Int)) w)∧Fr 122 [(1,vl),(2,.pointer (some ⟨b2,0,none⟩)),(5,.map (some B)),(7,.pointer (some ⟨g7,0,none⟩)),(8,.map (some B2)),(9,.int .i64 (m:Int)),(22,vl),(23,.int .i64 L.length),(24,.int .i64 (kk:Int)),(30,.pointer (some ⟨r,0,none⟩)),(38,.int .i64 S.length),(39,.int .i64 k)] a) No 9 No:=by
 refine T3.ex fun n3=>T3.pure fun hh=>?_
 obtain⟨hh,hI⟩:=hh;obtain⟨i,rfl⟩:=Int.eq_ofNat_of_zero_le hh.1;rw [Int.toNat_natCast]at hI ⊢;refine T3.mono (lkI w0 b2 vs vl S L hs hl h2 hS4 hL6 kk hkk B n g7 B2 r Lf cnt n2 m cnt2 hm hnb i n3 (by omega) hI) (fun _ _ q=>q) ?_ (fun _ _ q=>q) (fun _ _ q=>q);rintro a w ⟨n4,hI2,hW,hF⟩;refine⟨n4,⟨hh,?_⟩,?_,hF⟩
 ·rw [show((i:Int)+1).toNat=i+1 by omega];exact hI2
 ·rw [show((i:Int)+1).toNat=i+1 by omega];exact hW
def lkIAI (w0:World)(b2:Nat)(vs vl:Value)(S:List SlD)(L:List ScD)(hs:SlH w0 vs S)(hl:ScH w0 vl L)(h2:w0.cell? ⟨b2,0,none⟩=some vs)(hS4:S.length≤4)(hL6:L.length≤6)(kk:Nat)(hkk:kk<L.length)(B n:Nat)(g7:Nat)(B2:Nat)(r:Nat)(Lf:Nat→Prop)(cnt n2:Nat)(m cnt2:Nat)(hm:Hid (Lf m∧MlS S L kk m))(hnb:n2≤1000000)(k:Int)(a:Act)(w:World):Prop:=(0≤k∧k≤S.length)∧∃(n3:Nat),(n3≤n2+1+(k:Int).toNat)∧(LkM w0 B r n (MlS S L kk) (fun y=>Lf y∧y≠m) cnt2 B2 n3 (M3G (fitK S L kk) S.length (MlS S L kk) Lf m (k:Int).toNat) g7 (geta L (kk:Int)) w)∧Fr 122 [(1,vl),(2,.pointer (some ⟨b2,0,none⟩)),(5,.map (some B)),(7,.pointer (some ⟨g7,0,none⟩)),(8,.map (some B2)),(9,.int .i64 (m:Int)),(22,vl),(23,.int .i64 L.length),(24,.int .i64 (kk:Int)),(30,.pointer (some ⟨r,0,none⟩)),(38,.int .i64 S.length),(39,.int .i64 k)] a
theorem lkIAt (k:Int):T3 Tryz.prog (fun a w=>lkIAI w0 b2 vs vl S L hs hl h2 hS4 hL6 kk hkk B n g7 B2 r Lf cnt n2 m cnt2 hm hnb k a w) (sel [1,1,0,1,4,4,1,1,0,4,1,1,0,1,4,4,1,1,4,1,1,1,4,4,0] lkR) (fun a w=>∃q,Fr 122 ((40,.bool q)::[(39,.int .i64 k)]) a∧((q=true↔k<S.length)∧lkIAI w0 b2 vs vl S L hs hl h2 hS4 hL6 kk hkk B n g7 B2 r Lf cnt n2 m cnt2 hm hnb k a w)) No 9 No:=by
 refine T3.leaf ?_;rintro Q JS JX JT K_ hS_ hK hX hE hT hR a w ⟨hk,n3,hpre,hW,⟨fr,rfl,q1,q2,q5,q7,q8,q9,q22,q23,q24,q30,q38,q39,_⟩⟩;have hsn:=hs.n;rw [fr_lkR,fe q1,fe q2,fe q5,fe q7,fe q8,fe q9,fe q22,fe q23,fe q24,fe q30,fe q38,fe q39];clear q1 q2 q5 q7 q8 q9 q22 q23 q24 q30 q38 q39;conv=>arg 2;whnf
 by_cases hlt:k<S.length
 ·go_wp2_with fail
  refine Met.intro (hS_ _ _ ?_);exact⟨true,Fr.r rfl rfl,⟨fun _=>hlt,fun _=>rfl⟩,hk,n3,hpre,hW,Fr.r rfl rfl⟩
 ·have hpb:decide (k<(S.length:Int))=false:=by simp;omega
  go_wp2_with fail
  refine Met.intro (hS_ _ _ ?_);exact⟨false,Fr.r rfl rfl,⟨(fun h=>by cases h),fun h=>absurd h (by omega)⟩,hk,n3,hpre,hW,Fr.r rfl rfl⟩
theorem lkIAn (k:Int):T3 Tryz.prog (fun a w=>(0≤k∧k<S.length)∧∃(n3:Nat),(n3≤n2+1+((k+1):Int).toNat)∧(LkM w0 B r n (MlS S L kk) (fun y=>Lf y∧y≠m) cnt2 B2 n3 (M3G (fitK S L kk) S.length (MlS S L kk) Lf m ((k+1):Int).toNat) g7 (geta L (kk:Int)) w)∧Fr 122 [(1,vl),(2,.pointer (some ⟨b2,0,none⟩)),(5,.map (some B)),(7,.pointer (some ⟨g7,0,none⟩)),(8,.map (some B2)),(9,.int .i64 (m:Int)),(22,vl),(23,.int .i64 L.length),(24,.int .i64 (kk:Int)),(30,.pointer (some ⟨r,0,none⟩)),(38,.int .i64 S.length),(39,.int .i64 k)] a) (sel [1,1,0,1,4,4,1,1,0,4,1,1,0,1,4,4,1,1,4,1,1,1,4,4,1,1,1] lkR) (fun a w=>lkIAI w0 b2 vs vl S L hs hl h2 hS4 hL6 kk hkk B n g7 B2 r Lf cnt n2 m cnt2 hm hnb (k+1) a w) No 9 No:=by
 refine T3.leaf ?_;rintro Q JS JX JT K_ hS_ hK hX hE hT hR a w ⟨hk,n3,hpre,hW,⟨fr,rfl,q1,q2,q5,q7,q8,q9,q22,q23,q24,q30,q38,q39,_⟩⟩;obtain⟨hk0,hk1⟩:=hk;have hsn:=hs.n;rw [fr_lkR,fe q1,fe q2,fe q5,fe q7,fe q8,fe q9,fe q22,fe q23,fe q24,fe q30,fe q38,fe q39];clear q1 q2 q5 q7 q8 q9 q22 q23 q24 q30 q38 q39;conv=>arg 2;whnf
 go_wp2_with fail
 refine Met.intro (hS_ _ _ ?_);exact⟨⟨by omega,by omega⟩,n3,hpre,hW,Fr.r rfl rfl⟩
theorem lkIAloop:T3 Tryz.prog (fun a w=>lkIAI w0 b2 vs vl S L hs hl h2 hS4 hL6 kk hkk B n g7 B2 r Lf cnt n2 m cnt2 hm hnb 0 a w) (sel [1,1,0,1,4,4,1,1,0,4,1,1,0,1,4,4,1,1,4,1,1,1] lkR) (fun a w=>∃(n3:Nat),(n3≤n2+5)∧(LkM w0 B r n (MlS S L kk) (fun y=>Lf y∧y≠m) cnt2 B2 n3 (M2G (fitK S L kk) S.length (MlS S L kk) (fun y=>Lf y∧y≠m)) g7 (geta L (kk:Int)) w)∧Fr 122 [(1,vl),(2,.pointer (some ⟨b2,0,none⟩)),(5,.map (some B)),(7,.pointer (some ⟨g7,0,none⟩)),(8,.map (some B2)),(9,.int .i64 (m:Int)),(22,vl),(23,.int .i64 L.length),(24,.int .i64 (kk:Int)),(30,.pointer (some ⟨r,0,none⟩))] a) No 9 No :=
 T3.range (I:=lkIAI w0 b2 vs vl S L hs hl h2 hS4 hL6 kk hkk B n g7 B2 r Lf cnt n2 m cnt2 hm hnb) rfl (by decide) (lkIAt w0 b2 vs vl S L hs hl h2 hS4 hL6 kk hkk B n g7 B2 r Lf cnt n2 m cnt2 hm hnb) (lkIAn w0 b2 vs vl S L hs hl h2 hS4 hL6 kk hkk B n g7 B2 r Lf cnt n2 m cnt2 hm hnb) (fun _ _ _ h=>h.1) (fun k hk=>T3.mono (lki w0 b2 vs vl S L hs hl h2 hS4 hL6 kk hkk B n g7 B2 r Lf cnt n2 m cnt2 hm hnb k) (fun a w ⟨_,n3,hp,hI⟩=>⟨n3,⟨hk,hp⟩,hI⟩) (fun a w ⟨n3,⟨hk,hp⟩,hI⟩=>⟨hk,n3,hp,hI⟩) (fun _ _ q=>q) (fun _ _ q=>q)) (fun a w hI=>by
  obtain⟨hk,hI⟩:=hI;obtain⟨n3,hn3,hW,hF⟩:=hI;rw [Int.toNat_natCast]at hn3 hW;exact⟨n3,by omega,hW.congr (fun _=>g3_end hm.out.2),hF.sub (by simp)⟩)
end
section
variable (w0:World)(b2:Nat)(vs vl:Value)(S:List SlD)(L:List ScD)(hs:SlH w0 vs S)(hl:ScH w0 vl L)(h2:w0.cell? ⟨b2,0,none⟩=some vs)(hS4:S.length≤4)(hL6:L.length≤6)
include hs hl h2 hS4 hL6
section
variable (kk:Nat)(hkk:kk<L.length)(B n:Nat)
include hkk B n
theorem lkM (g7:Nat)(B2:Nat)(r:Nat)(hn6:n≤5 ^ 6):T3 Tryz.prog (fun a w=>∃cnt:Nat,cnt≤n∧(LkM w0 B r n (MlS S L kk) (MlS S L kk) cnt B2 0 (M2G (fitK S L kk) S.length (MlS S L kk) (MlS S L kk)) g7 (geta L (kk:Int)) w)∧Fr 122 [(1,vl),(2,.pointer (some ⟨b2,0,none⟩)),(5,.map (some B)),(7,.pointer (some ⟨g7,0,none⟩)),(8,.map (some B2)),(22,vl),(23,.int .i64 L.length),(24,.int .i64 (kk:Int)),(30,.pointer (some ⟨r,0,none⟩))] a) (sel [1,1,0,1,4,4,1,1,0,4,1,1,0,1] lkR) (fun a w=>∃(n2:Nat),(n2≤5*n)∧(CoA w0 B2 n2 (MlS S L (kk+1)) w)∧Fr 122 [(1,vl),(2,.pointer (some ⟨b2,0,none⟩)),(5,.map (some B)),(7,.pointer (some ⟨g7,0,none⟩)),(8,.map (some B2)),(22,vl),(23,.int .i64 L.length),(24,.int .i64 (kk:Int))] a) No 9 No:=by
 refine T3.loop (c:=(sel [1,1,0,1,4,4,1,1,0,4,1,1,0,1,4,4] lkR)) (fun ng a w=>∃(Lf:Nat→Prop) (cnt n2:Nat),(cnt=ng∧n2+5*cnt≤5*n∧(∀x,Lf x→MlS S L kk x))∧(LkM w0 B r n (MlS S L kk) Lf cnt B2 n2 (M2G (fitK S L kk) S.length (MlS S L kk) Lf) g7 (geta L (kk:Int)) w)∧Fr 122 [(1,vl),(2,.pointer (some ⟨b2,0,none⟩)),(5,.map (some B)),(7,.pointer (some ⟨g7,0,none⟩)),(8,.map (some B2)),(22,vl),(23,.int .i64 L.length),(24,.int .i64 (kk:Int)),(30,.pointer (some ⟨r,0,none⟩))] a) (fun a w ⟨cnt,hc,h⟩=>⟨_,_,cnt,0,⟨rfl,by omega,fun _ h=>h⟩,h⟩) (fun ng=>T3.ex fun Lf=>T3.ex fun cnt=>T3.ex fun n2=>T3.pure fun hh=>?_);obtain⟨rfl,hnn,hLf⟩:=hh;refine T3.sq rfl ((lk7 w0 b2 vs vl S L hs hl h2 hS4 hL6 kk hkk B n g7 B2 r Lf cnt n2).noX) ?_;refine T3.sq rfl (S:=fun a w=>∃(m:Nat) (c:Value) (cnt2:Nat),(Lf m∧cnt2<cnt)∧(LkM w0 B r n (MlS S L kk) (fun y=>Lf y∧y≠m) cnt2 B2 n2 (M2G (fitK S L kk) S.length (MlS S L kk) Lf) g7 (geta L (kk:Int)) w∧(Instr.entry (.pointer (some ⟨r,0,none⟩))).run Tryz.prog w=.ok (.tuple #[.int .i64 (m:Int),c]) w)∧Fr 122 [(1,vl),(2,.pointer (some ⟨b2,0,none⟩)),(5,.map (some B)),(7,.pointer (some ⟨g7,0,none⟩)),(8,.map (some B2)),(22,vl),(23,.int .i64 L.length),(24,.int .i64 (kk:Int)),(30,.pointer (some ⟨r,0,none⟩))] a) ?_ ?_
 ·refine T3.iff (x:=.skip) (y:=.exit 2) (M:=(fun(q:Bool) (w:World)=>(q=false∧(∀m,¬Lf m)∧LkM w0 B r n (MlS S L kk) Lf cnt B2 n2 (M2G (fitK S L kk) S.length (MlS S L kk) Lf) g7 (geta L (kk:Int)) w)∨(q=true∧∃(m:Nat) (c:Value) (cnt2:Nat),(Lf m∧cnt2<cnt)∧LkM w0 B r n (MlS S L kk) (fun y=>Lf y∧y≠m) cnt2 B2 n2 (M2G (fitK S L kk) S.length (MlS S L kk) Lf) g7 (geta L (kk:Int)) w∧(Instr.entry (.pointer (some ⟨r,0,none⟩))).run Tryz.prog w=.ok (.tuple #[.int .i64 (m:Int),c]) w))) (by decide) (T3.skip ?_) (T3.exit ?_)
  ·rintro a w ⟨hF,h|⟨_,m,c,cnt2,h1,h2,h3⟩⟩
   ·cases h.1
   ·exact⟨m,c,cnt2,h1,⟨h2,h3⟩,hF.tail⟩
  ·rintro a w ⟨hF,⟨_,hl0,hW⟩|h⟩
   ·exact⟨n2,by omega,⟨hW.m.bel,hW.m.lo2,hW.m.s2.congr (fun _=>g2_end hl0)⟩,hF.sub (by simp)⟩
   ·cases h.1
 refine T3.ex fun m=>T3.ex fun c=>T3.ex fun cnt2=>T3.pure fun hm=>?_
 refine T3.block (id':=3) (c:=(sel [1,1,0,1,4,4,1,1,0,4,1,1,0,1,4,4,1,1,4] lkR)) (by decide) ?_;have hmm:Hid (Lf m∧MlS S L kk m):=Lib.hid ⟨hm.1,hLf m hm.1⟩;have hnb:n2≤1000000:=by omega
 refine T3.sq rfl ((lk8 w0 b2 vs vl S L hs hl h2 hS4 hL6 kk hkk B n g7 B2 r Lf cnt n2 m cnt2 hmm hnb c).noX) ?_;refine T3.sq rfl ((lk9 w0 b2 vs vl S L hs hl h2 hS4 hL6 kk hkk B n g7 B2 r Lf cnt n2 m cnt2 hmm hnb).noX) ?_;refine((T3.seq (s:=(sel [1,1,0,1,4,4,1,1,0,4,1,1,0,1,4,4,1,1,4,1,1,0] lkR)) (c:=(sel [1,1,0,1,4,4,1,1,0,4,1,1,0,1,4,4,1,1,4,1,1,1] lkR)) (lk10 w0 b2 vs vl S L hs hl h2 hS4 hL6 kk hkk B n g7 B2 r Lf cnt n2 m cnt2 hmm hnb) (lkIAloop w0 b2 vs vl S L hs hl h2 hS4 hL6 kk hkk B n g7 B2 r Lf cnt n2 m cnt2 hmm hnb)).noX).post ?_;rintro a w ⟨n3,hn3,hW,hF⟩;exact⟨cnt2,hm.2,_,cnt2,n3,⟨rfl,by omega,fun x h=>hLf x h.1⟩,hW,hF.sub (by simp)⟩
theorem lk16 (g7:Nat)(B2:Nat)(n2:Nat):T3 Tryz.prog (fun a w=>(CoA w0 B2 n2 (MlS S L (kk+1)) w)∧Fr 122 [(1,vl),(2,.pointer (some ⟨b2,0,none⟩)),(5,.map (some B)),(7,.pointer (some ⟨g7,0,none⟩)),(8,.map (some B2)),(22,vl),(23,.int .i64 L.length),(24,.int .i64 (kk:Int))] a) (sel [1,1,0,1,4,4,1,1,0,4,1,1,1] lkR) (fun a w=>(CoA w0 B2 n2 (MlS S L (kk+1)) w)∧Fr 122 [(1,vl),(2,.pointer (some ⟨b2,0,none⟩)),(5,.map (some B2)),(22,vl),(23,.int .i64 L.length),(24,.int .i64 (kk:Int))] a) No 9 No:=by
 refine T3.leaf ?_;rintro Q JS JX JT K_ hS_ hK hX hE hT hR a w ⟨hW,⟨fr,rfl,q1,q2,q5,q7,q8,q22,q23,q24,_⟩⟩;have HW:=Lib.hid hW;have hln:=hl.n;have hsn:=hs.n;obtain⟨p1,c1,rfl⟩:=hs.r.shape;obtain⟨p2,c2,rfl⟩:=hl.r.shape;clear hW hs hl h2;generalize geta L (kk:Int)=y at *;rw [fr_lkR,fe q1,fe q2,fe q5,fe q7,fe q8,fe q22,fe q23,fe q24];clear q1 q2 q5 q7 q8 q22 q23 q24;conv=>arg 2;whnf
 go_wp2_with fail
 refine Met.intro (hS_ _ _ ?_);exact⟨HW.out,Fr.r rfl rfl⟩
theorem lkB (hn:n≤5 ^ kk):T3 Tryz.prog (fun a w=>(CoA w0 B n (MlS S L kk) w)∧Fr 122 [(1,vl),(2,.pointer (some ⟨b2,0,none⟩)),(5,.map (some B)),(22,vl),(23,.int .i64 L.length),(24,.int .i64 (kk:Int))] a) (sel [1,1,0,1,4,4,1,1,0] lkR) (fun a w=>∃(B n:Nat),(n≤5 ^ (kk+1))∧(CoA w0 B n (MlS S L (kk+1)) w)∧Fr 122 [(1,vl),(2,.pointer (some ⟨b2,0,none⟩)),(5,.map (some B)),(22,vl),(23,.int .i64 L.length),(24,.int .i64 (kk:Int))] a) No 9 No:=by
 have hn6:n≤5 ^ 6:=Nat.le_trans hn (Nat.pow_le_pow_right (by decide) (by omega));refine T3.block (id':=1) (c:=(sel [1,1,0,1,4,4,1,1,0,4] lkR)) (by decide) ?_;refine T3.sq rfl ((lk4 w0 b2 vs vl S L hs hl h2 hS4 hL6 kk hkk B n).noX) (T3.ex fun g7=>?_);refine T3.sq rfl ((lk5 w0 b2 vs vl S L hs hl h2 hS4 hL6 kk hkk B n g7).noX) (T3.ex fun B2=>?_);refine T3.sq rfl ((T3.seq (s:=(sel [1,1,0,1,4,4,1,1,0,4,1,1,0,0] lkR)) (c:=(sel [1,1,0,1,4,4,1,1,0,4,1,1,0,1] lkR)) (lk6 w0 b2 vs vl S L hs hl h2 hS4 hL6 kk hkk B n g7 B2) (T3.ex fun r=>(lkM w0 b2 vs vl S L hs hl h2 hS4 hL6 kk hkk B n g7 B2 r hn6).pre fun a w ⟨cnt,h⟩=>⟨cnt,h⟩)).noX) (T3.ex fun n2=>T3.pure fun hn2=>((lk16 w0 b2 vs vl S L hs hl h2 hS4 hL6 kk hkk B n g7 B2 n2).noX).post ?_);rintro a w ⟨hW,hF⟩;exact⟨B2,n2,by rw [Nat.pow_succ];omega,hW,hF⟩
end
theorem lkb (k:Int):T3 Tryz.prog (fun a w=>∃(B n:Nat),((0≤k∧k<L.length)∧(n≤5 ^ (k:Int).toNat))∧(CoA w0 B n (MlS S L (k:Int).toNat) w)∧Fr 122 [(1,vl),(2,.pointer (some ⟨b2,0,none⟩)),(5,.map (some B)),(22,vl),(23,.int .i64 L.length),(24,.int .i64 k)] a) (sel [1,1,0,1,4,4,1,1,0] lkR) (fun a w=>∃(B n:Nat),((0≤k∧k<L.length)∧(n≤5 ^ ((k+1):Int).toNat))∧(CoA w0 B n (MlS S L ((k+1):Int).toNat) w)∧Fr 122 [(1,vl),(2,.pointer (some ⟨b2,0,none⟩)),(5,.map (some B)),(22,vl),(23,.int .i64 L.length),(24,.int .i64 k)] a) No 9 No:=by
 refine T3.ex fun B=>T3.ex fun n=>T3.pure fun hh=>?_
 obtain⟨hh,hI⟩:=hh;obtain⟨kn,rfl⟩:=Int.eq_ofNat_of_zero_le hh.1;rw [Int.toNat_natCast]at hI ⊢;refine T3.mono (lkB w0 b2 vs vl S L hs hl h2 hS4 hL6 kn (by omega) B n hI) (fun _ _ q=>q) ?_ (fun _ _ q=>q) (fun _ _ q=>q);rintro a w ⟨B2,n2,hI2,hW,hF⟩;refine⟨B2,n2,⟨hh,?_⟩,?_,hF⟩
 ·rw [show((kn:Int)+1).toNat=kn+1 by omega];exact hI2
 ·rw [show((kn:Int)+1).toNat=kn+1 by omega];exact hW
def lkAI (w0:World)(b2:Nat)(vs vl:Value)(S:List SlD)(L:List ScD)(hs:SlH w0 vs S)(hl:ScH w0 vl L)(h2:w0.cell? ⟨b2,0,none⟩=some vs)(hS4:S.length≤4)(hL6:L.length≤6)(k:Int)(a:Act)(w:World):Prop:=(0≤k∧k≤L.length)∧∃(B n:Nat),(n≤5 ^ (k:Int).toNat)∧(CoA w0 B n (MlS S L (k:Int).toNat) w)∧Fr 122 [(1,vl),(2,.pointer (some ⟨b2,0,none⟩)),(5,.map (some B)),(22,vl),(23,.int .i64 L.length),(24,.int .i64 k)] a
theorem lkAt (k:Int):T3 Tryz.prog (fun a w=>lkAI w0 b2 vs vl S L hs hl h2 hS4 hL6 k a w) (sel [1,1,0,1,4,4,0] lkR) (fun a w=>∃q,Fr 122 ((25,.bool q)::[(24,.int .i64 k)]) a∧((q=true↔k<L.length)∧lkAI w0 b2 vs vl S L hs hl h2 hS4 hL6 k a w)) No 9 No:=by
 refine T3.leaf ?_;rintro Q JS JX JT K_ hS_ hK hX hE hT hR a w ⟨hk,B,n,hpre,hW,⟨fr,rfl,q1,q2,q5,q22,q23,q24,_⟩⟩;have hln:=hl.n;rw [fr_lkR,fe q1,fe q2,fe q5,fe q22,fe q23,fe q24];clear q1 q2 q5 q22 q23 q24;conv=>arg 2;whnf
 by_cases hlt:k<L.length
 ·go_wp2_with fail
  refine Met.intro (hS_ _ _ ?_);exact⟨true,Fr.r rfl rfl,⟨fun _=>hlt,fun _=>rfl⟩,hk,B,n,hpre,hW,Fr.r rfl rfl⟩
 ·have hpb:decide (k<(L.length:Int))=false:=by simp;omega
  go_wp2_with fail
  refine Met.intro (hS_ _ _ ?_);exact⟨false,Fr.r rfl rfl,⟨(fun h=>by cases h),fun h=>absurd h (by omega)⟩,hk,B,n,hpre,hW,Fr.r rfl rfl⟩
theorem lkAn (k:Int):T3 Tryz.prog (fun a w=>(0≤k∧k<L.length)∧∃(B n:Nat),(n≤5 ^ ((k+1):Int).toNat)∧(CoA w0 B n (MlS S L ((k+1):Int).toNat) w)∧Fr 122 [(1,vl),(2,.pointer (some ⟨b2,0,none⟩)),(5,.map (some B)),(22,vl),(23,.int .i64 L.length),(24,.int .i64 k)] a) (sel [1,1,0,1,4,4,1,1,1] lkR) (fun a w=>lkAI w0 b2 vs vl S L hs hl h2 hS4 hL6 (k+1) a w) No 9 No:=by
 refine T3.leaf ?_;rintro Q JS JX JT K_ hS_ hK hX hE hT hR a w ⟨hk,B,n,hpre,hW,⟨fr,rfl,q1,q2,q5,q22,q23,q24,_⟩⟩;obtain⟨hk0,hk1⟩:=hk;have hln:=hl.n;rw [fr_lkR,fe q1,fe q2,fe q5,fe q22,fe q23,fe q24];clear q1 q2 q5 q22 q23 q24;conv=>arg 2;whnf
 go_wp2_with fail
 refine Met.intro (hS_ _ _ ?_);exact⟨⟨by omega,by omega⟩,B,n,hpre,hW,Fr.r rfl rfl⟩
theorem lkAloop:T3 Tryz.prog (fun a w=>lkAI w0 b2 vs vl S L hs hl h2 hS4 hL6 0 a w) (sel [1,1,0,1] lkR) (fun a w=>∃(B n:Nat),(n≤5 ^ L.length)∧(CoA w0 B n (MlS S L L.length) w)∧Fr 122 [(1,vl),(2,.pointer (some ⟨b2,0,none⟩)),(5,.map (some B))] a) No 9 No :=
 T3.range (I:=lkAI w0 b2 vs vl S L hs hl h2 hS4 hL6) rfl (by decide) (lkAt w0 b2 vs vl S L hs hl h2 hS4 hL6) (lkAn w0 b2 vs vl S L hs hl h2 hS4 hL6) (fun _ _ _ h=>h.1) (fun k hk=>T3.mono (lkb w0 b2 vs vl S L hs hl h2 hS4 hL6 k) (fun a w ⟨_,B,n,hp,hI⟩=>⟨B,n,⟨hk,hp⟩,hI⟩) (fun a w ⟨B,n,⟨hk,hp⟩,hI⟩=>⟨hk,B,n,hp,hI⟩) (fun _ _ q=>q) (fun _ _ q=>q)) (fun a w hI=>by
  obtain⟨hk,hI⟩:=hI;obtain⟨B,n,hn,hW,hF⟩:=hI;rw [Int.toNat_natCast]at hn hW;exact⟨B,n,hn,hW,hF.sub (by simp)⟩)
end
end Go.Proofs.YtnmdpphddimfbaaGreat
/-
  Lacking of package score: the slots that cannot be laid, one behind the other. Conditions: at most 1000 of each; strings of at most 1000 bytes.
-/
namespace Go.Proofs.YtnmdpphddimfbaaGreat
open Go.RowKit Go.Bw
/-- The keys of the slots that are not laid, r slots from i on. -/
def lackF (can:Nat→Nat→Bool)(S:List SlD):Nat→Nat→List Int→List ByteArray
 | 0,_,_=>[]
 | r+1,i,wi=>(if(addF can i wi).1=true then []else [(geta S (i:Int)).key])++lackF can S r (i+1) (addF can i wi).2.2
def lackR (S:List SlD)(L:List ScD):List ByteArray:=lackF (fun i k=>fitK S L k i) S S.length 0 (List.replicate L.length (-1))
def lackV (S:List SlD)(L:List ScD):List ByteArray:=if ssE S L=0 then lackR S L else []
/-- Where the rounds are. -/
structure LkE (S:List SlD)(L:List ScD)(k:Nat)(wi:List Int)(out:List ByteArray):Prop where
 e:out++lackF (fun i k=>fitK S L k i) S (S.length-k) k wi=lackR S L
 n:out.length≤k
section
variable {S:List SlD}{L:List ScD}{k:Nat}{wi:List Int}{out:List ByteArray}(h:LkE S L k wi out)(hk:k<S.length)
include h hk
theorem LkE.yes (ha:(addF (fun i k=>fitK S L k i) k wi).1=true):LkE S L (k+1) (addF (fun i k=>fitK S L k i) k wi).2.2 out:=by
 have e:=h.e;rw [show S.length-k=(S.length-(k+1))+1 by omega,lackF,if_pos ha]at e;exact⟨e,by have:=h.n;omega⟩
theorem LkE.no (ha:(addF (fun i k=>fitK S L k i) k wi).1=false):LkE S L (k+1) (addF (fun i k=>fitK S L k i) k wi).2.2 (out++[(geta S (k:Int)).key]):=by
 have e:=h.e;rw [show S.length-k=(S.length-(k+1))+1 by omega,lackF,if_neg (by rw [ha];decide)]at e;exact⟨by rw [List.append_assoc];exact e,by have:=h.n;simp;omega⟩
end
/-- The layer, and the row that is handed back. -/
structure LkW (wB:World)(A0 gw m N M:Nat)(fv:Value)(wi:List Int)(v9:Value)(out:List ByteArray)(w:World):Prop where
 z:LzW wB A0 gw m N fv wi w
 o:w.ownsRow M 9 1 v9 out.length (cellsOf encSt out)
 ms:M≤w.heap.size
section
variable {wB w w':World}{A0 gw m N M:Nat}{fv v9 v':Value}{wi wi':List Int}{out:List ByteArray}
section
variable (h:LkW wB A0 gw m N M fv wi v9 out w)
include h
theorem LkW.below (b:Below w.heap.size w w'):LkW wB A0 gw m N M fv wi v9 out w':=⟨h.z.below b,owns_below h.o b (Nat.le_refl _),Nat.le_trans h.ms b.size⟩
theorem LkW.add (hM:gw<M)(hz:LzW wB A0 gw m N fv wi' w')(g:w.grownBy w' (some gw)):LkW wB A0 gw m N M fv wi' v9 out w' :=
 ⟨hz,h.o.kept g (.inr fun e=>by have:=(h.o.lt _ e).1;omega),Nat.le_trans h.ms g.size⟩
theorem LkW.app (hM:wB.heap.size≤M∧A0<M∧gw<M){x:ByteArray}(ho:w'.ownsRow M 9 1 v' (out.length+1) (cellsOf encSt out++[.string x]))(g:w.grownBy w' v9.ownBlock):LkW wB A0 gw m N M fv wi v' (out++[x]) w':=by
 have hz:=h.z;refine⟨⟨below_grown hz.bel h.o g hM.1 hz.bel.size,g.cell (a:=⟨A0,0,none⟩) hz.c0 (fun e=>by have:=(h.o.lt _ e.symm).1;simp only at this;omega),g.cell (a:=⟨A0,1,none⟩) hz.c1 (fun e=>by have:=(h.o.lt _ e.symm).1;simp only at this;omega),
  hz.wr.kept g (.inr fun e=>by
   have e2:v9.ownBlock=some gw:=by rw [←e];rfl
   have:=(h.o.lt _ e2).1;omega),hz.lw,hz.rg,hz.nw,hz.lo⟩,by rw [cellsOf_snoc,List.length_append];exact ho,Nat.le_trans h.ms g.size⟩
end
end
/-- Whether a scorer can be in a slot, the slot first. -/
theorem cl_lack (A7 A9:Nat)(vl vs:Value)(S:List SlD)(L:List ScD)(i k:Nat)(w:World)(h:BoH w A9 vs S vl L)(h7:w.cell? ⟨A7,0,none⟩=some (.pointer (some ⟨A9,0,none⟩)))(hk:k<L.length)(hi:i<S.length):
  Calls Tryz.prog 76 #[.int .i64 (i:Int),.int .i64 (k:Int),.pointer (some ⟨A7,0,none⟩)] w fun e w2=>e=.returned (.bool (fitK S L k i))∧Below w.heap.size w w2:=by
 have HC:=Lib.hid (fits_prog A9 vl vs S L k i w h hk hi);clear h hk hi;generalize fitK S L k i=ff at *
 go_enter Tryz.func76,Tryz.ntmps76
 go_wp2_with fail
 refine HC.out.mono ?_;rintro e w1 ⟨rfl,hb⟩;have HB:=Lib.hid hb;clear hb;go_wp2_with fail
 go_ret
 exact⟨rfl,HB.out⟩
noncomputable def nlP:Code:=(Tryz.f31.body).getD .skip
theorem fr_nlP (f:Nat→Value):frame 47 f=⟨#[f 0,f 1,f 2,f 3,f 4,f 5,f 6,f 7,f 8,f 9,f 10,f 11,f 12,f 13,f 14,f 15,f 16,f 17,f 18,f 19,f 20,f 21,f 22,f 23,f 24,f 25,f 26,f 27,f 28,f 29,f 30,f 31,f 32,f 33,f 34,f 35,f 36,f 37,f 38,f 39,f 40,f 41,f 42,f 43,f 44,f 45,f 46],[]⟩:=by rfl
section
variable (w0:World)(vs vl:Value)(S:List SlD)(L:List ScD)(hs:SlH w0 vs S)(hl:ScH w0 vl L)
include hs hl
theorem nl0:T3 Tryz.prog (fun a w=>(Below w0.heap.size w0 w)∧Fr 47 [(0,vs),(1,vl)] a) (sel [0] nlP) (fun a w=>(Below w0.heap.size w0 w)∧Fr 47 [(0,vs),(1,vl)] a) No 9 (fun a w=>∃v4:Value,(w.ownsRow w0.heap.size 9 1 v4 (lackV S L).length (cellsOf encSt (lackV S L))∧Below w0.heap.size w0 w)∧Fr 47 [(4,v4),(5,.int .i64 (ssE S L))] a):=by
 refine T3.leaf ?_;rintro Q JS JX JT K_ hS_ hK hX hE hT hR a w ⟨hW,⟨fr,rfl,q0,q1,_⟩⟩;have HW:=Lib.hid hW;have hsn:=hs.n;obtain⟨p1,c1,rfl⟩:=hs.r.shape;obtain⟨p2,c2,rfl⟩:=hl.r.shape;clear hW;rw [fr_nlP,fe q0,fe q1];clear q0 q1;conv=>arg 2;whnf
 go_wp2_with fail
 refine Met.intro (hS_ _ _ ?_);exact⟨HW.out,Fr.r rfl rfl⟩
theorem nl1:T3 Tryz.prog (fun a w=>(Below w0.heap.size w0 w)∧Fr 47 [(0,vs),(1,vl)] a) (sel [1,0,0] nlP) (fun a w=>(Below w0.heap.size w0 w)∧Fr 47 [(0,vs),(1,vl),(6,.int .i64 (ssE S L))] a) No 9 (fun a w=>∃v4:Value,(w.ownsRow w0.heap.size 9 1 v4 (lackV S L).length (cellsOf encSt (lackV S L))∧Below w0.heap.size w0 w)∧Fr 47 [(4,v4),(5,.int .i64 (ssE S L))] a):=by
 refine T3.leaf ?_;rintro Q JS JX JT K_ hS_ hK hX hE hT hR a w ⟨hW,⟨fr,rfl,q0,q1,_⟩⟩;have HA:=Lib.hid (slots_prog w vs S (hs.below hW));have HB:=Lib.hid (fun w' (b:Below w.heap.size w w')=>scorers_prog w' vl L ((hl.below hW).below b));have HN:=Lib.hid (fun w' x y=>first_prog2 _ _ [x,y] (es_new w' x y 35));have HF:=Lib.hid (show fstE [slotsE S,scorersE L]=ssE S L by rw [fst2];rfl);have HW:=Lib.hid hW;have hsn:=hs.n;obtain⟨p1,c1,rfl⟩:=hs.r.shape;obtain⟨p2,c2,rfl⟩:=hl.r.shape;clear hW;generalize ssE S L=ff at *;generalize slotsE S=e1 at *;generalize scorersE L=e2 at *;rw [fr_nlP,fe q0,fe q1];clear q0 q1;conv=>arg 2;whnf
 go_wp2_with fail
 refine HA.out.mono ?_;rintro e w1 ⟨rfl,hb1⟩;have HB1:=Lib.hid hb1;clear hb1;go_wp2_with fail
 refine(HB.out w1 HB1.out).mono ?_;rintro e w2 ⟨rfl,hb2⟩;have HB2:=Lib.hid (HB1.out.trans (hb2.mono HB1.out.size));clear hb2;go_wp2_with fail
 refine(HN.out w2 e1 e2).mono ?_;rintro e w3 ⟨rfl,rfl⟩;rw [HF.out];have HR:=Lib.hid (HW.out.trans (HB2.out.mono HW.out.size));go_wp2_with fail
 refine Met.intro (hS_ _ _ ?_);exact⟨HR.out.alloc HR.out.size _,Fr.r rfl rfl⟩
theorem nl2:T3 Tryz.prog (fun a w=>(Below w0.heap.size w0 w)∧Fr 47 [(0,vs),(1,vl),(6,.int .i64 (ssE S L))] a) (sel [1,0,1,0] nlP) (fun a w=>∃q,Fr 47 ((19,.bool q)::[(0,vs),(1,vl),(6,.int .i64 (ssE S L))]) a∧((q=(ssE S L != 0))∧Below w0.heap.size w0 w)) No 9 (fun a w=>∃v4:Value,(w.ownsRow w0.heap.size 9 1 v4 (lackV S L).length (cellsOf encSt (lackV S L))∧Below w0.heap.size w0 w)∧Fr 47 [(4,v4),(5,.int .i64 (ssE S L))] a):=by
 refine T3.leaf ?_;rintro Q JS JX JT K_ hS_ hK hX hE hT hR a w ⟨hW,⟨fr,rfl,q0,q1,q6,_⟩⟩;have HW:=Lib.hid hW;have hsn:=hs.n;obtain⟨p1,c1,rfl⟩:=hs.r.shape;obtain⟨p2,c2,rfl⟩:=hl.r.shape;clear hW;generalize ssE S L=ff at *;generalize hqq:(ff != 0)=qq at *;rw [fr_nlP,fe q0,fe q1,fe q6];clear q0 q1 q6;conv=>arg 2;whnf
 go_wp2_with fail
 refine Met.intro (hS_ _ _ ?_);exact⟨_,Fr.r rfl rfl,rfl,HW.out⟩
theorem nl3:T3 Tryz.prog (fun a w=>(Below w0.heap.size w0 w)∧Fr 47 [(0,vs),(1,vl),(6,.int .i64 (ssE S L))] a) (sel [1,0,1,1,2,0] nlP) (fun a w=>(Below w0.heap.size w0 w)∧Fr 47 [(4,.slice none 0 0),(5,.int .i64 (ssE S L))] a) No 9 (fun a w=>∃v4:Value,(w.ownsRow w0.heap.size 9 1 v4 (lackV S L).length (cellsOf encSt (lackV S L))∧Below w0.heap.size w0 w)∧Fr 47 [(4,v4),(5,.int .i64 (ssE S L))] a):=by
 refine T3.leaf ?_;rintro Q JS JX JT K_ hS_ hK hX hE hT hR a w ⟨hW,⟨fr,rfl,q0,q1,q6,_⟩⟩;have HW:=Lib.hid hW;have hsn:=hs.n;obtain⟨p1,c1,rfl⟩:=hs.r.shape;obtain⟨p2,c2,rfl⟩:=hl.r.shape;clear hW;generalize ssE S L=ff at *;rw [fr_nlP,fe q0,fe q1,fe q6];clear q0 q1 q6;conv=>arg 2;whnf
 go_wp2_with fail
 refine Met.intro (hS_ _ _ ?_);exact⟨HW.out,Fr.r rfl rfl⟩
theorem nl4:T3 Tryz.prog (fun a w=>(Below w0.heap.size w0 w)∧Fr 47 [(0,vs),(1,vl)] a) (sel [1,1,0] nlP) (fun a w=>∃(A7 A9:Nat),(Below w0.heap.size w0 w∧w.cell? ⟨A7,0,none⟩=some (.pointer (some ⟨A9,0,none⟩))∧BoH w A9 vs S vl L)∧Fr 47 [(0,vs),(1,vl),(7,.pointer (some ⟨A7,0,none⟩))] a) No 9 (fun a w=>∃v4:Value,(w.ownsRow w0.heap.size 9 1 v4 (lackV S L).length (cellsOf encSt (lackV S L))∧Below w0.heap.size w0 w)∧Fr 47 [(4,v4),(5,.int .i64 (ssE S L))] a):=by
 refine T3.leaf ?_;rintro Q JS JX JT K_ hS_ hK hX hE hT hR a w ⟨hW,⟨fr,rfl,q0,q1,_⟩⟩;have hA:=(Below.refl w.heap.size w).alloc (Nat.le_refl _) (.cells #[vs,vl] 88);have hsz:(w.alloc (.cells #[vs,vl] 88)).heap.size=w.heap.size+1:=by simp
 have hA2:=(Below.refl (w.heap.size+1) (w.alloc (.cells #[vs,vl] 88))).alloc (by rw [hsz];exact Nat.le_refl _) (.cells #[.pointer (some ⟨w.heap.size,0,none⟩)] 86);have hb0:BoH (w.alloc (.cells #[vs,vl] 88)) w.heap.size vs S vl L:=⟨cells_new w #[vs,vl] _ 0 _ rfl,cells_new w #[vs,vl] _ 1 _ rfl,(hs.below hW).below hA,(hl.below hW).below hA⟩
 have c7:=cells_new (w.alloc (.cells #[vs,vl] 88)) #[.pointer (some ⟨w.heap.size,0,none⟩)] 86 0 _ rfl;rw [hsz]at c7;have hA2':Below (w.alloc (.cells #[vs,vl] 88)).heap.size (w.alloc (.cells #[vs,vl] 88)) ((w.alloc (.cells #[vs,vl] 88)).alloc (.cells #[.pointer (some ⟨w.heap.size,0,none⟩)] 86)):=by rw [hsz];exact hA2
 have HF:=Lib.hid (And.intro ((hW.alloc hW.size (.cells #[vs,vl] 88)).trans (hA2.mono (by have:=hW.size;omega))) (And.intro c7 (hb0.below hA2')));clear hA hA2 hA2' hb0 c7 hsz;obtain⟨p1,c1,rfl⟩:=hs.r.shape;obtain⟨p2,c2,rfl⟩:=hl.r.shape;clear hW hs hl;rw [fr_nlP,fe q0,fe q1];clear q0 q1;conv=>arg 2;whnf
 go_wp2_with fail
 refine Met.intro (hS_ _ _ ?_);exact⟨_,_,HF.out,Fr.r rfl rfl⟩
theorem nl5 (A7 A9:Nat):T3 Tryz.prog (fun a w=>(Below w0.heap.size w0 w∧w.cell? ⟨A7,0,none⟩=some (.pointer (some ⟨A9,0,none⟩))∧BoH w A9 vs S vl L)∧Fr 47 [(0,vs),(1,vl),(7,.pointer (some ⟨A7,0,none⟩))] a) (sel [1,1,1,0] nlP) (fun a w=>∃(wB:World) (A0 gw:Nat),(Hid (Below w0.heap.size w0 wB∧wB.cell? ⟨A7,0,none⟩=some (.pointer (some ⟨A9,0,none⟩))∧BoH wB A9 vs S vl L))∧(LzW wB A0 gw L.length S.length (.func (.func 76) #[] #[.pointer (some ⟨A7,0,none⟩)]) (List.replicate L.length (-1)) w)∧Fr 47 [(0,vs),(1,vl),(7,.pointer (some ⟨A7,0,none⟩)),(8,.pointer (some ⟨A0,0,none⟩))] a) No 9 (fun a w=>∃v4:Value,(w.ownsRow w0.heap.size 9 1 v4 (lackV S L).length (cellsOf encSt (lackV S L))∧Below w0.heap.size w0 w)∧Fr 47 [(4,v4),(5,.int .i64 (ssE S L))] a):=by
 refine T3.leaf ?_;rintro Q JS JX JT K_ hS_ hK hX hE hT hR a w ⟨hW,⟨fr,rfl,q0,q1,q7,_⟩⟩;have HC:=Lib.hid (new_layer 76 #[] #[.pointer (some ⟨A7,0,none⟩)] L.length S.length w (by have:=hl.n;omega));have HW:=Lib.hid hW;have hsn:=hs.n;obtain⟨p1,c1,rfl⟩:=hs.r.shape;obtain⟨p2,c2,rfl⟩:=hl.r.shape;clear hW;generalize L.length=m at *;rw [fr_nlP,fe q0,fe q1,fe q7];clear q0 q1 q7;conv=>arg 2;whnf
 go_wp2_with fail
 refine HC.out.mono ?_;rintro e w1 ⟨A0,gw,rfl,hz⟩;have HZ:=Lib.hid hz;clear hz;go_wp2_with fail
 refine Met.intro (hS_ _ _ ?_);exact⟨w,A0,gw,Lib.hid HW.out,HZ.out,Fr.r rfl rfl⟩
theorem nl6 (A7 A9:Nat)(wB:World)(A0 gw:Nat)(hB:Hid (Below w0.heap.size w0 wB∧wB.cell? ⟨A7,0,none⟩=some (.pointer (some ⟨A9,0,none⟩))∧BoH wB A9 vs S vl L)):T3 Tryz.prog (fun a w=>(LzW wB A0 gw L.length S.length (.func (.func 76) #[] #[.pointer (some ⟨A7,0,none⟩)]) (List.replicate L.length (-1)) w)∧Fr 47 [(0,vs),(1,vl),(7,.pointer (some ⟨A7,0,none⟩)),(8,.pointer (some ⟨A0,0,none⟩))] a) (sel [1,1,1,1,0] nlP) (fun a w=>∃(M:Nat),(Hid (wB.heap.size≤M∧A0<M∧gw<M))∧(LkW wB A0 gw L.length S.length M (.func (.func 76) #[] #[.pointer (some ⟨A7,0,none⟩)]) (List.replicate L.length (-1)) (.slice none 0 0) [] w)∧Fr 47 [(0,vs),(8,.pointer (some ⟨A0,0,none⟩)),(9,.slice none 0 0)] a) No 9 (fun a w=>∃v4:Value,(w.ownsRow w0.heap.size 9 1 v4 (lackV S L).length (cellsOf encSt (lackV S L))∧Below w0.heap.size w0 w)∧Fr 47 [(4,v4),(5,.int .i64 (ssE S L))] a):=by
 refine T3.leaf ?_;rintro Q JS JX JT K_ hS_ hK hX hE hT hR a w ⟨hW,⟨fr,rfl,q0,q1,q7,q8,_⟩⟩;have HF:=Lib.hid (show Hid (wB.heap.size≤w.heap.size∧A0<w.heap.size∧gw<w.heap.size)∧LkW wB A0 gw L.length S.length w.heap.size (.func (.func 76) #[] #[.pointer (some ⟨A7,0,none⟩)]) (List.replicate L.length (-1)) (.slice none 0 0) [] w from
  ⟨Lib.hid ⟨hW.bel.size,World.block_lt_of_cell? w _ hW.c0,(hW.wr.lt gw rfl).2⟩,hW,World.ownsRow_nil _ _ _ _,Nat.le_refl _⟩)
 have hsn:=hs.n;obtain⟨p1,c1,rfl⟩:=hs.r.shape;obtain⟨p2,c2,rfl⟩:=hl.r.shape;clear hW;generalize L.length=m at *;rw [fr_nlP,fe q0,fe q1,fe q7,fe q8];clear q0 q1 q7 q8;conv=>arg 2;whnf
 go_wp2_with fail
 refine Met.intro (hS_ _ _ ?_);exact⟨_,HF.out.1,HF.out.2,Fr.r rfl rfl⟩
end
section
variable (w0:World)(vs vl:Value)(S:List SlD)(L:List ScD)(hs:SlH w0 vs S)(hl:ScH w0 vl L)(A7 A9:Nat)(wB:World)(A0 gw:Nat)(hB:Hid (Below w0.heap.size w0 wB∧wB.cell? ⟨A7,0,none⟩=some (.pointer (some ⟨A9,0,none⟩))∧BoH wB A9 vs S vl L))(M:Nat)(hM:Hid (wB.heap.size≤M∧A0<M∧gw<M))
include hs hl hB hM
theorem nl7:T3 Tryz.prog (fun a w=>(LkW wB A0 gw L.length S.length M (.func (.func 76) #[] #[.pointer (some ⟨A7,0,none⟩)]) (List.replicate L.length (-1)) (.slice none 0 0) [] w)∧Fr 47 [(0,vs),(8,.pointer (some ⟨A0,0,none⟩)),(9,.slice none 0 0)] a) (sel [1,1,1,1,1,0,0] nlP) (fun a w=>(0≤(0:Int)∧(0:Int)≤S.length)∧∃(wi:List Int) (v9:Value) (out:List ByteArray),(LkE S L (0:Int).toNat wi out)∧(LkW wB A0 gw L.length S.length M (.func (.func 76) #[] #[.pointer (some ⟨A7,0,none⟩)]) wi v9 out w)∧Fr 47 [(0,vs),(8,.pointer (some ⟨A0,0,none⟩)),(9,v9),(29,vs),(30,.int .i64 S.length),(31,.int .i64 0)] a) No 9 (fun a w=>∃v4:Value,(w.ownsRow w0.heap.size 9 1 v4 (lackV S L).length (cellsOf encSt (lackV S L))∧Below w0.heap.size w0 w)∧Fr 47 [(4,v4),(5,.int .i64 (ssE S L))] a):=by
 refine T3.leaf ?_;rintro Q JS JX JT K_ hS_ hK hX hE hT hR a w ⟨hW,⟨fr,rfl,q0,q8,q9,_⟩⟩;have HI:=Lib.hid (show LkE S L (0:Int).toNat (List.replicate L.length (-1)) []from⟨rfl,Nat.zero_le _⟩);have HW:=Lib.hid hW;have hsn:=hs.n;obtain⟨p1,c1,rfl⟩:=hs.r.shape;obtain⟨p2,c2,rfl⟩:=hl.r.shape;clear hW;generalize L.length=m at *;rw [fr_nlP,fe q0,fe q8,fe q9];clear q0 q8 q9;conv=>arg 2;whnf
 go_wp2_with fail
 refine Met.intro (hS_ _ _ ?_);exact⟨⟨by omega,by omega⟩,_,_,_,HI.out,HW.out,Fr.r rfl rfl⟩
section
variable (k:Nat)(hk:k<S.length)(wi:List Int)(v9:Value)(out:List ByteArray)
include hk wi v9 out
theorem nl9:T3 Tryz.prog (fun a w=>(LkW wB A0 gw L.length S.length M (.func (.func 76) #[] #[.pointer (some ⟨A7,0,none⟩)]) wi v9 out w)∧Fr 47 [(0,vs),(8,.pointer (some ⟨A0,0,none⟩)),(9,v9),(29,vs),(30,.int .i64 S.length),(31,.int .i64 (k:Int))] a) (sel [1,1,1,1,1,0,1,4,4,1,1,0,4,0] nlP) (fun a w=>∃(g11:Nat),(gw<g11)∧(LkW wB A0 gw L.length S.length M (.func (.func 76) #[] #[.pointer (some ⟨A7,0,none⟩)]) wi v9 out w∧w.cell? ⟨g11,0,none⟩=some (.string (geta S (k:Int)).key))∧Fr 47 [(0,vs),(8,.pointer (some ⟨A0,0,none⟩)),(9,v9),(10,.int .i64 (k:Int)),(11,.pointer (some ⟨g11,0,none⟩)),(29,vs),(30,.int .i64 S.length),(31,.int .i64 (k:Int))] a) No 9 (fun a w=>∃v4:Value,(w.ownsRow w0.heap.size 9 1 v4 (lackV S L).length (cellsOf encSt (lackV S L))∧Below w0.heap.size w0 w)∧Fr 47 [(4,v4),(5,.int .i64 (ssE S L))] a):=by
 refine T3.leaf ?_;rintro Q JS JX JT K_ hS_ hK hX hE hT hR a w ⟨hW,⟨fr,rfl,q0,q8,q9,q29,q30,q31,_⟩⟩;have hbw:=hB.out.1.trans (hW.z.bel.mono hB.out.1.size);have hR:=(hs.below hbw).r;have hsn:=hs.n;obtain⟨qs,ds,rfl⟩:=hR.shape;obtain⟨bz,off,rfl,_,_,hcell⟩:=Row.nonnil hR (by omega);have t0:=Row.elAt encSl_length hcell (k:=(k:Int)) (by omega) (by omega) 0 _ (by decide) rfl;have t1:=Row.elAt encSl_length hcell (k:=(k:Int)) (by omega) (by omega) 1 _ (by decide) rfl;rw [Int.toNat_natCast]at t0 t1;rw [Nat.add_zero]at t0;obtain⟨qp,dp,hvp⟩:=(hs.p _ (geta_mem (l:=S) (i:=(k:Int)) (by omega) (by omega))).r.shape;have HWA:=Lib.hid (hW.below ((Below.refl w.heap.size w).alloc (Nat.le_refl _) (.cells #[.string (geta S (k:Int)).key,(geta S (k:Int)).pv] 72)));have HLT:=Lib.hid (hW.z.wr.lt gw rfl).2;have HC0:=Lib.hid (cells_new w #[.string (geta S (k:Int)).key,(geta S (k:Int)).pv] 72 0 _ rfl);obtain⟨q5,d5,rfl⟩:=(Row.of_owns hW.o).shape;clear hcell hR hW hs hl hbw hB hM;generalize geta S (k:Int)=x at *;obtain⟨xk,xv,xps⟩:=x;simp only at t0 t1 hvp;subst hvp;rw [fr_nlP,fe q0,fe q8,fe q9,fe q29,fe q30,fe q31];clear q0 q8 q9 q29 q30 q31;conv=>arg 2;whnf
 go_wp2_with fail
 refine Met.intro (hS_ _ _ ?_);exact⟨_,HLT.out,⟨HWA.out,HC0.out⟩,Fr.r rfl rfl⟩
theorem nl10 (g11:Nat)(h11:gw<g11):T3 Tryz.prog (fun a w=>(LkW wB A0 gw L.length S.length M (.func (.func 76) #[] #[.pointer (some ⟨A7,0,none⟩)]) wi v9 out w∧w.cell? ⟨g11,0,none⟩=some (.string (geta S (k:Int)).key))∧Fr 47 [(0,vs),(8,.pointer (some ⟨A0,0,none⟩)),(9,v9),(10,.int .i64 (k:Int)),(11,.pointer (some ⟨g11,0,none⟩)),(29,vs),(30,.int .i64 S.length),(31,.int .i64 (k:Int))] a) (sel [1,1,1,1,1,0,1,4,4,1,1,0,4,1,0] nlP) (fun a w=>∃q,Fr 47 ((39,.bool q)::[(0,vs),(8,.pointer (some ⟨A0,0,none⟩)),(9,v9),(10,.int .i64 (k:Int)),(11,.pointer (some ⟨g11,0,none⟩)),(29,vs),(30,.int .i64 S.length),(31,.int .i64 (k:Int))]) a∧((q=!(addF (fun i k=>fitK S L k i) k wi).1)∧LkW wB A0 gw L.length S.length M (.func (.func 76) #[] #[.pointer (some ⟨A7,0,none⟩)]) (addF (fun i k=>fitK S L k i) k wi).2.2 v9 out w∧w.cell? ⟨g11,0,none⟩=some (.string (geta S (k:Int)).key))) No 9 (fun a w=>∃v4:Value,(w.ownsRow w0.heap.size 9 1 v4 (lackV S L).length (cellsOf encSt (lackV S L))∧Below w0.heap.size w0 w)∧Fr 47 [(4,v4),(5,.int .i64 (ssE S L))] a):=by
 refine T3.leaf ?_;rintro Q JS JX JT K_ hS_ hK hX hE hT hR a w ⟨hW,⟨fr,rfl,q0,q8,q9,q10,q11,q29,q30,q31,_⟩⟩;have HD:=Lib.hid (add_prog (fun i k=>fitK S L k i) 76 Tryz.call76 #[] #[.pointer (some ⟨A7,0,none⟩)] wB A0 gw L.length S.length (by have:=hl.n;omega) (by have:=hs.n;omega)
  (Lib.hid fun a b w2 ha hb2 hB2=>by
   have e:(#[]:Array Value)++((#[Value.int .i64 (a:Int),Value.int .i64 (b:Int)]:Array Value)++#[.pointer (some ⟨A7,0,none⟩)])=#[Value.int .i64 (a:Int),Value.int .i64 (b:Int),.pointer (some ⟨A7,0,none⟩)]:=by simp
   rw [e];exact cl_lack A7 A9 vl vs S L a b w2 (hB.out.2.2.below hB2) ((hB2.cell (p:=⟨A7,0,none⟩) (World.block_lt_of_cell? wB _ hB.out.2.1)).trans hB.out.2.1) hb2 ha) k wi w hk hW.1.z)
 have HG:=Lib.hid (fun w2 (hz:LzW wB A0 gw L.length S.length (.func (.func 76) #[] #[.pointer (some ⟨A7,0,none⟩)]) (addF (fun i k=>fitK S L k i) k wi).2.2 w2) (g:w.grownBy w2 (some gw))=>show LkW wB A0 gw L.length S.length M (.func (.func 76) #[] #[.pointer (some ⟨A7,0,none⟩)]) (addF (fun i k=>fitK S L k i) k wi).2.2 v9 out w2∧w2.cell? ⟨g11,0,none⟩=some (.string (geta S (k:Int)).key)from⟨hW.1.add hM.out.2.2 hz g,g.cell (a:=⟨g11,0,none⟩) hW.2 (fun e=>by simp only [Option.some.injEq]at e;omega)⟩);have hW1:=hW.1;obtain⟨q5,d5,rfl⟩:=(Row.of_owns hW1.o).shape;obtain⟨p1,c1,rfl⟩:=hs.r.shape;obtain⟨p2,c2,rfl⟩:=hl.r.shape;clear hW hW1 hs hl hB hM;generalize addF (fun i k=>fitK S L k i) k wi=rr at *;generalize geta S (k:Int)=y at *;rw [fr_nlP,fe q0,fe q8,fe q9,fe q10,fe q11,fe q29,fe q30,fe q31];clear q0 q8 q9 q10 q11 q29 q30 q31;conv=>arg 2;whnf
 go_wp2_with fail
 refine HD.out.mono ?_;rintro e w2 ⟨rfl,hz,hg⟩;have HZ:=Lib.hid (HG.out w2 hz hg);clear hz hg;go_wp2_with fail
 refine Met.intro (hS_ _ _ ?_);exact⟨_,Fr.r rfl rfl,rfl,HZ.out⟩
theorem nl11 (g11:Nat)(hon:out.length≤1000):T3 Tryz.prog (fun a w=>(LkW wB A0 gw L.length S.length M (.func (.func 76) #[] #[.pointer (some ⟨A7,0,none⟩)]) wi v9 out w∧w.cell? ⟨g11,0,none⟩=some (.string (geta S (k:Int)).key))∧Fr 47 [(0,vs),(8,.pointer (some ⟨A0,0,none⟩)),(9,v9),(10,.int .i64 (k:Int)),(11,.pointer (some ⟨g11,0,none⟩)),(29,vs),(30,.int .i64 S.length),(31,.int .i64 (k:Int))] a) (sel [1,1,1,1,1,0,1,4,4,1,1,0,4,1,1,2] nlP) (fun a w=>∃(v':Value),(LkW wB A0 gw L.length S.length M (.func (.func 76) #[] #[.pointer (some ⟨A7,0,none⟩)]) wi v' (out++[(geta S (k:Int)).key]) w)∧Fr 47 [(0,vs),(8,.pointer (some ⟨A0,0,none⟩)),(9,v'),(29,vs),(30,.int .i64 S.length),(31,.int .i64 (k:Int))] a) No 9 (fun a w=>∃v4:Value,(w.ownsRow w0.heap.size 9 1 v4 (lackV S L).length (cellsOf encSt (lackV S L))∧Below w0.heap.size w0 w)∧Fr 47 [(4,v4),(5,.int .i64 (ssE S L))] a):=by
 refine T3.leaf ?_;rintro Q JS JX JT K_ hS_ hK hX hE hT hR a w ⟨hW,⟨fr,rfl,q0,q8,q9,q10,q11,q29,q30,q31,_⟩⟩;have hE1:=el_stJ;have t0:=hW.2;have HA:=Lib.hid (fun v' w' ho g=>LkW.app (v':=v') (w':=w') (x:=(geta S (k:Int)).key) (hW.1.below ((Below.refl w.heap.size w).alloc (Nat.le_refl _) (.cells #[.string (geta S (k:Int)).key] 9))) hM.out ho g);have hown:=hW.1.o.alloc (.cells #[.string (geta S (k:Int)).key] 9);have hbs:M≤(w.alloc (.cells #[.string (geta S (k:Int)).key] 9)).heap.size:=by
  have h1:=hW.1.ms;simp;omega
 have hW1:=hW.1;obtain⟨q5,d5,rfl⟩:=(Row.of_owns hW1.o).shape;obtain⟨p1,c1,rfl⟩:=hs.r.shape;obtain⟨p2,c2,rfl⟩:=hl.r.shape;clear hW hW1 hs hl hB hM;generalize (geta S (k:Int)).key=x at *;rw [fr_nlP,fe q0,fe q8,fe q9,fe q10,fe q11,fe q29,fe q30,fe q31];clear q0 q8 q9 q10 q11 q29 q30 q31;conv=>arg 2;whnf
 go_wp2_with (at_builtin;refine app_law rfl _ _ _ rfl hE1 hown rfl [.string x] rfl rfl (cells_new w #[_] _) (by simp [Value.oneCell']) (by omega) hbs ?_;intro v' w3 hown3 hgr)
 refine Met.intro (hS_ _ _ ?_);exact⟨_,HA.out _ _ hown3 hgr,Fr.r rfl rfl⟩
theorem nlB (hI:LkE S L k wi out)(hk20:S.length≤1000):T3 Tryz.prog (fun a w=>(LkW wB A0 gw L.length S.length M (.func (.func 76) #[] #[.pointer (some ⟨A7,0,none⟩)]) wi v9 out w)∧Fr 47 [(0,vs),(8,.pointer (some ⟨A0,0,none⟩)),(9,v9),(29,vs),(30,.int .i64 S.length),(31,.int .i64 (k:Int))] a) (sel [1,1,1,1,1,0,1,4,4,1,1,0] nlP) (fun a w=>∃(wi:List Int) (v9:Value) (out:List ByteArray),(LkE S L (k+1) wi out)∧(LkW wB A0 gw L.length S.length M (.func (.func 76) #[] #[.pointer (some ⟨A7,0,none⟩)]) wi v9 out w)∧Fr 47 [(0,vs),(8,.pointer (some ⟨A0,0,none⟩)),(9,v9),(29,vs),(30,.int .i64 S.length),(31,.int .i64 (k:Int))] a) No 9 (fun a w=>∃v4:Value,(w.ownsRow w0.heap.size 9 1 v4 (lackV S L).length (cellsOf encSt (lackV S L))∧Below w0.heap.size w0 w)∧Fr 47 [(4,v4),(5,.int .i64 (ssE S L))] a):=by
 refine T3.block (id':=1) (c:=(sel [1,1,1,1,1,0,1,4,4,1,1,0,4] nlP)) (by decide) ?_;refine T3.sq rfl ((nl9 w0 vs vl S L hs hl A7 A9 wB A0 gw hB M hM k hk wi v9 out).noX) (T3.ex fun g11=>T3.pure fun h11=>?_);refine T3.tt rfl (C:=fun q=>(q=!(addF (fun i k=>fitK S L k i) k wi).1)) (W:=fun w=>LkW wB A0 gw L.length S.length M (.func (.func 76) #[] #[.pointer (some ⟨A7,0,none⟩)]) (addF (fun i k=>fitK S L k i) k wi).2.2 v9 out w∧w.cell? ⟨g11,0,none⟩=some (.string (geta S (k:Int)).key)) (by decide) ((nl10 w0 vs vl S L hs hl A7 A9 wB A0 gw hB M hM k hk wi v9 out g11 h11).noX) ?_ (T3.skip ?_)
 ·refine T3.pre (R:=fun a w=>((addF (fun i k=>fitK S L k i) k wi).1=false)∧(LkW wB A0 gw L.length S.length M (.func (.func 76) #[] #[.pointer (some ⟨A7,0,none⟩)]) (addF (fun i k=>fitK S L k i) k wi).2.2 v9 out w∧w.cell? ⟨g11,0,none⟩=some (.string (geta S (k:Int)).key))∧Fr 47 [(0,vs),(8,.pointer (some ⟨A0,0,none⟩)),(9,v9),(10,.int .i64 (k:Int)),(11,.pointer (some ⟨g11,0,none⟩)),(29,vs),(30,.int .i64 S.length),(31,.int .i64 (k:Int))] a) (T3.pure fun hf=>((nl11 w0 vs vl S L hs hl A7 A9 wB A0 gw hB M hM k hk (addF (fun i k=>fitK S L k i) k wi).2.2 v9 out g11 (by have:=hI.n;omega)).noX).post ?_) (fun a w ⟨hF,hq,hW⟩=>⟨by simpa using hq.symm,hW,hF.tail⟩);rintro a w ⟨v2,hW,hF⟩;exact⟨_,v2,_,hI.no hk hf,hW,hF⟩
 ·rintro a w ⟨hq,hW,hF⟩;exact⟨_,v9,out,hI.yes hk (by simpa using hq.symm),hW.1,hF.sub (by simp)⟩
end
theorem nlb (k:Int):T3 Tryz.prog (fun a w=>∃(wi:List Int) (v9:Value) (out:List ByteArray),((0≤k∧k<S.length)∧(LkE S L (k:Int).toNat wi out))∧(LkW wB A0 gw L.length S.length M (.func (.func 76) #[] #[.pointer (some ⟨A7,0,none⟩)]) wi v9 out w)∧Fr 47 [(0,vs),(8,.pointer (some ⟨A0,0,none⟩)),(9,v9),(29,vs),(30,.int .i64 S.length),(31,.int .i64 k)] a) (sel [1,1,1,1,1,0,1,4,4,1,1,0] nlP) (fun a w=>∃(wi:List Int) (v9:Value) (out:List ByteArray),((0≤k∧k<S.length)∧(LkE S L ((k+1):Int).toNat wi out))∧(LkW wB A0 gw L.length S.length M (.func (.func 76) #[] #[.pointer (some ⟨A7,0,none⟩)]) wi v9 out w)∧Fr 47 [(0,vs),(8,.pointer (some ⟨A0,0,none⟩)),(9,v9),(29,vs),(30,.int .i64 S.length),(31,.int .i64 k)] a) No 9 (fun a w=>∃v4:Value,(w.ownsRow w0.heap.size 9 1 v4 (lackV S L).length (cellsOf encSt (lackV S L))∧Below w0.heap.size w0 w)∧Fr 47 [(4,v4),(5,.int .i64 (ssE S L))] a):=by
 refine T3.ex fun wi=>T3.ex fun v9=>T3.ex fun out=>T3.pure fun hh=>?_
 obtain⟨hh,hI⟩:=hh;obtain⟨kn,rfl⟩:=Int.eq_ofNat_of_zero_le hh.1;rw [Int.toNat_natCast]at hI;refine T3.mono (nlB w0 vs vl S L hs hl A7 A9 wB A0 gw hB M hM kn (by omega) wi v9 out hI hs.n) (fun _ _ q=>q) ?_ (fun _ _ q=>q) (fun _ _ q=>q);rintro a w ⟨wi2,v2,out2,hI2,hW,hF⟩;refine⟨wi2,v2,out2,⟨hh,?_⟩,hW,hF⟩;rw [show((kn:Int)+1).toNat=kn+1 by omega];exact hI2
def nlAI (w0:World)(vs vl:Value)(S:List SlD)(L:List ScD)(hs:SlH w0 vs S)(hl:ScH w0 vl L)(A7 A9:Nat)(wB:World)(A0 gw:Nat)(hB:Hid (Below w0.heap.size w0 wB∧wB.cell? ⟨A7,0,none⟩=some (.pointer (some ⟨A9,0,none⟩))∧BoH wB A9 vs S vl L))(M:Nat)(hM:Hid (wB.heap.size≤M∧A0<M∧gw<M))(k:Int)(a:Act)(w:World):Prop:=(0≤k∧k≤S.length)∧∃(wi:List Int) (v9:Value) (out:List ByteArray),(LkE S L (k:Int).toNat wi out)∧(LkW wB A0 gw L.length S.length M (.func (.func 76) #[] #[.pointer (some ⟨A7,0,none⟩)]) wi v9 out w)∧Fr 47 [(0,vs),(8,.pointer (some ⟨A0,0,none⟩)),(9,v9),(29,vs),(30,.int .i64 S.length),(31,.int .i64 k)] a
theorem nlAt (k:Int):T3 Tryz.prog (fun a w=>nlAI w0 vs vl S L hs hl A7 A9 wB A0 gw hB M hM k a w) (sel [1,1,1,1,1,0,1,4,4,0] nlP) (fun a w=>∃q,Fr 47 ((32,.bool q)::[(31,.int .i64 k)]) a∧((q=true↔k<S.length)∧nlAI w0 vs vl S L hs hl A7 A9 wB A0 gw hB M hM k a w)) No 9 (fun a w=>∃v4:Value,(w.ownsRow w0.heap.size 9 1 v4 (lackV S L).length (cellsOf encSt (lackV S L))∧Below w0.heap.size w0 w)∧Fr 47 [(4,v4),(5,.int .i64 (ssE S L))] a):=by
 refine T3.leaf ?_;rintro Q JS JX JT K_ hS_ hK hX hE hT hR a w ⟨hk,wi,v9,out,hpre,hW,⟨fr,rfl,q0,q8,q9,q29,q30,q31,_⟩⟩;have hsn:=hs.n;rw [fr_nlP,fe q0,fe q8,fe q9,fe q29,fe q30,fe q31];clear q0 q8 q9 q29 q30 q31;conv=>arg 2;whnf
 by_cases hlt:k<S.length
 ·go_wp2_with fail
  refine Met.intro (hS_ _ _ ?_);exact⟨true,Fr.r rfl rfl,⟨fun _=>hlt,fun _=>rfl⟩,hk,wi,v9,out,hpre,hW,Fr.r rfl rfl⟩
 ·have hpb:decide (k<(S.length:Int))=false:=by simp;omega
  go_wp2_with fail
  refine Met.intro (hS_ _ _ ?_);exact⟨false,Fr.r rfl rfl,⟨(fun h=>by cases h),fun h=>absurd h (by omega)⟩,hk,wi,v9,out,hpre,hW,Fr.r rfl rfl⟩
theorem nlAn (k:Int):T3 Tryz.prog (fun a w=>(0≤k∧k<S.length)∧∃(wi:List Int) (v9:Value) (out:List ByteArray),(LkE S L ((k+1):Int).toNat wi out)∧(LkW wB A0 gw L.length S.length M (.func (.func 76) #[] #[.pointer (some ⟨A7,0,none⟩)]) wi v9 out w)∧Fr 47 [(0,vs),(8,.pointer (some ⟨A0,0,none⟩)),(9,v9),(29,vs),(30,.int .i64 S.length),(31,.int .i64 k)] a) (sel [1,1,1,1,1,0,1,4,4,1,1,1] nlP) (fun a w=>nlAI w0 vs vl S L hs hl A7 A9 wB A0 gw hB M hM (k+1) a w) No 9 (fun a w=>∃v4:Value,(w.ownsRow w0.heap.size 9 1 v4 (lackV S L).length (cellsOf encSt (lackV S L))∧Below w0.heap.size w0 w)∧Fr 47 [(4,v4),(5,.int .i64 (ssE S L))] a):=by
 refine T3.leaf ?_;rintro Q JS JX JT K_ hS_ hK hX hE hT hR a w ⟨hk,wi,v9,out,hpre,hW,⟨fr,rfl,q0,q8,q9,q29,q30,q31,_⟩⟩;obtain⟨hk0,hk1⟩:=hk;have hsn:=hs.n;rw [fr_nlP,fe q0,fe q8,fe q9,fe q29,fe q30,fe q31];clear q0 q8 q9 q29 q30 q31;conv=>arg 2;whnf
 go_wp2_with fail
 refine Met.intro (hS_ _ _ ?_);exact⟨⟨by omega,by omega⟩,wi,v9,out,hpre,hW,Fr.r rfl rfl⟩
theorem nlAloop:T3 Tryz.prog (fun a w=>nlAI w0 vs vl S L hs hl A7 A9 wB A0 gw hB M hM 0 a w) (sel [1,1,1,1,1,0,1] nlP) (fun a w=>∃(v9:Value),(w.ownsRow w0.heap.size 9 1 v9 (lackR S L).length (cellsOf encSt (lackR S L))∧Below w0.heap.size w0 w)∧Fr 47 [(9,v9)] a) No 9 (fun a w=>∃v4:Value,(w.ownsRow w0.heap.size 9 1 v4 (lackV S L).length (cellsOf encSt (lackV S L))∧Below w0.heap.size w0 w)∧Fr 47 [(4,v4),(5,.int .i64 (ssE S L))] a) :=
 T3.range (I:=nlAI w0 vs vl S L hs hl A7 A9 wB A0 gw hB M hM) rfl (by decide) (nlAt w0 vs vl S L hs hl A7 A9 wB A0 gw hB M hM) (nlAn w0 vs vl S L hs hl A7 A9 wB A0 gw hB M hM) (fun _ _ _ h=>h.1) (fun k hk=>T3.mono (nlb w0 vs vl S L hs hl A7 A9 wB A0 gw hB M hM k) (fun a w ⟨_,wi,v9,out,hp,hI⟩=>⟨wi,v9,out,⟨hk,hp⟩,hI⟩) (fun a w ⟨wi,v9,out,⟨hk,hp⟩,hI⟩=>⟨hk,wi,v9,out,hp,hI⟩) (fun _ _ q=>q) (fun _ _ q=>q)) (fun a w hI=>by
  obtain⟨hk,hI⟩:=hI;obtain⟨wi,v9,out,hI,hW,hF⟩:=hI;have e:=hI.e;rw [Int.toNat_natCast,Nat.sub_self,lackF,List.append_nil]at e;subst e;have h0:=hB.out.1.size;have h1:=hM.out.1;exact⟨v9,⟨owns_mono hW.o (by omega),hB.out.1.trans (hW.z.bel.mono h0)⟩,hF.sub (by simp)⟩)
end
section
variable (w0:World)(vs vl:Value)(S:List SlD)(L:List ScD)(hs:SlH w0 vs S)(hl:ScH w0 vl L)
include hs hl
theorem nl13 (v9:Value):T3 Tryz.prog (fun a w=>(w.ownsRow w0.heap.size 9 1 v9 (lackR S L).length (cellsOf encSt (lackR S L))∧Below w0.heap.size w0 w)∧Fr 47 [(9,v9)] a) (sel [1,1,1,1,1,1,0] nlP) (fun a w=>(w.ownsRow w0.heap.size 9 1 v9 (lackR S L).length (cellsOf encSt (lackR S L))∧Below w0.heap.size w0 w)∧Fr 47 [(4,v9),(5,.int .i64 0)] a) No 9 (fun a w=>∃v4:Value,(w.ownsRow w0.heap.size 9 1 v4 (lackV S L).length (cellsOf encSt (lackV S L))∧Below w0.heap.size w0 w)∧Fr 47 [(4,v4),(5,.int .i64 (ssE S L))] a):=by
 refine T3.leaf ?_;rintro Q JS JX JT K_ hS_ hK hX hE hT hR a w ⟨hW,⟨fr,rfl,q9,_⟩⟩;obtain⟨q5,d5,rfl⟩:=(Row.of_owns hW.1).shape;have HW:=Lib.hid hW;clear hW;rw [fr_nlP,fe q9];clear q9;conv=>arg 2;whnf
 go_wp2_with fail
 refine Met.intro (hS_ _ _ ?_);exact⟨HW.out,Fr.r rfl rfl⟩
theorem nl_all:T3 Tryz.prog (fun a w=>(Below w0.heap.size w0 w)∧Fr 47 [(0,vs),(1,vl)] a) nlP No No 9 (fun a w=>∃v4:Value,(w.ownsRow w0.heap.size 9 1 v4 (lackV S L).length (cellsOf encSt (lackV S L))∧Below w0.heap.size w0 w)∧Fr 47 [(4,v4),(5,.int .i64 (ssE S L))] a):=by
 refine T3.seq (s:=(sel [0] nlP)) (c:=(sel [1] nlP)) (nl0 w0 vs vl S L hs hl) ?_;refine T3.sq rfl (S:=fun a w=>(ssE S L=0)∧(Below w0.heap.size w0 w)∧Fr 47 [(0,vs),(1,vl)] a) ?_ (T3.pure fun hz=>?_)
 ·refine T3.sq rfl (nl1 w0 vs vl S L hs hl) ?_;refine T3.tt rfl (C:=fun q=>(q=(ssE S L != 0))) (W:=fun w=>Below w0.heap.size w0 w) (by decide) (nl2 w0 vs vl S L hs hl) ?_ (T3.skip ?_)
  ·refine T3.sr rfl (t3_seqx (p:=ssE S L≠0) (nl3 w0 vs vl S L hs hl) ?_) (T3.ret ?_)
   ·rintro a w ⟨hF,hq,hW⟩;exact⟨by simpa using hq.symm,hW,hF.tail⟩
   ·rintro a w ⟨hp,hW,hF⟩;refine⟨_,⟨?_,hW⟩,hF⟩;unfold lackV;rw [if_neg hp];exact World.ownsRow_nil _ _ _ _
  ·rintro a w ⟨hq,hW,hF⟩;exact⟨by simpa using hq.symm,hW,hF.sub (by simp)⟩
 refine T3.sq rfl (nl4 w0 vs vl S L hs hl) ?_;refine T3.ex fun A7=>T3.ex fun A9=>?_
 refine T3.sq rfl (nl5 w0 vs vl S L hs hl A7 A9) ?_;refine T3.ex fun wB=>T3.ex fun A0=>T3.ex fun gw=>T3.pure fun hB=>?_
 refine T3.sq rfl (nl6 w0 vs vl S L hs hl A7 A9 wB A0 gw hB) ?_;refine T3.ex fun M=>T3.pure fun hM=>?_
 refine T3.sq rfl (T3.seq (s:=(sel [1,1,1,1,1,0,0] nlP)) (c:=(sel [1,1,1,1,1,0,1] nlP)) (nl7 w0 vs vl S L hs hl A7 A9 wB A0 gw hB M hM) (nlAloop w0 vs vl S L hs hl A7 A9 wB A0 gw hB M hM)) ?_;refine T3.ex fun v9=>?_
 refine T3.sr rfl (nl13 w0 vs vl S L hs hl v9) (T3.ret ?_);rintro a w ⟨hW,hF⟩;refine⟨v9,?_,?_⟩
 ·unfold lackV;rw [if_pos hz];exact hW
 ·rw [hz];exact hF
/-- Lacking of the program. -/
theorem lack_prog:Calls Tryz.prog 31 #[vs,vl] w0 fun e w'=>∃v4:Value,e=.returned (.tuple #[v4,.int .i64 (ssE S L)])∧w'.ownsRow w0.heap.size 9 1 v4 (lackV S L).length (cellsOf encSt (lackV S L))∧Below w0.heap.size w0 w':=by
 have hall:=nl_all w0 vs vl S L hs hl
 go_enter Tryz.func31,Tryz.ntmps31
 refine T3.done (s:=nlP) hall ⟨Below.refl _ _,Fr.r rfl rfl⟩ ?_;rintro a w ⟨v4,⟨ho,hb⟩,fr,rfl,q4,q5,_⟩;rw [fr_nlP,fe q4,fe q5];generalize ssE S L=ce at *
 go_ret2
 exact⟨v4,rfl,ho,hb⟩
end
end Go.Proofs.YtnmdpphddimfbaaGreat
/-
  LackingOf of the reference: the best set of slots; the keys of the others are handed back. Conditions: at most 4 slots and 6 scorers.
-/
namespace Go.Proofs.YtnmdpphddimfbaaGreat
open Go.RowKit Go.Bw
/-- The set is ranged over. -/
structure BkW (w0:World)(B r n:Nat)(M Lf:Nat→Prop)(cnt:Nat)(w:World):Prop where
 bel:Below w0.heap.size w0 w
 lor:w0.heap.size≤r
 g:RngW w B r n M Lf cnt
theorem BkW.below {w0 w w':World}{B r n cnt:Nat}{M Lf:Nat→Prop}(h:BkW w0 B r n M Lf cnt w)(b:Below w.heap.size w w'):BkW w0 B r n M Lf cnt w':=⟨h.bel.trans (b.mono h.bel.size),h.lor,h.g.below b⟩
def fmS (S:List SlD)(m:Nat):List Int:=fillL m 0 S.length
/-- The best one of those that were met. -/
structure BkI (S:List SlD)(L:List ScD)(Lf:Nat→Prop)(b:Nat)(t:Int):Prop where
 b16:b<16
 t1:-1≤t∧t≤4
 h:(t=-1∧∀m,MlS S L L.length m→Lf m)∨(MlS S L L.length b∧t=sumI (fmS S b)∧∀m,MlS S L L.length m→¬Lf m→keyM S.length m≤keyM S.length b)
def beatB (S:List SlD)(m b:Nat)(t:Int):Bool:=decide (t<sumI (fmS S m)) || (decide (sumI (fmS S m)=t)&&decide (0<cmpI (fmS S m) (fmS S b)))
theorem sum_take (l:List Int)(k:Nat)(hk:k<l.length):sumI (l.take (k+1))=sumI (l.take k)+geta l (k:Int):=by
 have hs:∀(a:List Int) (x:Int),sumI (a++[x])=sumI a+x:=fun a x=>by
  induction a with
  | nil=>simp [sumI]
  | cons y a ih=>rw [List.cons_append,sumI,ih,sumI];omega
 rw [List.take_succ_eq_append_getElem hk,hs,geta_eq l (k:Int) (by omega) (by omega)];simp
theorem sum_fill (m:Nat):∀r i,0≤sumI (fillL m i r)∧sumI (fillL m i r)≤r
 | 0,_=>by simp [fillL,sumI]
 | r+1,i=>by
  have:=sum_fill m r (i+1);have h2:=bitI_01 m i;rw [fillL,sumI];omega
theorem fill_take (m:Nat):∀r i k,k≤r→(fillL m i r).take k=fillL m i k
 | _,_,0,_=>by simp [fillL]
 | 0,_,k+1,h=>absurd h (Nat.not_succ_le_zero _)
 | r+1,i,k+1,h=>by rw [fillL,List.take_succ_cons,fill_take m r (i+1) k (by omega),fillL]
theorem fill_at (m:Nat){r k:Nat}(hk:k<r):geta (fillL m 0 r) (k:Int)=0∨geta (fillL m 0 r) (k:Int)=1:=by
 have h1:=sum_take (fillL m 0 r) k (by rw [fillL_len];exact hk);rw [fill_take m r 0 (k+1) (by omega),fill_take m r 0 k (by omega),fill_snoc]at h1;have hs:∀(a:List Int) (x:Int),sumI (a++[x])=sumI a+x:=fun a x=>by
  induction a with
  | nil=>simp [sumI]
  | cons y a ih=>rw [List.cons_append,sumI,ih,sumI];omega
 rw [hs]at h1;have:=bitI_01 m (0+k);omega
section
variable {S:List SlD}{L:List ScD}{Lf:Nat→Prop}{b m:Nat}{t:Int}
theorem BkI.yes (h:BkI S L Lf b t)(hS:S.length≤4)(hm:MlS S L L.length m)(hb:beatB S m b t=true):BkI S L (fun y=>Lf y∧y≠m) m (sumI (fmS S m)):=by
 have hs:=sum_fill m S.length 0;refine⟨rchL_16 hS hm,by unfold fmS;omega,.inr ⟨hm,rfl,fun x hx hn=>?_⟩⟩
 by_cases e:x=m
 ·subst e;exact Int.le_refl _
 ·have hnx:¬Lf x:=fun q=>hn ⟨q,e⟩
  rcases h.h with ⟨_,h1⟩|⟨h1,h2,h3⟩
  ·exact absurd (h1 x hx) hnx
  ·have h4:=h3 x hx hnx;have h5:keyM S.length b<keyM S.length m:=by
    rw [key_lt];unfold beatB at hb;rw [h2]at hb;simp only [Bool.or_eq_true,Bool.and_eq_true,decide_eq_true_eq]at hb;rcases hb with hb|⟨hb1,hb2⟩
    ·exact .inl hb
    ·exact .inr ⟨hb1.symm,hb2⟩
   omega
theorem BkI.no (h:BkI S L Lf b t)(hb:beatB S m b t=false):BkI S L (fun y=>Lf y∧y≠m) b t:=by
 have hs:=sum_fill m S.length 0;unfold beatB at hb;simp only [Bool.or_eq_false_iff,Bool.and_eq_false_iff,decide_eq_false_iff_not]at hb;refine⟨h.b16,h.t1,?_⟩;rcases h.h with ⟨h1,_⟩|⟨h1,h2,h3⟩
 ·have:=hb.1;unfold fmS at this;omega
 ·refine .inr ⟨h1,h2,fun x hx hn=>?_⟩
  by_cases e:x=m
  ·subst e;refine Int.not_lt.1 fun h5=>?_
   rw [key_lt]at h5;rw [h2]at hb;rcases h5 with h5|⟨h5,h6⟩
   ·exact hb.1 h5
   ·rcases hb.2 with h7|h7
    ·exact h7 h5.symm
    ·exact h7 h6
  ·exact h3 x hx (fun q=>hn ⟨q,e⟩)
theorem rchL_zero (fit:Nat→Nat→Bool)(n:Nat):∀j,RchL fit n j 0
 | 0=>rfl
 | j+1=>.inl (rchL_zero fit n j)
theorem BkI.done (h:BkI S L Lf b t)(hl:∀m,¬Lf m):MlS S L L.length b∧∀m,MlS S L L.length m→keyM S.length m≤keyM S.length b:=by
 rcases h.h with ⟨_,h1⟩|⟨h1,_,h3⟩
 ·exact absurd (h1 0 (rchL_zero _ _ _)) (hl 0)
 ·exact⟨h1,fun m hm=>h3 m hm (hl m)⟩
end
/-- The keys of the slots that a set lacks. -/
def lackG (S:List SlD)(b:Nat):Nat→List ByteArray
 | 0=>[]
 | k+1=>lackG S b k++(if b.testBit k=true then []else [(geta S (k:Int)).key])
theorem lackG_le (S:List SlD)(b:Nat):∀k,(lackG S b k).length≤k
 | 0=>Nat.le_refl _
 | k+1=>by
  have:=lackG_le S b k;rw [lackG,List.length_append]
  split <;> simp <;> omega
section
variable (w0:World)(b2:Nat)(vs vl:Value)(S:List SlD)(L:List ScD)(hs:SlH w0 vs S)(hl:ScH w0 vl L)(h2:w0.cell? ⟨b2,0,none⟩=some vs)(hS4:S.length≤4)(hL6:L.length≤6)(B n:Nat)
include hs hl h2 hS4 hL6 B n
theorem ll18:T3 Tryz.prog (fun a w=>(CoA w0 B n (MlS S L L.length) w)∧Fr 122 [(2,.pointer (some ⟨b2,0,none⟩)),(5,.map (some B))] a) (sel [1,1,1,0] lkR) (fun a w=>(CoA w0 B n (MlS S L L.length) w)∧Fr 122 [(2,.pointer (some ⟨b2,0,none⟩)),(5,.map (some B)),(11,.int .i64 0),(12,.int .i64 (-1))] a) No 9 No:=by
 refine T3.leaf ?_;rintro Q JS JX JT K_ hS_ hK hX hE hT hR a w ⟨hW,⟨fr,rfl,q2,q5,_⟩⟩;have HW:=Lib.hid hW;have hln:=hl.n;have hsn:=hs.n;obtain⟨p1,c1,rfl⟩:=hs.r.shape;obtain⟨p2,c2,rfl⟩:=hl.r.shape;clear hW hs hl h2;rw [fr_lkR,fe q2,fe q5];clear q2 q5;conv=>arg 2;whnf
 go_wp2_with fail
 refine Met.intro (hS_ _ _ ?_);exact⟨HW.out,Fr.r rfl rfl⟩
theorem ll19:T3 Tryz.prog (fun a w=>(CoA w0 B n (MlS S L L.length) w)∧Fr 122 [(2,.pointer (some ⟨b2,0,none⟩)),(5,.map (some B)),(11,.int .i64 0),(12,.int .i64 (-1))] a) (sel [1,1,1,1,0] lkR) (fun a w=>(CoA w0 B n (MlS S L L.length) w)∧Fr 122 [(2,.pointer (some ⟨b2,0,none⟩)),(5,.map (some B)),(11,.int .i64 0),(12,.int .i64 (-1)),(13,.func (.func 77) #[] #[.pointer (some ⟨b2,0,none⟩)])] a) No 9 No:=by
 refine T3.leaf ?_;rintro Q JS JX JT K_ hS_ hK hX hE hT hR a w ⟨hW,⟨fr,rfl,q2,q5,q11,q12,_⟩⟩;have HW:=Lib.hid hW;have hln:=hl.n;have hsn:=hs.n;obtain⟨p1,c1,rfl⟩:=hs.r.shape;obtain⟨p2,c2,rfl⟩:=hl.r.shape;clear hW hs hl h2;rw [fr_lkR,fe q2,fe q5,fe q11,fe q12];clear q2 q5 q11 q12;conv=>arg 2;whnf
 go_wp2_with fail
 refine Met.intro (hS_ _ _ ?_);exact⟨HW.out,Fr.r rfl rfl⟩
theorem ll20:T3 Tryz.prog (fun a w=>(CoA w0 B n (MlS S L L.length) w)∧Fr 122 [(2,.pointer (some ⟨b2,0,none⟩)),(5,.map (some B)),(11,.int .i64 0),(12,.int .i64 (-1)),(13,.func (.func 77) #[] #[.pointer (some ⟨b2,0,none⟩)])] a) (sel [1,1,1,1,1,0,0] lkR) (fun a w=>∃(r cnt:Nat),(BkW w0 B r n (MlS S L L.length) (MlS S L L.length) cnt w)∧Fr 122 [(2,.pointer (some ⟨b2,0,none⟩)),(11,.int .i64 0),(12,.int .i64 (-1)),(13,.func (.func 77) #[] #[.pointer (some ⟨b2,0,none⟩)]),(65,.pointer (some ⟨r,0,none⟩))] a) No 9 No:=by
 refine T3.leaf ?_;rintro Q JS JX JT K_ hS_ hK hX hE hT hR a w ⟨hW,⟨fr,rfl,q2,q5,q11,q12,q13,_⟩⟩;have HS:=Lib.hid hW.s;have HF:=Lib.hid (fun w' cnt (hr:RngW w' B w.heap.size n (MlS S L L.length) (MlS S L L.length) cnt) (g:w.grownBy w' none)=>show BkW w0 B w.heap.size n (MlS S L L.length) (MlS S L L.length) cnt w' from
  ⟨hW.bel.trans ((below_of_grown g (by simp)).mono hW.bel.size),hW.bel.size,hr⟩)
 have HW:=Lib.hid hW;have hln:=hl.n;have hsn:=hs.n;obtain⟨p1,c1,rfl⟩:=hs.r.shape;obtain⟨p2,c2,rfl⟩:=hl.r.shape;clear hW hs hl h2;rw [fr_lkR,fe q2,fe q5,fe q11,fe q12,fe q13];clear q2 q5 q11 q12 q13;conv=>arg 2;whnf
 go_wp2_with (at_range;refine wp_range_set rfl _ rfl B n _ rfl HS.out ?_;intro w' cnt hcn hr hg hsz)
 refine Met.intro (hS_ _ _ ?_);exact⟨_,cnt,HF.out w' cnt hr hg,Fr.r rfl rfl⟩
theorem ll21 (r:Nat)(Lf:Nat→Prop)(cnt bb:Nat)(t:Int):T3 Tryz.prog (fun a w=>(BkW w0 B r n (MlS S L L.length) Lf cnt w)∧Fr 122 [(2,.pointer (some ⟨b2,0,none⟩)),(11,.int .i64 (bb:Int)),(12,.int .i64 t),(13,.func (.func 77) #[] #[.pointer (some ⟨b2,0,none⟩)]),(65,.pointer (some ⟨r,0,none⟩))] a) (sel [1,1,1,1,1,0,1,4,4,0] lkR) (fun a w=>∃q,Fr 122 ((67,.bool q)::[(2,.pointer (some ⟨b2,0,none⟩)),(11,.int .i64 (bb:Int)),(12,.int .i64 t),(13,.func (.func 77) #[] #[.pointer (some ⟨b2,0,none⟩)]),(65,.pointer (some ⟨r,0,none⟩))]) a∧(fun(q:Bool) (w:World)=>(q=false∧(∀m,¬Lf m)∧BkW w0 B r n (MlS S L L.length) Lf cnt w)∨(q=true∧∃(m:Nat) (c:Value) (cnt2:Nat),(Lf m∧cnt2<cnt)∧BkW w0 B r n (MlS S L L.length) (fun y=>Lf y∧y≠m) cnt2 w∧(Instr.entry (.pointer (some ⟨r,0,none⟩))).run Tryz.prog w=.ok (.tuple #[.int .i64 (m:Int),c]) w)) q w) No 9 No:=by
 refine T3.leaf ?_;rintro Q JS JX JT K_ hS_ hK hX hE hT hR a w ⟨hW,⟨fr,rfl,q2,q11,q12,q13,q65,_⟩⟩;have HG:=Lib.hid hW.g;have HN:=Lib.hid (fun w' m cnt2 (hr:RngW w' B r n (MlS S L L.length) (fun y=>Lf y∧y≠m) cnt2) (g:w.grownBy w' (some r))=>show BkW w0 B r n (MlS S L L.length) (fun y=>Lf y∧y≠m) cnt2 w' from
  ⟨hW.bel.grown g hW.bel.size (fun k e=>by cases e;exact hW.lor),hW.lor,hr⟩)
 have HW:=Lib.hid hW;have hln:=hl.n;have hsn:=hs.n;obtain⟨p1,c1,rfl⟩:=hs.r.shape;obtain⟨p2,c2,rfl⟩:=hl.r.shape;clear hW hs hl h2;rw [fr_lkR,fe q2,fe q11,fe q12,fe q13,fe q65];clear q2 q11 q12 q13 q65;conv=>arg 2;whnf
 go_wp2_with (at_next;refine wp_next_set rfl _ rfl B r n _ _ cnt rfl HG.out ?_ ?_)
 ·intro hl0;go_wp2_with fail
  refine Met.intro (hS_ _ _ ?_);exact⟨_,Fr.r rfl rfl,.inl ⟨rfl,hl0,HW.out⟩⟩
 ·intro m c w1 cnt2 hm hr hlt hg hsz hen;have HF:=Lib.hid (HN.out w1 m cnt2 hr hg);clear hr hg;go_wp2_with fail
  refine Met.intro (hS_ _ _ ?_);exact⟨_,Fr.r rfl rfl,.inr ⟨rfl,m,c,cnt2,⟨hm,hlt⟩,HF.out,hen⟩⟩
end
section
variable (w0:World)(b2:Nat)(vs vl:Value)(S:List SlD)(L:List ScD)(hs:SlH w0 vs S)(hl:ScH w0 vl L)(h2:w0.cell? ⟨b2,0,none⟩=some vs)(hS4:S.length≤4)(hL6:L.length≤6)(B n:Nat)(r:Nat)(Lf:Nat→Prop)(cnt bb:Nat)(t:Int)(m cnt2:Nat)(hm:Hid (Lf m∧MlS S L L.length m))(hI:Hid (BkI S L Lf bb t))
include hs hl h2 hS4 hL6 B n r cnt cnt2 hm hI
theorem ll22 (c:Value):T3 Tryz.prog (fun a w=>(BkW w0 B r n (MlS S L L.length) (fun y=>Lf y∧y≠m) cnt2 w∧(Instr.entry (.pointer (some ⟨r,0,none⟩))).run Tryz.prog w=.ok (.tuple #[.int .i64 (m:Int),c]) w)∧Fr 122 [(2,.pointer (some ⟨b2,0,none⟩)),(11,.int .i64 (bb:Int)),(12,.int .i64 t),(13,.func (.func 77) #[] #[.pointer (some ⟨b2,0,none⟩)]),(65,.pointer (some ⟨r,0,none⟩))] a) (sel [1,1,1,1,1,0,1,4,4,1,1,4,0] lkR) (fun a w=>(BkW w0 B r n (MlS S L L.length) (fun y=>Lf y∧y≠m) cnt2 w)∧Fr 122 [(2,.pointer (some ⟨b2,0,none⟩)),(11,.int .i64 (bb:Int)),(12,.int .i64 t),(13,.func (.func 77) #[] #[.pointer (some ⟨b2,0,none⟩)]),(14,.int .i64 (m:Int)),(65,.pointer (some ⟨r,0,none⟩))] a) No 9 No:=by
 refine T3.leaf ?_;rintro Q JS JX JT K_ hS_ hK hX hE hT hR a w ⟨hW,⟨fr,rfl,q2,q11,q12,q13,q65,_⟩⟩;have hen:=hW.2;have HW:=Lib.hid hW.1;have hln:=hl.n;have hsn:=hs.n;obtain⟨p1,c1,rfl⟩:=hs.r.shape;obtain⟨p2,c2,rfl⟩:=hl.r.shape;clear hW hs hl h2;rw [fr_lkR,fe q2,fe q11,fe q12,fe q13,fe q65];clear q2 q11 q12 q13 q65;conv=>arg 2;whnf
 go_wp2_with fail
 refine Met.intro (hS_ _ _ ?_);exact⟨HW.out,Fr.r rfl rfl⟩
theorem ll23:T3 Tryz.prog (fun a w=>(BkW w0 B r n (MlS S L L.length) (fun y=>Lf y∧y≠m) cnt2 w)∧Fr 122 [(2,.pointer (some ⟨b2,0,none⟩)),(11,.int .i64 (bb:Int)),(12,.int .i64 t),(13,.func (.func 77) #[] #[.pointer (some ⟨b2,0,none⟩)]),(14,.int .i64 (m:Int)),(65,.pointer (some ⟨r,0,none⟩))] a) (sel [1,1,1,1,1,0,1,4,4,1,1,4,1,0] lkR) (fun a w=>(BkW w0 B r n (MlS S L L.length) (fun y=>Lf y∧y≠m) cnt2 w)∧Fr 122 [(2,.pointer (some ⟨b2,0,none⟩)),(11,.int .i64 (bb:Int)),(12,.int .i64 t),(13,.func (.func 77) #[] #[.pointer (some ⟨b2,0,none⟩)]),(14,.int .i64 (m:Int)),(15,.int .i64 0),(65,.pointer (some ⟨r,0,none⟩))] a) No 9 No:=by
 refine T3.leaf ?_;rintro Q JS JX JT K_ hS_ hK hX hE hT hR a w ⟨hW,⟨fr,rfl,q2,q11,q12,q13,q14,q65,_⟩⟩;have HW:=Lib.hid hW;have hln:=hl.n;have hsn:=hs.n;obtain⟨p1,c1,rfl⟩:=hs.r.shape;obtain⟨p2,c2,rfl⟩:=hl.r.shape;clear hW hs hl h2;rw [fr_lkR,fe q2,fe q11,fe q12,fe q13,fe q14,fe q65];clear q2 q11 q12 q13 q14 q65;conv=>arg 2;whnf
 go_wp2_with fail
 refine Met.intro (hS_ _ _ ?_);exact⟨HW.out,Fr.r rfl rfl⟩
theorem ll24:T3 Tryz.prog (fun a w=>(BkW w0 B r n (MlS S L L.length) (fun y=>Lf y∧y≠m) cnt2 w)∧Fr 122 [(2,.pointer (some ⟨b2,0,none⟩)),(11,.int .i64 (bb:Int)),(12,.int .i64 t),(13,.func (.func 77) #[] #[.pointer (some ⟨b2,0,none⟩)]),(14,.int .i64 (m:Int)),(15,.int .i64 0),(65,.pointer (some ⟨r,0,none⟩))] a) (sel [1,1,1,1,1,0,1,4,4,1,1,4,1,1,0,0] lkR) (fun a w=>(0≤(0:Int)∧(0:Int)≤S.length)∧∃(v72:Value),(BkW w0 B r n (MlS S L L.length) (fun y=>Lf y∧y≠m) cnt2 w∧Row w 0 1 v72 S.length (cellsOf encI (fmS S m)))∧Fr 122 [(2,.pointer (some ⟨b2,0,none⟩)),(11,.int .i64 (bb:Int)),(12,.int .i64 t),(13,.func (.func 77) #[] #[.pointer (some ⟨b2,0,none⟩)]),(14,.int .i64 (m:Int)),(15,.int .i64 (sumI ((fmS S m).take (0:Int).toNat))),(65,.pointer (some ⟨r,0,none⟩)),(72,v72),(73,.int .i64 S.length),(74,.int .i64 0)] a) No 9 No:=by
 refine T3.leaf ?_;rintro Q JS JX JT K_ hS_ hK hX hE hT hR a w ⟨hW,⟨fr,rfl,q2,q11,q12,q13,q14,q15,q65,_⟩⟩;have HC:=Lib.hid (filled_ref w b2 m vs S (hs.below hW.bel) ((hW.bel.cell (p:=⟨b2,0,none⟩) (World.block_lt_of_cell? w0 _ h2)).trans h2) hS4 (rchL_16 hS4 hm.out.2));have HN:=Lib.hid (fun w' (b:Below w.heap.size w w')=>hW.below b);have HW:=Lib.hid hW;have hln:=hl.n;have hsn:=hs.n;obtain⟨p1,c1,rfl⟩:=hs.r.shape;obtain⟨p2,c2,rfl⟩:=hl.r.shape;clear hW hs hl h2;rw [fr_lkR,fe q2,fe q11,fe q12,fe q13,fe q14,fe q15,fe q65];clear q2 q11 q12 q13 q14 q15 q65;conv=>arg 2;whnf
 go_wp2_with fail
 refine HC.out.mono ?_;rintro e w1 ⟨v4,rfl,ho,hb⟩;have HR:=Lib.hid ((Row.of_owns ho).mono (Nat.zero_le _));have HB:=Lib.hid (HN.out w1 hb);obtain⟨q4,d4,rfl⟩:=(Row.of_owns ho).shape;clear ho hb;go_wp2_with fail
 refine Met.intro (hS_ _ _ ?_);exact⟨⟨by omega,by omega⟩,_,⟨HB.out,HR.out⟩,Fr.r rfl rfl⟩
section
variable (v72:Value)(k:Nat)(hk:k<S.length)
include v72 hk
theorem ll26:T3 Tryz.prog (fun a w=>(BkW w0 B r n (MlS S L L.length) (fun y=>Lf y∧y≠m) cnt2 w∧Row w 0 1 v72 S.length (cellsOf encI (fmS S m)))∧Fr 122 [(2,.pointer (some ⟨b2,0,none⟩)),(11,.int .i64 (bb:Int)),(12,.int .i64 t),(13,.func (.func 77) #[] #[.pointer (some ⟨b2,0,none⟩)]),(14,.int .i64 (m:Int)),(15,.int .i64 (sumI ((fmS S m).take k))),(65,.pointer (some ⟨r,0,none⟩)),(72,v72),(73,.int .i64 S.length),(74,.int .i64 (k:Int))] a) (sel [1,1,1,1,1,0,1,4,4,1,1,4,1,1,0,1,4,4,1,1,0,4,0] lkR) (fun a w=>(BkW w0 B r n (MlS S L L.length) (fun y=>Lf y∧y≠m) cnt2 w∧Row w 0 1 v72 S.length (cellsOf encI (fmS S m)))∧Fr 122 [(2,.pointer (some ⟨b2,0,none⟩)),(11,.int .i64 (bb:Int)),(12,.int .i64 t),(13,.func (.func 77) #[] #[.pointer (some ⟨b2,0,none⟩)]),(14,.int .i64 (m:Int)),(15,.int .i64 (sumI ((fmS S m).take k))),(17,.int .i64 (geta (fmS S m) (k:Int))),(65,.pointer (some ⟨r,0,none⟩)),(72,v72),(73,.int .i64 S.length),(74,.int .i64 (k:Int))] a) No 9 No:=by
 refine T3.leaf ?_;rintro Q JS JX JT K_ hS_ hK hX hE hT hR a w ⟨hW,⟨fr,rfl,q2,q11,q12,q13,q14,q15,q65,q72,q73,q74,_⟩⟩;have hR:=hW.2;have hfl:(fmS S m).length=S.length:=fillL_len _ _ _;obtain⟨q,d,rfl⟩:=hR.shape;obtain⟨bz,off,rfl,hnc,hcm,hcell⟩:=Row.nonnil hR (by omega);have t0:=Row.elAt encI_length hcell (k:=(k:Int)) (by omega) (by omega) 0 _ (by decide) rfl;rw [Nat.mul_one,Nat.add_zero,Int.toNat_natCast]at t0;clear hcell hR;have HW:=Lib.hid hW;have hln:=hl.n;have hsn:=hs.n;obtain⟨p1,c1,rfl⟩:=hs.r.shape;obtain⟨p2,c2,rfl⟩:=hl.r.shape;clear hW hs hl h2;generalize sumI ((fmS S m).take k)=sk at *;generalize geta (fmS S m) (k:Int)=bx at *;rw [fr_lkR,fe q2,fe q11,fe q12,fe q13,fe q14,fe q15,fe q65,fe q72,fe q73,fe q74];clear q2 q11 q12 q13 q14 q15 q65 q72 q73 q74;conv=>arg 2;whnf
 go_wp2_with fail
 refine Met.intro (hS_ _ _ ?_);exact⟨HW.out,Fr.r rfl rfl⟩
theorem ll27:T3 Tryz.prog (fun a w=>(BkW w0 B r n (MlS S L L.length) (fun y=>Lf y∧y≠m) cnt2 w∧Row w 0 1 v72 S.length (cellsOf encI (fmS S m)))∧Fr 122 [(2,.pointer (some ⟨b2,0,none⟩)),(11,.int .i64 (bb:Int)),(12,.int .i64 t),(13,.func (.func 77) #[] #[.pointer (some ⟨b2,0,none⟩)]),(14,.int .i64 (m:Int)),(15,.int .i64 (sumI ((fmS S m).take k))),(17,.int .i64 (geta (fmS S m) (k:Int))),(65,.pointer (some ⟨r,0,none⟩)),(72,v72),(73,.int .i64 S.length),(74,.int .i64 (k:Int))] a) (sel [1,1,1,1,1,0,1,4,4,1,1,4,1,1,0,1,4,4,1,1,0,4,1] lkR) (fun a w=>(BkW w0 B r n (MlS S L L.length) (fun y=>Lf y∧y≠m) cnt2 w∧Row w 0 1 v72 S.length (cellsOf encI (fmS S m)))∧Fr 122 [(2,.pointer (some ⟨b2,0,none⟩)),(11,.int .i64 (bb:Int)),(12,.int .i64 t),(13,.func (.func 77) #[] #[.pointer (some ⟨b2,0,none⟩)]),(14,.int .i64 (m:Int)),(15,.int .i64 (sumI ((fmS S m).take (k+1)))),(65,.pointer (some ⟨r,0,none⟩)),(72,v72),(73,.int .i64 S.length),(74,.int .i64 (k:Int))] a) No 9 No:=by
 refine T3.leaf ?_;rintro Q JS JX JT K_ hS_ hK hX hE hT hR a w ⟨hW,⟨fr,rfl,q2,q11,q12,q13,q14,q15,q17,q65,q72,q73,q74,_⟩⟩;have hfl:(fmS S m).length=S.length:=fillL_len _ _ _;have h0:=sum_take (fmS S m) k (by omega);have h1:=sum_fill m k 0;have h3:(fmS S m).take k=fillL m 0 k:=fill_take m S.length 0 k (by omega);have h4:geta (fmS S m) (k:Int)=0∨geta (fmS S m) (k:Int)=1:=fill_at m hk;rw [←h3]at h1;obtain⟨q,d,rfl⟩:=hW.2.shape;clear h0 h3;have HS0:=Lib.hid (sum_take (fmS S m) k (by omega));have HW:=Lib.hid hW;have hln:=hl.n;have hsn:=hs.n;obtain⟨p1,c1,rfl⟩:=hs.r.shape;obtain⟨p2,c2,rfl⟩:=hl.r.shape;clear hW hs hl h2;generalize sumI ((fmS S m).take (k+1))=sk1 at *;generalize sumI ((fmS S m).take k)=sk at *;generalize geta (fmS S m) (k:Int)=bx at *;obtain rfl:=HS0.out;rw [fr_lkR,fe q2,fe q11,fe q12,fe q13,fe q14,fe q15,fe q17,fe q65,fe q72,fe q73,fe q74];clear q2 q11 q12 q13 q14 q15 q17 q65 q72 q73 q74;conv=>arg 2;whnf
 go_wp2_with fail
 refine Met.intro (hS_ _ _ ?_);exact⟨HW.out,Fr.r rfl rfl⟩
end
theorem llv (k:Int):T3 Tryz.prog (fun a w=>(0≤k∧k<S.length)∧∃(v72:Value),(BkW w0 B r n (MlS S L L.length) (fun y=>Lf y∧y≠m) cnt2 w∧Row w 0 1 v72 S.length (cellsOf encI (fmS S m)))∧Fr 122 [(2,.pointer (some ⟨b2,0,none⟩)),(11,.int .i64 (bb:Int)),(12,.int .i64 t),(13,.func (.func 77) #[] #[.pointer (some ⟨b2,0,none⟩)]),(14,.int .i64 (m:Int)),(15,.int .i64 (sumI ((fmS S m).take (k:Int).toNat))),(65,.pointer (some ⟨r,0,none⟩)),(72,v72),(73,.int .i64 S.length),(74,.int .i64 k)] a) (sel [1,1,1,1,1,0,1,4,4,1,1,4,1,1,0,1,4,4,1,1,0] lkR) (fun a w=>(0≤k∧k<S.length)∧∃(v72:Value),(BkW w0 B r n (MlS S L L.length) (fun y=>Lf y∧y≠m) cnt2 w∧Row w 0 1 v72 S.length (cellsOf encI (fmS S m)))∧Fr 122 [(2,.pointer (some ⟨b2,0,none⟩)),(11,.int .i64 (bb:Int)),(12,.int .i64 t),(13,.func (.func 77) #[] #[.pointer (some ⟨b2,0,none⟩)]),(14,.int .i64 (m:Int)),(15,.int .i64 (sumI ((fmS S m).take ((k+1):Int).toNat))),(65,.pointer (some ⟨r,0,none⟩)),(72,v72),(73,.int .i64 S.length),(74,.int .i64 k)] a) No 100 No:=by
 refine T3.pure fun hh=>T3.ex fun v72=>?_
 obtain⟨kn,rfl⟩:=Int.eq_ofNat_of_zero_le hh.1;rw [Int.toNat_natCast];refine T3.block (id':=9) (c:=(sel [1,1,1,1,1,0,1,4,4,1,1,4,1,1,0,1,4,4,1,1,0,4] lkR)) (by decide) ?_;refine T3.sq rfl ((ll26 w0 b2 vs vl S L hs hl h2 hS4 hL6 B n r Lf cnt bb t m cnt2 hm hI v72 kn (by omega)).noX) (((ll27 w0 b2 vs vl S L hs hl h2 hS4 hL6 B n r Lf cnt bb t m cnt2 hm hI v72 kn (by omega)).noX).post ?_);rintro a w ⟨hW,hF⟩;refine⟨hh,v72,hW,?_⟩;rw [show((kn:Int)+1).toNat=kn+1 by omega];exact hF.sub (by simp)
def llVI (w0:World)(b2:Nat)(vs vl:Value)(S:List SlD)(L:List ScD)(hs:SlH w0 vs S)(hl:ScH w0 vl L)(h2:w0.cell? ⟨b2,0,none⟩=some vs)(hS4:S.length≤4)(hL6:L.length≤6)(B n:Nat)(r:Nat)(Lf:Nat→Prop)(cnt bb:Nat)(t:Int)(m cnt2:Nat)(hm:Hid (Lf m∧MlS S L L.length m))(hI:Hid (BkI S L Lf bb t))(k:Int)(a:Act)(w:World):Prop:=(0≤k∧k≤S.length)∧∃(v72:Value),(BkW w0 B r n (MlS S L L.length) (fun y=>Lf y∧y≠m) cnt2 w∧Row w 0 1 v72 S.length (cellsOf encI (fmS S m)))∧Fr 122 [(2,.pointer (some ⟨b2,0,none⟩)),(11,.int .i64 (bb:Int)),(12,.int .i64 t),(13,.func (.func 77) #[] #[.pointer (some ⟨b2,0,none⟩)]),(14,.int .i64 (m:Int)),(15,.int .i64 (sumI ((fmS S m).take (k:Int).toNat))),(65,.pointer (some ⟨r,0,none⟩)),(72,v72),(73,.int .i64 S.length),(74,.int .i64 k)] a
theorem llVt (k:Int):T3 Tryz.prog (fun a w=>llVI w0 b2 vs vl S L hs hl h2 hS4 hL6 B n r Lf cnt bb t m cnt2 hm hI k a w) (sel [1,1,1,1,1,0,1,4,4,1,1,4,1,1,0,1,4,4,0] lkR) (fun a w=>∃q,Fr 122 ((75,.bool q)::[(74,.int .i64 k)]) a∧((q=true↔k<S.length)∧llVI w0 b2 vs vl S L hs hl h2 hS4 hL6 B n r Lf cnt bb t m cnt2 hm hI k a w)) No 9 No:=by
 refine T3.leaf ?_;rintro Q JS JX JT K_ hS_ hK hX hE hT hR a w ⟨hk,v72,hW,⟨fr,rfl,q2,q11,q12,q13,q14,q15,q65,q72,q73,q74,_⟩⟩;have hsn:=hs.n;rw [fr_lkR,fe q2,fe q11,fe q12,fe q13,fe q14,fe q15,fe q65,fe q72,fe q73,fe q74];clear q2 q11 q12 q13 q14 q15 q65 q72 q73 q74;conv=>arg 2;whnf
 by_cases hlt:k<S.length
 ·go_wp2_with fail
  refine Met.intro (hS_ _ _ ?_);exact⟨true,Fr.r rfl rfl,⟨fun _=>hlt,fun _=>rfl⟩,hk,v72,hW,Fr.r rfl rfl⟩
 ·have hpb:decide (k<(S.length:Int))=false:=by simp;omega
  go_wp2_with fail
  refine Met.intro (hS_ _ _ ?_);exact⟨false,Fr.r rfl rfl,⟨(fun h=>by cases h),fun h=>absurd h (by omega)⟩,hk,v72,hW,Fr.r rfl rfl⟩
theorem llVn (k:Int):T3 Tryz.prog (fun a w=>(0≤k∧k<S.length)∧∃(v72:Value),(BkW w0 B r n (MlS S L L.length) (fun y=>Lf y∧y≠m) cnt2 w∧Row w 0 1 v72 S.length (cellsOf encI (fmS S m)))∧Fr 122 [(2,.pointer (some ⟨b2,0,none⟩)),(11,.int .i64 (bb:Int)),(12,.int .i64 t),(13,.func (.func 77) #[] #[.pointer (some ⟨b2,0,none⟩)]),(14,.int .i64 (m:Int)),(15,.int .i64 (sumI ((fmS S m).take ((k+1):Int).toNat))),(65,.pointer (some ⟨r,0,none⟩)),(72,v72),(73,.int .i64 S.length),(74,.int .i64 k)] a) (sel [1,1,1,1,1,0,1,4,4,1,1,4,1,1,0,1,4,4,1,1,1] lkR) (fun a w=>llVI w0 b2 vs vl S L hs hl h2 hS4 hL6 B n r Lf cnt bb t m cnt2 hm hI (k+1) a w) No 9 No:=by
 refine T3.leaf ?_;rintro Q JS JX JT K_ hS_ hK hX hE hT hR a w ⟨hk,v72,hW,⟨fr,rfl,q2,q11,q12,q13,q14,q15,q65,q72,q73,q74,_⟩⟩;obtain⟨hk0,hk1⟩:=hk;have hsn:=hs.n;rw [fr_lkR,fe q2,fe q11,fe q12,fe q13,fe q14,fe q15,fe q65,fe q72,fe q73,fe q74];clear q2 q11 q12 q13 q14 q15 q65 q72 q73 q74;conv=>arg 2;whnf
 go_wp2_with fail
 refine Met.intro (hS_ _ _ ?_);exact⟨⟨by omega,by omega⟩,v72,hW,Fr.r rfl rfl⟩
theorem llVloop:T3 Tryz.prog (fun a w=>llVI w0 b2 vs vl S L hs hl h2 hS4 hL6 B n r Lf cnt bb t m cnt2 hm hI 0 a w) (sel [1,1,1,1,1,0,1,4,4,1,1,4,1,1,0,1] lkR) (fun a w=>(BkW w0 B r n (MlS S L L.length) (fun y=>Lf y∧y≠m) cnt2 w)∧Fr 122 [(2,.pointer (some ⟨b2,0,none⟩)),(11,.int .i64 (bb:Int)),(12,.int .i64 t),(13,.func (.func 77) #[] #[.pointer (some ⟨b2,0,none⟩)]),(14,.int .i64 (m:Int)),(15,.int .i64 (sumI (fmS S m))),(65,.pointer (some ⟨r,0,none⟩))] a) No 9 No :=
 T3.range (I:=llVI w0 b2 vs vl S L hs hl h2 hS4 hL6 B n r Lf cnt bb t m cnt2 hm hI) rfl (by decide) (llVt w0 b2 vs vl S L hs hl h2 hS4 hL6 B n r Lf cnt bb t m cnt2 hm hI) (llVn w0 b2 vs vl S L hs hl h2 hS4 hL6 B n r Lf cnt bb t m cnt2 hm hI) (fun _ _ _ h=>h.1) (fun k hk=>T3.pre (llv w0 b2 vs vl S L hs hl h2 hS4 hL6 B n r Lf cnt bb t m cnt2 hm hI k) (fun a w q=>⟨hk,q.2⟩)) (fun a w hI=>by
  obtain⟨hk,hI⟩:=hI;obtain⟨v72,hW,hF⟩:=hI;have e:(fmS S m).take ((S.length:Int)).toNat=fmS S m:=by
    rw [Int.toNat_natCast];exact List.take_of_length_le (by rw [show(fmS S m).length=S.length from fillL_len _ _ _];exact Nat.le_refl _)
  rw [e]at hF;exact⟨hW.1,hF.sub (by simp)⟩)
theorem ll29:T3 Tryz.prog (fun a w=>(BkW w0 B r n (MlS S L L.length) (fun y=>Lf y∧y≠m) cnt2 w)∧Fr 122 [(2,.pointer (some ⟨b2,0,none⟩)),(11,.int .i64 (bb:Int)),(12,.int .i64 t),(13,.func (.func 77) #[] #[.pointer (some ⟨b2,0,none⟩)]),(14,.int .i64 (m:Int)),(15,.int .i64 (sumI (fmS S m))),(65,.pointer (some ⟨r,0,none⟩))] a) (sel [1,1,1,1,1,0,1,4,4,1,1,4,1,1,1,0] lkR) (fun a w=>∃q,Fr 122 ((99,.bool q)::[(2,.pointer (some ⟨b2,0,none⟩)),(11,.int .i64 (bb:Int)),(12,.int .i64 t),(13,.func (.func 77) #[] #[.pointer (some ⟨b2,0,none⟩)]),(14,.int .i64 (m:Int)),(15,.int .i64 (sumI (fmS S m))),(65,.pointer (some ⟨r,0,none⟩))]) a∧((q=beatB S m bb t)∧BkW w0 B r n (MlS S L L.length) (fun y=>Lf y∧y≠m) cnt2 w)) No 9 No:=by
 refine T3.leaf ?_;rintro Q JS JX JT K_ hS_ hK hX hE hT hR a w ⟨hW,⟨fr,rfl,q2,q11,q12,q13,q14,q15,q65,_⟩⟩;have hbe:beatB S m bb t=(decide (t<sumI (fmS S m)) || (decide (sumI (fmS S m)=t)&&decide (0<cmpI (fmS S m) (fmS S bb)))):=rfl;have HC:=Lib.hid (filled_ref w b2 m vs S (hs.below hW.bel) ((hW.bel.cell (p:=⟨b2,0,none⟩) (World.block_lt_of_cell? w0 _ h2)).trans h2) hS4 (rchL_16 hS4 hm.out.2));have HC2:=Lib.hid (fun w1 (b:Below w.heap.size w w1)=>filled_ref w1 b2 bb vs S ((hs.below hW.bel).below b) (((hW.below b).bel.cell (p:=⟨b2,0,none⟩) (World.block_lt_of_cell? w0 _ h2)).trans h2) hS4 hI.out.b16);have HN:=Lib.hid (fun w' (b:Below w.heap.size w w')=>hW.below b);have hfl:(fmS S m).length=S.length:=fillL_len _ _ _;have hfb:(fmS S bb).length=S.length:=fillL_len _ _ _;have HM:=Lib.hid (fun va vb w1 (ha:Row w1 0 1 va S.length (cellsOf encI (fillL m 0 S.length))) (hb:Row w1 0 1 vb S.length (cellsOf encI (fillL bb 0 S.length)))=>compare_ints va vb (fmS S m) (fmS S bb) w1 (by rw [hfl];exact ha) (by rw [hfb];exact hb) (by omega) (by omega));have ht:=hI.out.t1;have hs4:=sum_fill m S.length 0;have hs5:sumI (fillL m 0 S.length)=sumI (fmS S m):=rfl;rw [hs5]at hs4;clear hs5 hfl hfb;have HW:=Lib.hid hW;have hln:=hl.n;have hsn:=hs.n;obtain⟨p1,c1,rfl⟩:=hs.r.shape;obtain⟨p2,c2,rfl⟩:=hl.r.shape;clear hW hs hl h2;clear hm hI;generalize beatB S m bb t=be at *;generalize sumI (fmS S m)=sm at *;generalize cmpI (fmS S m) (fmS S bb)=cc at *
 by_cases h1:t<sm
 ·have HQ:=Lib.hid (show true=be by rw [hbe];simp [h1]);clear hbe;rw [fr_lkR,fe q2,fe q11,fe q12,fe q13,fe q14,fe q15,fe q65];clear q2 q11 q12 q13 q14 q15 q65;conv=>arg 2;whnf
  go_wp2_with fail
  refine Met.intro (hS_ _ _ ?_);exact⟨_,Fr.r rfl rfl,HQ.out,HW.out⟩
 ·have h1b:decide (t<sm)=false:=decide_eq_false h1
  by_cases h3:sm=t
  ·have HQ:=Lib.hid (show decide (0<cc)=be by rw [hbe];simp [h1,h3]);clear hbe;subst h3;rw [fr_lkR,fe q2,fe q11,fe q12,fe q13,fe q14,fe q15,fe q65];clear q2 q11 q12 q13 q14 q15 q65;conv=>arg 2;whnf
   go_wp2_with fail
   refine HC.out.mono ?_;rintro e w1 ⟨va,rfl,ho1,hb1⟩;have HO1:=Lib.hid ((Row.of_owns ho1).mono (Nat.zero_le _));have HB1:=Lib.hid hb1;obtain⟨q4,d4,rfl⟩:=(Row.of_owns ho1).shape;clear ho1 hb1;go_wp2_with fail
   refine(HC2.out w1 HB1.out).mono ?_;rintro e w2 ⟨vb,rfl,ho2,hb2⟩;have HO2:=Lib.hid ((Row.of_owns ho2).mono (Nat.zero_le _));have HO3:=Lib.hid (HO1.out.below hb2);have HB2:=Lib.hid (HN.out w2 (HB1.out.trans (hb2.mono HB1.out.size)));obtain⟨q5,d5,rfl⟩:=(Row.of_owns ho2).shape;clear ho2 hb2;go_wp2_with fail
   refine(HM.out _ _ w2 HO3.out HO2.out).mono ?_;rintro e w3 ⟨rfl,rfl⟩;go_wp2_with fail
   refine Met.intro (hS_ _ _ ?_);exact⟨_,Fr.r rfl rfl,HQ.out,HB2.out⟩
  ·have h3b:(sm==t)=false:=by simpa using h3
   have HQ:=Lib.hid (show false=be by rw [hbe];simp [h1,h3]);clear hbe;rw [fr_lkR,fe q2,fe q11,fe q12,fe q13,fe q14,fe q15,fe q65];clear q2 q11 q12 q13 q14 q15 q65;conv=>arg 2;whnf
   go_wp2_with fail
   refine Met.intro (hS_ _ _ ?_);exact⟨_,Fr.r rfl rfl,HQ.out,HW.out⟩
theorem ll30:T3 Tryz.prog (fun a w=>(BkW w0 B r n (MlS S L L.length) (fun y=>Lf y∧y≠m) cnt2 w)∧Fr 122 [(2,.pointer (some ⟨b2,0,none⟩)),(11,.int .i64 (bb:Int)),(12,.int .i64 t),(13,.func (.func 77) #[] #[.pointer (some ⟨b2,0,none⟩)]),(14,.int .i64 (m:Int)),(15,.int .i64 (sumI (fmS S m))),(65,.pointer (some ⟨r,0,none⟩))] a) (sel [1,1,1,1,1,0,1,4,4,1,1,4,1,1,1,1,2] lkR) (fun a w=>(BkW w0 B r n (MlS S L L.length) (fun y=>Lf y∧y≠m) cnt2 w)∧Fr 122 [(2,.pointer (some ⟨b2,0,none⟩)),(11,.int .i64 (m:Int)),(12,.int .i64 (sumI (fmS S m))),(13,.func (.func 77) #[] #[.pointer (some ⟨b2,0,none⟩)]),(65,.pointer (some ⟨r,0,none⟩))] a) No 9 No:=by
 refine T3.leaf ?_;rintro Q JS JX JT K_ hS_ hK hX hE hT hR a w ⟨hW,⟨fr,rfl,q2,q11,q12,q13,q14,q15,q65,_⟩⟩;have HW:=Lib.hid hW;have hln:=hl.n;have hsn:=hs.n;obtain⟨p1,c1,rfl⟩:=hs.r.shape;obtain⟨p2,c2,rfl⟩:=hl.r.shape;clear hW hs hl h2;generalize sumI (fmS S m)=sm at *;rw [fr_lkR,fe q2,fe q11,fe q12,fe q13,fe q14,fe q15,fe q65];clear q2 q11 q12 q13 q14 q15 q65;conv=>arg 2;whnf
 go_wp2_with fail
 refine Met.intro (hS_ _ _ ?_);exact⟨HW.out,Fr.r rfl rfl⟩
end
section
variable (w0:World)(b2:Nat)(vs vl:Value)(S:List SlD)(L:List ScD)(hs:SlH w0 vs S)(hl:ScH w0 vl L)(h2:w0.cell? ⟨b2,0,none⟩=some vs)(hS4:S.length≤4)(hL6:L.length≤6)
include hs hl h2 hS4 hL6
theorem llM (B n:Nat)(r:Nat):T3 Tryz.prog (fun a w=>∃cnt:Nat,(BkW w0 B r n (MlS S L L.length) (MlS S L L.length) cnt w)∧Fr 122 [(2,.pointer (some ⟨b2,0,none⟩)),(11,.int .i64 0),(12,.int .i64 (-1)),(13,.func (.func 77) #[] #[.pointer (some ⟨b2,0,none⟩)]),(65,.pointer (some ⟨r,0,none⟩))] a) (sel [1,1,1,1,1,0,1] lkR) (fun a w=>∃(bb:Nat),(((MlS S L L.length) bb∧∀m,(MlS S L L.length) m→keyM S.length m≤keyM S.length bb))∧(Below w0.heap.size w0 w)∧Fr 122 [(2,.pointer (some ⟨b2,0,none⟩)),(11,.int .i64 (bb:Int))] a) No 9 No:=by
 refine T3.loop (c:=(sel [1,1,1,1,1,0,1,4,4] lkR)) (fun ng a w=>∃(Lf:Nat→Prop) (cnt bb:Nat) (t:Int),(cnt=ng∧(∀x,Lf x→(MlS S L L.length) x)∧BkI S L Lf bb t)∧(BkW w0 B r n (MlS S L L.length) Lf cnt w)∧Fr 122 [(2,.pointer (some ⟨b2,0,none⟩)),(11,.int .i64 (bb:Int)),(12,.int .i64 t),(13,.func (.func 77) #[] #[.pointer (some ⟨b2,0,none⟩)]),(65,.pointer (some ⟨r,0,none⟩))] a) (fun a w ⟨cnt,h⟩=>⟨_,_,cnt,0,-1,⟨rfl,fun _ h=>h,⟨by decide,by decide,.inl ⟨rfl,fun _ h=>h⟩⟩⟩,h⟩) (fun ng=>T3.ex fun Lf=>T3.ex fun cnt=>T3.ex fun bb=>T3.ex fun t=>T3.pure fun hh=>?_);obtain⟨rfl,hLf,hI⟩:=hh;refine T3.sq rfl ((ll21 w0 b2 vs vl S L hs hl h2 hS4 hL6 B n r Lf cnt bb t).noX) ?_;refine T3.sq rfl (S:=fun a w=>∃(m:Nat) (c:Value) (cnt2:Nat),(Lf m∧cnt2<cnt)∧(BkW w0 B r n (MlS S L L.length) (fun y=>Lf y∧y≠m) cnt2 w∧(Instr.entry (.pointer (some ⟨r,0,none⟩))).run Tryz.prog w=.ok (.tuple #[.int .i64 (m:Int),c]) w)∧Fr 122 [(2,.pointer (some ⟨b2,0,none⟩)),(11,.int .i64 (bb:Int)),(12,.int .i64 t),(13,.func (.func 77) #[] #[.pointer (some ⟨b2,0,none⟩)]),(65,.pointer (some ⟨r,0,none⟩))] a) ?_ ?_
 ·refine T3.iff (x:=.skip) (y:=.exit 6) (M:=(fun(q:Bool) (w:World)=>(q=false∧(∀m,¬Lf m)∧BkW w0 B r n (MlS S L L.length) Lf cnt w)∨(q=true∧∃(m:Nat) (c:Value) (cnt2:Nat),(Lf m∧cnt2<cnt)∧BkW w0 B r n (MlS S L L.length) (fun y=>Lf y∧y≠m) cnt2 w∧(Instr.entry (.pointer (some ⟨r,0,none⟩))).run Tryz.prog w=.ok (.tuple #[.int .i64 (m:Int),c]) w))) (by decide) (T3.skip ?_) (T3.exit ?_)
  ·rintro a w ⟨hF,h|⟨_,m,c,cnt2,h1,h2,h3⟩⟩
   ·cases h.1
   ·exact⟨m,c,cnt2,h1,⟨h2,h3⟩,hF.tail⟩
  ·rintro a w ⟨hF,⟨_,hl0,hW⟩|h⟩
   ·exact⟨bb,hI.done hl0,hW.bel,hF.sub (by simp)⟩
   ·cases h.1
 refine T3.ex fun m=>T3.ex fun c=>T3.ex fun cnt2=>T3.pure fun hm=>?_
 refine T3.block (id':=7) (c:=(sel [1,1,1,1,1,0,1,4,4,1,1,4] lkR)) (by decide) ?_;have hmm:Hid (Lf m∧(MlS S L L.length) m):=Lib.hid ⟨hm.1,hLf m hm.1⟩;have hLf2:∀x,(Lf x∧x≠m)→(MlS S L L.length) x:=fun x h=>hLf x h.1
 refine T3.sq rfl ((ll22 w0 b2 vs vl S L hs hl h2 hS4 hL6 B n r Lf cnt bb t m cnt2 hmm (Lib.hid hI) c).noX) ?_;refine T3.sq rfl ((ll23 w0 b2 vs vl S L hs hl h2 hS4 hL6 B n r Lf cnt bb t m cnt2 hmm (Lib.hid hI)).noX) ?_;refine T3.sq rfl ((T3.seq (s:=(sel [1,1,1,1,1,0,1,4,4,1,1,4,1,1,0,0] lkR)) (c:=(sel [1,1,1,1,1,0,1,4,4,1,1,4,1,1,0,1] lkR)) (ll24 w0 b2 vs vl S L hs hl h2 hS4 hL6 B n r Lf cnt bb t m cnt2 hmm (Lib.hid hI)) (llVloop w0 b2 vs vl S L hs hl h2 hS4 hL6 B n r Lf cnt bb t m cnt2 hmm (Lib.hid hI))).noX) ?_;refine T3.tt rfl (C:=fun q=>(q=beatB S m bb t)) (W:=fun w=>BkW w0 B r n (MlS S L L.length) (fun y=>Lf y∧y≠m) cnt2 w) (by decide) ((ll29 w0 b2 vs vl S L hs hl h2 hS4 hL6 B n r Lf cnt bb t m cnt2 hmm (Lib.hid hI)).noX) ?_ (T3.skip ?_)
 ·refine T3.pre (R:=fun a w=>(beatB S m bb t=true)∧(BkW w0 B r n (MlS S L L.length) (fun y=>Lf y∧y≠m) cnt2 w)∧Fr 122 [(2,.pointer (some ⟨b2,0,none⟩)),(11,.int .i64 (bb:Int)),(12,.int .i64 t),(13,.func (.func 77) #[] #[.pointer (some ⟨b2,0,none⟩)]),(14,.int .i64 (m:Int)),(15,.int .i64 (sumI (fmS S m))),(65,.pointer (some ⟨r,0,none⟩))] a) (T3.pure fun hq=>((ll30 w0 b2 vs vl S L hs hl h2 hS4 hL6 B n r Lf cnt bb t m cnt2 hmm (Lib.hid hI)).noX).post ?_) (fun a w ⟨hF,hq,hW⟩=>⟨hq.symm,hW,hF.tail⟩);rintro a w ⟨hW,hF⟩;exact⟨cnt2,hm.2,_,cnt2,m,_,⟨rfl,hLf2,hI.yes hS4 hmm.out.2 hq⟩,hW,hF⟩
 ·rintro a w ⟨hq,hW,hF⟩;exact⟨cnt2,hm.2,_,cnt2,bb,t,⟨rfl,hLf2,hI.no hq.symm⟩,hW,hF.sub (by simp)⟩
section
variable (bb:Nat)(hb16:bb<16)
include hb16
theorem ll31:T3 Tryz.prog (fun a w=>(Below w0.heap.size w0 w)∧Fr 122 [(2,.pointer (some ⟨b2,0,none⟩)),(11,.int .i64 (bb:Int))] a) (sel [1,1,1,1,1,1,0] lkR) (fun a w=>∃(v18:Value),(Below w0.heap.size w0 w∧w.ownsRow w0.heap.size 9 1 v18 (lackG S bb 0).length (cellsOf encSt (lackG S bb 0)))∧Fr 122 [(2,.pointer (some ⟨b2,0,none⟩)),(11,.int .i64 (bb:Int)),(18,v18)] a) No 9 No:=by
 refine T3.leaf ?_;rintro Q JS JX JT K_ hS_ hK hX hE hT hR a w ⟨hW,⟨fr,rfl,q2,q11,_⟩⟩;have HO:=Lib.hid (World.ownsRow_nil w w0.heap.size 9 1);have HW:=Lib.hid hW;have hln:=hl.n;have hsn:=hs.n;obtain⟨p1,c1,rfl⟩:=hs.r.shape;obtain⟨p2,c2,rfl⟩:=hl.r.shape;clear hW hs hl h2;rw [fr_lkR,fe q2,fe q11];clear q2 q11;conv=>arg 2;whnf
 go_wp2_with fail
 refine Met.intro (hS_ _ _ ?_);exact⟨_,⟨HW.out,HO.out⟩,Fr.r rfl rfl⟩
theorem ll32 (v18:Value):T3 Tryz.prog (fun a w=>(Below w0.heap.size w0 w∧w.ownsRow w0.heap.size 9 1 v18 (lackG S bb 0).length (cellsOf encSt (lackG S bb 0)))∧Fr 122 [(2,.pointer (some ⟨b2,0,none⟩)),(11,.int .i64 (bb:Int)),(18,v18)] a) (sel [1,1,1,1,1,1,1,0,0] lkR) (fun a w=>(0≤(0:Int)∧(0:Int)≤S.length)∧∃(v18:Value),(Below w0.heap.size w0 w∧w.ownsRow w0.heap.size 9 1 v18 (lackG S bb (0:Int).toNat).length (cellsOf encSt (lackG S bb (0:Int).toNat)))∧Fr 122 [(2,.pointer (some ⟨b2,0,none⟩)),(11,.int .i64 (bb:Int)),(18,v18),(103,.int .i64 S.length),(104,.int .i64 0)] a) No 9 No:=by
 refine T3.leaf ?_;rintro Q JS JX JT K_ hS_ hK hX hE hT hR a w ⟨hW,⟨fr,rfl,q2,q11,q18,_⟩⟩;have cb2:=(hW.1.cell (p:=⟨b2,0,none⟩) (World.block_lt_of_cell? w0 _ h2)).trans h2;obtain⟨q4,d4,rfl⟩:=(Row.of_owns hW.2).shape;have HW:=Lib.hid hW;have hln:=hl.n;have hsn:=hs.n;obtain⟨p1,c1,rfl⟩:=hs.r.shape;obtain⟨p2,c2,rfl⟩:=hl.r.shape;clear hW hs hl h2;rw [fr_lkR,fe q2,fe q11,fe q18];clear q2 q11 q18;conv=>arg 2;whnf
 go_wp2_with fail
 refine Met.intro (hS_ _ _ ?_);exact⟨⟨by omega,by omega⟩,_,HW.out,Fr.r rfl rfl⟩
section
variable (v18:Value)(k:Nat)(hk:k<S.length)
include v18 hk
theorem ll34:T3 Tryz.prog (fun a w=>(Below w0.heap.size w0 w∧w.ownsRow w0.heap.size 9 1 v18 (lackG S bb k).length (cellsOf encSt (lackG S bb k)))∧Fr 122 [(2,.pointer (some ⟨b2,0,none⟩)),(11,.int .i64 (bb:Int)),(18,v18),(103,.int .i64 S.length),(104,.int .i64 (k:Int))] a) (sel [1,1,1,1,1,1,1,0,1,4,4,1,1,0,4,0] lkR) (fun a w=>(Below w0.heap.size w0 w∧w.ownsRow w0.heap.size 9 1 v18 (lackG S bb k).length (cellsOf encSt (lackG S bb k)))∧Fr 122 [(2,.pointer (some ⟨b2,0,none⟩)),(11,.int .i64 (bb:Int)),(18,v18),(19,.int .i64 (k:Int)),(103,.int .i64 S.length),(104,.int .i64 (k:Int))] a) No 9 No:=by
 refine T3.leaf ?_;rintro Q JS JX JT K_ hS_ hK hX hE hT hR a w ⟨hW,⟨fr,rfl,q2,q11,q18,q103,q104,_⟩⟩;obtain⟨q4,d4,rfl⟩:=(Row.of_owns hW.2).shape;have HW:=Lib.hid hW;have hln:=hl.n;have hsn:=hs.n;obtain⟨p1,c1,rfl⟩:=hs.r.shape;obtain⟨p2,c2,rfl⟩:=hl.r.shape;clear hW hs hl h2;rw [fr_lkR,fe q2,fe q11,fe q18,fe q103,fe q104];clear q2 q11 q18 q103 q104;conv=>arg 2;whnf
 go_wp2_with fail
 refine Met.intro (hS_ _ _ ?_);exact⟨HW.out,Fr.r rfl rfl⟩
theorem ll35:T3 Tryz.prog (fun a w=>(Below w0.heap.size w0 w∧w.ownsRow w0.heap.size 9 1 v18 (lackG S bb k).length (cellsOf encSt (lackG S bb k)))∧Fr 122 [(2,.pointer (some ⟨b2,0,none⟩)),(11,.int .i64 (bb:Int)),(18,v18),(19,.int .i64 (k:Int)),(103,.int .i64 S.length),(104,.int .i64 (k:Int))] a) (sel [1,1,1,1,1,1,1,0,1,4,4,1,1,0,4,1,0] lkR) (fun a w=>∃q,Fr 122 ((111,.bool q)::[(2,.pointer (some ⟨b2,0,none⟩)),(11,.int .i64 (bb:Int)),(18,v18),(19,.int .i64 (k:Int)),(103,.int .i64 S.length),(104,.int .i64 (k:Int))]) a∧((q=!bb.testBit k)∧Below w0.heap.size w0 w∧w.ownsRow w0.heap.size 9 1 v18 (lackG S bb k).length (cellsOf encSt (lackG S bb k)))) No 9 No:=by
 refine T3.leaf ?_;rintro Q JS JX JT K_ hS_ hK hX hE hT hR a w ⟨hW,⟨fr,rfl,q2,q11,q18,q19,q103,q104,_⟩⟩;have hbz:=bit_z bb hb16 k (by omega);obtain⟨q4,d4,rfl⟩:=(Row.of_owns hW.2).shape;have HW:=Lib.hid hW;have hln:=hl.n;have hsn:=hs.n;obtain⟨p1,c1,rfl⟩:=hs.r.shape;obtain⟨p2,c2,rfl⟩:=hl.r.shape;clear hW hs hl h2;have hk4:k<4:=by omega
 cases hbt:bb.testBit k
 ·have hbf:=hbz.2 hbt;have HQ:=Lib.hid (show true=!bb.testBit k by rw [hbt];rfl);clear hbt hbz;rw [fr_lkR,fe q2,fe q11,fe q18,fe q19,fe q103,fe q104];clear q2 q11 q18 q19 q103 q104;conv=>arg 2;whnf
  go_wp2_with fail
  refine Met.intro (hS_ _ _ ?_);exact⟨_,Fr.r rfl rfl,HQ.out,HW.out⟩
 ·have hbf:¬bits BinOp.and IntKind.i64 ((bb:Int) / 2 ^ k) 1=0:=fun e=>by have:=hbz.1 e;rw [hbt]at this;cases this
  have HQ:=Lib.hid (show false=!bb.testBit k by rw [hbt];rfl);have hbf2:(bits BinOp.and IntKind.i64 ((bb:Int) / 2 ^ k) 1==0)=false:=by simpa using hbf
  clear hbt hbz;rw [fr_lkR,fe q2,fe q11,fe q18,fe q19,fe q103,fe q104];clear q2 q11 q18 q19 q103 q104;conv=>arg 2;whnf
  go_wp2_with fail
  refine Met.intro (hS_ _ _ ?_);exact⟨_,Fr.r rfl rfl,HQ.out,HW.out⟩
theorem ll36 (hbk:bb.testBit k=false):T3 Tryz.prog (fun a w=>(Below w0.heap.size w0 w∧w.ownsRow w0.heap.size 9 1 v18 (lackG S bb k).length (cellsOf encSt (lackG S bb k)))∧Fr 122 [(2,.pointer (some ⟨b2,0,none⟩)),(11,.int .i64 (bb:Int)),(18,v18),(19,.int .i64 (k:Int)),(103,.int .i64 S.length),(104,.int .i64 (k:Int))] a) (sel [1,1,1,1,1,1,1,0,1,4,4,1,1,0,4,1,1,2] lkR) (fun a w=>∃(v':Value),(Below w0.heap.size w0 w∧w.ownsRow w0.heap.size 9 1 v' (lackG S bb (k+1)).length (cellsOf encSt (lackG S bb (k+1))))∧Fr 122 [(2,.pointer (some ⟨b2,0,none⟩)),(11,.int .i64 (bb:Int)),(18,v'),(103,.int .i64 S.length),(104,.int .i64 (k:Int))] a) No 9 No:=by
 refine T3.leaf ?_;rintro Q JS JX JT K_ hS_ hK hX hE hT hR a w ⟨hW,⟨fr,rfl,q2,q11,q18,q19,q103,q104,_⟩⟩;have cb2:=(hW.1.cell (p:=⟨b2,0,none⟩) (World.block_lt_of_cell? w0 _ h2)).trans h2;have hE1:=el_stJ;have hsz:=hW.1.size;have hgl:=lackG_le S bb k;have hsd:=hs.below hW.1;have hRs:=hsd.r;have hsn:=hs.n;obtain⟨p1,c1,e1⟩:=hs.r.shape;obtain⟨bz,off,e2,_,_,hcs⟩:=Row.nonnil (by rw [←e1];exact hRs) (by omega);have t0:=Row.elAt encSl_length hcs (k:=(k:Int)) (by omega) (by omega) 0 _ (by decide) rfl;rw [Int.toNat_natCast,Nat.add_zero]at t0;subst e2;subst e1;have hown:=hW.2.alloc (.cells #[.string (geta S (k:Int)).key] 9);have hbs:w0.heap.size≤(w.alloc (.cells #[.string (geta S (k:Int)).key] 9)).heap.size:=by simp;omega
 have HA:=Lib.hid (fun v' w' (ho:w'.ownsRow w0.heap.size 9 1 v' ((lackG S bb k).length+1) (cellsOf encSt (lackG S bb k)++[.string (geta S (k:Int)).key])) (g:(w.alloc (.cells #[.string (geta S (k:Int)).key] 9)).grownBy w' v18.ownBlock) =>
  show Below w0.heap.size w0 w'∧w'.ownsRow w0.heap.size 9 1 v' (lackG S bb (k+1)).length (cellsOf encSt (lackG S bb (k+1)))from
   ⟨below_grown (hW.1.alloc hW.1.size _) hown g (Nat.le_refl _) hbs,by rw [show lackG S bb (k+1)=lackG S bb k++[(geta S (k:Int)).key]by rw [lackG,if_neg (by rw [hbk];decide)],cellsOf_snoc,List.length_append];exact ho⟩)
 obtain⟨q4,d4,rfl⟩:=(Row.of_owns hW.2).shape;obtain⟨p2,c2,rfl⟩:=hl.r.shape;clear hW hs hl h2 hsd hRs hcs;generalize (geta S (k:Int)).key=x at *;rw [fr_lkR,fe q2,fe q11,fe q18,fe q19,fe q103,fe q104];clear q2 q11 q18 q19 q103 q104;conv=>arg 2;whnf
 go_wp2_with (at_builtin;refine app_law rfl _ _ _ rfl hE1 hown rfl [.string x] rfl rfl (cells_new w #[_] _) (by simp [Value.oneCell']) (by omega) hbs ?_;intro v' w3 hown3 hgr)
 refine Met.intro (hS_ _ _ ?_);exact⟨_,HA.out _ _ hown3 hgr,Fr.r rfl rfl⟩
end
theorem llz (k:Int):T3 Tryz.prog (fun a w=>(0≤k∧k<S.length)∧∃(v18:Value),(Below w0.heap.size w0 w∧w.ownsRow w0.heap.size 9 1 v18 (lackG S bb (k:Int).toNat).length (cellsOf encSt (lackG S bb (k:Int).toNat)))∧Fr 122 [(2,.pointer (some ⟨b2,0,none⟩)),(11,.int .i64 (bb:Int)),(18,v18),(103,.int .i64 S.length),(104,.int .i64 k)] a) (sel [1,1,1,1,1,1,1,0,1,4,4,1,1,0] lkR) (fun a w=>(0≤k∧k<S.length)∧∃(v18:Value),(Below w0.heap.size w0 w∧w.ownsRow w0.heap.size 9 1 v18 (lackG S bb ((k+1):Int).toNat).length (cellsOf encSt (lackG S bb ((k+1):Int).toNat)))∧Fr 122 [(2,.pointer (some ⟨b2,0,none⟩)),(11,.int .i64 (bb:Int)),(18,v18),(103,.int .i64 S.length),(104,.int .i64 k)] a) No 9 No:=by
 refine T3.pure fun hh=>T3.ex fun v18=>?_
 obtain⟨kn,rfl⟩:=Int.eq_ofNat_of_zero_le hh.1;rw [Int.toNat_natCast];refine T3.block (id':=11) (c:=(sel [1,1,1,1,1,1,1,0,1,4,4,1,1,0,4] lkR)) (by decide) ?_;refine T3.sq rfl ((ll34 w0 b2 vs vl S L hs hl h2 hS4 hL6 bb hb16 v18 kn (by omega)).noX) ?_;refine T3.tt rfl (C:=fun q=>(q=!bb.testBit kn)) (W:=fun w=>Below w0.heap.size w0 w∧w.ownsRow w0.heap.size 9 1 v18 (lackG S bb kn).length (cellsOf encSt (lackG S bb kn))) (by decide) ((ll35 w0 b2 vs vl S L hs hl h2 hS4 hL6 bb hb16 v18 kn (by omega)).noX) ?_ (T3.skip ?_)
 ·refine T3.pre (R:=fun a w=>(bb.testBit kn=false)∧(Below w0.heap.size w0 w∧w.ownsRow w0.heap.size 9 1 v18 (lackG S bb kn).length (cellsOf encSt (lackG S bb kn)))∧Fr 122 [(2,.pointer (some ⟨b2,0,none⟩)),(11,.int .i64 (bb:Int)),(18,v18),(19,.int .i64 (kn:Int)),(103,.int .i64 S.length),(104,.int .i64 (kn:Int))] a) (T3.pure fun hq=>((ll36 w0 b2 vs vl S L hs hl h2 hS4 hL6 bb hb16 v18 kn (by omega) hq).noX).post ?_) (fun a w ⟨hF,hq,hW⟩=>⟨by simpa using hq.symm,hW,hF.tail⟩);rintro a w ⟨v2,hW,hF⟩;refine⟨hh,v2,?_,hF.sub (by simp)⟩;rw [show((kn:Int)+1).toNat=kn+1 by omega];exact hW
 ·rintro a w ⟨hq,hW,hF⟩;refine⟨hh,v18,?_,hF.sub (by simp)⟩;rw [show((kn:Int)+1).toNat=kn+1 by omega,show lackG S bb (kn+1)=lackG S bb kn by rw [lackG,if_pos (by simpa using hq.symm),List.append_nil]];exact hW
def llZI (w0:World)(b2:Nat)(vs vl:Value)(S:List SlD)(L:List ScD)(hs:SlH w0 vs S)(hl:ScH w0 vl L)(h2:w0.cell? ⟨b2,0,none⟩=some vs)(hS4:S.length≤4)(hL6:L.length≤6)(bb:Nat)(hb16:bb<16)(k:Int)(a:Act)(w:World):Prop:=(0≤k∧k≤S.length)∧∃(v18:Value),(Below w0.heap.size w0 w∧w.ownsRow w0.heap.size 9 1 v18 (lackG S bb (k:Int).toNat).length (cellsOf encSt (lackG S bb (k:Int).toNat)))∧Fr 122 [(2,.pointer (some ⟨b2,0,none⟩)),(11,.int .i64 (bb:Int)),(18,v18),(103,.int .i64 S.length),(104,.int .i64 k)] a
theorem llZt (k:Int):T3 Tryz.prog (fun a w=>llZI w0 b2 vs vl S L hs hl h2 hS4 hL6 bb hb16 k a w) (sel [1,1,1,1,1,1,1,0,1,4,4,0] lkR) (fun a w=>∃q,Fr 122 ((105,.bool q)::[(104,.int .i64 k)]) a∧((q=true↔k<S.length)∧llZI w0 b2 vs vl S L hs hl h2 hS4 hL6 bb hb16 k a w)) No 9 No:=by
 refine T3.leaf ?_;rintro Q JS JX JT K_ hS_ hK hX hE hT hR a w ⟨hk,v18,hW,⟨fr,rfl,q2,q11,q18,q103,q104,_⟩⟩;have hsn:=hs.n;rw [fr_lkR,fe q2,fe q11,fe q18,fe q103,fe q104];clear q2 q11 q18 q103 q104;conv=>arg 2;whnf
 by_cases hlt:k<S.length
 ·go_wp2_with fail
  refine Met.intro (hS_ _ _ ?_);exact⟨true,Fr.r rfl rfl,⟨fun _=>hlt,fun _=>rfl⟩,hk,v18,hW,Fr.r rfl rfl⟩
 ·have hpb:decide (k<(S.length:Int))=false:=by simp;omega
  go_wp2_with fail
  refine Met.intro (hS_ _ _ ?_);exact⟨false,Fr.r rfl rfl,⟨(fun h=>by cases h),fun h=>absurd h (by omega)⟩,hk,v18,hW,Fr.r rfl rfl⟩
theorem llZn (k:Int):T3 Tryz.prog (fun a w=>(0≤k∧k<S.length)∧∃(v18:Value),(Below w0.heap.size w0 w∧w.ownsRow w0.heap.size 9 1 v18 (lackG S bb ((k+1):Int).toNat).length (cellsOf encSt (lackG S bb ((k+1):Int).toNat)))∧Fr 122 [(2,.pointer (some ⟨b2,0,none⟩)),(11,.int .i64 (bb:Int)),(18,v18),(103,.int .i64 S.length),(104,.int .i64 k)] a) (sel [1,1,1,1,1,1,1,0,1,4,4,1,1,1] lkR) (fun a w=>llZI w0 b2 vs vl S L hs hl h2 hS4 hL6 bb hb16 (k+1) a w) No 9 No:=by
 refine T3.leaf ?_;rintro Q JS JX JT K_ hS_ hK hX hE hT hR a w ⟨hk,v18,hW,⟨fr,rfl,q2,q11,q18,q103,q104,_⟩⟩;obtain⟨hk0,hk1⟩:=hk;have hsn:=hs.n;rw [fr_lkR,fe q2,fe q11,fe q18,fe q103,fe q104];clear q2 q11 q18 q103 q104;conv=>arg 2;whnf
 go_wp2_with fail
 refine Met.intro (hS_ _ _ ?_);exact⟨⟨by omega,by omega⟩,v18,hW,Fr.r rfl rfl⟩
theorem llZloop:T3 Tryz.prog (fun a w=>llZI w0 b2 vs vl S L hs hl h2 hS4 hL6 bb hb16 0 a w) (sel [1,1,1,1,1,1,1,0,1] lkR) (fun a w=>∃(v18:Value),(Below w0.heap.size w0 w∧w.ownsRow w0.heap.size 9 1 v18 (lackG S bb S.length).length (cellsOf encSt (lackG S bb S.length)))∧Fr 122 [(18,v18)] a) No 9 No :=
 T3.range (I:=llZI w0 b2 vs vl S L hs hl h2 hS4 hL6 bb hb16) rfl (by decide) (llZt w0 b2 vs vl S L hs hl h2 hS4 hL6 bb hb16) (llZn w0 b2 vs vl S L hs hl h2 hS4 hL6 bb hb16) (fun _ _ _ h=>h.1) (fun k hk=>T3.pre (llz w0 b2 vs vl S L hs hl h2 hS4 hL6 bb hb16 k) (fun a w q=>⟨hk,q.2⟩)) (fun a w hI=>by
  obtain⟨hk,hI⟩:=hI;obtain⟨v18,hW,hF⟩:=hI;rw [Int.toNat_natCast]at hW;exact⟨v18,hW,hF.sub (by simp)⟩)
theorem ll38 (v18:Value):T3 Tryz.prog (fun a w=>(Below w0.heap.size w0 w∧w.ownsRow w0.heap.size 9 1 v18 (lackG S bb S.length).length (cellsOf encSt (lackG S bb S.length)))∧Fr 122 [(18,v18)] a) (sel [1,1,1,1,1,1,1,1,0] lkR) (fun a w=>(Below w0.heap.size w0 w∧w.ownsRow w0.heap.size 9 1 v18 (lackG S bb S.length).length (cellsOf encSt (lackG S bb S.length)))∧Fr 122 [(4,v18)] a) No 9 No:=by
 refine T3.leaf ?_;rintro Q JS JX JT K_ hS_ hK hX hE hT hR a w ⟨hW,⟨fr,rfl,q18,_⟩⟩;obtain⟨q4,d4,rfl⟩:=(Row.of_owns hW.2).shape;have HW:=Lib.hid hW;have hln:=hl.n;have hsn:=hs.n;obtain⟨p1,c1,rfl⟩:=hs.r.shape;obtain⟨p2,c2,rfl⟩:=hl.r.shape;clear hW hs hl h2;rw [fr_lkR,fe q18];clear q18;conv=>arg 2;whnf
 go_wp2_with fail
 refine Met.intro (hS_ _ _ ?_);exact⟨HW.out,Fr.of _ rfl ⟨rfl,trivial⟩⟩
end
theorem ll_all:T3 Tryz.prog (fun a w=>(Below w0.heap.size w0 w)∧Fr 122 [(1,vl),(2,.pointer (some ⟨b2,0,none⟩))] a) (sel [1] lkR) No No 9 (fun a w=>∃(v18:Value) (bb:Nat),((MlS S L L.length) bb∧∀m,(MlS S L L.length) m→keyM S.length m≤keyM S.length bb)∧(Below w0.heap.size w0 w∧w.ownsRow w0.heap.size 9 1 v18 (lackG S bb S.length).length (cellsOf encSt (lackG S bb S.length)))∧Fr 122 [(4,v18)] a):=by
 refine T3.sq rfl (T3.noT (lk1 w0 b2 vs vl S L hs hl h2 hS4 hL6)) ?_;refine T3.ex fun B0=>?_
 refine T3.sq rfl (T3.noT (T3.seq (s:=(sel [1,1,0,0] lkR)) (c:=(sel [1,1,0,1] lkR)) (lk2 w0 b2 vs vl S L hs hl h2 hS4 hL6 B0) (lkAloop w0 b2 vs vl S L hs hl h2 hS4 hL6))) ?_;refine T3.ex fun B=>T3.ex fun n=>T3.pure fun _=>?_
 refine T3.sq rfl ((T3.noT (ll18 w0 b2 vs vl S L hs hl h2 hS4 hL6 B n)).pre fun a w q=>⟨q.1,q.2.sub (by simp)⟩) ?_;refine T3.sq rfl (T3.noT (ll19 w0 b2 vs vl S L hs hl h2 hS4 hL6 B n)) ?_;refine T3.sq rfl (T3.noT (T3.seq (s:=(sel [1,1,1,1,1,0,0] lkR)) (c:=(sel [1,1,1,1,1,0,1] lkR)) (ll20 w0 b2 vs vl S L hs hl h2 hS4 hL6 B n) (T3.ex fun r=>llM w0 b2 vs vl S L hs hl h2 hS4 hL6 B n r))) ?_;refine T3.ex fun bb=>T3.pure fun hbb=>?_
 have hb16:bb<16:=rchL_16 hS4 hbb.1;refine T3.sq rfl (T3.noT (ll31 w0 b2 vs vl S L hs hl h2 hS4 hL6 bb hb16)) ?_;refine T3.ex fun v0=>?_
 refine T3.sq rfl (T3.noT (T3.seq (s:=(sel [1,1,1,1,1,1,1,0,0] lkR)) (c:=(sel [1,1,1,1,1,1,1,0,1] lkR)) (ll32 w0 b2 vs vl S L hs hl h2 hS4 hL6 bb hb16 v0) (llZloop w0 b2 vs vl S L hs hl h2 hS4 hL6 bb hb16))) ?_;refine T3.ex fun v18=>?_
 exact T3.sr rfl (T3.noT (ll38 w0 b2 vs vl S L hs hl h2 hS4 hL6 bb hb16 v18)) (T3.ret fun a w q=>⟨v18,bb,hbb,q⟩)
end
section
variable (we:World)(vs vl:Value)(S:List SlD)(L:List ScD)(hs:SlH we vs S)(hl:ScH we vl L)(hS4:S.length≤4)(hL6:L.length≤6)
include hs hl hS4 hL6
theorem ll0:T3 Tryz.prog (fun a w=>(IsW we w)∧Fr 122 [(0,vs),(1,vl)] a) (sel [0] lkR) (fun a w=>(IsW (we.alloc (.cells #[vs] 26)) w)∧Fr 122 [(1,vl),(2,.pointer (some ⟨we.heap.size,0,none⟩))] a) No 9 No:=by
 refine T3.leaf ?_;rintro Q JS JX JT K_ hS_ hK hX hE hT hR a w ⟨hW,⟨fr,rfl,q0,q1,_⟩⟩;obtain rfl:w=we:=hW;obtain⟨p1,c1,rfl⟩:=hs.r.shape;obtain⟨p2,c2,rfl⟩:=hl.r.shape;clear hs hl;rw [fr_lkR,fe q0,fe q1];clear q0 q1;conv=>arg 2;whnf
 go_wp2_with fail
 refine Met.intro (hS_ _ _ ?_);exact⟨rfl,Fr.r rfl rfl⟩
/-- LackingOf of the reference. -/
theorem lackOf_ref:Calls Tryz.prog 33 #[vs,vl] we fun e w=>∃(v4:Value) (bb:Nat),e=.returned v4∧((MlS S L L.length) bb∧∀m,(MlS S L L.length) m→keyM S.length m≤keyM S.length bb)∧w.ownsRow we.heap.size 9 1 v4 (lackG S bb S.length).length (cellsOf encSt (lackG S bb S.length))∧Below we.heap.size we w:=by
 have ha:=(Below.refl we.heap.size we).alloc (Nat.le_refl _) (.cells #[vs] 26);have hsz:we.heap.size≤(we.alloc (.cells #[vs] 26)).heap.size:=ha.size;have hall:T3 Tryz.prog (fun a w=>IsW we w∧Fr 122 [(0,vs),(1,vl)] a) lkR No No 9 _ :=
  T3.seq (s:=(sel [0] lkR)) (c:=(sel [1] lkR)) (T3.noT (ll0 we vs vl S L hs hl hS4 hL6)) ((ll_all (we.alloc (.cells #[vs] 26)) we.heap.size vs vl S L (hs.below ha) (hl.below ha) (cells_new we #[vs] 26 0 _ rfl) hS4 hL6).pre fun a w q=>⟨by rw [show w=_ from q.1];exact Below.refl _ _,q.2⟩)
 go_enter Tryz.func33,Tryz.ntmps33
 refine T3.done (s:=lkR) hall ⟨rfl,Fr.r rfl rfl⟩ ?_;rintro a w ⟨v4,bb,hbb,⟨hb,ho⟩,fr,rfl,q4,_⟩;rw [fr_lkR,fe q4];exact bodyPost_ret (v:=v4) (by simp [results,Tryz.results33,go_sem]) rfl ⟨v4,bb,rfl,hbb,owns_mono ho hsz,ha.trans (hb.mono hsz)⟩
end
end Go.Proofs.YtnmdpphddimfbaaGreat
