/-
  Contracts and lemmas towards the statement, of several parts; each part says ahead of it what it holds and under which conditions.
-/
import Derived.Test.YtnmdpphddimfbaaGreatMg9
import Derived.Test.YtnmdpphddimfbaaGreatMg10
import Derived.Laws.StructEq
import Derived.Lib.SliceRun
import Derived.Test.YtnmdpphddimfbaaGreatMg1
import Derived.Test.YtnmdpphddimfbaaGreatMg2
set_option maxRecDepth 100000
set_option maxHeartbeats 1000000
set_option linter.unusedSectionVars false
/-
  Line-ups: fills that the stream hands out, whole. Conditions: the bounds that each theorem names.
-/
set_option linter.unusedVariables false
namespace Go.Proofs.YtnmdpphddimfbaaGreat
open Go.RowKit Go.Bw Go.Maps
theorem cells_putFl (s p:ByteArray):∀(L:List FlD) (i:Nat),i<L.length →
  ((cellsOf encFl L).set (i*2) (.string s)).set (i*2+1) (.string p)=cellsOf encFl (L.modify i fun _=>⟨s,p⟩)
 | [],i,h=>by simp at h
 | x::L,0,h=>by rw [cellsOf_cons];simp [encFl,cellsOf_cons]
 | x::L,i+1,h=>by
  have ih:=cells_putFl s p L i (by simpa using h);rw [show(i+1)*2=i*2+2 by omega,show i*2+2+1=i*2+1+2 by omega,cellsOf_cons];simp only [encFl,List.cons_append,List.nil_append,List.set_cons_succ,List.modify_succ_cons,cellsOf_cons];rw [ih]
theorem FlO.put {B b n c g:Nat}{w0 w:World}{S:List FlD}(h:FlO B b w0 (.slice (some ⟨g,0,none⟩) n c) S w)(hn:n=S.length)(i:Nat)(hi:i<S.length)(s p:ByteArray)(hs:Sm s)(hp:Sm p):
  FlO B b w0 (.slice (some ⟨g,0,none⟩) n c) (S.modify i fun _=>⟨s,p⟩) ((w.setCell ⟨g,i*2,none⟩ (.string s)).setCell ⟨g,i*2+1,none⟩ (.string p)):=by
 subst hn;have hlt:=(h.o.lt g rfl).1;have hB:=h.hB;have o1:=owns_setC h.o (i*2) (by omega) (.string s);have o2:=owns_setC o1 (i*2+1) (by omega) (.string p);rw [cells_putFl s p S i hi]at o2;refine⟨(h.d.set _ hlt (by omega)).set _ hlt (by omega),h.hB,by rw [List.length_modify];exact o2,fun x hx=>?_⟩;rcases mem_mod hx with hx|⟨y,hy,rfl⟩
 ·exact h.z x hx
 ·exact⟨hs,hp⟩
theorem smFa {x s:ByteArray}(hx:Sm x)(h:s∈[x,x,(⟨#[122,122]⟩:ByteArray)]):Sm s:=by
 simp at h;rcases h with rfl|rfl
 ·exact hx
 ·decide
theorem smFb {s:ByteArray}(h:s∈[(⟨#[97,110,110]⟩:ByteArray),⟨#[98,101,97]⟩,⟨#[122,101,100]⟩,⟨#[]⟩]):Sm s:=by
 simp at h;rcases h with rfl|rfl|rfl|rfl <;> decide
section
variable (B b:Nat)(w0:World)
theorem fl17 (hb:b≤20000)(v7:Value)(Fs:List FlD)(hn:Fs.length≤4):T3 Tryz.prog (fun a w=>(FlO B (b+48) w0 v7 Fs w)∧Fr 105 [(0,.pointer (some ⟨B,0,none⟩)),(7,v7)] a) (sel [1,1,1,1,0,0] fjM) (fun a w=>∃q,Fr 105 ((77,.bool q)::[(0,.pointer (some ⟨B,0,none⟩)),(7,v7)]) a∧((q=true→0<Fs.length)∧FlO B (b+49) w0 v7 Fs w)) No 9 No:=by
 refine T3.leaf ?_;rintro Q JS JX JT K hS hK hX hE hT hR a w ⟨hW,⟨fr,rfl,q0,q7,_⟩⟩;obtain⟨p3,c3,hv3⟩:=(Row.of_owns hW.o).shape;subst hv3
 by_cases hp:(0:Int)<Fs.length
 ·have hpb:decide ((0:Int)<Fs.length)=true:=by simp;omega
  rw [fr_fjM,fe q0,fe q7];clear q0 q7;conv=>arg 2;whnf
  go_wp2_with fail
  refine(flip_d B (b+48) _ w hW.d.str rfl (by omega)).mono ?_;rintro e w1 ⟨q,rfl,hd⟩;have HW:=Lib.hid (hW.drawn hd);clear hd hW;go_wp2_with fail
  refine Met.intro (hS _ _ ?_);exact⟨_,Fr.of _ rfl ⟨rfl,rfl,rfl,trivial⟩,fun _=>by omega,HW.out⟩
 ·have hpb:decide ((0:Int)<Fs.length)=false:=decide_eq_false hp;have HW:=Lib.hid (hW.mono (Nat.add_le_add_left (by decide:48≤49) b));clear hW;rw [fr_fjM,fe q0,fe q7];clear q0 q7;conv=>arg 2;whnf
  go_wp2_with fail
  refine Met.intro (hS _ _ ?_);exact⟨_,Fr.of _ rfl ⟨rfl,rfl,rfl,trivial⟩,(fun h=>by cases h),HW.out⟩
theorem fl18 (hb:b≤20000)(v7:Value)(Fs:List FlD)(hn:Fs.length≤4)(hpos:0<Fs.length)(g:Nat)(c:Nat):T3 Tryz.prog (fun a w=>(FlO B (b+49) w0 (.slice (some ⟨g,0,none⟩) Fs.length c) Fs w)∧Fr 105 [(0,.pointer (some ⟨B,0,none⟩)),(7,.slice (some ⟨g,0,none⟩) Fs.length c)] a) (sel [1,1,1,1,0,1,2,0] fjM) (fun a w=>∃(i:Int),(0≤i∧i<Fs.length)∧(FlO B (b+50) w0 (.slice (some ⟨g,0,none⟩) Fs.length c) Fs w)∧Fr 105 [(0,.pointer (some ⟨B,0,none⟩)),(7,.slice (some ⟨g,0,none⟩) Fs.length c),(15,.pointer (some ⟨g,i.toNat*2,none⟩))] a) No 9 No:=by
 refine T3.leaf ?_;rintro Q JS JX JT K hS hK hX hE hT hR a w ⟨hW,⟨fr,rfl,q0,q7,_⟩⟩;rw [fr_fjM,fe q0,fe q7];clear q0 q7;conv=>arg 2;whnf
 go_wp2_with fail
 refine(next_d B (b+49) Fs.length w hW.d.str (by omega) (by omega) (by omega)).mono ?_;rintro e w1 ⟨i,rfl,hi0,hi1,hd⟩;have HW:=Lib.hid (hW.drawn hd);clear hd hW;go_wp2_with fail
 refine Met.intro (hS _ _ ?_);exact⟨i,⟨hi0,hi1⟩,HW.out,Fr.of _ rfl ⟨rfl,rfl,rfl,trivial⟩⟩
theorem fl19 (hb:b≤20000)(v7:Value)(Fs:List FlD)(hn:Fs.length≤4)(hpos:0<Fs.length)(g:Nat)(c:Nat)(i:Int)(hi:0≤i∧i<Fs.length):T3 Tryz.prog (fun a w=>(FlO B (b+50) w0 (.slice (some ⟨g,0,none⟩) Fs.length c) Fs w)∧Fr 105 [(0,.pointer (some ⟨B,0,none⟩)),(7,.slice (some ⟨g,0,none⟩) Fs.length c),(15,.pointer (some ⟨g,i.toNat*2,none⟩))] a) (sel [1,1,1,1,0,1,2,1] fjM) (fun a w=>∃(Fs':List FlD),(Fs'.length=Fs.length)∧(FlO B (b+52) w0 (.slice (some ⟨g,0,none⟩) Fs.length c) Fs' w)∧Fr 105 [(7,.slice (some ⟨g,0,none⟩) Fs.length c)] a) No 9 No:=by
 refine T3.leafN ?_;rintro JS hS a w ⟨hW,⟨fr,rfl,q0,q7,q15,_⟩⟩;obtain⟨hi0,hi1⟩:=hi;obtain⟨g',c',hv3,_,_,hn3,hm3⟩:=owns_shape hW.o (by omega);simp only [Value.slice.injEq,Option.some.injEq,Addr.mk.injEq]at hv3;obtain⟨⟨rfl,_⟩,_,rfl⟩:=hv3;simp only [maxLen]at hm3;obtain⟨bz,off,hp,_,_,hcell⟩:=Row.nonnil ((Row.of_owns hW.o).mono (Nat.zero_le _)) (by omega);simp only [Option.some.injEq,Addr.mk.injEq]at hp;obtain⟨rfl,rfl,_⟩:=hp;have t0:=Row.elAt encFl_length hcell hi0 (by omega) 0 _ (by decide) rfl;have t1:=Row.elAt encFl_length hcell hi0 (by omega) 1 _ (by decide) rfl;rw [Nat.zero_add]at t0 t1;rw [Nat.add_zero]at t0;have hz:=hW.z _ (geta_mem hi0 (show i<Fs.length by omega));clear hcell;generalize geta Fs i=X at *;have D0:Drawn B w w.drew (b+50):=(Drawn.refl hW.d.str).drewN 1;have hlB:=hW.d.str.lt;have hgl:=(hW.o.lt g rfl).2;have hgB:g≠B:=by have:=(hW.o.lt g rfl).1;have:=hW.hB;omega
 clear hn;rw [fr_fjM,fe q0,fe q7,fe q15];clear q0 q7 q15;conv=>arg 2;whnf
 refine wp_region_alt (fun _=>True) (.calm 0 (.calm 1 (.calm 2 (.calm 3 (.calm 4 (.calm 5 (.calm 7 (.calm 8 (.calm 9 (.calm 13 (.alt 6 (.alt 10 (.alt 11 (.alt 12 (.one 14 (.one 15 (.calm 16 (.calm 17 (.one 18 (.calm 19 (.calm 20 (.one 21 .done)))))))) (.one 14 (.one 12 (.one 15 (.calm 16 (.calm 17 (.one 18 (.calm 19 (.calm 20 (.one 21 .done)))))))))) (.one 14 (.one 11 (.one 12 (.one 15 (.calm 16 (.calm 17 (.one 18 (.calm 19 (.calm 20 (.one 21 .done))))))))))) (.one 14 (.one 10 (.one 11 (.one 12 (.one 15 (.calm 16 (.calm 17 (.one 18 (.calm 19 (.calm 20 (.one 21 .done)))))))))))) (.alt 10 (.alt 6 (.alt 11 (.alt 12 (.one 14 (.one 15 (.calm 16 (.calm 17 (.one 18 (.calm 19 (.calm 20 (.one 21 .done)))))))) (.one 14 (.one 12 (.one 15 (.calm 16 (.calm 17 (.one 18 (.calm 19 (.calm 20 (.one 21 .done)))))))))) (.one 14 (.one 11 (.one 12 (.one 15 (.calm 16 (.calm 17 (.one 18 (.calm 19 (.calm 20 (.one 21 .done))))))))))) (.one 14 (.one 6 (.one 11 (.one 12 (.one 15 (.calm 16 (.calm 17 (.one 18 (.calm 19 (.calm 20 (.one 21 .done)))))))))))) (.one 14 (.alt 6 (.one 10 (.one 11 (.one 12 (.one 15 (.calm 16 (.calm 17 (.one 18 (.calm 19 (.calm 20 (.one 21 .done)))))))))) (.one 10 (.one 6 (.one 11 (.one 12 (.one 15 (.calm 16 (.calm 17 (.one 18 (.calm 19 (.calm 20 (.one 21 .done))))))))))))))))))))))))) (by kernel_rfl) (by kernel_rfl) (by intro c a d v w h;cases d <;> exact h) (trivial) ?_;generalize w.drew=x0 at *;refine alt_hide (w₁:=x0) (fun W hH hC hA_ hE_=>?_);refine hH.out _ _ _ _ _ rfl (fun K hK=>?_);go_simp;refine hK _ ?_;clear hK K;refine hH.out _ _ _ _ _ rfl (fun K hK=>?_);go_simp;refine hK _ ?_;clear hK K;refine hH.out _ _ _ _ _ rfl (fun K hK=>?_);go_simp;refine hK _ ?_;clear hK K;refine hH.out _ _ _ _ _ rfl (fun K hK=>?_);go_simp;refine hK _ ?_;clear hK K;refine hH.out _ _ _ _ _ rfl (fun K hK=>?_);go_simp;refine hK _ ?_;clear hK K;refine hH.out _ _ _ _ _ rfl (fun K hK=>?_);go_simp;refine hK _ ?_;clear hK K;refine hH.out _ _ _ _ _ rfl (fun K hK=>?_);go_simp;refine hK _ ?_;clear hK K;refine hH.out _ _ _ _ _ rfl (fun K hK=>?_);go_simp;refine hK _ ?_;clear hK K;refine hH.out _ _ _ _ _ rfl (fun K hK=>?_);go_simp;refine hK _ ?_;clear hK K;refine hH.out _ _ _ _ _ rfl (fun K hK=>?_);go_simp;refine hK _ ?_;clear hK K;refine hA_.out _ _ _ _ _ ?_ ?_
 ·refine hC.out _ _ _ _ _ rfl (by first|rfl|go_simp) (fun K hK=>?_);simp only [bare];have u6:=(World.cell?_of_block (a:=⟨g,i.toNat*2,none⟩) (D0.gr.block g hgl (by simpa using hgB))).trans t0;go_wp2_with fail
  clear u6;refine hK.out _ _ trivial ?_;clear hK K;refine hA_.out _ _ _ _ _ ?_ ?_
  ·refine hC.out _ _ _ _ _ rfl (by first|rfl|go_simp) (fun K hK=>?_);simp only [bare];have u10:=(World.cell?_of_block (a:=⟨g,i.toNat*2,none⟩) (D0.gr.block g hgl (by simpa using hgB))).trans t0;go_wp2_with fail
   clear u10;refine hK.out _ _ trivial ?_;clear hK K;refine hA_.out _ _ _ _ _ ?_ ?_
   ·refine hC.out _ _ _ _ _ rfl (by first|rfl|go_simp) (fun K hK=>?_);simp only [bare];have O11:=owns_lit x0 x0.heap.size 9 #[.string X.sl,.string X.sl,.string ⟨#[122,122]⟩] 3 (by decide) rfl (Nat.le_refl _);have D11:Drawn B w (x0.alloc (.cells #[.string X.sl,.string X.sl,.string ⟨#[122,122]⟩] 9)) (b+50):=D0.alloc _;have H11:RHd 9 B (x0.alloc (.cells #[.string X.sl,.string X.sl,.string ⟨#[122,122]⟩] 9)).heap.size (x0.alloc (.cells #[.string X.sl,.string X.sl,.string ⟨#[122,122]⟩] 9)) 3 (.slice (some ⟨x0.heap.size,0,none⟩) 3 3) (cellsOf encSt [X.sl,X.sl,⟨#[122,122]⟩]):=RHd.of_owns O11 D0.str.lt;have z11:x0.heap.size≤(x0.alloc (.cells #[.string X.sl,.string X.sl,.string ⟨#[122,122]⟩] 9)).heap.size:=by simp
    clear O11;go_wp2_with fail
    generalize x0.alloc (.cells #[.string X.sl,.string X.sl,.string ⟨#[122,122]⟩] 9)=x11 at *;refine hK.out _ _ trivial ?_;clear hK K;refine hA_.out _ _ _ _ _ ?_ ?_
    ·refine hC.out _ _ _ _ _ rfl (by first|rfl|go_simp) (fun K hK=>?_);simp only [bare];go_wp2_with fail
     refine(some_any B (b+50) _ 3 [X.sl,X.sl,⟨#[122,122]⟩] x11 H11.row (by decide) (by decide) (by intro k hk;have:=(H11.lt k hk).1;omega) D11.str (by omega)).mono ?_;rintro e x12 ⟨s12,rfl,hs12,d12⟩;have D12:=D11.trans d12;have z12:=d12.size;have m12:=smFa hz.1 hs12;clear d12 hs12 H11;go_wp2_with fail
     refine hK.out _ _ trivial ?_;clear hK K;refine hC.out _ _ _ _ _ rfl (by first|rfl|go_simp) (fun K hK=>?_);simp only [bare];have O14:=owns_lit x12 x12.heap.size 9 #[.string ⟨#[97,110,110]⟩,.string ⟨#[98,101,97]⟩,.string ⟨#[122,101,100]⟩,.string ⟨#[]⟩] 4 (by decide) rfl (Nat.le_refl _);have D14:Drawn B w (x12.alloc (.cells #[.string ⟨#[97,110,110]⟩,.string ⟨#[98,101,97]⟩,.string ⟨#[122,101,100]⟩,.string ⟨#[]⟩] 9)) (b+51):=D12.alloc _;have H14:RHd 9 B (x12.alloc (.cells #[.string ⟨#[97,110,110]⟩,.string ⟨#[98,101,97]⟩,.string ⟨#[122,101,100]⟩,.string ⟨#[]⟩] 9)).heap.size (x12.alloc (.cells #[.string ⟨#[97,110,110]⟩,.string ⟨#[98,101,97]⟩,.string ⟨#[122,101,100]⟩,.string ⟨#[]⟩] 9)) 4 (.slice (some ⟨x12.heap.size,0,none⟩) 4 4) (cellsOf encSt [⟨#[97,110,110]⟩,⟨#[98,101,97]⟩,⟨#[122,101,100]⟩,⟨#[]⟩]):=RHd.of_owns O14 D12.str.lt;have z14:x12.heap.size≤(x12.alloc (.cells #[.string ⟨#[97,110,110]⟩,.string ⟨#[98,101,97]⟩,.string ⟨#[122,101,100]⟩,.string ⟨#[]⟩] 9)).heap.size:=by simp
     clear O14;go_wp2_with fail
     generalize x12.alloc (.cells #[.string ⟨#[97,110,110]⟩,.string ⟨#[98,101,97]⟩,.string ⟨#[122,101,100]⟩,.string ⟨#[]⟩] 9)=x14 at *;refine hK.out _ _ trivial ?_;clear hK K;refine hC.out _ _ _ _ _ rfl (by first|rfl|go_simp) (fun K hK=>?_);simp only [bare];go_wp2_with fail
     refine(some_any B (b+51) _ 4 [⟨#[97,110,110]⟩,⟨#[98,101,97]⟩,⟨#[122,101,100]⟩,⟨#[]⟩] x14 H14.row (by decide) (by decide) (by intro k hk;have:=(H14.lt k hk).1;omega) D14.str (by omega)).mono ?_;rintro e x15 ⟨s15,rfl,hs15,d15⟩;have D15:=D14.trans d15;have z15:=d15.size;have m15:=smFb hs15;clear d15 hs15 H14;go_wp2_with fail
     refine hK.out _ _ trivial ?_;clear hK K;refine hH.out _ _ _ _ _ rfl (fun K hK=>?_);go_simp;refine hK _ ?_;clear hK K;refine hH.out _ _ _ _ _ rfl (fun K hK=>?_);go_simp;refine hK _ ?_;clear hK K;refine hC.out _ _ _ _ _ rfl (by first|rfl|go_simp) (fun K hK=>?_);simp only [bare];have h15:=hW.drawn D15;have u18:=(World.cell?_of_block (a:=⟨g,i.toNat*2,none⟩) (D15.gr.block g hgl (by simpa using hgB))).trans t0;have f18:=owns_frozenC h15.o (i.toNat*2);have u21:=(World.cell?_of_block (a:=⟨g,i.toNat*2+1,none⟩) (D15.gr.block g hgl (by simpa using hgB))).trans t1;have u21:=(World.cell?_setCell_other x15 ⟨g,i.toNat*2,none⟩ ⟨g,i.toNat*2+1,none⟩ (.string s12) (by simp)).trans u21;have f21:=owns_frozenC (owns_setC h15.o (i.toNat*2) (by omega) (.string s12)) (i.toNat*2+1);have HF:=Lib.hid (h15.put rfl i.toNat (by omega) s12 s15 m12 m15);clear h15 D15 D14 D12 D11;go_wp2_with fail
     generalize x15.setCell ⟨g,i.toNat*2,none⟩ (.string s12)=x18 at *;refine hK.out _ _ trivial ?_;clear hK K;refine hH.out _ _ _ _ _ rfl (fun K hK=>?_);go_simp;refine hK _ ?_;clear hK K;refine hH.out _ _ _ _ _ rfl (fun K hK=>?_);go_simp;refine hK _ ?_;clear hK K;refine hC.out _ _ _ _ _ rfl (by first|rfl|go_simp) (fun K hK=>?_);simp only [bare];go_wp2_with fail
     refine hK.out _ _ trivial ?_;clear hK K;refine hE_.out _ _ ?_;clear hH hC hA_ hE_ W;show JS _ _;refine hS _ _ ?_;exact⟨_,List.length_modify _ _ _,HF.out,Fr.of _ rfl ⟨rfl,trivial⟩⟩
    refine hC.out _ _ _ _ _ rfl (by first|rfl|go_simp) (fun K hK=>?_);simp only [bare];have O14:=owns_lit x11 x11.heap.size 9 #[.string ⟨#[97,110,110]⟩,.string ⟨#[98,101,97]⟩,.string ⟨#[122,101,100]⟩,.string ⟨#[]⟩] 4 (by decide) rfl (Nat.le_refl _);have D14:Drawn B w (x11.alloc (.cells #[.string ⟨#[97,110,110]⟩,.string ⟨#[98,101,97]⟩,.string ⟨#[122,101,100]⟩,.string ⟨#[]⟩] 9)) (b+50):=D11.alloc _;have H14:RHd 9 B (x11.alloc (.cells #[.string ⟨#[97,110,110]⟩,.string ⟨#[98,101,97]⟩,.string ⟨#[122,101,100]⟩,.string ⟨#[]⟩] 9)).heap.size (x11.alloc (.cells #[.string ⟨#[97,110,110]⟩,.string ⟨#[98,101,97]⟩,.string ⟨#[122,101,100]⟩,.string ⟨#[]⟩] 9)) 4 (.slice (some ⟨x11.heap.size,0,none⟩) 4 4) (cellsOf encSt [⟨#[97,110,110]⟩,⟨#[98,101,97]⟩,⟨#[122,101,100]⟩,⟨#[]⟩]):=RHd.of_owns O14 D11.str.lt;have z14:x11.heap.size≤(x11.alloc (.cells #[.string ⟨#[97,110,110]⟩,.string ⟨#[98,101,97]⟩,.string ⟨#[122,101,100]⟩,.string ⟨#[]⟩] 9)).heap.size:=by simp
    have H11:=H11.alloc (.cells #[.string ⟨#[97,110,110]⟩,.string ⟨#[98,101,97]⟩,.string ⟨#[122,101,100]⟩,.string ⟨#[]⟩] 9);clear O14;go_wp2_with fail
    generalize x11.alloc (.cells #[.string ⟨#[97,110,110]⟩,.string ⟨#[98,101,97]⟩,.string ⟨#[122,101,100]⟩,.string ⟨#[]⟩] 9)=x14 at *;refine hK.out _ _ trivial ?_;clear hK K;refine hC.out _ _ _ _ _ rfl (by first|rfl|go_simp) (fun K hK=>?_);simp only [bare];go_wp2_with fail
    refine(some_any B (b+50) _ 3 [X.sl,X.sl,⟨#[122,122]⟩] x14 H11.row (by decide) (by decide) (by intro k hk;have:=(H11.lt k hk).1;omega) D14.str (by omega)).mono ?_;rintro e x12 ⟨s12,rfl,hs12,d12⟩;have D12:=D14.trans d12;have z12:=d12.size;have m12:=smFa hz.1 hs12;have H14:=H14.str d12.gr;clear d12 hs12 H11;go_wp2_with fail
    refine hK.out _ _ trivial ?_;clear hK K;refine hC.out _ _ _ _ _ rfl (by first|rfl|go_simp) (fun K hK=>?_);simp only [bare];go_wp2_with fail
    refine(some_any B (b+51) _ 4 [⟨#[97,110,110]⟩,⟨#[98,101,97]⟩,⟨#[122,101,100]⟩,⟨#[]⟩] x12 H14.row (by decide) (by decide) (by intro k hk;have:=(H14.lt k hk).1;omega) D12.str (by omega)).mono ?_;rintro e x15 ⟨s15,rfl,hs15,d15⟩;have D15:=D12.trans d15;have z15:=d15.size;have m15:=smFb hs15;clear d15 hs15 H14;go_wp2_with fail
    refine hK.out _ _ trivial ?_;clear hK K;refine hH.out _ _ _ _ _ rfl (fun K hK=>?_);go_simp;refine hK _ ?_;clear hK K;refine hH.out _ _ _ _ _ rfl (fun K hK=>?_);go_simp;refine hK _ ?_;clear hK K;refine hC.out _ _ _ _ _ rfl (by first|rfl|go_simp) (fun K hK=>?_);simp only [bare];have h15:=hW.drawn D15;have u18:=(World.cell?_of_block (a:=⟨g,i.toNat*2,none⟩) (D15.gr.block g hgl (by simpa using hgB))).trans t0;have f18:=owns_frozenC h15.o (i.toNat*2);have u21:=(World.cell?_of_block (a:=⟨g,i.toNat*2+1,none⟩) (D15.gr.block g hgl (by simpa using hgB))).trans t1;have u21:=(World.cell?_setCell_other x15 ⟨g,i.toNat*2,none⟩ ⟨g,i.toNat*2+1,none⟩ (.string s12) (by simp)).trans u21;have f21:=owns_frozenC (owns_setC h15.o (i.toNat*2) (by omega) (.string s12)) (i.toNat*2+1);have HF:=Lib.hid (h15.put rfl i.toNat (by omega) s12 s15 m12 m15);clear h15 D15 D14 D12 D11;go_wp2_with fail
    generalize x15.setCell ⟨g,i.toNat*2,none⟩ (.string s12)=x18 at *;refine hK.out _ _ trivial ?_;clear hK K;refine hH.out _ _ _ _ _ rfl (fun K hK=>?_);go_simp;refine hK _ ?_;clear hK K;refine hH.out _ _ _ _ _ rfl (fun K hK=>?_);go_simp;refine hK _ ?_;clear hK K;refine hC.out _ _ _ _ _ rfl (by first|rfl|go_simp) (fun K hK=>?_);simp only [bare];go_wp2_with fail
    refine hK.out _ _ trivial ?_;clear hK K;refine hE_.out _ _ ?_;clear hH hC hA_ hE_ W;show JS _ _;refine hS _ _ ?_;exact⟨_,List.length_modify _ _ _,HF.out,Fr.of _ rfl ⟨rfl,trivial⟩⟩
   refine hC.out _ _ _ _ _ rfl (by first|rfl|go_simp) (fun K hK=>?_);simp only [bare];have O14:=owns_lit x0 x0.heap.size 9 #[.string ⟨#[97,110,110]⟩,.string ⟨#[98,101,97]⟩,.string ⟨#[122,101,100]⟩,.string ⟨#[]⟩] 4 (by decide) rfl (Nat.le_refl _);have D14:Drawn B w (x0.alloc (.cells #[.string ⟨#[97,110,110]⟩,.string ⟨#[98,101,97]⟩,.string ⟨#[122,101,100]⟩,.string ⟨#[]⟩] 9)) (b+50):=D0.alloc _;have H14:RHd 9 B (x0.alloc (.cells #[.string ⟨#[97,110,110]⟩,.string ⟨#[98,101,97]⟩,.string ⟨#[122,101,100]⟩,.string ⟨#[]⟩] 9)).heap.size (x0.alloc (.cells #[.string ⟨#[97,110,110]⟩,.string ⟨#[98,101,97]⟩,.string ⟨#[122,101,100]⟩,.string ⟨#[]⟩] 9)) 4 (.slice (some ⟨x0.heap.size,0,none⟩) 4 4) (cellsOf encSt [⟨#[97,110,110]⟩,⟨#[98,101,97]⟩,⟨#[122,101,100]⟩,⟨#[]⟩]):=RHd.of_owns O14 D0.str.lt;have z14:x0.heap.size≤(x0.alloc (.cells #[.string ⟨#[97,110,110]⟩,.string ⟨#[98,101,97]⟩,.string ⟨#[122,101,100]⟩,.string ⟨#[]⟩] 9)).heap.size:=by simp
   clear O14;go_wp2_with fail
   generalize x0.alloc (.cells #[.string ⟨#[97,110,110]⟩,.string ⟨#[98,101,97]⟩,.string ⟨#[122,101,100]⟩,.string ⟨#[]⟩] 9)=x14 at *;refine hK.out _ _ trivial ?_;clear hK K;refine hC.out _ _ _ _ _ rfl (by first|rfl|go_simp) (fun K hK=>?_);simp only [bare];have O11:=owns_lit x14 x14.heap.size 9 #[.string X.sl,.string X.sl,.string ⟨#[122,122]⟩] 3 (by decide) rfl (Nat.le_refl _);have D11:Drawn B w (x14.alloc (.cells #[.string X.sl,.string X.sl,.string ⟨#[122,122]⟩] 9)) (b+50):=D14.alloc _;have H11:RHd 9 B (x14.alloc (.cells #[.string X.sl,.string X.sl,.string ⟨#[122,122]⟩] 9)).heap.size (x14.alloc (.cells #[.string X.sl,.string X.sl,.string ⟨#[122,122]⟩] 9)) 3 (.slice (some ⟨x14.heap.size,0,none⟩) 3 3) (cellsOf encSt [X.sl,X.sl,⟨#[122,122]⟩]):=RHd.of_owns O11 D14.str.lt;have z11:x14.heap.size≤(x14.alloc (.cells #[.string X.sl,.string X.sl,.string ⟨#[122,122]⟩] 9)).heap.size:=by simp
   have H14:=H14.alloc (.cells #[.string X.sl,.string X.sl,.string ⟨#[122,122]⟩] 9);clear O11;go_wp2_with fail
   generalize x14.alloc (.cells #[.string X.sl,.string X.sl,.string ⟨#[122,122]⟩] 9)=x11 at *;refine hK.out _ _ trivial ?_;clear hK K;refine hC.out _ _ _ _ _ rfl (by first|rfl|go_simp) (fun K hK=>?_);simp only [bare];go_wp2_with fail
   refine(some_any B (b+50) _ 3 [X.sl,X.sl,⟨#[122,122]⟩] x11 H11.row (by decide) (by decide) (by intro k hk;have:=(H11.lt k hk).1;omega) D11.str (by omega)).mono ?_;rintro e x12 ⟨s12,rfl,hs12,d12⟩;have D12:=D11.trans d12;have z12:=d12.size;have m12:=smFa hz.1 hs12;have H14:=H14.str d12.gr;clear d12 hs12 H11;go_wp2_with fail
   refine hK.out _ _ trivial ?_;clear hK K;refine hC.out _ _ _ _ _ rfl (by first|rfl|go_simp) (fun K hK=>?_);simp only [bare];go_wp2_with fail
   refine(some_any B (b+51) _ 4 [⟨#[97,110,110]⟩,⟨#[98,101,97]⟩,⟨#[122,101,100]⟩,⟨#[]⟩] x12 H14.row (by decide) (by decide) (by intro k hk;have:=(H14.lt k hk).1;omega) D12.str (by omega)).mono ?_;rintro e x15 ⟨s15,rfl,hs15,d15⟩;have D15:=D12.trans d15;have z15:=d15.size;have m15:=smFb hs15;clear d15 hs15 H14;go_wp2_with fail
   refine hK.out _ _ trivial ?_;clear hK K;refine hH.out _ _ _ _ _ rfl (fun K hK=>?_);go_simp;refine hK _ ?_;clear hK K;refine hH.out _ _ _ _ _ rfl (fun K hK=>?_);go_simp;refine hK _ ?_;clear hK K;refine hC.out _ _ _ _ _ rfl (by first|rfl|go_simp) (fun K hK=>?_);simp only [bare];have h15:=hW.drawn D15;have u18:=(World.cell?_of_block (a:=⟨g,i.toNat*2,none⟩) (D15.gr.block g hgl (by simpa using hgB))).trans t0;have f18:=owns_frozenC h15.o (i.toNat*2);have u21:=(World.cell?_of_block (a:=⟨g,i.toNat*2+1,none⟩) (D15.gr.block g hgl (by simpa using hgB))).trans t1;have u21:=(World.cell?_setCell_other x15 ⟨g,i.toNat*2,none⟩ ⟨g,i.toNat*2+1,none⟩ (.string s12) (by simp)).trans u21;have f21:=owns_frozenC (owns_setC h15.o (i.toNat*2) (by omega) (.string s12)) (i.toNat*2+1);have HF:=Lib.hid (h15.put rfl i.toNat (by omega) s12 s15 m12 m15);clear h15 D15 D14 D12 D11;go_wp2_with fail
   generalize x15.setCell ⟨g,i.toNat*2,none⟩ (.string s12)=x18 at *;refine hK.out _ _ trivial ?_;clear hK K;refine hH.out _ _ _ _ _ rfl (fun K hK=>?_);go_simp;refine hK _ ?_;clear hK K;refine hH.out _ _ _ _ _ rfl (fun K hK=>?_);go_simp;refine hK _ ?_;clear hK K;refine hC.out _ _ _ _ _ rfl (by first|rfl|go_simp) (fun K hK=>?_);simp only [bare];go_wp2_with fail
   refine hK.out _ _ trivial ?_;clear hK K;refine hE_.out _ _ ?_;clear hH hC hA_ hE_ W;show JS _ _;refine hS _ _ ?_;exact⟨_,List.length_modify _ _ _,HF.out,Fr.of _ rfl ⟨rfl,trivial⟩⟩
  refine hC.out _ _ _ _ _ rfl (by first|rfl|go_simp) (fun K hK=>?_);simp only [bare];have O14:=owns_lit x0 x0.heap.size 9 #[.string ⟨#[97,110,110]⟩,.string ⟨#[98,101,97]⟩,.string ⟨#[122,101,100]⟩,.string ⟨#[]⟩] 4 (by decide) rfl (Nat.le_refl _);have D14:Drawn B w (x0.alloc (.cells #[.string ⟨#[97,110,110]⟩,.string ⟨#[98,101,97]⟩,.string ⟨#[122,101,100]⟩,.string ⟨#[]⟩] 9)) (b+50):=D0.alloc _;have H14:RHd 9 B (x0.alloc (.cells #[.string ⟨#[97,110,110]⟩,.string ⟨#[98,101,97]⟩,.string ⟨#[122,101,100]⟩,.string ⟨#[]⟩] 9)).heap.size (x0.alloc (.cells #[.string ⟨#[97,110,110]⟩,.string ⟨#[98,101,97]⟩,.string ⟨#[122,101,100]⟩,.string ⟨#[]⟩] 9)) 4 (.slice (some ⟨x0.heap.size,0,none⟩) 4 4) (cellsOf encSt [⟨#[97,110,110]⟩,⟨#[98,101,97]⟩,⟨#[122,101,100]⟩,⟨#[]⟩]):=RHd.of_owns O14 D0.str.lt;have z14:x0.heap.size≤(x0.alloc (.cells #[.string ⟨#[97,110,110]⟩,.string ⟨#[98,101,97]⟩,.string ⟨#[122,101,100]⟩,.string ⟨#[]⟩] 9)).heap.size:=by simp
  clear O14;go_wp2_with fail
  generalize x0.alloc (.cells #[.string ⟨#[97,110,110]⟩,.string ⟨#[98,101,97]⟩,.string ⟨#[122,101,100]⟩,.string ⟨#[]⟩] 9)=x14 at *;refine hK.out _ _ trivial ?_;clear hK K;refine hC.out _ _ _ _ _ rfl (by first|rfl|go_simp) (fun K hK=>?_);simp only [bare];have u10:=(World.cell?_of_block (a:=⟨g,i.toNat*2,none⟩) (D14.gr.block g hgl (by simpa using hgB))).trans t0;go_wp2_with fail
  clear u10;refine hK.out _ _ trivial ?_;clear hK K;refine hC.out _ _ _ _ _ rfl (by first|rfl|go_simp) (fun K hK=>?_);simp only [bare];have O11:=owns_lit x14 x14.heap.size 9 #[.string X.sl,.string X.sl,.string ⟨#[122,122]⟩] 3 (by decide) rfl (Nat.le_refl _);have D11:Drawn B w (x14.alloc (.cells #[.string X.sl,.string X.sl,.string ⟨#[122,122]⟩] 9)) (b+50):=D14.alloc _;have H11:RHd 9 B (x14.alloc (.cells #[.string X.sl,.string X.sl,.string ⟨#[122,122]⟩] 9)).heap.size (x14.alloc (.cells #[.string X.sl,.string X.sl,.string ⟨#[122,122]⟩] 9)) 3 (.slice (some ⟨x14.heap.size,0,none⟩) 3 3) (cellsOf encSt [X.sl,X.sl,⟨#[122,122]⟩]):=RHd.of_owns O11 D14.str.lt;have z11:x14.heap.size≤(x14.alloc (.cells #[.string X.sl,.string X.sl,.string ⟨#[122,122]⟩] 9)).heap.size:=by simp
  have H14:=H14.alloc (.cells #[.string X.sl,.string X.sl,.string ⟨#[122,122]⟩] 9);clear O11;go_wp2_with fail
  generalize x14.alloc (.cells #[.string X.sl,.string X.sl,.string ⟨#[122,122]⟩] 9)=x11 at *;refine hK.out _ _ trivial ?_;clear hK K;refine hC.out _ _ _ _ _ rfl (by first|rfl|go_simp) (fun K hK=>?_);simp only [bare];go_wp2_with fail
  refine(some_any B (b+50) _ 3 [X.sl,X.sl,⟨#[122,122]⟩] x11 H11.row (by decide) (by decide) (by intro k hk;have:=(H11.lt k hk).1;omega) D11.str (by omega)).mono ?_;rintro e x12 ⟨s12,rfl,hs12,d12⟩;have D12:=D11.trans d12;have z12:=d12.size;have m12:=smFa hz.1 hs12;have H14:=H14.str d12.gr;clear d12 hs12 H11;go_wp2_with fail
  refine hK.out _ _ trivial ?_;clear hK K;refine hC.out _ _ _ _ _ rfl (by first|rfl|go_simp) (fun K hK=>?_);simp only [bare];go_wp2_with fail
  refine(some_any B (b+51) _ 4 [⟨#[97,110,110]⟩,⟨#[98,101,97]⟩,⟨#[122,101,100]⟩,⟨#[]⟩] x12 H14.row (by decide) (by decide) (by intro k hk;have:=(H14.lt k hk).1;omega) D12.str (by omega)).mono ?_;rintro e x15 ⟨s15,rfl,hs15,d15⟩;have D15:=D12.trans d15;have z15:=d15.size;have m15:=smFb hs15;clear d15 hs15 H14;go_wp2_with fail
  refine hK.out _ _ trivial ?_;clear hK K;refine hH.out _ _ _ _ _ rfl (fun K hK=>?_);go_simp;refine hK _ ?_;clear hK K;refine hH.out _ _ _ _ _ rfl (fun K hK=>?_);go_simp;refine hK _ ?_;clear hK K;refine hC.out _ _ _ _ _ rfl (by first|rfl|go_simp) (fun K hK=>?_);simp only [bare];have h15:=hW.drawn D15;have u18:=(World.cell?_of_block (a:=⟨g,i.toNat*2,none⟩) (D15.gr.block g hgl (by simpa using hgB))).trans t0;have f18:=owns_frozenC h15.o (i.toNat*2);have u21:=(World.cell?_of_block (a:=⟨g,i.toNat*2+1,none⟩) (D15.gr.block g hgl (by simpa using hgB))).trans t1;have u21:=(World.cell?_setCell_other x15 ⟨g,i.toNat*2,none⟩ ⟨g,i.toNat*2+1,none⟩ (.string s12) (by simp)).trans u21;have f21:=owns_frozenC (owns_setC h15.o (i.toNat*2) (by omega) (.string s12)) (i.toNat*2+1);have HF:=Lib.hid (h15.put rfl i.toNat (by omega) s12 s15 m12 m15);clear h15 D15 D14 D12 D11;go_wp2_with fail
  generalize x15.setCell ⟨g,i.toNat*2,none⟩ (.string s12)=x18 at *;refine hK.out _ _ trivial ?_;clear hK K;refine hH.out _ _ _ _ _ rfl (fun K hK=>?_);go_simp;refine hK _ ?_;clear hK K;refine hH.out _ _ _ _ _ rfl (fun K hK=>?_);go_simp;refine hK _ ?_;clear hK K;refine hC.out _ _ _ _ _ rfl (by first|rfl|go_simp) (fun K hK=>?_);simp only [bare];go_wp2_with fail
  refine hK.out _ _ trivial ?_;clear hK K;refine hE_.out _ _ ?_;clear hH hC hA_ hE_ W;show JS _ _;refine hS _ _ ?_;exact⟨_,List.length_modify _ _ _,HF.out,Fr.of _ rfl ⟨rfl,trivial⟩⟩
 refine hA_.out _ _ _ _ _ ?_ ?_
 ·refine hC.out _ _ _ _ _ rfl (by first|rfl|go_simp) (fun K hK=>?_);simp only [bare];have u10:=(World.cell?_of_block (a:=⟨g,i.toNat*2,none⟩) (D0.gr.block g hgl (by simpa using hgB))).trans t0;go_wp2_with fail
  clear u10;refine hK.out _ _ trivial ?_;clear hK K;refine hA_.out _ _ _ _ _ ?_ ?_
  ·refine hC.out _ _ _ _ _ rfl (by first|rfl|go_simp) (fun K hK=>?_);simp only [bare];have u6:=(World.cell?_of_block (a:=⟨g,i.toNat*2,none⟩) (D0.gr.block g hgl (by simpa using hgB))).trans t0;go_wp2_with fail
   clear u6;refine hK.out _ _ trivial ?_;clear hK K;refine hA_.out _ _ _ _ _ ?_ ?_
   ·refine hC.out _ _ _ _ _ rfl (by first|rfl|go_simp) (fun K hK=>?_);simp only [bare];have O11:=owns_lit x0 x0.heap.size 9 #[.string X.sl,.string X.sl,.string ⟨#[122,122]⟩] 3 (by decide) rfl (Nat.le_refl _);have D11:Drawn B w (x0.alloc (.cells #[.string X.sl,.string X.sl,.string ⟨#[122,122]⟩] 9)) (b+50):=D0.alloc _;have H11:RHd 9 B (x0.alloc (.cells #[.string X.sl,.string X.sl,.string ⟨#[122,122]⟩] 9)).heap.size (x0.alloc (.cells #[.string X.sl,.string X.sl,.string ⟨#[122,122]⟩] 9)) 3 (.slice (some ⟨x0.heap.size,0,none⟩) 3 3) (cellsOf encSt [X.sl,X.sl,⟨#[122,122]⟩]):=RHd.of_owns O11 D0.str.lt;have z11:x0.heap.size≤(x0.alloc (.cells #[.string X.sl,.string X.sl,.string ⟨#[122,122]⟩] 9)).heap.size:=by simp
    clear O11;go_wp2_with fail
    generalize x0.alloc (.cells #[.string X.sl,.string X.sl,.string ⟨#[122,122]⟩] 9)=x11 at *;refine hK.out _ _ trivial ?_;clear hK K;refine hA_.out _ _ _ _ _ ?_ ?_
    ·refine hC.out _ _ _ _ _ rfl (by first|rfl|go_simp) (fun K hK=>?_);simp only [bare];go_wp2_with fail
     refine(some_any B (b+50) _ 3 [X.sl,X.sl,⟨#[122,122]⟩] x11 H11.row (by decide) (by decide) (by intro k hk;have:=(H11.lt k hk).1;omega) D11.str (by omega)).mono ?_;rintro e x12 ⟨s12,rfl,hs12,d12⟩;have D12:=D11.trans d12;have z12:=d12.size;have m12:=smFa hz.1 hs12;clear d12 hs12 H11;go_wp2_with fail
     refine hK.out _ _ trivial ?_;clear hK K;refine hC.out _ _ _ _ _ rfl (by first|rfl|go_simp) (fun K hK=>?_);simp only [bare];have O14:=owns_lit x12 x12.heap.size 9 #[.string ⟨#[97,110,110]⟩,.string ⟨#[98,101,97]⟩,.string ⟨#[122,101,100]⟩,.string ⟨#[]⟩] 4 (by decide) rfl (Nat.le_refl _);have D14:Drawn B w (x12.alloc (.cells #[.string ⟨#[97,110,110]⟩,.string ⟨#[98,101,97]⟩,.string ⟨#[122,101,100]⟩,.string ⟨#[]⟩] 9)) (b+51):=D12.alloc _;have H14:RHd 9 B (x12.alloc (.cells #[.string ⟨#[97,110,110]⟩,.string ⟨#[98,101,97]⟩,.string ⟨#[122,101,100]⟩,.string ⟨#[]⟩] 9)).heap.size (x12.alloc (.cells #[.string ⟨#[97,110,110]⟩,.string ⟨#[98,101,97]⟩,.string ⟨#[122,101,100]⟩,.string ⟨#[]⟩] 9)) 4 (.slice (some ⟨x12.heap.size,0,none⟩) 4 4) (cellsOf encSt [⟨#[97,110,110]⟩,⟨#[98,101,97]⟩,⟨#[122,101,100]⟩,⟨#[]⟩]):=RHd.of_owns O14 D12.str.lt;have z14:x12.heap.size≤(x12.alloc (.cells #[.string ⟨#[97,110,110]⟩,.string ⟨#[98,101,97]⟩,.string ⟨#[122,101,100]⟩,.string ⟨#[]⟩] 9)).heap.size:=by simp
     clear O14;go_wp2_with fail
     generalize x12.alloc (.cells #[.string ⟨#[97,110,110]⟩,.string ⟨#[98,101,97]⟩,.string ⟨#[122,101,100]⟩,.string ⟨#[]⟩] 9)=x14 at *;refine hK.out _ _ trivial ?_;clear hK K;refine hC.out _ _ _ _ _ rfl (by first|rfl|go_simp) (fun K hK=>?_);simp only [bare];go_wp2_with fail
     refine(some_any B (b+51) _ 4 [⟨#[97,110,110]⟩,⟨#[98,101,97]⟩,⟨#[122,101,100]⟩,⟨#[]⟩] x14 H14.row (by decide) (by decide) (by intro k hk;have:=(H14.lt k hk).1;omega) D14.str (by omega)).mono ?_;rintro e x15 ⟨s15,rfl,hs15,d15⟩;have D15:=D14.trans d15;have z15:=d15.size;have m15:=smFb hs15;clear d15 hs15 H14;go_wp2_with fail
     refine hK.out _ _ trivial ?_;clear hK K;refine hH.out _ _ _ _ _ rfl (fun K hK=>?_);go_simp;refine hK _ ?_;clear hK K;refine hH.out _ _ _ _ _ rfl (fun K hK=>?_);go_simp;refine hK _ ?_;clear hK K;refine hC.out _ _ _ _ _ rfl (by first|rfl|go_simp) (fun K hK=>?_);simp only [bare];have h15:=hW.drawn D15;have u18:=(World.cell?_of_block (a:=⟨g,i.toNat*2,none⟩) (D15.gr.block g hgl (by simpa using hgB))).trans t0;have f18:=owns_frozenC h15.o (i.toNat*2);have u21:=(World.cell?_of_block (a:=⟨g,i.toNat*2+1,none⟩) (D15.gr.block g hgl (by simpa using hgB))).trans t1;have u21:=(World.cell?_setCell_other x15 ⟨g,i.toNat*2,none⟩ ⟨g,i.toNat*2+1,none⟩ (.string s12) (by simp)).trans u21;have f21:=owns_frozenC (owns_setC h15.o (i.toNat*2) (by omega) (.string s12)) (i.toNat*2+1);have HF:=Lib.hid (h15.put rfl i.toNat (by omega) s12 s15 m12 m15);clear h15 D15 D14 D12 D11;go_wp2_with fail
     generalize x15.setCell ⟨g,i.toNat*2,none⟩ (.string s12)=x18 at *;refine hK.out _ _ trivial ?_;clear hK K;refine hH.out _ _ _ _ _ rfl (fun K hK=>?_);go_simp;refine hK _ ?_;clear hK K;refine hH.out _ _ _ _ _ rfl (fun K hK=>?_);go_simp;refine hK _ ?_;clear hK K;refine hC.out _ _ _ _ _ rfl (by first|rfl|go_simp) (fun K hK=>?_);simp only [bare];go_wp2_with fail
     refine hK.out _ _ trivial ?_;clear hK K;refine hE_.out _ _ ?_;clear hH hC hA_ hE_ W;show JS _ _;refine hS _ _ ?_;exact⟨_,List.length_modify _ _ _,HF.out,Fr.of _ rfl ⟨rfl,trivial⟩⟩
    refine hC.out _ _ _ _ _ rfl (by first|rfl|go_simp) (fun K hK=>?_);simp only [bare];have O14:=owns_lit x11 x11.heap.size 9 #[.string ⟨#[97,110,110]⟩,.string ⟨#[98,101,97]⟩,.string ⟨#[122,101,100]⟩,.string ⟨#[]⟩] 4 (by decide) rfl (Nat.le_refl _);have D14:Drawn B w (x11.alloc (.cells #[.string ⟨#[97,110,110]⟩,.string ⟨#[98,101,97]⟩,.string ⟨#[122,101,100]⟩,.string ⟨#[]⟩] 9)) (b+50):=D11.alloc _;have H14:RHd 9 B (x11.alloc (.cells #[.string ⟨#[97,110,110]⟩,.string ⟨#[98,101,97]⟩,.string ⟨#[122,101,100]⟩,.string ⟨#[]⟩] 9)).heap.size (x11.alloc (.cells #[.string ⟨#[97,110,110]⟩,.string ⟨#[98,101,97]⟩,.string ⟨#[122,101,100]⟩,.string ⟨#[]⟩] 9)) 4 (.slice (some ⟨x11.heap.size,0,none⟩) 4 4) (cellsOf encSt [⟨#[97,110,110]⟩,⟨#[98,101,97]⟩,⟨#[122,101,100]⟩,⟨#[]⟩]):=RHd.of_owns O14 D11.str.lt;have z14:x11.heap.size≤(x11.alloc (.cells #[.string ⟨#[97,110,110]⟩,.string ⟨#[98,101,97]⟩,.string ⟨#[122,101,100]⟩,.string ⟨#[]⟩] 9)).heap.size:=by simp
    have H11:=H11.alloc (.cells #[.string ⟨#[97,110,110]⟩,.string ⟨#[98,101,97]⟩,.string ⟨#[122,101,100]⟩,.string ⟨#[]⟩] 9);clear O14;go_wp2_with fail
    generalize x11.alloc (.cells #[.string ⟨#[97,110,110]⟩,.string ⟨#[98,101,97]⟩,.string ⟨#[122,101,100]⟩,.string ⟨#[]⟩] 9)=x14 at *;refine hK.out _ _ trivial ?_;clear hK K;refine hC.out _ _ _ _ _ rfl (by first|rfl|go_simp) (fun K hK=>?_);simp only [bare];go_wp2_with fail
    refine(some_any B (b+50) _ 3 [X.sl,X.sl,⟨#[122,122]⟩] x14 H11.row (by decide) (by decide) (by intro k hk;have:=(H11.lt k hk).1;omega) D14.str (by omega)).mono ?_;rintro e x12 ⟨s12,rfl,hs12,d12⟩;have D12:=D14.trans d12;have z12:=d12.size;have m12:=smFa hz.1 hs12;have H14:=H14.str d12.gr;clear d12 hs12 H11;go_wp2_with fail
    refine hK.out _ _ trivial ?_;clear hK K;refine hC.out _ _ _ _ _ rfl (by first|rfl|go_simp) (fun K hK=>?_);simp only [bare];go_wp2_with fail
    refine(some_any B (b+51) _ 4 [⟨#[97,110,110]⟩,⟨#[98,101,97]⟩,⟨#[122,101,100]⟩,⟨#[]⟩] x12 H14.row (by decide) (by decide) (by intro k hk;have:=(H14.lt k hk).1;omega) D12.str (by omega)).mono ?_;rintro e x15 ⟨s15,rfl,hs15,d15⟩;have D15:=D12.trans d15;have z15:=d15.size;have m15:=smFb hs15;clear d15 hs15 H14;go_wp2_with fail
    refine hK.out _ _ trivial ?_;clear hK K;refine hH.out _ _ _ _ _ rfl (fun K hK=>?_);go_simp;refine hK _ ?_;clear hK K;refine hH.out _ _ _ _ _ rfl (fun K hK=>?_);go_simp;refine hK _ ?_;clear hK K;refine hC.out _ _ _ _ _ rfl (by first|rfl|go_simp) (fun K hK=>?_);simp only [bare];have h15:=hW.drawn D15;have u18:=(World.cell?_of_block (a:=⟨g,i.toNat*2,none⟩) (D15.gr.block g hgl (by simpa using hgB))).trans t0;have f18:=owns_frozenC h15.o (i.toNat*2);have u21:=(World.cell?_of_block (a:=⟨g,i.toNat*2+1,none⟩) (D15.gr.block g hgl (by simpa using hgB))).trans t1;have u21:=(World.cell?_setCell_other x15 ⟨g,i.toNat*2,none⟩ ⟨g,i.toNat*2+1,none⟩ (.string s12) (by simp)).trans u21;have f21:=owns_frozenC (owns_setC h15.o (i.toNat*2) (by omega) (.string s12)) (i.toNat*2+1);have HF:=Lib.hid (h15.put rfl i.toNat (by omega) s12 s15 m12 m15);clear h15 D15 D14 D12 D11;go_wp2_with fail
    generalize x15.setCell ⟨g,i.toNat*2,none⟩ (.string s12)=x18 at *;refine hK.out _ _ trivial ?_;clear hK K;refine hH.out _ _ _ _ _ rfl (fun K hK=>?_);go_simp;refine hK _ ?_;clear hK K;refine hH.out _ _ _ _ _ rfl (fun K hK=>?_);go_simp;refine hK _ ?_;clear hK K;refine hC.out _ _ _ _ _ rfl (by first|rfl|go_simp) (fun K hK=>?_);simp only [bare];go_wp2_with fail
    refine hK.out _ _ trivial ?_;clear hK K;refine hE_.out _ _ ?_;clear hH hC hA_ hE_ W;show JS _ _;refine hS _ _ ?_;exact⟨_,List.length_modify _ _ _,HF.out,Fr.of _ rfl ⟨rfl,trivial⟩⟩
   refine hC.out _ _ _ _ _ rfl (by first|rfl|go_simp) (fun K hK=>?_);simp only [bare];have O14:=owns_lit x0 x0.heap.size 9 #[.string ⟨#[97,110,110]⟩,.string ⟨#[98,101,97]⟩,.string ⟨#[122,101,100]⟩,.string ⟨#[]⟩] 4 (by decide) rfl (Nat.le_refl _);have D14:Drawn B w (x0.alloc (.cells #[.string ⟨#[97,110,110]⟩,.string ⟨#[98,101,97]⟩,.string ⟨#[122,101,100]⟩,.string ⟨#[]⟩] 9)) (b+50):=D0.alloc _;have H14:RHd 9 B (x0.alloc (.cells #[.string ⟨#[97,110,110]⟩,.string ⟨#[98,101,97]⟩,.string ⟨#[122,101,100]⟩,.string ⟨#[]⟩] 9)).heap.size (x0.alloc (.cells #[.string ⟨#[97,110,110]⟩,.string ⟨#[98,101,97]⟩,.string ⟨#[122,101,100]⟩,.string ⟨#[]⟩] 9)) 4 (.slice (some ⟨x0.heap.size,0,none⟩) 4 4) (cellsOf encSt [⟨#[97,110,110]⟩,⟨#[98,101,97]⟩,⟨#[122,101,100]⟩,⟨#[]⟩]):=RHd.of_owns O14 D0.str.lt;have z14:x0.heap.size≤(x0.alloc (.cells #[.string ⟨#[97,110,110]⟩,.string ⟨#[98,101,97]⟩,.string ⟨#[122,101,100]⟩,.string ⟨#[]⟩] 9)).heap.size:=by simp
   clear O14;go_wp2_with fail
   generalize x0.alloc (.cells #[.string ⟨#[97,110,110]⟩,.string ⟨#[98,101,97]⟩,.string ⟨#[122,101,100]⟩,.string ⟨#[]⟩] 9)=x14 at *;refine hK.out _ _ trivial ?_;clear hK K;refine hC.out _ _ _ _ _ rfl (by first|rfl|go_simp) (fun K hK=>?_);simp only [bare];have O11:=owns_lit x14 x14.heap.size 9 #[.string X.sl,.string X.sl,.string ⟨#[122,122]⟩] 3 (by decide) rfl (Nat.le_refl _);have D11:Drawn B w (x14.alloc (.cells #[.string X.sl,.string X.sl,.string ⟨#[122,122]⟩] 9)) (b+50):=D14.alloc _;have H11:RHd 9 B (x14.alloc (.cells #[.string X.sl,.string X.sl,.string ⟨#[122,122]⟩] 9)).heap.size (x14.alloc (.cells #[.string X.sl,.string X.sl,.string ⟨#[122,122]⟩] 9)) 3 (.slice (some ⟨x14.heap.size,0,none⟩) 3 3) (cellsOf encSt [X.sl,X.sl,⟨#[122,122]⟩]):=RHd.of_owns O11 D14.str.lt;have z11:x14.heap.size≤(x14.alloc (.cells #[.string X.sl,.string X.sl,.string ⟨#[122,122]⟩] 9)).heap.size:=by simp
   have H14:=H14.alloc (.cells #[.string X.sl,.string X.sl,.string ⟨#[122,122]⟩] 9);clear O11;go_wp2_with fail
   generalize x14.alloc (.cells #[.string X.sl,.string X.sl,.string ⟨#[122,122]⟩] 9)=x11 at *;refine hK.out _ _ trivial ?_;clear hK K;refine hC.out _ _ _ _ _ rfl (by first|rfl|go_simp) (fun K hK=>?_);simp only [bare];go_wp2_with fail
   refine(some_any B (b+50) _ 3 [X.sl,X.sl,⟨#[122,122]⟩] x11 H11.row (by decide) (by decide) (by intro k hk;have:=(H11.lt k hk).1;omega) D11.str (by omega)).mono ?_;rintro e x12 ⟨s12,rfl,hs12,d12⟩;have D12:=D11.trans d12;have z12:=d12.size;have m12:=smFa hz.1 hs12;have H14:=H14.str d12.gr;clear d12 hs12 H11;go_wp2_with fail
   refine hK.out _ _ trivial ?_;clear hK K;refine hC.out _ _ _ _ _ rfl (by first|rfl|go_simp) (fun K hK=>?_);simp only [bare];go_wp2_with fail
   refine(some_any B (b+51) _ 4 [⟨#[97,110,110]⟩,⟨#[98,101,97]⟩,⟨#[122,101,100]⟩,⟨#[]⟩] x12 H14.row (by decide) (by decide) (by intro k hk;have:=(H14.lt k hk).1;omega) D12.str (by omega)).mono ?_;rintro e x15 ⟨s15,rfl,hs15,d15⟩;have D15:=D12.trans d15;have z15:=d15.size;have m15:=smFb hs15;clear d15 hs15 H14;go_wp2_with fail
   refine hK.out _ _ trivial ?_;clear hK K;refine hH.out _ _ _ _ _ rfl (fun K hK=>?_);go_simp;refine hK _ ?_;clear hK K;refine hH.out _ _ _ _ _ rfl (fun K hK=>?_);go_simp;refine hK _ ?_;clear hK K;refine hC.out _ _ _ _ _ rfl (by first|rfl|go_simp) (fun K hK=>?_);simp only [bare];have h15:=hW.drawn D15;have u18:=(World.cell?_of_block (a:=⟨g,i.toNat*2,none⟩) (D15.gr.block g hgl (by simpa using hgB))).trans t0;have f18:=owns_frozenC h15.o (i.toNat*2);have u21:=(World.cell?_of_block (a:=⟨g,i.toNat*2+1,none⟩) (D15.gr.block g hgl (by simpa using hgB))).trans t1;have u21:=(World.cell?_setCell_other x15 ⟨g,i.toNat*2,none⟩ ⟨g,i.toNat*2+1,none⟩ (.string s12) (by simp)).trans u21;have f21:=owns_frozenC (owns_setC h15.o (i.toNat*2) (by omega) (.string s12)) (i.toNat*2+1);have HF:=Lib.hid (h15.put rfl i.toNat (by omega) s12 s15 m12 m15);clear h15 D15 D14 D12 D11;go_wp2_with fail
   generalize x15.setCell ⟨g,i.toNat*2,none⟩ (.string s12)=x18 at *;refine hK.out _ _ trivial ?_;clear hK K;refine hH.out _ _ _ _ _ rfl (fun K hK=>?_);go_simp;refine hK _ ?_;clear hK K;refine hH.out _ _ _ _ _ rfl (fun K hK=>?_);go_simp;refine hK _ ?_;clear hK K;refine hC.out _ _ _ _ _ rfl (by first|rfl|go_simp) (fun K hK=>?_);simp only [bare];go_wp2_with fail
   refine hK.out _ _ trivial ?_;clear hK K;refine hE_.out _ _ ?_;clear hH hC hA_ hE_ W;show JS _ _;refine hS _ _ ?_;exact⟨_,List.length_modify _ _ _,HF.out,Fr.of _ rfl ⟨rfl,trivial⟩⟩
  refine hC.out _ _ _ _ _ rfl (by first|rfl|go_simp) (fun K hK=>?_);simp only [bare];have O14:=owns_lit x0 x0.heap.size 9 #[.string ⟨#[97,110,110]⟩,.string ⟨#[98,101,97]⟩,.string ⟨#[122,101,100]⟩,.string ⟨#[]⟩] 4 (by decide) rfl (Nat.le_refl _);have D14:Drawn B w (x0.alloc (.cells #[.string ⟨#[97,110,110]⟩,.string ⟨#[98,101,97]⟩,.string ⟨#[122,101,100]⟩,.string ⟨#[]⟩] 9)) (b+50):=D0.alloc _;have H14:RHd 9 B (x0.alloc (.cells #[.string ⟨#[97,110,110]⟩,.string ⟨#[98,101,97]⟩,.string ⟨#[122,101,100]⟩,.string ⟨#[]⟩] 9)).heap.size (x0.alloc (.cells #[.string ⟨#[97,110,110]⟩,.string ⟨#[98,101,97]⟩,.string ⟨#[122,101,100]⟩,.string ⟨#[]⟩] 9)) 4 (.slice (some ⟨x0.heap.size,0,none⟩) 4 4) (cellsOf encSt [⟨#[97,110,110]⟩,⟨#[98,101,97]⟩,⟨#[122,101,100]⟩,⟨#[]⟩]):=RHd.of_owns O14 D0.str.lt;have z14:x0.heap.size≤(x0.alloc (.cells #[.string ⟨#[97,110,110]⟩,.string ⟨#[98,101,97]⟩,.string ⟨#[122,101,100]⟩,.string ⟨#[]⟩] 9)).heap.size:=by simp
  clear O14;go_wp2_with fail
  generalize x0.alloc (.cells #[.string ⟨#[97,110,110]⟩,.string ⟨#[98,101,97]⟩,.string ⟨#[122,101,100]⟩,.string ⟨#[]⟩] 9)=x14 at *;refine hK.out _ _ trivial ?_;clear hK K;refine hC.out _ _ _ _ _ rfl (by first|rfl|go_simp) (fun K hK=>?_);simp only [bare];have u6:=(World.cell?_of_block (a:=⟨g,i.toNat*2,none⟩) (D14.gr.block g hgl (by simpa using hgB))).trans t0;go_wp2_with fail
  clear u6;refine hK.out _ _ trivial ?_;clear hK K;refine hC.out _ _ _ _ _ rfl (by first|rfl|go_simp) (fun K hK=>?_);simp only [bare];have O11:=owns_lit x14 x14.heap.size 9 #[.string X.sl,.string X.sl,.string ⟨#[122,122]⟩] 3 (by decide) rfl (Nat.le_refl _);have D11:Drawn B w (x14.alloc (.cells #[.string X.sl,.string X.sl,.string ⟨#[122,122]⟩] 9)) (b+50):=D14.alloc _;have H11:RHd 9 B (x14.alloc (.cells #[.string X.sl,.string X.sl,.string ⟨#[122,122]⟩] 9)).heap.size (x14.alloc (.cells #[.string X.sl,.string X.sl,.string ⟨#[122,122]⟩] 9)) 3 (.slice (some ⟨x14.heap.size,0,none⟩) 3 3) (cellsOf encSt [X.sl,X.sl,⟨#[122,122]⟩]):=RHd.of_owns O11 D14.str.lt;have z11:x14.heap.size≤(x14.alloc (.cells #[.string X.sl,.string X.sl,.string ⟨#[122,122]⟩] 9)).heap.size:=by simp
  have H14:=H14.alloc (.cells #[.string X.sl,.string X.sl,.string ⟨#[122,122]⟩] 9);clear O11;go_wp2_with fail
  generalize x14.alloc (.cells #[.string X.sl,.string X.sl,.string ⟨#[122,122]⟩] 9)=x11 at *;refine hK.out _ _ trivial ?_;clear hK K;refine hC.out _ _ _ _ _ rfl (by first|rfl|go_simp) (fun K hK=>?_);simp only [bare];go_wp2_with fail
  refine(some_any B (b+50) _ 3 [X.sl,X.sl,⟨#[122,122]⟩] x11 H11.row (by decide) (by decide) (by intro k hk;have:=(H11.lt k hk).1;omega) D11.str (by omega)).mono ?_;rintro e x12 ⟨s12,rfl,hs12,d12⟩;have D12:=D11.trans d12;have z12:=d12.size;have m12:=smFa hz.1 hs12;have H14:=H14.str d12.gr;clear d12 hs12 H11;go_wp2_with fail
  refine hK.out _ _ trivial ?_;clear hK K;refine hC.out _ _ _ _ _ rfl (by first|rfl|go_simp) (fun K hK=>?_);simp only [bare];go_wp2_with fail
  refine(some_any B (b+51) _ 4 [⟨#[97,110,110]⟩,⟨#[98,101,97]⟩,⟨#[122,101,100]⟩,⟨#[]⟩] x12 H14.row (by decide) (by decide) (by intro k hk;have:=(H14.lt k hk).1;omega) D12.str (by omega)).mono ?_;rintro e x15 ⟨s15,rfl,hs15,d15⟩;have D15:=D12.trans d15;have z15:=d15.size;have m15:=smFb hs15;clear d15 hs15 H14;go_wp2_with fail
  refine hK.out _ _ trivial ?_;clear hK K;refine hH.out _ _ _ _ _ rfl (fun K hK=>?_);go_simp;refine hK _ ?_;clear hK K;refine hH.out _ _ _ _ _ rfl (fun K hK=>?_);go_simp;refine hK _ ?_;clear hK K;refine hC.out _ _ _ _ _ rfl (by first|rfl|go_simp) (fun K hK=>?_);simp only [bare];have h15:=hW.drawn D15;have u18:=(World.cell?_of_block (a:=⟨g,i.toNat*2,none⟩) (D15.gr.block g hgl (by simpa using hgB))).trans t0;have f18:=owns_frozenC h15.o (i.toNat*2);have u21:=(World.cell?_of_block (a:=⟨g,i.toNat*2+1,none⟩) (D15.gr.block g hgl (by simpa using hgB))).trans t1;have u21:=(World.cell?_setCell_other x15 ⟨g,i.toNat*2,none⟩ ⟨g,i.toNat*2+1,none⟩ (.string s12) (by simp)).trans u21;have f21:=owns_frozenC (owns_setC h15.o (i.toNat*2) (by omega) (.string s12)) (i.toNat*2+1);have HF:=Lib.hid (h15.put rfl i.toNat (by omega) s12 s15 m12 m15);clear h15 D15 D14 D12 D11;go_wp2_with fail
  generalize x15.setCell ⟨g,i.toNat*2,none⟩ (.string s12)=x18 at *;refine hK.out _ _ trivial ?_;clear hK K;refine hH.out _ _ _ _ _ rfl (fun K hK=>?_);go_simp;refine hK _ ?_;clear hK K;refine hH.out _ _ _ _ _ rfl (fun K hK=>?_);go_simp;refine hK _ ?_;clear hK K;refine hC.out _ _ _ _ _ rfl (by first|rfl|go_simp) (fun K hK=>?_);simp only [bare];go_wp2_with fail
  refine hK.out _ _ trivial ?_;clear hK K;refine hE_.out _ _ ?_;clear hH hC hA_ hE_ W;show JS _ _;refine hS _ _ ?_;exact⟨_,List.length_modify _ _ _,HF.out,Fr.of _ rfl ⟨rfl,trivial⟩⟩
 refine hC.out _ _ _ _ _ rfl (by first|rfl|go_simp) (fun K hK=>?_);simp only [bare];have O14:=owns_lit x0 x0.heap.size 9 #[.string ⟨#[97,110,110]⟩,.string ⟨#[98,101,97]⟩,.string ⟨#[122,101,100]⟩,.string ⟨#[]⟩] 4 (by decide) rfl (Nat.le_refl _);have D14:Drawn B w (x0.alloc (.cells #[.string ⟨#[97,110,110]⟩,.string ⟨#[98,101,97]⟩,.string ⟨#[122,101,100]⟩,.string ⟨#[]⟩] 9)) (b+50):=D0.alloc _;have H14:RHd 9 B (x0.alloc (.cells #[.string ⟨#[97,110,110]⟩,.string ⟨#[98,101,97]⟩,.string ⟨#[122,101,100]⟩,.string ⟨#[]⟩] 9)).heap.size (x0.alloc (.cells #[.string ⟨#[97,110,110]⟩,.string ⟨#[98,101,97]⟩,.string ⟨#[122,101,100]⟩,.string ⟨#[]⟩] 9)) 4 (.slice (some ⟨x0.heap.size,0,none⟩) 4 4) (cellsOf encSt [⟨#[97,110,110]⟩,⟨#[98,101,97]⟩,⟨#[122,101,100]⟩,⟨#[]⟩]):=RHd.of_owns O14 D0.str.lt;have z14:x0.heap.size≤(x0.alloc (.cells #[.string ⟨#[97,110,110]⟩,.string ⟨#[98,101,97]⟩,.string ⟨#[122,101,100]⟩,.string ⟨#[]⟩] 9)).heap.size:=by simp
 clear O14;go_wp2_with fail
 generalize x0.alloc (.cells #[.string ⟨#[97,110,110]⟩,.string ⟨#[98,101,97]⟩,.string ⟨#[122,101,100]⟩,.string ⟨#[]⟩] 9)=x14 at *;refine hK.out _ _ trivial ?_;clear hK K;refine hA_.out _ _ _ _ _ ?_ ?_
 ·refine hC.out _ _ _ _ _ rfl (by first|rfl|go_simp) (fun K hK=>?_);simp only [bare];have u6:=(World.cell?_of_block (a:=⟨g,i.toNat*2,none⟩) (D14.gr.block g hgl (by simpa using hgB))).trans t0;go_wp2_with fail
  clear u6;refine hK.out _ _ trivial ?_;clear hK K;refine hC.out _ _ _ _ _ rfl (by first|rfl|go_simp) (fun K hK=>?_);simp only [bare];have u10:=(World.cell?_of_block (a:=⟨g,i.toNat*2,none⟩) (D14.gr.block g hgl (by simpa using hgB))).trans t0;go_wp2_with fail
  clear u10;refine hK.out _ _ trivial ?_;clear hK K;refine hC.out _ _ _ _ _ rfl (by first|rfl|go_simp) (fun K hK=>?_);simp only [bare];have O11:=owns_lit x14 x14.heap.size 9 #[.string X.sl,.string X.sl,.string ⟨#[122,122]⟩] 3 (by decide) rfl (Nat.le_refl _);have D11:Drawn B w (x14.alloc (.cells #[.string X.sl,.string X.sl,.string ⟨#[122,122]⟩] 9)) (b+50):=D14.alloc _;have H11:RHd 9 B (x14.alloc (.cells #[.string X.sl,.string X.sl,.string ⟨#[122,122]⟩] 9)).heap.size (x14.alloc (.cells #[.string X.sl,.string X.sl,.string ⟨#[122,122]⟩] 9)) 3 (.slice (some ⟨x14.heap.size,0,none⟩) 3 3) (cellsOf encSt [X.sl,X.sl,⟨#[122,122]⟩]):=RHd.of_owns O11 D14.str.lt;have z11:x14.heap.size≤(x14.alloc (.cells #[.string X.sl,.string X.sl,.string ⟨#[122,122]⟩] 9)).heap.size:=by simp
  have H14:=H14.alloc (.cells #[.string X.sl,.string X.sl,.string ⟨#[122,122]⟩] 9);clear O11;go_wp2_with fail
  generalize x14.alloc (.cells #[.string X.sl,.string X.sl,.string ⟨#[122,122]⟩] 9)=x11 at *;refine hK.out _ _ trivial ?_;clear hK K;refine hC.out _ _ _ _ _ rfl (by first|rfl|go_simp) (fun K hK=>?_);simp only [bare];go_wp2_with fail
  refine(some_any B (b+50) _ 3 [X.sl,X.sl,⟨#[122,122]⟩] x11 H11.row (by decide) (by decide) (by intro k hk;have:=(H11.lt k hk).1;omega) D11.str (by omega)).mono ?_;rintro e x12 ⟨s12,rfl,hs12,d12⟩;have D12:=D11.trans d12;have z12:=d12.size;have m12:=smFa hz.1 hs12;have H14:=H14.str d12.gr;clear d12 hs12 H11;go_wp2_with fail
  refine hK.out _ _ trivial ?_;clear hK K;refine hC.out _ _ _ _ _ rfl (by first|rfl|go_simp) (fun K hK=>?_);simp only [bare];go_wp2_with fail
  refine(some_any B (b+51) _ 4 [⟨#[97,110,110]⟩,⟨#[98,101,97]⟩,⟨#[122,101,100]⟩,⟨#[]⟩] x12 H14.row (by decide) (by decide) (by intro k hk;have:=(H14.lt k hk).1;omega) D12.str (by omega)).mono ?_;rintro e x15 ⟨s15,rfl,hs15,d15⟩;have D15:=D12.trans d15;have z15:=d15.size;have m15:=smFb hs15;clear d15 hs15 H14;go_wp2_with fail
  refine hK.out _ _ trivial ?_;clear hK K;refine hH.out _ _ _ _ _ rfl (fun K hK=>?_);go_simp;refine hK _ ?_;clear hK K;refine hH.out _ _ _ _ _ rfl (fun K hK=>?_);go_simp;refine hK _ ?_;clear hK K;refine hC.out _ _ _ _ _ rfl (by first|rfl|go_simp) (fun K hK=>?_);simp only [bare];have h15:=hW.drawn D15;have u18:=(World.cell?_of_block (a:=⟨g,i.toNat*2,none⟩) (D15.gr.block g hgl (by simpa using hgB))).trans t0;have f18:=owns_frozenC h15.o (i.toNat*2);have u21:=(World.cell?_of_block (a:=⟨g,i.toNat*2+1,none⟩) (D15.gr.block g hgl (by simpa using hgB))).trans t1;have u21:=(World.cell?_setCell_other x15 ⟨g,i.toNat*2,none⟩ ⟨g,i.toNat*2+1,none⟩ (.string s12) (by simp)).trans u21;have f21:=owns_frozenC (owns_setC h15.o (i.toNat*2) (by omega) (.string s12)) (i.toNat*2+1);have HF:=Lib.hid (h15.put rfl i.toNat (by omega) s12 s15 m12 m15);clear h15 D15 D14 D12 D11;go_wp2_with fail
  generalize x15.setCell ⟨g,i.toNat*2,none⟩ (.string s12)=x18 at *;refine hK.out _ _ trivial ?_;clear hK K;refine hH.out _ _ _ _ _ rfl (fun K hK=>?_);go_simp;refine hK _ ?_;clear hK K;refine hH.out _ _ _ _ _ rfl (fun K hK=>?_);go_simp;refine hK _ ?_;clear hK K;refine hC.out _ _ _ _ _ rfl (by first|rfl|go_simp) (fun K hK=>?_);simp only [bare];go_wp2_with fail
  refine hK.out _ _ trivial ?_;clear hK K;refine hE_.out _ _ ?_;clear hH hC hA_ hE_ W;show JS _ _;refine hS _ _ ?_;exact⟨_,List.length_modify _ _ _,HF.out,Fr.of _ rfl ⟨rfl,trivial⟩⟩
 refine hC.out _ _ _ _ _ rfl (by first|rfl|go_simp) (fun K hK=>?_);simp only [bare];have u10:=(World.cell?_of_block (a:=⟨g,i.toNat*2,none⟩) (D14.gr.block g hgl (by simpa using hgB))).trans t0;go_wp2_with fail
 clear u10;refine hK.out _ _ trivial ?_;clear hK K;refine hC.out _ _ _ _ _ rfl (by first|rfl|go_simp) (fun K hK=>?_);simp only [bare];have u6:=(World.cell?_of_block (a:=⟨g,i.toNat*2,none⟩) (D14.gr.block g hgl (by simpa using hgB))).trans t0;go_wp2_with fail
 clear u6;refine hK.out _ _ trivial ?_;clear hK K;refine hC.out _ _ _ _ _ rfl (by first|rfl|go_simp) (fun K hK=>?_);simp only [bare];have O11:=owns_lit x14 x14.heap.size 9 #[.string X.sl,.string X.sl,.string ⟨#[122,122]⟩] 3 (by decide) rfl (Nat.le_refl _);have D11:Drawn B w (x14.alloc (.cells #[.string X.sl,.string X.sl,.string ⟨#[122,122]⟩] 9)) (b+50):=D14.alloc _;have H11:RHd 9 B (x14.alloc (.cells #[.string X.sl,.string X.sl,.string ⟨#[122,122]⟩] 9)).heap.size (x14.alloc (.cells #[.string X.sl,.string X.sl,.string ⟨#[122,122]⟩] 9)) 3 (.slice (some ⟨x14.heap.size,0,none⟩) 3 3) (cellsOf encSt [X.sl,X.sl,⟨#[122,122]⟩]):=RHd.of_owns O11 D14.str.lt;have z11:x14.heap.size≤(x14.alloc (.cells #[.string X.sl,.string X.sl,.string ⟨#[122,122]⟩] 9)).heap.size:=by simp
 have H14:=H14.alloc (.cells #[.string X.sl,.string X.sl,.string ⟨#[122,122]⟩] 9);clear O11;go_wp2_with fail
 generalize x14.alloc (.cells #[.string X.sl,.string X.sl,.string ⟨#[122,122]⟩] 9)=x11 at *;refine hK.out _ _ trivial ?_;clear hK K;refine hC.out _ _ _ _ _ rfl (by first|rfl|go_simp) (fun K hK=>?_);simp only [bare];go_wp2_with fail
 refine(some_any B (b+50) _ 3 [X.sl,X.sl,⟨#[122,122]⟩] x11 H11.row (by decide) (by decide) (by intro k hk;have:=(H11.lt k hk).1;omega) D11.str (by omega)).mono ?_;rintro e x12 ⟨s12,rfl,hs12,d12⟩;have D12:=D11.trans d12;have z12:=d12.size;have m12:=smFa hz.1 hs12;have H14:=H14.str d12.gr;clear d12 hs12 H11;go_wp2_with fail
 refine hK.out _ _ trivial ?_;clear hK K;refine hC.out _ _ _ _ _ rfl (by first|rfl|go_simp) (fun K hK=>?_);simp only [bare];go_wp2_with fail
 refine(some_any B (b+51) _ 4 [⟨#[97,110,110]⟩,⟨#[98,101,97]⟩,⟨#[122,101,100]⟩,⟨#[]⟩] x12 H14.row (by decide) (by decide) (by intro k hk;have:=(H14.lt k hk).1;omega) D12.str (by omega)).mono ?_;rintro e x15 ⟨s15,rfl,hs15,d15⟩;have D15:=D12.trans d15;have z15:=d15.size;have m15:=smFb hs15;clear d15 hs15 H14;go_wp2_with fail
 refine hK.out _ _ trivial ?_;clear hK K;refine hH.out _ _ _ _ _ rfl (fun K hK=>?_);go_simp;refine hK _ ?_;clear hK K;refine hH.out _ _ _ _ _ rfl (fun K hK=>?_);go_simp;refine hK _ ?_;clear hK K;refine hC.out _ _ _ _ _ rfl (by first|rfl|go_simp) (fun K hK=>?_);simp only [bare];have h15:=hW.drawn D15;have u18:=(World.cell?_of_block (a:=⟨g,i.toNat*2,none⟩) (D15.gr.block g hgl (by simpa using hgB))).trans t0;have f18:=owns_frozenC h15.o (i.toNat*2);have u21:=(World.cell?_of_block (a:=⟨g,i.toNat*2+1,none⟩) (D15.gr.block g hgl (by simpa using hgB))).trans t1;have u21:=(World.cell?_setCell_other x15 ⟨g,i.toNat*2,none⟩ ⟨g,i.toNat*2+1,none⟩ (.string s12) (by simp)).trans u21;have f21:=owns_frozenC (owns_setC h15.o (i.toNat*2) (by omega) (.string s12)) (i.toNat*2+1);have HF:=Lib.hid (h15.put rfl i.toNat (by omega) s12 s15 m12 m15);clear h15 D15 D14 D12 D11;go_wp2_with fail
 generalize x15.setCell ⟨g,i.toNat*2,none⟩ (.string s12)=x18 at *;refine hK.out _ _ trivial ?_;clear hK K;refine hH.out _ _ _ _ _ rfl (fun K hK=>?_);go_simp;refine hK _ ?_;clear hK K;refine hH.out _ _ _ _ _ rfl (fun K hK=>?_);go_simp;refine hK _ ?_;clear hK K;refine hC.out _ _ _ _ _ rfl (by first|rfl|go_simp) (fun K hK=>?_);simp only [bare];go_wp2_with fail
 refine hK.out _ _ trivial ?_;clear hK K;refine hE_.out _ _ ?_;clear hH hC hA_ hE_ W;show JS _ _;refine hS _ _ ?_;exact⟨_,List.length_modify _ _ _,HF.out,Fr.of _ rfl ⟨rfl,trivial⟩⟩
theorem fl20 (hb:b≤20000)(v7:Value)(Fs:List FlD)(hn:Fs.length≤4):T3 Tryz.prog (fun a w=>(FlO B (b+52) w0 v7 Fs w)∧Fr 105 [(7,v7)] a) (sel [1,1,1,1,1,0] fjM) (fun a w=>(FlO B (b+52) w0 v7 Fs w)∧Fr 105 [(6,v7)] a) No 9 No:=by
 refine T3.leaf ?_;rintro Q JS JX JT K hS hK hX hE hT hR a w ⟨hW,⟨fr,rfl,q7,_⟩⟩;have HW:=Lib.hid hW;obtain⟨p3,c3,hv3⟩:=(Row.of_owns hW.o).shape;subst hv3;clear hW;rw [fr_fjM,fe q7];clear q7;conv=>arg 2;whnf
 go_wp2_with fail
 refine Met.intro (hS _ _ ?_);exact⟨HW.out,Fr.of _ rfl ⟨rfl,trivial⟩⟩
end
section
variable (B b bs bx:Nat)(w0 ws w1:World)(c1 c:Nat)(p1 pL:Option Addr)(S:List SlD)(L:List ScD)
theorem fl_all (hSl:SlO B bs ws (.slice p1 S.length c1) S w0)(hL:ScO B bx w1 (.slice pL L.length c) L w0)(hS4:S.length≤4)(hL6:L.length≤6)(hb:b≤20000):T3 Tryz.prog (fun a w=>(Str B w b∧IsW w0 w)∧Fr 105 [(0,.pointer (some ⟨B,0,none⟩)),(1,.slice p1 S.length c1),(2,.slice pL L.length c)] a) fjM No No 9 (fun a w=>∃(v7:Value) (Fs:List FlD),(Fs.length≤4)∧(FlO B (b+52) w0 v7 Fs w)∧Fr 105 [(6,v7)] a):=by
 refine T3.seq (s:=(sel [0] fjM)) (c:=(sel [1] fjM)) (T3.noT (fj0 B b w0 c1 c p1 pL S L hb)) ?_;refine T3.ex fun A1=>?_
 refine T3.seq (s:=(sel [1,0] fjM)) (c:=(sel [1,1] fjM)) (T3.noT (fj1 B b w0 c1 c p1 pL S L hb A1)) ?_;refine T3.seq (s:=(sel [1,1,0] fjM)) (c:=(sel [1,1,1] fjM)) (T3.noT (fj2 B b w0 c1 c p1 pL S L hb A1)) ?_;refine T3.ex fun m=>?_
 refine T3.seq (s:=(sel [1,1,1,0] fjM)) (c:=(sel [1,1,1,1] fjM)) (T3.noT (T3.seq (s:=(sel [1,1,1,0,0] fjM)) (c:=(sel [1,1,1,0,1] fjM)) (fj3 B b bs bx w0 ws w1 c1 c p1 pL S L hSl hL hS4 hL6 hb A1 m) (fjAloop B b bs bx w0 ws w1 c1 c p1 pL S L hSl hL hS4 hL6 hb A1 m))) ?_;refine T3.ex fun v7=>T3.ex fun Fs=>T3.pure fun hn=>?_
 refine T3.seq (s:=(sel [1,1,1,1,0] fjM)) (c:=(sel [1,1,1,1,1] fjM)) (S:=(fun a w=>∃(v7:Value) (Fs:List FlD),(Fs.length≤4)∧(FlO B (b+52) w0 v7 Fs w)∧Fr 105 [(7,v7)] a)) ?_ (T3.ex fun v7=>T3.ex fun Fs=>T3.pure fun hn=>?_)
 ·refine T3.test (s:=(sel [1,1,1,1,0,0] fjM)) (x:=(sel [1,1,1,1,0,1,2] fjM)) (y:=.skip) (C:=fun q=>(q=true→0<Fs.length)) (W:=fun w=>FlO B (b+49) w0 v7 Fs w) (by decide) (T3.noT (fl17 B b w0 hb v7 Fs hn)) ?_ (T3.skip ?_)
  ·refine T3.pre (R:=fun a w=>(0<Fs.length)∧∃(g:Nat) (c:Nat),(FlO B (b+49) w0 (.slice (some ⟨g,0,none⟩) Fs.length c) Fs w)∧Fr 105 [(0,.pointer (some ⟨B,0,none⟩)),(7,.slice (some ⟨g,0,none⟩) Fs.length c)] a) (T3.pure fun hpos=>T3.ex fun g=>T3.ex fun c=>?_) ?_
   ·refine T3.seq (s:=(sel [1,1,1,1,0,1,2,0] fjM)) (c:=(sel [1,1,1,1,0,1,2,1] fjM)) (T3.noT (fl18 B b w0 hb v7 Fs hn hpos g c)) (T3.ex fun i=>T3.pure fun hi=>?_);refine T3.post (T3.noT (fl19 B b w0 hb v7 Fs hn hpos g c i hi)) ?_;rintro a w ⟨S',hl,hW,hF⟩;exact⟨_,S',by omega,hW,hF⟩
   ·rintro a w ⟨hF,hq,hW⟩;obtain⟨g,c,hv,_⟩:=owns_shape hW.o (by have:=hq rfl;omega);subst hv;exact⟨hq rfl,g,c,hW,hF.sub (by simp)⟩
  ·rintro a w ⟨hq,hW,hF⟩;exact⟨v7,Fs,hn,hW.mono (Nat.add_le_add_left (by decide:49≤52) b),hF.sub (by simp)⟩
 exact T3.seq (s:=(sel [1,1,1,1,1,0] fjM)) (c:=.ret) (T3.noT (fl20 B b w0 hb v7 Fs hn)) (T3.ret fun a w q=>⟨v7,Fs,hn,q⟩)
theorem fills_any (hSl:SlO B bs ws (.slice p1 S.length c1) S w0)(hL:ScO B bx w1 (.slice pL L.length c) L w0)(hS4:S.length≤4)(hL6:L.length≤6)(hb:b≤20000)(hStr:Str B w0 b):Calls Tryz.prog 7 #[.pointer (some ⟨B,0,none⟩),.slice p1 S.length c1,.slice pL L.length c] w0 fun e w'=>∃(v7:Value) (Fs:List FlD),e=.returned v7∧Fs.length≤4∧FlO B (b+52) w0 v7 Fs w':=by
 have hall:=fl_all B b bs bx w0 ws w1 c1 c p1 pL S L hSl hL hS4 hL6 hb
 go_enter Tryz.func7,Tryz.ntmps7
 refine T3.done (s:=fjM) hall ⟨⟨hStr,rfl⟩,Fr.of _ rfl ⟨rfl,rfl,rfl,trivial⟩⟩ ?_;rintro a w ⟨v7,L,hn,hW,fr,rfl,q2,_⟩;rw [fr_fjM,show fr 6=_ from q2]
 go_ret
 exact⟨v7,L,rfl,hn,hW⟩
end
end Go.Proofs.YtnmdpphddimfbaaGreat
/-
  slices.DeleteFunc at strings with any function; the functions that BenchesSubbed gives it; equal fills are told equal. Conditions: the bounds that each theorem names.
-/
namespace Go.Bw
open Go.RowKit
end Go.Bw
namespace Go.Proofs.YtnmdpphddimfbaaGreat
open Go.RowKit Go.Bw
/-- Strings that the call may store into. -/
structure DfW (M g n cap:Nat)(w0:World)(xs:List ByteArray)(w:World):Prop where
 b:w0.grownBy w (some g)
 hM:M≤w0.heap.size
 o:w.ownsRow M 9 1 (.slice (some ⟨g,0,none⟩) n cap) n (cellsOf encSt xs)
 z:SmAll xs
 l:xs.length=n
theorem DfW.below {M g n cap:Nat}{w0 w w':World}{xs:List ByteArray}(h:DfW M g n cap w0 xs w)(b:Below w.heap.size w w'):DfW M g n cap w0 xs w' :=
 ⟨grown_trans h.b (grown_of_below b),h.hM,owns_below h.o b (Nat.le_refl _),h.z,h.l⟩
theorem cellsSt_set (xs:List ByteArray)(i:Nat)(x:ByteArray):(cellsOf encSt xs).set i (.string x)=cellsOf encSt (xs.set i x):=by rw [cells_map,cells_map,List.map_set]
section
variable {M g n cap:Nat}
theorem DfW.put {w0 w:World}{xs:List ByteArray}(h:DfW M g n cap w0 xs w)(i:Nat)(hi:i<n)(x:ByteArray)(hx:Sm x):DfW M g n cap w0 (xs.set i x) (w.setCell ⟨g,i,none⟩ (.string x)):=by
 refine⟨grown_trans h.b (grown_setCell w g i _),h.hM,?_,fun s hs=>?_,by rw [List.length_set];exact h.l⟩
 ·have:=owns_setC h.o i (by omega) (.string x)
  rwa [cellsSt_set]at this
 ·rcases List.mem_or_eq_of_mem_set hs with hs|rfl
  ·exact h.z s hs
  ·exact hx
theorem DfW.clear {w0:World}:∀(k i:Nat) (w:World) (xs:List ByteArray),DfW M g n cap w0 xs w→i+k≤n→∃ys,DfW M g n cap w0 ys (w.setCells g i (List.replicate k (.string ⟨#[]⟩)))
 | 0,i,w,xs,h,_=>⟨xs,h⟩
 | k+1,i,w,xs,h,hk=>DfW.clear k (i+1) _ _ (h.put i (by omega) ⟨#[]⟩ (by decide)) (by omega)
theorem DfW.cell {w0 w:World}{xs:List ByteArray}(h:DfW M g n cap w0 xs w){j:Int}(h0:0≤j)(h1:j<n):w.cell? ⟨g,j.toNat,none⟩=some (.string (geta xs j))∧Sm (geta xs j)∧w.frozen? ⟨g,j.toNat,none⟩=false:=by
 have hl:=h.l;refine⟨?_,h.z _ (geta_mem h0 (by omega)),owns_frozenC h.o _⟩;subst hl;obtain⟨bz,off,hp,_,_,hcell⟩:=Row.nonnil ((Row.of_owns h.o).mono (Nat.zero_le _)) (by omega);simp only [Option.some.injEq,Addr.mk.injEq]at hp;obtain⟨rfl,rfl,_⟩:=hp;have t0:=Row.elAt encSt_length hcell h0 (by omega) 0 _ (by decide) rfl;rw [Nat.zero_add,Nat.mul_one,Nat.add_zero]at t0;exact t0
end
end Go.Proofs.YtnmdpphddimfbaaGreat
/-
  Line-ups: slots that the stream hands out, whole. Conditions: the bounds that each theorem names.
-/
namespace Go.Proofs.YtnmdpphddimfbaaGreat
open Go.RowKit Go.Bw
section
variable (B b:Nat)(w0:World)
theorem st5 (hb:b≤40000)(v3:Value)(S:List SlD):T3 Tryz.prog (fun a w=>(SlO B (b+25) w0 v3 S w)∧Fr 41 [(0,.pointer (some ⟨B,0,none⟩)),(3,v3)] a) (sel [1,1,1,0,0] slM) (fun a w=>∃q,Fr 41 ((39,.bool q)::[(0,.pointer (some ⟨B,0,none⟩)),(3,v3)]) a∧(True∧SlO B (b+26) w0 v3 S w)) No 9 No:=by
 refine T3.leaf ?_;rintro Q JS JX JT K hS hK hX hE hT hR a w ⟨hW,⟨fr,rfl,q0,q3,_⟩⟩;obtain⟨p3,c3,hv3⟩:=(Row.of_owns hW.o).shape;subst hv3;rw [fr_slM,fe q0,fe q3];clear q0 q3;conv=>arg 2;whnf
 go_wp2_with fail
 refine(flip_d B (b+25) _ w hW.d.str rfl (by omega)).mono ?_;rintro e w1 ⟨q,rfl,hd⟩;have HW:=Lib.hid (hW.drawn hd);clear hd hW;go_wp2_with fail
 refine Met.intro (hS _ _ ?_);exact⟨_,Fr.of _ rfl ⟨rfl,rfl,rfl,trivial⟩,trivial,HW.out⟩
theorem st6 (hb:b≤40000)(v3:Value)(S:List SlD):T3 Tryz.prog (fun a w=>(SlO B (b+26) w0 v3 S w)∧Fr 41 [(0,.pointer (some ⟨B,0,none⟩)),(3,v3)] a) (sel [1,1,1,0,1,2,0] slM) (fun a w=>(SlO B (b+26) w0 (.slice none 0 0) [] w)∧Fr 41 [(2,.slice none 0 0)] a) No 9 No:=by
 refine T3.leaf ?_;rintro Q JS JX JT K hS hK hX hE hT hR a w ⟨hW,⟨fr,rfl,q0,q3,_⟩⟩;have HW:=Lib.hid (SlO.nil hW.d hW.hB);obtain⟨p3,c3,hv3⟩:=(Row.of_owns hW.o).shape;subst hv3;clear hW;rw [fr_slM,fe q0,fe q3];clear q0 q3;conv=>arg 2;whnf
 go_wp2_with fail
 refine Met.intro (hS _ _ ?_);exact⟨HW.out,Fr.of _ rfl ⟨rfl,trivial⟩⟩
theorem st7 (hb:b≤40000)(v3:Value)(S:List SlD):T3 Tryz.prog (fun a w=>(SlO B (b+26) w0 v3 S w)∧Fr 41 [(0,.pointer (some ⟨B,0,none⟩)),(3,v3)] a) (sel [1,1,1,1,0] slM) (fun a w=>(SlO B (b+26) w0 v3 S w)∧Fr 41 [(2,v3)] a) No 9 No:=by
 refine T3.leaf ?_;rintro Q JS JX JT K hS hK hX hE hT hR a w ⟨hW,⟨fr,rfl,q0,q3,_⟩⟩;have HW:=Lib.hid hW;obtain⟨p3,c3,hv3⟩:=(Row.of_owns hW.o).shape;subst hv3;clear hW;rw [fr_slM,fe q0,fe q3];clear q0 q3;conv=>arg 2;whnf
 go_wp2_with fail
 refine Met.intro (hS _ _ ?_);exact⟨HW.out,Fr.of _ rfl ⟨rfl,trivial⟩⟩
theorem st_all (hb:b≤40000):T3 Tryz.prog (fun a w=>(Str B w b∧IsW w0 w)∧Fr 41 [(0,.pointer (some ⟨B,0,none⟩))] a) slM No No 9 (fun a w=>∃(v3:Value) (S:List SlD),(S.length≤4)∧(SlO B (b+26) w0 v3 S w)∧Fr 41 [(2,v3)] a):=by
 refine T3.seq (s:=(sel [0] slM)) (c:=(sel [1] slM)) (T3.noT (st0 B b w0 hb)) ?_;refine T3.seq (s:=(sel [1,0] slM)) (c:=(sel [1,1] slM)) (T3.noT (st1 B b w0 hb)) ?_;refine T3.ex fun v3=>T3.ex fun S=>T3.pure fun hn=>?_
 refine T3.seq (s:=(sel [1,1,0] slM)) (c:=(sel [1,1,1] slM)) (S:=(fun a w=>∃(v3:Value) (S:List SlD),(S.length≤4)∧(SlO B (b+25) w0 v3 S w)∧Fr 41 [(0,.pointer (some ⟨B,0,none⟩)),(3,v3)] a)) ?_ (T3.ex fun v3=>T3.ex fun S=>T3.pure fun hn=>?_)
 ·refine T3.test (s:=(sel [1,1,0,0] slM)) (x:=(sel [1,1,0,1,2] slM)) (y:=.skip) (C:=fun _=>True) (W:=fun w=>SlO B (b+22) w0 v3 S w) (by decide) (T3.noT (st2 B b w0 hb v3 S hn)) ?_ (T3.skip ?_)
  ·refine T3.pre (R:=fun a w=>∃(g:Nat) (c:Nat),(SlO B (b+22) w0 (.slice (some ⟨g,0,none⟩) S.length c) S w)∧Fr 41 [(0,.pointer (some ⟨B,0,none⟩)),(3,.slice (some ⟨g,0,none⟩) S.length c)] a) (T3.ex fun g=>T3.ex fun c=>?_) ?_
   ·refine T3.seq (s:=(sel [1,1,0,1,2,0] slM)) (c:=(sel [1,1,0,1,2,1] slM)) (T3.noT (st3 B b w0 hb v3 S hn g c)) (T3.ex fun i=>T3.pure fun hi=>?_);refine T3.post (T3.noT (st4 B b w0 hb v3 S hn g c i hi)) ?_;rintro a w ⟨S',hl,hW,hF⟩;exact⟨_,S',by have:=hn.h;omega,hW,hF⟩
   ·rintro a w ⟨hF,hq,hW⟩;obtain⟨g,c,hv,_⟩:=owns_shape hW.o (by have:=hn.h;omega);subst hv;exact⟨g,c,hW,hF.sub (by simp)⟩
  ·rintro a w ⟨hq,hW,hF⟩;exact⟨v3,S,hn.h.2,hW.mono (Nat.add_le_add_left (by decide:22≤25) b),hF.sub (by simp)⟩
 refine T3.seq (s:=(sel [1,1,1,0] slM)) (c:=(sel [1,1,1,1] slM)) (S:=(fun a w=>(SlO B (b+26) w0 v3 S w)∧Fr 41 [(0,.pointer (some ⟨B,0,none⟩)),(3,v3)] a)) ?_ ?_
 ·refine T3.test (s:=(sel [1,1,1,0,0] slM)) (x:=(sel [1,1,1,0,1,2] slM)) (y:=.skip) (C:=fun _=>True) (W:=fun w=>SlO B (b+26) w0 v3 S w) (by decide) (T3.noT (st5 B b w0 hb v3 S)) ?_ (T3.skip ?_)
  ·refine T3.pre (R:=(fun a w=>(SlO B (b+26) w0 v3 S w)∧Fr 41 [(0,.pointer (some ⟨B,0,none⟩)),(3,v3)] a)) ?_ (fun a w q=>⟨q.2.2,q.1.tail⟩);exact T3.seq (s:=(sel [1,1,1,0,1,2,0] slM)) (c:=.ret) (T3.noT (st6 B b w0 hb v3 S)) (T3.ret fun a w q=>⟨_,[],Nat.zero_le _,q⟩)
  ·rintro a w ⟨hq,hW,hF⟩;exact⟨hW,hF⟩
 exact T3.seq (s:=(sel [1,1,1,1,0] slM)) (c:=.ret) (T3.noT (st7 B b w0 hb v3 S)) (T3.ret fun a w q=>⟨v3,S,hn,q⟩)
theorem slotsS_any (hS:Str B w0 b)(hb:b≤40000):Calls Tryz.prog 5 #[.pointer (some ⟨B,0,none⟩)] w0 fun e w'=>∃(v3:Value) (S:List SlD),e=.returned v3∧S.length≤4∧SlO B (b+26) w0 v3 S w':=by
 have hall:=st_all B b w0 hb
 go_enter Tryz.func5,Tryz.ntmps5
 refine T3.done (s:=slM) hall ⟨⟨hS,rfl⟩,Fr.of _ rfl ⟨rfl,trivial⟩⟩ ?_;rintro a w ⟨v3,L,hn,hW,fr,rfl,q2,_⟩;rw [fr_slM,fe q2]
 go_ret
 exact⟨v3,L,rfl,hn,hW⟩
end
end Go.Proofs.YtnmdpphddimfbaaGreat
/-
  Lines: the program's and the reference's look at them. Conditions: strings and numbers are no greater than Go's.
-/
namespace Go.Bw
open Go.RowKit
/-- A statistic: its name, how often. -/
structure StatL where
 name:ByteArray
 count:Int
instance:Inhabited StatL:=⟨⟨ByteArray.empty,0⟩⟩
def encT (t:StatL):List Value:=[.string t.name,.int .i64 t.count]
theorem encT_length (t:StatL):(encT t).length=2:=rfl
/-- Its parts are no greater than Go's. -/
def StatOk (t:StatL):Prop:=t.name.size≤9223372036854775807
end Go.Bw
namespace Go.Proofs.YtnmdpphddimfbaaGreat
open Go.RowKit Go.Bw
def statAt (l:List StatL)(i:Int):Int :=
 if keyB (geta l i).name=false then 5 else if outB (geta l i).count (-100000) 100000=true then 1 else if 0<i∧leB (geta l i).name (geta l (i-1)).name=true then 7 else 0
def lineE (p:ByteArray)(wk:Int)(l:List StatL):Int :=
 if keyB p=false then 5 else if outB wk 1 60=true then 1 else if 40<l.length then 2 else firstErr (statAt l) l.length
/-- The name before. -/
def lastT (l:List StatL)(i:Int):ByteArray:=if i≤0 then ByteArray.empty else(geta l (i-1)).name
theorem week_prog (n:Int)(b:Bool)(h:(!outB n 1 60)=b)(w:World):Calls Tryz.prog 123 #[.int .i64 n] w fun e w'=>e=.returned (.bool b)∧w=w':=by
 have ho:outB n 1 60=!b:=by rw [←h];simp
 have ho:=Lib.hid ho;clear h
 go_enter Tryz.func123,Tryz.ntmps123
 go_wp2_with (go_at_call 101;refine(out_is _ _ _ _ ho.out _).mono ?_;rintro e w1 ⟨rfl,rfl⟩)
 go_ret
 exact⟨ret_bool (by simp),rfl⟩
set_option maxHeartbeats 2000000 in
theorem line_prog (p:ByteArray)(wk:Int)(v:Value)(n:Nat)(l:List StatL)(base:Nat)(w:World)(hz0:p.size≤9223372036854775807)(h:Row w base 2 v n (cellsOf encT l))(hz:∀t∈l,StatOk t):
  Calls Tryz.prog 116 #[.agg #[.string p,.int .i64 wk,v]] w fun e w'=>e=.returned (.int .i64 (lineE p wk l))∧Below w.heap.size w w':=by
 obtain⟨hl,hc⟩:=h.els encT_length (by decide);subst hl;obtain⟨p0,c0,rfl⟩:=h.shape;have hw0:=Below.refl w.heap.size w;clear h;cases hkb:keyB p
 ·have he:=Lib.hid (show lineE p wk l=5 by simp [lineE,hkb]);have hkb:=Lib.hid hkb;clear hc
  go_enter Tryz.func116,Tryz.ntmps116
  go_wp2_with (go_at_call 64;refine(key_is _ _ hkb.out _ hz0).mono ?_;rintro e w1 ⟨rfl,rfl⟩)
  go_ret
  exact⟨ret_int he.out.symm,hw0.alloc (Nat.le_refl _) _⟩
 cases hob:outB wk 1 60
 rotate_left
 ·have he:=Lib.hid (show lineE p wk l=1 by simp [lineE,hkb,hob]);have hkb:=Lib.hid hkb;have hwb:=Lib.hid (show(!outB wk 1 60)=false by rw [hob];rfl);clear hc hob
  go_enter Tryz.func116,Tryz.ntmps116
  go_wp2_with first|(go_at_call 64;refine(key_is _ _ hkb.out _ hz0).mono ?_;rintro e w1 ⟨rfl,rfl⟩)|(go_at_call 123;refine(week_prog _ _ hwb.out _).mono ?_;rintro e w1 ⟨rfl,rfl⟩)
  go_ret
  exact⟨ret_int he.out.symm,hw0.alloc (Nat.le_refl _) _⟩
 by_cases h40:40<l.length
 ·have he:=Lib.hid (show lineE p wk l=2 by simp [lineE,hkb,hob,h40]);have hkb:=Lib.hid hkb;have hwb:=Lib.hid (show(!outB wk 1 60)=true by rw [hob];rfl);clear hc hob
  go_enter Tryz.func116,Tryz.ntmps116
  go_wp2_with first|(go_at_call 64;refine(key_is _ _ hkb.out _ hz0).mono ?_;rintro e w1 ⟨rfl,rfl⟩)|(go_at_call 123;refine(week_prog _ _ hwb.out _).mono ?_;rintro e w1 ⟨rfl,rfl⟩)
  go_ret
  exact⟨ret_int he.out.symm,hw0.alloc (Nat.le_refl _) _⟩
 have he:=Lib.hid (show lineE p wk l=firstErr (statAt l) l.length by simp [lineE,hkb,hob,h40])
 replace hkb:=Lib.hid hkb
 have hwb:=Lib.hid (show(!outB wk 1 60)=true by rw [hob];rfl);clear hob
 go_enter Tryz.func116,Tryz.ntmps116
 go_wp2_with first|(go_at_call 64;refine(key_is _ _ hkb.out _ hz0).mono ?_;rintro e w1 ⟨rfl,rfl⟩)|(go_at_call 123;refine(week_prog _ _ hwb.out _).mono ?_;rintro e w1 ⟨rfl,rfl⟩)
 have b0:=cells_new w #[.string p,.int .i64 wk,.slice p0 l.length c0] 116 2 _ rfl
 replace hw0:=hw0.alloc (Nat.le_refl _) (.cells #[.string p,.int .i64 wk,.slice p0 l.length c0] 116)
 have hlt0:w.heap.size<(w.alloc (.cells #[.string p,.int .i64 wk,.slice p0 l.length c0] 116)).heap.size:=by simp
 generalize w.alloc (.cells #[.string p,.int .i64 wk,.slice p0 l.length c0] 116)=W at *
 go_loopw [23] (fun i wr=>∃k:Int,0≤k∧k≤l.length∧NoErr (statAt l) k∧i=.int .i64 k∧Below W.heap.size W wr) (fun i  _=>l.length-(intOf i).toNat)
 case atStart=>exact⟨0,by omega,by omega,NoErr.zero _,rfl,Below.refl _ _⟩
 case round =>
  obtain⟨k,hk0,hk1,hok,rfl,hb⟩:=hrel
  by_cases hlt:k<l.length
  ·rcases hc with ⟨_,hc⟩|⟨b,off,cap,hv,_,hbs,hnc,hcm,hcell⟩
   ·omega
   simp only [Value.slice.injEq]at hv;obtain⟨rfl,_,rfl⟩:=hv;have hbW:b<W.heap.size:=by have:=hw0.size;omega
   have tr:∀o u,w.cell? ⟨b,o,none⟩=some u→wr.cell? ⟨b,o,none⟩=some u:=fun o u h=>((hb.cell (p:=⟨b,o,none⟩) hbW).trans (hw0.cell (p:=⟨b,o,none⟩) hbs)).trans h
   have g0:=tr _ _ (hcell k hk0 hlt 0 _ rfl);have g1:=tr _ _ (hcell k hk0 hlt 1 _ rfl);have b0:=(hb.cell (p:=⟨w.heap.size,2,none⟩) hlt0).trans b0;rw [Nat.add_zero]at g0;have hz1:=hz _ (geta_mem hk0 hlt);unfold StatOk at hz1;have hex:=Lib.hid (show statAt l k=if keyB (geta l k).name=false then 5 else if outB (geta l k).count (-100000) 100000=true then 1 else if 0<k∧leB (geta l k).name (geta l (k-1)).name=true then 7 else 0 from rfl);have hc0:k≤0∨wr.cell? ⟨b,off+(k.toNat-1)*2,none⟩=some (.string (geta l (k-1)).name):=by
    by_cases hp:0<k
    ·have:=tr _ _ (hcell (k-1) (by omega) (by omega) 0 _ rfl);rw [Nat.add_zero,show(k-1).toNat=k.toNat-1 by omega]at this;exact .inr this
    ·exact .inl (by omega)
   have hsz:=hb.size;have hbr:b<wr.heap.size:=by omega
   have hBr:w.heap.size<wr.heap.size:=by omega
   have hst:=Lib.hid (fun h=>hok.step (f:=statAt l) (i:=k) h);generalize (geta l k).name=s1 at *;generalize (geta l k).count=n1 at *
   go_upto_region 10 with fail
   have d0:=cells_new wr #[.string s1,.int .i64 n1] 113 0 _ rfl;have d1:=cells_new wr #[.string s1,.int .i64 n1] 113 1 _ rfl;have hb2:=hb.alloc hsz (.cells #[.string s1,.int .i64 n1] 113);have b0:=(World.cell?_of_block (a:=⟨w.heap.size,2,none⟩) ((World.grownBy_alloc wr (.cells #[.string s1,.int .i64 n1] 113) none).block _ hBr (by simp))).trans b0
   replace hc0:k≤0∨(wr.alloc (.cells #[.string s1,.int .i64 n1] 113)).cell? ⟨b,off+(k.toNat-1)*2,none⟩=some (.string (geta l (k-1)).name):=by
    rcases hc0 with hc0|hc0
    ·exact .inl hc0
    ·exact .inr ((World.cell?_of_block (a:=⟨b,off+(k.toNat-1)*2,none⟩) ((World.grownBy_alloc wr (.cells #[.string s1,.int .i64 n1] 113) none).block _ hbr (by simp))).trans hc0)
   generalize wr.alloc (.cells #[.string s1,.int .i64 n1] 113)=W2 at *;generalize wr.heap.size=g at *;clear hcell tr g0 g1 hz;cases hkn:keyB s1
   ·have hg:=Lib.hid (show statAt l k=5 by rw [hex.out,if_pos hkn]);have hf:=Lib.hid (firstErr_hit hok hk0 hlt (by rw [hg.out];decide));have hkn:=Lib.hid hkn;go_wp2_with (go_at_call 64;refine(key_is _ _ hkn.out _ hz1).mono ?_;rintro e w2 ⟨rfl,rfl⟩)
    go_ret
    exact⟨ret_int (by rw [he.out];show(5:Int)=firstErr _ _;rw [hf.out,hg.out]),hw0.trans (hb2.mono (Nat.le_of_lt hlt0))⟩
   cases hon:outB n1 (-100000) 100000
   rotate_left
   ·have hg:=Lib.hid (show statAt l k=1 by rw [hex.out,if_neg (by rw [hkn];decide),if_pos hon]);have hf:=Lib.hid (firstErr_hit hok hk0 hlt (by rw [hg.out];decide));have hkn:=Lib.hid hkn;have hon:=Lib.hid hon;go_wp2_with first|(go_at_call 64;refine(key_is _ _ hkn.out _ hz1).mono ?_;rintro e w2 ⟨rfl,rfl⟩)|(go_at_call 101;refine(out_is _ _ _ _ hon.out _).mono ?_;rintro e w2 ⟨rfl,rfl⟩)
    go_ret
    exact⟨ret_int (by rw [he.out];show(1:Int)=firstErr _ _;rw [hf.out,hg.out]),hw0.trans (hb2.mono (Nat.le_of_lt hlt0))⟩
   by_cases hp:0<k
   ·have hkb1:=hkn;have hon1:=hon;rcases hc0 with hc0|hc0
    ·omega
    have hkn:=Lib.hid hkn;have hon:=Lib.hid hon;cases hle:leB s1 (geta l (k-1)).name
    ·have hst:=Lib.hid (hst.out (by rw [hex.out,if_neg (by rw [hkb1];decide),if_neg (by rw [hon1];decide),if_neg (by rw [hle];simp)]));unfold leB at hle;clear hkb1 hon1;generalize (geta l (k-1)).name=s2 at *;go_wp2_with first|(go_at_call 64;refine(key_is _ _ hkn.out _ hz1).mono ?_;rintro e w2 ⟨rfl,rfl⟩)|(go_at_call 101;refine(out_is _ _ _ _ hon.out _).mono ?_;rintro e w2 ⟨rfl,rfl⟩)
     go_quiet (fail)
     go_wp2_with fail
     go_roundw
     case rel=>exact⟨k+1,by omega,by omega,hst.out,rfl,below_drewN hb2 _⟩
     case measure=>simp [intOf];omega
    ·have hg:=Lib.hid (show statAt l k=7 by rw [hex.out,if_neg (by rw [hkb1];decide),if_neg (by rw [hon1];decide),if_pos ⟨hp,hle⟩]);have hf:=Lib.hid (firstErr_hit hok hk0 hlt (by rw [hg.out];decide));unfold leB at hle;clear hkb1 hon1;generalize (geta l (k-1)).name=s2 at *;go_wp2_with first|(go_at_call 64;refine(key_is _ _ hkn.out _ hz1).mono ?_;rintro e w2 ⟨rfl,rfl⟩)|(go_at_call 101;refine(out_is _ _ _ _ hon.out _).mono ?_;rintro e w2 ⟨rfl,rfl⟩)
     go_quiet (fail)
     go_wp2_with fail
     go_ret
     exact⟨ret_int (by rw [he.out];show(7:Int)=firstErr _ _;rw [hf.out,hg.out]),below_drewN (hw0.trans (hb2.mono (Nat.le_of_lt hlt0))) _⟩
   ·have hst:=Lib.hid (hst.out (by rw [hex.out,if_neg (by rw [hkn];decide),if_neg (by rw [hon];decide),if_neg (fun h=>hp h.1)]));have hpb:decide (0<k)=false:=by simp;omega
    have hkn:=Lib.hid hkn;have hon:=Lib.hid hon;go_wp2_with first|(go_at_call 64;refine(key_is _ _ hkn.out _ hz1).mono ?_;rintro e w2 ⟨rfl,rfl⟩)|(go_at_call 101;refine(out_is _ _ _ _ hon.out _).mono ?_;rintro e w2 ⟨rfl,rfl⟩)
    go_quiet (fail)
    go_wp2_with fail
    go_roundw
    case rel=>exact⟨k+1,by omega,by omega,hst.out,rfl,below_drewN hb2 _⟩
    case measure=>simp [intOf];omega
  ·have hf:=Lib.hid (firstErr_none (f:=statAt l) (n:=l.length) (fun j h0 h1=>hok j h0 (by omega)));clear hc;go_wp2_with fail
   go_ret
   exact⟨ret_int (by rw [he.out,hf.out]),hw0.trans (hb.mono (Nat.le_of_lt hlt0))⟩
end Go.Proofs.YtnmdpphddimfbaaGreat
/-
  Rules: the program's and the reference's look at them. Conditions: strings and numbers are no greater than Go's.
-/
namespace Go.Bw
open Go.RowKit
structure RuleL where
 key:ByteArray
 stat:ByteArray
 pos:ByteArray
 kind:Int
 many:Int
 num:Int
 den:Int
instance:Inhabited RuleL:=⟨⟨ByteArray.empty,ByteArray.empty,ByteArray.empty,0,0,0,0⟩⟩
def encR (r:RuleL):List Value:=[.string r.key,.string r.stat,.string r.pos,.int .i64 r.kind,.int .i64 r.many,.int .i64 r.num,.int .i64 r.den]
theorem encR_length (r:RuleL):(encR r).length=7:=rfl
/-- Its parts are no greater than Go's. -/
structure RuleOk (r:RuleL):Prop where
 key:r.key.size≤9223372036854775807
 stat:r.stat.size≤9223372036854775807
 pos:r.pos.size≤9223372036854775807
 num0:-9223372036854775808≤r.num
 num1:r.num≤9223372036854775807
 den0:-9223372036854775808≤r.den
 den1:r.den≤9223372036854775807
/-- Block g holds a copy. -/
def CopyR (w:World)(g:Nat)(r:RuleL):Prop:=g<w.heap.size∧∀j u,(encR r)[j]?=some u→w.cell? ⟨g,j,none⟩=some u
theorem CopyR.below {w w':World}{g:Nat}{r:RuleL}(h:CopyR w g r)(b:Below w.heap.size w w'):CopyR w' g r :=
 ⟨Nat.lt_of_lt_of_le h.1 b.size,fun j u hu=>(b.cell (p:=⟨g,j,none⟩) h.1).trans (h.2 j u hu)⟩
theorem str_empty {s:ByteArray}(h:s.size=0):s.toList=[]:=by
 have:s.data.toList.length=0:=by simpa using h
 have:=List.length_eq_zero_iff.1 this
 simpa [ByteArray.toList_eq] using this
theorem str_full {s:ByteArray}(h:s.size≠0):s.toList.isEmpty=false:=by
 have:s.data.toList.length≠0:=by simpa using h
 have:s.data.toList≠[]:=fun e=>this (by rw [e];rfl)
 simpa [ByteArray.toList_eq] using this
end Go.Bw
namespace Go.Proofs.YtnmdpphddimfbaaGreat
open Go.RowKit Go.Bw
def nameB (r:RuleL):Bool:=!keyB r.key || !keyB r.stat || (decide (r.pos.size≠0)&&!keyB r.pos)
def orderB (l:List RuleL)(i:Int):Bool:=decide (0<i)&&leB (geta l i).key (geta l (i-1)).key
def kindB (r:RuleL):Bool:=outB r.kind 1 4
def many2 (r:RuleL):Bool:=r.kind==2 || r.kind==3
def manyBad (r:RuleL):Bool:=if many2 r=true then outB r.many 1 100000 else r.many != 0
def ruleAt (l:List RuleL)(i:Int):Int :=
 if nameB (geta l i)=true then 5 else if orderB l i=true then 7 else if kindB (geta l i)=true then 4 else if manyBad (geta l i)=true then 1 else amountE (geta l i).num (geta l i).den 10000
def rulesE (l:List RuleL):Int:=if 100<l.length then 2 else firstErr (ruleAt l) l.length
/-- The key before. -/
def lastK (l:List RuleL)(i:Int):ByteArray:=if i≤0 then ByteArray.empty else(geta l (i-1)).key
/-- The round of rule k: its copy lies in block g. -/
structure Mw (w0:World)(l:List RuleL)(k:Int)(g:Nat)(w:World):Prop where
 k0:0≤k
 k1:k<l.length
 ok:NoErr (ruleAt l) k
 copy:CopyR w g (geta l k)
 bel:Below w0.heap.size w0 w
theorem Mw.below {w0 w w':World}{l:List RuleL}{k:Int}{g:Nat}(h:Mw w0 l k g w)(b:Below w.heap.size w w'):Mw w0 l k g w' :=
 ⟨h.k0,h.k1,h.ok,h.copy.below b,h.bel.trans (b.mono h.bel.size)⟩
section
variable {w0 w:World}{l:List RuleL}{k:Int}{g:Nat}
theorem Mw.drewN (h:Mw w0 l k g w)(n:Nat):Mw w0 l k g (w.drewN n) :=
 ⟨h.k0,h.k1,h.ok,h.copy,below_drewN h.bel n⟩
theorem Mw.ends (h:Mw w0 l k g w)(hl:¬100<l.length)(he:ruleAt l k≠0):rulesE l=ruleAt l k:=by
 unfold rulesE;rw [if_neg hl];exact firstErr_hit h.ok h.k0 h.k1 he
end
noncomputable def rulesP:Code:=(Tryz.f115.body).getD .skip
theorem frame87 (f:Nat→Value):frame 87 f=⟨#[f 0,f 1,f 2,f 3,f 4,f 5,f 6,f 7,f 8,f 9,f 10,f 11,f 12,f 13,f 14,f 15,f 16,f 17,f 18,f 19,f 20,f 21,f 22,f 23,f 24,f 25,f 26,f 27,f 28,f 29,f 30,f 31,f 32,f 33,f 34,f 35,f 36,f 37,f 38,f 39,f 40,f 41,f 42,f 43,f 44,f 45,f 46,f 47,f 48,f 49,f 50,f 51,f 52,f 53,f 54,f 55,f 56,f 57,f 58,f 59,f 60,f 61,f 62,f 63,f 64,f 65,f 66,f 67,f 68,f 69,f 70,f 71,f 72,f 73,f 74,f 75,f 76,f 77,f 78,f 79,f 80,f 81,f 82,f 83,f 84,f 85,f 86],[]⟩:=by rfl
section
variable (v:Value)(l:List RuleL)(w0:World)(k:Int)(g:Nat)
theorem rp_name (hz:∀r∈l,RuleOk r)(hl:¬100<l.length):T3 Tryz.prog (fun a w=>(True)∧Mw w0 l k g w∧Fr 87 ([(0,v),(10,v),(11,.int .i64 l.length),(12,.int .i64 k),(3,.int .i64 k),(4,.pointer (some ⟨g,0,none⟩))]) a) (sel [1,1,0,1,4,4,1,1,0,4,1,0,4,0] rulesP)
  (fun a w=>∃q,Fr 87 ((17,.bool q)::[(0,v),(10,v),(11,.int .i64 l.length),(12,.int .i64 k),(3,.int .i64 k),(4,.pointer (some ⟨g,0,none⟩))]) a∧((q=nameB (geta l k))∧Mw w0 l k g w)) No 0
  (fun a w=>Fr 87 [(2,.int .i64 (rulesE l))] a∧Below w0.heap.size w0 w):=by
 refine T3.leaf ?_;rintro Q JS JX JT K hS hK hX hE hT hR a w ⟨hC,hM,⟨f,rfl,q0,q10,q11,q12,q3,q4,_⟩⟩;have HC:=Lib.hid hC;clear hC;have hr:=hz _ (geta_mem hM.k0 hM.k1);have hk0:=hM.k0;have hk1:=hM.k1;have hcp:=hM.copy.2;rw [frame87,show f 0=v from q0,show f 10=v from q10,show f 11=.int .i64 l.length from q11,show f 12=.int .i64 k from q12,show f 3=.int .i64 k from q3,show f 4=.pointer (some ⟨g,0,none⟩)from q4];clear q0 q10 q11 q12 q3 q4;conv=>arg 2;whnf
 have c0:=hcp 0 _ rfl;have c1:=hcp 1 _ rfl;have c2:=hcp 2 _ rfl;clear hcp;have z0:=hr.key;have z1:=hr.stat;have z2:=hr.pos;have Hn:=Lib.hid (show nameB (geta l k)=(!keyB (geta l k).key || !keyB (geta l k).stat || (decide ((geta l k).pos.size≠0)&&!keyB (geta l k).pos))from rfl);clear hr;generalize (geta l k).key=s0 at *;generalize (geta l k).stat=s1 at *;generalize (geta l k).pos=s2 at *;cases b0:keyB s0
 ·have Hq:=Lib.hid (show true=nameB (geta l k)by rw [Hn.out,b0];rfl);have B0:=Lib.hid b0;go_wp2_with (go_at_call 64;go_must (refine(key_is _ _ B0.out _ z0).mono ?_);rintro e w1 ⟨rfl,rfl⟩)
  refine Met.intro (hS _ _ ?_);exact⟨true,Fr.of _ rfl ⟨rfl,rfl,rfl,rfl,rfl,rfl,rfl,trivial⟩,Hq.out,hM⟩
 cases b1:keyB s1
 ·have Hq:=Lib.hid (show true=nameB (geta l k)by rw [Hn.out,b0,b1];rfl);have B0:=Lib.hid b0;have B1:=Lib.hid b1;clear b0 b1;go_wp2_with fail
  refine(key_is _ _ B0.out _ z0).mono ?_;rintro e w1 ⟨rfl,rfl⟩;go_wp2_with fail
  refine(key_is _ _ B1.out _ z1).mono ?_;rintro e w1 ⟨rfl,rfl⟩;go_wp2_with fail
  refine Met.intro (hS _ _ ?_);exact⟨true,Fr.of _ rfl ⟨rfl,rfl,rfl,rfl,rfl,rfl,rfl,trivial⟩,Hq.out,hM⟩
 have B0:=Lib.hid b0;have B1:=Lib.hid b1
 by_cases h2:s2.size=0
 ·have Hq:=Lib.hid (show false=nameB (geta l k)by rw [Hn.out,b0,b1];simp [h2]);have e2:=str_empty h2;clear b0 b1 h2;go_wp2_with fail
  refine(key_is _ _ B0.out _ z0).mono ?_;rintro e w1 ⟨rfl,rfl⟩;go_wp2_with fail
  refine(key_is _ _ B1.out _ z1).mono ?_;rintro e w1 ⟨rfl,rfl⟩;go_wp2_with fail
  refine Met.intro (hS _ _ ?_);exact⟨false,Fr.of _ rfl ⟨rfl,rfl,rfl,rfl,rfl,rfl,rfl,trivial⟩,Hq.out,hM⟩
 ·have e2:=str_full h2;have e3:(!s2.toList.isEmpty)=true:=by rw [e2];rfl
  cases b2:keyB s2
  ·have Hq:=Lib.hid (show true=nameB (geta l k)by rw [Hn.out,b0,b1,b2];simp [h2]);have B2:=Lib.hid b2;clear b0 b1 b2 h2;go_wp2_with fail
   refine(key_is _ _ B0.out _ z0).mono ?_;rintro e w1 ⟨rfl,rfl⟩;go_wp2_with fail
   refine(key_is _ _ B1.out _ z1).mono ?_;rintro e w1 ⟨rfl,rfl⟩;go_wp2_with fail
   refine(key_is _ _ B2.out _ z2).mono ?_;rintro e w1 ⟨rfl,rfl⟩;go_wp2_with fail
   refine Met.intro (hS _ _ ?_);exact⟨true,Fr.of _ rfl ⟨rfl,rfl,rfl,rfl,rfl,rfl,rfl,trivial⟩,Hq.out,hM⟩
  ·have Hq:=Lib.hid (show false=nameB (geta l k)by rw [Hn.out,b0,b1,b2];simp);have B2:=Lib.hid b2;clear b0 b1 b2 h2;go_wp2_with fail
   refine(key_is _ _ B0.out _ z0).mono ?_;rintro e w1 ⟨rfl,rfl⟩;go_wp2_with fail
   refine(key_is _ _ B1.out _ z1).mono ?_;rintro e w1 ⟨rfl,rfl⟩;go_wp2_with fail
   refine(key_is _ _ B2.out _ z2).mono ?_;rintro e w1 ⟨rfl,rfl⟩;go_wp2_with fail
   refine Met.intro (hS _ _ ?_);exact⟨false,Fr.of _ rfl ⟨rfl,rfl,rfl,rfl,rfl,rfl,rfl,trivial⟩,Hq.out,hM⟩
theorem rp_name5 (hz:∀r∈l,RuleOk r)(hl:¬100<l.length):T3 Tryz.prog (fun a w=>Fr 87 ((17,.bool true)::[(0,v),(10,v),(11,.int .i64 l.length),(12,.int .i64 k),(3,.int .i64 k),(4,.pointer (some ⟨g,0,none⟩))]) a∧(true=nameB (geta l k))∧Mw w0 l k g w) (sel [1,1,0,1,4,4,1,1,0,4,1,0,4,1,2] rulesP) No No 0 (fun a w=>Fr 87 [(2,.int .i64 (rulesE l))] a∧Below w0.heap.size w0 w):=by
 refine T3.leaf ?_;rintro Q JS JX JT K hS hK hX hE hT hR a w ⟨⟨f,rfl,q17,q0,q10,q11,q12,q3,q4,_⟩,hC,hM⟩;have He:=Lib.hid (hM.ends hl (by rw [show ruleAt l k=5 from if_pos hC.symm];decide));have Hv:=Lib.hid (show ruleAt l k=5 by rw [show ruleAt l k=5 from if_pos hC.symm]);have hb:=hM.bel;clear hC;rw [frame87,show f 17=.bool true from q17,show f 0=v from q0,show f 10=v from q10,show f 11=.int .i64 l.length from q11,show f 12=.int .i64 k from q12,show f 3=.int .i64 k from q3,show f 4=.pointer (some ⟨g,0,none⟩)from q4];clear q17 q0 q10 q11 q12 q3 q4;conv=>arg 2;whnf
 go_wp2_with fail
 refine Met.intro (hT _ _ ?_);exact⟨Fr.of _ rfl ⟨by rw [He.out,Hv.out];rfl,trivial⟩,hb⟩
theorem rp_order (hz:∀r∈l,RuleOk r)(hl:¬100<l.length)(hrow:l.length=0∨∃b off cap,v=.slice (some ⟨b,off,none⟩) l.length cap∧b<w0.heap.size∧(l.length≤cap∧cap≤9223372036854775807)∧∀i:Int,0≤i→i<l.length→∀j u,(encR (geta l i))[j]?=some u→w0.cell? ⟨b,off+i.toNat*7+j,none⟩=some u):T3 Tryz.prog (fun a w=>(false=nameB (geta l k))∧Mw w0 l k g w∧Fr 87 ([(0,v),(10,v),(11,.int .i64 l.length),(12,.int .i64 k),(3,.int .i64 k),(4,.pointer (some ⟨g,0,none⟩))]) a) (sel [1,1,0,1,4,4,1,1,0,4,1,0,4,1,3,0] rulesP)
  (fun a w=>∃q,Fr 87 ((39,.bool q)::[(0,v),(10,v),(11,.int .i64 l.length),(12,.int .i64 k),(3,.int .i64 k),(4,.pointer (some ⟨g,0,none⟩))]) a∧((q=orderB l k∧false=nameB (geta l k))∧Mw w0 l k g w)) No 0
  (fun a w=>Fr 87 [(2,.int .i64 (rulesE l))] a∧Below w0.heap.size w0 w):=by
 refine T3.leaf ?_;rintro Q JS JX JT K hS hK hX hE hT hR a w ⟨hC,hM,⟨f,rfl,q0,q10,q11,q12,q3,q4,_⟩⟩;have HC:=Lib.hid hC;clear hC;have hr:=hz _ (geta_mem hM.k0 hM.k1);have hk0:=hM.k0;have hk1:=hM.k1;have hcp:=hM.copy.2;rw [frame87,show f 0=v from q0,show f 10=v from q10,show f 11=.int .i64 l.length from q11,show f 12=.int .i64 k from q12,show f 3=.int .i64 k from q3,show f 4=.pointer (some ⟨g,0,none⟩)from q4];clear q0 q10 q11 q12 q3 q4;conv=>arg 2;whnf
 have c0:=hcp 0 _ rfl;clear hcp hr;have Ho:=Lib.hid (show orderB l k=(decide (0<k)&&leB (geta l k).key (geta l (k-1)).key)from rfl)
 by_cases hp:0<k
 ·rcases hrow with hrow|⟨b,off,cap,rfl,hbs,hcm,hcell⟩
  ·omega
  have pp:=hcell (k-1) (by omega) (by omega) 0 _ rfl;rw [Nat.add_zero]at pp;have p0:=(hM.bel.cell (p:=⟨b,off+(k-1).toNat*7,none⟩) hbs).trans pp;clear pp;rw [show(k-1).toNat=k.toNat-1 by omega]at p0;clear hcell;generalize (geta l k).key=s0 at *;generalize (geta l (k-1)).key=s1 at *;cases hle:leB s0 s1
  ·have Hq:=Lib.hid (show false=orderB l k by rw [Ho.out,hle];simp);unfold leB at hle;go_wp2_with fail
   go_quiet (fail)
   go_wp2_with fail
   refine Met.intro (hS _ _ ?_);exact⟨false,Fr.of _ rfl ⟨rfl,rfl,rfl,rfl,rfl,rfl,rfl,trivial⟩,⟨Hq.out,HC.out⟩,hM.drewN _⟩
  ·have Hq:=Lib.hid (show true=orderB l k by rw [Ho.out,hle];simp [hp]);unfold leB at hle;go_wp2_with fail
   go_quiet (fail)
   go_wp2_with fail
   refine Met.intro (hS _ _ ?_);exact⟨true,Fr.of _ rfl ⟨rfl,rfl,rfl,rfl,rfl,rfl,rfl,trivial⟩,⟨Hq.out,HC.out⟩,hM.drewN _⟩
 ·have Hq:=Lib.hid (show false=orderB l k by rw [Ho.out];simp [hp]);have hpb:decide (0<k)=false:=by simp;omega
  clear hrow;generalize (geta l k).key=s0 at *;go_wp2_with fail
  go_quiet (fail)
  go_wp2_with fail
  refine Met.intro (hS _ _ ?_);exact⟨false,Fr.of _ rfl ⟨rfl,rfl,rfl,rfl,rfl,rfl,rfl,trivial⟩,⟨Hq.out,HC.out⟩,hM.drewN _⟩
theorem rp_order7 (hz:∀r∈l,RuleOk r)(hl:¬100<l.length):T3 Tryz.prog (fun a w=>Fr 87 ((39,.bool true)::[(0,v),(10,v),(11,.int .i64 l.length),(12,.int .i64 k),(3,.int .i64 k),(4,.pointer (some ⟨g,0,none⟩))]) a∧(true=orderB l k∧false=nameB (geta l k))∧Mw w0 l k g w) (sel [1,1,0,1,4,4,1,1,0,4,1,0,4,1,3,1,2] rulesP) No No 0 (fun a w=>Fr 87 [(2,.int .i64 (rulesE l))] a∧Below w0.heap.size w0 w):=by
 refine T3.leaf ?_;rintro Q JS JX JT K hS hK hX hE hT hR a w ⟨⟨f,rfl,q39,q0,q10,q11,q12,q3,q4,_⟩,hC,hM⟩;have He:=Lib.hid (hM.ends hl (by rw [show ruleAt l k=7 by unfold ruleAt;rw [if_neg (by rw [←hC.2];decide),if_pos hC.1.symm]];decide));have Hv:=Lib.hid (show ruleAt l k=7 by rw [show ruleAt l k=7 by unfold ruleAt;rw [if_neg (by rw [←hC.2];decide),if_pos hC.1.symm]]);have hb:=hM.bel;clear hC;rw [frame87,show f 39=.bool true from q39,show f 0=v from q0,show f 10=v from q10,show f 11=.int .i64 l.length from q11,show f 12=.int .i64 k from q12,show f 3=.int .i64 k from q3,show f 4=.pointer (some ⟨g,0,none⟩)from q4];clear q39 q0 q10 q11 q12 q3 q4;conv=>arg 2;whnf
 go_wp2_with fail
 refine Met.intro (hT _ _ ?_);exact⟨Fr.of _ rfl ⟨by rw [He.out,Hv.out];rfl,trivial⟩,hb⟩
theorem rp_kind (hz:∀r∈l,RuleOk r)(hl:¬100<l.length):T3 Tryz.prog (fun a w=>(false=orderB l k∧false=nameB (geta l k))∧Mw w0 l k g w∧Fr 87 ([(0,v),(10,v),(11,.int .i64 l.length),(12,.int .i64 k),(3,.int .i64 k),(4,.pointer (some ⟨g,0,none⟩))]) a) (sel [1,1,0,1,4,4,1,1,0,4,1,0,4,1,3,1,3,0] rulesP)
  (fun a w=>∃q,Fr 87 ((53,.bool q)::[(0,v),(10,v),(11,.int .i64 l.length),(12,.int .i64 k),(3,.int .i64 k),(4,.pointer (some ⟨g,0,none⟩))]) a∧((q=kindB (geta l k)∧false=orderB l k∧false=nameB (geta l k))∧Mw w0 l k g w)) No 0
  (fun a w=>Fr 87 [(2,.int .i64 (rulesE l))] a∧Below w0.heap.size w0 w):=by
 refine T3.leaf ?_;rintro Q JS JX JT K hS hK hX hE hT hR a w ⟨hC,hM,⟨f,rfl,q0,q10,q11,q12,q3,q4,_⟩⟩;have HC:=Lib.hid hC;clear hC;have hr:=hz _ (geta_mem hM.k0 hM.k1);have hk0:=hM.k0;have hk1:=hM.k1;have hcp:=hM.copy.2;rw [frame87,show f 0=v from q0,show f 10=v from q10,show f 11=.int .i64 l.length from q11,show f 12=.int .i64 k from q12,show f 3=.int .i64 k from q3,show f 4=.pointer (some ⟨g,0,none⟩)from q4];clear q0 q10 q11 q12 q3 q4;conv=>arg 2;whnf
 have c3:=hcp 3 _ rfl;clear hcp hr;have Ho:=Lib.hid (show kindB (geta l k)=outB (geta l k).kind 1 4 from rfl);generalize (geta l k).kind=n0 at *;cases ho:outB n0 1 4
 ·have Hq:=Lib.hid (show false=kindB (geta l k)by rw [Ho.out,ho]);have ho:=Lib.hid ho;go_wp2_with (go_at_call 101;refine(out_is _ _ _ _ ho.out _).mono ?_;rintro e w1 ⟨rfl,rfl⟩)
  refine Met.intro (hS _ _ ?_);exact⟨false,Fr.of _ rfl ⟨rfl,rfl,rfl,rfl,rfl,rfl,rfl,trivial⟩,⟨Hq.out,HC.out⟩,hM⟩
 ·have Hq:=Lib.hid (show true=kindB (geta l k)by rw [Ho.out,ho]);have ho:=Lib.hid ho;go_wp2_with (go_at_call 101;refine(out_is _ _ _ _ ho.out _).mono ?_;rintro e w1 ⟨rfl,rfl⟩)
  refine Met.intro (hS _ _ ?_);exact⟨true,Fr.of _ rfl ⟨rfl,rfl,rfl,rfl,rfl,rfl,rfl,trivial⟩,⟨Hq.out,HC.out⟩,hM⟩
theorem rp_kind4 (hz:∀r∈l,RuleOk r)(hl:¬100<l.length):T3 Tryz.prog (fun a w=>Fr 87 ((53,.bool true)::[(0,v),(10,v),(11,.int .i64 l.length),(12,.int .i64 k),(3,.int .i64 k),(4,.pointer (some ⟨g,0,none⟩))]) a∧(true=kindB (geta l k)∧false=orderB l k∧false=nameB (geta l k))∧Mw w0 l k g w) (sel [1,1,0,1,4,4,1,1,0,4,1,0,4,1,3,1,3,1,2] rulesP) No No 0 (fun a w=>Fr 87 [(2,.int .i64 (rulesE l))] a∧Below w0.heap.size w0 w):=by
 refine T3.leaf ?_;rintro Q JS JX JT K hS hK hX hE hT hR a w ⟨⟨f,rfl,q53,q0,q10,q11,q12,q3,q4,_⟩,hC,hM⟩;have He:=Lib.hid (hM.ends hl (by rw [show ruleAt l k=4 by unfold ruleAt;rw [if_neg (by rw [←hC.2.2];decide),if_neg (by rw [←hC.2.1];decide),if_pos hC.1.symm]];decide));have Hv:=Lib.hid (show ruleAt l k=4 by rw [show ruleAt l k=4 by unfold ruleAt;rw [if_neg (by rw [←hC.2.2];decide),if_neg (by rw [←hC.2.1];decide),if_pos hC.1.symm]]);have hb:=hM.bel;clear hC;rw [frame87,show f 53=.bool true from q53,show f 0=v from q0,show f 10=v from q10,show f 11=.int .i64 l.length from q11,show f 12=.int .i64 k from q12,show f 3=.int .i64 k from q3,show f 4=.pointer (some ⟨g,0,none⟩)from q4];clear q53 q0 q10 q11 q12 q3 q4;conv=>arg 2;whnf
 go_wp2_with fail
 refine Met.intro (hT _ _ ?_);exact⟨Fr.of _ rfl ⟨by rw [He.out,Hv.out];rfl,trivial⟩,hb⟩
theorem rp_m2 (hz:∀r∈l,RuleOk r)(hl:¬100<l.length):T3 Tryz.prog (fun a w=>(false=kindB (geta l k)∧false=orderB l k∧false=nameB (geta l k))∧Mw w0 l k g w∧Fr 87 ([(0,v),(10,v),(11,.int .i64 l.length),(12,.int .i64 k),(3,.int .i64 k),(4,.pointer (some ⟨g,0,none⟩))]) a) (sel [1,1,0,1,4,4,1,1,0,4,1,1,0] rulesP)
  (fun a w=>(false=kindB (geta l k)∧false=orderB l k∧false=nameB (geta l k))∧Mw w0 l k g w∧Fr 87 ((5,.bool (many2 (geta l k)))::[(0,v),(10,v),(11,.int .i64 l.length),(12,.int .i64 k),(3,.int .i64 k),(4,.pointer (some ⟨g,0,none⟩))]) a) No 0
  (fun a w=>Fr 87 [(2,.int .i64 (rulesE l))] a∧Below w0.heap.size w0 w):=by
 refine T3.leaf ?_;rintro Q JS JX JT K hS hK hX hE hT hR a w ⟨hC,hM,⟨f,rfl,q0,q10,q11,q12,q3,q4,_⟩⟩;have HC:=Lib.hid hC;clear hC;have hr:=hz _ (geta_mem hM.k0 hM.k1);have hk0:=hM.k0;have hk1:=hM.k1;have hcp:=hM.copy.2;rw [frame87,show f 0=v from q0,show f 10=v from q10,show f 11=.int .i64 l.length from q11,show f 12=.int .i64 k from q12,show f 3=.int .i64 k from q3,show f 4=.pointer (some ⟨g,0,none⟩)from q4];clear q0 q10 q11 q12 q3 q4;conv=>arg 2;whnf
 have c3:=hcp 3 _ rfl;clear hcp hr;have Ho:=Lib.hid (show many2 (geta l k)=((geta l k).kind==2 || (geta l k).kind==3)from rfl);generalize (geta l k).kind=n0 at *;cases e1:(n0==2)
 ·cases e2:(n0==3)
  ·have Hq:=Lib.hid (show false=many2 (geta l k)by rw [Ho.out,e1,e2];rfl);go_wp2_with fail
   refine Met.intro (hS _ _ ?_);exact⟨HC.out,hM,Fr.of _ rfl ⟨by rw [←Hq.out];rfl,rfl,rfl,rfl,rfl,rfl,rfl,trivial⟩⟩
  ·have Hq:=Lib.hid (show true=many2 (geta l k)by rw [Ho.out,e1,e2];rfl);go_wp2_with fail
   refine Met.intro (hS _ _ ?_);exact⟨HC.out,hM,Fr.of _ rfl ⟨by rw [←Hq.out];rfl,rfl,rfl,rfl,rfl,rfl,rfl,trivial⟩⟩
 ·have Hq:=Lib.hid (show true=many2 (geta l k)by rw [Ho.out,e1];rfl);go_wp2_with fail
  refine Met.intro (hS _ _ ?_);exact⟨HC.out,hM,Fr.of _ rfl ⟨by rw [←Hq.out];rfl,rfl,rfl,rfl,rfl,rfl,rfl,trivial⟩⟩
theorem rp_many (hz:∀r∈l,RuleOk r)(hl:¬100<l.length):T3 Tryz.prog (fun a w=>(false=kindB (geta l k)∧false=orderB l k∧false=nameB (geta l k))∧Mw w0 l k g w∧Fr 87 ([(5,.bool (many2 (geta l k))),(0,v),(10,v),(11,.int .i64 l.length),(12,.int .i64 k),(3,.int .i64 k),(4,.pointer (some ⟨g,0,none⟩))]) a) (sel [1,1,0,1,4,4,1,1,0,4,1,1,1,0,0] rulesP)
  (fun a w=>∃q,Fr 87 ((79,.bool q)::[(0,v),(10,v),(11,.int .i64 l.length),(12,.int .i64 k),(3,.int .i64 k),(4,.pointer (some ⟨g,0,none⟩))]) a∧((q=manyBad (geta l k)∧false=kindB (geta l k)∧false=orderB l k∧false=nameB (geta l k))∧Mw w0 l k g w)) No 0
  (fun a w=>Fr 87 [(2,.int .i64 (rulesE l))] a∧Below w0.heap.size w0 w):=by
 refine T3.leaf ?_;rintro Q JS JX JT K hS hK hX hE hT hR a w ⟨hC,hM,⟨f,rfl,q5,q0,q10,q11,q12,q3,q4,_⟩⟩;have HC:=Lib.hid hC;clear hC;have hr:=hz _ (geta_mem hM.k0 hM.k1);have hk0:=hM.k0;have hk1:=hM.k1;have hcp:=hM.copy.2;rw [frame87,show f 5=.bool (many2 (geta l k))from q5,show f 0=v from q0,show f 10=v from q10,show f 11=.int .i64 l.length from q11,show f 12=.int .i64 k from q12,show f 3=.int .i64 k from q3,show f 4=.pointer (some ⟨g,0,none⟩)from q4];clear q5 q0 q10 q11 q12 q3 q4;conv=>arg 2;whnf
 have c4:=hcp 4 _ rfl;clear hcp hr;have Hm:=Lib.hid (show manyBad (geta l k)=if many2 (geta l k)=true then outB (geta l k).many 1 100000 else(geta l k).many != 0 from rfl);generalize (geta l k).many=n1 at *;cases hm2:many2 (geta l k)
 ·cases hn:(n1 != 0)
  ·have Hq:=Lib.hid (show false=manyBad (geta l k)by rw [Hm.out,hm2,hn];rfl);go_wp2_with fail
   refine Met.intro (hS _ _ ?_);exact⟨false,Fr.of _ rfl ⟨rfl,rfl,rfl,rfl,rfl,rfl,rfl,trivial⟩,⟨Hq.out,HC.out⟩,hM⟩
  ·have Hq:=Lib.hid (show true=manyBad (geta l k)by rw [Hm.out,hm2,hn];rfl);go_wp2_with fail
   refine Met.intro (hS _ _ ?_);exact⟨true,Fr.of _ rfl ⟨rfl,rfl,rfl,rfl,rfl,rfl,rfl,trivial⟩,⟨Hq.out,HC.out⟩,hM⟩
 ·cases ho:outB n1 1 100000
  ·have Hq:=Lib.hid (show false=manyBad (geta l k)by rw [Hm.out,hm2,ho];rfl);have ho:=Lib.hid ho;go_wp2_with (go_at_call 101;refine(out_is _ _ _ _ ho.out _).mono ?_;rintro e w1 ⟨rfl,rfl⟩)
   refine Met.intro (hS _ _ ?_);exact⟨false,Fr.of _ rfl ⟨rfl,rfl,rfl,rfl,rfl,rfl,rfl,trivial⟩,⟨Hq.out,HC.out⟩,hM⟩
  ·have Hq:=Lib.hid (show true=manyBad (geta l k)by rw [Hm.out,hm2,ho];rfl);have ho:=Lib.hid ho;go_wp2_with (go_at_call 101;refine(out_is _ _ _ _ ho.out _).mono ?_;rintro e w1 ⟨rfl,rfl⟩)
   refine Met.intro (hS _ _ ?_);exact⟨true,Fr.of _ rfl ⟨rfl,rfl,rfl,rfl,rfl,rfl,rfl,trivial⟩,⟨Hq.out,HC.out⟩,hM⟩
theorem rp_many1 (hz:∀r∈l,RuleOk r)(hl:¬100<l.length):T3 Tryz.prog (fun a w=>Fr 87 ((79,.bool true)::[(0,v),(10,v),(11,.int .i64 l.length),(12,.int .i64 k),(3,.int .i64 k),(4,.pointer (some ⟨g,0,none⟩))]) a∧(true=manyBad (geta l k)∧false=kindB (geta l k)∧false=orderB l k∧false=nameB (geta l k))∧Mw w0 l k g w) (sel [1,1,0,1,4,4,1,1,0,4,1,1,1,0,1,2] rulesP) No No 0 (fun a w=>Fr 87 [(2,.int .i64 (rulesE l))] a∧Below w0.heap.size w0 w):=by
 refine T3.leaf ?_;rintro Q JS JX JT K hS hK hX hE hT hR a w ⟨⟨f,rfl,q79,q0,q10,q11,q12,q3,q4,_⟩,hC,hM⟩;have Hv:=Lib.hid (show ruleAt l k=1 by unfold ruleAt;rw [if_neg (by rw [←hC.2.2.2];decide),if_neg (by rw [←hC.2.2.1];decide),if_neg (by rw [←hC.2.1];decide),if_pos hC.1.symm]);have He:=Lib.hid (hM.ends hl (by rw [Hv.out];decide));have hb:=hM.bel;clear hC;rw [frame87,show f 79=.bool true from q79,show f 0=v from q0,show f 10=v from q10,show f 11=.int .i64 l.length from q11,show f 12=.int .i64 k from q12,show f 3=.int .i64 k from q3,show f 4=.pointer (some ⟨g,0,none⟩)from q4];clear q79 q0 q10 q11 q12 q3 q4;conv=>arg 2;whnf
 go_wp2_with fail
 refine Met.intro (hT _ _ ?_);exact⟨Fr.of _ rfl ⟨by rw [He.out,Hv.out];rfl,trivial⟩,hb⟩
theorem rp_amt (hz:∀r∈l,RuleOk r)(hl:¬100<l.length):T3 Tryz.prog (fun a w=>(false=manyBad (geta l k)∧false=kindB (geta l k)∧false=orderB l k∧false=nameB (geta l k))∧Mw w0 l k g w∧Fr 87 ([(0,v),(10,v),(11,.int .i64 l.length),(12,.int .i64 k),(3,.int .i64 k),(4,.pointer (some ⟨g,0,none⟩))]) a) (sel [1,1,0,1,4,4,1,1,0,4,1,1,1,1,0] rulesP)
  (fun a w=>(false=manyBad (geta l k)∧false=kindB (geta l k)∧false=orderB l k∧false=nameB (geta l k))∧Mw w0 l k g w∧Fr 87 ((6,.int .i64 (amountE (geta l k).num (geta l k).den 10000))::[(0,v),(10,v),(11,.int .i64 l.length),(12,.int .i64 k),(3,.int .i64 k),(4,.pointer (some ⟨g,0,none⟩))]) a) No 0
  (fun a w=>Fr 87 [(2,.int .i64 (rulesE l))] a∧Below w0.heap.size w0 w):=by
 refine T3.leaf ?_;rintro Q JS JX JT K hS hK hX hE hT hR a w ⟨hC,hM,⟨f,rfl,q0,q10,q11,q12,q3,q4,_⟩⟩;have HC:=Lib.hid hC;clear hC;have hr:=hz _ (geta_mem hM.k0 hM.k1);have hk0:=hM.k0;have hk1:=hM.k1;have hcp:=hM.copy.2;rw [frame87,show f 0=v from q0,show f 10=v from q10,show f 11=.int .i64 l.length from q11,show f 12=.int .i64 k from q12,show f 3=.int .i64 k from q3,show f 4=.pointer (some ⟨g,0,none⟩)from q4];clear q0 q10 q11 q12 q3 q4;conv=>arg 2;whnf
 have c5:=hcp 5 _ rfl;have c6:=hcp 6 _ rfl;clear hcp;have y0:=hr.num0;have y1:=hr.num1;have y2:=hr.den0;have y3:=hr.den1;clear hr;generalize (geta l k).num=n1 at *;generalize (geta l k).den=n2 at *;go_wp2_with (go_at_call 68;refine(amount_prog n1 n2 10000 _ y0 y1 y2 y3 (by decide) (by decide)).mono ?_;rintro e w1 ⟨rfl,hb⟩;replace hM:=hM.below hb;clear hb)
 refine Met.intro (hS _ _ ?_);exact⟨HC.out,hM,Fr.of _ rfl ⟨rfl,rfl,rfl,rfl,rfl,rfl,rfl,trivial⟩⟩
theorem rp_amt2 (hz:∀r∈l,RuleOk r)(hl:¬100<l.length):T3 Tryz.prog (fun a w=>(false=manyBad (geta l k)∧false=kindB (geta l k)∧false=orderB l k∧false=nameB (geta l k))∧Mw w0 l k g w∧Fr 87 ([(6,.int .i64 (amountE (geta l k).num (geta l k).den 10000)),(0,v),(10,v),(11,.int .i64 l.length),(12,.int .i64 k),(3,.int .i64 k),(4,.pointer (some ⟨g,0,none⟩))]) a) (sel [1,1,0,1,4,4,1,1,0,4,1,1,1,1,1,0] rulesP)
  (fun a w=>∃q,Fr 87 ((84,.bool q)::[(6,.int .i64 (amountE (geta l k).num (geta l k).den 10000)),(0,v),(10,v),(11,.int .i64 l.length),(12,.int .i64 k),(3,.int .i64 k),(4,.pointer (some ⟨g,0,none⟩))]) a∧(((q=true↔(amountE (geta l k).num (geta l k).den 10000)≠0)∧false=manyBad (geta l k)∧false=kindB (geta l k)∧false=orderB l k∧false=nameB (geta l k))∧Mw w0 l k g w)) No 0
  (fun a w=>Fr 87 [(2,.int .i64 (rulesE l))] a∧Below w0.heap.size w0 w):=by
 refine T3.leaf ?_;rintro Q JS JX JT K hS hK hX hE hT hR a w ⟨hC,hM,⟨f,rfl,q6,q0,q10,q11,q12,q3,q4,_⟩⟩;have HC:=Lib.hid hC;clear hC;have hr:=hz _ (geta_mem hM.k0 hM.k1);have hk0:=hM.k0;have hk1:=hM.k1;have hcp:=hM.copy.2;rw [frame87,show f 6=.int .i64 (amountE (geta l k).num (geta l k).den 10000)from q6,show f 0=v from q0,show f 10=v from q10,show f 11=.int .i64 l.length from q11,show f 12=.int .i64 k from q12,show f 3=.int .i64 k from q3,show f 4=.pointer (some ⟨g,0,none⟩)from q4];clear q6 q0 q10 q11 q12 q3 q4;conv=>arg 2;whnf
 clear hcp hr;generalize hx:amountE (geta l k).num (geta l k).den 10000=x at *;have Hx:=Lib.hid hx;clear hx;cases hn:(x != 0)
 ·have Hq:=Lib.hid (show x=0 by simpa using hn);go_wp2_with fail
  refine Met.intro (hS _ _ ?_);exact⟨false,Fr.of _ rfl ⟨rfl,rfl,rfl,rfl,rfl,rfl,rfl,rfl,trivial⟩,⟨by simpa using Hq.out,HC.out⟩,hM⟩
 ·have Hq:=Lib.hid (show x≠0 by simpa using hn);go_wp2_with fail
  refine Met.intro (hS _ _ ?_);exact⟨true,Fr.of _ rfl ⟨rfl,rfl,rfl,rfl,rfl,rfl,rfl,rfl,trivial⟩,⟨by simpa using Hq.out,HC.out⟩,hM⟩
theorem rp_amtR (hz:∀r∈l,RuleOk r)(hl:¬100<l.length):T3 Tryz.prog (fun a w=>Fr 87 ((84,.bool true)::[(6,.int .i64 (amountE (geta l k).num (geta l k).den 10000)),(0,v),(10,v),(11,.int .i64 l.length),(12,.int .i64 k),(3,.int .i64 k),(4,.pointer (some ⟨g,0,none⟩))]) a∧((amountE (geta l k).num (geta l k).den 10000)≠0∧false=manyBad (geta l k)∧false=kindB (geta l k)∧false=orderB l k∧false=nameB (geta l k))∧Mw w0 l k g w) (sel [1,1,0,1,4,4,1,1,0,4,1,1,1,1,1,1,2] rulesP) No No 0 (fun a w=>Fr 87 [(2,.int .i64 (rulesE l))] a∧Below w0.heap.size w0 w):=by
 refine T3.leaf ?_;rintro Q JS JX JT K hS hK hX hE hT hR a w ⟨⟨f,rfl,q84,q6,q0,q10,q11,q12,q3,q4,_⟩,hC,hM⟩;have hC1:=hC.1;have Hv:=Lib.hid (show ruleAt l k=(amountE (geta l k).num (geta l k).den 10000)by unfold ruleAt;rw [if_neg (by rw [←hC.2.2.2.2];decide),if_neg (by rw [←hC.2.2.2.1];decide),if_neg (by rw [←hC.2.2.1];decide),if_neg (by rw [←hC.2.1];decide)]);have He:=Lib.hid (hM.ends hl (by rw [Hv.out];exact hC1));have hb:=hM.bel;clear hC hC1;rw [frame87,show f 84=.bool true from q84,show f 6=.int .i64 (amountE (geta l k).num (geta l k).den 10000)from q6,show f 0=v from q0,show f 10=v from q10,show f 11=.int .i64 l.length from q11,show f 12=.int .i64 k from q12,show f 3=.int .i64 k from q3,show f 4=.pointer (some ⟨g,0,none⟩)from q4];clear q84 q6 q0 q10 q11 q12 q3 q4;conv=>arg 2;whnf
 go_wp2_with fail
 refine Met.intro (hT _ _ ?_);exact⟨Fr.of _ rfl ⟨by rw [He.out,Hv.out];rfl,trivial⟩,hb⟩
end
def rpI (v:Value)(l:List RuleL)(w0:World)(k:Int)(a:Act)(w:World):Prop:=(0≤k∧k≤l.length∧NoErr (ruleAt l) k)∧Below w0.heap.size w0 w∧Fr 87 [(0,v),(10,v),(11,.int .i64 l.length),(12,.int .i64 k)] a
section
variable (v:Value)(l:List RuleL)(w0:World)
section
variable (k:Int)
theorem rp_next (h100:¬100<l.length):T3 Tryz.prog (fun a w=>(0≤k∧k<l.length∧NoErr (ruleAt l) (k+1))∧Below w0.heap.size w0 w∧Fr 87 [(0,v),(10,v),(11,.int .i64 l.length),(12,.int .i64 k)] a) (sel [1,1,0,1,4,4,1,1,1] rulesP) (rpI v l w0 (k+1)) No 0 (fun a w=>Fr 87 [(2,.int .i64 (rulesE l))] a∧Below w0.heap.size w0 w):=by
 refine T3.leaf ?_;rintro Q JS JX JT K hS hK hX hE hT hR a w ⟨⟨hk0,hk1,hst⟩,hb,⟨f,rfl,q0,q10,q11,q12,_⟩⟩;have hst:=Lib.hid hst;rw [frame87,show f 0=v from q0,show f 10=v from q10,show f 11=.int .i64 l.length from q11,show f 12=.int .i64 k from q12];clear q0 q10 q11 q12;conv=>arg 2;whnf
 go_wp2_with fail
 refine Met.intro (hS _ _ ?_);exact⟨⟨by omega,by omega,hst.out⟩,hb,Fr.of _ rfl ⟨rfl,rfl,rfl,rfl,trivial⟩⟩
theorem rp_last (g:Nat)(hz:∀r∈l,RuleOk r)(hl:¬100<l.length)(a:Act)(w:World)(h:((amountE (geta l k).num (geta l k).den 10000)=0∧false=manyBad (geta l k)∧false=kindB (geta l k)∧false=orderB l k∧false=nameB (geta l k))∧Mw w0 l k g w∧Fr 87 [(6,.int .i64 (amountE (geta l k).num (geta l k).den 10000)),(0,v),(10,v),(11,.int .i64 l.length),(12,.int .i64 k),(3,.int .i64 k),(4,.pointer (some ⟨g,0,none⟩))] a):(0≤k∧k<l.length∧NoErr (ruleAt l) (k+1))∧Below w0.heap.size w0 w∧Fr 87 [(0,v),(10,v),(11,.int .i64 l.length),(12,.int .i64 k)] a:=by
 obtain⟨hC,hM,hF⟩:=h;have ha:ruleAt l k=0:=by
  unfold ruleAt;rw [if_neg (by rw [←hC.2.2.2.2];decide),if_neg (by rw [←hC.2.2.2.1];decide),if_neg (by rw [←hC.2.2.1];decide),if_neg (by rw [←hC.2.1];decide)];exact hC.1
 have hst:=Lib.hid (hM.ok.step ha);have hk0:=hM.k0;have hk1:=hM.k1;have hb:=hM.bel;exact⟨⟨hk0,hk1,hst.out⟩,hb,hF.sub (by intro p hp;simp at hp ⊢;rcases hp with h|h|h|h <;> simp [h])⟩
theorem rp_head:T3 Tryz.prog (rpI v l w0 k) (sel [1,1,0,1,4,4,0] rulesP) (fun a w=>∃q,Fr 87 ((13,.bool q)::[(0,v),(10,v),(11,.int .i64 l.length),(12,.int .i64 k)]) a∧((q=true↔k<l.length)∧(0≤k∧k≤l.length∧NoErr (ruleAt l) k)∧Below w0.heap.size w0 w)) No 0 (fun a w=>Fr 87 [(2,.int .i64 (rulesE l))] a∧Below w0.heap.size w0 w):=by
 refine T3.leaf ?_;rintro Q JS JX JT K hS hK hX hE hT hR a w ⟨hC,hb,⟨f,rfl,q0,q10,q11,q12,_⟩⟩;have HC:=Lib.hid hC;rw [frame87,show f 0=v from q0,show f 10=v from q10,show f 11=.int .i64 l.length from q11,show f 12=.int .i64 k from q12];clear q0 q10 q11 q12;conv=>arg 2;whnf
 by_cases hlt:k<l.length
 ·go_wp2_with fail
  refine Met.intro (hS _ _ ?_);exact⟨true,Fr.of _ rfl ⟨rfl,rfl,rfl,rfl,rfl,trivial⟩,⟨fun _=>hlt,fun _=>rfl⟩,HC.out,hb⟩
 ·have hpb:decide (k<l.length)=false:=by simp;omega
  go_wp2_with fail
  refine Met.intro (hS _ _ ?_);exact⟨false,Fr.of _ rfl ⟨rfl,rfl,rfl,rfl,rfl,trivial⟩,⟨(fun h=>by cases h),fun h=>absurd h (by omega)⟩,HC.out,hb⟩
theorem rp_copy (hz:∀r∈l,RuleOk r)(hrow:l.length=0∨∃b off cap,v=.slice (some ⟨b,off,none⟩) l.length cap∧b<w0.heap.size∧(l.length≤cap∧cap≤9223372036854775807)∧∀i:Int,0≤i→i<l.length→∀j u,(encR (geta l i))[j]?=some u→w0.cell? ⟨b,off+i.toNat*7+j,none⟩=some u):T3 Tryz.prog (fun a w=>k<l.length∧rpI v l w0 k a w) (sel [1,1,0,1,4,4,1,1,0,4,0] rulesP) (fun a w=>∃g:Nat,True∧Mw w0 l k g w∧Fr 87 [(0,v),(10,v),(11,.int .i64 l.length),(12,.int .i64 k),(3,.int .i64 k),(4,.pointer (some ⟨g,0,none⟩))] a) No 0 (fun a w=>Fr 87 [(2,.int .i64 (rulesE l))] a∧Below w0.heap.size w0 w):=by
 refine T3.leaf ?_;rintro Q JS JX JT K hS hK hX hE hT hR a w ⟨hlt,⟨hk0,hk1,hok⟩,hb,⟨f,rfl,q0,q10,q11,q12,_⟩⟩;rw [frame87,show f 0=v from q0,show f 10=v from q10,show f 11=.int .i64 l.length from q11,show f 12=.int .i64 k from q12];clear q0 q10 q11 q12;conv=>arg 2;whnf
 rcases hrow with hrow|⟨b,off,cap,rfl,hbs,hcm,hcell⟩
 ·omega
 have tr:∀j u,(encR (geta l k))[j]?=some u→w.cell? ⟨b,off+k.toNat*7+j,none⟩=some u:=fun j u h=>(hb.cell (p:=⟨b,off+k.toNat*7+j,none⟩) hbs).trans (hcell k hk0 hlt j u h)
 have t0:=tr 0 _ rfl;have t1:=tr 1 _ rfl;have t2:=tr 2 _ rfl;have t3:=tr 3 _ rfl;have t4:=tr 4 _ rfl;have t5:=tr 5 _ rfl;have t6:=tr 6 _ rfl;rw [Nat.add_zero]at t0;have hM:Mw w0 l k w.heap.size (w.alloc (.cells (encR (geta l k)).toArray 110)):=⟨hk0,hlt,hok,⟨by simp,fun j u hu=>cells_new w (encR (geta l k)).toArray 110 j u (by simpa using hu)⟩,hb.alloc hb.size _⟩
 have HM:=Lib.hid hM;unfold encR at HM;clear hM tr hcell hok;generalize (geta l k).key=s0 at *;generalize (geta l k).stat=s1 at *;generalize (geta l k).pos=s2 at *;generalize (geta l k).kind=n0 at *;generalize (geta l k).many=n1 at *;generalize (geta l k).num=n2 at *;generalize (geta l k).den=n3 at *;go_wp2_with fail
 refine Met.intro (hS _ _ ?_);exact⟨_,trivial,HM.out,Fr.of _ rfl ⟨rfl,rfl,rfl,rfl,rfl,rfl,trivial⟩⟩
theorem rp_sw (g:Nat)(hz:∀r∈l,RuleOk r)(hl:¬100<l.length)(hrow:l.length=0∨∃b off cap,v=.slice (some ⟨b,off,none⟩) l.length cap∧b<w0.heap.size∧(l.length≤cap∧cap≤9223372036854775807)∧∀i:Int,0≤i→i<l.length→∀j u,(encR (geta l i))[j]?=some u→w0.cell? ⟨b,off+i.toNat*7+j,none⟩=some u):T3 Tryz.prog (fun a w=>True∧Mw w0 l k g w∧Fr 87 [(0,v),(10,v),(11,.int .i64 l.length),(12,.int .i64 k),(3,.int .i64 k),(4,.pointer (some ⟨g,0,none⟩))] a) (sel [1,1,0,1,4,4,1,1,0,4,1,0,4] rulesP) (fun a w=>(false=kindB (geta l k)∧false=orderB l k∧false=nameB (geta l k))∧Mw w0 l k g w∧Fr 87 [(0,v),(10,v),(11,.int .i64 l.length),(12,.int .i64 k),(3,.int .i64 k),(4,.pointer (some ⟨g,0,none⟩))] a) No 0 (fun a w=>Fr 87 [(2,.int .i64 (rulesE l))] a∧Below w0.heap.size w0 w) :=
 T3.test (s:=(sel [1,1,0,1,4,4,1,1,0,4,1,0,4,0] rulesP)) (x:=(sel [1,1,0,1,4,4,1,1,0,4,1,0,4,1,2] rulesP)) (y:=(sel [1,1,0,1,4,4,1,1,0,4,1,0,4,1,3] rulesP)) (l:=[(0,v),(10,v),(11,.int .i64 l.length),(12,.int .i64 k),(3,.int .i64 k),(4,.pointer (some ⟨g,0,none⟩))]) (C:=fun q=>q=nameB (geta l k)) (W:=Mw w0 l k g) (by decide) (rp_name v l w0 k g hz hl) (T3.noS (rp_name5 v l w0 k g hz hl)) (T3.test (s:=(sel [1,1,0,1,4,4,1,1,0,4,1,0,4,1,3,0] rulesP)) (x:=(sel [1,1,0,1,4,4,1,1,0,4,1,0,4,1,3,1,2] rulesP)) (y:=(sel [1,1,0,1,4,4,1,1,0,4,1,0,4,1,3,1,3] rulesP)) (l:=[(0,v),(10,v),(11,.int .i64 l.length),(12,.int .i64 k),(3,.int .i64 k),(4,.pointer (some ⟨g,0,none⟩))]) (C:=fun q=>q=orderB l k∧false=nameB (geta l k)) (W:=Mw w0 l k g) (by decide) (rp_order v l w0 k g hz hl hrow) (T3.noS (rp_order7 v l w0 k g hz hl)) (T3.test (s:=(sel [1,1,0,1,4,4,1,1,0,4,1,0,4,1,3,1,3,0] rulesP)) (x:=(sel [1,1,0,1,4,4,1,1,0,4,1,0,4,1,3,1,3,1,2] rulesP)) (y:=.skip) (l:=[(0,v),(10,v),(11,.int .i64 l.length),(12,.int .i64 k),(3,.int .i64 k),(4,.pointer (some ⟨g,0,none⟩))]) (C:=fun q=>q=kindB (geta l k)∧false=orderB l k∧false=nameB (geta l k)) (W:=Mw w0 l k g) (by decide) (rp_kind v l w0 k g hz hl) (T3.noS (rp_kind4 v l w0 k g hz hl)) (T3.skip (fun a w q=>q))))
theorem rp_end (g:Nat)(hz:∀r∈l,RuleOk r)(hl:¬100<l.length):T3 Tryz.prog (fun a w=>(false=manyBad (geta l k)∧false=kindB (geta l k)∧false=orderB l k∧false=nameB (geta l k))∧Mw w0 l k g w∧Fr 87 [(0,v),(10,v),(11,.int .i64 l.length),(12,.int .i64 k),(3,.int .i64 k),(4,.pointer (some ⟨g,0,none⟩))] a) (sel [1,1,0,1,4,4,1,1,0,4,1,1,1,1] rulesP) (fun a w=>((amountE (geta l k).num (geta l k).den 10000)=0∧false=manyBad (geta l k)∧false=kindB (geta l k)∧false=orderB l k∧false=nameB (geta l k))∧Mw w0 l k g w∧Fr 87 [(6,.int .i64 (amountE (geta l k).num (geta l k).den 10000)),(0,v),(10,v),(11,.int .i64 l.length),(12,.int .i64 k),(3,.int .i64 k),(4,.pointer (some ⟨g,0,none⟩))] a) No 0 (fun a w=>Fr 87 [(2,.int .i64 (rulesE l))] a∧Below w0.heap.size w0 w):=by
 refine T3.post (S:=fun a w=>((false=true↔(amountE (geta l k).num (geta l k).den 10000)≠0)∧false=manyBad (geta l k)∧false=kindB (geta l k)∧false=orderB l k∧false=nameB (geta l k))∧Mw w0 l k g w∧Fr 87 [(6,.int .i64 (amountE (geta l k).num (geta l k).den 10000)),(0,v),(10,v),(11,.int .i64 l.length),(12,.int .i64 k),(3,.int .i64 k),(4,.pointer (some ⟨g,0,none⟩))] a) (T3.seq (s:=(sel [1,1,0,1,4,4,1,1,0,4,1,1,1,1,0] rulesP)) (c:=(sel [1,1,0,1,4,4,1,1,0,4,1,1,1,1,1] rulesP)) (rp_amt v l w0 k g hz hl) (T3.test (s:=(sel [1,1,0,1,4,4,1,1,0,4,1,1,1,1,1,0] rulesP)) (x:=(sel [1,1,0,1,4,4,1,1,0,4,1,1,1,1,1,1,2] rulesP)) (y:=.skip) (l:=[(6,.int .i64 (amountE (geta l k).num (geta l k).den 10000)),(0,v),(10,v),(11,.int .i64 l.length),(12,.int .i64 k),(3,.int .i64 k),(4,.pointer (some ⟨g,0,none⟩))]) (C:=fun q=>(q=true↔(amountE (geta l k).num (geta l k).den 10000)≠0)∧false=manyBad (geta l k)∧false=kindB (geta l k)∧false=orderB l k∧false=nameB (geta l k)) (W:=Mw w0 l k g) (by decide) (rp_amt2 v l w0 k g hz hl) (T3.noS ((rp_amtR v l w0 k g hz hl).pre (fun a w q=>⟨q.1,⟨q.2.1.1.1 rfl,q.2.1.2⟩,q.2.2⟩))) (T3.skip (fun a w q=>q)))) (fun a w q=>?_);obtain⟨hC,hM,hF⟩:=q;have hA:(amountE (geta l k).num (geta l k).den 10000)=0:=by
  by_cases h:(amountE (geta l k).num (geta l k).den 10000)=0
  ·exact h
  ·have:=hC.1.2 h;cases this
 exact⟨⟨hA,hC.2⟩,hM,hF⟩
theorem rp_round (hz:∀r∈l,RuleOk r)(hl:¬100<l.length)(hrow:l.length=0∨∃b off cap,v=.slice (some ⟨b,off,none⟩) l.length cap∧b<w0.heap.size∧(l.length≤cap∧cap≤9223372036854775807)∧∀i:Int,0≤i→i<l.length→∀j u,(encR (geta l i))[j]?=some u→w0.cell? ⟨b,off+i.toNat*7+j,none⟩=some u):T3 Tryz.prog (fun a w=>k<l.length∧rpI v l w0 k a w) (sel [1,1,0,1,4,4,1,1,0,4] rulesP) (fun a w=>(0≤k∧k<l.length∧NoErr (ruleAt l) (k+1))∧Below w0.heap.size w0 w∧Fr 87 [(0,v),(10,v),(11,.int .i64 l.length),(12,.int .i64 k)] a) No 0 (fun a w=>Fr 87 [(2,.int .i64 (rulesE l))] a∧Below w0.heap.size w0 w) :=
 T3.seq (s:=(sel [1,1,0,1,4,4,1,1,0,4,0] rulesP)) (c:=(sel [1,1,0,1,4,4,1,1,0,4,1] rulesP)) (rp_copy v l w0 k hz hrow) (T3.ex fun g=>T3.seq (s:=(sel [1,1,0,1,4,4,1,1,0,4,1,0] rulesP)) (c:=(sel [1,1,0,1,4,4,1,1,0,4,1,1] rulesP)) (T3.block (c:=(sel [1,1,0,1,4,4,1,1,0,4,1,0,4] rulesP)) (by decide) (rp_sw v l w0 k g hz hl hrow)) (T3.seq (s:=(sel [1,1,0,1,4,4,1,1,0,4,1,1,0] rulesP)) (c:=(sel [1,1,0,1,4,4,1,1,0,4,1,1,1] rulesP)) (rp_m2 v l w0 k g hz hl) (T3.seq (s:=(sel [1,1,0,1,4,4,1,1,0,4,1,1,1,0] rulesP)) (c:=(sel [1,1,0,1,4,4,1,1,0,4,1,1,1,1] rulesP)) (T3.test (s:=(sel [1,1,0,1,4,4,1,1,0,4,1,1,1,0,0] rulesP)) (x:=(sel [1,1,0,1,4,4,1,1,0,4,1,1,1,0,1,2] rulesP)) (y:=.skip) (l:=[(0,v),(10,v),(11,.int .i64 l.length),(12,.int .i64 k),(3,.int .i64 k),(4,.pointer (some ⟨g,0,none⟩))]) (C:=fun q=>q=manyBad (geta l k)∧false=kindB (geta l k)∧false=orderB l k∧false=nameB (geta l k)) (W:=Mw w0 l k g) (by decide) (rp_many v l w0 k g hz hl) (T3.noS (rp_many1 v l w0 k g hz hl)) (T3.skip (fun a w q=>q))) ((rp_end v l w0 k g hz hl).post (fun a w q=>rp_last v l w0 k g hz hl a w q)))))
end
theorem rp_loop (hz:∀r∈l,RuleOk r)(hl:¬100<l.length)(hrow:l.length=0∨∃b off cap,v=.slice (some ⟨b,off,none⟩) l.length cap∧b<w0.heap.size∧(l.length≤cap∧cap≤9223372036854775807)∧∀i:Int,0≤i→i<l.length→∀j u,(encR (geta l i))[j]?=some u→w0.cell? ⟨b,off+i.toNat*7+j,none⟩=some u):T3 Tryz.prog (rpI v l w0 0) (sel [1,1,0,1] rulesP) (rpI v l w0 l.length) No 9 (fun a w=>Fr 87 [(2,.int .i64 (rulesE l))] a∧Below w0.heap.size w0 w):=by
 refine T3.loop (c:=(sel [1,1,0,1,4,4] rulesP)) (fun n a w=>∃k:Int,(n:Int)=l.length-k∧rpI v l w0 k a w) (fun a w h=>⟨l.length,0,by omega,h⟩) (fun n=>T3.ex fun k=>T3.pure fun hn=>?_);refine T3.seq (s:=(sel [1,1,0,1,4,4,0] rulesP)) (c:=(sel [1,1,0,1,4,4,1] rulesP)) ((rp_head v l w0 k).noX) ?_;refine T3.seq (s:=(sel [1,1,0,1,4,4,1,0] rulesP)) (c:=(sel [1,1,0,1,4,4,1,1] rulesP)) (S:=fun a w=>k<l.length∧rpI v l w0 k a w) ?_ (T3.seq (s:=(sel [1,1,0,1,4,4,1,1,0] rulesP)) (c:=(sel [1,1,0,1,4,4,1,1,1] rulesP)) (T3.noX (T3.block (c:=(sel [1,1,0,1,4,4,1,1,0,4] rulesP)) (by decide) (rp_round v l w0 k hz hl hrow))) ?_)
 ·refine T3.iff (x:=.skip) (y:=.exit 0) (by decide) (T3.skip ?_) (T3.exit ?_)
  ·rintro a w ⟨hF,hq,hC,hb⟩;exact⟨hq.1 rfl,hC,hb,hF.tail⟩
  ·rintro a w ⟨hF,hq,hC,hb⟩;have hk:k=l.length:=by
    by_cases h:k<l.length
    ·have:=hq.2 h;cases this
    ·omega
   subst hk;exact⟨hC,hb,hF.tail⟩
 ·refine(T3.pure (R:=fun a w=>Below w0.heap.size w0 w∧Fr 87 [(0,v),(10,v),(11,.int .i64 l.length),(12,.int .i64 k)] a) (p:=0≤k∧k<l.length∧NoErr (ruleAt l) (k+1)) fun hk=>?_);refine(((rp_next v l w0 k hl).pre (fun a w q=>⟨hk,q⟩)).noX).post (fun a w q=>?_);exact⟨n-1,by omega,k+1,by omega,q⟩
section
variable (p:Option Addr)(c:Nat)
theorem rp_s0 (hv:v=.slice p l.length c):T3 Tryz.prog (fun a w=>w=w0∧Fr 87 [(0,v)] a) (sel [0] rulesP) (fun a w=>w=w0∧Fr 87 [(0,v)] a) No 9 (fun a w=>Fr 87 [(2,.int .i64 (rulesE l))] a∧Below w0.heap.size w0 w):=by
 subst hv;refine T3.leaf ?_;rintro Q JS JX JT K hS hK hX hE hT hR a w ⟨hw,⟨f,rfl,q0,_⟩⟩;have Hw:=Lib.hid hw;clear hw;rw [frame87,show f 0=(.slice p l.length c)from q0];clear q0;conv=>arg 2;whnf
 go_wp2_with fail
 refine Met.intro (hS _ _ ?_);exact⟨Hw.out,Fr.of _ rfl ⟨rfl,trivial⟩⟩
theorem rp_s1 (hv:v=.slice p l.length c)(hl:¬100<l.length):T3 Tryz.prog (fun a w=>w=w0∧Fr 87 [(0,v)] a) (sel [1,0,0] rulesP) (fun a w=>w=w0∧Fr 87 [(9,.bool false),(0,v)] a) No 9 (fun a w=>Fr 87 [(2,.int .i64 (rulesE l))] a∧Below w0.heap.size w0 w):=by
 subst hv;have hdec:decide ((100:Int)<l.length)=false:=by simp;omega
 refine T3.leaf ?_;rintro Q JS JX JT K hS hK hX hE hT hR a w ⟨hw,⟨f,rfl,q0,_⟩⟩;have Hw:=Lib.hid hw;clear hw;rw [frame87,show f 0=(.slice p l.length c)from q0];clear q0;conv=>arg 2;whnf
 go_wp2_with fail
 refine Met.intro (hS _ _ ?_);exact⟨Hw.out,Fr.of _ rfl ⟨rfl,rfl,trivial⟩⟩
theorem rp_s3 (hv:v=.slice p l.length c):T3 Tryz.prog (fun a w=>w=w0∧Fr 87 [(0,v)] a) (sel [1,1,0,0] rulesP) (rpI v l w0 0) No 9 (fun a w=>Fr 87 [(2,.int .i64 (rulesE l))] a∧Below w0.heap.size w0 w):=by
 subst hv;refine T3.leaf ?_;rintro Q JS JX JT K hS hK hX hE hT hR a w ⟨hw,⟨f,rfl,q0,_⟩⟩;have Hw:=Lib.hid hw;clear hw;rw [frame87,show f 0=(.slice p l.length c)from q0];clear q0;conv=>arg 2;whnf
 go_wp2_with fail
 refine Met.intro (hS _ _ ?_);exact⟨⟨by omega,by omega,NoErr.zero _⟩,by rw [Hw.out];exact Below.refl _ _,Fr.of _ rfl ⟨rfl,rfl,rfl,rfl,trivial⟩⟩
end
theorem rp_s9 (hl:¬100<l.length):T3 Tryz.prog (rpI v l w0 l.length) (sel [1,1,1,0] rulesP) (fun a w=>Fr 87 [(2,.int .i64 (rulesE l))] a∧Below w0.heap.size w0 w) No 9 (fun a w=>Fr 87 [(2,.int .i64 (rulesE l))] a∧Below w0.heap.size w0 w):=by
 refine T3.leaf ?_;rintro Q JS JX JT K hS hK hX hE hT hR a w ⟨⟨_,_,hok⟩,hb,⟨f,rfl,q0,q10,q11,q12,_⟩⟩;have He:=Lib.hid (show rulesE l=0 by unfold rulesE;rw [if_neg hl];exact firstErr_none hok);clear hok;rw [frame87,show f 0=v from q0,show f 10=v from q10,show f 11=.int .i64 l.length from q11,show f 12=.int .i64 (l.length:Int)from q12];clear q0 q10 q11 q12;conv=>arg 2;whnf
 go_wp2_with fail
 refine Met.intro (hS _ _ ?_);exact⟨Fr.of _ rfl ⟨by rw [He.out];rfl,trivial⟩,hb⟩
theorem rp_all (p:Option Addr)(c:Nat)(hv:v=.slice p l.length c)(hz:∀r∈l,RuleOk r)(hl:¬100<l.length)(hrow:l.length=0∨∃b off cap,v=.slice (some ⟨b,off,none⟩) l.length cap∧b<w0.heap.size∧(l.length≤cap∧cap≤9223372036854775807)∧∀i:Int,0≤i→i<l.length→∀j u,(encR (geta l i))[j]?=some u→w0.cell? ⟨b,off+i.toNat*7+j,none⟩=some u):T3 Tryz.prog (fun a w=>w=w0∧Fr 87 [(0,v)] a) rulesP No No 9 (fun a w=>Fr 87 [(2,.int .i64 (rulesE l))] a∧Below w0.heap.size w0 w):=by
 refine T3.seq (s:=(sel [0] rulesP)) (c:=(sel [1] rulesP)) (rp_s0 v l w0 p c hv) ?_;refine T3.seq (s:=(sel [1,0] rulesP)) (c:=(sel [1,1] rulesP)) (S:=(fun a w=>w=w0∧Fr 87 [(0,v)] a)) (T3.seq (s:=(sel [1,0,0] rulesP)) (c:=(sel [1,0,1] rulesP)) (rp_s1 v l w0 p c hv hl) ?_) ?_
 ·refine T3.cond (o:=.tmp 9) (x:=(sel [1,0,1,2] rulesP)) (y:=.skip) (fun _ _=>False) (fun a w=>w=w0∧Fr 87 [(0,v)] a) (fun a w h=>.inr ⟨h.2.eval 9 (by decide) (v:=.bool false) (by simp),h.1,h.2.tail⟩) (fun _ _ h=>h.elim) (T3.skip (fun _ _ h=>h))
 refine T3.seq (s:=(sel [1,1,0] rulesP)) (c:=(sel [1,1,1] rulesP)) (T3.seq (s:=(sel [1,1,0,0] rulesP)) (c:=(sel [1,1,0,1] rulesP)) (rp_s3 v l w0 p c hv) (rp_loop v l w0 hz hl hrow)) ?_;exact T3.seq (s:=(sel [1,1,1,0] rulesP)) (c:=.ret) (rp_s9 v l w0 hl) (T3.ret (fun _ _ h=>h))
end
theorem rules_prog (v:Value)(n:Nat)(l:List RuleL)(base:Nat)(w0:World)(h:Row w0 base 7 v n (cellsOf encR l))(hz:∀r∈l,RuleOk r):
  Calls Tryz.prog 115 #[v] w0 fun e w'=>e=.returned (.int .i64 (rulesE l))∧Below w0.heap.size w0 w':=by
 obtain⟨hl,hc⟩:=h.els encR_length (by decide);subst hl;obtain⟨p,c,hv⟩:=h.shape
 by_cases h100:100<l.length
 ·have he:=Lib.hid (show rulesE l=2 by simp [rulesE,h100]);clear hc;subst hv
  go_enter Tryz.func115,Tryz.ntmps115
  go_wp2_with fail
  go_ret
  exact⟨ret_int he.out.symm,Below.refl _ _⟩
 ·have hrow:l.length=0∨∃b off cap,v=.slice (some ⟨b,off,none⟩) l.length cap∧b<w0.heap.size∧(l.length≤cap∧cap≤9223372036854775807)∧∀i:Int,0≤i→i<l.length→∀j u,(encR (geta l i))[j]?=some u→w0.cell? ⟨b,off+i.toNat*7+j,none⟩=some u:=by
   rcases hc with ⟨_,h0⟩|⟨b,off,cap,e,_,hbs,hnc,hcm,hcell⟩
   ·exact .inl h0
   ·exact .inr ⟨b,off,cap,e,hbs,⟨hnc,hcm⟩,hcell⟩
  go_enter Tryz.func115,Tryz.ntmps115
  refine T3.done (s:=rulesP) (rp_all v l w0 p c hv hz h100 hrow) ⟨rfl,Fr.of _ rfl ⟨rfl,trivial⟩⟩ ?_;rintro a w ⟨⟨f,rfl,q2,_⟩,hb⟩;rw [frame87,show f 2=_ from q2]
  go_ret
  exact⟨rfl,hb⟩
end Go.Proofs.YtnmdpphddimfbaaGreat
/-
  Rules: the look of the reference. Conditions: strings and numbers are no greater than Go's.
-/
namespace Go.Proofs.YtnmdpphddimfbaaGreat
open Go.RowKit Go.Bw
def rrI (v:Value)(l:List RuleL)(w0:World)(k:Int)(a:Act)(w:World):Prop:=(0≤k∧k≤l.length∧NoErr (ruleAt l) k)∧Below w0.heap.size w0 w∧Fr 83 [(0,v),(3,.string (lastK l k)),(11,v),(12,.int .i64 l.length),(13,.int .i64 k)] a
end Go.Proofs.YtnmdpphddimfbaaGreat
/-
  Is a string among strings? The program's Common at one string. Condition: fewer strings than Go's greatest number.
-/
namespace Go.Proofs.YtnmdpphddimfbaaGreat
open Go.RowKit Go.Bw
section
variable (v:Value)(n:Nat)(zs:List ByteArray)(x:ByteArray)
set_option maxHeartbeats 400000 in
theorem common1 (base B:Nat)(w:World)(h:Row w base 1 v n (cellsOf encSt zs))(hB:w.cell? ⟨B,0,none⟩=some v):
  Calls Tryz.prog 105 #[.string x,.pointer (some ⟨B,0,none⟩)] w fun e w'=>e=.returned (.bool (hasS zs x))∧w=w':=by
 obtain⟨p,c,hv⟩:=h.shape;subst hv
 go_enter Tryz.func105,Tryz.ntmps105
 go_wp2_with (go_at_call 45;refine(contains_str _ n zs x base _ h).mono ?_;rintro e w1 ⟨rfl,rfl⟩)
 go_ret
 exact⟨rfl,rfl⟩
section
variable (base B g:Nat)(w:World)
theorem common_idx (h:Row w base 1 v n (cellsOf encSt zs))(hB:w.cell? ⟨B,0,none⟩=some v)(hg:w.cell? ⟨g,0,none⟩=some (.string x))(q:Bool)(hq:hasS zs x=q):
  Calls Tryz.prog 83 #[.slice (some ⟨g,0,none⟩) 1 1,.func (.func 105) #[] #[.pointer (some ⟨B,0,none⟩)]] w fun e w'=>e=.returned (.int .i64 (if q=true then 0 else -1))∧w=w':=by
 have H1:=Lib.hid (common1 v n zs x base B w h hB);rw [hq]at H1;clear hB h hq;cases q
 ·go_enter Tryz.func83,Tryz.ntmps83
  go_wp2_with fail
  go_loop [8] (fun i=>∃k:Int,0≤k∧k≤1∧i=.int .i64 k) (fun i=>2-(intOf i).toNat)
  case atStart=>exact⟨0,by omega,by omega,rfl⟩
  case round =>
   obtain⟨k,hk0,hk1,rfl⟩:=hrel
   by_cases hlt:k<1
   ·obtain rfl:k=0:=by omega
    clear hk0 hk1 hlt;go_wp2_with (go_at_call 105;refine H1.out.mono ?_;rintro e w1 ⟨rfl,rfl⟩)
    go_round
    case rel=>exact⟨1,by omega,by omega,rfl⟩
    case measure=>simp [intOf]
   ·obtain rfl:k=1:=by omega
    clear hk0 hk1 hlt;go_wp2_with fail
    go_ret
    exact⟨rfl,rfl⟩
 ·go_enter Tryz.func83,Tryz.ntmps83
  go_wp2_with fail
  go_loop [8] (fun i=>i=.int .i64 0) (fun i=>2-(intOf i).toNat)
  case atStart=>rfl
  case round =>
   obtain rfl:=hrel;go_wp2_with (go_at_call 105;refine H1.out.mono ?_;rintro e w1 ⟨rfl,rfl⟩)
   go_ret
   exact⟨rfl,rfl⟩
theorem common_fn (h:Row w base 1 v n (cellsOf encSt zs))(hB:w.cell? ⟨B,0,none⟩=some v)(hg:w.cell? ⟨g,0,none⟩=some (.string x)):
  Calls Tryz.prog 43 #[.slice (some ⟨g,0,none⟩) 1 1,.func (.func 105) #[] #[.pointer (some ⟨B,0,none⟩)]] w fun e w'=>e=.returned (.bool (hasS zs x))∧w=w':=by
 have H1:=Lib.hid (common_idx v n zs x base B g w h hB hg _ rfl);clear hB h hg;generalize hasS zs x=q at *;cases q
 all_goals
  go_enter Tryz.func43,Tryz.ntmps43
  go_wp2_with (go_at_call 83;refine H1.out.mono ?_;rintro e w1 ⟨rfl,rfl⟩)
  go_ret
  exact⟨rfl,rfl⟩
end
theorem common_any (base g:Nat)(w:World)(h:Row w base 1 v n (cellsOf encSt zs))(hg:w.cell? ⟨g,0,none⟩=some (.string x)):
  Calls Tryz.prog 70 #[.slice (some ⟨g,0,none⟩) 1 1,v] w fun e w'=>e=.returned (.bool (hasS zs x))∧Below w.heap.size w w':=by
 have hgl:=World.block_lt_of_cell? w _ hg;have hw0:=(Below.refl w.heap.size w).alloc (Nat.le_refl _) (.cells #[v] 39);have hr:=h.below hw0;have c0:=cells_new w #[v] 39 0 _ rfl;have c1:=(hw0.cell (p:=⟨g,0,none⟩) hgl).trans hg;have H1:=Lib.hid (common_fn v n zs x base w.heap.size g _ hr c0 c1);obtain⟨p,c,rfl⟩:=h.shape;clear hr c0 c1 hg h
 go_enter Tryz.func70,Tryz.ntmps70
 go_wp2_with fail
 refine H1.out.mono ?_;rintro e w1 ⟨rfl,rfl⟩;go_wp2_with fail
 go_ret
 exact⟨rfl,hw0⟩
end
end Go.Proofs.YtnmdpphddimfbaaGreat
/-
  What a rule gives: the program's and the reference's reckoning. Conditions: the rule and the line are right.
-/
namespace Go.Bw
open Go.RowKit
/-- The cells of block g read cs from its head on. -/
def CellsAt (w:World)(g:Nat)(cs:List Value):Prop:=g<w.heap.size∧∀j u,cs[j]?=some u→w.cell? ⟨g,j,none⟩=some u
theorem CellsAt.below {w w':World}{g:Nat}{cs:List Value}(h:CellsAt w g cs)(b:Below w.heap.size w w'):CellsAt w' g cs :=
 ⟨Nat.lt_of_lt_of_le h.1 b.size,fun j u hu=>(b.cell (p:=⟨g,j,none⟩) h.1).trans (h.2 j u hu)⟩
theorem CellsAt.new (w:World)(cs:Array Value)(e:TypeId):CellsAt (w.alloc (.cells cs e)) w.heap.size cs.toList:=⟨by simp,fun j u h=>cells_new w cs e j u h⟩
def cntTo (l:List StatL)(nm:ByteArray)(k:Int):Int:=(l.take k.toNat).foldl (fun n t=>if t.name=nm then t.count else n) 0
section
variable (l:List StatL)(nm:ByteArray)
theorem cntTo_zero:cntTo l nm 0=0:=rfl
theorem cntTo_succ (k:Int)(h0:0≤k)(h1:k<l.length):cntTo l nm (k+1)=if(geta l k).name=nm then(geta l k).count else cntTo l nm k:=by
 unfold cntTo;rw [show(k+1).toNat=k.toNat+1 by omega,List.take_succ_eq_append_getElem (by omega),List.foldl_append,geta_eq l k h0 h1];rfl
theorem cntTo_le (hc:∀t∈l,-100000≤t.count∧t.count≤100000)(k:Int)(h0:0≤k)(h1:k≤l.length):-100000≤cntTo l nm k∧cntTo l nm k≤100000:=by
 obtain⟨m,rfl⟩:=Int.eq_ofNat_of_zero_le h0
 induction m with
 | zero=>have:=cntTo_zero l nm;simp at this ⊢;rw [this];omega
 | succ m ih =>
  have hs:=cntTo_succ l nm m (by omega) (by omega);rw [show((m+1:Nat):Int)=(m:Int)+1 by omega,hs]
  split
  ·exact hc _ (geta_mem (by omega) (by omega))
  ·exact ih (by omega) (by omega)
end
end Go.Bw
namespace Go.Proofs.YtnmdpphddimfbaaGreat
open Go.RowKit Go.Bw
/-- A rule that is right. -/
structure RuleGood (r:RuleL):Prop where
 k0:1≤r.kind
 k1:r.kind≤4
 m:(r.kind=2∨r.kind=3)→1≤r.many∧r.many≤100000
 d0:1≤r.den
 d1:r.den≤100
 n0:-1000000≤r.num
 n1:r.num≤1000000
 h0:-1000000≤hund r.num r.den
 h1:hund r.num r.den≤1000000
theorem hund_le {num den:Int}(h0:1≤den)(h:den≤100)(h1:-10000*den≤num)(h2:num≤10000*den):-1000000≤hund num den∧hund num den≤1000000:=by
 unfold hund;have hq0:0≤100 / den:=Int.ediv_nonneg (by decide) (by omega);have hq:den*(100 / den)≤100:=Int.mul_ediv_self_le (by omega);have a:=Int.mul_le_mul_of_nonneg_right h1 hq0;have b:=Int.mul_le_mul_of_nonneg_right h2 hq0;rw [Int.mul_assoc]at a b;omega
theorem rule_good {l:List RuleL}(hz:∀r∈l,RuleOk r)(h:rulesE l=0):∀r∈l,RuleGood r:=by
 intro r hr;obtain⟨i,hi,rfl⟩:=List.getElem_of_mem hr;have h100:¬100<l.length:=by
  intro h100;unfold rulesE at h;rw [if_pos h100]at h;cases h
 have hat:ruleAt l i=0:=by
  unfold rulesE at h;rw [if_neg h100]at h;exact firstErr_zero h i (by omega) (by omega)
 have hg:geta l i=l[i]:=geta_eq l i (by omega) (by omega);unfold ruleAt at hat;rw [hg]at hat;have e1:kindB l[i]=false:=by
  cases hk:kindB l[i]
  ·rfl
  ·rw [hk]at hat
   split at hat <;> (try split at hat) <;> simp_all
 have e2:manyBad l[i]=false:=by
  cases hk:manyBad l[i]
  ·rfl
  ·rw [hk]at hat
   split at hat <;> (try split at hat) <;> (try split at hat) <;> simp_all
 have e3:amountE l[i].num l[i].den 10000=0:=by
  rw [e1,e2]at hat
  split at hat <;> (try split at hat) <;> simp_all
 have hk:=out_no e1;unfold amountE at e3;have a1:¬(l[i].den<1∨Int.gcd l[i].num l[i].den≠1):=by
  intro h;rw [if_pos h]at e3;cases e3
 rw [if_neg a1]at e3;have a2:¬(100 % l[i].den≠0∨l[i].num < -10000*l[i].den∨10000*l[i].den<l[i].num):=by
  intro h;rw [if_pos h]at e3;cases e3
 have hd1:1≤l[i].den:=by omega
 have hd0:100 % l[i].den=0:=by omega
 have hd2:=den_le hd1 hd0;have hh:=hund_le (num:=l[i].num) hd1 hd2 (by omega) (by omega);refine⟨hk.1,hk.2,fun hm=>?_,hd1,hd2,by omega,by omega,hh.1,hh.2⟩;have hm2:many2 l[i]=true:=by
  unfold many2;rcases hm with hm|hm <;> simp [hm]
 unfold manyBad at e2;rw [if_pos hm2]at e2;exact out_no e2
def posBad (r:RuleL)(ps:List ByteArray):Bool:=decide (r.pos.size≠0)&&!hasS ps r.pos
def cnt (ts:List StatL)(nm:ByteArray):Int:=cntTo ts nm ts.length
theorem mul_b (h t:Int)(h0:-1000000≤h)(h1:h≤1000000)(t0:-100000≤t)(t1:t≤100000):-100000000000≤h*t∧h*t≤100000000000:=by
 have a:(h*t).natAbs=h.natAbs*t.natAbs:=Int.natAbs_mul h t;have b:h.natAbs*t.natAbs≤1000000*100000:=Nat.mul_le_mul (by omega) (by omega);omega
def timesV (r:RuleL)(n:Int):Int:=if r.kind=1 then n else if r.kind=2 then max n 0 / r.many else if r.kind=3 then(if r.many≤n then 1 else 0)else if n=0 then 1 else 0
theorem times_le (r:RuleL)(n:Int)(hm:(r.kind=2∨r.kind=3)→1≤r.many∧r.many≤100000)(h0:-100000≤n)(h1:n≤100000):-100000≤timesV r n∧timesV r n≤100000:=by
 unfold timesV
 split
 ·omega
 ·split
  ·rename_i h2
   have:=hm (.inl h2);have a:0≤max n 0 / r.many:=Int.ediv_nonneg (by omega) (by omega);have b:max n 0 / r.many≤max n 0:=Int.ediv_le_self _ (by omega);omega
  ·split
   ·split <;> omega
   ·split <;> omega
def givesV (r:RuleL)(ps:List ByteArray)(ts:List StatL):Int:=if posBad r ps=true then 0 else hund r.num r.den*timesV r (cnt ts r.stat)
/-- What a call sees. -/
structure Gw (w0:World)(r:RuleL)(pl:ByteArray)(wk:Int)(vt vp:Value)(ts:List StatL)(ps:List ByteArray)(g3 g5:Nat)(w:World):Prop where
 bel:Below w0.heap.size w0 w
 rc:CellsAt w g3 (encR r)
 lc:CellsAt w g5 [.string pl,.int .i64 wk,vt]
 tr:Row w 0 2 vt ts.length (cellsOf encT ts)
 pr:Row w 0 1 vp ps.length (cellsOf encSt ps)
theorem Gw.below {w0 w w':World}{r:RuleL}{pl:ByteArray}{wk:Int}{vt vp:Value}{ts:List StatL}{ps:List ByteArray}{g3 g5:Nat}(h:Gw w0 r pl wk vt vp ts ps g3 g5 w)(b:Below w.heap.size w w'):Gw w0 r pl wk vt vp ts ps g3 g5 w' :=
 ⟨h.bel.trans (b.mono h.bel.size),h.rc.below b,h.lc.below b,h.tr.below b,h.pr.below b⟩
noncomputable def givesP:Code:=(Tryz.f117.body).getD .skip
theorem frame76 (f:Nat→Value):frame 76 f=⟨#[f 0,f 1,f 2,f 3,f 4,f 5,f 6,f 7,f 8,f 9,f 10,f 11,f 12,f 13,f 14,f 15,f 16,f 17,f 18,f 19,f 20,f 21,f 22,f 23,f 24,f 25,f 26,f 27,f 28,f 29,f 30,f 31,f 32,f 33,f 34,f 35,f 36,f 37,f 38,f 39,f 40,f 41,f 42,f 43,f 44,f 45,f 46,f 47,f 48,f 49,f 50,f 51,f 52,f 53,f 54,f 55,f 56,f 57,f 58,f 59,f 60,f 61,f 62,f 63,f 64,f 65,f 66,f 67,f 68,f 69,f 70,f 71,f 72,f 73,f 74,f 75],[]⟩:=by rfl
section
variable (w0:World)(r:RuleL)(pl:ByteArray)(wk:Int)(vt vp:Value)(ts:List StatL)(ps:List ByteArray)(g3 g5:Nat)
theorem gp_pos (hr:RuleGood r)(hc:∀t∈ts,-100000≤t.count∧t.count≤100000):T3 Tryz.prog (fun a w=>True∧Gw w0 r pl wk vt vp ts ps g3 g5 w∧Fr 76 [(1,vp),(3,.pointer (some ⟨g3,0,none⟩)),(5,.pointer (some ⟨g5,0,none⟩))] a) (sel [1,0,0] givesP)
  (fun a w=>∃q,Fr 76 ((21,.bool q)::[(1,vp),(3,.pointer (some ⟨g3,0,none⟩)),(5,.pointer (some ⟨g5,0,none⟩))]) a∧((q=posBad r ps)∧Gw w0 r pl wk vt vp ts ps g3 g5 w)) No 9
  (fun a w=>Fr 76 [(6,.int .i64 (givesV r ps ts))] a∧Below w0.heap.size w0 w):=by
 refine T3.leaf ?_;rintro Q JS JX JT K hS hK hX hE hT hR a w ⟨hC,hM,⟨f,rfl,q1,q3,q5,_⟩⟩;have HC:=Lib.hid hC;clear hC;rw [frame76,show f 1=vp from q1,show f 3=.pointer (some ⟨g3,0,none⟩)from q3,show f 5=.pointer (some ⟨g5,0,none⟩)from q5];clear q1 q3 q5;conv=>arg 2;whnf
 have c2:=hM.rc.2 2 _ rfl;have Hp:=Lib.hid (show posBad r ps=(decide (r.pos.size≠0)&&!hasS ps r.pos)from rfl);generalize r.pos=s2 at *
 by_cases h2:s2.size=0
 ·have Hq:=Lib.hid (show false=posBad r ps by rw [Hp.out];simp [h2]);have e2:=str_empty h2;clear h2;go_wp2_with fail
  refine Met.intro (hS _ _ ?_);exact⟨false,Fr.of _ rfl ⟨rfl,rfl,rfl,rfl,trivial⟩,Hq.out,hM⟩
 ·have e2:=str_full h2;have e3:(!s2.toList.isEmpty)=true:=by rw [e2];rfl
  have hb:=(Below.refl w.heap.size w).alloc (Nat.le_refl _) (.cells #[.string s2] 9);have H1:=Lib.hid (common_any vp ps.length ps s2 0 w.heap.size _ (hM.pr.below hb) (cells_new w #[.string s2] 9 0 _ rfl))
  replace hM:=hM.below hb
  clear hb;have Hq:=Lib.hid (show(!hasS ps s2)=posBad r ps by rw [Hp.out];simp [h2]);clear h2;go_wp2_with fail
  generalize w.alloc (.cells #[.string s2] 9)=W at *;refine H1.out.mono ?_;rintro e w1 ⟨rfl,hb⟩
  replace hM:=hM.below hb
  clear hb H1;generalize hasS ps s2=q at *;cases q
  ·go_wp2_with fail
   refine Met.intro (hS _ _ ?_);exact⟨true,Fr.of _ rfl ⟨rfl,rfl,rfl,rfl,trivial⟩,Hq.out,hM⟩
  ·go_wp2_with fail
   refine Met.intro (hS _ _ ?_);exact⟨false,Fr.of _ rfl ⟨rfl,rfl,rfl,rfl,trivial⟩,Hq.out,hM⟩
theorem gp_none (hr:RuleGood r)(hc:∀t∈ts,-100000≤t.count∧t.count≤100000):T3 Tryz.prog (fun a w=>Fr 76 ((21,.bool true)::[(1,vp),(3,.pointer (some ⟨g3,0,none⟩)),(5,.pointer (some ⟨g5,0,none⟩))]) a∧(true=posBad r ps)∧Gw w0 r pl wk vt vp ts ps g3 g5 w) (sel [1,0,1,2] givesP) No No 9 (fun a w=>Fr 76 [(6,.int .i64 (givesV r ps ts))] a∧Below w0.heap.size w0 w):=by
 refine T3.leaf ?_;rintro Q JS JX JT K hS hK hX hE hT hR a w ⟨⟨f,rfl,q21,q1,q3,q5,_⟩,hC,hM⟩;have He:=Lib.hid (show givesV r ps ts=0 by unfold givesV;rw [if_pos hC.symm]);have hb:=hM.bel;clear hC;rw [frame76,show f 21=.bool true from q21,show f 1=vp from q1,show f 3=.pointer (some ⟨g3,0,none⟩)from q3,show f 5=.pointer (some ⟨g5,0,none⟩)from q5];clear q21 q1 q3 q5;conv=>arg 2;whnf
 go_wp2_with fail
 refine Met.intro (hT _ _ ?_);exact⟨Fr.of _ rfl ⟨by rw [He.out];rfl,trivial⟩,hb⟩
theorem gp_c0 (hr:RuleGood r)(hc:∀t∈ts,-100000≤t.count∧t.count≤100000):T3 Tryz.prog (fun a w=>True∧Gw w0 r pl wk vt vp ts ps g3 g5 w∧Fr 76 [(1,vp),(3,.pointer (some ⟨g3,0,none⟩)),(5,.pointer (some ⟨g5,0,none⟩))] a) (sel [1,1,0] givesP)
  (fun a w=>True∧Gw w0 r pl wk vt vp ts ps g3 g5 w∧Fr 76 [(7,.int .i64 0),(1,vp),(3,.pointer (some ⟨g3,0,none⟩)),(5,.pointer (some ⟨g5,0,none⟩))] a) No 9
  (fun a w=>Fr 76 [(6,.int .i64 (givesV r ps ts))] a∧Below w0.heap.size w0 w):=by
 refine T3.leaf ?_;rintro Q JS JX JT K hS hK hX hE hT hR a w ⟨hC,hM,⟨f,rfl,q1,q3,q5,_⟩⟩;have HC:=Lib.hid hC;clear hC;rw [frame76,show f 1=vp from q1,show f 3=.pointer (some ⟨g3,0,none⟩)from q3,show f 5=.pointer (some ⟨g5,0,none⟩)from q5];clear q1 q3 q5;conv=>arg 2;whnf
 go_wp2_with fail
 refine Met.intro (hS _ _ ?_);exact⟨trivial,hM,Fr.of _ rfl ⟨rfl,rfl,rfl,rfl,trivial⟩⟩
end
def gpC (w0:World)(r:RuleL)(pl:ByteArray)(wk:Int)(vt vp:Value)(ts:List StatL)(ps:List ByteArray)(g3 g5:Nat)(k:Int)(a:Act)(w:World):Prop:=(0≤k∧k≤ts.length)∧Gw w0 r pl wk vt vp ts ps g3 g5 w∧Fr 76 [(23,vt),(24,.int .i64 ts.length),(25,.int .i64 k),(7,.int .i64 (cntTo ts r.stat k)),(1,vp),(3,.pointer (some ⟨g3,0,none⟩)),(5,.pointer (some ⟨g5,0,none⟩))] a
section
variable (w0:World)(r:RuleL)(pl:ByteArray)(wk:Int)(vt vp:Value)(ts:List StatL)(ps:List ByteArray)
section
variable (g3 g5:Nat)
theorem gp_c1 (hr:RuleGood r)(hc:∀t∈ts,-100000≤t.count∧t.count≤100000):T3 Tryz.prog (fun a w=>True∧Gw w0 r pl wk vt vp ts ps g3 g5 w∧Fr 76 [(7,.int .i64 0),(1,vp),(3,.pointer (some ⟨g3,0,none⟩)),(5,.pointer (some ⟨g5,0,none⟩))] a) (sel [1,1,1,0,0] givesP)
  (gpC w0 r pl wk vt vp ts ps g3 g5 0) No 9
  (fun a w=>Fr 76 [(6,.int .i64 (givesV r ps ts))] a∧Below w0.heap.size w0 w):=by
 refine T3.leaf ?_;rintro Q JS JX JT K hS hK hX hE hT hR a w ⟨hC,hM,⟨f,rfl,q7,q1,q3,q5,_⟩⟩;have HC:=Lib.hid hC;clear hC;rw [frame76,show f 7=.int .i64 0 from q7,show f 1=vp from q1,show f 3=.pointer (some ⟨g3,0,none⟩)from q3,show f 5=.pointer (some ⟨g5,0,none⟩)from q5];clear q7 q1 q3 q5;conv=>arg 2;whnf
 obtain⟨p,c,hv⟩:=hM.tr.shape;have c2:=hM.lc.2 2 _ rfl;rw [hv]at c2;go_wp2_with fail
 refine Met.intro (hS _ _ ?_);exact⟨⟨by omega,by omega⟩,hM,Fr.of _ rfl ⟨hv.symm,rfl,rfl,rfl,rfl,rfl,rfl,trivial⟩⟩
theorem gp_cr (hr:RuleGood r)(hc:∀t∈ts,-100000≤t.count∧t.count≤100000)(n:Nat):T3 Tryz.prog (fun a w=>∃k:Int,(n:Int)=ts.length-k∧gpC w0 r pl wk vt vp ts ps g3 g5 k a w) (sel [1,1,1,0,1,4,4] givesP)
  (fun a w=>∃m,m<n∧∃k:Int,(m:Int)=ts.length-k∧gpC w0 r pl wk vt vp ts ps g3 g5 k a w) (gpC w0 r pl wk vt vp ts ps g3 g5 ts.length) 0
  (fun a w=>Fr 76 [(6,.int .i64 (givesV r ps ts))] a∧Below w0.heap.size w0 w):=by
 refine T3.leaf ?_;rintro Q JS JX JT K hS hK hX hE hT hR a w ⟨k,hn,⟨hk0,hk1⟩,hM,⟨f,rfl,q23,q24,q25,q7,q1,q3,q5,_⟩⟩;rw [frame76,show f 23=vt from q23,show f 24=.int .i64 ts.length from q24,show f 25=.int .i64 k from q25,show f 7=.int .i64 (cntTo ts r.stat k)from q7,show f 1=vp from q1,show f 3=.pointer (some ⟨g3,0,none⟩)from q3,show f 5=.pointer (some ⟨g5,0,none⟩)from q5];clear q23 q24 q25 q7 q1 q3 q5;conv=>arg 2;whnf
 have HS:=Lib.hid hS;have HX:=Lib.hid hX;clear hS hX
 by_cases hlt:k<ts.length
 ·obtain⟨_,hcs⟩:=hM.tr.els encT_length (by decide);rcases hcs with ⟨_,h0⟩|⟨b,off,cap,hv,_,hbs,hnc,hcm,hcell⟩
  ·omega
  have t0:=hcell k hk0 hlt 0 _ rfl;have t1:=hcell k hk0 hlt 1 _ rfl;rw [Nat.add_zero]at t0;have Hs:=Lib.hid (cntTo_succ ts r.stat k hk0 hlt);have Hv:=Lib.hid hv;rw [hv];have hb:=(Below.refl w.heap.size w).alloc (Nat.le_refl _) (.cells (encT (geta ts k)).toArray 113)
  replace hM:=hM.below hb
  have c1:=hM.rc.2 1 _ rfl;clear hv hcell hb;unfold encT at hM c1;generalize (geta ts k).name=s1 at *;generalize (geta ts k).count=n1 at *;generalize hs2:r.stat=s2 at *;have Hse:=Lib.hid hs2;clear hs2
  go_upto_region 7 with fail
  have d0:=cells_new w #[.string s1,.int .i64 n1] 113 0 _ rfl;have d1:=cells_new w #[.string s1,.int .i64 n1] 113 1 _ rfl
  change Gw _ _ _ _ _ _ _ _ _ _ (w.alloc (.cells #[.string s1,.int .i64 n1] 113))at hM
  change (w.alloc (.cells #[.string s1,.int .i64 n1] 113)).cell? _=_ at c1
  generalize w.alloc (.cells #[.string s1,.int .i64 n1] 113)=W at *;generalize w.heap.size=g at *;clear t0 t1;generalize cntTo ts s2 k=m at *
  by_cases hq:s1=s2
  ·subst hq;have Hs2:=Lib.hid (show cntTo ts s1 (k+1)=n1 by rw [Hs.out,if_pos rfl]);clear Hs;go_wp2_with fail
   refine Met.intro (HS.out _ _ ?_);exact⟨n-1,by omega,k+1,by omega,⟨by omega,by omega⟩,hM,Fr.of _ rfl ⟨Hv.out.symm,rfl,rfl,by rw [Hse.out,Hs2.out];rfl,rfl,rfl,rfl,trivial⟩⟩
  ·have hqb:=toList_ne hq;have Hs2:=Lib.hid (show cntTo ts s2 (k+1)=m by rw [Hs.out,if_neg hq]);clear Hs;go_wp2_with fail
   refine Met.intro (HS.out _ _ ?_);exact⟨n-1,by omega,k+1,by omega,⟨by omega,by omega⟩,hM,Fr.of _ rfl ⟨Hv.out.symm,rfl,rfl,by rw [Hse.out,Hs2.out];rfl,rfl,rfl,rfl,trivial⟩⟩
 ·have hk:k=ts.length:=by omega
  subst hk;go_wp2_with fail
  refine hE _ _ (Met.intro (HX.out _ _ ?_));exact⟨⟨hk0,hk1⟩,hM,Fr.of _ rfl ⟨rfl,rfl,rfl,rfl,rfl,rfl,rfl,trivial⟩⟩
theorem gp_cnt (hr:RuleGood r)(hc:∀t∈ts,-100000≤t.count∧t.count≤100000):T3 Tryz.prog (gpC w0 r pl wk vt vp ts ps g3 g5 0) (sel [1,1,1,0,1] givesP) (gpC w0 r pl wk vt vp ts ps g3 g5 ts.length) No 9 (fun a w=>Fr 76 [(6,.int .i64 (givesV r ps ts))] a∧Below w0.heap.size w0 w):=by
 refine T3.loop (c:=(sel [1,1,1,0,1,4,4] givesP)) (fun n a w=>∃k:Int,(n:Int)=ts.length-k∧gpC w0 r pl wk vt vp ts ps g3 g5 k a w) (fun a w h=>⟨ts.length,0,by omega,h⟩) (fun n=>gp_cr w0 r pl wk vt vp ts ps g3 g5 hr hc n)
theorem gp_worth (hr:RuleGood r)(hc:∀t∈ts,-100000≤t.count∧t.count≤100000):T3 Tryz.prog (fun a w=>True∧Gw w0 r pl wk vt vp ts ps g3 g5 w∧Fr 76 [(7,.int .i64 (cnt ts r.stat)),(1,vp),(3,.pointer (some ⟨g3,0,none⟩)),(5,.pointer (some ⟨g5,0,none⟩))] a) (sel [1,1,1,1,0] givesP)
  (fun a w=>True∧Gw w0 r pl wk vt vp ts ps g3 g5 w∧Fr 76 [(10,.int .i64 (hund r.num r.den)),(7,.int .i64 (cnt ts r.stat)),(1,vp),(3,.pointer (some ⟨g3,0,none⟩)),(5,.pointer (some ⟨g5,0,none⟩))] a) No 9
  (fun a w=>Fr 76 [(6,.int .i64 (givesV r ps ts))] a∧Below w0.heap.size w0 w):=by
 refine T3.leaf ?_;rintro Q JS JX JT K hS hK hX hE hT hR a w ⟨hC,hM,⟨f,rfl,q7,q1,q3,q5,_⟩⟩;have HC:=Lib.hid hC;clear hC;rw [frame76,show f 7=.int .i64 (cnt ts r.stat)from q7,show f 1=vp from q1,show f 3=.pointer (some ⟨g3,0,none⟩)from q3,show f 5=.pointer (some ⟨g5,0,none⟩)from q5];clear q7 q1 q3 q5;conv=>arg 2;whnf
 have hn0:=hr.n0;have hn1:=hr.n1;have hd0:=hr.d0;have hd1:=hr.d1;have c5:=hM.rc.2 5 _ rfl;have c6:=hM.rc.2 6 _ rfl;generalize cnt ts r.stat=m at *;generalize r.num=n1 at *;generalize r.den=n2 at *;go_wp2_with (go_at_call 87;refine(hundredths_prog n1 n2 _ (by omega) (by omega) hd0 (by omega)).mono ?_;rintro e w1 ⟨rfl,hb⟩;replace hM:=hM.below hb;clear hb)
 refine Met.intro (hS _ _ ?_);exact⟨trivial,hM,Fr.of _ rfl ⟨rfl,rfl,rfl,rfl,rfl,trivial⟩⟩
theorem gp_sw (hr:RuleGood r)(hc:∀t∈ts,-100000≤t.count∧t.count≤100000)(hp:posBad r ps=false):T3 Tryz.prog (fun a w=>True∧Gw w0 r pl wk vt vp ts ps g3 g5 w∧Fr 76 [(10,.int .i64 (hund r.num r.den)),(7,.int .i64 (cnt ts r.stat)),(1,vp),(3,.pointer (some ⟨g3,0,none⟩)),(5,.pointer (some ⟨g5,0,none⟩))] a) (sel [1,1,1,1,1] givesP) No No 9 (fun a w=>Fr 76 [(6,.int .i64 (givesV r ps ts))] a∧Below w0.heap.size w0 w):=by
 refine T3.leaf ?_;rintro Q JS JX JT K hS hK hX hE hT hR a w ⟨hC,hM,⟨f,rfl,q10,q7,q1,q3,q5,_⟩⟩;have Hv:=Lib.hid (show givesV r ps ts=hund r.num r.den*timesV r (cnt ts r.stat)by unfold givesV;rw [if_neg (by rw [hp];decide)]);have hcb:=cntTo_le ts r.stat hc ts.length (by omega) (by omega)
 change -100000≤cnt ts r.stat∧cnt ts r.stat≤100000 at hcb
 have hb:=hM.bel;have hk0:=hr.k0;have hk1:=hr.k1;have hm:=hr.m;have hh0:=hr.h0;have hh1:=hr.h1;have c3:=hM.rc.2 3 _ rfl;have c4:=hM.rc.2 4 _ rfl;rw [frame76,show f 10=.int .i64 (hund r.num r.den)from q10,show f 7=.int .i64 (cnt ts r.stat)from q7,show f 1=vp from q1,show f 3=.pointer (some ⟨g3,0,none⟩)from q3,show f 5=.pointer (some ⟨g5,0,none⟩)from q5];clear q10 q7 q1 q3 q5;conv=>arg 2;whnf
 generalize hund r.num r.den=h at *;generalize cnt ts r.stat=m at *;have Ht:=Lib.hid (show timesV r m=if r.kind=1 then m else if r.kind=2 then max m 0 / r.many else if r.kind=3 then(if r.many≤m then 1 else 0)else if m=0 then 1 else 0 from rfl);generalize r.kind=kd at *;generalize r.many=mn at *;have hkd:kd=1∨kd=2∨kd=3∨kd=4:=by omega
 clear hp hk0 hk1;rcases hkd with rfl|rfl|rfl|rfl
 ·have HE:=Lib.hid (show givesV r ps ts=h*m by rw [Hv.out,Ht.out,if_pos rfl]);have hbb:=mul_b h m hh0 hh1 hcb.1 hcb.2;clear hm;go_wp2_with fail
  refine Met.intro (hT _ _ ?_);exact⟨Fr.of _ rfl ⟨by rw [HE.out];rfl,trivial⟩,hb⟩
 ·have hm:=hm (.inl rfl);have HE:=Lib.hid (show givesV r ps ts=h*(max m 0 / mn)by rw [Hv.out,Ht.out,if_neg (by decide),if_pos rfl]);have hq0:0≤max m 0 / mn:=Int.ediv_nonneg (by omega) (by omega);have hq1:max m 0 / mn≤max m 0:=Int.ediv_le_self _ (by omega);have hbb:=mul_b h (max m 0 / mn) hh0 hh1 (by omega) (by omega);have hmz:(mn==0)=false:=by simp;omega
  go_wp2_with fail
  refine Met.intro (hT _ _ ?_);exact⟨Fr.of _ rfl ⟨by rw [HE.out];rfl,trivial⟩,hb⟩
 ·have hm:=hm (.inr rfl)
  by_cases hge:mn≤m
  ·have HE:=Lib.hid (show givesV r ps ts=h by rw [Hv.out,Ht.out,if_neg (by decide),if_neg (by decide),if_pos rfl,if_pos hge,Int.mul_one]);go_wp2_with fail
   refine Met.intro (hT _ _ ?_);exact⟨Fr.of _ rfl ⟨by rw [HE.out];rfl,trivial⟩,hb⟩
  ·have HE:=Lib.hid (show givesV r ps ts=0 by rw [Hv.out,Ht.out,if_neg (by decide),if_neg (by decide),if_pos rfl,if_neg hge,Int.mul_zero]);have hgd:decide (mn≤m)=false:=by simp;omega
   go_wp2_with fail
   refine Met.intro (hT _ _ ?_);exact⟨Fr.of _ rfl ⟨by rw [HE.out];rfl,trivial⟩,hb⟩
 ·clear hm
  by_cases hz:m=0
  ·have HE:=Lib.hid (show givesV r ps ts=h by rw [Hv.out,Ht.out,if_neg (by decide),if_neg (by decide),if_neg (by decide),if_pos hz,Int.mul_one]);have hzb:(m==0)=true:=by simp [hz]
   clear hz;go_wp2_with fail
   refine Met.intro (hT _ _ ?_);exact⟨Fr.of _ rfl ⟨by rw [HE.out];rfl,trivial⟩,hb⟩
  ·have HE:=Lib.hid (show givesV r ps ts=0 by rw [Hv.out,Ht.out,if_neg (by decide),if_neg (by decide),if_neg (by decide),if_neg hz,Int.mul_zero]);have hzb:(m==0)=false:=by simp [hz]
   clear hz;go_wp2_with fail
   refine Met.intro (hT _ _ ?_);exact⟨Fr.of _ rfl ⟨by rw [HE.out];rfl,trivial⟩,hb⟩
theorem gp_all (hr:RuleGood r)(hc:∀t∈ts,-100000≤t.count∧t.count≤100000):T3 Tryz.prog (fun a w=>True∧Gw w0 r pl wk vt vp ts ps g3 g5 w∧Fr 76 [(1,vp),(3,.pointer (some ⟨g3,0,none⟩)),(5,.pointer (some ⟨g5,0,none⟩))] a) (sel [1] givesP) No No 9 (fun a w=>Fr 76 [(6,.int .i64 (givesV r ps ts))] a∧Below w0.heap.size w0 w):=by
 cases hp:posBad r ps
 ·refine T3.seq (s:=(sel [1,0] givesP)) (c:=(sel [1,1] givesP)) (T3.test (s:=(sel [1,0,0] givesP)) (x:=(sel [1,0,1,2] givesP)) (y:=.skip) (l:=[(1,vp),(3,.pointer (some ⟨g3,0,none⟩)),(5,.pointer (some ⟨g5,0,none⟩))]) (C:=fun q=>q=posBad r ps) (W:=Gw w0 r pl wk vt vp ts ps g3 g5) (by decide) (gp_pos w0 r pl wk vt vp ts ps g3 g5 hr hc) (T3.noS (gp_none w0 r pl wk vt vp ts ps g3 g5 hr hc)) (T3.skip (fun a w q=>q))) ?_;refine T3.seq (s:=(sel [1,1,0] givesP)) (c:=(sel [1,1,1] givesP)) ((gp_c0 w0 r pl wk vt vp ts ps g3 g5 hr hc).pre (fun a w q=>⟨trivial,q.2⟩)) ?_;refine T3.seq (s:=(sel [1,1,1,0] givesP)) (c:=(sel [1,1,1,1] givesP)) (T3.seq (s:=(sel [1,1,1,0,0] givesP)) (c:=(sel [1,1,1,0,1] givesP)) (gp_c1 w0 r pl wk vt vp ts ps g3 g5 hr hc) (gp_cnt w0 r pl wk vt vp ts ps g3 g5 hr hc)) ?_;refine T3.seq (s:=(sel [1,1,1,1,0] givesP)) (c:=(sel [1,1,1,1,1] givesP)) ((gp_worth w0 r pl wk vt vp ts ps g3 g5 hr hc).pre (fun a w q=>⟨trivial,q.2.1,q.2.2.sub (by intro p hp;simp at hp ⊢;rcases hp with h|h|h|h <;> simp [h,cnt])⟩)) ?_;exact gp_sw w0 r pl wk vt vp ts ps g3 g5 hr hc hp
 ·refine T3.seq (s:=(sel [1,0] givesP)) (c:=(sel [1,1] givesP)) (T3.test (s:=(sel [1,0,0] givesP)) (x:=(sel [1,0,1,2] givesP)) (y:=.skip) (l:=[(1,vp),(3,.pointer (some ⟨g3,0,none⟩)),(5,.pointer (some ⟨g5,0,none⟩))]) (C:=fun q=>q=posBad r ps) (W:=Gw w0 r pl wk vt vp ts ps g3 g5) (by decide) (gp_pos w0 r pl wk vt vp ts ps g3 g5 hr hc) (T3.noS (gp_none w0 r pl wk vt vp ts ps g3 g5 hr hc)) (T3.skip (fun a w q=>q))) ?_;intro a w q;rw [hp]at q;cases q.1
end
theorem gives_prog (hr:RuleGood r)(hc:∀t∈ts,-100000≤t.count∧t.count≤100000)(htr:Row w0 0 2 vt ts.length (cellsOf encT ts))(hpr:Row w0 0 1 vp ps.length (cellsOf encSt ps)):
  Calls Tryz.prog 117 #[.agg #[.string r.key,.string r.stat,.string r.pos,.int .i64 r.kind,.int .i64 r.many,.int .i64 r.num,.int .i64 r.den],vp,.agg #[.string pl,.int .i64 wk,vt]] w0 fun e w' =>
   e=.returned (.int .i64 (givesV r ps ts))∧Below w0.heap.size w0 w':=by
 have hb1:=(Below.refl w0.heap.size w0).alloc (Nat.le_refl _) (.cells (encR r).toArray 110);have hb2:=(Below.refl (w0.alloc (.cells (encR r).toArray 110)).heap.size (w0.alloc (.cells (encR r).toArray 110))).alloc (Nat.le_refl _) (.cells #[.string pl,.int .i64 wk,vt] 116);have hM:Gw w0 r pl wk vt vp ts ps w0.heap.size (w0.alloc (.cells (encR r).toArray 110)).heap.size ((w0.alloc (.cells (encR r).toArray 110)).alloc (.cells #[.string pl,.int .i64 wk,vt] 116)) :=
  ⟨hb1.trans (hb2.mono hb1.size),(CellsAt.new w0 (encR r).toArray _).below hb2,CellsAt.new _ _ _,(htr.below hb1).below hb2,(hpr.below hb1).below hb2⟩
 have HM:=Lib.hid hM;obtain⟨p1,c1,hv1⟩:=htr.shape;obtain⟨p2,c2,hv2⟩:=hpr.shape;subst hv1;subst hv2;unfold encR at HM;have hsz:(w0.alloc (.cells (encR r).toArray 110)).heap.size=w0.heap.size+1:=by simp
 unfold encR at hsz;rw [hsz]at HM;clear hM hb1 hb2 hsz
 go_enter Tryz.func117,Tryz.ntmps117
 refine T3.done (P:=Tryz.prog) (s:=givesP) (R:=fun a w=>w=w0∧Fr 76 [(0,.agg #[.string r.key,.string r.stat,.string r.pos,.int .i64 r.kind,.int .i64 r.many,.int .i64 r.num,.int .i64 r.den]),(1,.slice p2 ps.length c2),(2,.agg #[.string pl,.int .i64 wk,.slice p1 ts.length c1])] a)
  (T3.seq (s:=(sel [0] givesP)) (c:=(sel [1] givesP)) ?_ (gp_all w0 r pl wk (.slice p1 ts.length c1) (.slice p2 ps.length c2) ts ps w0.heap.size (w0.heap.size+1) hr hc)) ⟨rfl,Fr.of _ rfl ⟨rfl,rfl,rfl,trivial⟩⟩ ?_
 ·refine T3.leaf ?_;rintro Q JS JX JT K hS hK hX hE hT hR a w ⟨hw,⟨f,rfl,q0,q1,q2,_⟩⟩;subst hw;rw [frame76,show f 0=_ from q0,show f 1=_ from q1,show f 2=_ from q2];clear q0 q1 q2;conv=>arg 2;whnf
  go_wp2_with fail
  refine Met.intro (hS _ _ ?_);exact⟨trivial,HM.out,Fr.of _ rfl ⟨rfl,rfl,rfl,trivial⟩⟩
 ·rintro a w ⟨⟨f,rfl,q6,_⟩,hb⟩;rw [frame76,show f 6=_ from q6]
  go_ret
  exact⟨rfl,hb⟩
end
def grC (w0:World)(r:RuleL)(pl:ByteArray)(wk:Int)(vt vp:Value)(ts:List StatL)(ps:List ByteArray)(g3 g5:Nat)(k:Int)(a:Act)(w:World):Prop:=(0≤k∧k≤ts.length)∧Gw w0 r pl wk vt vp ts ps g3 g5 w∧Fr 78 [(12,vt),(13,.int .i64 ts.length),(14,.int .i64 k),(7,.int .i64 (cntTo ts r.stat k)),(1,vp),(3,.pointer (some ⟨g3,0,none⟩)),(5,.pointer (some ⟨g5,0,none⟩))] a
end Go.Proofs.YtnmdpphddimfbaaGreat
/-
  The points of a line: the program's and the reference's sum. Conditions: the rules and the line are right.
-/
namespace Go.Proofs.YtnmdpphddimfbaaGreat
open Go.RowKit Go.Bw
def ptsTo (rs:List RuleL)(ps:List ByteArray)(ts:List StatL)(k:Int):Int:=((rs.take k.toNat).map fun r=>givesV r ps ts).sum
def ptsV (rs:List RuleL)(ps:List ByteArray)(ts:List StatL):Int:=ptsTo rs ps ts rs.length
section
variable (rs:List RuleL)(ps:List ByteArray)(ts:List StatL)
theorem ptsTo_zero:ptsTo rs ps ts 0=0:=rfl
theorem ptsTo_succ (k:Int)(h0:0≤k)(h1:k<rs.length):ptsTo rs ps ts (k+1)=ptsTo rs ps ts k+givesV (geta rs k) ps ts:=by
 unfold ptsTo;rw [show(k+1).toNat=k.toNat+1 by omega,List.take_succ_eq_append_getElem (by omega),geta_eq rs k h0 h1,List.map_append,List.sum_append];simp only [List.map_cons,List.map_nil,List.sum_cons,List.sum_nil];omega
end
theorem gives_le {r:RuleL}(hr:RuleGood r)(ps:List ByteArray)(ts:List StatL)(hc:∀t∈ts,-100000≤t.count∧t.count≤100000):-100000000000≤givesV r ps ts∧givesV r ps ts≤100000000000:=by
 have hcb:=cntTo_le ts r.stat hc ts.length (by omega) (by omega);have htb:=times_le r (cnt ts r.stat) hr.m hcb.1 hcb.2;have:=mul_b (hund r.num r.den) (timesV r (cnt ts r.stat)) hr.h0 hr.h1 htb.1 htb.2;unfold givesV
 split
 ·omega
 ·exact this
theorem ptsTo_le {rs:List RuleL}(hg:∀r∈rs,RuleGood r)(hl:rs.length≤100)(ps:List ByteArray)(ts:List StatL)(hc:∀t∈ts,-100000≤t.count∧t.count≤100000)(k:Int)(h0:0≤k)(h1:k≤rs.length):
  -10000000000000≤ptsTo rs ps ts k∧ptsTo rs ps ts k≤10000000000000:=by
 have key:∀m:Nat,m≤rs.length→-(100000000000*(m:Int))≤ptsTo rs ps ts m∧ptsTo rs ps ts m≤100000000000*(m:Int):=by
  intro m
  induction m with
  | zero=>intro _;have:=ptsTo_zero rs ps ts;simp at this ⊢;rw [this];omega
  | succ m ih =>
   intro hm;have hs:=ptsTo_succ rs ps ts m (by omega) (by omega);have hgl:=gives_le (hg _ (geta_mem (l:=rs) (i:=m) (by omega) (by omega))) ps ts hc;have:=ih (by omega);rw [show((m+1:Nat):Int)=(m:Int)+1 by omega,hs];omega
 have:=key k.toNat (by omega);rw [show((k.toNat:Nat):Int)=k by omega]at this;omega
set_option maxHeartbeats 2000000 in
theorem points_prog (w0:World)(vr vp vt:Value)(rs:List RuleL)(ps:List ByteArray)(ts:List StatL)(pl:ByteArray)(wk:Int)(hg:∀r∈rs,RuleGood r)(hl:rs.length≤100)(hc:∀t∈ts,-100000≤t.count∧t.count≤100000)(hrr:Row w0 0 7 vr rs.length (cellsOf encR rs))(htr:Row w0 0 2 vt ts.length (cellsOf encT ts))(hpr:Row w0 0 1 vp ps.length (cellsOf encSt ps)):
  Calls Tryz.prog 107 #[vr,vp,.agg #[.string pl,.int .i64 wk,vt]] w0 fun e w'=>e=.returned (.int .i64 (ptsV rs ps ts))∧Below w0.heap.size w0 w':=by
 obtain⟨_,hcs⟩:=hrr.els encR_length (by decide);obtain⟨p0,c0,hv0⟩:=hrr.shape;obtain⟨p1,c1,hv1⟩:=htr.shape;obtain⟨p2,c2,hv2⟩:=hpr.shape;have Hv1:=Lib.hid hv1;have Hv2:=Lib.hid hv2;clear hrr;subst hv0;subst hv1;subst hv2
 go_enter Tryz.func107,Tryz.ntmps107
 go_wp2_with fail
 have hbW:=(Below.refl w0.heap.size w0).alloc (Nat.le_refl _) (.cells #[.string pl,.int .i64 wk,.slice p1 ts.length c1] 116);have hL:=CellsAt.new w0 #[.string pl,.int .i64 wk,.slice p1 ts.length c1] 116;generalize (w0.alloc (.cells #[.string pl,.int .i64 wk,.slice p1 ts.length c1] 116))=W at *
 go_loopw [12,7] (fun i s wr=>∃k:Int,0≤k∧k≤rs.length∧i=.int .i64 k∧s=.int .i64 (ptsTo rs ps ts k)∧Below W.heap.size W wr) (fun i _ _=>rs.length-(intOf i).toNat)
 case atStart=>exact⟨0,by omega,by omega,rfl,rfl,Below.refl _ _⟩
 case round =>
  obtain⟨k,hk0,hk1,rfl,rfl,hb⟩:=hrel;have hpb:=ptsTo_le hg hl ps ts hc k hk0 hk1
  by_cases hlt:k<rs.length
  ·rcases hcs with ⟨_,h0⟩|⟨b,off,cap,hv,_,hbs,hnc,hcm,hcell⟩
   ·omega
   simp only [Value.slice.injEq]at hv;obtain⟨rfl,_,rfl⟩:=hv;have hall:=hbW.trans (hb.mono hbW.size);have tr:∀j u,(encR (geta rs k))[j]?=some u→wr.cell? ⟨b,off+k.toNat*7+j,none⟩=some u:=fun j u h=>(hall.cell (p:=⟨b,off+k.toNat*7+j,none⟩) hbs).trans (hcell k hk0 hlt j u h)
   have t0:=tr 0 _ rfl;have t1:=tr 1 _ rfl;have t2:=tr 2 _ rfl;have t3:=tr 3 _ rfl;have t4:=tr 4 _ rfl;have t5:=tr 5 _ rfl;have t6:=tr 6 _ rfl;rw [Nat.add_zero]at t0;have hgr:=hg _ (geta_mem hk0 hlt);have Hs:=Lib.hid (ptsTo_succ rs ps ts k hk0 hlt);have hgb:=gives_le hgr ps ts hc;have hbn:=hb.alloc hb.size (.cells (encR (geta rs k)).toArray 110);have hC:=CellsAt.new wr (encR (geta rs k)).toArray 110;have hln:=hL.below hbn;have hall2:=hall.trans ((Below.refl wr.heap.size wr).alloc (Nat.le_refl _) (.cells (encR (geta rs k)).toArray 110) |>.mono hall.size);have HT:=Lib.hid (htr.below hall2);have HP:=Lib.hid (hpr.below hall2);have HG:=fun w h1 h2=>gives_prog w (geta rs k) pl wk (.slice p1 ts.length c1) (.slice p2 ps.length c2) ts ps hgr hc h1 h2
   have HG:=Lib.hid HG;clear tr hcell hL hgr hall;generalize geta rs k=R at *;unfold encR at hC hbn hln hall2 HT HP
   go_upto_region 5 with fail
   change Below W.heap.size W (wr.alloc (.cells #[.string R.key,.string R.stat,.string R.pos,.int .i64 R.kind,.int .i64 R.many,.int .i64 R.num,.int .i64 R.den] 110))at hbn
   change CellsAt (wr.alloc (.cells #[.string R.key,.string R.stat,.string R.pos,.int .i64 R.kind,.int .i64 R.many,.int .i64 R.num,.int .i64 R.den] 110)) _ _ at hC
   change CellsAt (wr.alloc (.cells #[.string R.key,.string R.stat,.string R.pos,.int .i64 R.kind,.int .i64 R.many,.int .i64 R.num,.int .i64 R.den] 110)) _ _ at hln
   change Below w0.heap.size w0 (wr.alloc (.cells #[.string R.key,.string R.stat,.string R.pos,.int .i64 R.kind,.int .i64 R.many,.int .i64 R.num,.int .i64 R.den] 110))at hall2
   change Hid (Row (wr.alloc (.cells #[.string R.key,.string R.stat,.string R.pos,.int .i64 R.kind,.int .i64 R.many,.int .i64 R.num,.int .i64 R.den] 110)) _ _ _ _ _)at HT
   change Hid (Row (wr.alloc (.cells #[.string R.key,.string R.stat,.string R.pos,.int .i64 R.kind,.int .i64 R.many,.int .i64 R.num,.int .i64 R.den] 110)) _ _ _ _ _)at HP
   generalize wr.alloc (.cells #[.string R.key,.string R.stat,.string R.pos,.int .i64 R.kind,.int .i64 R.many,.int .i64 R.num,.int .i64 R.den] 110)=W2 at *;have r0:=hC.2 0 _ rfl;have r1:=hC.2 1 _ rfl;have r2:=hC.2 2 _ rfl;have r3:=hC.2 3 _ rfl;have r4:=hC.2 4 _ rfl;have r5:=hC.2 5 _ rfl;have r6:=hC.2 6 _ rfl;have l0:=hln.2 0 _ rfl;have l1:=hln.2 1 _ rfl;have l2:=hln.2 2 _ rfl;clear hC hln t0 t1 t2 t3 t4 t5 t6 hall2;generalize wr.heap.size=g at *;go_wp2_with (go_at_call 117;refine(HG.out _ HT.out HP.out).mono ?_;rintro e w1 ⟨rfl,hb3⟩;replace hbn:=hbn.trans (hb3.mono hbn.size);clear hb3 r0 r1 r2 r3 r4 r5 r6 l0 l1 l2)
   go_roundw
   case rel=>exact⟨k+1,by omega,by omega,rfl,by rw [Hs.out],hbn⟩
   case measure=>simp [intOf];omega
  ·obtain rfl:k=rs.length:=by omega
   clear hcs hk0 hk1 hlt
   change -10000000000000≤ptsV rs ps ts∧ptsV rs ps ts≤10000000000000 at hpb
   go_wp2_with fail
   go_ret
   exact⟨rfl,hbW.trans (hb.mono hbW.size)⟩
end Go.Proofs.YtnmdpphddimfbaaGreat
