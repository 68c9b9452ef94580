/-
  Contracts and lemmas towards the statement, of several parts; each part says ahead of it what it holds and under which conditions.
-/
import Derived.Test.YtnmdpphddimfbaaGreatMg3
import Derived.Test.YtnmdpphddimfbaaGreatMg2
import Derived.Deep.Cut
import Derived.Test.YtnmdpphddimfbaaGreatMg1
import Derived.Laws.AppendOwnNone
set_option maxRecDepth 100000
set_option maxHeartbeats 1000000
set_option linter.unusedSectionVars false
/-
  Line-ups: what is wrong with fills (CheckFills, FillsFault). Conditions: at most 1000 of each; strings of at most 1000 bytes; whole numbers are Go's.
-/
set_option linter.unusedVariables false
namespace Go.Bw
open Go.RowKit
/-- A block that may be left from inside. -/
theorem T3.blockX {P:Program}{R S X T:Rel}{c:Code}{id id'':Nat}(h:T3 P R c S S id T):T3 P R (.block id c) S X id'' T:=by
 intro a w hR;refine wp_block (wp_mono (h a w hR) ?_);intro e a w q;cases e with
 | normal=>exact q
 | exit i =>
  obtain⟨rfl,q⟩:=q;show Exit.inBlock i _ (.exit i) a w;simp only [Exit.inBlock,if_true];exact q
 | ret=>exact q
 | goto l=>exact q
 | panic ch=>exact q
 | outgrown=>exact q
end Go.Bw
namespace Go.Proofs.YtnmdpphddimfbaaGreat
open Go.RowKit Go.Bw
/-- A fill in a box. -/
structure FlB (w:World)(g:Nat)(x:FlD):Prop where
 c0:w.cell? ⟨g,0,none⟩=some (.string x.sl)
 c1:w.cell? ⟨g,1,none⟩=some (.string x.pl)
theorem FlB.new (w:World)(x:FlD)(e:TypeId):FlB (w.alloc (.cells #[.string x.sl,.string x.pl] e)) w.heap.size x:=⟨cells_new w _ _ 0 _ rfl,cells_new w _ _ 1 _ rfl⟩
theorem FlB.below {w w':World}{g:Nat}{x:FlD}(h:FlB w g x)(b:Below w.heap.size w w'):FlB w' g x :=
 ⟨(b.cell (World.block_lt_of_cell? w _ h.c0)).trans h.c0,(b.cell (World.block_lt_of_cell? w _ h.c1)).trans h.c1⟩
def ssE (S:List SlD)(L:List ScD):Int:=if slotsE S≠0 then slotsE S else scorersE L
section
variable {S:List SlD}{L:List ScD}
include S L
theorem allE_ss {F:List FlD}(h:ssE S L≠0):allE S L F=ssE S L:=by
 unfold allE;unfold ssE at h ⊢
 split
 ·rfl
 ·rename_i h0
  rw [if_neg h0]at h;rw [if_pos h]
theorem allE_fills {F:List FlD}(h:ssE S L=0):allE S L F=fillsE S L F:=by
 unfold allE;unfold ssE at h
 split at h
 ·rename_i h0;exact absurd h h0
 ·rename_i h0
  rw [if_neg h0,if_neg (by simp [h])]
theorem ss_rise (h:ssE S L=0):ScRise L:=by
 unfold ssE at h
 split at h
 ·rename_i h0;exact absurd h h0
 ·exact rise_of h
end
theorem sc_mem {L:List ScD}{x:ByteArray}(h:¬scIdx L x<0):scIdx L x<L.length:=by
 have h0:0≤scIdx L x:=by omega
 exact(idxI_lt h0).1
theorem Row.nonnil {w:World}{sz n cap:Nat}{p:Option Addr}{cs:List Value}(h:Row w 0 sz (.slice p n cap) n cs)(h0:0<n):∃b off,p=some ⟨b,off,none⟩∧n≤cap∧cap≤9223372036854775807∧∀i u,cs[i]?=some u→w.cell? ⟨b,off+i,none⟩=some u:=by
 rcases h.2 with ⟨hv,e⟩|⟨b,off,cap',hv,_,_,hn,hc,hcell⟩
 ·omega
 ·simp only [Value.slice.injEq]at hv;obtain⟨rfl,_,rfl⟩:=hv;exact⟨b,off,rfl,hn,hc,hcell⟩
theorem Row.elAt {α:Type} [Inhabited α] {enc:α→List Value} {sz:Nat} (henc:∀x,(enc x).length=sz) {l:List α} {w:World} {b off:Nat} (hc:∀i u,(cellsOf enc l)[i]?=some u→w.cell? ⟨b,off+i,none⟩=some u) {k:Int} (h0:0≤k) (h1:k<l.length) (j:Nat) (u:Value) (hj:j<sz) (hu:(enc (geta l k))[j]?=some u):w.cell? ⟨b,off+k.toNat*sz+j,none⟩=some u:=by
 rw [Nat.add_assoc];refine hc _ _ ?_;rw [cellsOf_get enc sz henc l k.toNat (by omega) j hj,←hu,geta_eq l k h0 h1]
noncomputable def cfP:Code:=(Tryz.f25.body).getD .skip
def cfLI (w0:World)(vs vl vf:Value)(S:List SlD)(L:List ScD)(Fs:List FlD)(hs:SlH w0 vs S)(hl:ScH w0 vl L)(hf:FlH w0 vf Fs)(hlen:Hid (Fs.length=S.length))(r:ScRise L)(hz0:ssE S L=0)(k:Int)(a:Act)(w:World):Prop:=(0≤k∧k≤Fs.length)∧(NoErr (fillAt S L Fs) k)∧(Below w0.heap.size w0 w)∧Fr 71 [(0,vs),(1,vl),(2,vf),(25,vf),(26,.int .i64 Fs.length),(27,.int .i64 k)] a
noncomputable def ffR:Code:=(Tryz.f15.body).getD .skip
def ffLI (w0:World)(vs vl vf:Value)(S:List SlD)(L:List ScD)(Fs:List FlD)(hs:SlH w0 vs S)(hl:ScH w0 vl L)(hf:FlH w0 vf Fs)(hlen:Hid (Fs.length=S.length))(k:Int)(a:Act)(w:World):Prop:=(0≤k∧k≤Fs.length)∧(NoErr (fillAt S L Fs) k)∧(Below w0.heap.size w0 w)∧Fr 60 [(0,vs),(1,vl),(2,vf),(15,vf),(16,.int .i64 Fs.length),(17,.int .i64 k)] a
end Go.Proofs.YtnmdpphddimfbaaGreat
/-
  Positions that the stream hands out. Conditions: the bounds that each theorem names.
-/
namespace Go.Bw
open Go.RowKit
/-- A row of strings that a call has made. -/
def SmAll (l:List ByteArray):Prop:=∀s∈l,Sm s
theorem SmAll.nil:SmAll []:=fun _ h=>by cases h
theorem SmAll.snoc {l:List ByteArray}{s:ByteArray}(h:SmAll l)(hs:Sm s):SmAll (l++[s]):=fun x hx=>by
 rcases List.mem_append.1 hx with hx|hx
 ·exact h x hx
 ·rw [List.mem_singleton.1 hx];exact hs
/-- What is held stays over a call of the stream. -/
theorem Held.drawn {n₀ B b sz n:Nat}{w w':World}{v:Value}{cs:List Value}(h:Held n₀ B w sz n v cs)(d:Drawn n₀ w w' b):Held n₀ B w' sz n v cs:=h.str d.gr
theorem owns_drawn {w w':World}{B b base e sz n:Nat}{v:Value}{xs:List Value}(h:w.ownsRow base e sz v n xs)(d:Drawn B w w' b)(hB:B<base):w'.ownsRow base e sz v n xs:=owns_str h d.gr hB
end Go.Bw
namespace Go.Proofs.YtnmdpphddimfbaaGreat
open Go.RowKit Go.Bw
/-- Strings that a literal holds: the cells of a loop over it. -/
theorem lit_cell {w:World}{n₀ B n g c:Nat}{xs:List ByteArray}(h:Held n₀ B w 1 n (.slice (some ⟨g,0,none⟩) n c) (cellsOf encSt xs))(k:Int)(h0:0≤k)(h1:k<n):w.cell? ⟨g,k.toNat,none⟩=some (.string (geta xs k)):=by
 obtain⟨hl,hc⟩:=h.row.els encSt_length (by decide);rcases hc with ⟨hv,_⟩|⟨b,off,cap,hv,_,_,_,_,hcell⟩
 ·cases hv
 ·simp only [Value.slice.injEq,Option.some.injEq,Addr.mk.injEq]at hv;obtain⟨⟨rfl,rfl,_⟩,_⟩:=hv;have:=hcell k h0 h1 0 _ rfl
  rwa [Nat.mul_one,Nat.add_zero,Nat.zero_add]at this
def spotL:List ByteArray:=[⟨#[100,102]⟩,⟨#[102,119]⟩,⟨#[103,107]⟩,⟨#[109,102]⟩]
def spotL3:List ByteArray:=[⟨#[100,102]⟩,⟨#[103,107]⟩,⟨#[109,102]⟩]
theorem spotL_sm:SmAll spotL:=by intro s hs;simp [spotL]at hs;rcases hs with rfl|rfl|rfl|rfl <;> decide
theorem spotL3_sm:SmAll spotL3:=by intro s hs;simp [spotL3]at hs;rcases hs with rfl|rfl|rfl <;> decide
set_option maxHeartbeats 2000000 in
theorem spots_any (B b:Nat)(w:World)(hS:Str B w b)(hb:b≤100000):
  Calls Tryz.prog 80 #[.pointer (some ⟨B,0,none⟩)] w fun e w'=>∃(v:Value) (ps:List ByteArray),e=.returned v∧ps.length≤4∧SmAll ps∧w'.ownsRow w.heap.size 9 1 v ps.length (cellsOf encSt ps)∧Drawn B w w' (b+5):=by
 have hE:=el_str;have hlt:=hS.lt;have hL:=owns_lit w w.heap.size 9 (cellsOf encSt spotL).toArray 4 (by decide) rfl (Nat.le_refl _);have hH:Held B (w.heap.size+1) (w.alloc (.cells (cellsOf encSt spotL).toArray 9)) 1 4 (.slice (some ⟨w.heap.size,0,none⟩) 4 4) (cellsOf encSt spotL):=by
  have:=Held.of_owns hL hlt
  rwa [show(w.alloc (.cells (cellsOf encSt spotL).toArray 9)).heap.size=w.heap.size+1 by simp]at this
 have hD:=(Drawn.refl hS).alloc (.cells (cellsOf encSt spotL).toArray 9);have hsz:w.heap.size+1≤(w.alloc (.cells (cellsOf encSt spotL).toArray 9)).heap.size:=by simp
 have hcs:(cellsOf encSt spotL).toArray=#[.string ⟨#[100,102]⟩,.string ⟨#[102,119]⟩,.string ⟨#[103,107]⟩,.string ⟨#[109,102]⟩]:=rfl;rw [hcs]at hH hD hsz;clear hL hcs
 go_enter Tryz.func80,Tryz.ntmps80
 go_wp2_with fail
 generalize w.alloc (.cells #[.string ⟨#[100,102]⟩,.string ⟨#[102,119]⟩,.string ⟨#[103,107]⟩,.string ⟨#[109,102]⟩] 9)=W at *
 go_loopw [8,3] (fun i s wr=>∃(k:Int) (ps:List ByteArray),0≤k∧k≤4∧i=.int .i64 k∧(ps.length:Int)≤k∧SmAll ps∧wr.ownsRow (w.heap.size+1) 9 1 s ps.length (cellsOf encSt ps)∧Drawn B w wr (b+k.toNat)∧Held B (w.heap.size+1) wr 1 4 (.slice (some ⟨w.heap.size,0,none⟩) 4 4) (cellsOf encSt spotL)∧w.heap.size+1≤wr.heap.size) (fun i _ _=>4-(intOf i).toNat)
 case atStart=>exact⟨0,[],by omega,by omega,rfl,by simp,SmAll.nil,World.ownsRow_nil _ _ _ _,hD,hH,hsz⟩
 case round =>
  clear hD hH hsz;obtain⟨k,ps,hk0,hk1,rfl,hpl,hsm,hown,hD,hH,hsz⟩:=hrel
  by_cases hlt4:k<4
  ·have hc:=lit_cell hH k hk0 (by omega);have hs1:Sm (geta spotL k):=spotL_sm _ (geta_mem hk0 (by show k<4;omega));have hbk:b+k.toNat≤1000000:=by omega
   obtain⟨a3,c3,hv3⟩:=(Row.of_owns hown).shape;generalize geta spotL k=s1 at *;subst hv3
   go_upto_if 13 with (go_at_call 37;refine(flip_d B _ _ _ hD.str rfl hbk).mono ?_;rintro e w1 ⟨q,rfl,hd⟩;replace hD:=hD.trans hd;replace hH:=hH.drawn hd;replace hown:=owns_drawn hown hd (by omega);have hsz1:=hd.size;clear hd hc)
   cases q
   ·go_wp2_with fail
    go_roundw
    case rel=>exact⟨k+1,ps,by omega,by omega,rfl,by omega,hsm,hown,hD.mono (by omega),hH,by omega⟩
    case measure=>simp [intOf];omega
   ·go_wp2_with (at_builtin;refine app_law rfl _ _ _ rfl hE (hown.alloc _) rfl [.string s1] rfl rfl (cells_new _ #[_] _) (by simp [Value.oneCell']) (by omega) (by simp;omega) ?_;intro v' w2 hown3 hgr)
    have hD2:=(hD.alloc (.cells #[.string s1] 9)).app (hown.alloc _) (Nat.le_succ _) (by omega) hgr;have hH2:=(hH.alloc (.cells #[.string s1] 9)).app (hown.alloc _) hgr;have hz2:=hgr.size
    go_roundw
    case rel=>exact⟨k+1,ps++[s1],by omega,by omega,rfl,by simp;omega,hsm.snoc hs1,by rw [cellsOf_snoc,List.length_append];exact hown3,hD2.mono (by omega),hH2,by simp at hz2;omega⟩
    case measure=>simp [intOf];omega
  ·obtain rfl:k=4:=by omega
   clear hlt4 hk0 hk1 hH
   replace hD:Drawn B w wr (b+4):=hD
   obtain⟨a3,c3,rfl⟩:=(Row.of_owns hown).shape
   by_cases h0:ps.length=0
   ·have hlb:((ps.length:Int)==0)=true:=by simp [h0]
    clear hown h0 hpl;go_wp2_with (go_at_call 8;refine(some_lit B (b+4) spotL3 3 _ _ _ rfl rfl (by decide) (by decide) hD.str (by omega)).mono ?_;rintro e w1 ⟨r,rfl,hm,hd⟩;replace hD:=hD.trans hd;have hsz1:=hd.size;clear hd)
    go_ret
    refine⟨_,[r],rfl,by simp,?_,?_,(hD.alloc _).mono (by omega)⟩
    ·intro s hs;rw [List.mem_singleton.1 hs];exact spotL3_sm _ hm
    ·exact owns_lit w1 w.heap.size 9 #[.string r] 1 (by decide) rfl hD.size
   ·have hlb:((ps.length:Int)==0)=false:=beq_eq_false_iff_ne.2 (by omega);clear h0;go_wp2_with fail
    go_ret
    exact⟨_,ps,rfl,by omega,hsm,owns_mono hown (Nat.le_succ _),hD.mono (by omega)⟩
end Go.Proofs.YtnmdpphddimfbaaGreat
/-
  A block of cells that the call owns and may write. No condition on a program.
-/
namespace Go.Bw
open Go.RowKit
/-- Block g is cs, and may be written. -/
def Blk (w:World)(g:Nat)(cs:List Value):Prop:=g<w.heap.size∧(∀j u,cs[j]?=some u→w.cell? ⟨g,j,none⟩=some u)∧∀j,w.frozen? ⟨g,j,none⟩=false
theorem Blk.new (w:World)(cs:Array Value)(e:TypeId):Blk (w.alloc (.cells cs e)) w.heap.size cs.toList:=⟨by simp,fun j u h=>cells_new w cs e j u h,fun j=>frozen_new0 w cs e j⟩
theorem Blk.grow {w w':World}{g:Nat}{cs:List Value}{row:Option Nat}(h:Blk w g cs)(gr:w.grownBy w' row)(hr:row≠some g):Blk w' g cs :=
 ⟨Nat.lt_of_lt_of_le h.1 gr.size,fun j u hu=>(World.cell?_of_block (a:=⟨g,j,none⟩) (gr.block g h.1 (fun e=>hr e.symm))).trans (h.2.1 j u hu),fun j=>(World.frozen?_of_block (a:=⟨g,j,none⟩) (gr.block g h.1 (fun e=>hr e.symm))).trans (h.2.2 j)⟩
theorem Blk.drawn {w w':World}{g B b:Nat}{cs:List Value}(h:Blk w g cs)(d:Drawn B w w' b)(hg:g≠B):Blk w' g cs:=h.grow d.gr (by simp;omega)
theorem Blk.alloc {w:World}{g:Nat}{cs:List Value}(h:Blk w g cs)(o:Obj):Blk (w.alloc o) g cs:=h.grow (World.grownBy_alloc w o none) (by simp)
theorem Blk.other {w:World}{g g' o:Nat}{cs:List Value}(h:Blk w g cs)(u:Value)(hg:g'≠g):Blk (w.setCell ⟨g',o,none⟩ u) g cs:=h.grow (grown_setCell w g' o u) (by simp;omega)
theorem Blk.set {w:World}{g:Nat}{cs:List Value}(h:Blk w g cs)(j:Nat)(hj:j<cs.length)(u:Value):Blk (w.setCell ⟨g,j,none⟩ u) g (cs.set j u):=by
 refine⟨by simpa [World.setCell] using h.1,fun i x hx=>?_,fun i=>by rw [World.frozen?_setCell];exact h.2.2 i⟩
 by_cases hi:i=j
 ·subst hi;have:x=u:=by
   rw [List.getElem?_set_self hj]at hx;exact(Option.some.inj hx).symm
  subst this;have hc:=h.2.1 i _ (List.getElem?_eq_getElem hj);exact World.cell?_setCell_same' _ _ _ (by rw [hc];rfl)
 ·rw [List.getElem?_set_ne (fun e=>hi e.symm)]at hx;rw [World.cell?_setCell_other _ _ _ _ (by simp <;> omega)];exact h.2.1 i x hx
/-- A store into a block of the call's own. -/
theorem Drawn.set {n₀ b g o:Nat}{w w':World}(h:Drawn n₀ w w' b)(u:Value)(hg:w.heap.size≤g)(hn:n₀<g):Drawn n₀ w (w'.setCell ⟨g,o,none⟩ u) b:=by
 refine⟨h.str.kept (grown_setCell w' g o u) (fun k hk=>by cases hk;exact hn),⟨h.gr.os,h.gr.tape,h.gr.output,by simpa [World.setCell] using h.gr.size,fun k hk hne=>?_⟩⟩;rw [Below.heap_setCell _ _ _ _ (fun e=>by simp at e;omega),h.gr.block k hk hne]
end Go.Bw
/-
  Rows of the law's own that are only read from then on; the library's Clone of strings. No condition on a program's data.
-/
namespace Go.Bw
open Go.RowKit
/-- A row of elements e that is only read; its block lies between the stream's and block M. -/
structure RHd (e:TypeId)(B M:Nat)(w:World)(n:Nat)(u:Value)(cs:List Value):Prop where
 row:Row w 0 1 u n cs
 lt:∀k,u.ownBlock=some k→B<k∧k<M∧∃cur fz,w.heap[k]?=some (.cells cur e fz)
theorem RHd.grow {e:TypeId}{B M n:Nat}{w w':World}{u:Value}{cs:List Value}{row:Option Nat}(h:RHd e B M w n u cs)(g:w.grownBy w' row)(hr:∀k,row=some k→u.ownBlock≠some k):RHd e B M w' n u cs:=by
 have key:∀k,u.ownBlock=some k→w'.heap[k]?=w.heap[k]?:=fun k hk=>by
  obtain⟨_,_,cur,fz,hc⟩:=h.lt k hk;exact g.block k (Array.getElem?_eq_some_iff.1 hc).1 (fun e=>hr k e.symm hk)
 refine⟨⟨h.row.1,?_⟩,fun k hk=>?_⟩
 ·rcases h.row.2 with h2|⟨b,off,cap,rfl,hb,hl,hn,hc,hcell⟩
  ·exact .inl h2
  ·refine .inr ⟨b,off,cap,rfl,hb,Nat.lt_of_lt_of_le hl g.size,hn,hc,fun i x hx=>?_⟩;rw [World.cell?_of_block (w:=w) (key b rfl)];exact hcell i x hx
 ·obtain⟨h1,h2,cur,fz,hc⟩:=h.lt k hk;exact⟨h1,h2,cur,fz,by rw [key k hk];exact hc⟩
theorem RHd.of_owns {e:TypeId}{B base n:Nat}{w:World}{u:Value}{cs:List Value}(ho:w.ownsRow base e 1 u n cs)(hB:B<base):RHd e B w.heap.size w n u cs:=by
 refine⟨(Row.of_owns ho).mono (Nat.zero_le _),fun k hk=>?_⟩;rcases ho.2 with ⟨rfl,_⟩|⟨g,cap,cur,rfl,hb,hg,_⟩
 ·simp [Value.ownBlock]at hk
 ·simp [Value.ownBlock]at hk;subst hk;exact⟨by omega,(Array.getElem?_eq_some_iff.1 hg).1,cur,_,hg⟩
section
variable {e e':TypeId}{B M M' n m sz base b:Nat}{w w':World}{u x:Value}{cs xs:List Value}
section
variable (h:RHd e B M w n u cs)
include h
theorem RHd.str (g:w.grownBy w' (some B)):RHd e B M w' n u cs:=h.grow g (fun k hk eq=>by cases hk;have:=(h.lt B eq).1;omega)
theorem RHd.under (g:Below w.heap.size w w'):RHd e B M w' n u cs:=h.grow (row:=none) (grown_of_below g) (by simp)
theorem RHd.alloc (o:Obj):RHd e B M (w.alloc o) n u cs:=h.grow (World.grownBy_alloc w o none) (by simp)
theorem RHd.mono (hM:M≤M'):RHd e B M' w n u cs:=⟨h.row,fun k hk=>by obtain⟨a,b,c⟩:=h.lt k hk;exact⟨a,Nat.lt_of_lt_of_le b hM,c⟩⟩
theorem RHd.own (ho:w.ownsRow M e' sz x m xs)(g:w.grownBy w' x.ownBlock):RHd e B M w' n u cs :=
 h.grow g (fun k hk eq=>by have:=(h.lt k eq).2.1;have:=(ho.lt k hk).1;omega)
theorem RHd.other (ho:w.ownsRow base e' sz x m xs)(he:e≠e')(g:w.grownBy w' x.ownBlock):RHd e B M w' n u cs:=by
 refine h.grow g (fun k hk eq=>?_);obtain⟨_,_,cur,fz,hc⟩:=h.lt k eq;rcases ho.2 with ⟨rfl,_⟩|⟨g',cap',cur',rfl,_,hg',_⟩
 ·simp [Value.ownBlock]at hk
 ·simp [Value.ownBlock]at hk;subst hk;rw [hc]at hg';simp at hg';exact he hg'.2.1
end
end
/-- Behind the first r of an own row. -/
theorem RHd.drop {e:TypeId}{B base n g cap r:Nat}{w:World}{cs:List Value}(ho:w.ownsRow base e 1 (.slice (some ⟨g,0,none⟩) n cap) n cs)(hB:B<base)(hr:r≤n):RHd e B w.heap.size w (n-r) (.slice (some ⟨g,r,none⟩) (n-r) (cap-r)) (cs.drop r):=by
 have hR:=Row.of_owns ho;obtain⟨h1,h2⟩:=hR;rcases ho.2 with ⟨h0,_⟩|⟨g',cap',cur,hv,hb,hg,_,_⟩
 ·cases h0
 ·simp only [Value.slice.injEq,Option.some.injEq,Addr.mk.injEq]at hv;obtain⟨⟨rfl,_⟩,_,rfl⟩:=hv;refine⟨⟨by rw [List.length_drop,h1];omega,?_⟩,fun k hk=>?_⟩
  ·rcases h2 with ⟨h0,_⟩|⟨b,off,cap2,hv,hb2,hl,hn,hc,hcell⟩
   ·cases h0
   ·simp only [Value.slice.injEq,Option.some.injEq,Addr.mk.injEq]at hv;obtain⟨⟨rfl,rfl,_⟩,_,rfl⟩:=hv;refine .inr ⟨g,r,cap-r,rfl,Nat.zero_le _,hl,by omega,by omega,fun i u hu=>?_⟩;rw [List.getElem?_drop]at hu;have:=hcell (r+i) u hu
    rwa [Nat.zero_add]at this
  ·simp [Value.ownBlock]at hk;subst hk;exact⟨by omega,(Array.getElem?_eq_some_iff.1 hg).1,cur,_,hg⟩
end Go.Bw
namespace Go.Proofs.YtnmdpphddimfbaaGreat
open Go.RowKit Go.Bw
theorem cells_map (l:List ByteArray):cellsOf encSt l=l.map Value.string:=by
 induction l with
 | nil=>rfl
 | cons x l ih=>rw [cellsOf_cons,ih];rfl
theorem clone_s (v:Value)(n:Nat)(l:List ByteArray)(base:Nat)(w:World)(h:Row w base 1 v n (cellsOf encSt l))(hn:n≤1000000):
  Calls Tryz.prog 39 #[v] w fun e w'=>∃v',e=.returned v'∧w'.ownsRow w.heap.size 9 1 v' n (cellsOf encSt l)∧Below w.heap.size w w':=by
 obtain⟨hl,hc⟩:=h.els encSt_length (by decide);subst hl;rcases hc with ⟨rfl,h0⟩|⟨b,off,cap,rfl,_,hbs,hnc,hcm,hcell⟩
 ·refine(Tryz.slices_Clone_string_nil 0 0 w).mono ?_;rintro e w' ⟨rfl,rfl⟩;obtain rfl:l=[]:=List.length_eq_zero_iff.1 h0;exact⟨_,rfl,World.ownsRow_nil _ _ _ _,Below.refl _ _⟩
 ·refine(Tryz.slices_Clone_string b off l.length cap l w (Nat.le_refl _) (by omega) (fun j hj=>?_)).mono ?_
  ·have:=hcell (j:Int) (by omega) (by omega) 0 _ rfl;rw [geta_eq l j (by omega) (by omega)]at this
   simpa [List.getD,hj] using this
  ·rintro e w' ⟨v',rfl,ho,_,hb⟩;rw [List.take_length]at ho;refine⟨v',rfl,?_,hb⟩;rw [cells_map];exact ho
end Go.Proofs.YtnmdpphddimfbaaGreat
/-
  A board of slots and scorers: what a scorer is worth, whether they fit. Conditions: points are right (ScP).
-/
namespace Go.Proofs.YtnmdpphddimfbaaGreat
open Go.RowKit Go.Bw
/-- Slots and scorers in the two cells of a board. -/
structure BoH (w:World)(A0:Nat)(vs:Value)(S:List SlD)(vl:Value)(L:List ScD):Prop where
 b0:w.cell? ⟨A0,0,none⟩=some vs
 b1:w.cell? ⟨A0,1,none⟩=some vl
 s:SlH w vs S
 c:ScH w vl L
theorem BoH.below {w w':World}{A0:Nat}{vs vl:Value}{S:List SlD}{L:List ScD}(h:BoH w A0 vs S vl L)(b:Below w.heap.size w w'):BoH w' A0 vs S vl L :=
 ⟨(b.cell (p:=⟨A0,0,none⟩) (World.block_lt_of_cell? w _ h.b0)).trans h.b0,(b.cell (p:=⟨A0,1,none⟩) (World.block_lt_of_cell? w _ h.b1)).trans h.b1,h.s.below b,h.c.below b⟩
/-- Points are right. -/
structure ScP (L:List ScD):Prop where
 h:∀x∈L,1≤x.den∧x.den≤100∧-1000000≤x.num∧x.num≤1000000∧-1000000≤hund x.num x.den∧hund x.num x.den≤1000000
theorem amount_ten {num den:Int}(h:amountE num den 10000=0):1≤den∧den≤100∧-1000000≤num∧num≤1000000∧-1000000≤hund num den∧hund num den≤1000000:=by
 unfold amountE at h
 split at h
 ·cases h
 ·rename_i h1
  split at h
  ·cases h
  ·rename_i h2
   have hd:1≤den:=by omega
   have hm:100 % den=0:=by omega
   have hd2:=den_le hd hm;have hn1:-10000*den≤num:=by omega
   have hn2:num≤10000*den:=by omega
   have hq0:0≤100 / den:=Int.ediv_nonneg (by decide) (by omega);have hq:den*(100 / den)=100:=Int.mul_ediv_cancel' (Int.dvd_of_emod_eq_zero hm);have k1:=Int.mul_le_mul_of_nonneg_right hn2 hq0;have k2:=Int.mul_le_mul_of_nonneg_right hn1 hq0;rw [Int.mul_assoc,hq]at k1 k2;unfold hund;exact⟨hd,hd2,by omega,by omega,by omega,by omega⟩
theorem scp_of {L:List ScD}(h:scorersE L=0):ScP L:=by
 refine⟨fun x hx=>?_⟩;unfold scorersE at h
 split at h
 ·cases h
 ·obtain⟨j,hj,rfl⟩:=List.getElem_of_mem hx;have h1:=firstErr_zero h (j:Int) (by omega) (by omega);have hg:=geta_eq L (j:Int) (by omega) (by omega);simp only [Int.toNat_natCast]at hg;rw [←hg];unfold scorerAt at h1
  split at h1
  ·cases h1
  ·split at h1
   ·cases h1
   ·split at h1
    ·rename_i h2 h3
     exact absurd h1 h3
    ·exact amount_ten h1
def hnK (L:List ScD)(k:Nat):Int:=hund (geta L (k:Int)).num (geta L (k:Int)).den
def wK (L:List ScD)(k:Nat):Int:=64*hnK L k-1
def fitK (S:List SlD)(L:List ScD)(k i:Nat):Bool:=commonB (geta L (k:Int)).ps (geta S (i:Int)).ps
theorem ScP.hnK {L:List ScD}(h:ScP L){k:Nat}(hk:k<L.length):-1000000≤hnK L k∧hnK L k≤1000000:=by
 have:=h.h _ (geta_mem (i:=(k:Int)) (by omega) (by omega));exact⟨this.2.2.2.2.1,this.2.2.2.2.2⟩
noncomputable def lwP:Code:=(Tryz.f89.body).getD .skip
theorem fr_lwP (f:Nat→Value):frame 16 f=⟨#[f 0,f 1,f 2,f 3,f 4,f 5,f 6,f 7,f 8,f 9,f 10,f 11,f 12,f 13,f 14,f 15],[]⟩:=by rfl
section
variable (A0:Nat)(vl:Value)(vs:Value)(S:List SlD)(L:List ScD)(k:Nat)(w0:World)(h:BoH w0 A0 vs S vl L)(hp:ScP L)(hk:k<L.length)
include h hp hk
theorem lcw0:T3 Tryz.prog (fun a w=>(Below w0.heap.size w0 w)∧Fr 16 [(0,.pointer (some ⟨A0,0,none⟩)),(1,.int .i64 (k:Int))] a) (sel [0] lwP) (fun a w=>(Below w0.heap.size w0 w)∧Fr 16 [(0,.pointer (some ⟨A0,0,none⟩)),(1,.int .i64 (k:Int))] a) No 9 No:=by
 refine T3.leaf ?_;rintro Q JS JX JT K hS hK hX hE hT hR a w ⟨hW,⟨fr,rfl,q0,q1,_⟩⟩;have HW:=Lib.hid hW;clear hW;rw [fr_lwP,fe q0,fe q1];clear q0 q1;conv=>arg 2;whnf
 go_wp2_with fail
 refine Met.intro (hS _ _ ?_);exact⟨HW.out,Fr.r rfl rfl⟩
theorem lcw1:T3 Tryz.prog (fun a w=>(Below w0.heap.size w0 w)∧Fr 16 [(0,.pointer (some ⟨A0,0,none⟩)),(1,.int .i64 (k:Int))] a) (sel [1,0] lwP) (fun a w=>(Below w0.heap.size w0 w)∧Fr 16 [(4,.int .i64 (wK L k))] a) No 9 No:=by
 refine T3.leaf ?_;rintro Q JS JX JT K hS hK hX hE hT hR a w ⟨hW,⟨fr,rfl,q0,q1,_⟩⟩;have h1:=h.below hW;have b1:=h1.b1;have hR:=h1.c.r;obtain⟨d1,d2,n1,n2,m1,m2⟩:=hp.h _ (geta_mem (l:=L) (i:=(k:Int)) (by omega) (by omega));have HB:=hp.hnK hk;have HQ:=Lib.hid (show 64*hund (geta L (k:Int)).num (geta L (k:Int)).den-1=wK L k from rfl);have HW:=Lib.hid hW;obtain⟨q,d,rfl⟩:=hR.shape;obtain⟨bz,off,rfl,hnc,hcm,hcell⟩:=Row.nonnil hR (by omega);have t2:=Row.elAt encSc_length hcell (k:=(k:Int)) (by omega) (by omega) 2 _ (by decide) rfl;have t3:=Row.elAt encSc_length hcell (k:=(k:Int)) (by omega) (by omega) 3 _ (by decide) rfl;have HC:=Lib.hid (hundredths_prog (geta L (k:Int)).num (geta L (k:Int)).den w (by omega) (by omega) d1 (by omega));rw [Int.toNat_natCast]at t2 t3;clear hcell hR h1 h hW hp;unfold hnK at HB;generalize hund (geta L (k:Int)).num (geta L (k:Int)).den=hh at *;generalize (geta L (k:Int)).num=nn at *;generalize (geta L (k:Int)).den=dd at *;generalize wK L k=ww at *;rw [fr_lwP,fe q0,fe q1];clear q0 q1;conv=>arg 2;whnf
 go_wp2_with fail
 refine HC.out.mono ?_;rintro e w1 ⟨rfl,hb⟩;have H1:=Lib.hid (HW.out.trans (hb.mono HW.out.size));clear hb;go_wp2_with fail
 rw [HQ.out];refine Met.intro (hS _ _ ?_);exact⟨H1.out,Fr.of _ rfl ⟨rfl,trivial⟩⟩
theorem worth_prog:Calls Tryz.prog 89 #[.pointer (some ⟨A0,0,none⟩),.int .i64 (k:Int)] w0 fun e w'=>e=.returned (.int .i64 (wK L k))∧Below w0.heap.size w0 w':=by
 have hall:T3 Tryz.prog (fun a w=>(Below w0.heap.size w0 w)∧Fr 16 [(0,.pointer (some ⟨A0,0,none⟩)),(1,.int .i64 (k:Int))] a) lwP No No 9 (fun a w=>(Below w0.heap.size w0 w)∧Fr 16 [(4,.int .i64 (wK L k))] a) :=
  T3.seq (s:=(sel [0] lwP)) (c:=(sel [1] lwP)) (T3.noT (lcw0 A0 vl vs S L k w0 h hp hk)) (T3.seq (s:=(sel [1,0] lwP)) (c:=.ret) (T3.noT (lcw1 A0 vl vs S L k w0 h hp hk)) (T3.ret fun a w q=>q))
 clear h hp hk
 go_enter Tryz.func89,Tryz.ntmps89
 refine T3.done (s:=lwP) hall ⟨Below.refl _ _,Fr.r rfl rfl⟩ ?_;rintro a w ⟨hb,fr,rfl,q4,_⟩;rw [fr_lwP,fe q4]
 go_ret
 exact⟨rfl,hb⟩
end
noncomputable def lfP:Code:=(Tryz.f74.body).getD .skip
theorem fr_lfP (f:Nat→Value):frame 24 f=⟨#[f 0,f 1,f 2,f 3,f 4,f 5,f 6,f 7,f 8,f 9,f 10,f 11,f 12,f 13,f 14,f 15,f 16,f 17,f 18,f 19,f 20,f 21,f 22,f 23],[]⟩:=by rfl
section
variable (A0:Nat)(vl:Value)(vs:Value)(S:List SlD)(L:List ScD)(k i:Nat)(w0:World)(h:BoH w0 A0 vs S vl L)(hk:k<L.length)(hi:i<S.length)
include h hk hi
theorem lcf0:T3 Tryz.prog (fun a w=>(Below w0.heap.size w0 w)∧Fr 24 [(0,.pointer (some ⟨A0,0,none⟩)),(1,.int .i64 (k:Int)),(2,.int .i64 (i:Int))] a) (sel [0] lfP) (fun a w=>(Below w0.heap.size w0 w)∧Fr 24 [(0,.pointer (some ⟨A0,0,none⟩)),(1,.int .i64 (k:Int)),(2,.int .i64 (i:Int))] a) No 9 No:=by
 refine T3.leaf ?_;rintro Q JS JX JT K hS hK hX hE hT hR a w ⟨hW,⟨fr,rfl,q0,q1,q2,_⟩⟩;have HW:=Lib.hid hW;clear hW;rw [fr_lfP,fe q0,fe q1,fe q2];clear q0 q1 q2;conv=>arg 2;whnf
 go_wp2_with fail
 refine Met.intro (hS _ _ ?_);exact⟨HW.out,Fr.r rfl rfl⟩
theorem lcf1:T3 Tryz.prog (fun a w=>(Below w0.heap.size w0 w)∧Fr 24 [(0,.pointer (some ⟨A0,0,none⟩)),(1,.int .i64 (k:Int)),(2,.int .i64 (i:Int))] a) (sel [1,0] lfP) (fun a w=>(Below w0.heap.size w0 w)∧Fr 24 [(6,.bool (fitK S L k i))] a) No 9 No:=by
 refine T3.leafN ?_;rintro JS hS a w ⟨hW,⟨fr,rfl,q0,q1,q2,_⟩⟩;have hd:Below w0.heap.size w0 w.drew:=below_drewN hW 1;have h1:=h.below hd;have b0:w.cell? ⟨A0,0,none⟩=some vs:=h1.b0;have b1:w.cell? ⟨A0,1,none⟩=some vl:=h1.b1;have hpl:=h1.c.p _ (geta_mem (l:=L) (i:=(k:Int)) (by omega) (by omega));have hps:=h1.s.p _ (geta_mem (l:=S) (i:=(i:Int)) (by omega) (by omega));have hRs:=h1.s.r;have hRl:=h1.c.r;have HQ:=Lib.hid (show commonB (geta L (k:Int)).ps (geta S (i:Int)).ps=fitK S L k i from rfl);have HC:=Lib.hid (common_two _ _ _ _ w.drew hpl hps);have HW:=Lib.hid hd;obtain⟨q1,e1,rfl⟩:=hRs.shape;obtain⟨q2,e2,rfl⟩:=hRl.shape;obtain⟨z1,o1,rfl,hn1,hm1,hcs⟩:=Row.nonnil hRs (by omega);obtain⟨z2,o2,rfl,hn2,hm2,hcl⟩:=Row.nonnil hRl (by omega);have t0:=Row.elAt encSl_length hcs (k:=(i:Int)) (by omega) (by omega) 1 _ (by decide) rfl;have t1:=Row.elAt encSc_length hcl (k:=(k:Int)) (by omega) (by omega) 1 _ (by decide) rfl;rw [Int.toNat_natCast]at t0 t1;obtain⟨aa1,d1,hq1⟩:=hpl.r.shape;obtain⟨aa2,d2,hq2⟩:=hps.r.shape;rw [hq1]at t1 HC;rw [hq2]at t0 HC;clear hcs hcl hRs hRl h1 h hW hd hpl hps hq1 hq2;generalize fitK S L k i=ff at *;generalize commonB (geta L (k:Int)).ps (geta S (i:Int)).ps=cq at *;generalize (geta L (k:Int)).ps.length=m1 at *;generalize (geta S (i:Int)).ps.length=m2 at *;rw [fr_lfP,fe q0,fe q1,fe q2];clear q0 q1 q2;conv=>arg 2;whnf
 refine wp_region_mix (none) [(true,0),(true,4),(true,8),(true,12),(true,1),(true,9),(true,2),(true,10),(true,3),(true,11),(true,5),(true,13),(true,6),(true,14),(true,7),(true,15),(false,16),(true,17)] (by kernel_rfl) (by kernel_rfl) (by intro c a d v w h;cases d <;> exact h) ?_;simp only [pickFlat,List.filterMap_cons,List.filterMap_nil,List.getElem?_cons_succ,List.getElem?_cons_zero,Option.map_some];have A0_:=wof_at (w₁:=w.drew) (row:=none) (a:=⟨A0,0,none⟩) b0 (by simp);have A1_:=wof_at (w₁:=w.drew) (row:=none) (a:=⟨A0,1,none⟩) b1 (by simp);have T0:=wof_at (w₁:=w.drew) (row:=none) (a:=⟨z1,o1+i*2+1,none⟩) t0 (by simp);have T1:=wof_at (w₁:=w.drew) (row:=none) (a:=⟨z2,o2+k*5+1,none⟩) t1 (by simp);refine flat_hide (fun W hH hC hN hE=>?_)
 iterate 16 (refine hH.out _ _ _ _ (fun K hK=>?_);go_simp;refine hK _ ?_;clear hK K)
 refine hC.out _ _ _ _ (by first|rfl|go_simp) (fun K hK=>?_);simp only [bare];go_wp2_with fail
 refine HC.out.mono ?_;rintro e w2 ⟨rfl,hb1⟩;have HB1:=Lib.hid hb1;have HR1:=Lib.hid (HW.out.trans (hb1.mono HW.out.size));clear hb1;go_wp2_with fail
 refine hK.out _ _ (grown_of_below HB1.out) ?_;clear hK K
 iterate 1 (refine hH.out _ _ _ _ (fun K hK=>?_);go_simp;refine hK _ ?_;clear hK K)
 refine hE.out _ _ ?_;clear hH hC hN hE W;show JS _ _;refine hS _ _ ?_;rw [HQ.out];exact⟨HR1.out,Fr.of _ rfl ⟨rfl,trivial⟩⟩
theorem fits_prog:Calls Tryz.prog 74 #[.pointer (some ⟨A0,0,none⟩),.int .i64 (k:Int),.int .i64 (i:Int)] w0 fun e w'=>e=.returned (.bool (fitK S L k i))∧Below w0.heap.size w0 w':=by
 have hall:T3 Tryz.prog (fun a w=>(Below w0.heap.size w0 w)∧Fr 24 [(0,.pointer (some ⟨A0,0,none⟩)),(1,.int .i64 (k:Int)),(2,.int .i64 (i:Int))] a) lfP No No 9 (fun a w=>(Below w0.heap.size w0 w)∧Fr 24 [(6,.bool (fitK S L k i))] a) :=
  T3.seq (s:=(sel [0] lfP)) (c:=(sel [1] lfP)) (T3.noT (lcf0 A0 vl vs S L k i w0 h hk hi)) (T3.seq (s:=(sel [1,0] lfP)) (c:=.ret) (T3.noT (lcf1 A0 vl vs S L k i w0 h hk hi)) (T3.ret fun a w q=>q))
 clear h hk hi
 go_enter Tryz.func74,Tryz.ntmps74
 refine T3.done (s:=lfP) hall ⟨Below.refl _ _,Fr.r rfl rfl⟩ ?_;rintro a w ⟨hb,fr,rfl,q6,_⟩;rw [fr_lfP,fe q6]
 go_ret
 exact⟨rfl,hb⟩
end
end Go.Proofs.YtnmdpphddimfbaaGreat
/-
  The table of the most that scorers can bring in sets of slots, in plain words. No condition.
-/
namespace Go.Proofs.YtnmdpphddimfbaaGreat
open Go.RowKit Go.Bw
def Ts (f s:Nat):Nat→Prop:=fun i=>f≤i∧s.testBit (i-f)=true
def KK (tk:List Bool)(k:Nat):Nat→Prop:=fun j=>j<k∧geta tk (j:Int)=false
theorem KK_succ {tk:List Bool}{k:Nat}(h:geta tk (k:Int)=false)(j:Nat):KK tk (k+1) j↔(KK tk k j∨j=k):=by
 unfold KK;constructor
 ·rintro⟨h1,h2⟩
  by_cases e:j=k
  ·exact .inr e
  ·exact .inl ⟨by omega,h2⟩
 ·rintro(⟨h1,h2⟩|rfl)
  ·exact⟨by omega,h2⟩
  ·exact⟨by omega,h⟩
theorem KK_skip {tk:List Bool}{k:Nat}(h:geta tk (k:Int)=true)(j:Nat):KK tk k j↔KK tk (k+1) j:=by
 unfold KK;constructor
 ·rintro⟨h1,h2⟩;exact⟨by omega,h2⟩
 ·rintro⟨h1,h2⟩;refine⟨?_,h2⟩
  by_cases e:j=k
  ·subst e;rw [h]at h2;cases h2
  ·omega
def rmB (s i:Nat):Nat:=s ^^^ 2 ^ i
theorem rmB_bit {s i j:Nat}(h:s.testBit i=true):(rmB s i).testBit j=(s.testBit j&&decide (j≠i)):=by
 unfold rmB;rw [Nat.testBit_xor,Nat.testBit_two_pow]
 by_cases e:i=j
 ·subst e;simp [h]
 ·have:¬j=i:=fun q=>e q.symm
  simp [e,this]
theorem rmB_lt {s i:Nat}(h:s.testBit i=true):rmB s i<s:=by
 have h1:rmB s i ||| 2 ^ i=s:=Nat.eq_of_testBit_eq (fun j=>by
  rw [Nat.testBit_or,rmB_bit h,Nat.testBit_two_pow]
  by_cases e:j=i
  ·subst e;simp [h]
  ·have e':¬i=j:=fun q=>e q.symm
   simp [e,e'])
 have h2:=@Nat.left_le_or (rmB s i) (2 ^ i);have h3:rmB s i≠s:=fun e=>by
  have h4:=rmB_bit (j:=i) h;rw [e,h]at h4;simp at h4
 omega
theorem Ts_rm {f s i:Nat}(h:s.testBit i=true)(j:Nat):Ts f (rmB s i) j↔(Ts f s j∧j≠f+i):=by
 unfold Ts;rw [rmB_bit h];simp only [Bool.and_eq_true,decide_eq_true_eq];constructor
 ·rintro⟨h1,h2,h3⟩;exact⟨⟨h1,h2⟩,by omega⟩
 ·rintro⟨⟨h1,h2⟩,h3⟩;exact⟨h1,h2,by omega⟩
theorem bit_lt {s m i:Nat}(h:s<2 ^ m)(hb:s.testBit i=true):i<m:=by
 by_cases e:i<m
 ·exact e
 ·rw [Nat.testBit_lt_two_pow (Nat.lt_of_lt_of_le h (Nat.pow_le_pow_right (by decide) (by omega)))]at hb;cases hb
def cW:Int:=64000000
/-- The table when k scorers are through. -/
structure DPo (fit:Nat→Nat→Bool)(w:Nat→Int)(f m:Nat)(tk:List Bool)(k:Nat)(bs:List Int):Prop where
 len:bs.length=2 ^ m
 v:∀s:Nat,s<2 ^ m→IsMax fit w (Ts f s) (KK tk k) (geti bs s)
 b:∀s:Nat,s<2 ^ m→0≤geti bs s∧geti bs s≤k*cW
/-- The next one is through for the sets behind s. -/
structure DPm (fit:Nat→Nat→Bool)(w:Nat→Int)(f m:Nat)(tk:List Bool)(k set:Nat)(bs:List Int):Prop where
 len:bs.length=2 ^ m
 lt:set<2 ^ m
 hi:∀s:Nat,set<s→s<2 ^ m→IsMax fit w (Ts f s) (KK tk (k+1)) (geti bs s)
 lo:∀s:Nat,s≤set→IsMax fit w (Ts f s) (KK tk k) (geti bs s)
 bh:∀s:Nat,set<s→s<2 ^ m→0≤geti bs s∧geti bs s≤(k+1)*cW
 bl:∀s:Nat,s≤set→0≤geti bs s∧geti bs s≤k*cW
/-- And for set itself as far as slot i. -/
structure DPi (fit:Nat→Nat→Bool)(w:Nat→Int)(f m:Nat)(tk:List Bool)(k set i:Nat)(bs:List Int):Prop where
 len:bs.length=2 ^ m
 lt:set<2 ^ m
 hi:∀s:Nat,set<s→s<2 ^ m→IsMax fit w (Ts f s) (KK tk (k+1)) (geti bs s)
 lo:∀s:Nat,s<set→IsMax fit w (Ts f s) (KK tk k) (geti bs s)
 bh:∀s:Nat,set<s→s<2 ^ m→0≤geti bs s∧geti bs s≤(k+1)*cW
 bl:∀s:Nat,s<set→0≤geti bs s∧geti bs s≤k*cW
 bc:0≤geti bs set∧geti bs set≤(k+1)*cW
 cu:∃v0,IsMax fit w (Ts f set) (KK tk k) v0∧v0≤geti bs set∧(∀j:Nat,j<i→set.testBit j=true→fit k (f+j)=true→geti bs (rmB set j)+w k≤geti bs set) ∧
  (geti bs set=v0∨∃j:Nat,j<i∧set.testBit j=true∧fit k (f+j)=true∧geti bs set=geti bs (rmB set j)+w k)
theorem geti_set {bs:List Int}{i j:Nat}{x:Int}(h:i<bs.length):geti (bs.set i x) (j:Int)=if j=i then x else geti bs (j:Int):=by
 unfold geti;rw [Int.toNat_natCast,List.getElem?_set]
 by_cases e:i=j
 ·subst e;simp [h]
 ·have e':¬j=i:=fun q=>e q.symm
  simp [e,e']
section
variable {fit:Nat→Nat→Bool}{w:Nat→Int}{f m:Nat}{tk:List Bool}{k set i:Nat}{bs:List Int}
theorem DPo.zero (tk:List Bool):DPo fit w f m tk 0 (List.replicate (2 ^ m) 0):=by
 have hg:∀s:Nat,s<2 ^ m→geti (List.replicate (2 ^ m) 0) (s:Int)=0:=fun s hs=>by
  unfold geti;rw [Int.toNat_natCast,List.getElem?_replicate,if_pos hs];rfl
 refine⟨by simp,fun s hs=>?_,fun s hs=>?_⟩
 ·rw [hg s hs];exact IsMax.noK (fun j h=>by unfold KK at h;omega)
 ·rw [hg s hs];simp
theorem DPo.skip (h:DPo fit w f m tk k bs)(ht:geta tk (k:Int)=true):DPo fit w f m tk (k+1) bs :=
 ⟨h.len,fun s hs=>(h.v s hs).congr (fun _=>Iff.rfl) (KK_skip ht),fun s hs=>by have:=h.b s hs;unfold cW at *;omega⟩
theorem DPo.m_ (h:DPo fit w f m tk k bs):DPm fit w f m tk k (2 ^ m-1) bs:=by
 have:=Nat.two_pow_pos m;exact⟨h.len,by omega,fun s h1 h2=>by omega,fun s h1=>h.v s (by omega),fun s h1 h2=>by omega,fun s h1=>h.b s (by omega)⟩
theorem DPm.o (h:DPm fit w f m tk k 0 bs):DPo fit w f m tk (k+1) bs:=by
 refine⟨h.len,fun s hs=>?_,fun s hs=>?_⟩
 ·by_cases e:s=0
  ·subst e;have h0:IsMax fit w (Ts f 0) (KK tk (k+1)) 0:=IsMax.noT (fun i q=>by unfold Ts at q;simp at q);have h1:IsMax fit w (Ts f 0) (KK tk k) 0:=IsMax.noT (fun i q=>by unfold Ts at q;simp at q);rw [(h.lo 0 (Nat.le_refl _)).uniq h1];exact h0
  ·exact h.hi s (by omega) hs
 ·by_cases e:s=0
  ·subst e;have:=h.bl 0 (Nat.le_refl _);unfold cW at *;omega
  ·have:=h.bh s (by omega) hs;unfold cW at *;omega
theorem DPm.i_ (h:DPm fit w f m tk k set bs):DPi fit w f m tk k set 0 bs :=
 ⟨h.len,h.lt,h.hi,fun s hs=>h.lo s (by omega),h.bh,fun s hs=>h.bl s (by omega),by have:=h.bl set (Nat.le_refl _);unfold cW at *;omega,
  ⟨_,h.lo set (Nat.le_refl _),Int.le_refl _,fun j hj=>by omega,.inl rfl⟩⟩
theorem DPi.skip (h:DPi fit w f m tk k set i bs)(hn:¬(set.testBit i=true∧fit k (f+i)=true)):DPi fit w f m tk k set (i+1) bs:=by
 obtain⟨v0,h1,h2,h3,h4⟩:=h.cu;refine⟨h.len,h.lt,h.hi,h.lo,h.bh,h.bl,h.bc,⟨v0,h1,h2,fun j hj hb hf=>?_,?_⟩⟩
 ·by_cases e:j=i
  ·subst e;exact absurd ⟨hb,hf⟩ hn
  ·exact h3 j (by omega) hb hf
 ·rcases h4 with h4|⟨j,a,b,c,d⟩
  ·exact .inl h4
  ·exact .inr ⟨j,by omega,b,c,d⟩
theorem DPi.put (h:DPi fit w f m tk k set i bs)(hb:set.testBit i=true)(hf:fit k (f+i)=true)(hw:w k≤cW):
  DPi fit w f m tk k set (i+1) (bs.set set (max (geti bs set) (geti bs (rmB set i)+w k))):=by
 obtain⟨v0,h1,h2,h3,h4⟩:=h.cu;have hs:set<bs.length:=by rw [h.len];exact h.lt
 have hrm:∀j,set.testBit j=true→rmB set j≠set:=fun j hj=>by have:=rmB_lt hj;omega
 have hsm:=h.bl _ (rmB_lt hb);have hbc:=h.bc;have key:∀s:Nat,s≠set→geti (bs.set set (max (geti bs set) (geti bs (rmB set i)+w k))) (s:Int)=geti bs s:=fun s he=>by rw [geti_set hs,if_neg he]
 have keyS:geti (bs.set set (max (geti bs set) (geti bs (rmB set i)+w k))) (set:Int)=max (geti bs set) (geti bs (rmB set i)+w k):=by rw [geti_set hs,if_pos rfl]
 refine⟨by rw [List.length_set];exact h.len,h.lt,fun s h5 h6=>?_,fun s h5=>?_,fun s h5 h6=>?_,fun s h5=>?_,?_,⟨v0,h1,?_,fun j hj hbj hfj=>?_,?_⟩⟩
 ·rw [key s (by omega)];exact h.hi s h5 h6
 ·rw [key s (by omega)];exact h.lo s h5
 ·rw [key s (by omega)];exact h.bh s h5 h6
 ·rw [key s (by omega)];exact h.bl s h5
 ·rw [keyS];unfold cW at *;omega
 ·rw [keyS];omega
 ·rw [keyS,key _ (hrm j hbj)]
  by_cases e:j=i
  ·subst e;omega
  ·have:=h3 j (by omega) hbj hfj;omega
 ·rw [keyS]
  by_cases e:geti bs set≤geti bs (rmB set i)+w k
  ·refine .inr ⟨i,by omega,hb,hf,?_⟩;rw [key _ (hrm i hb)];omega
  ·rcases h4 with h4|⟨j,a,b,c,d⟩
   ·exact .inl (by omega)
   ·refine .inr ⟨j,by omega,b,c,?_⟩;rw [key _ (hrm j b)];omega
theorem DPi.m_ (h:DPi fit w f m tk k set m bs)(h0:0<set)(ht:geta tk (k:Int)=false):DPm fit w f m tk k (set-1) bs:=by
 obtain⟨v0,h1,h2,h3,h4⟩:=h.cu;have hlt:=h.lt;refine⟨h.len,by omega,fun s h5 h6=>?_,fun s h5=>h.lo s (by omega),fun s h5 h6=>?_,fun s h5=>h.bl s (by omega)⟩
 ·by_cases e:s=set
  ·subst e;refine(IsMax.scorer (k:=k) (vj:=fun j=>geti bs (rmB s (j-f))) h1 (fun q=>by unfold KK at q;omega) (fun j hj hf=>?_) h2 (fun j hj hf=>?_) ?_).congr (fun _=>Iff.rfl) (fun j=>(KK_succ ht j).symm)
   ·refine(h.lo (rmB s (j-f)) (rmB_lt hj.2)).congr (fun i=>?_) (fun _=>Iff.rfl);rw [Ts_rm hj.2,show f+(j-f)=j by have:=hj.1;omega]
   ·exact h3 (j-f) (bit_lt hlt hj.2) hj.2 (by rw [show f+(j-f)=j by have:=hj.1;omega];exact hf)
   ·rcases h4 with h4|⟨j,a,b,c,d⟩
    ·exact .inl h4
    ·refine .inr ⟨f+j,⟨by omega,by rw [show f+j-f=j by omega];exact b⟩,c,?_⟩;show geti bs s=geti bs (rmB s (f+j-f))+w k;rw [show f+j-f=j by omega];exact d
  ·exact h.hi s (by omega) h6
 ·by_cases e:s=set
  ·subst e;exact h.bc
  ·exact h.bh s (by omega) h6
theorem DPo.done (h:DPo fit w f m tk k bs):geti bs ((2 ^ m-1:Nat):Int)=slotV fit w k m f (fun j=>geta tk (j:Int)):=by
 have hp:=Nat.two_pow_pos m;have h1:=h.v (2 ^ m-1) (by omega);have h2:=slotV_max fit w k m f (fun j=>geta tk (j:Int));refine(h1.congr (T':=fun s=>f≤s∧s<f+m) (K':=fun j=>j<k∧geta tk (j:Int)=false) (fun i=>?_) (fun j=>Iff.rfl)).uniq h2;unfold Ts;rw [Nat.testBit_two_pow_sub_one];simp only [decide_eq_true_eq];omega
end
end Go.Proofs.YtnmdpphddimfbaaGreat
/-
  As the schedules for regions that draw their order and hold calls; here two operations may come up in either order. No condition on a program.
-/
namespace Go.Bw
open Go.RowKit
/-- A schedule: a calm operation; the one that is left; one of two. -/
inductive Sch
 | done
 | calm (i:Nat) (r:Sch)
 | one (i:Nat) (r:Sch)
 | two (i j:Nat) (r s:Sch)
def Sch.len:Sch→Nat
 | .done=>0
 | .calm _ r=>r.len+1
 | .one _ r=>r.len+1
 | .two _ _ r _=>r.len+1
def Sch.inB (n:Nat):Sch→Bool
 | .done=>true
 | .calm i r=>decide (i<n)&&r.inB n
 | .one i r=>decide (i<n)&&r.inB n
 | .two i j r s=>decide (i<n)&&decide (j<n)&&r.inB n&&s.inB n
section
variable {P:Program}{Q:Exit→Act→World→Prop}{S:World→Prop}{md:Region.Mode}
def schB (md:Region.Mode)(ops:Array Oper):Sch→Array Bool→Bool
 | .done,listed=>(Region.ready md ops listed).isEmpty
 | .calm i r,listed=>Region.free md ops listed i&&(Region.ready md ops listed).contains i&&schB md ops r (listed.setIfInBounds i true)
 | .one i r,listed=>decide (Region.ready md ops listed=[i])&&schB md ops r (listed.setIfInBounds i true)
 | .two i j r s,listed=>decide (Region.ready md ops listed=[i,j])&&(r.len==s.len)&&schB md ops r (listed.setIfInBounds i true)&&schB md ops s (listed.setIfInBounds j true)
def wpDo (P:Program)(ops:Array Oper)(Q:Exit→Act→World→Prop)(S:World→Prop)(o:Oper)(K:Act→World→Prop)(a:Act)(w:World):Prop :=
 if Region.wanted o (yielded ops a.tmps)then o.wp P a w (fun a w=>S w∧K a w) Q∨(o.asks P a w∧LetsOut Q)else S w∧K (a.put o.dst undef) w
def wpSch (P:Program)(l:List Oper)(Q:Exit→Act→World→Prop)(S:World→Prop):Sch→Act→World→Prop
 | .done,a,w=>Q .normal a w
 | .calm i r,a,w=>∃o,l[i]?=some o∧∃v,YieldsIf P l.toArray S o v a∧wpSch P l Q S r (a.put o.dst v) w
 | .one i r,a,w=>∃o,l[i]?=some o∧wpDo P l.toArray Q S o (wpSch P l Q S r) a w
 | .two i j r s,a,w=>(∃o,l[i]?=some o∧wpDo P l.toArray Q S o (wpSch P l Q S r) a w)∧∃o,l[j]?=some o∧wpDo P l.toArray Q S o (wpSch P l Q S s) a w
theorem sch_op {l:List Oper}{i:Nat}{o:Oper}{K:Act→World→Prop}{a:Act}{w:World}(ho:l[i]?=some o)(h:wpDo P l.toArray Q S o K a w):wpOp P l.toArray Q i (fun a w=>S w∧K a w) a w:=by
 unfold wpOp;have:l.toArray[i]?=some o:=by simpa using ho
 simp only [this];exact h
theorem sch_H {l:List Oper}(hs:Region.noSelect l.toArray=true)(hQ:∀c a d v w,Q (.panic c) (Act.put a d v) w→Q (.panic c) a w):
  ∀(c:Sch) (listed:Array Bool) (a:Act) (w:World),schB md l.toArray c listed=true→S w→wpSch P l Q S c a w→wpAnyH P md l.toArray Q S c.len listed a w
 | .done,listed,a,w,hB,_,h=>⟨by simpa [schB] using hB,h⟩
 | .calm i r,listed,a,w,hB,hS,h=>by
  simp only [schB,Bool.and_eq_true]at hB;obtain⟨⟨hf,hr⟩,hB'⟩:=hB;obtain⟨o,ho,v,hy,hk⟩:=h;exact wpAnyH_take (by simpa using ho) hs hf hr (fun c a w=>hQ c a _ _ w) hy hS (sch_H hs hQ r _ _ w hB' hS hk)
 | .one i r,listed,a,w,hB,hS,h=>by
  simp only [schB,Bool.and_eq_true,decide_eq_true_eq]at hB;obtain⟨hr,hB'⟩:=hB;obtain⟨o,ho,hk⟩:=h;refine wpAnyH_all hr (by simp) fun j hj=>?_
  obtain rfl:j=i:=by simpa using hj
  exact wpOp_mono (fun a' w' h'=>⟨h'.1,sch_H hs hQ r _ a' w' hB' h'.1 h'.2⟩) (sch_op ho hk)
 | .two i j r s,listed,a,w,hB,hS,h=>by
  simp only [schB,Bool.and_eq_true,decide_eq_true_eq,beq_iff_eq]at hB;obtain⟨⟨⟨hr,hl⟩,hB1⟩,hB2⟩:=hB;obtain⟨⟨o1,ho1,hk1⟩,o2,ho2,hk2⟩:=h;refine wpAnyH_all hr (by simp) fun k hk=>?_
  simp only [List.mem_cons,List.mem_nil_iff,or_false]at hk;rcases hk with rfl|rfl
  ·exact wpOp_mono (fun a' w' h'=>⟨h'.1,sch_H hs hQ r _ a' w' hB1 h'.1 h'.2⟩) (sch_op ho1 hk1)
  ·exact wpOp_mono (fun a' w' h'=>⟨h'.1,by rw [hl];exact sch_H hs hQ s _ a' w' hB2 h'.1 h'.2⟩) (sch_op ho2 hk2)
theorem wp_region_sch {id:Nat}{a:Act}{w:World}{l:List Oper}(row:Option Nat)(c:Sch)(hm:P.follows .mixedOrders=true)(hB:(Region.noSelect l.toArray&&schB .any l.toArray c (Array.replicate l.length false)&&decide (c.len=l.length))=true)(hQ:∀c a d v w,Q (.panic c) (Act.put a d v) w→Q (.panic c) a w)(h:wpSch P l Q (fun w'=>w.drew.grownBy w' row) c a w.drew):(Code.region id l.toArray true).wp P Q a w:=by
 simp only [Bool.and_eq_true,decide_eq_true_eq]at hB;obtain⟨⟨hs,hc⟩,hlen⟩:=hB;refine wp_region_held hm (S:=fun w'=>w.drew.grownBy w' row) ?_;have:=sch_H hs hQ c (Array.replicate l.length false) a w.drew hc (grown_refl _ _) h;rw [hlen]at this
 simpa using this
theorem sch_hide {w₁:World} {row:Option Nat} {l:List Oper} {c:Sch} {a:Act} {w:World} (h:∀W:Sch→Act→World→Prop,
   Hid (∀i o r a w,l[i]?=some o→(∀K:Act→Prop,(∀a,W r a w→K a)→if Region.wanted o (yielded l.toArray a.tmps)then Oper.heldAt P w₁ row o a K else K (a.put o.dst undef))→W (.calm i r) a w) →
   Hid (∀i o r a w,l[i]?=some o→Region.wanted o (yielded l.toArray a.tmps)=true→(∀K:Act→World→Prop,Hid (∀a w,w₁.grownBy w row→W r a w→K a w)→wpList P [bare o].toArray (Exit.then K Q) [bare o] a w)→W (.one i r) a w) →
   Hid (∀i o r a w,l[i]?=some o→w₁.grownBy w row→Region.wanted o (yielded l.toArray a.tmps)=false→W r (a.put o.dst undef) w→W (.one i r) a w) →
   Hid (∀i j r s a w,W (.one i r) a w→W (.one j s) a w→W (.two i j r s) a w) →
   Hid (∀a w,Q .normal a w→W .done a w)→W c a w):wpSch P l Q (fun w=>w₁.grownBy w row) c a w:=by
 refine h (wpSch P l Q (fun w=>w₁.grownBy w row)) (Lib.hid fun i o r a w ho hk=>?_) (Lib.hid fun i o r a w ho hw hk=>?_) (Lib.hid fun i o r a w ho hS hw hk=>?_) (Lib.hid fun i j r s a w h1 h2=>?_) (Lib.hid fun a w hk=>hk)
 ·have:=hk _ (fun _ h=>h);refine⟨o,ho,?_⟩
  split at this
  ·rename_i hw
   obtain⟨v,hv,hn⟩:=this;exact⟨v,.inl ⟨hw,fun w' hw'=>by have:=hv w';rwa [wof_of hw']at this⟩,hn⟩
  ·rename_i hw
   exact⟨undef,.inr ⟨by simpa using hw,rfl⟩,this⟩
 ·have:=hk (fun a w=>w₁.grownBy w row∧wpSch P l Q (fun w=>w₁.grownBy w row) r a w) (Lib.hid fun _ _ h1 h2=>⟨h1,h2⟩);unfold wpList at this;rw [if_pos (show Region.wanted (bare o) (yielded [bare o].toArray a.tmps)=true from rfl)]at this;refine⟨o,ho,?_⟩;unfold wpDo;rw [if_pos hw];rcases this with h1|⟨h1,h2⟩
  ·exact .inl (wp_then h1)
  ·exact .inr ⟨h1,h2⟩
 ·refine⟨o,ho,?_⟩;unfold wpDo;rw [if_neg (by simp [hw])];exact⟨hS,hk⟩
 ·exact⟨h1,h2⟩
end
end Go.Bw
/-
  As the schedules for regions that draw their order; here whatever holds of the worlds between may be said freely. No condition on a program.
-/
namespace Go.Bw
open Go.RowKit
open Classical in
/-- The worlds of which S holds. -/
noncomputable def wofS (w₁:World)(S:World→Prop)(i:World):World:=if S i then i else w₁
theorem wofS_of {w₁ i:World}{S:World→Prop}(h:S i):wofS w₁ S i=i:=by unfold wofS;rw [if_pos h]
theorem wofS_S {w₁:World}{S:World→Prop}(h:S w₁)(i:World):S (wofS w₁ S i):=by
 unfold wofS
 split
 ·assumption
 ·exact h
/-- The same value in every world of which S holds, and nothing else. -/
def Oper.heldS (P:Program)(w₁:World)(S:World→Prop)(o:Oper)(a:Act)(next:Act→Prop):Prop :=
 ∃v,(∀i,(execOp a.eval o).run P (wofS w₁ S i)=.ok (.value v) (wofS w₁ S i))∧next (a.put o.dst v)
attribute [go_sem] Oper.heldS
section
variable {P:Program}{Q:Exit→Act→World→Prop}{S:World→Prop}
end
end Go.Bw
/-
  As the schedules for regions that draw their order; here any number of operations may come up in any order, and whatever holds of the worlds between may be said freely. No condition on a program.
-/
namespace Go.Bw
open Go.RowKit
/-- A schedule: a calm operation; the one that is left; one of several. -/
inductive Alt
 | done
 | calm (i:Nat) (r:Alt)
 | one (i:Nat) (r:Alt)
 | alt (i:Nat) (r s:Alt)
def Alt.len:Alt→Nat
 | .done=>0
 | .calm _ r=>r.len+1
 | .one _ r=>r.len+1
 | .alt _ r _=>r.len+1
def Alt.heads:Alt→List Nat
 | .done=>[]
 | .calm _ _=>[]
 | .one i _=>[i]
 | .alt i _ s=>i::s.heads
section
variable {P:Program}{Q:Exit→Act→World→Prop}{S:World→Prop}{md:Region.Mode}
def altB (md:Region.Mode)(ops:Array Oper):Bool→Alt→Array Bool→Bool
 | h,.done,listed=>h&&(Region.ready md ops listed).isEmpty
 | h,.calm i r,listed=>h&&Region.free md ops listed i&&(Region.ready md ops listed).contains i&&altB md ops true r (listed.setIfInBounds i true)
 | h,.one i r,listed=>(!h || decide (Region.ready md ops listed=[i]))&&altB md ops true r (listed.setIfInBounds i true)
 | h,.alt i r s,listed=>(!h || decide (Region.ready md ops listed=i::s.heads))&&decide (s.len=r.len+1)&&altB md ops true r (listed.setIfInBounds i true)&&altB md ops false s listed
def wpAlt (P:Program)(l:List Oper)(Q:Exit→Act→World→Prop)(S:World→Prop):Alt→Act→World→Prop
 | .done,a,w=>Q .normal a w
 | .calm i r,a,w=>∃o,l[i]?=some o∧∃v,YieldsIf P l.toArray S o v a∧wpAlt P l Q S r (a.put o.dst v) w
 | .one i r,a,w=>∃o,l[i]?=some o∧wpDo P l.toArray Q S o (wpAlt P l Q S r) a w
 | .alt i r s,a,w=>(∃o,l[i]?=some o∧wpDo P l.toArray Q S o (wpAlt P l Q S r) a w)∧wpAlt P l Q S s a w
theorem alt_HB {l:List Oper}(hs:Region.noSelect l.toArray=true)(hQ:∀c a d v w,Q (.panic c) (Act.put a d v) w→Q (.panic c) a w):
  ∀(c:Alt),(∀(listed:Array Bool) (a:Act) (w:World),altB md l.toArray true c listed=true→S w→wpAlt P l Q S c a w→wpAnyH P md l.toArray Q S c.len listed a w) ∧
   (∀(listed:Array Bool) (a:Act) (w:World),altB md l.toArray false c listed=true→S w→wpAlt P l Q S c a w→∀k∈c.heads,∀m,c.len=m+1→wpOp P l.toArray Q k (fun a' w'=>S w'∧wpAnyH P md l.toArray Q S m (listed.setIfInBounds k true) a' w') a w)
 | .done=>⟨fun listed a w hB _ h=>⟨by simpa [altB] using hB,h⟩,fun listed a w _ _ _ k hk=>by simp [Alt.heads]at hk⟩
 | .calm i r=>⟨fun listed a w hB hS h=>by
   simp only [altB,Bool.true_and,Bool.and_eq_true]at hB;obtain⟨⟨hf,hr⟩,hB'⟩:=hB;obtain⟨o,ho,v,hy,hk⟩:=h;exact wpAnyH_take (by simpa using ho) hs hf hr (fun c a w=>hQ c a _ _ w) hy hS ((alt_HB hs hQ r).1 _ _ w hB' hS hk),
  fun listed a w _ _ _ k hk=>by simp [Alt.heads]at hk⟩
 | .one i r=>by
   have key:∀(listed:Array Bool) (a:Act) (w:World),altB md l.toArray true r (listed.setIfInBounds i true)=true→S w→wpAlt P l Q S (.one i r) a w→wpOp P l.toArray Q i (fun a' w'=>S w'∧wpAnyH P md l.toArray Q S r.len (listed.setIfInBounds i true) a' w') a w:=by
    intro listed a w hB _ h;obtain⟨o,ho,hk⟩:=h;exact wpOp_mono (fun a' w' h'=>⟨h'.1,(alt_HB hs hQ r).1 _ a' w' hB h'.1 h'.2⟩) (sch_op ho hk)
   refine⟨fun listed a w hB hS h=>?_,fun listed a w hB hS h k hk m hm=>?_⟩
   ·simp only [altB,Bool.not_true,Bool.false_or,Bool.and_eq_true,decide_eq_true_eq]at hB;refine wpAnyH_all hB.1 (by simp) fun j hj=>?_
    obtain rfl:j=i:=by simpa using hj
    exact key listed a w hB.2 hS h
   ·simp only [Alt.heads,List.mem_cons,List.mem_nil_iff,or_false]at hk;subst hk;simp only [altB,Bool.not_false,Bool.true_or,Bool.true_and]at hB;simp only [Alt.len,Nat.add_right_cancel_iff]at hm;subst hm;exact key listed a w hB hS h
 | .alt i r s=>by
   have key:∀(listed:Array Bool) (a:Act) (w:World),s.len=r.len+1→altB md l.toArray true r (listed.setIfInBounds i true)=true→altB md l.toArray false s listed=true→S w→wpAlt P l Q S (.alt i r s) a w→∀k∈i::s.heads,wpOp P l.toArray Q k (fun a' w'=>S w'∧wpAnyH P md l.toArray Q S r.len (listed.setIfInBounds k true) a' w') a w:=by
    intro listed a w hl hB1 hB2 hS h k hk;obtain⟨⟨o,ho,h1⟩,h2⟩:=h;rcases List.mem_cons.1 hk with rfl|hk
    ·exact wpOp_mono (fun a' w' h'=>⟨h'.1,(alt_HB hs hQ r).1 _ a' w' hB1 h'.1 h'.2⟩) (sch_op ho h1)
    ·exact(alt_HB hs hQ s).2 listed a w hB2 hS h2 k hk _ hl
   refine⟨fun listed a w hB hS h=>?_,fun listed a w hB hS h k hk m hm=>?_⟩
   ·simp only [altB,Bool.not_true,Bool.false_or,Bool.and_eq_true,decide_eq_true_eq]at hB;obtain⟨⟨⟨hr,hl⟩,hB1⟩,hB2⟩:=hB;exact wpAnyH_all hr (by simp) fun k hk=>key listed a w hl hB1 hB2 hS h k hk
   ·simp only [altB,Bool.not_false,Bool.true_or,Bool.true_and,Bool.and_eq_true,decide_eq_true_eq]at hB;obtain⟨⟨hl,hB1⟩,hB2⟩:=hB;simp only [Alt.len,Nat.add_right_cancel_iff]at hm;subst hm;exact key listed a w hl hB1 hB2 hS h k hk
theorem wp_region_alt {id:Nat}{a:Act}{w:World}{l:List Oper}(S:World→Prop)(c:Alt)(hm:P.follows .mixedOrders=true)(hB:(Region.noSelect l.toArray&&altB .any l.toArray true c (Array.replicate l.length false)&&decide (c.len=l.length))=true)(hQ:∀c a d v w,Q (.panic c) (Act.put a d v) w→Q (.panic c) a w)(hS:S w.drew)(h:wpAlt P l Q S c a w.drew):(Code.region id l.toArray true).wp P Q a w:=by
 simp only [Bool.and_eq_true,decide_eq_true_eq]at hB;obtain⟨⟨hs,hc⟩,hlen⟩:=hB;refine wp_region_held hm (S:=S) ?_;have:=(alt_HB hs hQ c).1 (Array.replicate l.length false) a w.drew hc hS h;rw [hlen]at this
 simpa using this
theorem alt_hide {w₁:World} {l:List Oper} {c:Alt} {a:Act} {w:World} (h:∀W:Alt→Act→World→Prop,
   Hid (∀i o r a w,l[i]?=some o→(∀K:Act→Prop,(∀a,W r a w→K a)→if Region.wanted o (yielded l.toArray a.tmps)then Oper.heldS P w₁ S o a K else K (a.put o.dst undef))→W (.calm i r) a w) →
   Hid (∀i o r a w,l[i]?=some o→Region.wanted o (yielded l.toArray a.tmps)=true→(∀K:Act→World→Prop,Hid (∀a w,S w→W r a w→K a w)→wpList P [bare o].toArray (Exit.then K Q) [bare o] a w)→W (.one i r) a w) →
   Hid (∀i r s a w,W (.one i r) a w→W s a w→W (.alt i r s) a w) →
   Hid (∀a w,Q .normal a w→W .done a w)→W c a w):wpAlt P l Q S c a w:=by
 refine h (wpAlt P l Q S) (Lib.hid fun i o r a w ho hk=>?_) (Lib.hid fun i o r a w ho hw hk=>?_) (Lib.hid fun i r s a w h1 h2=>?_) (Lib.hid fun a w hk=>hk)
 ·have:=hk _ (fun _ h=>h);refine⟨o,ho,?_⟩
  split at this
  ·rename_i hw
   obtain⟨v,hv,hn⟩:=this;exact⟨v,.inl ⟨hw,fun w' hw'=>by have:=hv w';rwa [wofS_of hw']at this⟩,hn⟩
  ·rename_i hw
   exact⟨undef,.inr ⟨by simpa using hw,rfl⟩,this⟩
 ·have:=hk (fun a w=>S w∧wpAlt P l Q S r a w) (Lib.hid fun _ _ h1 h2=>⟨h1,h2⟩);unfold wpList at this;rw [if_pos (show Region.wanted (bare o) (yielded [bare o].toArray a.tmps)=true from rfl)]at this;refine⟨o,ho,?_⟩;unfold wpDo;rw [if_pos hw];rcases this with h1|⟨h1,h2⟩
  ·exact .inl (wp_then h1)
  ·exact .inr ⟨h1,h2⟩
 ·exact⟨h1,h2⟩
end
end Go.Bw
/-
  append of a row that can be read, to a row of the call's own; stores into own rows. No condition on a program.
-/
namespace Go.Bw
open Go.RowKit
/-- append of a row that can be read. -/
theorem app_rowR {P:Program}{ops:Array Oper}{rest:List Oper}{o:Oper}{a:Act}{Q:Exit→Act→World→Prop}{W:World}(hgd:o.guard=none)(s x:Operand)(t:TypeId)(ho:o.op=.call { callee:=.builtin .append,args:=#[s,x],argTypes:=#[t,t] }){e:TypeId}{z:Value}{size bytes:Nat}(E:Elem P t e z size bytes){base b2:Nat}{v vx:Value}{n m:Nat}{xs ys:List Value}(hown:W.ownsRow base e size v n xs)(hs:a.eval s=v)(hox:Row W b2 size vx m ys)(hx:a.eval x=vx)(h1:∀u∈ys,u.oneCell'=true)(hlim:n+m≤1099511627776)(hbase:base≤W.heap.size)(h:∀v' w',w'.ownsRow base e size v' (n+m) (xs++ys)→W.grownBy w' v.ownBlock→wpList P ops Q rest (a.put o.dst v') w'):wpList P ops Q (o::rest) a W:=by
 obtain⟨i,hi,hz0,hz1,hz2⟩:=info_parts E.hi;rcases hox.2 with ⟨rfl,h0⟩|⟨g,off,cap,rfl,_,_,_,_,hc⟩
 ·subst h0;have hy:ys=[]:=List.length_eq_zero_iff.1 (by have:=hox.1;simpa using this);subst hy;refine wpList_append_own_none hgd s x t ho base e i size E.ht hi v n xs hs hown hx (h v W ?_ (grown_refl _ _))
  simpa using hown
 ·refine wpList_append_own W hgd s x t ho base e i z size bytes E.ht hi hz0 hz1 hz2 E.hz E.hs v n xs hs hown ⟨g,off,none⟩ m cap ys hx hox.1 (fun j u hj=>?_) h1 (by unfold maxLen;omega) ?_ hbase (fun v' w' h1 h2 _=>h v' w' h1 h2)
  ·rw [Addr.add_lit];exact hc j u hj
  ·have:=Nat.mul_le_mul hlim E.hb;omega
section
variable {w:World}{base e sz n g cap:Nat}{xs:List Value}(h:w.ownsRow base e sz (.slice (some ⟨g,0,none⟩) n cap) n xs)(i:Nat)
include h i
/-- A store into an own row, at a cell. -/
theorem owns_setC (hi:i<n*sz)(u:Value):
  (w.setCell ⟨g,i,none⟩ u).ownsRow base e sz (.slice (some ⟨g,0,none⟩) n cap) n (xs.set i u):=by
 obtain⟨h1,h2⟩:=h;refine⟨by simpa using h1,?_⟩;rcases h2 with ⟨h2,_⟩|⟨g',cap',cur,hv,hb,hg,hn,hc,hs,ht⟩
 ·cases h2
 ·simp only [Value.slice.injEq,Option.some.injEq,Addr.mk.injEq]at hv;obtain⟨⟨rfl,_⟩,_,rfl⟩:=hv;refine .inr ⟨g,cap,cur.setIfInBounds i u,rfl,hb,?_,hn,hc,by simpa using hs,?_⟩
  ·have hlt:=(Array.getElem?_eq_some_iff.1 hg).1;simp only [World.setCell,Array.getElem?_modify,if_true,hg,Option.map_some];rfl
  ·rw [←ht,Array.toList_setIfInBounds];exact List.take_set.symm▸rfl
theorem owns_frozenC:w.frozen? ⟨g,i,none⟩=false:=by
 rcases h.2 with ⟨h2,_⟩|⟨g',cap',cur,hv,hb,hg,hn,hc,hs,ht⟩
 ·cases h2
 ·simp only [Value.slice.injEq,Option.some.injEq,Addr.mk.injEq]at hv;obtain⟨⟨rfl,_⟩,_,rfl⟩:=hv;unfold World.frozen?;rw [hg];simp
end
end Go.Bw
