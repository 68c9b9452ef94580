/-
  Contracts and lemmas towards the statement, of several parts; each part says ahead of it what it holds and under which conditions.
-/
import Derived.Test.YtnmdpphddimfbaaGreatMg5
import Derived.Test.YtnmdpphddimfbaaGreatMg2
import Derived.Maps.Own
import Derived.Test.YtnmdpphddimfbaaGreatMg3
set_option maxRecDepth 100000
set_option maxHeartbeats 1000000
set_option linter.unusedSectionVars false
/-
  Line-ups: some of the scorers, as the stream hands them out. Conditions: the bounds that each theorem names.
-/
set_option linter.unusedVariables false
namespace Go.Proofs.YtnmdpphddimfbaaGreat
open Go.RowKit Go.Bw
/-- Names that the stream handed out. -/
structure StO (B b:Nat)(w0:World)(v:Value)(ks:List ByteArray)(w:World):Prop where
 d:Drawn B w0 w b
 hB:B<w0.heap.size
 o:w.ownsRow w0.heap.size 9 1 v ks.length (cellsOf encSt ks)
 z:SmAll ks
section
variable {B b b':Nat}{w0 w w':World}{v v':Value}{ks:List ByteArray}
theorem StO.drawn (h:StO B b w0 v ks w)(d:Drawn B w w' b'):StO B b' w0 v ks w':=⟨h.d.trans d,h.hB,owns_drawn h.o d h.hB,h.z⟩
theorem StO.mono (h:StO B b w0 v ks w)(hb:b≤b'):StO B b' w0 v ks w:=⟨h.d.mono hb,h.hB,h.o,h.z⟩
theorem StO.alloc (h:StO B b w0 v ks w)(ob:Obj):StO B b w0 v ks (w.alloc ob):=h.drawn ((Drawn.refl h.d.str).alloc ob)
theorem StO.app (h:StO B b w0 v ks w){s:ByteArray}(hs:Sm s)(ho:w'.ownsRow w0.heap.size 9 1 v' (ks.length+1) (cellsOf encSt ks++[.string s]))(g:w.grownBy w' v.ownBlock):StO B b w0 v' (ks++[s]) w' :=
 ⟨h.d.app h.o (Nat.le_refl _) h.hB g,h.hB,by rw [cellsOf_snoc,List.length_append];exact ho,h.z.snoc hs⟩
theorem StO.nil (h:Drawn B w0 w b)(hB:B<w0.heap.size):StO B b w0 (.slice none 0 0) [] w:=⟨h,hB,World.ownsRow_nil _ _ _ _,.nil⟩
end
theorem map_at {l:List Int}{k:Int}(h:k.toNat<l.length):(l.map (Value.int .i64))[k.toNat]?=some (.int .i64 (geti l k)):=by
 rw [List.getElem?_map,List.getElem?_eq_getElem h];unfold geti;rw [List.getElem?_eq_getElem h];rfl
noncomputable def soM:Code:=(Tryz.f28.body).getD .skip
def soAI (B b bx:Nat)(w0 w1:World)(g c:Nat)(pL:Option Addr)(L:List ScD)(hL:ScO B bx w1 (.slice pL L.length c) L w0)(hm:L.length≤1000)(hb:b≤40000)(l:List Int)(v11:Value)(hlc:CntI L.length l.length∧InN L.length l)(k:Int)(a:Act)(w:World):Prop:=(0≤k∧k≤l.length)∧∃(v5:Value) (ks:List ByteArray),(LeI k ks.length)∧(StO B (b+L.length+(k:Int).toNat) w0 v5 ks w∧RHd 3 B w.heap.size w l.length v11 (l.map (.int .i64)))∧Fr 37 [(0,.pointer (some ⟨B,0,none⟩)),(1,.slice pL L.length c),(5,v5),(11,v11),(12,.int .i64 l.length),(13,.int .i64 k)] a
end Go.Proofs.YtnmdpphddimfbaaGreat
/-
  Line-ups: may a scorer stand here (the closure of the stream's Fills, and ContainsFunc of it). Conditions: the bounds that each theorem names.
-/
namespace Go.Proofs.YtnmdpphddimfbaaGreat
open Go.RowKit Go.Bw
/-- What the closure of Fills sees: the box of the scorers and the box of a place. -/
structure FcH (w:World)(A1 A2:Nat)(pL:Option Addr)(c:Nat)(L:List ScD)(j:Int):Prop where
 a1:w.cell? ⟨A1,0,none⟩=some (.slice pL L.length c)
 a2:w.cell? ⟨A2,0,none⟩=some (.int .i64 j)
 r:Row w 0 5 (.slice pL L.length c) L.length (cellsOf encSc L)
 j0:0≤j
 j1:j<L.length
 p:PsH w (geta L j).pv (geta L j).ps
theorem FcH.below {w w':World}{A1 A2 c:Nat}{pL:Option Addr}{L:List ScD}{j:Int}(h:FcH w A1 A2 pL c L j)(b:Below w.heap.size w w'):FcH w' A1 A2 pL c L j :=
 ⟨(b.cell (p:=⟨A1,0,none⟩) (World.block_lt_of_cell? w _ h.a1)).trans h.a1,(b.cell (p:=⟨A2,0,none⟩) (World.block_lt_of_cell? w _ h.a2)).trans h.a2,h.r.below b,h.j0,h.j1,h.p.below b⟩
theorem cl_fil (x:ByteArray)(A1 A2 c:Nat)(pL:Option Addr)(L:List ScD)(j:Int)(w:World)(h:FcH w A1 A2 pL c L j):
  Calls Tryz.prog 44 #[.string x,.pointer (some ⟨A1,0,none⟩),.pointer (some ⟨A2,0,none⟩)] w fun e w'=>e=.returned (.bool (hasS (geta L j).ps x))∧Below w.heap.size w w':=by
 have hj0:=h.j0;have hj1:=h.j1;have t1:=h.a1;have t2:=h.a2;obtain⟨bz,off,hp,hn1,hn2,hcell⟩:=Row.nonnil h.r (by omega);subst hp;have t0:=Row.elAt encSc_length hcell hj0 hj1 1 _ (by decide) rfl;have HC:=Lib.hid (contains_str (geta L j).pv (geta L j).ps.length (geta L j).ps x 0 w h.p.r);obtain⟨q,d,hv⟩:=h.p.r.shape;rw [hv]at HC t0;clear hcell h hv;have HB:=Lib.hid (Below.refl w.heap.size w);generalize hasS (geta L j).ps x=r at *;generalize (geta L j).ps.length=m at *
 go_enter Tryz.func44,Tryz.ntmps44
 go_wp2_with fail
 refine HC.out.mono ?_;rintro e w2 ⟨rfl,rfl⟩;go_wp2_with fail
 go_ret
 exact⟨rfl,HB.out⟩
theorem may_stand (A1 A2 c:Nat)(pL:Option Addr)(L:List ScD)(j:Int)(v:Value)(l:List ByteArray)(w:World)(h:FcH w A1 A2 pL c L j)(hr:Row w 0 1 v l.length (cellsOf encSt l))(hn:l.length≤1000000):
  Calls Tryz.prog 43 #[v,.func (.func 44) #[] #[.pointer (some ⟨A1,0,none⟩),.pointer (some ⟨A2,0,none⟩)]] w fun e w'=>e=.returned (.bool (l.any (hasS (geta L j).ps)))∧Below w.heap.size w w' :=
 any_st2 _ Tryz.call44 _ _ v l (hasS (geta L j).ps) 0 w hr hn (fun x _ w1 b1=>cl_fil x A1 A2 c pL L j w1 (h.below b1))
end Go.Proofs.YtnmdpphddimfbaaGreat
/-
  Line-ups: the world while the stream hands out fills. Conditions: the bounds that each theorem names.
-/
namespace Go.Bw
open Go.RowKit
/-- Growth of one newer block. -/
theorem Drawn.newer {n₀ b g:Nat}{w w' w'':World}(h:Drawn n₀ w w' b)(gr:w'.grownBy w'' (some g))(hg:w.heap.size≤g)(hn:n₀<g):Drawn n₀ w w'' b:=by
 refine⟨h.str.kept gr (fun k hk=>by cases hk;exact hn),⟨gr.os.trans h.gr.os,gr.tape.trans h.gr.tape,gr.output.trans h.gr.output,Nat.le_trans h.gr.size gr.size,fun k hk hne=>?_⟩⟩;rw [gr.block k (Nat.lt_of_lt_of_le hk h.gr.size) (fun e=>by cases e;omega),h.gr.block k hk hne]
end Go.Bw
namespace Go.Proofs.YtnmdpphddimfbaaGreat
open Go.RowKit Go.Bw
theorem el_flL:Elem Tryz.prog 30 49 (.agg #[.string ByteArray.empty,.string ByteArray.empty]) 2 32:=⟨by kernel_rfl,by kernel_rfl,by kernel_rfl,by decide,by decide⟩
/-- A map from names to Booleans that the call made; what it holds does not matter. -/
def MapB (w:World)(m n:Nat):Prop:=∃D:DataW Unit,w.ownsMap Tryz.prog 9 (plainElem Tryz.prog 4) m n D
theorem MapB.kept {w w':World}{m n:Nat}{row:Option Nat}(h:MapB w m n)(g:w.grownBy w' row)(hne:some m≠row):MapB w' m n:=by
 obtain⟨D,h⟩:=h;exact⟨D,h.kept g hne⟩
theorem MapB.row {w:World}{m n base e sz k:Nat}{v:Value}{xs:List Value}(h:MapB w m n)(ho:w.ownsRow base e sz v k xs):some m≠v.ownBlock:=by
 obtain⟨D,es,clock,hb,_⟩:=h;intro e;rcases ho.2 with ⟨rfl,_⟩|⟨g',cap',cur',rfl,_,hg',_⟩
 ·simp [Value.ownBlock]at e
 ·simp [Value.ownBlock]at e;subst e;rw [hb]at hg';simp at hg'
/-- The world while fills are handed out: the box of the scorers, the map of who is taken, the fills so far. -/
structure FiO (B b:Nat)(w0:World)(A1 m n:Nat)(vL:Value)(v:Value)(Fs:List FlD)(w:World):Prop where
 d:Drawn B w0 w b
 hB:B<w0.heap.size
 hA:w0.heap.size≤A1
 hm:w0.heap.size≤m
 a:RHd 28 B w.heap.size w 1 (.slice (some ⟨A1,0,none⟩) 1 1) [vL]
 mp:MapB w m n
 o:w.ownsRow w0.heap.size 49 2 v Fs.length (cellsOf encFl Fs)
 z:∀x∈Fs,Sm x.sl∧Sm x.pl
section
variable {B b b' A1 m n n':Nat}{w0 w w':World}{vL v v':Value}{Fs:List FlD}
theorem FiO.drawn (h:FiO B b w0 A1 m n vL v Fs w)(d:Drawn B w w' b'):FiO B b' w0 A1 m n vL v Fs w' :=
 ⟨h.d.trans d,h.hB,h.hA,h.hm,(h.a.str d.gr).mono d.size,h.mp.kept d.gr (by have:=h.hm;have:=h.hB;simp;omega),owns_drawn h.o d h.hB,h.z⟩
theorem FiO.mono (h:FiO B b w0 A1 m n vL v Fs w)(hb:b≤b'):FiO B b' w0 A1 m n vL v Fs w:=⟨h.d.mono hb,h.hB,h.hA,h.hm,h.a,h.mp,h.o,h.z⟩
theorem FiO.alloc (h:FiO B b w0 A1 m n vL v Fs w)(ob:Obj):FiO B b w0 A1 m n vL v Fs (w.alloc ob):=h.drawn ((Drawn.refl h.d.str).alloc ob)
theorem FiO.below (h:FiO B b w0 A1 m n vL v Fs w)(g:Below w.heap.size w w'):FiO B b w0 A1 m n vL v Fs w':=h.drawn ((Drawn.refl h.d.str).below g)
theorem FiO.box (h:FiO B b w0 A1 m n vL v Fs w):w.cell? ⟨A1,0,none⟩=some vL:=by
 rcases h.a.row.2 with ⟨h0,_⟩|⟨g,off,cap,hv,_,_,_,_,hc⟩
 ·cases h0
 ·simp only [Value.slice.injEq,Option.some.injEq,Addr.mk.injEq]at hv;obtain⟨⟨rfl,rfl,_⟩,_,_⟩:=hv;exact hc 0 vL rfl
theorem FiO.app (h:FiO B b w0 A1 m n vL v Fs w){x:FlD}(hx:Sm x.sl∧Sm x.pl)(ho:w'.ownsRow w0.heap.size 49 2 v' (Fs.length+1) (cellsOf encFl Fs++[.string x.sl,.string x.pl]))(g:w.grownBy w' v.ownBlock):FiO B b w0 A1 m n vL v' (Fs++[x]) w' :=
 ⟨h.d.app h.o (Nat.le_refl _) h.hB g,h.hB,h.hA,h.hm,(h.a.other h.o (by decide) g).mono g.size,h.mp.kept g (h.mp.row h.o),by rw [cellsOf_snoc,List.length_append];exact ho,
  fun y hy=>by
   rcases List.mem_append.1 hy with hy|hy
   ·exact h.z y hy
   ·simp at hy;subst hy;exact hx⟩
/-- A store into a newer block that is neither the map's nor the row's. -/
theorem FiO.put (h:FiO B b w0 A1 m n vL v Fs w)(g:Nat)(gr:w.grownBy w' (some g))(h0:w0.heap.size≤g)(h1:A1≠g)(h2:m≠g)(h3:v.ownBlock≠some g):FiO B b w0 A1 m n vL v Fs w' :=
 ⟨h.d.newer gr h0 (by have:=h.hB;omega),h.hB,h.hA,h.hm,(h.a.grow gr (fun k hk=>by cases hk;simp [Value.ownBlock];exact h1)).mono gr.size,h.mp.kept gr (by simpa using h2),h.o.kept gr (.inr (fun e=>h3 e)),h.z⟩
end
end Go.Proofs.YtnmdpphddimfbaaGreat
/-
  The best fills of package score. Conditions: at most 4 slots and 6 scorers; points are right.
-/
namespace Go.Bw
open Go.RowKit
/-- A block that is left from its second statement, or for an outer one from its third. -/
theorem T3.blockTwo {P:Program}{R R1 S S1 X T:Rel}{a b c:Code}{id id2:Nat}(hne:id2≠id)(ha:T3 P R a R1 No id T)(hb:T3 P R1 b S1 S id T)(hc:T3 P S1 c S X id2 T):T3 P R (.block id (.seq a (.seq b c))) S X id2 T:=by
 intro ac w hR;refine wp_block (wp_seq (wp_mono (ha ac w hR) ?_));intro e a1 w1 q1;cases e with
 | normal =>
  refine wp_seq (wp_mono (hb a1 w1 q1) ?_);intro e a2 w2 q2;clear q1;cases e with
  | normal =>
   refine wp_mono (hc a2 w2 q2) ?_;intro e a3 w3 q3;clear q2;cases e with
   | normal=>exact q3
   | exit i =>
    obtain⟨rfl,q3⟩:=q3;show Exit.inBlock id _ (.exit i) a3 w3;simp only [Exit.inBlock,hne,if_false];exact⟨rfl,q3⟩
   | ret=>exact q3
   | goto l=>exact q3
   | panic ch=>exact q3
   | outgrown=>exact q3
  | exit i =>
   obtain⟨rfl,q2⟩:=q2;show Exit.inBlock i _ (.exit i) a2 w2;simp only [Exit.inBlock,if_true];exact q2
  | ret=>exact q2
  | goto l=>exact q2
  | panic ch=>exact q2
  | outgrown=>exact q2
 | exit i=>exact q1.2.elim
 | ret=>exact q1
 | goto l=>exact q1
 | panic ch=>exact q1
 | outgrown=>exact q1
/-- Stores into a row of another type. -/
theorem owns_apart {w w':World}{b1 b2 s1 s2 n1 n2:Nat}{e1 e2:TypeId}{v u:Value}{cs xs:List Value}(h:w.ownsRow b1 e1 s1 v n1 cs)(ho:w.ownsRow b2 e2 s2 u n2 xs)(he:e1≠e2)(g:w.grownBy w' u.ownBlock):w'.ownsRow b1 e1 s1 v n1 cs:=by
 refine h.kept g ?_;rcases h.2 with ⟨rfl,_⟩|⟨g1,cap1,cur1,rfl,_,hg1,_⟩
 ·exact .inl rfl
 ·rcases ho.2 with ⟨rfl,_⟩|⟨g2,cap2,cur2,rfl,_,hg2,_⟩
  ·exact .inr (by simp [Value.ownBlock])
  ·refine .inr (fun q=>?_);simp [Value.ownBlock]at q;subst q;have h3:=hg1.symm.trans hg2;simp only [Option.some.injEq,Obj.cells.injEq]at h3;exact he h3.2.1
end Go.Bw
namespace Go.Proofs.YtnmdpphddimfbaaGreat
open Go.RowKit Go.Bw
def gU (tk:List Bool):Nat→Bool:=fun j=>geta tk (j:Int)
section
variable {tk:List Bool}{k:Nat}
theorem gU_set (hk:k<tk.length):gU (tk.set k true)=updU (gU tk) k:=by
 funext j
 unfold gU updU geta;rw [Int.toNat_natCast,List.getElem?_set]
 by_cases e:k=j
 ·subst e;simp [hk]
 ·have e':¬j=k:=fun q=>e q.symm
  simp [e,e']
theorem set_back (hk:geta tk (k:Int)=false)(hl:k<tk.length):(tk.set k true).set k false=tk:=by
 rw [List.set_set];refine List.ext_getElem (by simp) (fun i h1 h2=>?_);rw [List.getElem_set]
 split
 ·rename_i e
  subst e;unfold geta at hk;rw [Int.toNat_natCast,List.getElem?_eq_getElem hl]at hk;exact hk.symm
 ·rfl
end
/-- Fills by who is in each slot. -/
def fillsOf (S:List SlD)(L:List ScD):Nat→List (Option Nat)→List FlD
 | _,[]=>[]
 | i,none::l=>⟨(geta S (i:Int)).key,⟨#[]⟩⟩::fillsOf S L (i+1) l
 | i,some k::l=>⟨(geta S (i:Int)).key,(geta L (k:Int)).pl⟩::fillsOf S L (i+1) l
def slV (S:List SlD)(L:List ScD)(r i:Nat)(U:Nat→Bool):Int:=slotV (fitK S L) (wK L) L.length r i U
def grF (S:List SlD)(L:List ScD)(r i:Nat)(U:Nat→Bool):List (Option Nat):=greedF (fitK S L) (wK L) L.length r i U
def grP (S:List SlD)(L:List ScD)(r i:Nat)(U:Nat→Bool)(left:Int):Nat→Bool:=fun k=>!U k&&(fitK S L k i&&decide (slV S L r (i+1) (updU U k)=left-wK L k))
def bestF (S:List SlD)(L:List ScD):List FlD:=fillsOf S L 0 (grF S L S.length 0 (fun _=>false))
theorem fillsOf_len (S:List SlD)(L:List ScD):∀(l:List (Option Nat)) (i:Nat),(fillsOf S L i l).length=l.length
 | [],_=>rfl
 | none::l,i=>by simp [fillsOf,fillsOf_len S L l]
 | some k::l,i=>by simp [fillsOf,fillsOf_len S L l]
theorem bestF_len (S:List SlD)(L:List ScD):(bestF S L).length=S.length:=by
 unfold bestF grF;rw [fillsOf_len,greed_len]
/-- The fills so far; what is left to bring. -/
structure BeI (S:List SlD)(L:List ScD)(i:Nat)(tk:List Bool)(out:List FlD)(left:Int):Prop where
 hi:i≤S.length
 tl:tk.length=L.length
 lf:left=slV S L (S.length-i) i (gU tk)
 gr:bestF S L=out++fillsOf S L i (grF S L (S.length-i) i (gU tk))
 ol:out.length=i
section
variable {S:List SlD}{L:List ScD}{i:Nat}{tk:List Bool}{out:List FlD}{left:Int}
theorem BeI.start (h:left=slV S L S.length 0 (gU (List.replicate L.length false))):BeI S L 0 (List.replicate L.length false) [] left:=by
 have e:gU (List.replicate L.length false)=fun _=>false:=by
  funext j
  unfold gU geta;rw [Int.toNat_natCast,List.getElem?_replicate]
  split <;> rfl
 refine⟨Nat.zero_le _,by simp,h,?_,rfl⟩;rw [e];rfl
theorem grF_none {r:Nat}{U:Nat→Bool}(h:slV S L r (i+1) U=slV S L (r+1) i U):grF S L (r+1) i U=none::grF S L r (i+1) U:=by
 have h2:slotV (fitK S L) (wK L) L.length r (i+1) U=slotV (fitK S L) (wK L) L.length (r+1) i U:=h;show greedF (fitK S L) (wK L) L.length (r+1) i U=none::greedF (fitK S L) (wK L) L.length r (i+1) U;rw [greedF,if_pos h2]
theorem grF_some {r k:Nat}{U:Nat→Bool}(h:slV S L r (i+1) U≠slV S L (r+1) i U)(hk:firstK (grP S L r i U (slV S L (r+1) i U)) L.length 0=some k):grF S L (r+1) i U=some k::grF S L r (i+1) (updU U k):=by
 have hk2:firstK (fun k=>!U k&&(fitK S L k i&&decide (slotV (fitK S L) (wK L) L.length r (i+1) (updU U k)=slotV (fitK S L) (wK L) L.length (r+1) i U-wK L k))) L.length 0=some k:=hk;have h2:¬slotV (fitK S L) (wK L) L.length r (i+1) U=slotV (fitK S L) (wK L) L.length (r+1) i U:=h;unfold grF;show greedF (fitK S L) (wK L) L.length (r+1) i U=_;rw [greedF,if_neg h2,hk2]
theorem BeI.none (h:BeI S L i tk out left)(hi:i<S.length)(he:slV S L (S.length-(i+1)) (i+1) (gU tk)=left):BeI S L (i+1) tk (out++[⟨(geta S (i:Int)).key,⟨#[]⟩⟩]) left:=by
 have hr:S.length-i=(S.length-(i+1))+1:=by omega
 have hl:=h.lf;have hg:=h.gr;rw [hr]at hl hg;rw [grF_none (he.trans hl)]at hg;refine⟨by omega,h.tl,he.symm,?_,by rw [List.length_append,h.ol];rfl⟩;rw [hg,List.append_assoc];rfl
theorem BeI.some (h:BeI S L i tk out left)(hi:i<S.length)(hne:slV S L (S.length-(i+1)) (i+1) (gU tk)≠left){k:Nat}(hk:firstK (grP S L (S.length-(i+1)) i (gU tk) left) L.length 0=some k):BeI S L (i+1) (tk.set k true) (out++[⟨(geta S (i:Int)).key,(geta L (k:Int)).pl⟩]) (left-wK L k):=by
 have hr:S.length-i=(S.length-(i+1))+1:=by omega
 have hl:=h.lf;have hg:=h.gr;rw [hr]at hl hg;obtain⟨_,hkl,hp,_⟩:=firstK_some hk;unfold grP at hp;simp only [Bool.and_eq_true,Bool.not_eq_true',decide_eq_true_eq]at hp;have hkt:k<tk.length:=by have:=h.tl;omega
 rw [hl]at hk hne;rw [grF_some hne hk]at hg;refine⟨by omega,by rw [List.length_set];exact h.tl,?_,?_,by rw [List.length_append,h.ol];rfl⟩
 ·rw [gU_set hkt];exact hp.2.2.symm
 ·rw [hg,List.append_assoc,gU_set hkt];rfl
/-- Somebody is found. -/
theorem BeI.found (h:BeI S L i tk out left)(hi:i<S.length)(hne:slV S L (S.length-(i+1)) (i+1) (gU tk)≠left)(hall:∀k,k<L.length→grP S L (S.length-(i+1)) i (gU tk) left k=false):False:=by
 have hr:S.length-i=(S.length-(i+1))+1:=by omega
 have hl:=h.lf;rw [hr]at hl;rw [hl]at hne hall;obtain⟨k,hk⟩:=greed_some hne;obtain⟨_,hkl,hp,_⟩:=firstK_some hk;have:=hall k (by omega);have hp2:grP S L (S.length-(i+1)) i (gU tk) (slV S L (S.length-(i+1)+1) i (gU tk)) k=true:=hp;rw [hp2]at this;cases this
theorem BeI.hit {k:Nat}(hk:k<L.length)(hn:∀j,j<k→grP S L (S.length-(i+1)) i (gU tk) left j=false)(hp:grP S L (S.length-(i+1)) i (gU tk) left k=true):firstK (grP S L (S.length-(i+1)) i (gU tk) left) L.length 0=Option.some k :=
 firstK_eq (Nat.zero_le _) (by omega) hp (fun j _ hj=>hn j hj)
end
/-- The call's own rows: who is taken, the fills so far. -/
structure BeW (w0:World)(gt l:Nat)(tk:List Bool)(v5:Value)(out:List FlD)(w:World):Prop where
 bel:Below w0.heap.size w0 w
 t:w.ownsRow w0.heap.size 4 1 (.slice (some ⟨gt,0,none⟩) l l) l (cellsOf encB tk)
 o:w.ownsRow w0.heap.size 49 2 v5 out.length (cellsOf encFl out)
/-- And the box of a fill. -/
structure BeR (w0:World)(gt l:Nat)(tk:List Bool)(v5:Value)(out:List FlD)(A8:Nat)(x:FlD)(w:World):Prop where
 a:BeW w0 gt l tk v5 out w
 b:w.ownsRow w0.heap.size 49 2 (.slice (some ⟨A8,0,none⟩) 1 1) 1 [.string x.sl,.string x.pl]
 ne:v5.ownBlock≠some A8
theorem cellsB_set (xs:List Bool)(i:Nat)(x:Bool):(cellsOf encB xs).set i (.bool x)=cellsOf encB (xs.set i x):=by
 have hm:∀l:List Bool,cellsOf encB l=l.map Value.bool:=fun l=>by
  induction l with
  | nil=>rfl
  | cons a l ih=>rw [cellsOf_cons,ih];rfl
 rw [hm,hm,List.map_set]
section
variable {w0 w w':World}{gt l A8:Nat}{tk:List Bool}{v5 v':Value}{out:List FlD}{x:FlD}
theorem BeW.below (h:BeW w0 gt l tk v5 out w)(b:Below w.heap.size w w'):BeW w0 gt l tk v5 out w':=⟨h.bel.trans (b.mono h.bel.size),owns_below h.t b (Nat.le_refl _),owns_below h.o b (Nat.le_refl _)⟩
theorem BeR.below (h:BeR w0 gt l tk v5 out A8 x w)(b:Below w.heap.size w w'):BeR w0 gt l tk v5 out A8 x w':=⟨h.a.below b,owns_below h.b b (Nat.le_refl _),h.ne⟩
theorem BeW.tput (h:BeW w0 gt l tk v5 out w){k:Nat}(hk:k<l)(b:Bool):BeW w0 gt l (tk.set k b) v5 out (w.setCell ⟨gt,k,none⟩ (.bool b)):=by
 have g1:=grown_setCell w gt k (.bool b);have t1:=owns_setC h.t k (by omega) (.bool b);rw [cellsB_set]at t1;exact⟨h.bel.setCell (p:=⟨gt,k,none⟩) (h.t.lt gt rfl).1 _,t1,owns_apart h.o h.t (by decide) g1⟩
theorem BeR.tput (h:BeR w0 gt l tk v5 out A8 x w){k:Nat}(hk:k<l)(b:Bool):BeR w0 gt l (tk.set k b) v5 out A8 x (w.setCell ⟨gt,k,none⟩ (.bool b)) :=
 ⟨h.a.tput hk b,owns_apart h.b h.a.t (by decide) (grown_setCell w gt k (.bool b)),h.ne⟩
theorem BeR.fput (h:BeR w0 gt l tk v5 out A8 x w)(s:ByteArray):BeR w0 gt l tk v5 out A8 ⟨x.sl,s⟩ (w.setCell ⟨A8,1,none⟩ (.string s)):=by
 have g1:=grown_setCell w A8 1 (.string s);exact⟨⟨h.a.bel.setCell (p:=⟨A8,1,none⟩) (h.b.lt A8 rfl).1 _,owns_apart h.a.t h.b (by decide) g1,h.a.o.kept g1 (.inr h.ne)⟩,owns_setC h.b 1 (by omega) (.string s),h.ne⟩
theorem BeW.app (h:BeW w0 gt l tk v5 out w){y:FlD}(ho:w'.ownsRow w0.heap.size 49 2 v' (out.length+1) (cellsOf encFl out++[.string y.sl,.string y.pl]))(g:w.grownBy w' v5.ownBlock):BeW w0 gt l tk v' (out++[y]) w' :=
 ⟨below_grown h.bel h.o g (Nat.le_refl _) h.bel.size,owns_apart h.t h.o (by decide) g,by rw [cellsOf_snoc,List.length_append];exact ho⟩
theorem BeR.fill (h:BeR w0 gt l tk v5 out A8 x w):w.cell? ⟨A8,0,none⟩=some (.string x.sl)∧w.cell? ⟨A8,1,none⟩=some (.string x.pl):=by
 rcases(Row.of_owns h.b).2 with ⟨h0,_⟩|⟨g,off,cap,hv,_,_,_,_,hc⟩
 ·cases h0
 ·simp only [Value.slice.injEq,Option.some.injEq,Addr.mk.injEq]at hv;obtain⟨⟨rfl,rfl,_⟩,_,_⟩:=hv;exact⟨hc 0 _ rfl,hc 1 _ rfl⟩
theorem BeW.tcell (h:BeW w0 gt l tk v5 out w)(ht:tk.length=l){k:Nat}(hk:k<l):w.cell? ⟨gt,k,none⟩=some (.bool (geta tk (k:Int)))∧w.frozen? ⟨gt,k,none⟩=false:=by
 refine⟨?_,owns_frozenC h.t k⟩;subst ht;obtain⟨bz,off,hp,_,_,hcell⟩:=Row.nonnil ((Row.of_owns h.t).mono (Nat.zero_le _)) (by omega);simp only [Option.some.injEq,Addr.mk.injEq]at hp;obtain⟨rfl,rfl,_⟩:=hp;have t0:=Row.elAt encB_length hcell (k:=(k:Int)) (by omega) (by omega) 0 _ (by decide) rfl;rw [Nat.zero_add,Nat.mul_one,Nat.add_zero,Int.toNat_natCast]at t0;exact t0
theorem BeW.tkh (h:BeW w0 gt l tk v5 out w)(ht:tk.length=l):TkH w (.slice (some ⟨gt,0,none⟩) l l) tk l:=⟨by rw [ht];exact(Row.of_owns h.t).mono (Nat.zero_le _),ht⟩
end
noncomputable def lbP:Code:=(Tryz.f49.body).getD .skip
theorem fr_lbP (f:Nat→Value):frame 98 f=⟨#[f 0,f 1,f 2,f 3,f 4,f 5,f 6,f 7,f 8,f 9,f 10,f 11,f 12,f 13,f 14,f 15,f 16,f 17,f 18,f 19,f 20,f 21,f 22,f 23,f 24,f 25,f 26,f 27,f 28,f 29,f 30,f 31,f 32,f 33,f 34,f 35,f 36,f 37,f 38,f 39,f 40,f 41,f 42,f 43,f 44,f 45,f 46,f 47,f 48,f 49,f 50,f 51,f 52,f 53,f 54,f 55,f 56,f 57,f 58,f 59,f 60,f 61,f 62,f 63,f 64,f 65,f 66,f 67,f 68,f 69,f 70,f 71,f 72,f 73,f 74,f 75,f 76,f 77,f 78,f 79,f 80,f 81,f 82,f 83,f 84,f 85,f 86,f 87,f 88,f 89,f 90,f 91,f 92,f 93,f 94,f 95,f 96,f 97],[]⟩:=by rfl
theorem info_bool:(Tryz.prog.info? 4).map (fun i=>(i.zero,i.size,i.bytes))=some (some (.bool false),1,1):=by kernel_rfl
theorem und_bools:Tryz.prog.underlying 128=some (.slice 4):=by kernel_rfl
theorem made_bools (n:Nat):(madeCells (Value.bool false).cells (n*1)).toList=cellsOf encB (List.replicate n false):=by
 have hf:(fun i:Nat=>(#[Value.bool false]:Array Value)[i % (#[Value.bool false]:Array Value).size]!)=fun _=>Value.bool false:=funext fun i=>by simp [Nat.mod_one]
 have hc:(Value.bool false).cells=#[Value.bool false]:=rfl;have hm:∀l:List Bool,cellsOf encB l=l.map Value.bool:=fun l=>by
  induction l with
  | nil=>rfl
  | cons a l ih=>rw [cellsOf_cons,ih];rfl
 rw [Nat.mul_one,hm,List.map_replicate,hc];unfold madeCells;rw [hf];simp [List.map_const']
section
variable (A0:Nat)(vl vs:Value)(S:List SlD)(L:List ScD)(w0:World)
theorem lb0 (h:BoH w0 A0 vs S vl L)(hp:ScP L)(hS:S.length≤4)(hl:L.length≤6):T3 Tryz.prog (fun a w=>(Below w0.heap.size w0 w)∧Fr 98 [(0,.pointer (some ⟨A0,0,none⟩))] a) (sel [0] lbP) (fun a w=>(Below w0.heap.size w0 w)∧Fr 98 [(0,.pointer (some ⟨A0,0,none⟩))] a) No 9 No:=by
 refine T3.leaf ?_;rintro Q JS JX JT K hS hK hX hE hT hR a w ⟨hW,⟨fr,rfl,q0,_⟩⟩;have HW:=Lib.hid hW;clear hW;rw [fr_lbP,fe q0];clear q0;conv=>arg 2;whnf
 go_wp2_with fail
 refine Met.intro (hS _ _ ?_);exact⟨HW.out,Fr.of _ rfl ⟨rfl,trivial⟩⟩
theorem lb1 (h:BoH w0 A0 vs S vl L)(hp:ScP L)(hS:S.length≤4)(hl:L.length≤6):T3 Tryz.prog (fun a w=>(Below w0.heap.size w0 w)∧Fr 98 [(0,.pointer (some ⟨A0,0,none⟩))] a) (sel [1,0] lbP) (fun a w=>∃(gt:Nat),(Below w0.heap.size w0 w∧w.ownsRow w0.heap.size 4 1 (.slice (some ⟨gt,0,none⟩) L.length L.length) L.length (cellsOf encB (List.replicate L.length false)))∧Fr 98 [(0,.pointer (some ⟨A0,0,none⟩)),(3,.slice (some ⟨gt,0,none⟩) L.length L.length)] a) No 9 No:=by
 refine T3.leaf ?_;rintro Q JS JX JT K hS hK hX hE hT hR a w ⟨hW,⟨fr,rfl,q0,_⟩⟩;have h1:=h.below hW;have b1:=h1.b1;have hsz:=hW.size;obtain⟨i0,hi,hz0,hz1,hz2⟩:=info_parts info_bool;obtain⟨q,d,hv⟩:=h1.c.r.shape;subst hv;have HW:=Lib.hid hW;clear hW h1 h hp;generalize L.length=l at *;rw [fr_lbP,fe q0];clear q0;conv=>arg 2;whnf
 go_wp2_with (at_make;refine wpList_make_full _ rfl _ _ 128 rfl w0.heap.size 4 i0 (.bool false) 1 und_bools hi hz0 hz1 .i64 .i64 _ _ l rfl rfl rfl rfl (by rw [hz2];omega) (by unfold maxLen;omega) hsz ?_;intro w' hown hgrow)
 rw [made_bools]at hown;refine Met.intro (hS _ _ ?_);exact⟨_,⟨HW.out.trans ((below_of_grown hgrow (by simp)).mono hsz),hown⟩,Fr.of _ rfl ⟨rfl,rfl,trivial⟩⟩
theorem lb2 (h:BoH w0 A0 vs S vl L)(hp:ScP L)(hS:S.length≤4)(hl:L.length≤6)(gt:Nat):T3 Tryz.prog (fun a w=>(Below w0.heap.size w0 w∧w.ownsRow w0.heap.size 4 1 (.slice (some ⟨gt,0,none⟩) L.length L.length) L.length (cellsOf encB (List.replicate L.length false)))∧Fr 98 [(0,.pointer (some ⟨A0,0,none⟩)),(3,.slice (some ⟨gt,0,none⟩) L.length L.length)] a) (sel [1,1,0] lbP) (fun a w=>∃(left:Int),(left=slV S L S.length 0 (gU (List.replicate L.length false)))∧(Below w0.heap.size w0 w∧w.ownsRow w0.heap.size 4 1 (.slice (some ⟨gt,0,none⟩) L.length L.length) L.length (cellsOf encB (List.replicate L.length false)))∧Fr 98 [(0,.pointer (some ⟨A0,0,none⟩)),(3,.slice (some ⟨gt,0,none⟩) L.length L.length),(4,.int .i64 left)] a) No 9 No:=by
 refine T3.leaf ?_;rintro Q JS JX JT K hS_ hK hX hE hT hR a w ⟨hW,⟨fr,rfl,q0,q3,_⟩⟩;have htk:TkH w (.slice (some ⟨gt,0,none⟩) L.length L.length) (List.replicate L.length false) L.length:=⟨by rw [List.length_replicate];exact(Row.of_owns hW.2).mono (Nat.zero_le _),by simp⟩
 have HC:=Lib.hid (most_prog A0 vl vs (.slice (some ⟨gt,0,none⟩) L.length L.length) S L (List.replicate L.length false) 0 S.length w (h.below hW.1) hp ⟨by omega,hS⟩ hl htk);have HW:=Lib.hid hW;have hsz:=hW.1.size;clear hW h hp htk;have HQ:=Lib.hid (show slotV (fitK S L) (wK L) L.length S.length 0 (fun j=>geta (List.replicate L.length false) (j:Int))=slV S L S.length 0 (gU (List.replicate L.length false))from rfl);rw [HQ.out]at HC;generalize slV S L S.length 0 (gU (List.replicate L.length false))=sv at *;rw [fr_lbP,fe q0,fe q3];clear q0 q3;conv=>arg 2;whnf
 go_wp2_with fail
 refine HC.out.mono ?_;rintro e w1 ⟨rfl,hb⟩;have H1:=Lib.hid (And.intro (HW.out.1.trans (hb.mono hsz)) (owns_below HW.out.2 hb (Nat.le_refl _)));clear hb;go_wp2_with fail
 refine Met.intro (hS_ _ _ ?_);exact⟨_,rfl,H1.out,Fr.of _ rfl ⟨rfl,rfl,rfl,trivial⟩⟩
theorem lb3 (h:BoH w0 A0 vs S vl L)(hp:ScP L)(hS:S.length≤4)(hl:L.length≤6)(gt:Nat)(left:Int):T3 Tryz.prog (fun a w=>(Below w0.heap.size w0 w∧w.ownsRow w0.heap.size 4 1 (.slice (some ⟨gt,0,none⟩) L.length L.length) L.length (cellsOf encB (List.replicate L.length false)))∧Fr 98 [(0,.pointer (some ⟨A0,0,none⟩)),(3,.slice (some ⟨gt,0,none⟩) L.length L.length),(4,.int .i64 left)] a) (sel [1,1,1,0] lbP) (fun a w=>∃(v5:Value),(BeW w0 gt L.length (List.replicate L.length false) v5 [] w)∧Fr 98 [(0,.pointer (some ⟨A0,0,none⟩)),(3,.slice (some ⟨gt,0,none⟩) L.length L.length),(4,.int .i64 left),(5,v5)] a) No 9 No:=by
 refine T3.leaf ?_;rintro Q JS JX JT K hS hK hX hE hT hR a w ⟨hW,⟨fr,rfl,q0,q3,q4,_⟩⟩;have HW:=Lib.hid hW;clear hW h hp;rw [fr_lbP,fe q0,fe q3,fe q4];clear q0 q3 q4;conv=>arg 2;whnf
 go_wp2_with fail
 refine Met.intro (hS _ _ ?_);exact⟨_,⟨HW.out.1,HW.out.2,World.ownsRow_nil _ _ _ _⟩,Fr.of _ rfl ⟨rfl,rfl,rfl,rfl,trivial⟩⟩
theorem lb4 (h:BoH w0 A0 vs S vl L)(hp:ScP L)(hS:S.length≤4)(hl:L.length≤6)(gt:Nat)(left:Int)(hlf:left=slV S L S.length 0 (gU (List.replicate L.length false)))(v5:Value):T3 Tryz.prog (fun a w=>(BeW w0 gt L.length (List.replicate L.length false) v5 [] w)∧Fr 98 [(0,.pointer (some ⟨A0,0,none⟩)),(3,.slice (some ⟨gt,0,none⟩) L.length L.length),(4,.int .i64 left),(5,v5)] a) (sel [1,1,1,1,0,0] lbP) (fun a w=>(0≤(0:Int)∧(0:Int)≤S.length)∧∃(tk:List Bool) (v5:Value) (out:List FlD) (left:Int),(BeI S L (0:Int).toNat tk out left)∧(BeW w0 gt L.length tk v5 out w)∧Fr 98 [(0,.pointer (some ⟨A0,0,none⟩)),(3,.slice (some ⟨gt,0,none⟩) L.length L.length),(4,.int .i64 left),(5,v5),(23,vs),(24,.int .i64 S.length),(25,.int .i64 0)] a) No 9 No:=by
 refine T3.leaf ?_;rintro Q JS JX JT K hS_ hK hX hE hT hR a w ⟨hW,⟨fr,rfl,q0,q3,q4,q5,_⟩⟩;have h1:=h.below hW.bel;have b0:=h1.b0;have HI:=Lib.hid (BeI.start hlf);obtain⟨q,d,hv⟩:=h1.s.r.shape;subst hv;obtain⟨q5,d5,hv5⟩:=(Row.of_owns hW.o).shape;subst hv5;have HW:=Lib.hid hW;clear hW h1 h hp hlf;rw [fr_lbP,fe q0,fe q3,fe q4,fe q5];clear q0 q3 q4 q5;conv=>arg 2;whnf
 go_wp2_with fail
 refine Met.intro (hS_ _ _ ?_);exact⟨⟨by omega,by omega⟩,_,_,_,_,HI.out,HW.out,Fr.of _ rfl ⟨rfl,rfl,rfl,rfl,rfl,rfl,rfl,trivial⟩⟩
theorem lb6 (h:BoH w0 A0 vs S vl L)(hp:ScP L)(hS:S.length≤4)(hl:L.length≤6)(gt:Nat)(i:Nat)(hi:i<S.length)(tk:List Bool)(v5:Value)(out:List FlD)(left:Int)(hI:BeI S L i tk out left):T3 Tryz.prog (fun a w=>(BeW w0 gt L.length tk v5 out w)∧Fr 98 [(0,.pointer (some ⟨A0,0,none⟩)),(3,.slice (some ⟨gt,0,none⟩) L.length L.length),(4,.int .i64 left),(5,v5),(23,vs),(24,.int .i64 S.length),(25,.int .i64 (i:Int))] a) (sel [1,1,1,1,0,1,4,4,1,1,0,4,0] lbP) (fun a w=>∃(A7:Nat),(BeW w0 gt L.length tk v5 out w∧w.cell? ⟨A7,0,none⟩=some (.string (geta S (i:Int)).key))∧Fr 98 [(0,.pointer (some ⟨A0,0,none⟩)),(3,.slice (some ⟨gt,0,none⟩) L.length L.length),(4,.int .i64 left),(5,v5),(6,.int .i64 (i:Int)),(7,.pointer (some ⟨A7,0,none⟩)),(23,vs),(24,.int .i64 S.length),(25,.int .i64 (i:Int))] a) No 9 No:=by
 refine T3.leaf ?_;rintro Q JS JX JT K hS_ hK hX hE hT hR a w ⟨hW,⟨fr,rfl,q0,q3,q4,q5,q23,q24,q25,_⟩⟩;have h1:=h.below hW.bel;have hR:=h1.s.r;obtain⟨qs,ds,hvs⟩:=hR.shape;subst hvs;obtain⟨bz,off,rfl,_,_,hcell⟩:=Row.nonnil hR (by omega);have t0:=Row.elAt encSl_length hcell (k:=(i:Int)) (by omega) (by omega) 0 _ (by decide) rfl;have t1:=Row.elAt encSl_length hcell (k:=(i:Int)) (by omega) (by omega) 1 _ (by decide) rfl;rw [Int.toNat_natCast]at t0 t1;rw [Nat.add_zero]at t0;obtain⟨qp,dp,hvp⟩:=(h1.s.p _ (geta_mem (l:=S) (i:=(i:Int)) (by omega) (by omega))).r.shape;have HWA:=Lib.hid (hW.below ((Below.refl w.heap.size w).alloc (Nat.le_refl _) (.cells #[.string (geta S (i:Int)).key,(geta S (i:Int)).pv] 72)));have HC0:=Lib.hid (cells_new w #[.string (geta S (i:Int)).key,(geta S (i:Int)).pv] 72 0 _ rfl);obtain⟨q5,d5,hv5⟩:=(Row.of_owns hW.o).shape;subst hv5;clear hcell hR h1 hW h hp hI;generalize geta S (i:Int)=x at *;obtain⟨xk,xv,xps⟩:=x;simp only at t0 t1 hvp;subst hvp;rw [fr_lbP,fe q0,fe q3,fe q4,fe q5,fe q23,fe q24,fe q25];clear q0 q3 q4 q5 q23 q24 q25;conv=>arg 2;whnf
 go_wp2_with fail
 refine Met.intro (hS_ _ _ ?_);exact⟨_,⟨HWA.out,HC0.out⟩,Fr.of _ rfl ⟨rfl,rfl,rfl,rfl,rfl,rfl,rfl,rfl,rfl,trivial⟩⟩
theorem lb7 (h:BoH w0 A0 vs S vl L)(hp:ScP L)(hS:S.length≤4)(hl:L.length≤6)(gt:Nat)(i:Nat)(hi:i<S.length)(tk:List Bool)(v5:Value)(out:List FlD)(left:Int)(hI:BeI S L i tk out left)(A7:Nat):T3 Tryz.prog (fun a w=>(BeW w0 gt L.length tk v5 out w∧w.cell? ⟨A7,0,none⟩=some (.string (geta S (i:Int)).key))∧Fr 98 [(0,.pointer (some ⟨A0,0,none⟩)),(3,.slice (some ⟨gt,0,none⟩) L.length L.length),(4,.int .i64 left),(5,v5),(6,.int .i64 (i:Int)),(7,.pointer (some ⟨A7,0,none⟩)),(23,vs),(24,.int .i64 S.length),(25,.int .i64 (i:Int))] a) (sel [1,1,1,1,0,1,4,4,1,1,0,4,1,0] lbP) (fun a w=>∃(A8:Nat),(BeR w0 gt L.length tk v5 out A8 ⟨(geta S (i:Int)).key,⟨#[]⟩⟩ w)∧Fr 98 [(0,.pointer (some ⟨A0,0,none⟩)),(3,.slice (some ⟨gt,0,none⟩) L.length L.length),(4,.int .i64 left),(5,v5),(6,.int .i64 (i:Int)),(8,.pointer (some ⟨A8,0,none⟩)),(23,vs),(24,.int .i64 S.length),(25,.int .i64 (i:Int))] a) No 9 No:=by
 refine T3.leaf ?_;rintro Q JS JX JT K hS_ hK hX hE hT hR a w ⟨hW,⟨fr,rfl,q0,q3,q4,q5,q6,q7,q23,q24,q25,_⟩⟩;have t0:=hW.2;have hW1:=hW.1;have ha:=(Below.refl w.heap.size w).alloc (Nat.le_refl _) (.cells #[.string (geta S (i:Int)).key,.string ⟨#[]⟩] 49);have HF:=Lib.hid (show BeR w0 gt L.length tk v5 out w.heap.size ⟨(geta S (i:Int)).key,⟨#[]⟩⟩ (w.alloc (.cells #[.string (geta S (i:Int)).key,.string ⟨#[]⟩] 49))from
  ⟨hW1.below ha,⟨by simp,.inr ⟨w.heap.size,1,_,rfl,hW1.bel.size,heap_alloc_new w _,Nat.le_refl _,by unfold maxLen;omega,by simp,by simp⟩⟩,fun e=>by have:=(hW1.o.lt _ e).2;omega⟩)
 obtain⟨q5,d5,hv5⟩:=(Row.of_owns hW1.o).shape;subst hv5;clear hW hW1 h hp hI ha;generalize (geta S (i:Int)).key=x at *;rw [fr_lbP,fe q0,fe q3,fe q4,fe q5,fe q6,fe q7,fe q23,fe q24,fe q25];clear q0 q3 q4 q5 q6 q7 q23 q24 q25;conv=>arg 2;whnf
 go_wp2_with fail
 refine Met.intro (hS_ _ _ ?_);exact⟨_,HF.out,Fr.of _ rfl ⟨rfl,rfl,rfl,rfl,rfl,rfl,rfl,rfl,rfl,trivial⟩⟩
theorem lb8 (h:BoH w0 A0 vs S vl L)(hp:ScP L)(hS:S.length≤4)(hl:L.length≤6)(gt:Nat)(i:Nat)(hi:i<S.length)(tk:List Bool)(v5:Value)(out:List FlD)(left:Int)(hI:BeI S L i tk out left)(A8:Nat):T3 Tryz.prog (fun a w=>(BeR w0 gt L.length tk v5 out A8 ⟨(geta S (i:Int)).key,⟨#[]⟩⟩ w)∧Fr 98 [(0,.pointer (some ⟨A0,0,none⟩)),(3,.slice (some ⟨gt,0,none⟩) L.length L.length),(4,.int .i64 left),(5,v5),(6,.int .i64 (i:Int)),(8,.pointer (some ⟨A8,0,none⟩)),(23,vs),(24,.int .i64 S.length),(25,.int .i64 (i:Int))] a) (sel [1,1,1,1,0,1,4,4,1,1,0,4,1,1,0,0] lbP) (fun a w=>∃q,Fr 98 ((39,.bool q)::[(0,.pointer (some ⟨A0,0,none⟩)),(3,.slice (some ⟨gt,0,none⟩) L.length L.length),(4,.int .i64 left),(5,v5),(6,.int .i64 (i:Int)),(8,.pointer (some ⟨A8,0,none⟩)),(23,vs),(24,.int .i64 S.length),(25,.int .i64 (i:Int))]) a∧((q=decide (slV S L (S.length-(i+1)) (i+1) (gU tk)=left))∧BeR w0 gt L.length tk v5 out A8 ⟨(geta S (i:Int)).key,⟨#[]⟩⟩ w)) No 9 No:=by
 refine T3.leaf ?_;rintro Q JS JX JT K hS_ hK hX hE hT hR a w ⟨hW,⟨fr,rfl,q0,q3,q4,q5,q6,q8,q23,q24,q25,_⟩⟩;have HC:=Lib.hid (most_prog A0 vl vs (.slice (some ⟨gt,0,none⟩) L.length L.length) S L (tk) (i+1) (S.length-(i+1)) w (h.below hW.a.bel) hp ⟨by omega,by omega⟩ hl (hW.a.tkh (by first|exact hI.tl|(rw [List.length_set];exact hI.tl))));have e1:((i+1:Nat):Int)=(i:Int)+1:=by omega
 rw [e1]at HC;have HQ:=Lib.hid (show slotV (fitK S L) (wK L) L.length (S.length-(i+1)) (i+1) (fun j=>geta (tk) (j:Int))=slV S L (S.length-(i+1)) (i+1) (gU (tk))from rfl);rw [HQ.out]at HC;have hi9:i<100:=by omega
 have HW:=Lib.hid hW;obtain⟨q5,d5,hv5⟩:=(Row.of_owns hW.a.o).shape;subst hv5;clear hW h hp hI e1 HQ;generalize hsv:slV S L (S.length-(i+1)) (i+1) (gU tk)=sv at *;have HSV:=Lib.hid hsv;clear hsv;have hn:(sv==left)=decide (sv=left):=rfl;clear hn;rw [fr_lbP,fe q0,fe q3,fe q4,fe q5,fe q6,fe q8,fe q23,fe q24,fe q25];clear q0 q3 q4 q5 q6 q8 q23 q24 q25;conv=>arg 2;whnf
 go_wp2_with fail
 refine HC.out.mono ?_;rintro e w1 ⟨rfl,hb⟩;have H1:=Lib.hid (HW.out.below hb);clear hb
 by_cases he:sv=left
 ·subst he;go_wp2_with fail
  refine Met.intro (hS_ _ _ ?_);exact⟨_,Fr.of _ rfl ⟨rfl,rfl,rfl,rfl,rfl,rfl,rfl,rfl,rfl,rfl,trivial⟩,by simp,H1.out⟩
 ·have hne:(sv==left)=false:=by simpa using he
  have HNE:=Lib.hid (show false=decide (sv=left)by simp [he]);clear he;go_wp2_with fail
  refine Met.intro (hS_ _ _ ?_);exact⟨_,Fr.of _ rfl ⟨rfl,rfl,rfl,rfl,rfl,rfl,rfl,rfl,rfl,rfl,trivial⟩,HNE.out,H1.out⟩
theorem lb9 (h:BoH w0 A0 vs S vl L)(hp:ScP L)(hS:S.length≤4)(hl:L.length≤6)(gt:Nat)(i:Nat)(tk:List Bool)(v5:Value)(out:List FlD)(left:Int)(A8:Nat)(x:FlD)(hol:out.length≤100):T3 Tryz.prog (fun a w=>(BeR w0 gt L.length tk v5 out A8 x w)∧Fr 98 [(0,.pointer (some ⟨A0,0,none⟩)),(3,.slice (some ⟨gt,0,none⟩) L.length L.length),(4,.int .i64 left),(5,v5),(6,.int .i64 (i:Int)),(8,.pointer (some ⟨A8,0,none⟩)),(23,vs),(24,.int .i64 S.length),(25,.int .i64 (i:Int))] a) (sel [1,1,1,1,0,1,4,4,1,1,0,4,1,1,0,1,2,0] lbP) (fun a w=>∃(v5':Value),(BeW w0 gt L.length tk v5' (out++[x]) w)∧Fr 98 [(0,.pointer (some ⟨A0,0,none⟩)),(3,.slice (some ⟨gt,0,none⟩) L.length L.length),(4,.int .i64 left),(5,v5'),(23,vs),(24,.int .i64 S.length),(25,.int .i64 (i:Int))] a) No 9 No:=by
 refine T3.leaf ?_;rintro Q JS JX JT K hS_ hK hX hE hT hR a w ⟨hW,⟨fr,rfl,q0,q3,q4,q5,q6,q8,q23,q24,q25,_⟩⟩;obtain⟨t0,t1⟩:=hW.fill;have hE:=el_flL;have hA:=hW.a;have hsz:=hA.bel.size;obtain⟨q5,d5,hv5⟩:=(Row.of_owns hA.o).shape;subst hv5;clear hW h hp;obtain⟨xs,xp⟩:=x;simp only at t0 t1;rw [fr_lbP,fe q0,fe q3,fe q4,fe q5,fe q6,fe q8,fe q23,fe q24,fe q25];clear q0 q3 q4 q5 q6 q8 q23 q24 q25;conv=>arg 2;whnf
 go_wp2_with (at_builtin;refine app_law rfl _ _ _ rfl hE (hA.o.alloc _) rfl [.string xs,.string xp] rfl rfl (cells_new w #[_,_] _) (by simp [Value.oneCell']) (by omega) (by simp;omega) ?_;intro v' w2 hown2 hgr2)
 have h2:=(hA.below ((Below.refl w.heap.size w).alloc (Nat.le_refl _) (.cells #[.string xs,.string xp] 49))).app (y:=⟨xs,xp⟩) hown2 hgr2;refine Met.intro (hS_ _ _ ?_);exact⟨_,h2,Fr.of _ rfl ⟨rfl,rfl,rfl,rfl,rfl,rfl,rfl,trivial⟩⟩
theorem lb20 (h:BoH w0 A0 vs S vl L)(hp:ScP L)(hS:S.length≤4)(hl:L.length≤6)(gt:Nat)(i:Nat)(tk:List Bool)(v5:Value)(out:List FlD)(left:Int)(A8:Nat)(x:FlD)(hol:out.length≤100):T3 Tryz.prog (fun a w=>(BeR w0 gt L.length tk v5 out A8 x w)∧Fr 98 [(0,.pointer (some ⟨A0,0,none⟩)),(3,.slice (some ⟨gt,0,none⟩) L.length L.length),(4,.int .i64 left),(5,v5),(6,.int .i64 (i:Int)),(8,.pointer (some ⟨A8,0,none⟩)),(23,vs),(24,.int .i64 S.length),(25,.int .i64 (i:Int))] a) (sel [1,1,1,1,0,1,4,4,1,1,0,4,1,1,1,1] lbP) (fun a w=>∃(v5':Value),(BeW w0 gt L.length tk v5' (out++[x]) w)∧Fr 98 [(0,.pointer (some ⟨A0,0,none⟩)),(3,.slice (some ⟨gt,0,none⟩) L.length L.length),(4,.int .i64 left),(5,v5'),(23,vs),(24,.int .i64 S.length),(25,.int .i64 (i:Int))] a) No 9 No:=by
 refine T3.leaf ?_;rintro Q JS JX JT K hS_ hK hX hE hT hR a w ⟨hW,⟨fr,rfl,q0,q3,q4,q5,q6,q8,q23,q24,q25,_⟩⟩;obtain⟨t0,t1⟩:=hW.fill;have hE:=el_flL;have hA:=hW.a;have hsz:=hA.bel.size;obtain⟨q5,d5,hv5⟩:=(Row.of_owns hA.o).shape;subst hv5;clear hW h hp;obtain⟨xs,xp⟩:=x;simp only at t0 t1;rw [fr_lbP,fe q0,fe q3,fe q4,fe q5,fe q6,fe q8,fe q23,fe q24,fe q25];clear q0 q3 q4 q5 q6 q8 q23 q24 q25;conv=>arg 2;whnf
 go_wp2_with (at_builtin;refine app_law rfl _ _ _ rfl hE (hA.o.alloc _) rfl [.string xs,.string xp] rfl rfl (cells_new w #[_,_] _) (by simp [Value.oneCell']) (by omega) (by simp;omega) ?_;intro v' w2 hown2 hgr2)
 have h2:=(hA.below ((Below.refl w.heap.size w).alloc (Nat.le_refl _) (.cells #[.string xs,.string xp] 49))).app (y:=⟨xs,xp⟩) hown2 hgr2;refine Met.intro (hS_ _ _ ?_);exact⟨_,h2,Fr.of _ rfl ⟨rfl,rfl,rfl,rfl,rfl,rfl,rfl,trivial⟩⟩
theorem lb10 (h:BoH w0 A0 vs S vl L)(hp:ScP L)(hS:S.length≤4)(hl:L.length≤6)(gt:Nat)(i:Nat)(hi:i<S.length)(tk:List Bool)(v5:Value)(out:List FlD)(left:Int)(hI:BeI S L i tk out left)(A8:Nat):T3 Tryz.prog (fun a w=>(BeR w0 gt L.length tk v5 out A8 ⟨(geta S (i:Int)).key,⟨#[]⟩⟩ w)∧Fr 98 [(0,.pointer (some ⟨A0,0,none⟩)),(3,.slice (some ⟨gt,0,none⟩) L.length L.length),(4,.int .i64 left),(5,v5),(6,.int .i64 (i:Int)),(8,.pointer (some ⟨A8,0,none⟩)),(23,vs),(24,.int .i64 S.length),(25,.int .i64 (i:Int))] a) (sel [1,1,1,1,0,1,4,4,1,1,0,4,1,1,1,0,0] lbP) (fun a w=>(BeR w0 gt L.length tk v5 out A8 ⟨(geta S (i:Int)).key,⟨#[]⟩⟩ w)∧Fr 98 [(0,.pointer (some ⟨A0,0,none⟩)),(3,.slice (some ⟨gt,0,none⟩) L.length L.length),(4,.int .i64 left),(5,v5),(6,.int .i64 (i:Int)),(8,.pointer (some ⟨A8,0,none⟩)),(23,vs),(24,.int .i64 S.length),(25,.int .i64 (i:Int)),(48,.int .i64 L.length),(49,.int .i64 0)] a) No 9 No:=by
 refine T3.leaf ?_;rintro Q JS JX JT K hS_ hK hX hE hT hR a w ⟨hW,⟨fr,rfl,q0,q3,q4,q5,q6,q8,q23,q24,q25,_⟩⟩;have h1:=h.below hW.a.bel;have b1:=h1.b1;obtain⟨q,d,hv⟩:=h1.c.r.shape;subst hv;have HW:=Lib.hid hW;obtain⟨q5,d5,hv5⟩:=(Row.of_owns hW.a.o).shape;subst hv5;clear hW h1 h hp hI;rw [fr_lbP,fe q0,fe q3,fe q4,fe q5,fe q6,fe q8,fe q23,fe q24,fe q25];clear q0 q3 q4 q5 q6 q8 q23 q24 q25;conv=>arg 2;whnf
 go_wp2_with fail
 refine Met.intro (hS_ _ _ ?_);exact⟨HW.out,Fr.of _ rfl ⟨rfl,rfl,rfl,rfl,rfl,rfl,rfl,rfl,rfl,rfl,rfl,trivial⟩⟩
theorem lb11 (h:BoH w0 A0 vs S vl L)(hp:ScP L)(hS:S.length≤4)(hl:L.length≤6)(gt:Nat)(i:Nat)(hi:i<S.length)(tk:List Bool)(v5:Value)(out:List FlD)(left:Int)(hI:BeI S L i tk out left)(A8:Nat)(k:Nat)(hk:k≤L.length):T3 Tryz.prog (fun a w=>(BeR w0 gt L.length tk v5 out A8 ⟨(geta S (i:Int)).key,⟨#[]⟩⟩ w)∧Fr 98 [(0,.pointer (some ⟨A0,0,none⟩)),(3,.slice (some ⟨gt,0,none⟩) L.length L.length),(4,.int .i64 left),(5,v5),(6,.int .i64 (i:Int)),(8,.pointer (some ⟨A8,0,none⟩)),(23,vs),(24,.int .i64 S.length),(25,.int .i64 (i:Int)),(48,.int .i64 L.length),(49,.int .i64 (k:Int))] a) (sel [1,1,1,1,0,1,4,4,1,1,0,4,1,1,1,0,1,4,4,0] lbP) (fun a w=>∃q,Fr 98 ((50,.bool q)::[(0,.pointer (some ⟨A0,0,none⟩)),(3,.slice (some ⟨gt,0,none⟩) L.length L.length),(4,.int .i64 left),(5,v5),(6,.int .i64 (i:Int)),(8,.pointer (some ⟨A8,0,none⟩)),(23,vs),(24,.int .i64 S.length),(25,.int .i64 (i:Int)),(48,.int .i64 L.length),(49,.int .i64 (k:Int))]) a∧((q=decide (k<L.length))∧BeR w0 gt L.length tk v5 out A8 ⟨(geta S (i:Int)).key,⟨#[]⟩⟩ w)) No 9 No:=by
 refine T3.leaf ?_;rintro Q JS JX JT K hS_ hK hX hE hT hR a w ⟨hW,⟨fr,rfl,q0,q3,q4,q5,q6,q8,q23,q24,q25,q48,q49,_⟩⟩;have HW:=Lib.hid hW;obtain⟨q5,d5,hv5⟩:=(Row.of_owns hW.a.o).shape;subst hv5;clear hW h hp hI;generalize L.length=l at *;rw [fr_lbP,fe q0,fe q3,fe q4,fe q5,fe q6,fe q8,fe q23,fe q24,fe q25,fe q48,fe q49];clear q0 q3 q4 q5 q6 q8 q23 q24 q25 q48 q49;conv=>arg 2;whnf
 go_wp2_with fail
 refine Met.intro (hS_ _ _ ?_);exact⟨_,Fr.of _ rfl ⟨rfl,rfl,rfl,rfl,rfl,rfl,rfl,rfl,rfl,rfl,rfl,rfl,trivial⟩,rfl,HW.out⟩
theorem lb12 (h:BoH w0 A0 vs S vl L)(hp:ScP L)(hS:S.length≤4)(hl:L.length≤6)(gt:Nat)(i:Nat)(hi:i<S.length)(tk:List Bool)(v5:Value)(out:List FlD)(left:Int)(hI:BeI S L i tk out left)(A8:Nat)(k:Nat)(hk:k<L.length):T3 Tryz.prog (fun a w=>(BeR w0 gt L.length tk v5 out A8 ⟨(geta S (i:Int)).key,⟨#[]⟩⟩ w)∧Fr 98 [(0,.pointer (some ⟨A0,0,none⟩)),(3,.slice (some ⟨gt,0,none⟩) L.length L.length),(4,.int .i64 left),(5,v5),(6,.int .i64 (i:Int)),(8,.pointer (some ⟨A8,0,none⟩)),(23,vs),(24,.int .i64 S.length),(25,.int .i64 (i:Int)),(48,.int .i64 L.length),(49,.int .i64 (k:Int))] a) (sel [1,1,1,1,0,1,4,4,1,1,0,4,1,1,1,0,1,4,4,1,1,0,4,0] lbP) (fun a w=>(BeR w0 gt L.length tk v5 out A8 ⟨(geta S (i:Int)).key,⟨#[]⟩⟩ w)∧Fr 98 [(0,.pointer (some ⟨A0,0,none⟩)),(3,.slice (some ⟨gt,0,none⟩) L.length L.length),(4,.int .i64 left),(5,v5),(6,.int .i64 (i:Int)),(8,.pointer (some ⟨A8,0,none⟩)),(9,.int .i64 (k:Int)),(23,vs),(24,.int .i64 S.length),(25,.int .i64 (i:Int)),(48,.int .i64 L.length),(49,.int .i64 (k:Int))] a) No 9 No:=by
 refine T3.leaf ?_;rintro Q JS JX JT K hS_ hK hX hE hT hR a w ⟨hW,⟨fr,rfl,q0,q3,q4,q5,q6,q8,q23,q24,q25,q48,q49,_⟩⟩;have HW:=Lib.hid hW;obtain⟨q5,d5,hv5⟩:=(Row.of_owns hW.a.o).shape;subst hv5;clear hW h hp hI;rw [fr_lbP,fe q0,fe q3,fe q4,fe q5,fe q6,fe q8,fe q23,fe q24,fe q25,fe q48,fe q49];clear q0 q3 q4 q5 q6 q8 q23 q24 q25 q48 q49;conv=>arg 2;whnf
 go_wp2_with fail
 refine Met.intro (hS_ _ _ ?_);exact⟨HW.out,Fr.of _ rfl ⟨rfl,rfl,rfl,rfl,rfl,rfl,rfl,rfl,rfl,rfl,rfl,rfl,trivial⟩⟩
theorem lb13 (h:BoH w0 A0 vs S vl L)(hp:ScP L)(hS:S.length≤4)(hl:L.length≤6)(gt:Nat)(i:Nat)(hi:i<S.length)(tk:List Bool)(v5:Value)(out:List FlD)(left:Int)(hI:BeI S L i tk out left)(A8:Nat)(k:Nat)(hk:k<L.length):T3 Tryz.prog (fun a w=>(BeR w0 gt L.length tk v5 out A8 ⟨(geta S (i:Int)).key,⟨#[]⟩⟩ w)∧Fr 98 [(0,.pointer (some ⟨A0,0,none⟩)),(3,.slice (some ⟨gt,0,none⟩) L.length L.length),(4,.int .i64 left),(5,v5),(6,.int .i64 (i:Int)),(8,.pointer (some ⟨A8,0,none⟩)),(9,.int .i64 (k:Int)),(23,vs),(24,.int .i64 S.length),(25,.int .i64 (i:Int)),(48,.int .i64 L.length),(49,.int .i64 (k:Int))] a) (sel [1,1,1,1,0,1,4,4,1,1,0,4,1,1,1,0,1,4,4,1,1,0,4,1,0,0] lbP) (fun a w=>∃q,Fr 98 ((62,.bool q)::[(0,.pointer (some ⟨A0,0,none⟩)),(3,.slice (some ⟨gt,0,none⟩) L.length L.length),(4,.int .i64 left),(5,v5),(6,.int .i64 (i:Int)),(8,.pointer (some ⟨A8,0,none⟩)),(9,.int .i64 (k:Int)),(23,vs),(24,.int .i64 S.length),(25,.int .i64 (i:Int)),(48,.int .i64 L.length),(49,.int .i64 (k:Int))]) a∧((q=(geta tk (k:Int) || !fitK S L k i))∧BeR w0 gt L.length tk v5 out A8 ⟨(geta S (i:Int)).key,⟨#[]⟩⟩ w)) No 9 No:=by
 refine T3.leaf ?_;rintro Q JS JX JT K hS_ hK hX hE hT hR a w ⟨hW,⟨fr,rfl,q0,q3,q4,q5,q6,q8,q9,q23,q24,q25,q48,q49,_⟩⟩;obtain⟨t0,_⟩:=hW.a.tcell hI.tl hk;have HC:=Lib.hid (fits_prog A0 vl vs S L k i w (h.below hW.a.bel) hk hi);have HW:=Lib.hid hW;obtain⟨q5,d5,hv5⟩:=(Row.of_owns hW.a.o).shape;subst hv5;clear hW h hp hI;generalize fitK S L k i=ff at *;generalize hgt:geta tk (k:Int)=tq at *;have HGT:=Lib.hid hgt;clear hgt;cases tq
 ·rw [fr_lbP,fe q0,fe q3,fe q4,fe q5,fe q6,fe q8,fe q9,fe q23,fe q24,fe q25,fe q48,fe q49];clear q0 q3 q4 q5 q6 q8 q9 q23 q24 q25 q48 q49;conv=>arg 2;whnf
  go_wp2_with fail
  refine HC.out.mono ?_;rintro e w1 ⟨rfl,hb⟩;have H1:=Lib.hid (HW.out.below hb);clear hb;go_wp2_with fail
  refine Met.intro (hS_ _ _ ?_);exact⟨_,Fr.of _ rfl ⟨rfl,rfl,rfl,rfl,rfl,rfl,rfl,rfl,rfl,rfl,rfl,rfl,rfl,trivial⟩,by simp,H1.out⟩
 ·clear HC;rw [fr_lbP,fe q0,fe q3,fe q4,fe q5,fe q6,fe q8,fe q9,fe q23,fe q24,fe q25,fe q48,fe q49];clear q0 q3 q4 q5 q6 q8 q9 q23 q24 q25 q48 q49;conv=>arg 2;whnf
  go_wp2_with fail
  refine Met.intro (hS_ _ _ ?_);exact⟨_,Fr.of _ rfl ⟨rfl,rfl,rfl,rfl,rfl,rfl,rfl,rfl,rfl,rfl,rfl,rfl,rfl,trivial⟩,by simp,HW.out⟩
theorem lb14 (h:BoH w0 A0 vs S vl L)(hp:ScP L)(hS:S.length≤4)(hl:L.length≤6)(gt:Nat)(i:Nat)(hi:i<S.length)(tk:List Bool)(v5:Value)(out:List FlD)(left:Int)(hI:BeI S L i tk out left)(A8:Nat)(k:Nat)(hk:k<L.length):T3 Tryz.prog (fun a w=>(BeR w0 gt L.length tk v5 out A8 ⟨(geta S (i:Int)).key,⟨#[]⟩⟩ w)∧Fr 98 [(0,.pointer (some ⟨A0,0,none⟩)),(3,.slice (some ⟨gt,0,none⟩) L.length L.length),(4,.int .i64 left),(5,v5),(6,.int .i64 (i:Int)),(8,.pointer (some ⟨A8,0,none⟩)),(9,.int .i64 (k:Int)),(23,vs),(24,.int .i64 S.length),(25,.int .i64 (i:Int)),(48,.int .i64 L.length),(49,.int .i64 (k:Int))] a) (sel [1,1,1,1,0,1,4,4,1,1,0,4,1,1,1,0,1,4,4,1,1,0,4,1,1,0] lbP) (fun a w=>(BeR w0 gt L.length (tk.set k true) v5 out A8 ⟨(geta S (i:Int)).key,⟨#[]⟩⟩ w)∧Fr 98 [(0,.pointer (some ⟨A0,0,none⟩)),(3,.slice (some ⟨gt,0,none⟩) L.length L.length),(4,.int .i64 left),(5,v5),(6,.int .i64 (i:Int)),(8,.pointer (some ⟨A8,0,none⟩)),(9,.int .i64 (k:Int)),(23,vs),(24,.int .i64 S.length),(25,.int .i64 (i:Int)),(48,.int .i64 L.length),(49,.int .i64 (k:Int))] a) No 9 No:=by
 refine T3.leaf ?_;rintro Q JS JX JT K hS_ hK hX hE hT hR a w ⟨hW,⟨fr,rfl,q0,q3,q4,q5,q6,q8,q9,q23,q24,q25,q48,q49,_⟩⟩;obtain⟨t0,f0⟩:=hW.a.tcell hI.tl hk;have HW:=Lib.hid (hW.tput hk true);obtain⟨q5,d5,hv5⟩:=(Row.of_owns hW.a.o).shape;subst hv5;clear hW h hp hI;generalize geta tk (k:Int)=tq at *;rw [fr_lbP,fe q0,fe q3,fe q4,fe q5,fe q6,fe q8,fe q9,fe q23,fe q24,fe q25,fe q48,fe q49];clear q0 q3 q4 q5 q6 q8 q9 q23 q24 q25 q48 q49;conv=>arg 2;whnf
 go_wp2_with fail
 refine Met.intro (hS_ _ _ ?_);exact⟨HW.out,Fr.of _ rfl ⟨rfl,rfl,rfl,rfl,rfl,rfl,rfl,rfl,rfl,rfl,rfl,rfl,trivial⟩⟩
end
theorem slotV_le {fit:Nat→Nat→Bool}{w:Nat→Int}{l:Nat}{c:Int}(hc:0≤c)(hw:∀k,k<l→w k≤c):∀r i U,slotV fit w l r i U≤r*c
 | 0,_,_=>by simp [slotV]
 | r+1,i,U=>by
  have h0:=slotV_le (fit:=fit) hc hw r (i+1) U;have e:((r+1:Nat):Int)*c=r*c+c:=by rw [Int.natCast_add,Int.add_mul];simp
  rw [e];rcases maxTo_at (c:=fun k=>!U k&&fit k i) (g:=fun k=>slotV fit w l r (i+1) (updU U k)+w k) (v0:=slotV fit w l r (i+1) U) l with h|⟨k,h1,_,h3⟩
  ·show maxTo _ _ _ l≤_;omega
  ·have h4:=slotV_le (fit:=fit) hc hw r (i+1) (updU U k);have h5:=hw k h1;show maxTo _ _ _ l≤_;omega
theorem ScP.wkb {L:List ScD}(h:ScP L){k:Nat}(hk:k<L.length):-64000001≤wK L k∧wK L k≤64000000:=by
 have:=h.hnK hk;unfold wK;omega
theorem BeI.lb {S:List SlD}{L:List ScD}{i:Nat}{tk:List Bool}{out:List FlD}{left:Int}(h:BeI S L i tk out left)(hp:ScP L)(hS:S.length≤4):0≤left∧left≤256000000:=by
 have h1:=(slotV_max (fitK S L) (wK L) L.length (S.length-i) i (gU tk)).nonneg;have h2:=slotV_le (fit:=fitK S L) (w:=wK L) (l:=L.length) (c:=64000000) (by decide) (fun k hk=>(hp.wkb hk).2) (S.length-i) i (gU tk);have h3:=h.lf;unfold slV at h3;rw [h3];refine⟨h1,?_⟩;have h4:((S.length-i:Nat):Int)≤4:=by omega
 omega
section
variable (A0:Nat)(vl vs:Value)(S:List SlD)(L:List ScD)(w0:World)
theorem lb15 (h:BoH w0 A0 vs S vl L)(hp:ScP L)(hS:S.length≤4)(hl:L.length≤6)(gt:Nat)(i:Nat)(hi:i<S.length)(tk:List Bool)(v5:Value)(out:List FlD)(left:Int)(hI:BeI S L i tk out left)(A8:Nat)(k:Nat)(hk:k<L.length):T3 Tryz.prog (fun a w=>(BeR w0 gt L.length (tk.set k true) v5 out A8 ⟨(geta S (i:Int)).key,⟨#[]⟩⟩ w)∧Fr 98 [(0,.pointer (some ⟨A0,0,none⟩)),(3,.slice (some ⟨gt,0,none⟩) L.length L.length),(4,.int .i64 left),(5,v5),(6,.int .i64 (i:Int)),(8,.pointer (some ⟨A8,0,none⟩)),(9,.int .i64 (k:Int)),(23,vs),(24,.int .i64 S.length),(25,.int .i64 (i:Int)),(48,.int .i64 L.length),(49,.int .i64 (k:Int))] a) (sel [1,1,1,1,0,1,4,4,1,1,0,4,1,1,1,0,1,4,4,1,1,0,4,1,1,1,0,0] lbP) (fun a w=>(BeR w0 gt L.length (tk.set k true) v5 out A8 ⟨(geta S (i:Int)).key,⟨#[]⟩⟩ w)∧Fr 98 [(0,.pointer (some ⟨A0,0,none⟩)),(3,.slice (some ⟨gt,0,none⟩) L.length L.length),(4,.int .i64 left),(5,v5),(6,.int .i64 (i:Int)),(8,.pointer (some ⟨A8,0,none⟩)),(9,.int .i64 (k:Int)),(10,.int .i64 (left-wK L k)),(23,vs),(24,.int .i64 S.length),(25,.int .i64 (i:Int)),(48,.int .i64 L.length),(49,.int .i64 (k:Int))] a) No 9 No:=by
 refine T3.leaf ?_;rintro Q JS JX JT K hS_ hK hX hE hT hR a w ⟨hW,⟨fr,rfl,q0,q3,q4,q5,q6,q8,q9,q23,q24,q25,q48,q49,_⟩⟩;have hlb:=hI.lb hp hS;have hwb:=hp.wkb hk;have HC:=Lib.hid (worth_prog A0 vl vs S L k w (h.below hW.a.bel) hp hk);have HW:=Lib.hid hW;obtain⟨q5,d5,hv5⟩:=(Row.of_owns hW.a.o).shape;subst hv5;clear hW h hp hI;generalize wK L k=ww at *;rw [fr_lbP,fe q0,fe q3,fe q4,fe q5,fe q6,fe q8,fe q9,fe q23,fe q24,fe q25,fe q48,fe q49];clear q0 q3 q4 q5 q6 q8 q9 q23 q24 q25 q48 q49;conv=>arg 2;whnf
 go_wp2_with fail
 refine HC.out.mono ?_;rintro e w1 ⟨rfl,hb⟩;have H1:=Lib.hid (HW.out.below hb);clear hb;go_wp2_with fail
 refine Met.intro (hS_ _ _ ?_);exact⟨H1.out,Fr.of _ rfl ⟨rfl,rfl,rfl,rfl,rfl,rfl,rfl,rfl,rfl,rfl,rfl,rfl,rfl,trivial⟩⟩
theorem lb16 (h:BoH w0 A0 vs S vl L)(hp:ScP L)(hS:S.length≤4)(hl:L.length≤6)(gt:Nat)(i:Nat)(hi:i<S.length)(tk:List Bool)(v5:Value)(out:List FlD)(left:Int)(hI:BeI S L i tk out left)(A8:Nat)(k:Nat)(hk:k<L.length):T3 Tryz.prog (fun a w=>(BeR w0 gt L.length (tk.set k true) v5 out A8 ⟨(geta S (i:Int)).key,⟨#[]⟩⟩ w)∧Fr 98 [(0,.pointer (some ⟨A0,0,none⟩)),(3,.slice (some ⟨gt,0,none⟩) L.length L.length),(4,.int .i64 left),(5,v5),(6,.int .i64 (i:Int)),(8,.pointer (some ⟨A8,0,none⟩)),(9,.int .i64 (k:Int)),(10,.int .i64 (left-wK L k)),(23,vs),(24,.int .i64 S.length),(25,.int .i64 (i:Int)),(48,.int .i64 L.length),(49,.int .i64 (k:Int))] a) (sel [1,1,1,1,0,1,4,4,1,1,0,4,1,1,1,0,1,4,4,1,1,0,4,1,1,1,0,1,0] lbP) (fun a w=>∃q,Fr 98 ((77,.bool q)::[(0,.pointer (some ⟨A0,0,none⟩)),(3,.slice (some ⟨gt,0,none⟩) L.length L.length),(4,.int .i64 left),(5,v5),(6,.int .i64 (i:Int)),(8,.pointer (some ⟨A8,0,none⟩)),(9,.int .i64 (k:Int)),(10,.int .i64 (left-wK L k)),(23,vs),(24,.int .i64 S.length),(25,.int .i64 (i:Int)),(48,.int .i64 L.length),(49,.int .i64 (k:Int))]) a∧((q=decide (slV S L (S.length-(i+1)) (i+1) (gU (tk.set k true))=left-wK L k))∧BeR w0 gt L.length (tk.set k true) v5 out A8 ⟨(geta S (i:Int)).key,⟨#[]⟩⟩ w)) No 9 No:=by
 refine T3.leaf ?_;rintro Q JS JX JT K hS_ hK hX hE hT hR a w ⟨hW,⟨fr,rfl,q0,q3,q4,q5,q6,q8,q9,q10,q23,q24,q25,q48,q49,_⟩⟩;have HC:=Lib.hid (most_prog A0 vl vs (.slice (some ⟨gt,0,none⟩) L.length L.length) S L ((tk.set k true)) (i+1) (S.length-(i+1)) w (h.below hW.a.bel) hp ⟨by omega,by omega⟩ hl (hW.a.tkh (by first|exact hI.tl|(rw [List.length_set];exact hI.tl))));have e1:((i+1:Nat):Int)=(i:Int)+1:=by omega
 rw [e1]at HC;have HQ:=Lib.hid (show slotV (fitK S L) (wK L) L.length (S.length-(i+1)) (i+1) (fun j=>geta ((tk.set k true)) (j:Int))=slV S L (S.length-(i+1)) (i+1) (gU ((tk.set k true)))from rfl);rw [HQ.out]at HC;have hi9:i<100:=by omega
 have HW:=Lib.hid hW;obtain⟨q5,d5,hv5⟩:=(Row.of_owns hW.a.o).shape;subst hv5;clear hW h hp hI e1 HQ;generalize slV S L (S.length-(i+1)) (i+1) (gU (tk.set k true))=sv at *;generalize left-wK L k=rest at *;rw [fr_lbP,fe q0,fe q3,fe q4,fe q5,fe q6,fe q8,fe q9,fe q10,fe q23,fe q24,fe q25,fe q48,fe q49];clear q0 q3 q4 q5 q6 q8 q9 q10 q23 q24 q25 q48 q49;conv=>arg 2;whnf
 go_wp2_with fail
 refine HC.out.mono ?_;rintro e w1 ⟨rfl,hb⟩;have H1:=Lib.hid (HW.out.below hb);clear hb
 by_cases he:sv=rest
 ·subst he;go_wp2_with fail
  refine Met.intro (hS_ _ _ ?_);exact⟨_,Fr.of _ rfl ⟨rfl,rfl,rfl,rfl,rfl,rfl,rfl,rfl,rfl,rfl,rfl,rfl,rfl,rfl,trivial⟩,by simp,H1.out⟩
 ·have hne:(sv==rest)=false:=by simpa using he
  have HNE:=Lib.hid (show false=decide (sv=rest)by simp [he]);clear he;go_wp2_with fail
  refine Met.intro (hS_ _ _ ?_);exact⟨_,Fr.of _ rfl ⟨rfl,rfl,rfl,rfl,rfl,rfl,rfl,rfl,rfl,rfl,rfl,rfl,rfl,rfl,trivial⟩,HNE.out,H1.out⟩
theorem lb17 (h:BoH w0 A0 vs S vl L)(hp:ScP L)(hS:S.length≤4)(hl:L.length≤6)(gt:Nat)(i:Nat)(hi:i<S.length)(tk:List Bool)(v5:Value)(out:List FlD)(left:Int)(hI:BeI S L i tk out left)(A8:Nat)(k:Nat)(hk:k<L.length):T3 Tryz.prog (fun a w=>(BeR w0 gt L.length (tk.set k true) v5 out A8 ⟨(geta S (i:Int)).key,⟨#[]⟩⟩ w)∧Fr 98 [(0,.pointer (some ⟨A0,0,none⟩)),(3,.slice (some ⟨gt,0,none⟩) L.length L.length),(4,.int .i64 left),(5,v5),(6,.int .i64 (i:Int)),(8,.pointer (some ⟨A8,0,none⟩)),(9,.int .i64 (k:Int)),(10,.int .i64 (left-wK L k)),(23,vs),(24,.int .i64 S.length),(25,.int .i64 (i:Int)),(48,.int .i64 L.length),(49,.int .i64 (k:Int))] a) (sel [1,1,1,1,0,1,4,4,1,1,0,4,1,1,1,0,1,4,4,1,1,0,4,1,1,1,0,1,1,2,0] lbP) (fun a w=>(BeR w0 gt L.length (tk.set k true) v5 out A8 ⟨(geta S (i:Int)).key,(geta L (k:Int)).pl⟩ w)∧Fr 98 [(0,.pointer (some ⟨A0,0,none⟩)),(3,.slice (some ⟨gt,0,none⟩) L.length L.length),(4,.int .i64 (left-wK L k)),(5,v5),(6,.int .i64 (i:Int)),(8,.pointer (some ⟨A8,0,none⟩)),(23,vs),(24,.int .i64 S.length),(25,.int .i64 (i:Int))] a) No 9 No:=by
 refine T3.leaf ?_;rintro Q JS JX JT K hS_ hK hX hE hT hR a w ⟨hW,⟨fr,rfl,q0,q3,q4,q5,q6,q8,q9,q10,q23,q24,q25,q48,q49,_⟩⟩;obtain⟨t8,t9⟩:=hW.fill;have f9:=owns_frozenC hW.b 1;have h1:=h.below hW.a.bel;have b1:=h1.b1;have hR:=h1.c.r;obtain⟨ql,dl,hvl⟩:=hR.shape;subst hvl;obtain⟨bz,off,rfl,_,_,hcell⟩:=Row.nonnil hR (by omega);have t0:=Row.elAt encSc_length hcell (k:=(k:Int)) (by omega) (by omega) 0 _ (by decide) rfl;rw [Int.toNat_natCast,Nat.add_zero]at t0;have HW:=Lib.hid (hW.fput (geta L (k:Int)).pl);obtain⟨q5,d5,hv5⟩:=(Row.of_owns hW.a.o).shape;subst hv5;clear hcell hR h1 hW h hp hI;simp only at t8 t9;generalize (geta L (k:Int)).pl=pl at *;generalize left-wK L k=rest at *;rw [fr_lbP,fe q0,fe q3,fe q4,fe q5,fe q6,fe q8,fe q9,fe q10,fe q23,fe q24,fe q25,fe q48,fe q49];clear q0 q3 q4 q5 q6 q8 q9 q10 q23 q24 q25 q48 q49;conv=>arg 2;whnf
 go_wp2_with fail
 refine Met.intro (hS_ _ _ ?_);exact⟨HW.out,Fr.of _ rfl ⟨rfl,rfl,rfl,rfl,rfl,rfl,rfl,rfl,rfl,trivial⟩⟩
theorem lb18 (h:BoH w0 A0 vs S vl L)(hp:ScP L)(hS:S.length≤4)(hl:L.length≤6)(gt:Nat)(i:Nat)(hi:i<S.length)(tk:List Bool)(v5:Value)(out:List FlD)(left:Int)(hI:BeI S L i tk out left)(A8:Nat)(k:Nat)(hk:k<L.length)(htk:geta tk (k:Int)=false):T3 Tryz.prog (fun a w=>(BeR w0 gt L.length (tk.set k true) v5 out A8 ⟨(geta S (i:Int)).key,⟨#[]⟩⟩ w)∧Fr 98 [(0,.pointer (some ⟨A0,0,none⟩)),(3,.slice (some ⟨gt,0,none⟩) L.length L.length),(4,.int .i64 left),(5,v5),(6,.int .i64 (i:Int)),(8,.pointer (some ⟨A8,0,none⟩)),(9,.int .i64 (k:Int)),(10,.int .i64 (left-wK L k)),(23,vs),(24,.int .i64 S.length),(25,.int .i64 (i:Int)),(48,.int .i64 L.length),(49,.int .i64 (k:Int))] a) (sel [1,1,1,1,0,1,4,4,1,1,0,4,1,1,1,0,1,4,4,1,1,0,4,1,1,1,1] lbP) (fun a w=>(BeR w0 gt L.length tk v5 out A8 ⟨(geta S (i:Int)).key,⟨#[]⟩⟩ w)∧Fr 98 [(0,.pointer (some ⟨A0,0,none⟩)),(3,.slice (some ⟨gt,0,none⟩) L.length L.length),(4,.int .i64 left),(5,v5),(6,.int .i64 (i:Int)),(8,.pointer (some ⟨A8,0,none⟩)),(23,vs),(24,.int .i64 S.length),(25,.int .i64 (i:Int)),(48,.int .i64 L.length),(49,.int .i64 (k:Int))] a) No 9 No:=by
 refine T3.leaf ?_;rintro Q JS JX JT K hS_ hK hX hE hT hR a w ⟨hW,⟨fr,rfl,q0,q3,q4,q5,q6,q8,q9,q10,q23,q24,q25,q48,q49,_⟩⟩;have hkt:k<tk.length:=by have:=hI.tl;omega
 obtain⟨t0,f0⟩:=hW.a.tcell (by rw [List.length_set];exact hI.tl) hk;have hput:=hW.tput hk false;rw [set_back htk hkt]at hput;have HW:=Lib.hid hput;obtain⟨q5,d5,hv5⟩:=(Row.of_owns hW.a.o).shape;subst hv5;clear hput hW h hp hI htk;generalize geta (tk.set k true) (k:Int)=tq at *;rw [fr_lbP,fe q0,fe q3,fe q4,fe q5,fe q6,fe q8,fe q9,fe q10,fe q23,fe q24,fe q25,fe q48,fe q49];clear q0 q3 q4 q5 q6 q8 q9 q10 q23 q24 q25 q48 q49;conv=>arg 2;whnf
 go_wp2_with fail
 refine Met.intro (hS_ _ _ ?_);exact⟨HW.out,Fr.of _ rfl ⟨rfl,rfl,rfl,rfl,rfl,rfl,rfl,rfl,rfl,rfl,rfl,trivial⟩⟩
theorem lb19 (h:BoH w0 A0 vs S vl L)(hp:ScP L)(hS:S.length≤4)(hl:L.length≤6)(gt:Nat)(i:Nat)(hi:i<S.length)(tk:List Bool)(v5:Value)(out:List FlD)(left:Int)(hI:BeI S L i tk out left)(A8:Nat)(k:Nat)(hk:k<L.length):T3 Tryz.prog (fun a w=>(BeR w0 gt L.length tk v5 out A8 ⟨(geta S (i:Int)).key,⟨#[]⟩⟩ w)∧Fr 98 [(0,.pointer (some ⟨A0,0,none⟩)),(3,.slice (some ⟨gt,0,none⟩) L.length L.length),(4,.int .i64 left),(5,v5),(6,.int .i64 (i:Int)),(8,.pointer (some ⟨A8,0,none⟩)),(23,vs),(24,.int .i64 S.length),(25,.int .i64 (i:Int)),(48,.int .i64 L.length),(49,.int .i64 (k:Int))] a) (sel [1,1,1,1,0,1,4,4,1,1,0,4,1,1,1,0,1,4,4,1,1,1] lbP) (fun a w=>(BeR w0 gt L.length tk v5 out A8 ⟨(geta S (i:Int)).key,⟨#[]⟩⟩ w)∧Fr 98 [(0,.pointer (some ⟨A0,0,none⟩)),(3,.slice (some ⟨gt,0,none⟩) L.length L.length),(4,.int .i64 left),(5,v5),(6,.int .i64 (i:Int)),(8,.pointer (some ⟨A8,0,none⟩)),(23,vs),(24,.int .i64 S.length),(25,.int .i64 (i:Int)),(48,.int .i64 L.length),(49,.int .i64 ((k+1:Nat):Int))] a) No 9 No:=by
 refine T3.leaf ?_;rintro Q JS JX JT K hS_ hK hX hE hT hR a w ⟨hW,⟨fr,rfl,q0,q3,q4,q5,q6,q8,q23,q24,q25,q48,q49,_⟩⟩;have hk9:k<100:=by omega
 have HW:=Lib.hid hW;obtain⟨q5,d5,hv5⟩:=(Row.of_owns hW.a.o).shape;subst hv5;clear hW h hp hI;have HQ:=Lib.hid (show(k:Int)+1=((k+1:Nat):Int)by omega);generalize ((k+1:Nat):Int)=k1 at *;rw [fr_lbP,fe q0,fe q3,fe q4,fe q5,fe q6,fe q8,fe q23,fe q24,fe q25,fe q48,fe q49];clear q0 q3 q4 q5 q6 q8 q23 q24 q25 q48 q49;conv=>arg 2;whnf
 go_wp2_with fail
 rw [HQ.out];refine Met.intro (hS_ _ _ ?_);exact⟨HW.out,Fr.of _ rfl ⟨rfl,rfl,rfl,rfl,rfl,rfl,rfl,rfl,rfl,rfl,rfl,trivial⟩⟩
theorem lbD (h:BoH w0 A0 vs S vl L)(hp:ScP L)(hS:S.length≤4)(hl:L.length≤6)(gt:Nat)(i:Nat)(hi:i<S.length)(tk:List Bool)(v5:Value)(out:List FlD)(left:Int)(hI:BeI S L i tk out left)(A8:Nat)(k:Nat)(hk:k<L.length)(hn:∀j,j<k→grP S L (S.length-(i+1)) i (gU tk) left j=false):T3 Tryz.prog (fun a w=>(BeR w0 gt L.length tk v5 out A8 ⟨(geta S (i:Int)).key,⟨#[]⟩⟩ w)∧Fr 98 [(0,.pointer (some ⟨A0,0,none⟩)),(3,.slice (some ⟨gt,0,none⟩) L.length L.length),(4,.int .i64 left),(5,v5),(6,.int .i64 (i:Int)),(8,.pointer (some ⟨A8,0,none⟩)),(23,vs),(24,.int .i64 S.length),(25,.int .i64 (i:Int)),(48,.int .i64 L.length),(49,.int .i64 (k:Int))] a) (sel [1,1,1,1,0,1,4,4,1,1,0,4,1,1,1,0,1,4,4,1,1,0] lbP) (fun a w=>(grP S L (S.length-(i+1)) i (gU tk) left k=false)∧(BeR w0 gt L.length tk v5 out A8 ⟨(geta S (i:Int)).key,⟨#[]⟩⟩ w)∧Fr 98 [(0,.pointer (some ⟨A0,0,none⟩)),(3,.slice (some ⟨gt,0,none⟩) L.length L.length),(4,.int .i64 left),(5,v5),(6,.int .i64 (i:Int)),(8,.pointer (some ⟨A8,0,none⟩)),(23,vs),(24,.int .i64 S.length),(25,.int .i64 (i:Int)),(48,.int .i64 L.length),(49,.int .i64 (k:Int))] a) (fun a w=>∃k:Nat,(firstK (grP S L (S.length-(i+1)) i (gU tk) left) L.length 0=some k)∧(BeR w0 gt L.length (tk.set k true) v5 out A8 ⟨(geta S (i:Int)).key,(geta L (k:Int)).pl⟩ w)∧Fr 98 [(0,.pointer (some ⟨A0,0,none⟩)),(3,.slice (some ⟨gt,0,none⟩) L.length L.length),(4,.int .i64 (left-wK L k)),(5,v5),(6,.int .i64 (i:Int)),(8,.pointer (some ⟨A8,0,none⟩)),(23,vs),(24,.int .i64 S.length),(25,.int .i64 (i:Int))] a) 2 No:=by
 refine T3.blockTwo (id:=3) (a:=(sel [1,1,1,1,0,1,4,4,1,1,0,4,1,1,1,0,1,4,4,1,1,0,4,0] lbP)) (b:=(sel [1,1,1,1,0,1,4,4,1,1,0,4,1,1,1,0,1,4,4,1,1,0,4,1,0] lbP)) (c:=(sel [1,1,1,1,0,1,4,4,1,1,0,4,1,1,1,0,1,4,4,1,1,0,4,1,1] lbP)) (S1:=fun a w=>(geta tk (k:Int)=false∧fitK S L k i=true)∧(BeR w0 gt L.length tk v5 out A8 ⟨(geta S (i:Int)).key,⟨#[]⟩⟩ w)∧Fr 98 [(0,.pointer (some ⟨A0,0,none⟩)),(3,.slice (some ⟨gt,0,none⟩) L.length L.length),(4,.int .i64 left),(5,v5),(6,.int .i64 (i:Int)),(8,.pointer (some ⟨A8,0,none⟩)),(9,.int .i64 (k:Int)),(23,vs),(24,.int .i64 S.length),(25,.int .i64 (i:Int)),(48,.int .i64 L.length),(49,.int .i64 (k:Int))] a) (by decide) ((lb12 A0 vl vs S L w0 h hp hS hl gt i hi tk v5 out left hI A8 k hk).noX) ?_ (T3.pure fun hh=>?_)
 ·refine T3.test (s:=(sel [1,1,1,1,0,1,4,4,1,1,0,4,1,1,1,0,1,4,4,1,1,0,4,1,0,0] lbP)) (x:=.exit 3) (y:=.skip) (C:=fun q=>(q=(geta tk (k:Int) || !fitK S L k i))) (W:=fun w=>BeR w0 gt L.length tk v5 out A8 ⟨(geta S (i:Int)).key,⟨#[]⟩⟩ w) (by decide) ((lb13 A0 vl vs S L w0 h hp hS hl gt i hi tk v5 out left hI A8 k hk).noX) (T3.exit ?_) (T3.skip ?_)
  ·rintro a w ⟨hF,hq,hW⟩;refine⟨?_,hW,hF.sub (by simp)⟩;show(!geta tk (k:Int)&&(fitK S L k i&&_))=false
   revert hq
   cases geta tk (k:Int) <;> cases fitK S L k i <;> intro hq <;> first|rfl|cases hq
  ·rintro a w ⟨hq,hW,hF⟩;refine⟨?_,hW,hF⟩
   revert hq
   cases geta tk (k:Int) <;> cases fitK S L k i <;> intro hq <;> first|exact⟨rfl,rfl⟩|cases hq
 ·have hkt:k<tk.length:=by have:=hI.tl;omega
  have hg:gU tk k=false:=hh.1;have hgs:=gU_set hkt;refine T3.seq (s:=(sel [1,1,1,1,0,1,4,4,1,1,0,4,1,1,1,0,1,4,4,1,1,0,4,1,1,0] lbP)) (c:=(sel [1,1,1,1,0,1,4,4,1,1,0,4,1,1,1,0,1,4,4,1,1,0,4,1,1,1] lbP)) ((lb14 A0 vl vs S L w0 h hp hS hl gt i hi tk v5 out left hI A8 k hk).noX) ?_;refine T3.seq (s:=(sel [1,1,1,1,0,1,4,4,1,1,0,4,1,1,1,0,1,4,4,1,1,0,4,1,1,1,0] lbP)) (c:=(sel [1,1,1,1,0,1,4,4,1,1,0,4,1,1,1,0,1,4,4,1,1,0,4,1,1,1,1] lbP)) (S:=fun a w=>(grP S L (S.length-(i+1)) i (gU tk) left k=false)∧(BeR w0 gt L.length (tk.set k true) v5 out A8 ⟨(geta S (i:Int)).key,⟨#[]⟩⟩ w)∧Fr 98 [(0,.pointer (some ⟨A0,0,none⟩)),(3,.slice (some ⟨gt,0,none⟩) L.length L.length),(4,.int .i64 left),(5,v5),(6,.int .i64 (i:Int)),(8,.pointer (some ⟨A8,0,none⟩)),(9,.int .i64 (k:Int)),(10,.int .i64 (left-wK L k)),(23,vs),(24,.int .i64 S.length),(25,.int .i64 (i:Int)),(48,.int .i64 L.length),(49,.int .i64 (k:Int))] a) (T3.seq (s:=(sel [1,1,1,1,0,1,4,4,1,1,0,4,1,1,1,0,1,4,4,1,1,0,4,1,1,1,0,0] lbP)) (c:=(sel [1,1,1,1,0,1,4,4,1,1,0,4,1,1,1,0,1,4,4,1,1,0,4,1,1,1,0,1] lbP)) ((lb15 A0 vl vs S L w0 h hp hS hl gt i hi tk v5 out left hI A8 k hk).noX) ?_) (T3.pure fun hf=>?_)
  ·refine T3.test (s:=(sel [1,1,1,1,0,1,4,4,1,1,0,4,1,1,1,0,1,4,4,1,1,0,4,1,1,1,0,1,0] lbP)) (x:=(sel [1,1,1,1,0,1,4,4,1,1,0,4,1,1,1,0,1,4,4,1,1,0,4,1,1,1,0,1,1,2] lbP)) (y:=.skip) (C:=fun q=>(q=decide (slV S L (S.length-(i+1)) (i+1) (gU (tk.set k true))=left-wK L k))) (W:=fun w=>BeR w0 gt L.length (tk.set k true) v5 out A8 ⟨(geta S (i:Int)).key,⟨#[]⟩⟩ w) (by decide) ((lb16 A0 vl vs S L w0 h hp hS hl gt i hi tk v5 out left hI A8 k hk).noX) ?_ (T3.skip ?_)
   ·refine T3.seq (s:=(sel [1,1,1,1,0,1,4,4,1,1,0,4,1,1,1,0,1,4,4,1,1,0,4,1,1,1,0,1,1,2,0] lbP)) (c:=.exit 2) (S:=fun a w=>(grP S L (S.length-(i+1)) i (gU tk) left k=true)∧(BeR w0 gt L.length (tk.set k true) v5 out A8 ⟨(geta S (i:Int)).key,(geta L (k:Int)).pl⟩ w)∧Fr 98 [(0,.pointer (some ⟨A0,0,none⟩)),(3,.slice (some ⟨gt,0,none⟩) L.length L.length),(4,.int .i64 (left-wK L k)),(5,v5),(6,.int .i64 (i:Int)),(8,.pointer (some ⟨A8,0,none⟩)),(23,vs),(24,.int .i64 S.length),(25,.int .i64 (i:Int))] a) (T3.pre (R:=fun a w=>(grP S L (S.length-(i+1)) i (gU tk) left k=true)∧(BeR w0 gt L.length (tk.set k true) v5 out A8 ⟨(geta S (i:Int)).key,⟨#[]⟩⟩ w)∧Fr 98 [(0,.pointer (some ⟨A0,0,none⟩)),(3,.slice (some ⟨gt,0,none⟩) L.length L.length),(4,.int .i64 left),(5,v5),(6,.int .i64 (i:Int)),(8,.pointer (some ⟨A8,0,none⟩)),(9,.int .i64 (k:Int)),(10,.int .i64 (left-wK L k)),(23,vs),(24,.int .i64 S.length),(25,.int .i64 (i:Int)),(48,.int .i64 L.length),(49,.int .i64 (k:Int))] a) (T3.pure fun hp1=>((lb17 A0 vl vs S L w0 h hp hS hl gt i hi tk v5 out left hI A8 k hk).noX).post (fun a w q=>⟨hp1,q⟩)) ?_) (T3.exit ?_)
    ·rintro a w ⟨hF,hq,hW⟩;refine⟨?_,hW,hF.tail⟩;have hd:=of_decide_eq_true hq.symm;rw [hgs]at hd;unfold grP;rw [hg,hh.2,decide_eq_true hd];rfl
    ·rintro a w ⟨hp1,q⟩;exact⟨k,BeI.hit hk hn hp1,q⟩
   ·rintro a w ⟨hq,hW,hF⟩;refine⟨?_,hW,hF⟩;rw [hgs]at hq;unfold grP;rw [hg,hh.2,←hq];rfl
  ·exact((lb18 A0 vl vs S L w0 h hp hS hl gt i hi tk v5 out left hI A8 k hk hh.1).noX).post (fun a w q=>⟨hf,q⟩)
theorem lbK (h:BoH w0 A0 vs S vl L)(hp:ScP L)(hS:S.length≤4)(hl:L.length≤6)(gt:Nat)(i:Nat)(hi:i<S.length)(tk:List Bool)(v5:Value)(out:List FlD)(left:Int)(hI:BeI S L i tk out left)(A8:Nat)(hne:slV S L (S.length-(i+1)) (i+1) (gU tk)≠left):T3 Tryz.prog (fun a w=>(BeR w0 gt L.length tk v5 out A8 ⟨(geta S (i:Int)).key,⟨#[]⟩⟩ w)∧Fr 98 [(0,.pointer (some ⟨A0,0,none⟩)),(3,.slice (some ⟨gt,0,none⟩) L.length L.length),(4,.int .i64 left),(5,v5),(6,.int .i64 (i:Int)),(8,.pointer (some ⟨A8,0,none⟩)),(23,vs),(24,.int .i64 S.length),(25,.int .i64 (i:Int)),(48,.int .i64 L.length),(49,.int .i64 0)] a) (sel [1,1,1,1,0,1,4,4,1,1,0,4,1,1,1,0,1] lbP) (fun a w=>∃k:Nat,(firstK (grP S L (S.length-(i+1)) i (gU tk) left) L.length 0=some k)∧(BeR w0 gt L.length (tk.set k true) v5 out A8 ⟨(geta S (i:Int)).key,(geta L (k:Int)).pl⟩ w)∧Fr 98 [(0,.pointer (some ⟨A0,0,none⟩)),(3,.slice (some ⟨gt,0,none⟩) L.length L.length),(4,.int .i64 (left-wK L k)),(5,v5),(6,.int .i64 (i:Int)),(8,.pointer (some ⟨A8,0,none⟩)),(23,vs),(24,.int .i64 S.length),(25,.int .i64 (i:Int))] a) No 9 No:=by
 refine T3.loop (c:=(sel [1,1,1,1,0,1,4,4,1,1,0,4,1,1,1,0,1,4,4] lbP)) (fun ng_ a w=>∃k:Nat,(ng_+k=L.length∧∀j,j<k→grP S L (S.length-(i+1)) i (gU tk) left j=false)∧(BeR w0 gt L.length tk v5 out A8 ⟨(geta S (i:Int)).key,⟨#[]⟩⟩ w)∧Fr 98 [(0,.pointer (some ⟨A0,0,none⟩)),(3,.slice (some ⟨gt,0,none⟩) L.length L.length),(4,.int .i64 left),(5,v5),(6,.int .i64 (i:Int)),(8,.pointer (some ⟨A8,0,none⟩)),(23,vs),(24,.int .i64 S.length),(25,.int .i64 (i:Int)),(48,.int .i64 L.length),(49,.int .i64 (k:Int))] a) (fun a w h=>⟨L.length,0,⟨by omega,fun j hj=>by omega⟩,h⟩) (fun ng_=>T3.ex fun k=>T3.pure fun hK_=>?_);have hkl:k≤L.length:=by have:=hK_.1;omega
 refine T3.seq (s:=(sel [1,1,1,1,0,1,4,4,1,1,0,4,1,1,1,0,1,4,4,0] lbP)) (c:=(sel [1,1,1,1,0,1,4,4,1,1,0,4,1,1,1,0,1,4,4,1] lbP)) ((lb11 A0 vl vs S L w0 h hp hS hl gt i hi tk v5 out left hI A8 k hkl).noX) ?_;refine T3.seq (s:=(sel [1,1,1,1,0,1,4,4,1,1,0,4,1,1,1,0,1,4,4,1,0] lbP)) (c:=(sel [1,1,1,1,0,1,4,4,1,1,0,4,1,1,1,0,1,4,4,1,1] lbP)) (S:=fun a w=>(k<L.length)∧(BeR w0 gt L.length tk v5 out A8 ⟨(geta S (i:Int)).key,⟨#[]⟩⟩ w)∧Fr 98 [(0,.pointer (some ⟨A0,0,none⟩)),(3,.slice (some ⟨gt,0,none⟩) L.length L.length),(4,.int .i64 left),(5,v5),(6,.int .i64 (i:Int)),(8,.pointer (some ⟨A8,0,none⟩)),(23,vs),(24,.int .i64 S.length),(25,.int .i64 (i:Int)),(48,.int .i64 L.length),(49,.int .i64 (k:Int))] a) ?_ (T3.pure fun hk=>T3.seq (s:=(sel [1,1,1,1,0,1,4,4,1,1,0,4,1,1,1,0,1,4,4,1,1,0] lbP)) (c:=(sel [1,1,1,1,0,1,4,4,1,1,0,4,1,1,1,0,1,4,4,1,1,1] lbP)) (lbD A0 vl vs S L w0 h hp hS hl gt i hi tk v5 out left hI A8 k hk hK_.2) (T3.pure fun hf=>?_))
 ·refine T3.cond (o:=.tmp 50) (x:=.skip) (y:=.exit 2) (fun a w=>k<L.length∧(BeR w0 gt L.length tk v5 out A8 ⟨(geta S (i:Int)).key,⟨#[]⟩⟩ w)∧Fr 98 [(0,.pointer (some ⟨A0,0,none⟩)),(3,.slice (some ⟨gt,0,none⟩) L.length L.length),(4,.int .i64 left),(5,v5),(6,.int .i64 (i:Int)),(8,.pointer (some ⟨A8,0,none⟩)),(23,vs),(24,.int .i64 S.length),(25,.int .i64 (i:Int)),(48,.int .i64 L.length),(49,.int .i64 (k:Int))] a) (fun a w=>¬k<L.length∧(BeR w0 gt L.length tk v5 out A8 ⟨(geta S (i:Int)).key,⟨#[]⟩⟩ w)∧Fr 98 [(0,.pointer (some ⟨A0,0,none⟩)),(3,.slice (some ⟨gt,0,none⟩) L.length L.length),(4,.int .i64 left),(5,v5),(6,.int .i64 (i:Int)),(8,.pointer (some ⟨A8,0,none⟩)),(23,vs),(24,.int .i64 S.length),(25,.int .i64 (i:Int)),(48,.int .i64 L.length),(49,.int .i64 (k:Int))] a) ?_ (T3.skip fun _ _ q=>q) (T3.exit ?_)
  ·rintro a w ⟨q,hF,hq,hW⟩;have he:=hF.eval 50 (by decide) (v:=.bool q) (by simp)
   by_cases hlt:k<L.length
   ·exact .inl ⟨by rw [he,hq];simp [hlt],hlt,hW,hF.tail⟩
   ·exact .inr ⟨by rw [he,hq];simp [hlt],hlt,hW,hF.tail⟩
  ·rintro a w ⟨hlt,hW,hF⟩;exact(hI.found hi hne (fun j hj=>hK_.2 j (by omega))).elim
 ·exact((lb19 A0 vl vs S L w0 h hp hS hl gt i hi tk v5 out left hI A8 k hk).noX).post (fun a w q=>⟨ng_-1,by omega,k+1,⟨by omega,fun j hj=>by
   by_cases e:j=k
   ·subst e;exact hf
   ·exact hK_.2 j (by omega)⟩,q⟩)
theorem lbR (h:BoH w0 A0 vs S vl L)(hp:ScP L)(hS:S.length≤4)(hl:L.length≤6)(gt:Nat)(i:Nat)(hi:i<S.length)(tk:List Bool)(v5:Value)(out:List FlD)(left:Int)(hI:BeI S L i tk out left):T3 Tryz.prog (fun a w=>(BeW w0 gt L.length tk v5 out w)∧Fr 98 [(0,.pointer (some ⟨A0,0,none⟩)),(3,.slice (some ⟨gt,0,none⟩) L.length L.length),(4,.int .i64 left),(5,v5),(23,vs),(24,.int .i64 S.length),(25,.int .i64 (i:Int))] a) (sel [1,1,1,1,0,1,4,4,1,1,0] lbP) (fun a w=>∃(tk:List Bool) (v5:Value) (out:List FlD) (left:Int),(BeI S L (i+1) tk out left)∧(BeW w0 gt L.length tk v5 out w)∧Fr 98 [(0,.pointer (some ⟨A0,0,none⟩)),(3,.slice (some ⟨gt,0,none⟩) L.length L.length),(4,.int .i64 left),(5,v5),(23,vs),(24,.int .i64 S.length),(25,.int .i64 (i:Int))] a) No 9 No:=by
 have hol:out.length≤100:=by have:=hI.ol;omega
 refine T3.blockX (id:=1) (c:=(sel [1,1,1,1,0,1,4,4,1,1,0,4] lbP)) ?_;refine T3.seq (s:=(sel [1,1,1,1,0,1,4,4,1,1,0,4,0] lbP)) (c:=(sel [1,1,1,1,0,1,4,4,1,1,0,4,1] lbP)) ((lb6 A0 vl vs S L w0 h hp hS hl gt i hi tk v5 out left hI).noX) (T3.ex fun A7=>?_);refine T3.seq (s:=(sel [1,1,1,1,0,1,4,4,1,1,0,4,1,0] lbP)) (c:=(sel [1,1,1,1,0,1,4,4,1,1,0,4,1,1] lbP)) ((lb7 A0 vl vs S L w0 h hp hS hl gt i hi tk v5 out left hI A7).noX) (T3.ex fun A8=>?_);refine T3.seq (s:=(sel [1,1,1,1,0,1,4,4,1,1,0,4,1,1,0] lbP)) (c:=(sel [1,1,1,1,0,1,4,4,1,1,0,4,1,1,1] lbP)) (S:=fun a w=>(slV S L (S.length-(i+1)) (i+1) (gU tk)≠left)∧(BeR w0 gt L.length tk v5 out A8 ⟨(geta S (i:Int)).key,⟨#[]⟩⟩ w)∧Fr 98 [(0,.pointer (some ⟨A0,0,none⟩)),(3,.slice (some ⟨gt,0,none⟩) L.length L.length),(4,.int .i64 left),(5,v5),(6,.int .i64 (i:Int)),(8,.pointer (some ⟨A8,0,none⟩)),(23,vs),(24,.int .i64 S.length),(25,.int .i64 (i:Int))] a) ?_ (T3.pure fun hne=>?_)
 ·refine T3.test (s:=(sel [1,1,1,1,0,1,4,4,1,1,0,4,1,1,0,0] lbP)) (x:=(sel [1,1,1,1,0,1,4,4,1,1,0,4,1,1,0,1,2] lbP)) (y:=.skip) (C:=fun q=>(q=decide (slV S L (S.length-(i+1)) (i+1) (gU tk)=left))) (W:=fun w=>BeR w0 gt L.length tk v5 out A8 ⟨(geta S (i:Int)).key,⟨#[]⟩⟩ w) (by decide) ((lb8 A0 vl vs S L w0 h hp hS hl gt i hi tk v5 out left hI A8).noX) ?_ (T3.skip ?_)
  ·refine T3.pre (R:=fun a w=>(slV S L (S.length-(i+1)) (i+1) (gU tk)=left)∧(BeR w0 gt L.length tk v5 out A8 ⟨(geta S (i:Int)).key,⟨#[]⟩⟩ w)∧Fr 98 [(0,.pointer (some ⟨A0,0,none⟩)),(3,.slice (some ⟨gt,0,none⟩) L.length L.length),(4,.int .i64 left),(5,v5),(6,.int .i64 (i:Int)),(8,.pointer (some ⟨A8,0,none⟩)),(23,vs),(24,.int .i64 S.length),(25,.int .i64 (i:Int))] a) (T3.pure fun he=>?_) (fun a w ⟨hF,hq,hW⟩=>⟨of_decide_eq_true hq.symm,hW,hF.tail⟩);refine T3.seq (s:=(sel [1,1,1,1,0,1,4,4,1,1,0,4,1,1,0,1,2,0] lbP)) (c:=.exit 1) ((lb9 A0 vl vs S L w0 h hp hS hl gt i tk v5 out left A8 ⟨(geta S (i:Int)).key,⟨#[]⟩⟩ hol).noX) (T3.exit ?_);rintro a w ⟨v5',hW,hF⟩;exact⟨tk,v5',_,left,hI.none hi he,hW,hF⟩
  ·rintro a w ⟨hq,hW,hF⟩;exact⟨of_decide_eq_false hq.symm,hW,hF⟩
 ·refine T3.seq (s:=(sel [1,1,1,1,0,1,4,4,1,1,0,4,1,1,1,0] lbP)) (c:=(sel [1,1,1,1,0,1,4,4,1,1,0,4,1,1,1,1] lbP)) ((T3.seq (s:=(sel [1,1,1,1,0,1,4,4,1,1,0,4,1,1,1,0,0] lbP)) (c:=(sel [1,1,1,1,0,1,4,4,1,1,0,4,1,1,1,0,1] lbP)) (lb10 A0 vl vs S L w0 h hp hS hl gt i hi tk v5 out left hI A8) (lbK A0 vl vs S L w0 h hp hS hl gt i hi tk v5 out left hI A8 hne)).noX) (T3.ex fun k=>T3.pure fun hk=>?_);refine((lb20 A0 vl vs S L w0 h hp hS hl gt i (tk.set k true) v5 out (left-wK L k) A8 ⟨(geta S (i:Int)).key,(geta L (k:Int)).pl⟩ hol).noX).post ?_;rintro a w ⟨v5',hW,hF⟩;exact⟨_,v5',_,_,hI.some hi hne hk,hW,hF⟩
theorem lbb (h:BoH w0 A0 vs S vl L)(hp:ScP L)(hS:S.length≤4)(hl:L.length≤6)(gt:Nat)(k:Int):T3 Tryz.prog (fun a w=>∃(tk:List Bool) (v5:Value) (out:List FlD) (left:Int),((0≤k∧k<S.length)∧BeI S L (k:Int).toNat tk out left)∧(BeW w0 gt L.length tk v5 out w)∧Fr 98 [(0,.pointer (some ⟨A0,0,none⟩)),(3,.slice (some ⟨gt,0,none⟩) L.length L.length),(4,.int .i64 left),(5,v5),(23,vs),(24,.int .i64 S.length),(25,.int .i64 k)] a) (sel [1,1,1,1,0,1,4,4,1,1,0] lbP) (fun a w=>∃(tk:List Bool) (v5:Value) (out:List FlD) (left:Int),((0≤k∧k<S.length)∧BeI S L (k+1:Int).toNat tk out left)∧(BeW w0 gt L.length tk v5 out w)∧Fr 98 [(0,.pointer (some ⟨A0,0,none⟩)),(3,.slice (some ⟨gt,0,none⟩) L.length L.length),(4,.int .i64 left),(5,v5),(23,vs),(24,.int .i64 S.length),(25,.int .i64 k)] a) No 9 No:=by
 refine T3.ex fun tk=>T3.ex fun v5=>T3.ex fun out=>T3.ex fun left=>T3.pure fun hh=>?_
 obtain⟨i,rfl⟩:=Int.eq_ofNat_of_zero_le hh.1.1;have hI:=hh.2;rw [Int.toNat_natCast]at hI;refine(lbR A0 vl vs S L w0 h hp hS hl gt i (by omega) tk v5 out left hI).post ?_;rintro a w ⟨tk2,v2,out2,left2,hI2,hW,hF⟩;exact⟨tk2,v2,out2,left2,⟨hh.1,by rw [show((i:Int)+1).toNat=i+1 by omega];exact hI2⟩,hW,hF⟩
end
def lbAI (A0:Nat)(vl vs:Value)(S:List SlD)(L:List ScD)(w0:World)(h:BoH w0 A0 vs S vl L)(hp:ScP L)(hS:S.length≤4)(hl:L.length≤6)(gt:Nat)(k:Int)(a:Act)(w:World):Prop:=(0≤k∧k≤S.length)∧∃(tk:List Bool) (v5:Value) (out:List FlD) (left:Int),(BeI S L (k:Int).toNat tk out left)∧(BeW w0 gt L.length tk v5 out w)∧Fr 98 [(0,.pointer (some ⟨A0,0,none⟩)),(3,.slice (some ⟨gt,0,none⟩) L.length L.length),(4,.int .i64 left),(5,v5),(23,vs),(24,.int .i64 S.length),(25,.int .i64 k)] a
section
variable (A0:Nat)(vl vs:Value)(S:List SlD)(L:List ScD)(w0:World)(h:BoH w0 A0 vs S vl L)(hp:ScP L)(hS:S.length≤4)(hl:L.length≤6)(gt:Nat)
theorem lbAt (k:Int):T3 Tryz.prog (fun a w=>lbAI A0 vl vs S L w0 h hp hS hl gt k a w) (sel [1,1,1,1,0,1,4,4,0] lbP) (fun a w=>∃q,Fr 98 ((26,.bool q)::[(25,.int .i64 k)]) a∧((q=true↔k<S.length)∧lbAI A0 vl vs S L w0 h hp hS hl gt k a w)) No 9 No:=by
 refine T3.leaf ?_;rintro Q JS JX JT K hS_ hK hX hE hT hR a w ⟨hk,tk,v5,out,left,hpre,hW,⟨fr,rfl,q0,q3,q4,q5,q23,q24,q25,_⟩⟩;rw [fr_lbP,fe q0,fe q3,fe q4,fe q5,fe q23,fe q24,fe q25];clear q0 q3 q4 q5 q23 q24 q25;conv=>arg 2;whnf
 by_cases hlt:k<S.length
 ·go_wp2_with fail
  refine Met.intro (hS_ _ _ ?_);exact⟨true,Fr.of _ rfl ⟨rfl,rfl,trivial⟩,⟨fun _=>hlt,fun _=>rfl⟩,hk,tk,v5,out,left,hpre,hW,Fr.of _ rfl ⟨rfl,rfl,rfl,rfl,rfl,rfl,rfl,trivial⟩⟩
 ·have hpb:decide (k<(S.length:Int))=false:=by simp;omega
  go_wp2_with fail
  refine Met.intro (hS_ _ _ ?_);exact⟨false,Fr.of _ rfl ⟨rfl,rfl,trivial⟩,⟨(fun h=>by cases h),fun h=>absurd h (by omega)⟩,hk,tk,v5,out,left,hpre,hW,Fr.of _ rfl ⟨rfl,rfl,rfl,rfl,rfl,rfl,rfl,trivial⟩⟩
theorem lbAn (k:Int):T3 Tryz.prog (fun a w=>(0≤k∧k<S.length)∧∃(tk:List Bool) (v5:Value) (out:List FlD) (left:Int),(BeI S L ((k+1):Int).toNat tk out left)∧(BeW w0 gt L.length tk v5 out w)∧Fr 98 [(0,.pointer (some ⟨A0,0,none⟩)),(3,.slice (some ⟨gt,0,none⟩) L.length L.length),(4,.int .i64 left),(5,v5),(23,vs),(24,.int .i64 S.length),(25,.int .i64 k)] a) (sel [1,1,1,1,0,1,4,4,1,1,1] lbP) (fun a w=>lbAI A0 vl vs S L w0 h hp hS hl gt (k+1) a w) No 9 No:=by
 refine T3.leaf ?_;rintro Q JS JX JT K hS_ hK hX hE hT hR a w ⟨hk,tk,v5,out,left,hpre,hW,⟨fr,rfl,q0,q3,q4,q5,q23,q24,q25,_⟩⟩;obtain⟨hk0,hk1⟩:=hk;rw [fr_lbP,fe q0,fe q3,fe q4,fe q5,fe q23,fe q24,fe q25];clear q0 q3 q4 q5 q23 q24 q25;conv=>arg 2;whnf
 go_wp2_with fail
 refine Met.intro (hS_ _ _ ?_);exact⟨⟨by omega,by omega⟩,tk,v5,out,left,hpre,hW,Fr.of _ rfl ⟨rfl,rfl,rfl,rfl,rfl,rfl,rfl,trivial⟩⟩
theorem lbAloop:T3 Tryz.prog (fun a w=>lbAI A0 vl vs S L w0 h hp hS hl gt 0 a w) (sel [1,1,1,1,0,1] lbP) (fun a w=>∃(v5:Value),(Below w0.heap.size w0 w∧w.ownsRow w0.heap.size 49 2 v5 (bestF S L).length (cellsOf encFl (bestF S L)))∧Fr 98 [(5,v5)] a) No 9 No:=by
 refine T3.loop (c:=(sel [1,1,1,1,0,1,4,4] lbP)) (fun ng_ a w=>∃k:Int,(ng_:Int)=S.length-k∧lbAI A0 vl vs S L w0 h hp hS hl gt k a w) (fun a w h=>⟨(S.length:Int).toNat,0,by have:=h.1.2;omega,h⟩) (fun ng_=>T3.ex fun k=>T3.pure fun hng_=>?_);refine T3.seq (s:=(sel [1,1,1,1,0,1,4,4,0] lbP)) (c:=(sel [1,1,1,1,0,1,4,4,1] lbP)) ((lbAt A0 vl vs S L w0 h hp hS hl gt k).noX) ?_;refine T3.seq (s:=(sel [1,1,1,1,0,1,4,4,1,0] lbP)) (c:=(sel [1,1,1,1,0,1,4,4,1,1] lbP)) (S:=fun a w=>(0≤k∧k<S.length)∧∃(tk:List Bool) (v5:Value) (out:List FlD) (left:Int),(BeI S L (k:Int).toNat tk out left)∧(BeW w0 gt L.length tk v5 out w)∧Fr 98 [(0,.pointer (some ⟨A0,0,none⟩)),(3,.slice (some ⟨gt,0,none⟩) L.length L.length),(4,.int .i64 left),(5,v5),(23,vs),(24,.int .i64 S.length),(25,.int .i64 k)] a) ?_ (T3.seq (s:=(sel [1,1,1,1,0,1,4,4,1,1,0] lbP)) (c:=(sel [1,1,1,1,0,1,4,4,1,1,1] lbP)) (S:=fun a w=>(0≤k∧k<S.length)∧∃(tk:List Bool) (v5:Value) (out:List FlD) (left:Int),(BeI S L ((k+1):Int).toNat tk out left)∧(BeW w0 gt L.length tk v5 out w)∧Fr 98 [(0,.pointer (some ⟨A0,0,none⟩)),(3,.slice (some ⟨gt,0,none⟩) L.length L.length),(4,.int .i64 left),(5,v5),(23,vs),(24,.int .i64 S.length),(25,.int .i64 k)] a) (T3.noX (T3.mono (R':=fun a w=>(0≤k∧k<S.length)∧∃(tk:List Bool) (v5:Value) (out:List FlD) (left:Int),(BeI S L (k:Int).toNat tk out left)∧(BeW w0 gt L.length tk v5 out w)∧Fr 98 [(0,.pointer (some ⟨A0,0,none⟩)),(3,.slice (some ⟨gt,0,none⟩) L.length L.length),(4,.int .i64 left),(5,v5),(23,vs),(24,.int .i64 S.length),(25,.int .i64 k)] a) (S':=fun a w=>(0≤k∧k<S.length)∧∃(tk:List Bool) (v5:Value) (out:List FlD) (left:Int),(BeI S L ((k+1):Int).toNat tk out left)∧(BeW w0 gt L.length tk v5 out w)∧Fr 98 [(0,.pointer (some ⟨A0,0,none⟩)),(3,.slice (some ⟨gt,0,none⟩) L.length L.length),(4,.int .i64 left),(5,v5),(23,vs),(24,.int .i64 S.length),(25,.int .i64 k)] a) (lbb A0 vl vs S L w0 h hp hS hl gt k) (fun a w ⟨hk,tk,v5,out,left,hp,hI⟩=>⟨tk,v5,out,left,⟨hk,hp⟩,hI⟩) (fun a w ⟨tk,v5,out,left,⟨hk,hp⟩,hI⟩=>⟨hk,tk,v5,out,left,hp,hI⟩) (fun _ _ q=>q) (fun _ _ q=>q))) ?_)
 ·refine T3.cond (o:=.tmp 26) (x:=.skip) (y:=.exit 0) (fun a w=>k<S.length∧lbAI A0 vl vs S L w0 h hp hS hl gt k a w) (fun a w=>¬k<S.length∧lbAI A0 vl vs S L w0 h hp hS hl gt k a w) ?_ (T3.skip ?_) (T3.exit ?_)
  ·rintro a w ⟨q,hF,hq,hI⟩;have he:=hF.eval 26 (by decide) (v:=.bool q) (by simp);cases q
   ·exact .inr ⟨he,(fun h=>by have:=hq.2 h;cases this),hI⟩
   ·exact .inl ⟨he,hq.1 rfl,hI⟩
  ·rintro a w ⟨hlt,hk,hI⟩;exact⟨⟨hk.1,hlt⟩,hI⟩
  ·rintro a w ⟨hlt,hk,hI⟩;obtain rfl:k=S.length:=by omega
   obtain⟨tk,v5,out,left,hI,hW,hF⟩:=hI;rw [Int.toNat_natCast]at hI;have hg:=hI.gr;rw [Nat.sub_self,show grF S L 0 S.length (gU tk)=[]from rfl,show fillsOf S L S.length []=[]from rfl,List.append_nil]at hg;rw [hg];exact⟨v5,⟨hW.bel,hW.o⟩,hF.sub (by simp)⟩
 ·intro a w hx;have hk:=hx.1;exact(((lbAn A0 vl vs S L w0 h hp hS hl gt k).noX).post (fun a w q=>⟨ng_-1,by omega,k+1,by omega,q⟩)) a w hx
end
section
variable (A0:Nat)(vl vs:Value)(S:List SlD)(L:List ScD)(w0:World)
theorem lb22 (h:BoH w0 A0 vs S vl L)(hp:ScP L)(hS:S.length≤4)(hl:L.length≤6)(v5:Value):T3 Tryz.prog (fun a w=>(Below w0.heap.size w0 w∧w.ownsRow w0.heap.size 49 2 v5 (bestF S L).length (cellsOf encFl (bestF S L)))∧Fr 98 [(5,v5)] a) (sel [1,1,1,1,1,0] lbP) (fun a w=>(Below w0.heap.size w0 w∧w.ownsRow w0.heap.size 49 2 v5 (bestF S L).length (cellsOf encFl (bestF S L)))∧Fr 98 [(2,v5)] a) No 9 No:=by
 refine T3.leaf ?_;rintro Q JS JX JT K hS_ hK hX hE hT hR a w ⟨hW,⟨fr,rfl,q5,_⟩⟩;obtain⟨q5,d5,hv5⟩:=(Row.of_owns hW.2).shape;subst hv5;have HW:=Lib.hid hW;clear hW h hp;rw [fr_lbP,fe q5];clear q5;conv=>arg 2;whnf
 go_wp2_with fail
 refine Met.intro (hS_ _ _ ?_);exact⟨HW.out,Fr.of _ rfl ⟨rfl,trivial⟩⟩
theorem lb_all (h:BoH w0 A0 vs S vl L)(hp:ScP L)(hS:S.length≤4)(hl:L.length≤6):T3 Tryz.prog (fun a w=>(Below w0.heap.size w0 w)∧Fr 98 [(0,.pointer (some ⟨A0,0,none⟩))] a) lbP No No 9 (fun a w=>∃v5:Value,(Below w0.heap.size w0 w∧w.ownsRow w0.heap.size 49 2 v5 (bestF S L).length (cellsOf encFl (bestF S L)))∧Fr 98 [(2,v5)] a):=by
 refine T3.seq (s:=(sel [0] lbP)) (c:=(sel [1] lbP)) (T3.noT (lb0 A0 vl vs S L w0 h hp hS hl)) ?_;refine T3.seq (s:=(sel [1,0] lbP)) (c:=(sel [1,1] lbP)) (T3.noT (lb1 A0 vl vs S L w0 h hp hS hl)) ?_;refine T3.ex fun gt=>?_
 refine T3.seq (s:=(sel [1,1,0] lbP)) (c:=(sel [1,1,1] lbP)) (T3.noT (lb2 A0 vl vs S L w0 h hp hS hl gt)) ?_;refine T3.ex fun left=>T3.pure fun hlf=>?_
 refine T3.seq (s:=(sel [1,1,1,0] lbP)) (c:=(sel [1,1,1,1] lbP)) (T3.noT (lb3 A0 vl vs S L w0 h hp hS hl gt left)) ?_;refine T3.ex fun v5=>?_
 refine T3.seq (s:=(sel [1,1,1,1,0] lbP)) (c:=(sel [1,1,1,1,1] lbP)) (T3.noT (T3.seq (s:=(sel [1,1,1,1,0,0] lbP)) (c:=(sel [1,1,1,1,0,1] lbP)) (lb4 A0 vl vs S L w0 h hp hS hl gt left hlf v5) (lbAloop A0 vl vs S L w0 h hp hS hl gt))) ?_;refine T3.ex fun v5=>?_
 exact T3.seq (s:=(sel [1,1,1,1,1,0] lbP)) (c:=.ret) (T3.noT (lb22 A0 vl vs S L w0 h hp hS hl v5)) (T3.ret fun a w q=>⟨v5,q⟩)
theorem best_prog (h:BoH w0 A0 vs S vl L)(hp:ScP L)(hS:S.length≤4)(hl:L.length≤6):Calls Tryz.prog 49 #[.pointer (some ⟨A0,0,none⟩)] w0 fun e w'=>∃v5:Value,e=.returned v5∧w'.ownsRow w0.heap.size 49 2 v5 (bestF S L).length (cellsOf encFl (bestF S L))∧Below w0.heap.size w0 w':=by
 have hall:=lb_all A0 vl vs S L w0 h hp hS hl;clear h hp
 go_enter Tryz.func49,Tryz.ntmps49
 refine T3.done (s:=lbP) hall ⟨Below.refl _ _,Fr.of _ rfl ⟨rfl,trivial⟩⟩ ?_;rintro a w ⟨v5,⟨hb,ho⟩,fr,rfl,q2,_⟩;rw [fr_lbP,fe q2]
 go_ret
 exact⟨v5,rfl,ho,hb⟩
end
end Go.Proofs.YtnmdpphddimfbaaGreat
/-
  The points of fills, in hundredths. Conditions: scorers rise and their points are right; who is in a slot is a scorer.
-/
namespace Go.Proofs.YtnmdpphddimfbaaGreat
open Go.RowKit Go.Bw
def hxS (L:List ScD)(x:ByteArray):Int:=hund (geta L (scIdx L x)).num (geta L (scIdx L x)).den
def valF (L:List ScD)(cap:ByteArray)(x:FlD):Int:=if x.pl=ByteArray.empty then 0 else if x.pl=cap then hxS L x.pl*2 else hxS L x.pl
def sumK (L:List ScD)(F:List FlD)(cap:ByteArray):Nat→Int
 | 0=>0
 | n+1=>sumK L F cap n+valF L cap (geta F (n:Int))
/-- Who is in a slot is a scorer; names are short. -/
structure InF (L:List ScD)(F:List FlD):Prop where
 h:∀x∈F,x.pl≠ByteArray.empty→¬scIdx L x.pl<0
 n:F.length≤12
theorem hxS_b {L:List ScD}(hp:ScP L){x:ByteArray}(h:¬scIdx L x<0):-1000000≤hxS L x∧hxS L x≤1000000:=by
 have h1:=sc_mem h;have:=hp.h _ (geta_mem (i:=scIdx L x) (by omega) h1);exact⟨this.2.2.2.2.1,this.2.2.2.2.2⟩
theorem valF_b {L:List ScD}(hp:ScP L){x:FlD}{cap:ByteArray}(h:x.pl≠ByteArray.empty→¬scIdx L x.pl<0):-2000000≤valF L cap x∧valF L cap x≤2000000:=by
 unfold valF
 split
 ·decide
 ·rename_i hx
  have:=hxS_b hp (h hx)
  split <;> omega
theorem sumK_b {L:List ScD}(hp:ScP L){F:List FlD}{cap:ByteArray}(h:InF L F):∀n:Nat,n≤F.length→-2000000*n≤sumK L F cap n∧sumK L F cap n≤2000000*n
 | 0,_=>by simp [sumK]
 | n+1,hn=>by
  have h1:=sumK_b hp (cap:=cap) h n (by omega);have h2:=valF_b hp (cap:=cap) (h.h _ (geta_mem (l:=F) (i:=(n:Int)) (by omega) (by omega)));unfold sumK;omega
noncomputable def lsP:Code:=(Tryz.f48.body).getD .skip
theorem fr_lsP (f:Nat→Value):frame 40 f=⟨#[f 0,f 1,f 2,f 3,f 4,f 5,f 6,f 7,f 8,f 9,f 10,f 11,f 12,f 13,f 14,f 15,f 16,f 17,f 18,f 19,f 20,f 21,f 22,f 23,f 24,f 25,f 26,f 27,f 28,f 29,f 30,f 31,f 32,f 33,f 34,f 35,f 36,f 37,f 38,f 39],[]⟩:=by rfl
section
variable (w0:World)(vl vf:Value)(L:List ScD)(Fs:List FlD)(cap:ByteArray)
theorem lsp0 (hl:ScH w0 vl L)(hf:FlH w0 vf Fs)(hr:ScRise L)(hp:ScP L)(hi:InF L Fs):T3 Tryz.prog (fun a w=>(Below w0.heap.size w0 w)∧Fr 40 [(0,vl),(1,vf),(2,.string cap)] a) (sel [0] lsP) (fun a w=>(Below w0.heap.size w0 w)∧Fr 40 [(0,vl),(1,vf),(2,.string cap)] a) No 9 No:=by
 refine T3.leaf ?_;rintro Q JS JX JT K hS hK hX hE hT hR a w ⟨hW,⟨fr,rfl,q0,q1,q2,_⟩⟩;have HW:=Lib.hid hW;obtain⟨p1,c1,hv1⟩:=hl.r.shape;subst hv1;obtain⟨p2,c2,hv2⟩:=hf.r.shape;subst hv2;clear hW;rw [fr_lsP,fe q0,fe q1,fe q2];clear q0 q1 q2;conv=>arg 2;whnf
 go_wp2_with fail
 refine Met.intro (hS _ _ ?_);exact⟨HW.out,Fr.of _ rfl ⟨rfl,rfl,rfl,trivial⟩⟩
theorem lsp1 (hl:ScH w0 vl L)(hf:FlH w0 vf Fs)(hr:ScRise L)(hp:ScP L)(hi:InF L Fs):T3 Tryz.prog (fun a w=>(Below w0.heap.size w0 w)∧Fr 40 [(0,vl),(1,vf),(2,.string cap)] a) (sel [1,0] lsP) (fun a w=>(Below w0.heap.size w0 w)∧Fr 40 [(0,vl),(1,vf),(2,.string cap),(7,.int .i64 0)] a) No 9 No:=by
 refine T3.leaf ?_;rintro Q JS JX JT K hS hK hX hE hT hR a w ⟨hW,⟨fr,rfl,q0,q1,q2,_⟩⟩;have HW:=Lib.hid hW;obtain⟨p1,c1,hv1⟩:=hl.r.shape;subst hv1;obtain⟨p2,c2,hv2⟩:=hf.r.shape;subst hv2;clear hW;rw [fr_lsP,fe q0,fe q1,fe q2];clear q0 q1 q2;conv=>arg 2;whnf
 go_wp2_with fail
 refine Met.intro (hS _ _ ?_);exact⟨HW.out,Fr.of _ rfl ⟨rfl,rfl,rfl,rfl,trivial⟩⟩
theorem lsp2 (hl:ScH w0 vl L)(hf:FlH w0 vf Fs)(hr:ScRise L)(hp:ScP L)(hi:InF L Fs):T3 Tryz.prog (fun a w=>(Below w0.heap.size w0 w)∧Fr 40 [(0,vl),(1,vf),(2,.string cap),(7,.int .i64 0)] a) (sel [1,1,0,0] lsP) (fun a w=>(0≤(0:Int)∧(0:Int)≤Fs.length)∧(Below w0.heap.size w0 w)∧Fr 40 [(0,vl),(1,vf),(2,.string cap),(7,.int .i64 (sumK L Fs cap (0:Int).toNat)),(11,vf),(12,.int .i64 Fs.length),(13,.int .i64 0)] a) No 9 No:=by
 refine T3.leaf ?_;rintro Q JS JX JT K hS hK hX hE hT hR a w ⟨hW,⟨fr,rfl,q0,q1,q2,q7,_⟩⟩;have hn:=hi.n;have HW:=Lib.hid hW;obtain⟨p1,c1,hv1⟩:=hl.r.shape;subst hv1;obtain⟨p2,c2,hv2⟩:=hf.r.shape;subst hv2;clear hW;rw [fr_lsP,fe q0,fe q1,fe q2,fe q7];clear q0 q1 q2 q7;conv=>arg 2;whnf
 go_wp2_with fail
 refine Met.intro (hS _ _ ?_);exact⟨⟨by omega,by omega⟩,HW.out,Fr.of _ rfl ⟨rfl,rfl,rfl,rfl,rfl,rfl,rfl,trivial⟩⟩
theorem lsp4 (hl:ScH w0 vl L)(hf:FlH w0 vf Fs)(hr:ScRise L)(hp:ScP L)(hi:InF L Fs)(k:Nat)(hk:k<Fs.length):T3 Tryz.prog (fun a w=>(Below w0.heap.size w0 w)∧Fr 40 [(0,vl),(1,vf),(2,.string cap),(7,.int .i64 (sumK L Fs cap k)),(11,vf),(12,.int .i64 Fs.length),(13,.int .i64 (k:Int))] a) (sel [1,1,0,1,4,4,1,1,0,4,0] lsP) (fun a w=>∃(g:Nat),(Below w0.heap.size w0 w∧FlB w g (geta Fs (k:Int)))∧Fr 40 [(0,vl),(1,vf),(2,.string cap),(7,.int .i64 (sumK L Fs cap k)),(9,.pointer (some ⟨g,0,none⟩)),(11,vf),(12,.int .i64 Fs.length),(13,.int .i64 (k:Int))] a) No 9 No:=by
 refine T3.leaf ?_;rintro Q JS JX JT K hS hK hX hE hT hR a w ⟨hW,⟨fr,rfl,q0,q1,q2,q7,q11,q12,q13,_⟩⟩;have hR:=(hf.below hW).r;have HW:=Lib.hid hW;obtain⟨p1,c1,hv1⟩:=hl.r.shape;subst hv1;obtain⟨p2,c2,hv2⟩:=hf.r.shape;subst hv2;obtain⟨bz,off,rfl,hnc,hcm,hcell⟩:=Row.nonnil hR (by omega);have t0:=Row.elAt encFl_length hcell (k:=(k:Int)) (by omega) (by omega) 0 _ (by decide) rfl;have t1:=Row.elAt encFl_length hcell (k:=(k:Int)) (by omega) (by omega) 1 _ (by decide) rfl;rw [Int.toNat_natCast]at t0 t1;rw [Nat.add_zero]at t0;have HB:=Lib.hid (FlB.new w (geta Fs (k:Int)) 49);have HA:=Lib.hid (fun o=>(Below.refl w.heap.size w).alloc (Nat.le_refl _) o);have hsz:=hW.size;clear hcell hR hW hl hf hp hi;generalize sumK L Fs cap k=sk at *;generalize geta Fs (k:Int)=x at *;rw [fr_lsP,fe q0,fe q1,fe q2,fe q7,fe q11,fe q12,fe q13];clear q0 q1 q2 q7 q11 q12 q13;conv=>arg 2;whnf
 go_wp2_with fail
 refine Met.intro (hS _ _ ?_);exact⟨_,⟨HW.out.trans ((HA.out _).mono hsz),HB.out⟩,Fr.of _ rfl ⟨rfl,rfl,rfl,rfl,rfl,rfl,rfl,rfl,trivial⟩⟩
theorem lsp5 (hl:ScH w0 vl L)(hf:FlH w0 vf Fs)(hr:ScRise L)(hp:ScP L)(hi:InF L Fs)(k:Nat)(hk:k<Fs.length)(g:Nat):T3 Tryz.prog (fun a w=>(Below w0.heap.size w0 w∧FlB w g (geta Fs (k:Int)))∧Fr 40 [(0,vl),(1,vf),(2,.string cap),(7,.int .i64 (sumK L Fs cap k)),(9,.pointer (some ⟨g,0,none⟩)),(11,vf),(12,.int .i64 Fs.length),(13,.int .i64 (k:Int))] a) (sel [1,1,0,1,4,4,1,1,0,4,1,0,0] lsP) (fun a w=>∃q,Fr 40 ((19,.bool q)::[(0,vl),(1,vf),(2,.string cap),(7,.int .i64 (sumK L Fs cap k)),(9,.pointer (some ⟨g,0,none⟩)),(11,vf),(12,.int .i64 Fs.length),(13,.int .i64 (k:Int))]) a∧((q=decide ((geta Fs (k:Int)).pl=ByteArray.empty))∧Below w0.heap.size w0 w∧FlB w g (geta Fs (k:Int)))) No 9 No:=by
 refine T3.leaf ?_;rintro Q JS JX JT K hS hK hX hE hT hR a w ⟨hW,⟨fr,rfl,q0,q1,q2,q7,q9,q11,q12,q13,_⟩⟩;have t1:=hW.2.c1;have HW:=Lib.hid hW;obtain⟨p1,c1,hv1⟩:=hl.r.shape;subst hv1;obtain⟨p2,c2,hv2⟩:=hf.r.shape;subst hv2;clear hW hl hf hp hi;generalize sumK L Fs cap k=sk at *
 by_cases hx:(geta Fs (k:Int)).pl=ByteArray.empty
 ·have HX:=Lib.hid (show true=decide ((geta Fs (k:Int)).pl=ByteArray.empty)by simp [hx]);rw [hx]at t1;clear hx;rw [fr_lsP,fe q0,fe q1,fe q2,fe q7,fe q9,fe q11,fe q12,fe q13];clear q0 q1 q2 q7 q9 q11 q12 q13;conv=>arg 2;whnf
  go_wp2_with fail
  refine Met.intro (hS _ _ ?_);exact⟨_,Fr.of _ rfl ⟨rfl,rfl,rfl,rfl,rfl,rfl,rfl,rfl,rfl,trivial⟩,HX.out,HW.out⟩
 ·have HX:=Lib.hid (show false=decide ((geta Fs (k:Int)).pl=ByteArray.empty)by simp [hx]);have hx1:=toList_ne hx;have hx2:(geta Fs (k:Int)).pl.toList.isEmpty=false:=by
   have hh:=hx1;rw [show ByteArray.empty.toList=[]by rw [ByteArray.toList_eq];rfl]at hh;cases hl:(geta Fs (k:Int)).pl.toList with
   | nil=>rw [hl]at hh;exact absurd hh (by decide)
   | cons a b=>rfl
  clear hx;generalize (geta Fs (k:Int)).pl=x at *;rw [fr_lsP,fe q0,fe q1,fe q2,fe q7,fe q9,fe q11,fe q12,fe q13];clear q0 q1 q2 q7 q9 q11 q12 q13;conv=>arg 2;whnf
  go_wp2_with fail
  refine Met.intro (hS _ _ ?_);exact⟨_,Fr.of _ rfl ⟨rfl,rfl,rfl,rfl,rfl,rfl,rfl,rfl,rfl,trivial⟩,HX.out,HW.out⟩
theorem lsp6 (hl:ScH w0 vl L)(hf:FlH w0 vf Fs)(hr:ScRise L)(hp:ScP L)(hi:InF L Fs)(k:Nat)(hk:k<Fs.length)(g:Nat)(hne:(geta Fs (k:Int)).pl≠ByteArray.empty):T3 Tryz.prog (fun a w=>(Below w0.heap.size w0 w∧FlB w g (geta Fs (k:Int)))∧Fr 40 [(0,vl),(1,vf),(2,.string cap),(7,.int .i64 (sumK L Fs cap k)),(9,.pointer (some ⟨g,0,none⟩)),(11,vf),(12,.int .i64 Fs.length),(13,.int .i64 (k:Int))] a) (sel [1,1,0,1,4,4,1,1,0,4,1,1,0] lsP) (fun a w=>(Below w0.heap.size w0 w∧FlB w g (geta Fs (k:Int)))∧Fr 40 [(0,vl),(1,vf),(2,.string cap),(7,.int .i64 (sumK L Fs cap k)),(9,.pointer (some ⟨g,0,none⟩)),(10,.int .i64 (hxS L (geta Fs (k:Int)).pl)),(11,vf),(12,.int .i64 Fs.length),(13,.int .i64 (k:Int))] a) No 9 No:=by
 refine T3.leaf ?_;rintro Q JS JX JT K hS hK hX hE hT hR a w ⟨hW,⟨fr,rfl,q0,q1,q2,q7,q9,q11,q12,q13,_⟩⟩;have t1:=hW.2.c1;have hix:=hi.h _ (geta_mem (l:=Fs) (i:=(k:Int)) (by omega) (by omega)) hne;have hiL:=sc_mem hix;have hi0:0≤scIdx L (geta Fs (k:Int)).pl:=by omega
 have HC:=Lib.hid (find_prog w vl L (geta Fs (k:Int)).pl (hl.below hW.1) hr);have HR0:=Lib.hid (fun w' (b:Below w.heap.size w w')=>((hl.below hW.1).below b).r);obtain⟨d1,d2,n1,n2,m1,m2⟩:=hp.h _ (geta_mem (i:=scIdx L (geta Fs (k:Int)).pl) hi0 hiL);have HH:=Lib.hid (fun w'=>hundredths_prog (geta L (scIdx L (geta Fs (k:Int)).pl)).num (geta L (scIdx L (geta Fs (k:Int)).pl)).den w' (by omega) (by omega) d1 (by omega));have HQ:=Lib.hid (show hund (geta L (scIdx L (geta Fs (k:Int)).pl)).num (geta L (scIdx L (geta Fs (k:Int)).pl)).den=hxS L (geta Fs (k:Int)).pl from rfl);have HW:=Lib.hid hW;have hsz:=hW.1.size;obtain⟨p1,c1,hv1⟩:=hl.r.shape;subst hv1;obtain⟨p2,c2,hv2⟩:=hf.r.shape;subst hv2;clear hW hl hf hp hi hix;generalize sumK L Fs cap k=sk at *;generalize hxS L (geta Fs (k:Int)).pl=hh at *;generalize scIdx L (geta Fs (k:Int)).pl=ix at *;have HNE:=Lib.hid hne;clear hne;generalize hxg:(geta Fs (k:Int)).pl=x at *;have HXG:=Lib.hid hxg;clear hxg;rw [fr_lsP,fe q0,fe q1,fe q2,fe q7,fe q9,fe q11,fe q12,fe q13];clear q0 q1 q2 q7 q9 q11 q12 q13;conv=>arg 2;whnf
 go_wp2_with fail
 refine HC.out.mono ?_;rintro e w1 ⟨rfl,hb⟩;have H1:=Lib.hid (show Below w0.heap.size w0 w1∧FlB w1 g (geta Fs (k:Int))from⟨HW.out.1.trans (hb.mono hsz),HW.out.2.below hb⟩);have hsz1:=H1.out.1.size;obtain⟨b2,o2,rfl,hn2,hm2,hcl⟩:=Row.nonnil (HR0.out w1 hb) (by omega);have u2:=Row.elAt encSc_length hcl hi0 hiL 2 _ (by decide) rfl;have u3:=Row.elAt encSc_length hcl hi0 hiL 3 _ (by decide) rfl;clear hb hcl;generalize (geta L ix).num=nn at *;generalize (geta L ix).den=dd at *;go_wp2_with fail
 refine(HH.out w1).mono ?_;rw [HQ.out];rintro e w2 ⟨rfl,hb⟩;have H2:=Lib.hid (show Below w0.heap.size w0 w2∧FlB w2 g (geta Fs (k:Int))from⟨H1.out.1.trans (hb.mono hsz1),H1.out.2.below hb⟩);clear hb;go_wp2_with fail
 refine Met.intro (hS _ _ ?_);exact⟨H2.out,Fr.of _ rfl ⟨rfl,rfl,rfl,rfl,rfl,rfl,rfl,rfl,rfl,trivial⟩⟩
theorem lsp7 (hl:ScH w0 vl L)(hf:FlH w0 vf Fs)(hr:ScRise L)(hp:ScP L)(hi:InF L Fs)(k:Nat)(hk:k<Fs.length)(g:Nat):T3 Tryz.prog (fun a w=>(Below w0.heap.size w0 w∧FlB w g (geta Fs (k:Int)))∧Fr 40 [(0,vl),(1,vf),(2,.string cap),(7,.int .i64 (sumK L Fs cap k)),(9,.pointer (some ⟨g,0,none⟩)),(10,.int .i64 (hxS L (geta Fs (k:Int)).pl)),(11,vf),(12,.int .i64 Fs.length),(13,.int .i64 (k:Int))] a) (sel [1,1,0,1,4,4,1,1,0,4,1,1,1,0,0] lsP) (fun a w=>∃q,Fr 40 ((32,.bool q)::[(0,vl),(1,vf),(2,.string cap),(7,.int .i64 (sumK L Fs cap k)),(9,.pointer (some ⟨g,0,none⟩)),(10,.int .i64 (hxS L (geta Fs (k:Int)).pl)),(11,vf),(12,.int .i64 Fs.length),(13,.int .i64 (k:Int))]) a∧((q=decide ((geta Fs (k:Int)).pl=cap))∧Below w0.heap.size w0 w∧FlB w g (geta Fs (k:Int)))) No 9 No:=by
 refine T3.leaf ?_;rintro Q JS JX JT K hS hK hX hE hT hR a w ⟨hW,⟨fr,rfl,q0,q1,q2,q7,q9,q10,q11,q12,q13,_⟩⟩;have t1:=hW.2.c1;have HW:=Lib.hid hW;obtain⟨p1,c1,hv1⟩:=hl.r.shape;subst hv1;obtain⟨p2,c2,hv2⟩:=hf.r.shape;subst hv2;clear hW hl hf hp hi;generalize sumK L Fs cap k=sk at *;generalize hxS L (geta Fs (k:Int)).pl=hh at *
 by_cases hx:(geta Fs (k:Int)).pl=cap
 ·have HX:=Lib.hid (show true=decide ((geta Fs (k:Int)).pl=cap)by simp [hx]);rw [hx]at t1;clear hx;rw [fr_lsP,fe q0,fe q1,fe q2,fe q7,fe q9,fe q10,fe q11,fe q12,fe q13];clear q0 q1 q2 q7 q9 q10 q11 q12 q13;conv=>arg 2;whnf
  go_wp2_with fail
  refine Met.intro (hS _ _ ?_);exact⟨_,Fr.of _ rfl ⟨rfl,rfl,rfl,rfl,rfl,rfl,rfl,rfl,rfl,rfl,trivial⟩,HX.out,HW.out⟩
 ·have HX:=Lib.hid (show false=decide ((geta Fs (k:Int)).pl=cap)by simp [hx]);have hx1:=toList_ne hx;clear hx;generalize (geta Fs (k:Int)).pl=x at *;rw [fr_lsP,fe q0,fe q1,fe q2,fe q7,fe q9,fe q10,fe q11,fe q12,fe q13];clear q0 q1 q2 q7 q9 q10 q11 q12 q13;conv=>arg 2;whnf
  go_wp2_with fail
  refine Met.intro (hS _ _ ?_);exact⟨_,Fr.of _ rfl ⟨rfl,rfl,rfl,rfl,rfl,rfl,rfl,rfl,rfl,rfl,trivial⟩,HX.out,HW.out⟩
theorem lsp8 (hl:ScH w0 vl L)(hf:FlH w0 vf Fs)(hr:ScRise L)(hp:ScP L)(hi:InF L Fs)(k:Nat)(hk:k<Fs.length)(g:Nat)(hne:(geta Fs (k:Int)).pl≠ByteArray.empty):T3 Tryz.prog (fun a w=>(Below w0.heap.size w0 w∧FlB w g (geta Fs (k:Int)))∧Fr 40 [(0,vl),(1,vf),(2,.string cap),(7,.int .i64 (sumK L Fs cap k)),(9,.pointer (some ⟨g,0,none⟩)),(10,.int .i64 (hxS L (geta Fs (k:Int)).pl)),(11,vf),(12,.int .i64 Fs.length),(13,.int .i64 (k:Int))] a) (sel [1,1,0,1,4,4,1,1,0,4,1,1,1,0,1,2] lsP) (fun a w=>(Below w0.heap.size w0 w∧FlB w g (geta Fs (k:Int)))∧Fr 40 [(0,vl),(1,vf),(2,.string cap),(7,.int .i64 (sumK L Fs cap k)),(9,.pointer (some ⟨g,0,none⟩)),(10,.int .i64 ((hxS L (geta Fs (k:Int)).pl)*2)),(11,vf),(12,.int .i64 Fs.length),(13,.int .i64 (k:Int))] a) No 9 No:=by
 refine T3.leaf ?_;rintro Q JS JX JT K hS hK hX hE hT hR a w ⟨hW,⟨fr,rfl,q0,q1,q2,q7,q9,q10,q11,q12,q13,_⟩⟩;have hix:=hi.h _ (geta_mem (l:=Fs) (i:=(k:Int)) (by omega) (by omega)) hne;have hhb:=hxS_b hp hix;have hsb:=sumK_b hp (cap:=cap) hi k (by omega);have hn:=hi.n;have HW:=Lib.hid hW;obtain⟨p1,c1,hv1⟩:=hl.r.shape;subst hv1;obtain⟨p2,c2,hv2⟩:=hf.r.shape;subst hv2;clear hW;clear hl hf hp hi hix hne;generalize sumK L Fs cap k=sk at *;generalize hxS L (geta Fs (k:Int)).pl=hh at *;rw [fr_lsP,fe q0,fe q1,fe q2,fe q7,fe q9,fe q10,fe q11,fe q12,fe q13];clear q0 q1 q2 q7 q9 q10 q11 q12 q13;conv=>arg 2;whnf
 go_wp2_with fail
 refine Met.intro (hS _ _ ?_);exact⟨HW.out,Fr.of _ rfl ⟨rfl,rfl,rfl,rfl,rfl,rfl,rfl,rfl,rfl,trivial⟩⟩
theorem lsp9 (hl:ScH w0 vl L)(hf:FlH w0 vf Fs)(hr:ScRise L)(hp:ScP L)(hi:InF L Fs)(k:Nat)(hk:k<Fs.length)(g:Nat)(hne:(geta Fs (k:Int)).pl≠ByteArray.empty)(y:Int)(hy:-2000000≤y∧y≤2000000):T3 Tryz.prog (fun a w=>(Below w0.heap.size w0 w∧FlB w g (geta Fs (k:Int)))∧Fr 40 [(0,vl),(1,vf),(2,.string cap),(7,.int .i64 (sumK L Fs cap k)),(9,.pointer (some ⟨g,0,none⟩)),(10,.int .i64 y),(11,vf),(12,.int .i64 Fs.length),(13,.int .i64 (k:Int))] a) (sel [1,1,0,1,4,4,1,1,0,4,1,1,1,1] lsP) (fun a w=>(Below w0.heap.size w0 w)∧Fr 40 [(0,vl),(1,vf),(2,.string cap),(7,.int .i64 (sumK L Fs cap k+y)),(11,vf),(12,.int .i64 Fs.length),(13,.int .i64 (k:Int))] a) No 9 No:=by
 refine T3.leaf ?_;rintro Q JS JX JT K hS hK hX hE hT hR a w ⟨hW,⟨fr,rfl,q0,q1,q2,q7,q9,q10,q11,q12,q13,_⟩⟩;have hix:=hi.h _ (geta_mem (l:=Fs) (i:=(k:Int)) (by omega) (by omega)) hne;have hhb:=hxS_b hp hix;have hsb:=sumK_b hp (cap:=cap) hi k (by omega);have hn:=hi.n;have HW:=Lib.hid hW.1;obtain⟨p1,c1,hv1⟩:=hl.r.shape;subst hv1;obtain⟨p2,c2,hv2⟩:=hf.r.shape;subst hv2;clear hW hl hf hp hi hix hne hhb;generalize sumK L Fs cap k=sk at *;rw [fr_lsP,fe q0,fe q1,fe q2,fe q7,fe q9,fe q10,fe q11,fe q12,fe q13];clear q0 q1 q2 q7 q9 q10 q11 q12 q13;conv=>arg 2;whnf
 go_wp2_with fail
 refine Met.intro (hS _ _ ?_);exact⟨HW.out,Fr.of _ rfl ⟨rfl,rfl,rfl,rfl,rfl,rfl,rfl,trivial⟩⟩
theorem lspR (hl:ScH w0 vl L)(hf:FlH w0 vf Fs)(hr:ScRise L)(hp:ScP L)(hi:InF L Fs)(k:Nat)(hk:k<Fs.length):T3 Tryz.prog (fun a w=>(Below w0.heap.size w0 w)∧Fr 40 [(0,vl),(1,vf),(2,.string cap),(7,.int .i64 (sumK L Fs cap k)),(11,vf),(12,.int .i64 Fs.length),(13,.int .i64 (k:Int))] a) (sel [1,1,0,1,4,4,1,1,0] lsP) (fun a w=>(Below w0.heap.size w0 w)∧Fr 40 [(0,vl),(1,vf),(2,.string cap),(7,.int .i64 (sumK L Fs cap (k+1))),(11,vf),(12,.int .i64 Fs.length),(13,.int .i64 (k:Int))] a) No 9 No:=by
 refine T3.blockX (id:=1) (c:=(sel [1,1,0,1,4,4,1,1,0,4] lsP)) ?_;refine T3.seq (s:=(sel [1,1,0,1,4,4,1,1,0,4,0] lsP)) (c:=(sel [1,1,0,1,4,4,1,1,0,4,1] lsP)) ((lsp4 w0 vl vf L Fs cap hl hf hr hp hi k hk).noX) (T3.ex fun g=>?_);refine T3.seq (s:=(sel [1,1,0,1,4,4,1,1,0,4,1,0] lsP)) (c:=(sel [1,1,0,1,4,4,1,1,0,4,1,1] lsP)) (S:=fun a w=>((geta Fs (k:Int)).pl≠ByteArray.empty)∧(Below w0.heap.size w0 w∧FlB w g (geta Fs (k:Int)))∧Fr 40 [(0,vl),(1,vf),(2,.string cap),(7,.int .i64 (sumK L Fs cap k)),(9,.pointer (some ⟨g,0,none⟩)),(11,vf),(12,.int .i64 Fs.length),(13,.int .i64 (k:Int))] a) ?_ (T3.pure fun hne=>?_)
 ·refine T3.test (s:=(sel [1,1,0,1,4,4,1,1,0,4,1,0,0] lsP)) (x:=.exit 1) (y:=.skip) (C:=fun q=>(q=decide ((geta Fs (k:Int)).pl=ByteArray.empty))) (W:=fun w=>Below w0.heap.size w0 w∧FlB w g (geta Fs (k:Int))) (by decide) ((lsp5 w0 vl vf L Fs cap hl hf hr hp hi k hk g).noX) (T3.exit ?_) (T3.skip ?_)
  ·rintro a w ⟨hF,hq,hW⟩;have hv:valF L cap (geta Fs (k:Int))=0:=by unfold valF;rw [if_pos (of_decide_eq_true hq.symm)]
   refine⟨hW.1,?_⟩;show Fr _ _ _;unfold sumK;rw [hv,Int.add_zero];exact hF.sub (by simp)
  ·rintro a w ⟨hq,hW,hF⟩;exact⟨of_decide_eq_false hq.symm,hW,hF⟩
 have hix:=hi.h _ (geta_mem (l:=Fs) (i:=(k:Int)) (by omega) (by omega)) hne;have hhb:=hxS_b hp hix;refine T3.seq (s:=(sel [1,1,0,1,4,4,1,1,0,4,1,1,0] lsP)) (c:=(sel [1,1,0,1,4,4,1,1,0,4,1,1,1] lsP)) ((lsp6 w0 vl vf L Fs cap hl hf hr hp hi k hk g hne).noX) ?_;refine T3.seq (s:=(sel [1,1,0,1,4,4,1,1,0,4,1,1,1,0] lsP)) (c:=(sel [1,1,0,1,4,4,1,1,0,4,1,1,1,1] lsP)) (S:=fun a w=>∃y:Int,(valF L cap (geta Fs (k:Int))=y)∧(Below w0.heap.size w0 w∧FlB w g (geta Fs (k:Int)))∧Fr 40 [(0,vl),(1,vf),(2,.string cap),(7,.int .i64 (sumK L Fs cap k)),(9,.pointer (some ⟨g,0,none⟩)),(10,.int .i64 y),(11,vf),(12,.int .i64 Fs.length),(13,.int .i64 (k:Int))] a) ?_ (T3.ex fun y=>T3.pure fun hy=>?_)
 ·refine T3.test (s:=(sel [1,1,0,1,4,4,1,1,0,4,1,1,1,0,0] lsP)) (x:=(sel [1,1,0,1,4,4,1,1,0,4,1,1,1,0,1,2] lsP)) (y:=.skip) (C:=fun q=>(q=decide ((geta Fs (k:Int)).pl=cap))) (W:=fun w=>Below w0.heap.size w0 w∧FlB w g (geta Fs (k:Int))) (by decide) ((lsp7 w0 vl vf L Fs cap hl hf hr hp hi k hk g).noX) ?_ (T3.skip ?_)
  ·refine T3.pre (R:=fun a w=>((geta Fs (k:Int)).pl=cap)∧(Below w0.heap.size w0 w∧FlB w g (geta Fs (k:Int)))∧Fr 40 [(0,vl),(1,vf),(2,.string cap),(7,.int .i64 (sumK L Fs cap k)),(9,.pointer (some ⟨g,0,none⟩)),(10,.int .i64 (hxS L (geta Fs (k:Int)).pl)),(11,vf),(12,.int .i64 Fs.length),(13,.int .i64 (k:Int))] a) (T3.pure fun he=>((lsp8 w0 vl vf L Fs cap hl hf hr hp hi k hk g hne).noX).post (fun a w q=>⟨_,by unfold valF;rw [if_neg hne,if_pos he],q⟩)) (fun a w ⟨hF,hq,hW⟩=>⟨of_decide_eq_true hq.symm,hW,hF.tail⟩)
  ·rintro a w ⟨hq,hW,hF⟩;exact⟨_,by unfold valF;rw [if_neg hne,if_neg (of_decide_eq_false hq.symm)],hW,hF⟩
 ·have hyb:=valF_b hp (cap:=cap) (x:=(geta Fs (k:Int))) (fun _=>hix);rw [hy]at hyb;refine((lsp9 w0 vl vf L Fs cap hl hf hr hp hi k hk g hne y hyb).noX).post ?_;rintro a w ⟨hW,hF⟩;unfold sumK;rw [hy];exact⟨hW,hF⟩
theorem lspb (hl:ScH w0 vl L)(hf:FlH w0 vf Fs)(hr:ScRise L)(hp:ScP L)(hi:InF L Fs)(k:Int):T3 Tryz.prog (fun a w=>(0≤k∧k<Fs.length)∧(Below w0.heap.size w0 w)∧Fr 40 [(0,vl),(1,vf),(2,.string cap),(7,.int .i64 (sumK L Fs cap (k:Int).toNat)),(11,vf),(12,.int .i64 Fs.length),(13,.int .i64 k)] a) (sel [1,1,0,1,4,4,1,1,0] lsP) (fun a w=>(0≤k∧k<Fs.length)∧(Below w0.heap.size w0 w)∧Fr 40 [(0,vl),(1,vf),(2,.string cap),(7,.int .i64 (sumK L Fs cap ((k+1):Int).toNat)),(11,vf),(12,.int .i64 Fs.length),(13,.int .i64 k)] a) No 9 No:=by
 refine T3.pure fun hh=>?_
 obtain⟨i,rfl⟩:=Int.eq_ofNat_of_zero_le hh.1;refine T3.mono (lspR w0 vl vf L Fs cap hl hf hr hp hi i (by omega)) ?_ ?_ (fun _ _ q=>q) (fun _ _ q=>q)
 ·rintro a w ⟨hW,hF⟩;rw [Int.toNat_natCast]at hF;exact⟨hW,hF⟩
 ·rintro a w ⟨hW,hF⟩;refine⟨hh,hW,?_⟩;rw [show((i:Int)+1).toNat=i+1 by omega];exact hF
end
def lspAI (w0:World)(vl vf:Value)(L:List ScD)(Fs:List FlD)(cap:ByteArray)(hl:ScH w0 vl L)(hf:FlH w0 vf Fs)(hr:ScRise L)(hp:ScP L)(hi:InF L Fs)(k:Int)(a:Act)(w:World):Prop:=(0≤k∧k≤Fs.length)∧(Below w0.heap.size w0 w)∧Fr 40 [(0,vl),(1,vf),(2,.string cap),(7,.int .i64 (sumK L Fs cap (k:Int).toNat)),(11,vf),(12,.int .i64 Fs.length),(13,.int .i64 k)] a
section
variable (w0:World)(vl vf:Value)(L:List ScD)(Fs:List FlD)(cap:ByteArray)(hl:ScH w0 vl L)(hf:FlH w0 vf Fs)(hr:ScRise L)(hp:ScP L)(hi:InF L Fs)
theorem lspAt (k:Int):T3 Tryz.prog (fun a w=>lspAI w0 vl vf L Fs cap hl hf hr hp hi k a w) (sel [1,1,0,1,4,4,0] lsP) (fun a w=>∃q,Fr 40 ((14,.bool q)::[(13,.int .i64 k)]) a∧((q=true↔k<Fs.length)∧lspAI w0 vl vf L Fs cap hl hf hr hp hi k a w)) No 9 No:=by
 refine T3.leaf ?_;rintro Q JS JX JT K hS hK hX hE hT hR a w ⟨hk,hW,⟨fr,rfl,q0,q1,q2,q7,q11,q12,q13,_⟩⟩;have hn9:=hf.n;rw [fr_lsP,fe q0,fe q1,fe q2,fe q7,fe q11,fe q12,fe q13];clear q0 q1 q2 q7 q11 q12 q13;conv=>arg 2;whnf
 by_cases hlt:k<Fs.length
 ·go_wp2_with fail
  refine Met.intro (hS _ _ ?_);exact⟨true,Fr.of _ rfl ⟨rfl,rfl,trivial⟩,⟨fun _=>hlt,fun _=>rfl⟩,hk,hW,Fr.of _ rfl ⟨rfl,rfl,rfl,rfl,rfl,rfl,rfl,trivial⟩⟩
 ·have hpb:decide (k<(Fs.length:Int))=false:=by simp;omega
  go_wp2_with fail
  refine Met.intro (hS _ _ ?_);exact⟨false,Fr.of _ rfl ⟨rfl,rfl,trivial⟩,⟨(fun h=>by cases h),fun h=>absurd h (by omega)⟩,hk,hW,Fr.of _ rfl ⟨rfl,rfl,rfl,rfl,rfl,rfl,rfl,trivial⟩⟩
theorem lspAn (k:Int):T3 Tryz.prog (fun a w=>(0≤k∧k<Fs.length)∧(Below w0.heap.size w0 w)∧Fr 40 [(0,vl),(1,vf),(2,.string cap),(7,.int .i64 (sumK L Fs cap ((k+1):Int).toNat)),(11,vf),(12,.int .i64 Fs.length),(13,.int .i64 k)] a) (sel [1,1,0,1,4,4,1,1,1] lsP) (fun a w=>lspAI w0 vl vf L Fs cap hl hf hr hp hi (k+1) a w) No 9 No:=by
 refine T3.leaf ?_;rintro Q JS JX JT K hS hK hX hE hT hR a w ⟨hk,hW,⟨fr,rfl,q0,q1,q2,q7,q11,q12,q13,_⟩⟩;obtain⟨hk0,hk1⟩:=hk;have hn9:=hf.n;rw [fr_lsP,fe q0,fe q1,fe q2,fe q7,fe q11,fe q12,fe q13];clear q0 q1 q2 q7 q11 q12 q13;conv=>arg 2;whnf
 go_wp2_with fail
 refine Met.intro (hS _ _ ?_);exact⟨⟨by omega,by omega⟩,hW,Fr.of _ rfl ⟨rfl,rfl,rfl,rfl,rfl,rfl,rfl,trivial⟩⟩
theorem lspAloop:T3 Tryz.prog (fun a w=>lspAI w0 vl vf L Fs cap hl hf hr hp hi 0 a w) (sel [1,1,0,1] lsP) (fun a w=>(Below w0.heap.size w0 w)∧Fr 40 [(7,.int .i64 (sumK L Fs cap Fs.length))] a) No 9 No:=by
 refine T3.loop (c:=(sel [1,1,0,1,4,4] lsP)) (fun ng_ a w=>∃k:Int,(ng_:Int)=Fs.length-k∧lspAI w0 vl vf L Fs cap hl hf hr hp hi k a w) (fun a w h=>⟨(Fs.length:Int).toNat,0,by have:=h.1.2;omega,h⟩) (fun ng_=>T3.ex fun k=>T3.pure fun hng_=>?_);refine T3.seq (s:=(sel [1,1,0,1,4,4,0] lsP)) (c:=(sel [1,1,0,1,4,4,1] lsP)) ((lspAt w0 vl vf L Fs cap hl hf hr hp hi k).noX) ?_;refine T3.seq (s:=(sel [1,1,0,1,4,4,1,0] lsP)) (c:=(sel [1,1,0,1,4,4,1,1] lsP)) (S:=fun a w=>(0≤k∧k<Fs.length)∧(Below w0.heap.size w0 w)∧Fr 40 [(0,vl),(1,vf),(2,.string cap),(7,.int .i64 (sumK L Fs cap (k:Int).toNat)),(11,vf),(12,.int .i64 Fs.length),(13,.int .i64 k)] a) ?_ (T3.seq (s:=(sel [1,1,0,1,4,4,1,1,0] lsP)) (c:=(sel [1,1,0,1,4,4,1,1,1] lsP)) (S:=fun a w=>(0≤k∧k<Fs.length)∧(Below w0.heap.size w0 w)∧Fr 40 [(0,vl),(1,vf),(2,.string cap),(7,.int .i64 (sumK L Fs cap ((k+1):Int).toNat)),(11,vf),(12,.int .i64 Fs.length),(13,.int .i64 k)] a) (T3.noX (lspb w0 vl vf L Fs cap hl hf hr hp hi k)) ?_)
 ·refine T3.cond (o:=.tmp 14) (x:=.skip) (y:=.exit 0) (fun a w=>k<Fs.length∧lspAI w0 vl vf L Fs cap hl hf hr hp hi k a w) (fun a w=>¬k<Fs.length∧lspAI w0 vl vf L Fs cap hl hf hr hp hi k a w) ?_ (T3.skip ?_) (T3.exit ?_)
  ·rintro a w ⟨q,hF,hq,hI⟩;have he:=hF.eval 14 (by decide) (v:=.bool q) (by simp);cases q
   ·exact .inr ⟨he,(fun h=>by have:=hq.2 h;cases this),hI⟩
   ·exact .inl ⟨he,hq.1 rfl,hI⟩
  ·rintro a w ⟨hlt,hk,hI⟩;exact⟨⟨hk.1,hlt⟩,hI⟩
  ·rintro a w ⟨hlt,hk,hI⟩;obtain rfl:k=Fs.length:=by omega
   obtain⟨hW,hF⟩:=hI;rw [Int.toNat_natCast]at hF;exact⟨hW,hF.sub (by simp)⟩
 ·intro a w hx;have hk:=hx.1;exact(((lspAn w0 vl vf L Fs cap hl hf hr hp hi k).noX).post (fun a w q=>⟨ng_-1,by omega,k+1,by omega,q⟩)) a w hx
end
section
variable (w0:World)(vl vf:Value)(L:List ScD)(Fs:List FlD)(cap:ByteArray)
theorem lsp11 (hl:ScH w0 vl L)(hf:FlH w0 vf Fs)(hr:ScRise L)(hp:ScP L)(hi:InF L Fs):T3 Tryz.prog (fun a w=>(Below w0.heap.size w0 w)∧Fr 40 [(7,.int .i64 (sumK L Fs cap Fs.length))] a) (sel [1,1,1,0] lsP) (fun a w=>(Below w0.heap.size w0 w)∧Fr 40 [(6,.int .i64 (sumK L Fs cap Fs.length))] a) No 9 No:=by
 refine T3.leaf ?_;rintro Q JS JX JT K hS hK hX hE hT hR a w ⟨hW,⟨fr,rfl,q7,_⟩⟩;have HW:=Lib.hid hW;obtain⟨p1,c1,hv1⟩:=hl.r.shape;subst hv1;obtain⟨p2,c2,hv2⟩:=hf.r.shape;subst hv2;clear hW;clear hl hf hp hi;generalize sumK L Fs cap Fs.length=sk at *;rw [fr_lsP,fe q7];clear q7;conv=>arg 2;whnf
 go_wp2_with fail
 refine Met.intro (hS _ _ ?_);exact⟨HW.out,Fr.of _ rfl ⟨rfl,trivial⟩⟩
theorem lsp_all (hl:ScH w0 vl L)(hf:FlH w0 vf Fs)(hr:ScRise L)(hp:ScP L)(hi:InF L Fs):T3 Tryz.prog (fun a w=>(Below w0.heap.size w0 w)∧Fr 40 [(0,vl),(1,vf),(2,.string cap)] a) lsP No No 9 (fun a w=>(Below w0.heap.size w0 w)∧Fr 40 [(6,.int .i64 (sumK L Fs cap Fs.length))] a):=by
 refine T3.seq (s:=(sel [0] lsP)) (c:=(sel [1] lsP)) (T3.noT (lsp0 w0 vl vf L Fs cap hl hf hr hp hi)) ?_;refine T3.seq (s:=(sel [1,0] lsP)) (c:=(sel [1,1] lsP)) (T3.noT (lsp1 w0 vl vf L Fs cap hl hf hr hp hi)) ?_;refine T3.seq (s:=(sel [1,1,0] lsP)) (c:=(sel [1,1,1] lsP)) (T3.noT (T3.seq (s:=(sel [1,1,0,0] lsP)) (c:=(sel [1,1,0,1] lsP)) (lsp2 w0 vl vf L Fs cap hl hf hr hp hi) (lspAloop w0 vl vf L Fs cap hl hf hr hp hi))) ?_;exact T3.seq (s:=(sel [1,1,1,0] lsP)) (c:=.ret) (T3.noT (lsp11 w0 vl vf L Fs cap hl hf hr hp hi)) (T3.ret fun a w q=>q)
theorem sum_prog (hl:ScH w0 vl L)(hf:FlH w0 vf Fs)(hr:ScRise L)(hp:ScP L)(hi:InF L Fs):Calls Tryz.prog 48 #[vl,vf,.string cap] w0 fun e w'=>e=.returned (.int .i64 (sumK L Fs cap Fs.length))∧Below w0.heap.size w0 w':=by
 have hall:=lsp_all w0 vl vf L Fs cap hl hf hr hp hi
 go_enter Tryz.func48,Tryz.ntmps48
 refine T3.done (s:=lsP) hall ⟨Below.refl _ _,Fr.of _ rfl ⟨rfl,rfl,rfl,trivial⟩⟩ ?_;rintro a w ⟨hb,fr,rfl,q6,_⟩;rw [fr_lsP,fe q6]
 go_ret
 exact⟨rfl,hb⟩
end
noncomputable def lsR:Code:=(Tryz.f20.body).getD .skip
theorem fr_lsR (f:Nat→Value):frame 40 f=⟨#[f 0,f 1,f 2,f 3,f 4,f 5,f 6,f 7,f 8,f 9,f 10,f 11,f 12,f 13,f 14,f 15,f 16,f 17,f 18,f 19,f 20,f 21,f 22,f 23,f 24,f 25,f 26,f 27,f 28,f 29,f 30,f 31,f 32,f 33,f 34,f 35,f 36,f 37,f 38,f 39],[]⟩:=by rfl
section
variable (w0:World)(vl vf:Value)(L:List ScD)(Fs:List FlD)(cap:ByteArray)
theorem lsr0 (hl:ScH w0 vl L)(hf:FlH w0 vf Fs)(hr:ScRise L)(hp:ScP L)(hi:InF L Fs):T3 Tryz.prog (fun a w=>(Below w0.heap.size w0 w)∧Fr 40 [(0,vl),(1,vf),(2,.string cap)] a) (sel [0] lsR) (fun a w=>(Below w0.heap.size w0 w)∧Fr 40 [(0,vl),(1,vf),(2,.string cap)] a) No 9 No:=by
 refine T3.leaf ?_;rintro Q JS JX JT K hS hK hX hE hT hR a w ⟨hW,⟨fr,rfl,q0,q1,q2,_⟩⟩;have HW:=Lib.hid hW;obtain⟨p1,c1,hv1⟩:=hl.r.shape;subst hv1;obtain⟨p2,c2,hv2⟩:=hf.r.shape;subst hv2;clear hW;rw [fr_lsR,fe q0,fe q1,fe q2];clear q0 q1 q2;conv=>arg 2;whnf
 go_wp2_with fail
 refine Met.intro (hS _ _ ?_);exact⟨HW.out,Fr.of _ rfl ⟨rfl,rfl,rfl,trivial⟩⟩
theorem lsr1 (hl:ScH w0 vl L)(hf:FlH w0 vf Fs)(hr:ScRise L)(hp:ScP L)(hi:InF L Fs):T3 Tryz.prog (fun a w=>(Below w0.heap.size w0 w)∧Fr 40 [(0,vl),(1,vf),(2,.string cap)] a) (sel [1,0] lsR) (fun a w=>(Below w0.heap.size w0 w)∧Fr 40 [(0,vl),(1,vf),(2,.string cap),(7,.int .i64 0)] a) No 9 No:=by
 refine T3.leaf ?_;rintro Q JS JX JT K hS hK hX hE hT hR a w ⟨hW,⟨fr,rfl,q0,q1,q2,_⟩⟩;have HW:=Lib.hid hW;obtain⟨p1,c1,hv1⟩:=hl.r.shape;subst hv1;obtain⟨p2,c2,hv2⟩:=hf.r.shape;subst hv2;clear hW;rw [fr_lsR,fe q0,fe q1,fe q2];clear q0 q1 q2;conv=>arg 2;whnf
 go_wp2_with fail
 refine Met.intro (hS _ _ ?_);exact⟨HW.out,Fr.of _ rfl ⟨rfl,rfl,rfl,rfl,trivial⟩⟩
theorem lsr2 (hl:ScH w0 vl L)(hf:FlH w0 vf Fs)(hr:ScRise L)(hp:ScP L)(hi:InF L Fs):T3 Tryz.prog (fun a w=>(Below w0.heap.size w0 w)∧Fr 40 [(0,vl),(1,vf),(2,.string cap),(7,.int .i64 0)] a) (sel [1,1,0,0] lsR) (fun a w=>(0≤(0:Int)∧(0:Int)≤Fs.length)∧(Below w0.heap.size w0 w)∧Fr 40 [(0,vl),(1,vf),(2,.string cap),(7,.int .i64 (sumK L Fs cap (0:Int).toNat)),(11,vf),(12,.int .i64 Fs.length),(13,.int .i64 0)] a) No 9 No:=by
 refine T3.leaf ?_;rintro Q JS JX JT K hS hK hX hE hT hR a w ⟨hW,⟨fr,rfl,q0,q1,q2,q7,_⟩⟩;have hn:=hi.n;have HW:=Lib.hid hW;obtain⟨p1,c1,hv1⟩:=hl.r.shape;subst hv1;obtain⟨p2,c2,hv2⟩:=hf.r.shape;subst hv2;clear hW;rw [fr_lsR,fe q0,fe q1,fe q2,fe q7];clear q0 q1 q2 q7;conv=>arg 2;whnf
 go_wp2_with fail
 refine Met.intro (hS _ _ ?_);exact⟨⟨by omega,by omega⟩,HW.out,Fr.of _ rfl ⟨rfl,rfl,rfl,rfl,rfl,rfl,rfl,trivial⟩⟩
theorem lsr4 (hl:ScH w0 vl L)(hf:FlH w0 vf Fs)(hr:ScRise L)(hp:ScP L)(hi:InF L Fs)(k:Nat)(hk:k<Fs.length):T3 Tryz.prog (fun a w=>(Below w0.heap.size w0 w)∧Fr 40 [(0,vl),(1,vf),(2,.string cap),(7,.int .i64 (sumK L Fs cap k)),(11,vf),(12,.int .i64 Fs.length),(13,.int .i64 (k:Int))] a) (sel [1,1,0,1,4,4,1,1,0,4,0] lsR) (fun a w=>∃(g:Nat),(Below w0.heap.size w0 w∧FlB w g (geta Fs (k:Int)))∧Fr 40 [(0,vl),(1,vf),(2,.string cap),(7,.int .i64 (sumK L Fs cap k)),(9,.pointer (some ⟨g,0,none⟩)),(11,vf),(12,.int .i64 Fs.length),(13,.int .i64 (k:Int))] a) No 9 No:=by
 refine T3.leaf ?_;rintro Q JS JX JT K hS hK hX hE hT hR a w ⟨hW,⟨fr,rfl,q0,q1,q2,q7,q11,q12,q13,_⟩⟩;have hR:=(hf.below hW).r;have HW:=Lib.hid hW;obtain⟨p1,c1,hv1⟩:=hl.r.shape;subst hv1;obtain⟨p2,c2,hv2⟩:=hf.r.shape;subst hv2;obtain⟨bz,off,rfl,hnc,hcm,hcell⟩:=Row.nonnil hR (by omega);have t0:=Row.elAt encFl_length hcell (k:=(k:Int)) (by omega) (by omega) 0 _ (by decide) rfl;have t1:=Row.elAt encFl_length hcell (k:=(k:Int)) (by omega) (by omega) 1 _ (by decide) rfl;rw [Int.toNat_natCast]at t0 t1;rw [Nat.add_zero]at t0;have HB:=Lib.hid (FlB.new w (geta Fs (k:Int)) 49);have HA:=Lib.hid (fun o=>(Below.refl w.heap.size w).alloc (Nat.le_refl _) o);have hsz:=hW.size;clear hcell hR hW hl hf hp hi;generalize sumK L Fs cap k=sk at *;generalize geta Fs (k:Int)=x at *;rw [fr_lsR,fe q0,fe q1,fe q2,fe q7,fe q11,fe q12,fe q13];clear q0 q1 q2 q7 q11 q12 q13;conv=>arg 2;whnf
 go_wp2_with fail
 refine Met.intro (hS _ _ ?_);exact⟨_,⟨HW.out.trans ((HA.out _).mono hsz),HB.out⟩,Fr.of _ rfl ⟨rfl,rfl,rfl,rfl,rfl,rfl,rfl,rfl,trivial⟩⟩
theorem lsr5 (hl:ScH w0 vl L)(hf:FlH w0 vf Fs)(hr:ScRise L)(hp:ScP L)(hi:InF L Fs)(k:Nat)(hk:k<Fs.length)(g:Nat):T3 Tryz.prog (fun a w=>(Below w0.heap.size w0 w∧FlB w g (geta Fs (k:Int)))∧Fr 40 [(0,vl),(1,vf),(2,.string cap),(7,.int .i64 (sumK L Fs cap k)),(9,.pointer (some ⟨g,0,none⟩)),(11,vf),(12,.int .i64 Fs.length),(13,.int .i64 (k:Int))] a) (sel [1,1,0,1,4,4,1,1,0,4,1,0,0] lsR) (fun a w=>∃q,Fr 40 ((19,.bool q)::[(0,vl),(1,vf),(2,.string cap),(7,.int .i64 (sumK L Fs cap k)),(9,.pointer (some ⟨g,0,none⟩)),(11,vf),(12,.int .i64 Fs.length),(13,.int .i64 (k:Int))]) a∧((q=decide ((geta Fs (k:Int)).pl=ByteArray.empty))∧Below w0.heap.size w0 w∧FlB w g (geta Fs (k:Int)))) No 9 No:=by
 refine T3.leaf ?_;rintro Q JS JX JT K hS hK hX hE hT hR a w ⟨hW,⟨fr,rfl,q0,q1,q2,q7,q9,q11,q12,q13,_⟩⟩;have t1:=hW.2.c1;have HW:=Lib.hid hW;obtain⟨p1,c1,hv1⟩:=hl.r.shape;subst hv1;obtain⟨p2,c2,hv2⟩:=hf.r.shape;subst hv2;clear hW hl hf hp hi;generalize sumK L Fs cap k=sk at *
 by_cases hx:(geta Fs (k:Int)).pl=ByteArray.empty
 ·have HX:=Lib.hid (show true=decide ((geta Fs (k:Int)).pl=ByteArray.empty)by simp [hx]);rw [hx]at t1;clear hx;rw [fr_lsR,fe q0,fe q1,fe q2,fe q7,fe q9,fe q11,fe q12,fe q13];clear q0 q1 q2 q7 q9 q11 q12 q13;conv=>arg 2;whnf
  go_wp2_with fail
  refine Met.intro (hS _ _ ?_);exact⟨_,Fr.of _ rfl ⟨rfl,rfl,rfl,rfl,rfl,rfl,rfl,rfl,rfl,trivial⟩,HX.out,HW.out⟩
 ·have HX:=Lib.hid (show false=decide ((geta Fs (k:Int)).pl=ByteArray.empty)by simp [hx]);have hx1:=toList_ne hx;have hx2:(geta Fs (k:Int)).pl.toList.isEmpty=false:=by
   have hh:=hx1;rw [show ByteArray.empty.toList=[]by rw [ByteArray.toList_eq];rfl]at hh;cases hl:(geta Fs (k:Int)).pl.toList with
   | nil=>rw [hl]at hh;exact absurd hh (by decide)
   | cons a b=>rfl
  clear hx;generalize (geta Fs (k:Int)).pl=x at *;rw [fr_lsR,fe q0,fe q1,fe q2,fe q7,fe q9,fe q11,fe q12,fe q13];clear q0 q1 q2 q7 q9 q11 q12 q13;conv=>arg 2;whnf
  go_wp2_with fail
  refine Met.intro (hS _ _ ?_);exact⟨_,Fr.of _ rfl ⟨rfl,rfl,rfl,rfl,rfl,rfl,rfl,rfl,rfl,trivial⟩,HX.out,HW.out⟩
theorem lsr6 (hl:ScH w0 vl L)(hf:FlH w0 vf Fs)(hr:ScRise L)(hp:ScP L)(hi:InF L Fs)(k:Nat)(hk:k<Fs.length)(g:Nat)(hne:(geta Fs (k:Int)).pl≠ByteArray.empty):T3 Tryz.prog (fun a w=>(Below w0.heap.size w0 w∧FlB w g (geta Fs (k:Int)))∧Fr 40 [(0,vl),(1,vf),(2,.string cap),(7,.int .i64 (sumK L Fs cap k)),(9,.pointer (some ⟨g,0,none⟩)),(11,vf),(12,.int .i64 Fs.length),(13,.int .i64 (k:Int))] a) (sel [1,1,0,1,4,4,1,1,0,4,1,1,0] lsR) (fun a w=>(Below w0.heap.size w0 w∧FlB w g (geta Fs (k:Int)))∧Fr 40 [(0,vl),(1,vf),(2,.string cap),(7,.int .i64 (sumK L Fs cap k)),(9,.pointer (some ⟨g,0,none⟩)),(10,.int .i64 (hxS L (geta Fs (k:Int)).pl)),(11,vf),(12,.int .i64 Fs.length),(13,.int .i64 (k:Int))] a) No 9 No:=by
 refine T3.leaf ?_;rintro Q JS JX JT K hS hK hX hE hT hR a w ⟨hW,⟨fr,rfl,q0,q1,q2,q7,q9,q11,q12,q13,_⟩⟩;have t1:=hW.2.c1;have hix:=hi.h _ (geta_mem (l:=Fs) (i:=(k:Int)) (by omega) (by omega)) hne;have hiL:=sc_mem hix;have hi0:0≤scIdx L (geta Fs (k:Int)).pl:=by omega
 have HC:=Lib.hid (scorerAt_ref vl L (geta Fs (k:Int)).pl w (hl.below hW.1));have HR0:=Lib.hid (fun w' (b:Below w.heap.size w w')=>((hl.below hW.1).below b).r);obtain⟨d1,d2,n1,n2,m1,m2⟩:=hp.h _ (geta_mem (i:=scIdx L (geta Fs (k:Int)).pl) hi0 hiL);have HH:=Lib.hid (fun w'=>hundredths_ref (geta L (scIdx L (geta Fs (k:Int)).pl)).num (geta L (scIdx L (geta Fs (k:Int)).pl)).den w' (by omega) (by omega) d1 (by omega));have HQ:=Lib.hid (show hund (geta L (scIdx L (geta Fs (k:Int)).pl)).num (geta L (scIdx L (geta Fs (k:Int)).pl)).den=hxS L (geta Fs (k:Int)).pl from rfl);have HW:=Lib.hid hW;have hsz:=hW.1.size;obtain⟨p1,c1,hv1⟩:=hl.r.shape;subst hv1;obtain⟨p2,c2,hv2⟩:=hf.r.shape;subst hv2;clear hW hl hf hp hi hix;generalize sumK L Fs cap k=sk at *;generalize hxS L (geta Fs (k:Int)).pl=hh at *;generalize scIdx L (geta Fs (k:Int)).pl=ix at *;have HNE:=Lib.hid hne;clear hne;generalize hxg:(geta Fs (k:Int)).pl=x at *;have HXG:=Lib.hid hxg;clear hxg;rw [fr_lsR,fe q0,fe q1,fe q2,fe q7,fe q9,fe q11,fe q12,fe q13];clear q0 q1 q2 q7 q9 q11 q12 q13;conv=>arg 2;whnf
 go_wp2_with fail
 refine HC.out.mono ?_;rintro e w1 ⟨rfl,hb⟩;have H1:=Lib.hid (show Below w0.heap.size w0 w1∧FlB w1 g (geta Fs (k:Int))from⟨HW.out.1.trans (hb.mono hsz),HW.out.2.below hb⟩);have hsz1:=H1.out.1.size;obtain⟨b2,o2,rfl,hn2,hm2,hcl⟩:=Row.nonnil (HR0.out w1 hb) (by omega);have u2:=Row.elAt encSc_length hcl hi0 hiL 2 _ (by decide) rfl;have u3:=Row.elAt encSc_length hcl hi0 hiL 3 _ (by decide) rfl;clear hb hcl;generalize (geta L ix).num=nn at *;generalize (geta L ix).den=dd at *;go_wp2_with fail
 refine(HH.out w1).mono ?_;rw [HQ.out];rintro e w2 ⟨rfl,hb⟩;have H2:=Lib.hid (show Below w0.heap.size w0 w2∧FlB w2 g (geta Fs (k:Int))from⟨H1.out.1.trans (hb.mono hsz1),H1.out.2.below hb⟩);clear hb;go_wp2_with fail
 refine Met.intro (hS _ _ ?_);exact⟨H2.out,Fr.of _ rfl ⟨rfl,rfl,rfl,rfl,rfl,rfl,rfl,rfl,rfl,trivial⟩⟩
theorem lsr7 (hl:ScH w0 vl L)(hf:FlH w0 vf Fs)(hr:ScRise L)(hp:ScP L)(hi:InF L Fs)(k:Nat)(hk:k<Fs.length)(g:Nat):T3 Tryz.prog (fun a w=>(Below w0.heap.size w0 w∧FlB w g (geta Fs (k:Int)))∧Fr 40 [(0,vl),(1,vf),(2,.string cap),(7,.int .i64 (sumK L Fs cap k)),(9,.pointer (some ⟨g,0,none⟩)),(10,.int .i64 (hxS L (geta Fs (k:Int)).pl)),(11,vf),(12,.int .i64 Fs.length),(13,.int .i64 (k:Int))] a) (sel [1,1,0,1,4,4,1,1,0,4,1,1,1,0,0] lsR) (fun a w=>∃q,Fr 40 ((32,.bool q)::[(0,vl),(1,vf),(2,.string cap),(7,.int .i64 (sumK L Fs cap k)),(9,.pointer (some ⟨g,0,none⟩)),(10,.int .i64 (hxS L (geta Fs (k:Int)).pl)),(11,vf),(12,.int .i64 Fs.length),(13,.int .i64 (k:Int))]) a∧((q=decide ((geta Fs (k:Int)).pl=cap))∧Below w0.heap.size w0 w∧FlB w g (geta Fs (k:Int)))) No 9 No:=by
 refine T3.leaf ?_;rintro Q JS JX JT K hS hK hX hE hT hR a w ⟨hW,⟨fr,rfl,q0,q1,q2,q7,q9,q10,q11,q12,q13,_⟩⟩;have t1:=hW.2.c1;have HW:=Lib.hid hW;obtain⟨p1,c1,hv1⟩:=hl.r.shape;subst hv1;obtain⟨p2,c2,hv2⟩:=hf.r.shape;subst hv2;clear hW hl hf hp hi;generalize sumK L Fs cap k=sk at *;generalize hxS L (geta Fs (k:Int)).pl=hh at *
 by_cases hx:(geta Fs (k:Int)).pl=cap
 ·have HX:=Lib.hid (show true=decide ((geta Fs (k:Int)).pl=cap)by simp [hx]);rw [hx]at t1;clear hx;rw [fr_lsR,fe q0,fe q1,fe q2,fe q7,fe q9,fe q10,fe q11,fe q12,fe q13];clear q0 q1 q2 q7 q9 q10 q11 q12 q13;conv=>arg 2;whnf
  go_wp2_with fail
  refine Met.intro (hS _ _ ?_);exact⟨_,Fr.of _ rfl ⟨rfl,rfl,rfl,rfl,rfl,rfl,rfl,rfl,rfl,rfl,trivial⟩,HX.out,HW.out⟩
 ·have HX:=Lib.hid (show false=decide ((geta Fs (k:Int)).pl=cap)by simp [hx]);have hx1:=toList_ne hx;clear hx;generalize (geta Fs (k:Int)).pl=x at *;rw [fr_lsR,fe q0,fe q1,fe q2,fe q7,fe q9,fe q10,fe q11,fe q12,fe q13];clear q0 q1 q2 q7 q9 q10 q11 q12 q13;conv=>arg 2;whnf
  go_wp2_with fail
  refine Met.intro (hS _ _ ?_);exact⟨_,Fr.of _ rfl ⟨rfl,rfl,rfl,rfl,rfl,rfl,rfl,rfl,rfl,rfl,trivial⟩,HX.out,HW.out⟩
theorem lsr8 (hl:ScH w0 vl L)(hf:FlH w0 vf Fs)(hr:ScRise L)(hp:ScP L)(hi:InF L Fs)(k:Nat)(hk:k<Fs.length)(g:Nat)(hne:(geta Fs (k:Int)).pl≠ByteArray.empty):T3 Tryz.prog (fun a w=>(Below w0.heap.size w0 w∧FlB w g (geta Fs (k:Int)))∧Fr 40 [(0,vl),(1,vf),(2,.string cap),(7,.int .i64 (sumK L Fs cap k)),(9,.pointer (some ⟨g,0,none⟩)),(10,.int .i64 (hxS L (geta Fs (k:Int)).pl)),(11,vf),(12,.int .i64 Fs.length),(13,.int .i64 (k:Int))] a) (sel [1,1,0,1,4,4,1,1,0,4,1,1,1,0,1,2] lsR) (fun a w=>(Below w0.heap.size w0 w∧FlB w g (geta Fs (k:Int)))∧Fr 40 [(0,vl),(1,vf),(2,.string cap),(7,.int .i64 (sumK L Fs cap k)),(9,.pointer (some ⟨g,0,none⟩)),(10,.int .i64 ((hxS L (geta Fs (k:Int)).pl)*2)),(11,vf),(12,.int .i64 Fs.length),(13,.int .i64 (k:Int))] a) No 9 No:=by
 refine T3.leaf ?_;rintro Q JS JX JT K hS hK hX hE hT hR a w ⟨hW,⟨fr,rfl,q0,q1,q2,q7,q9,q10,q11,q12,q13,_⟩⟩;have hix:=hi.h _ (geta_mem (l:=Fs) (i:=(k:Int)) (by omega) (by omega)) hne;have hhb:=hxS_b hp hix;have hsb:=sumK_b hp (cap:=cap) hi k (by omega);have hn:=hi.n;have HW:=Lib.hid hW;obtain⟨p1,c1,hv1⟩:=hl.r.shape;subst hv1;obtain⟨p2,c2,hv2⟩:=hf.r.shape;subst hv2;clear hW;clear hl hf hp hi hix hne;generalize sumK L Fs cap k=sk at *;generalize hxS L (geta Fs (k:Int)).pl=hh at *;rw [fr_lsR,fe q0,fe q1,fe q2,fe q7,fe q9,fe q10,fe q11,fe q12,fe q13];clear q0 q1 q2 q7 q9 q10 q11 q12 q13;conv=>arg 2;whnf
 go_wp2_with fail
 refine Met.intro (hS _ _ ?_);exact⟨HW.out,Fr.of _ rfl ⟨rfl,rfl,rfl,rfl,rfl,rfl,rfl,rfl,rfl,trivial⟩⟩
theorem lsr9 (hl:ScH w0 vl L)(hf:FlH w0 vf Fs)(hr:ScRise L)(hp:ScP L)(hi:InF L Fs)(k:Nat)(hk:k<Fs.length)(g:Nat)(hne:(geta Fs (k:Int)).pl≠ByteArray.empty)(y:Int)(hy:-2000000≤y∧y≤2000000):T3 Tryz.prog (fun a w=>(Below w0.heap.size w0 w∧FlB w g (geta Fs (k:Int)))∧Fr 40 [(0,vl),(1,vf),(2,.string cap),(7,.int .i64 (sumK L Fs cap k)),(9,.pointer (some ⟨g,0,none⟩)),(10,.int .i64 y),(11,vf),(12,.int .i64 Fs.length),(13,.int .i64 (k:Int))] a) (sel [1,1,0,1,4,4,1,1,0,4,1,1,1,1] lsR) (fun a w=>(Below w0.heap.size w0 w)∧Fr 40 [(0,vl),(1,vf),(2,.string cap),(7,.int .i64 (sumK L Fs cap k+y)),(11,vf),(12,.int .i64 Fs.length),(13,.int .i64 (k:Int))] a) No 9 No:=by
 refine T3.leaf ?_;rintro Q JS JX JT K hS hK hX hE hT hR a w ⟨hW,⟨fr,rfl,q0,q1,q2,q7,q9,q10,q11,q12,q13,_⟩⟩;have hix:=hi.h _ (geta_mem (l:=Fs) (i:=(k:Int)) (by omega) (by omega)) hne;have hhb:=hxS_b hp hix;have hsb:=sumK_b hp (cap:=cap) hi k (by omega);have hn:=hi.n;have HW:=Lib.hid hW.1;obtain⟨p1,c1,hv1⟩:=hl.r.shape;subst hv1;obtain⟨p2,c2,hv2⟩:=hf.r.shape;subst hv2;clear hW hl hf hp hi hix hne hhb;generalize sumK L Fs cap k=sk at *;rw [fr_lsR,fe q0,fe q1,fe q2,fe q7,fe q9,fe q10,fe q11,fe q12,fe q13];clear q0 q1 q2 q7 q9 q10 q11 q12 q13;conv=>arg 2;whnf
 go_wp2_with fail
 refine Met.intro (hS _ _ ?_);exact⟨HW.out,Fr.of _ rfl ⟨rfl,rfl,rfl,rfl,rfl,rfl,rfl,trivial⟩⟩
theorem lsrR (hl:ScH w0 vl L)(hf:FlH w0 vf Fs)(hr:ScRise L)(hp:ScP L)(hi:InF L Fs)(k:Nat)(hk:k<Fs.length):T3 Tryz.prog (fun a w=>(Below w0.heap.size w0 w)∧Fr 40 [(0,vl),(1,vf),(2,.string cap),(7,.int .i64 (sumK L Fs cap k)),(11,vf),(12,.int .i64 Fs.length),(13,.int .i64 (k:Int))] a) (sel [1,1,0,1,4,4,1,1,0] lsR) (fun a w=>(Below w0.heap.size w0 w)∧Fr 40 [(0,vl),(1,vf),(2,.string cap),(7,.int .i64 (sumK L Fs cap (k+1))),(11,vf),(12,.int .i64 Fs.length),(13,.int .i64 (k:Int))] a) No 9 No:=by
 refine T3.blockX (id:=1) (c:=(sel [1,1,0,1,4,4,1,1,0,4] lsR)) ?_;refine T3.seq (s:=(sel [1,1,0,1,4,4,1,1,0,4,0] lsR)) (c:=(sel [1,1,0,1,4,4,1,1,0,4,1] lsR)) ((lsr4 w0 vl vf L Fs cap hl hf hr hp hi k hk).noX) (T3.ex fun g=>?_);refine T3.seq (s:=(sel [1,1,0,1,4,4,1,1,0,4,1,0] lsR)) (c:=(sel [1,1,0,1,4,4,1,1,0,4,1,1] lsR)) (S:=fun a w=>((geta Fs (k:Int)).pl≠ByteArray.empty)∧(Below w0.heap.size w0 w∧FlB w g (geta Fs (k:Int)))∧Fr 40 [(0,vl),(1,vf),(2,.string cap),(7,.int .i64 (sumK L Fs cap k)),(9,.pointer (some ⟨g,0,none⟩)),(11,vf),(12,.int .i64 Fs.length),(13,.int .i64 (k:Int))] a) ?_ (T3.pure fun hne=>?_)
 ·refine T3.test (s:=(sel [1,1,0,1,4,4,1,1,0,4,1,0,0] lsR)) (x:=.exit 1) (y:=.skip) (C:=fun q=>(q=decide ((geta Fs (k:Int)).pl=ByteArray.empty))) (W:=fun w=>Below w0.heap.size w0 w∧FlB w g (geta Fs (k:Int))) (by decide) ((lsr5 w0 vl vf L Fs cap hl hf hr hp hi k hk g).noX) (T3.exit ?_) (T3.skip ?_)
  ·rintro a w ⟨hF,hq,hW⟩;have hv:valF L cap (geta Fs (k:Int))=0:=by unfold valF;rw [if_pos (of_decide_eq_true hq.symm)]
   refine⟨hW.1,?_⟩;show Fr _ _ _;unfold sumK;rw [hv,Int.add_zero];exact hF.sub (by simp)
  ·rintro a w ⟨hq,hW,hF⟩;exact⟨of_decide_eq_false hq.symm,hW,hF⟩
 have hix:=hi.h _ (geta_mem (l:=Fs) (i:=(k:Int)) (by omega) (by omega)) hne;have hhb:=hxS_b hp hix;refine T3.seq (s:=(sel [1,1,0,1,4,4,1,1,0,4,1,1,0] lsR)) (c:=(sel [1,1,0,1,4,4,1,1,0,4,1,1,1] lsR)) ((lsr6 w0 vl vf L Fs cap hl hf hr hp hi k hk g hne).noX) ?_;refine T3.seq (s:=(sel [1,1,0,1,4,4,1,1,0,4,1,1,1,0] lsR)) (c:=(sel [1,1,0,1,4,4,1,1,0,4,1,1,1,1] lsR)) (S:=fun a w=>∃y:Int,(valF L cap (geta Fs (k:Int))=y)∧(Below w0.heap.size w0 w∧FlB w g (geta Fs (k:Int)))∧Fr 40 [(0,vl),(1,vf),(2,.string cap),(7,.int .i64 (sumK L Fs cap k)),(9,.pointer (some ⟨g,0,none⟩)),(10,.int .i64 y),(11,vf),(12,.int .i64 Fs.length),(13,.int .i64 (k:Int))] a) ?_ (T3.ex fun y=>T3.pure fun hy=>?_)
 ·refine T3.test (s:=(sel [1,1,0,1,4,4,1,1,0,4,1,1,1,0,0] lsR)) (x:=(sel [1,1,0,1,4,4,1,1,0,4,1,1,1,0,1,2] lsR)) (y:=.skip) (C:=fun q=>(q=decide ((geta Fs (k:Int)).pl=cap))) (W:=fun w=>Below w0.heap.size w0 w∧FlB w g (geta Fs (k:Int))) (by decide) ((lsr7 w0 vl vf L Fs cap hl hf hr hp hi k hk g).noX) ?_ (T3.skip ?_)
  ·refine T3.pre (R:=fun a w=>((geta Fs (k:Int)).pl=cap)∧(Below w0.heap.size w0 w∧FlB w g (geta Fs (k:Int)))∧Fr 40 [(0,vl),(1,vf),(2,.string cap),(7,.int .i64 (sumK L Fs cap k)),(9,.pointer (some ⟨g,0,none⟩)),(10,.int .i64 (hxS L (geta Fs (k:Int)).pl)),(11,vf),(12,.int .i64 Fs.length),(13,.int .i64 (k:Int))] a) (T3.pure fun he=>((lsr8 w0 vl vf L Fs cap hl hf hr hp hi k hk g hne).noX).post (fun a w q=>⟨_,by unfold valF;rw [if_neg hne,if_pos he],q⟩)) (fun a w ⟨hF,hq,hW⟩=>⟨of_decide_eq_true hq.symm,hW,hF.tail⟩)
  ·rintro a w ⟨hq,hW,hF⟩;exact⟨_,by unfold valF;rw [if_neg hne,if_neg (of_decide_eq_false hq.symm)],hW,hF⟩
 ·have hyb:=valF_b hp (cap:=cap) (x:=(geta Fs (k:Int))) (fun _=>hix);rw [hy]at hyb;refine((lsr9 w0 vl vf L Fs cap hl hf hr hp hi k hk g hne y hyb).noX).post ?_;rintro a w ⟨hW,hF⟩;unfold sumK;rw [hy];exact⟨hW,hF⟩
theorem lsrb (hl:ScH w0 vl L)(hf:FlH w0 vf Fs)(hr:ScRise L)(hp:ScP L)(hi:InF L Fs)(k:Int):T3 Tryz.prog (fun a w=>(0≤k∧k<Fs.length)∧(Below w0.heap.size w0 w)∧Fr 40 [(0,vl),(1,vf),(2,.string cap),(7,.int .i64 (sumK L Fs cap (k:Int).toNat)),(11,vf),(12,.int .i64 Fs.length),(13,.int .i64 k)] a) (sel [1,1,0,1,4,4,1,1,0] lsR) (fun a w=>(0≤k∧k<Fs.length)∧(Below w0.heap.size w0 w)∧Fr 40 [(0,vl),(1,vf),(2,.string cap),(7,.int .i64 (sumK L Fs cap ((k+1):Int).toNat)),(11,vf),(12,.int .i64 Fs.length),(13,.int .i64 k)] a) No 9 No:=by
 refine T3.pure fun hh=>?_
 obtain⟨i,rfl⟩:=Int.eq_ofNat_of_zero_le hh.1;refine T3.mono (lsrR w0 vl vf L Fs cap hl hf hr hp hi i (by omega)) ?_ ?_ (fun _ _ q=>q) (fun _ _ q=>q)
 ·rintro a w ⟨hW,hF⟩;rw [Int.toNat_natCast]at hF;exact⟨hW,hF⟩
 ·rintro a w ⟨hW,hF⟩;refine⟨hh,hW,?_⟩;rw [show((i:Int)+1).toNat=i+1 by omega];exact hF
end
def lsrAI (w0:World)(vl vf:Value)(L:List ScD)(Fs:List FlD)(cap:ByteArray)(hl:ScH w0 vl L)(hf:FlH w0 vf Fs)(hr:ScRise L)(hp:ScP L)(hi:InF L Fs)(k:Int)(a:Act)(w:World):Prop:=(0≤k∧k≤Fs.length)∧(Below w0.heap.size w0 w)∧Fr 40 [(0,vl),(1,vf),(2,.string cap),(7,.int .i64 (sumK L Fs cap (k:Int).toNat)),(11,vf),(12,.int .i64 Fs.length),(13,.int .i64 k)] a
section
variable (w0:World)(vl vf:Value)(L:List ScD)(Fs:List FlD)(cap:ByteArray)(hl:ScH w0 vl L)(hf:FlH w0 vf Fs)(hr:ScRise L)(hp:ScP L)(hi:InF L Fs)
theorem lsrAt (k:Int):T3 Tryz.prog (fun a w=>lsrAI w0 vl vf L Fs cap hl hf hr hp hi k a w) (sel [1,1,0,1,4,4,0] lsR) (fun a w=>∃q,Fr 40 ((14,.bool q)::[(13,.int .i64 k)]) a∧((q=true↔k<Fs.length)∧lsrAI w0 vl vf L Fs cap hl hf hr hp hi k a w)) No 9 No:=by
 refine T3.leaf ?_;rintro Q JS JX JT K hS hK hX hE hT hR a w ⟨hk,hW,⟨fr,rfl,q0,q1,q2,q7,q11,q12,q13,_⟩⟩;have hn9:=hf.n;rw [fr_lsR,fe q0,fe q1,fe q2,fe q7,fe q11,fe q12,fe q13];clear q0 q1 q2 q7 q11 q12 q13;conv=>arg 2;whnf
 by_cases hlt:k<Fs.length
 ·go_wp2_with fail
  refine Met.intro (hS _ _ ?_);exact⟨true,Fr.of _ rfl ⟨rfl,rfl,trivial⟩,⟨fun _=>hlt,fun _=>rfl⟩,hk,hW,Fr.of _ rfl ⟨rfl,rfl,rfl,rfl,rfl,rfl,rfl,trivial⟩⟩
 ·have hpb:decide (k<(Fs.length:Int))=false:=by simp;omega
  go_wp2_with fail
  refine Met.intro (hS _ _ ?_);exact⟨false,Fr.of _ rfl ⟨rfl,rfl,trivial⟩,⟨(fun h=>by cases h),fun h=>absurd h (by omega)⟩,hk,hW,Fr.of _ rfl ⟨rfl,rfl,rfl,rfl,rfl,rfl,rfl,trivial⟩⟩
theorem lsrAn (k:Int):T3 Tryz.prog (fun a w=>(0≤k∧k<Fs.length)∧(Below w0.heap.size w0 w)∧Fr 40 [(0,vl),(1,vf),(2,.string cap),(7,.int .i64 (sumK L Fs cap ((k+1):Int).toNat)),(11,vf),(12,.int .i64 Fs.length),(13,.int .i64 k)] a) (sel [1,1,0,1,4,4,1,1,1] lsR) (fun a w=>lsrAI w0 vl vf L Fs cap hl hf hr hp hi (k+1) a w) No 9 No:=by
 refine T3.leaf ?_;rintro Q JS JX JT K hS hK hX hE hT hR a w ⟨hk,hW,⟨fr,rfl,q0,q1,q2,q7,q11,q12,q13,_⟩⟩;obtain⟨hk0,hk1⟩:=hk;have hn9:=hf.n;rw [fr_lsR,fe q0,fe q1,fe q2,fe q7,fe q11,fe q12,fe q13];clear q0 q1 q2 q7 q11 q12 q13;conv=>arg 2;whnf
 go_wp2_with fail
 refine Met.intro (hS _ _ ?_);exact⟨⟨by omega,by omega⟩,hW,Fr.of _ rfl ⟨rfl,rfl,rfl,rfl,rfl,rfl,rfl,trivial⟩⟩
theorem lsrAloop:T3 Tryz.prog (fun a w=>lsrAI w0 vl vf L Fs cap hl hf hr hp hi 0 a w) (sel [1,1,0,1] lsR) (fun a w=>(Below w0.heap.size w0 w)∧Fr 40 [(7,.int .i64 (sumK L Fs cap Fs.length))] a) No 9 No:=by
 refine T3.loop (c:=(sel [1,1,0,1,4,4] lsR)) (fun ng_ a w=>∃k:Int,(ng_:Int)=Fs.length-k∧lsrAI w0 vl vf L Fs cap hl hf hr hp hi k a w) (fun a w h=>⟨(Fs.length:Int).toNat,0,by have:=h.1.2;omega,h⟩) (fun ng_=>T3.ex fun k=>T3.pure fun hng_=>?_);refine T3.seq (s:=(sel [1,1,0,1,4,4,0] lsR)) (c:=(sel [1,1,0,1,4,4,1] lsR)) ((lsrAt w0 vl vf L Fs cap hl hf hr hp hi k).noX) ?_;refine T3.seq (s:=(sel [1,1,0,1,4,4,1,0] lsR)) (c:=(sel [1,1,0,1,4,4,1,1] lsR)) (S:=fun a w=>(0≤k∧k<Fs.length)∧(Below w0.heap.size w0 w)∧Fr 40 [(0,vl),(1,vf),(2,.string cap),(7,.int .i64 (sumK L Fs cap (k:Int).toNat)),(11,vf),(12,.int .i64 Fs.length),(13,.int .i64 k)] a) ?_ (T3.seq (s:=(sel [1,1,0,1,4,4,1,1,0] lsR)) (c:=(sel [1,1,0,1,4,4,1,1,1] lsR)) (S:=fun a w=>(0≤k∧k<Fs.length)∧(Below w0.heap.size w0 w)∧Fr 40 [(0,vl),(1,vf),(2,.string cap),(7,.int .i64 (sumK L Fs cap ((k+1):Int).toNat)),(11,vf),(12,.int .i64 Fs.length),(13,.int .i64 k)] a) (T3.noX (lsrb w0 vl vf L Fs cap hl hf hr hp hi k)) ?_)
 ·refine T3.cond (o:=.tmp 14) (x:=.skip) (y:=.exit 0) (fun a w=>k<Fs.length∧lsrAI w0 vl vf L Fs cap hl hf hr hp hi k a w) (fun a w=>¬k<Fs.length∧lsrAI w0 vl vf L Fs cap hl hf hr hp hi k a w) ?_ (T3.skip ?_) (T3.exit ?_)
  ·rintro a w ⟨q,hF,hq,hI⟩;have he:=hF.eval 14 (by decide) (v:=.bool q) (by simp);cases q
   ·exact .inr ⟨he,(fun h=>by have:=hq.2 h;cases this),hI⟩
   ·exact .inl ⟨he,hq.1 rfl,hI⟩
  ·rintro a w ⟨hlt,hk,hI⟩;exact⟨⟨hk.1,hlt⟩,hI⟩
  ·rintro a w ⟨hlt,hk,hI⟩;obtain rfl:k=Fs.length:=by omega
   obtain⟨hW,hF⟩:=hI;rw [Int.toNat_natCast]at hF;exact⟨hW,hF.sub (by simp)⟩
 ·intro a w hx;have hk:=hx.1;exact(((lsrAn w0 vl vf L Fs cap hl hf hr hp hi k).noX).post (fun a w q=>⟨ng_-1,by omega,k+1,by omega,q⟩)) a w hx
end
section
variable (w0:World)(vl vf:Value)(L:List ScD)(Fs:List FlD)(cap:ByteArray)
theorem lsr11 (hl:ScH w0 vl L)(hf:FlH w0 vf Fs)(hr:ScRise L)(hp:ScP L)(hi:InF L Fs):T3 Tryz.prog (fun a w=>(Below w0.heap.size w0 w)∧Fr 40 [(7,.int .i64 (sumK L Fs cap Fs.length))] a) (sel [1,1,1,0] lsR) (fun a w=>(Below w0.heap.size w0 w)∧Fr 40 [(6,.int .i64 (sumK L Fs cap Fs.length))] a) No 9 No:=by
 refine T3.leaf ?_;rintro Q JS JX JT K hS hK hX hE hT hR a w ⟨hW,⟨fr,rfl,q7,_⟩⟩;have HW:=Lib.hid hW;obtain⟨p1,c1,hv1⟩:=hl.r.shape;subst hv1;obtain⟨p2,c2,hv2⟩:=hf.r.shape;subst hv2;clear hW;clear hl hf hp hi;generalize sumK L Fs cap Fs.length=sk at *;rw [fr_lsR,fe q7];clear q7;conv=>arg 2;whnf
 go_wp2_with fail
 refine Met.intro (hS _ _ ?_);exact⟨HW.out,Fr.of _ rfl ⟨rfl,trivial⟩⟩
theorem lsr_all (hl:ScH w0 vl L)(hf:FlH w0 vf Fs)(hr:ScRise L)(hp:ScP L)(hi:InF L Fs):T3 Tryz.prog (fun a w=>(Below w0.heap.size w0 w)∧Fr 40 [(0,vl),(1,vf),(2,.string cap)] a) lsR No No 9 (fun a w=>(Below w0.heap.size w0 w)∧Fr 40 [(6,.int .i64 (sumK L Fs cap Fs.length))] a):=by
 refine T3.seq (s:=(sel [0] lsR)) (c:=(sel [1] lsR)) (T3.noT (lsr0 w0 vl vf L Fs cap hl hf hr hp hi)) ?_;refine T3.seq (s:=(sel [1,0] lsR)) (c:=(sel [1,1] lsR)) (T3.noT (lsr1 w0 vl vf L Fs cap hl hf hr hp hi)) ?_;refine T3.seq (s:=(sel [1,1,0] lsR)) (c:=(sel [1,1,1] lsR)) (T3.noT (T3.seq (s:=(sel [1,1,0,0] lsR)) (c:=(sel [1,1,0,1] lsR)) (lsr2 w0 vl vf L Fs cap hl hf hr hp hi) (lsrAloop w0 vl vf L Fs cap hl hf hr hp hi))) ?_;exact T3.seq (s:=(sel [1,1,1,0] lsR)) (c:=.ret) (T3.noT (lsr11 w0 vl vf L Fs cap hl hf hr hp hi)) (T3.ret fun a w q=>q)
theorem sumOf_ref (hl:ScH w0 vl L)(hf:FlH w0 vf Fs)(hr:ScRise L)(hp:ScP L)(hi:InF L Fs):Calls Tryz.prog 20 #[vl,vf,.string cap] w0 fun e w'=>e=.returned (.int .i64 (sumK L Fs cap Fs.length))∧Below w0.heap.size w0 w':=by
 have hall:=lsr_all w0 vl vf L Fs cap hl hf hr hp hi
 go_enter Tryz.func20,Tryz.ntmps20
 refine T3.done (s:=lsR) hall ⟨Below.refl _ _,Fr.of _ rfl ⟨rfl,rfl,rfl,trivial⟩⟩ ?_;rintro a w ⟨hb,fr,rfl,q6,_⟩;rw [fr_lsR,fe q6]
 go_ret
 exact⟨rfl,hb⟩
end
end Go.Proofs.YtnmdpphddimfbaaGreat
