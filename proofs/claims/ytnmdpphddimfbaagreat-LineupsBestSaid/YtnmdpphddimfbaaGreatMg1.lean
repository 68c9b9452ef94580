/-
  Contracts and lemmas towards the statement, of several parts; each part says ahead of it what it holds and under which conditions.
-/
import Derived.WalkKit
import Derived.WalkSpells
import Derived.WalkLawsBesides
import Derived.Lib.Hide
import Derived.Test.YtnmdpphddimfbaaGreatProg
import Derived.Deep.QuietTactic
import Derived.BigQuiet
import Derived.Lib.MinMax
import Derived.Shelf.Small.Strs
import Derived.Shelf.Small.Wraps
import Derived.Shelf.Strings.Search1
import Derived.Shelf.Bits.Mul64
import Derived.Shelf.Slices.Turned
import Derived.Shelf.Slices.Equal
import Derived.Ground.Names2Prog
import Derived.Shelf.Slices.Clone
import Derived.Shelf.Slices.SearchI
import Derived.Shelf.Slices.Empties2
import Derived.Outline
import Derived.Lib.IndexAny
import Derived.Lib.SlicesS
import Derived.OrdersHeld
import Derived.StillTail
import Derived.IntWalk
set_option maxRecDepth 100000
set_option maxHeartbeats 1000000
set_option linter.unusedSectionVars false
set_option linter.unusedVariables false
namespace Go.Bw
open Go.RowKit
theorem fe {f:Nat→Value}{i:Nat}{v:Value}(h:f (i,v).1=(i,v).2):f i=v:=h
/-- The value v is a slice of n elements, sz cells each, whose cells read cs; its block is at or beyond base. -/
def Row (w:World)(base sz:Nat)(v:Value)(n:Nat)(cs:List Value):Prop :=
 cs.length=n*sz ∧
 ((v=.slice none 0 0∧n=0) ∨
  ∃b off cap,v=.slice (some ⟨b,off,none⟩) n cap∧base≤b∧b<w.heap.size∧n≤cap∧cap≤maxLen ∧
   ∀i u,cs[i]?=some u→w.cell? ⟨b,off+i,none⟩=some u)
theorem Row.mono {w:World}{base base' sz n:Nat}{v:Value}{cs:List Value}(h:Row w base sz v n cs)(hb:base'≤base):Row w base' sz v n cs:=by
 obtain⟨h1,h2⟩:=h;refine⟨h1,?_⟩;rcases h2 with h2|⟨b,off,cap,e,hb',r⟩
 ·exact .inl h2
 ·exact .inr ⟨b,off,cap,e,Nat.le_trans hb hb',r⟩
section
variable {w w':World}{base sz n:Nat}{v:Value}{cs:List Value}
include w w' base sz n v cs
theorem Row.grow {row:Option Nat}(h:Row w base sz v n cs)(g:w.grownBy w' row)(hr:∀k,row=some k→k<base):Row w' base sz v n cs:=by
 obtain⟨h1,h2⟩:=h;refine⟨h1,?_⟩;rcases h2 with h2|⟨b,off,cap,e,hb,hlt,hn,hc,hcell⟩
 ·exact .inl h2
 ·refine .inr ⟨b,off,cap,e,hb,Nat.lt_of_lt_of_le hlt g.size,hn,hc,fun i u hu=>?_⟩;rw [World.cell?_of_block (w:=w) (g.block b hlt (fun e=>by have:=hr b e.symm;omega))];exact hcell i u hu
theorem Row.below (h:Row w base sz v n cs)(g:Below w.heap.size w w'):Row w' base sz v n cs :=
 h.grow (row:=none) ⟨g.os,g.tape,g.output,g.size,fun k hk _=>g.block k hk⟩ (by simp)
end
theorem Row.of_owns {w:World}{base e sz n:Nat}{v:Value}{cs:List Value}(h:w.ownsRow base e sz v n cs):Row w base sz v n cs:=by
 refine⟨h.1,?_⟩;rcases h.2 with ⟨h1,h2⟩|⟨g,cap,cur,rfl,hb,hg,hn,hc,_,_⟩
 ·exact .inl ⟨h1,h2⟩
 ·refine .inr ⟨g,0,cap,rfl,hb,(Array.getElem?_eq_some_iff.1 hg).1,hn,hc,fun i u hu=>?_⟩;have:=h.cells (g:=g) rfl i u hu;rw [Addr.add_lit]at this;simpa using this
theorem below_of_grown {w w':World}{row:Option Nat}(g:w.grownBy w' row)(hr:∀k,row=some k→w.heap.size≤k):Below w.heap.size w w' :=
 ⟨g.os,g.tape,g.output,g.size,fun k hk=>g.block k hk (fun e=>by have:=hr k e.symm;omega)⟩
/-- the cell of element k of a row of ints -/
theorem Row.int_at {w:World}{base n:Nat}{v:Value}{xs:List Int}(h:Row w base 1 v n (xs.map (.int .i64))):
  xs.length=n∧((v=.slice none 0 0∧n=0)∨∃b off cap,v=.slice (some ⟨b,off,none⟩) n cap∧base≤b∧b<w.heap.size∧n≤cap∧cap≤maxLen∧∀k,k<n→w.cell? ⟨b,off+k,none⟩=some (.int .i64 (xs[k]?.getD 0))):=by
 obtain⟨h1,h2⟩:=h;simp at h1;refine⟨h1,?_⟩;rcases h2 with h2|⟨b,off,cap,e,hb,hlt,hn,hc,hcell⟩
 ·exact .inl h2
 ·refine .inr ⟨b,off,cap,e,hb,hlt,hn,hc,fun k hk=>hcell k _ ?_⟩;have:k<xs.length:=by omega
  simp [this]
/-- Element i of a list of ints, at an Int index (a plain def: the walk does not open it). -/
def geti (l:List Int)(i:Int):Int:=l[i.toNat]?.getD 0
theorem Row.ints {w:World}{base n:Nat}{v:Value}{xs:List Int}(h:Row w base 1 v n (xs.map (.int .i64))):
  xs.length=n∧((v=.slice none 0 0∧n=0)∨∃b off cap,v=.slice (some ⟨b,off,none⟩) n cap∧base≤b∧b<w.heap.size∧n≤cap∧cap≤maxLen∧∀i:Int,0≤i→i<n→w.cell? ⟨b,off+i.toNat,none⟩=some (.int .i64 (geti xs i))):=by
 obtain⟨h1,h2⟩:=h.int_at;refine⟨h1,?_⟩;rcases h2 with h2|⟨b,off,cap,e,hb,hlt,hn,hc,hcell⟩
 ·exact .inl h2
 ·exact .inr ⟨b,off,cap,e,hb,hlt,hn,hc,fun i h0 hi=>hcell i.toNat (by omega)⟩
/-- v is a slice of the n numbers zs, whose block (if there are any) lies below B. -/
def SRow (w:World)(v:Value)(n:Nat)(zs:List Int)(B:Nat):Prop :=
 (n=0∧∃a c,v=.slice a 0 c)∨(Row w 0 1 v n (zs.map (.int .i64))∧∀k,v.ownBlock=some k→k<B)
/-- Block B holds a stream: a list of numbers (in a block below B) and how many were drawn, at most b. -/
def Str (B:Nat)(w:World)(b:Nat):Prop :=
 ∃(v:Value) (n:Nat) (zs:List Int) (t:Int),w.cell? ⟨B,0,none⟩=some v∧w.cell? ⟨B,1,none⟩=some (.int .i64 t)∧w.frozen? ⟨B,1,none⟩=false ∧
  0≤t∧t≤b∧SRow w v n zs B
theorem Str.lt {B b:Nat}{w:World}(h:Str B w b):B<w.heap.size:=by
 obtain⟨v,n,zs,t,h0,_⟩:=h;exact World.block_lt_of_cell? w _ h0
theorem Str.mono {B b b':Nat}{w:World}(h:Str B w b)(hb:b≤b'):Str B w b':=by
 obtain⟨v,n,zs,t,h0,h1,h2,h3,h4,r⟩:=h;exact⟨v,n,zs,t,h0,h1,h2,h3,by omega,r⟩
theorem Row.swap {w w':World}{base sz n:Nat}{v:Value}{cs:List Value}(h:Row w base sz v n cs)(hb:∀k,v.ownBlock=some k→w'.heap[k]?=w.heap[k]?)(hs:w.heap.size≤w'.heap.size):Row w' base sz v n cs:=by
 obtain⟨h1,h2⟩:=h;refine⟨h1,?_⟩;rcases h2 with h2|⟨b,off,cap,rfl,hb',hlt,hn,hc,hcell⟩
 ·exact .inl h2
 ·refine .inr ⟨b,off,cap,rfl,hb',Nat.lt_of_lt_of_le hlt hs,hn,hc,fun i u hu=>?_⟩;rw [World.cell?_of_block (w:=w) (hb b rfl)];exact hcell i u hu
theorem SRow.swap {w w':World}{v:Value}{n B:Nat}{zs:List Int}(h:SRow w v n zs B)(hb:∀k,k<B→w'.heap[k]?=w.heap[k]?)(hs:w.heap.size≤w'.heap.size):SRow w' v n zs B:=by
 rcases h with h|⟨h,hk⟩
 ·exact .inl h
 ·exact .inr ⟨h.swap (fun k e=>hb k (hk k e)) hs,hk⟩
/-- What leaves block B and the blocks below it alone leaves the stream. -/
theorem Str.below {B b:Nat}{w w':World}(h:Str B w b)(g:Below w.heap.size w w'):Str B w' b:=by
 have hlt:=h.lt;obtain⟨v,n,zs,t,h0,h1,h2,h3,h4,h5⟩:=h;exact⟨v,n,zs,t,(g.cell (p:=⟨B,0,none⟩) hlt).trans h0,(g.cell (p:=⟨B,1,none⟩) hlt).trans h1,(g.frozen (p:=⟨B,1,none⟩) hlt).trans h2,h3,h4,
  h5.swap (fun k hk=>g.block k (Nat.lt_trans hk hlt)) g.size⟩
theorem grown_setCell (w:World)(B o:Nat)(u:Value):w.grownBy (w.setCell ⟨B,o,none⟩ u) (some B) :=
 ⟨rfl,rfl,rfl,by simp [World.setCell],fun k _ hk=>Below.heap_setCell _ _ _ _ (fun e=>hk (by simp [e]))⟩
theorem grown_trans {w w1 w2:World}{row:Option Nat}(g:w.grownBy w1 row)(g':w1.grownBy w2 row):w.grownBy w2 row :=
 ⟨g'.os.trans g.os,g'.tape.trans g.tape,g'.output.trans g.output,Nat.le_trans g.size g'.size,fun k hk hr=>(g'.block k (Nat.lt_of_lt_of_le hk g.size) hr).trans (g.block k hk hr)⟩
theorem grown_of_below {w w':World}{row:Option Nat}(g:Below w.heap.size w w'):w.grownBy w' row :=
 ⟨g.os,g.tape,g.output,g.size,fun k hk _=>g.block k hk⟩
theorem grown_refl (w:World)(row:Option Nat):w.grownBy w row:=⟨rfl,rfl,rfl,Nat.le_refl _,fun _ _ _=>rfl⟩
theorem grown_drewN {w w':World}{row:Option Nat}(g:w.grownBy w' row)(k:Nat):w.grownBy (w'.drewN k) row :=
 ⟨g.os,g.tape,g.output,g.size,g.block⟩
theorem Str.drewN {B b:Nat}{w:World}(h:Str B w b)(k:Nat):Str B (w.drewN k) b:=h
/-- What the program's table says of a slice type t of elements e. -/
structure Elem (P:Program)(t e:TypeId)(z:Value)(size bytes:Nat):Prop where
 ht:P.underlying t=some (.slice e)
 hi:(P.info? e).map (fun i=>(i.zero,i.size,i.bytes))=some (some z,size,bytes)
 hz:z.cells.size=size
 hs:0<size
 hb:bytes≤128
/-- append of news to a slice that the call owns. -/
theorem app_law {P:Program}{ops:Array Oper}{rest:List Oper}{o:Oper}{a:Act}{Q:Exit→Act→World→Prop}{W:World}(hgd:o.guard=none)(s x:Operand)(t:TypeId)(ho:o.op=.call { callee:=.builtin .append,args:=#[s,x],argTypes:=#[t,t] }){e:TypeId}{z:Value}{size bytes:Nat}(E:Elem P t e z size bytes){base:Nat}{v:Value}{n:Nat}{xs:List Value}(hown:W.ownsRow base e size v n xs)(hs:a.eval s=v){g m c:Nat}(news:List Value)(hx:a.eval x=.slice (some ⟨g,0,none⟩) m c)(hl:news.length=m*size)(hnews:∀j u,news[j]?=some u→W.cell? ⟨g,j,none⟩=some u)(h1:∀u∈news,u.oneCell'=true)(hlim:n+m≤1099511627776)(hbase:base≤W.heap.size)(h:∀v' w',w'.ownsRow base e size v' (n+m) (xs++news)→W.grownBy w' v.ownBlock→wpList P ops Q rest (a.put o.dst v') w'):wpList P ops Q (o::rest) a W:=by
 obtain⟨i,hi,hz0,hz1,hz2⟩:=info_parts E.hi;refine wpList_append_own W hgd s x t ho base e i z size bytes E.ht hi hz0 hz1 hz2 E.hz E.hs v n xs hs hown ⟨g,0,none⟩ m c news hx hl (fun j u hj=>?_) h1 (by unfold maxLen;omega) ?_ hbase (fun v' w' h1 h2 _=>h v' w' h1 h2)
 ·rw [Addr.add_lit]
  simpa using hnews j u hj
 ·have:=Nat.mul_le_mul hlim E.hb;omega
theorem owns_shape {w:World}{base e sz n:Nat}{v:Value}{xs:List Value}(h:w.ownsRow base e sz v n xs)(hn:0<n):∃g cap,v=.slice (some ⟨g,0,none⟩) n cap∧base≤g∧g<w.heap.size∧n≤cap∧cap≤maxLen:=by
 rcases h.2 with ⟨_,rfl⟩|⟨g,cap,cur,rfl,hb,hg,h1,h2,_⟩
 ·omega
 ·exact⟨g,cap,rfl,hb,(Array.getElem?_eq_some_iff.1 hg).1,h1,h2⟩
theorem owns_mono {w:World}{base base' e sz n:Nat}{v:Value}{xs:List Value}(h:w.ownsRow base e sz v n xs)(hb:base'≤base):w.ownsRow base' e sz v n xs:=by
 refine⟨h.1,?_⟩;rcases h.2 with h2|⟨g,cap,cur,rfl,hb',r⟩
 ·exact .inl h2
 ·exact .inr ⟨g,cap,cur,rfl,Nat.le_trans hb hb',r⟩
/-- What lies below base, or is owned from base on: below B. -/
theorem below_grown {B base e sz n:Nat}{w0 w w':World}{v:Value}{cs:List Value}(hB:Below B w0 w)(h:w.ownsRow base e sz v n cs)(g:w.grownBy w' v.ownBlock)(hb:B≤base)(hs:B≤w.heap.size):Below B w0 w' :=
 hB.grown g hs (fun k hk=>Nat.le_trans hb (h.lt k hk).1)
theorem owns_below {w w':World}{B base e sz n:Nat}{v:Value}{cs:List Value}(h:w.ownsRow base e sz v n cs)(g:Below B w w')(hB:w.heap.size≤B):w'.ownsRow base e sz v n cs :=
 h.kept (row:=none) ⟨g.os,g.tape,g.output,g.size,fun k hk _=>g.block k (by omega)⟩ (by cases hv:v.ownBlock <;> simp)
/-- The number of elements of a slice. -/
def lenOf:Value→Nat | .slice _ n _=>n|_=>0
/-- A slice literal of ints: one block, whole. -/
theorem owns_lit (w:World)(base e:TypeId)(cs:Array Value)(n:Nat)(hn:n≤1099511627776)(hs:cs.size=n)(hb:base≤w.heap.size):
  (w.alloc (.cells cs e)).ownsRow base e 1 (.slice (some ⟨w.heap.size,0,none⟩) n n) n cs.toList :=
 ⟨by simp [hs],.inr ⟨w.heap.size,n,cs,rfl,hb,heap_alloc_new w _,Nat.le_refl _,by unfold maxLen;omega,by simp [hs],by rw [List.take_of_length_le (by simp [hs])]⟩⟩
section
variable (w:World)(cs:Array Value)(e:TypeId)
include w cs e
theorem cells_new:∀ j u,cs.toList[j]?=some u→(w.alloc (.cells cs e)).cell? ⟨w.heap.size,j,none⟩=some u:=by
 intro j u h;rw [World.cell?_alloc_at _ _ _ _ rfl]
 simpa using h
theorem cells_at (g:Nat)(hg:g=w.heap.size):∀j u,cs.toList[j]?=some u→(w.alloc (.cells cs e)).cell? ⟨g,j,none⟩=some u:=by
 subst hg;exact cells_new w cs e
end
/-- One step of a stream. -/
theorem Str.step {B b:Nat}{w:World}{v:Value}{n:Nat}{zs:List Int}{t:Int}(h0:w.cell? ⟨B,0,none⟩=some v)(h1:w.cell? ⟨B,1,none⟩=some (.int .i64 t))(h2:w.frozen? ⟨B,1,none⟩=false)(h3:0≤t)(h4:t≤b)(h5:SRow w v n zs B):
  Str B (w.setCell ⟨B,1,none⟩ (.int .i64 (t+1))) (b+1):=by
 refine⟨v,n,zs,t+1,?_,?_,?_,by omega,by omega,h5.swap (fun k hk=>Below.heap_setCell _ _ _ _ (fun e=>by simp at e;omega)) (by simp [World.setCell])⟩
 ·rw [World.cell?_setCell_other _ _ _ _ (by simp)];exact h0
 ·exact World.cell?_setCell_same' _ _ _ (by rw [h1];rfl)
 ·rw [World.frozen?_setCell];exact h2
/-- The cells of an owned row of ints. -/
theorem owns_sizes {w:World}{base e n sz g cap:Nat}{xs:List Value}(h:w.ownsRow base e sz (.slice (some ⟨g,0,none⟩) n cap) n xs):base≤g∧g<w.heap.size∧n≤cap∧cap≤9223372036854775807:=by
 rcases h.2 with ⟨h,_⟩|⟨g',cap',cur,h,hb,hg,h1,h2,_⟩
 ·cases h
 ·simp only [Value.slice.injEq,Option.some.injEq,Addr.mk.injEq]at h;obtain⟨⟨rfl,_⟩,_,rfl⟩:=h;exact⟨hb,(Array.getElem?_eq_some_iff.1 hg).1,h1,by unfold maxLen at h2;omega⟩
theorem ints_of_owns {w:World}{base e n g cap:Nat}{xs:List Int}(h:w.ownsRow base e 1 (.slice (some ⟨g,0,none⟩) n cap) n (xs.map (.int .i64))):
  ∀i:Int,0≤i→i<xs.length→w.cell? ⟨g,i.toNat,none⟩=some (.int .i64 (geti xs i)):=by
 intro i h0 h1;have:=h.cells (g:=g) rfl i.toNat (.int .i64 (geti xs i)) (by unfold geti;rw [List.getElem?_map,List.getElem?_eq_getElem (by omega)];simp);rw [Addr.add_lit]at this
 simpa using this
theorem ret_int {k:IntKind}{a b:Int}(h:a=b):Ending.returned (.int k a)=.returned (.int k b):=by rw [h]
theorem ret_bool {a b:Bool}(h:a=b):Ending.returned (.bool a)=.returned (.bool b):=by rw [h]
theorem below_drewN {B:Nat}{w w':World}(h:Below B w w')(k:Nat):Below B w (w'.drewN k):=⟨h.os,h.tape,h.output,h.size,h.block⟩
/-- The first of the codes f 0, f 1, .. that is not 0. -/
def firstErr (f:Int→Int)(n:Int):Int:=(((List.range n.toNat).map (fun(j:Nat)=>f j)).find? (fun x=>x != 0)).getD 0
def NoErr (f:Int→Int)(i:Int):Prop:=∀j:Int,0≤j→j<i→f j=0
theorem NoErr.zero (f:Int→Int):NoErr f 0:=fun _ _ _=>by omega
section
variable {f:Int→Int}
include f
theorem NoErr.step {i:Int}(h:NoErr f i)(hf:f i=0):NoErr f (i+1):=fun j h0 h1=>by
 by_cases e:j=i
 ·subst e;exact hf
 ·exact h j h0 (by omega)
theorem firstErr_none {n:Int}(h:NoErr f n):firstErr f n=0:=by
 unfold firstErr;rw [List.find?_eq_none.2]
 ·rfl
 ·intro x hx;obtain⟨j,hj,rfl⟩:=List.mem_map.1 hx;simp [h j (by omega) (by have:=List.mem_range.1 hj;omega)]
theorem firstErr_hit {n i:Int}(h:NoErr f i)(h0:0≤i)(h1:i<n)(hf:f i≠0):firstErr f n=f i:=by
 unfold firstErr;have e:List.range n.toNat=List.range i.toNat++i.toNat::(List.range (n.toNat-i.toNat-1)).map (·+(i.toNat+1)):=by
  have:n.toNat=i.toNat+(1+(n.toNat-i.toNat-1)):=by omega
  rw [this,List.range_add,List.range_add];simp [List.range_one,Function.comp_def];intro a _;omega
 rw [e,List.map_append,List.find?_append];have hn:List.find? (fun x=>x != 0) ((List.range i.toNat).map fun(j:Nat)=>f j)=none:=by
  rw [List.find?_eq_none];intro x hx;obtain⟨j,hj,rfl⟩:=List.mem_map.1 hx;simp [h j (by omega) (by have:=List.mem_range.1 hj;omega)]
 rw [hn];simp [show((i.toNat:Nat):Int)=i by omega,hf]
theorem firstErr_zero {n:Int}(h:firstErr f n=0)(i:Int)(h0:0≤i)(h1:i<n):f i=0:=by
 by_cases hi:f i=0
 ·exact hi
 ·exfalso
  have key:∀m:Nat,(m:Int)≤i→(∀j:Int,0≤j→j<m→f j=0)∨∃k:Int,0≤k∧k<n∧NoErr f k∧f k≠0:=by
   intro m
   induction m with
   | zero=>exact fun _=>.inl fun j a b=>by omega
   | succ m ih =>
    intro hm;rcases ih (by omega)with a|a
    ·by_cases hf:f m=0
     ·exact .inl fun j b c=>by
       by_cases e:j=m
       ·subst e;exact hf
       ·exact a j b (by omega)
     ·exact .inr ⟨m,by omega,by omega,fun j b c=>a j b c,hf⟩
    ·exact .inr a
  rcases key i.toNat (by omega)with a|⟨k,a,b,c,d⟩
  ·have:=firstErr_hit (f:=f) (n:=n) (i:=i) (fun j b c=>a j b (by omega)) h0 h1 hi;rw [h]at this;exact hi this.symm
  ·have:=firstErr_hit c a b d;rw [h]at this;exact d this.symm
end
/-- A part of a row of ints. -/
def subl (l:List Int)(lo hi:Int):List Int:=(l.take hi.toNat).drop lo.toNat
theorem Row.sub {w:World}{base n cap b off:Nat}{l:List Int}(h:Row w base 1 (.slice (some ⟨b,off,none⟩) n cap) n (l.map (.int .i64)))(lo hi:Int)(h0:0≤lo)(h1:lo≤hi)(h2:hi≤n):
  Row w base 1 (.slice (some ⟨b,off+lo.toNat,none⟩) (hi-lo).toNat (cap-lo.toNat)) (hi-lo).toNat ((subl l lo hi).map (.int .i64)):=by
 obtain⟨hl,h⟩:=h;rcases h with ⟨h,_⟩|⟨b',off',cap',h,hb,hlt,hn,hc,hcell⟩
 ·cases h
 ·simp only [Value.slice.injEq,Option.some.injEq,Addr.mk.injEq]at h;obtain⟨⟨rfl,rfl,_⟩,_,rfl⟩:=h;simp at hl;refine⟨by simp [subl];omega,.inr ⟨b,off+lo.toNat,cap-lo.toNat,rfl,hb,hlt,by omega,by unfold maxLen at *;omega,fun i u hu=>?_⟩⟩;have hi:i<(subl l lo hi).length:=by
   rw [List.getElem?_map]at hu;cases hx:(subl l lo hi)[i]? with
   | none=>rw [hx]at hu;cases hu
   | some x=>exact(List.getElem?_eq_some_iff.1 hx).1
  have:=hcell (lo.toNat+i) u (by
   rw [List.getElem?_map]at hu ⊢;rw [←hu]
   congr 1
   unfold subl at hi ⊢;rw [List.getElem?_drop,List.getElem?_take,if_pos];simp at hi;omega)
  rwa [←Nat.add_assoc]at this
end Go.Bw
/-
  The numbers that a stream hands out, and the small functions on numbers. Conditions: the bounds on numbers that each theorem names.
-/
namespace Go.Proofs.YtnmdpphddimfbaaGreat
open Go.RowKit Go.Bw
set_option maxHeartbeats 400000 in
theorem out_true (n low high:Int)(w:World)(h:n<low∨high<n):
  Calls Tryz.prog 101 #[.int .i64 n,.int .i64 low,.int .i64 high] w fun e w'=>e=.returned (.bool true)∧w=w':=by
 rcases h with h|h
 ·go_enter Tryz.func101,Tryz.ntmps101
  go_wp2
  go_ret
  exact⟨by simp,rfl⟩
 ·by_cases h2:n<low
  ·go_enter Tryz.func101,Tryz.ntmps101
   go_wp2
   go_ret
   exact⟨by simp,rfl⟩
  ·go_enter Tryz.func101,Tryz.ntmps101
   go_wp2
   go_ret
   exact⟨by simp,rfl⟩
set_option maxHeartbeats 400000 in
theorem out_false (n low high:Int)(w:World)(h:low≤n)(h':n≤high):
  Calls Tryz.prog 101 #[.int .i64 n,.int .i64 low,.int .i64 high] w fun e w'=>e=.returned (.bool false)∧w=w':=by
 go_enter Tryz.func101,Tryz.ntmps101
 go_wp2
 go_ret
 exact⟨by simp;omega,rfl⟩
/-- Is n outside low to high? -/
def outB (n low high:Int):Bool:=decide (n<low∨high<n)
theorem out_any (n low high:Int)(w:World):
  Calls Tryz.prog 101 #[.int .i64 n,.int .i64 low,.int .i64 high] w fun e w'=>e=.returned (.bool (outB n low high))∧w=w':=by
 by_cases h:n<low∨high<n
 ·have:outB n low high=true:=by simp [outB,h]
  rw [this];exact out_true n low high w h
 ·have:outB n low high=false:=by simp [outB];omega
  rw [this];exact out_false n low high w (by omega) (by omega)
theorem tmod_bounds (x n:Int)(h:1≤n):-n<x.tmod n∧x.tmod n<n:=by
 have h2:x.tmod n<n:=Int.tmod_lt_of_pos _ (by omega);have h3:(-x).tmod n<n:=Int.tmod_lt_of_pos _ (by omega);rw [Int.neg_tmod]at h3;omega
set_option maxHeartbeats 400000 in
theorem below_any (x n:Int)(w:World)(hn:n≤1099511627776):
  Calls Tryz.prog 81 #[.int .i64 x,.int .i64 n] w fun e w'=>∃r:Int,e=.returned (.int .i64 r)∧(n<1→r=0)∧(1≤n→0≤r∧r<n)∧w=w':=by
 by_cases h:n<1
 ·go_enter Tryz.func81,Tryz.ntmps81
  go_wp2
  go_ret
  exact⟨0,rfl,fun _=>rfl,by omega,rfl⟩
 ·obtain⟨h1,h2⟩:=tmod_bounds x n (by omega)
  by_cases h3:x.tmod n<0
  ·go_enter Tryz.func81,Tryz.ntmps81
   go_wp2
   go_ret
   exact⟨_,rfl,by omega,by omega,rfl⟩
  ·go_enter Tryz.func81,Tryz.ntmps81
   go_wp2
   go_ret
   exact⟨_,rfl,by omega,by omega,rfl⟩
theorem next_any (B b:Nat)(n:Int)(w:World)(hn:n≤1099511627776)(hS:Str B w b)(hb:b≤1099511627776):
  Calls Tryz.prog 38 #[.pointer (some ⟨B,0,none⟩),.int .i64 n] w fun e w'=>∃r:Int,e=.returned (.int .i64 r)∧(n<1→r=0)∧(1≤n→0≤r∧r<n) ∧
   Str B w' (b+1)∧w.grownBy w' (some B):=by
 have hS0:=hS;obtain⟨v,m,zs,t,h0,h1,h2,h3,h4,h5'⟩:=hS;have hst:=Str.step h0 h1 h2 h3 h4 h5';have c0:(w.setCell ⟨B,1,none⟩ (.int .i64 (t+1))).cell? ⟨B,0,none⟩=some v:=by rw [World.cell?_setCell_other _ _ _ _ (by simp)];exact h0
 have c1:(w.setCell ⟨B,1,none⟩ (.int .i64 (t+1))).cell? ⟨B,1,none⟩=some (.int .i64 (t+1)):=World.cell?_setCell_same' _ _ _ (by rw [h1];rfl);have ht:t≤1099511627776:=by omega
 have hv:∃a cap,v=.slice a m cap:=by
  rcases h5' with ⟨rfl,a,c,rfl⟩|⟨h5,h6⟩
  ·exact⟨_,_,rfl⟩
  ·rcases h5.2 with ⟨rfl,rfl⟩|⟨bz,off,cap,rfl,_⟩
   ·exact⟨_,_,rfl⟩
   ·exact⟨_,_,rfl⟩
 by_cases hm0:m=0
 ·obtain⟨a,cap,rfl⟩:=hv;subst hm0;clear h5' hS0
  go_enter Tryz.func38,Tryz.ntmps38
  go_wp2_with (go_at_call 81;refine(below_any _ _ _ hn).mono ?_;rintro e w1 ⟨r,rfl,hr0,hr1,rfl⟩)
  go_ret
  exact⟨_,rfl,hr0,hr1,hst,grown_setCell _ _ _ _⟩
 ·clear hv;rcases h5' with ⟨h,_⟩|⟨h5,h6⟩
  ·exact absurd h hm0
  obtain⟨hlen,hcase⟩:=h5.ints;rcases hcase with ⟨rfl,h⟩|⟨bz,off,cap,rfl,hbb,hbs,hnc,hcm,hcell⟩
  ·exact absurd h hm0
  ·have hbB:bz<B:=h6 bz rfl;have hi0:0≤t % m:=Int.emod_nonneg _ (by omega);have hi1:t % m<m:=Int.emod_lt_of_pos _ (by omega);have hc:(w.setCell ⟨B,1,none⟩ (.int .i64 (t+1))).cell? ⟨bz,off+(t % m).toNat,none⟩=some (.int .i64 (geti zs (t % m))):=by
    rw [World.cell?_setCell_other _ _ _ _ (by simp)];exact hcell _ hi0 hi1
   have hmp:((m:Int)==0)=false:=by simp;omega
   have hm64:(m:Int)≤9223372036854775807:=by unfold maxLen at hcm;omega
   clear hcell h6 h5 hS0 hlen;unfold maxLen at hcm
   go_enter Tryz.func38,Tryz.ntmps38
   go_wp2_with (go_at_call 81;refine(below_any _ _ _ (by first|exact hn|omega)).mono ?_;rintro e w1 ⟨r,rfl,hr0,hr1,rfl⟩)
   go_quiet (fail)
   go_wp2_with fail
   go_quiet (fail)
   go_wp2_with (go_at_call 81;refine(below_any _ _ _ (by first|exact hn|omega)).mono ?_;rintro e w1 ⟨r,rfl,hr0,hr1,rfl⟩)
   go_ret
   exact⟨_,rfl,hr0,hr1,hst.drewN _,grown_drewN (grown_setCell _ _ _ _) _⟩
set_option maxHeartbeats 400000 in
/-- Range: a number from low to high. -/
theorem range_any (B b:Nat)(low high:Int)(w:World)(hl:-1099511627000≤low)(hl':low≤549755813888)(hh:high≤549755813888)(hlo:high-low≤1099511627000)(hS:Str B w b)(hb:b≤1099511627776):
  Calls Tryz.prog 79 #[.pointer (some ⟨B,0,none⟩),.int .i64 low,.int .i64 high] w fun e w'=>∃r:Int,e=.returned (.int .i64 r)∧low≤r∧(low≤high→r≤high)∧(high<low→r=low) ∧
   Str B w' (b+1)∧w.grownBy w' (some B):=by
 by_cases h:high<low
 ·go_enter Tryz.func79,Tryz.ntmps79
  go_wp2
  go_ret
  exact⟨_,rfl,by omega,by omega,by omega,hS.mono (by omega),grown_refl _ _⟩
 ·go_enter Tryz.func79,Tryz.ntmps79
  go_wp2_with (go_at_call 38;refine(next_any B b _ _ (by omega) hS hb).mono ?_;rintro e w1 ⟨r,rfl,hr0,hr1,hS1,hg1⟩;have hrl:=(hr1 (by omega)).1;have hrh:=(hr1 (by omega)).2)
  go_ret
  exact⟨_,rfl,by omega,by omega,by omega,hS1,hg1⟩
set_option maxHeartbeats 400000 in
theorem flip_any (B b:Nat)(n:Int)(w:World)(hn:n≤1099511627776)(hS:Str B w b)(hb:b≤1099511627776):
  Calls Tryz.prog 37 #[.pointer (some ⟨B,0,none⟩),.int .i64 n] w fun e w'=>∃r:Bool,e=.returned (.bool r)∧Str B w' (b+1)∧w.grownBy w' (some B):=by
 go_enter Tryz.func37,Tryz.ntmps37
 go_wp2_with (go_at_call 38;refine(next_any B b _ _ hn hS hb).mono ?_;rintro e w1 ⟨r,rfl,hr0,hr1,hS1,hg1⟩)
 go_ret
 exact⟨_,rfl,hS1,hg1⟩
set_option maxHeartbeats 400000 in
/-- Pick: one of some numbers. -/
theorem pick_any (B b:Nat)(v:Value)(n:Nat)(xs:List Int)(w:World)(hx:Row w 0 1 v n (xs.map (.int .i64)))(hn0:0<n)(hn:n≤1099511627776)(hB:∀k,v.ownBlock=some k→k≠B)(hS:Str B w b)(hb:b≤1099511627776):
  Calls Tryz.prog 82 #[.pointer (some ⟨B,0,none⟩),v] w fun e w'=>∃r:Int,e=.returned (.int .i64 r)∧r∈xs∧Str B w' (b+1)∧w.grownBy w' (some B):=by
 obtain⟨hlen,hcase⟩:=hx.ints;rcases hcase with ⟨rfl,h⟩|⟨bz,off,cap,rfl,hbb,hbs,hnc,hcm,hcell⟩
 ·omega
 ·have hne:bz≠B:=hB bz rfl;clear hB hx;unfold maxLen at hcm
  go_enter Tryz.func82,Tryz.ntmps82
  go_wp2_with (go_at_call 38;refine(next_any B b _ _ (by omega) hS hb).mono ?_;rintro e w1 ⟨r,rfl,hr0,hr1,hS1,hg1⟩;have hrl:=(hr1 (by omega)).1;have hrh:=(hr1 (by omega)).2;have hc:=(World.cell?_of_block (a:=⟨bz,off+r.toNat,none⟩) (hg1.block bz hbs (by simpa using hne))).trans (hcell r hrl hrh);clear hcell)
  go_ret
  exact⟨_,rfl,by unfold geti;rw [List.getElem?_eq_getElem (by omega)];simp,hS1,hg1⟩
set_option maxHeartbeats 400000 in
theorem in_any (n low high:Int)(w:World):
  Calls Tryz.prog 90 #[.int .i64 n,.int .i64 low,.int .i64 high] w fun e w'=>e=.returned (.bool (!outB n low high))∧w=w':=by
 by_cases h1:n<low
 ·have h2:outB n low high=true:=by simp [outB,h1]
  rw [h2]
  go_enter Tryz.func90,Tryz.ntmps90
  go_wp2
  go_ret
  exact⟨by simp <;> omega,rfl⟩
 ·by_cases h3:high<n
  ·have h2:outB n low high=true:=by simp [outB,h3]
   rw [h2]
   go_enter Tryz.func90,Tryz.ntmps90
   go_wp2
   go_ret
   exact⟨by simp <;> omega,rfl⟩
  ·have h2:outB n low high=false:=by simp [outB];omega
   rw [h2]
   go_enter Tryz.func90,Tryz.ntmps90
   go_wp2
   go_ret
   exact⟨by simp <;> omega,rfl⟩
end Go.Proofs.YtnmdpphddimfbaaGreat
/-
  The library's contracts at this program, as the kit's tool lays them in plain words. No condition.
-/
namespace Go.Proofs
open Go.Shelf
def Tryz.lays213_ren:Go.Shelf.Ren:=⟨fun | 213=>114|265=>122|n=>n,fun|9=>9|3=>3|n=>n,fun|n=>n⟩
def Tryz.lays106_ren:Go.Shelf.Ren:=⟨fun | 106=>104|213=>114|265=>122|n=>n,fun|9=>9|3=>3|n=>n,fun|n=>n⟩
theorem Tryz.lays106:Go.Proofs.Lays.n106 Tryz.prog Tryz.lays106_ren:={
 mixed:=by kernel_rfl
 f106:=Tryz.func104.trans (congrArg some (by kernel_rfl))
 f213:=Tryz.func114.trans (congrArg some (by kernel_rfl))
 f265:=Tryz.func122.trans (congrArg some (by kernel_rfl))
 t3:=Tryz.underlying3
 a3:=Tryz.isAgg3
 z3:=Tryz.sizeOf3
 v3:=Tryz.zeroValue3
 t9:=Tryz.underlying9
 a9:=Tryz.isAgg9
 z9:=Tryz.sizeOf9
 v9:=Tryz.zeroValue9 }
open Go.RowKit in
/-- strings.Compare: "Compare returns an integer comparing two strings lexicographically. The result will be 0 if a == b, -1 if a < b, and +1 if a > b.": IT RETURNS 'Lib.compareBytes a b'; the world is as it was. (LAID: no walk: one application.) -/
theorem Tryz.strings_Compare (a b:ByteArray)(w:World):
  Calls Tryz.prog 104 #[.string a,.string b] w fun e w'=>e=.returned (.int .i64 (Lib.compareBytes a.data.toList b.data.toList))∧w'=w:=Any.strings_Compare Tryz.lays106 a b w
def Tryz.lays137_ren:Go.Shelf.Ren:=⟨fun | 137=>112|217=>120|266=>126|n=>n,fun|9=>9|5=>5|3=>3|n=>n,fun|n=>n⟩
theorem Tryz.lays137:Go.Proofs.Lays.n137 Tryz.prog Tryz.lays137_ren:={
 mixed:=by kernel_rfl
 f137:=Tryz.func112.trans (congrArg some (by kernel_rfl))
 f217:=Tryz.func120.trans (congrArg some (by kernel_rfl))
 f266:=Tryz.func126.trans (congrArg some (by kernel_rfl))
 t3:=Tryz.underlying3
 a3:=Tryz.isAgg3
 z3:=Tryz.sizeOf3
 v3:=Tryz.zeroValue3
 t5:=Tryz.underlying5
 a5:=Tryz.isAgg5
 z5:=Tryz.sizeOf5
 v5:=Tryz.zeroValue5
 t9:=Tryz.underlying9
 a9:=Tryz.isAgg9
 z9:=Tryz.sizeOf9
 v9:=Tryz.zeroValue9 }
open Go.RowKit in
/-- strings.IndexByte: "IndexByte returns the index of the first instance of c in s, or -1 if c is not present in s.": IT RETURNS 'Lib.indexByte s c'; the world is as it was. (LAID: no walk: one application.) -/
theorem Tryz.strings_IndexByte (s:ByteArray)(c:Int)(w:World):
  Calls Tryz.prog 112 #[.string s,.int .u8 c] w fun e w'=>e=.returned (.int .i64 (Lib.indexByte s.data.toList c.toNat.toUInt8))∧w'=w:=Any.strings_IndexByte Tryz.lays137 s c w
def Tryz.lays215_ren:Go.Shelf.Ren:=⟨fun | 215=>119|n=>n,fun|3=>3|4=>4|n=>n,fun|n=>n⟩
def Tryz.lays122_ren:Go.Shelf.Ren:=⟨fun | 122=>110|215=>119|n=>n,fun|3=>3|4=>4|n=>n,fun|n=>n⟩
theorem Tryz.lays122:Go.Proofs.Lays.n122 Tryz.prog Tryz.lays122_ren:={
 mixed:=by kernel_rfl
 f122:=Tryz.func110.trans (congrArg some (by kernel_rfl))
 f215:=Tryz.func119.trans (congrArg some (by kernel_rfl))
 t3:=Tryz.underlying3
 a3:=Tryz.isAgg3
 z3:=Tryz.sizeOf3
 v3:=Tryz.zeroValue3
 t4:=Tryz.underlying4
 a4:=Tryz.isAgg4
 z4:=Tryz.sizeOf4
 v4:=Tryz.zeroValue4 }
open Go.RowKit in
/-- cmp.Compare at int: "Compare returns -1 if x is less than y, 0 if x equals y, +1 if x is greater than y.": IT RETURNS 'Lib.compareInt x y'; the world is as it was. (LAID: no walk: one application.) -/
theorem Tryz.cmp_Compare_int (x y:Int)(w:World):
  Calls Tryz.prog 110 #[.int .i64 x,.int .i64 y] w fun e w'=>e=.returned (.int .i64 (Lib.compareInt x y))∧w'=w:=Any.cmp_Compare_int Tryz.lays122 x y w
def Tryz.lays217_ren:Go.Shelf.Ren:=⟨fun | 217=>120|266=>126|n=>n,fun|9=>9|5=>5|3=>3|n=>n,fun|n=>n⟩
def Tryz.lays264_ren:Go.Shelf.Ren:=⟨fun | 264=>125|n=>n,fun|53=>148|46=>149|n=>n,fun|n=>n⟩
def Tryz.lays212_ren:Go.Shelf.Ren:=⟨fun | 212=>118|263=>124|264=>125|n=>n,fun|46=>149|51=>156|146=>157|53=>148|148=>159|n=>n,fun|n=>n⟩
theorem Tryz.lays212:Go.Proofs.Lays.n212 Tryz.prog Tryz.lays212_ren:={
 mixed:=by kernel_rfl
 f212:=Tryz.func118.trans (congrArg some (by kernel_rfl))
 f263:=Tryz.func124.trans (congrArg some (by kernel_rfl))
 f264:=Tryz.func125.trans (congrArg some (by kernel_rfl))
 t46:=Tryz.underlying149
 a46:=Tryz.isAgg149
 z46:=Tryz.sizeOf149
 v46:=Tryz.zeroValue149
 t51:=Tryz.underlying156
 a51:=Tryz.isAgg156
 z51:=Tryz.sizeOf156
 v51:=Tryz.zeroValue156
 t53:=Tryz.underlying148
 a53:=Tryz.isAgg148
 z53:=Tryz.sizeOf148
 v53:=Tryz.zeroValue148
 t146:=Tryz.underlying157
 a146:=Tryz.isAgg157
 z146:=Tryz.sizeOf157
 v146:=Tryz.zeroValue157
 t148:=Tryz.underlying159
 a148:=Tryz.isAgg159
 z148:=Tryz.sizeOf159
 v148:=Tryz.zeroValue159 }
open Go.RowKit Go.Lib in
/-- math/bits.Mul: "Mul returns the full-width product of x and y": on a machine of 64 bits: Mul64's. (LAID: no walk: one application.) -/
theorem Tryz.bits_Mul (x y:Nat)(hx:x<18446744073709551616)(hy:y<18446744073709551616)(w:World):
  Calls Tryz.prog 118 #[.int .u64 x,.int .u64 y] w fun e w'=>e=.returned (.tuple #[.int .u64 ((x*y / 18446744073709551616:Nat):Int),.int .u64 ((x*y % 18446744073709551616:Nat):Int)])∧w'=w:=Any.bits_Mul Tryz.lays212 x y hx hy w
def Tryz.lays109_ren:Go.Shelf.Ren:=⟨fun | 109=>84|n=>n,fun|31=>39|9=>9|3=>3|0=>0|4=>4|n=>n,fun|n=>n⟩
def Tryz.lays110_ren:Go.Shelf.Ren:=⟨fun | 110=>45|109=>84|n=>n,fun|31=>39|9=>9|4=>4|3=>3|0=>0|n=>n,fun|n=>n⟩
theorem Tryz.lays110:Go.Proofs.Lays.n110 Tryz.prog Tryz.lays110_ren:={
 mixed:=by kernel_rfl
 f109:=Tryz.func84.trans (congrArg some (by kernel_rfl))
 f110:=Tryz.func45.trans (congrArg some (by kernel_rfl))
 t0:=Tryz.underlying0
 a0:=Tryz.isAgg0
 z0:=Tryz.sizeOf0
 v0:=Tryz.zeroValue0
 t3:=Tryz.underlying3
 a3:=Tryz.isAgg3
 z3:=Tryz.sizeOf3
 v3:=Tryz.zeroValue3
 t4:=Tryz.underlying4
 a4:=Tryz.isAgg4
 z4:=Tryz.sizeOf4
 v4:=Tryz.zeroValue4
 t9:=Tryz.underlying9
 a9:=Tryz.isAgg9
 z9:=Tryz.sizeOf9
 v9:=Tryz.zeroValue9
 t31:=Tryz.underlying39
 a31:=Tryz.isAgg39
 z31:=Tryz.sizeOf39
 v31:=Tryz.zeroValue39 }
open Go.Lib in
/-- slices.Contains at []string: "Contains reports whether v is present in s.": IT RETURNS 'Lib.containsS (the elements) v', which is true just where v is among them ('Lib.containsS_iff'); the world is as it was. ITS CALLEE slices.Index IS MET BY ITS OWN CONTRACT OFF THE SHELF (lay that first): no loop is walked here. (LAID: no walk: one application.) -/
theorem Tryz.slices_Contains_string (b off n c:Nat)(zs:List ByteArray)(x:ByteArray)(w:World)(hz:n≤zs.length)(hbig:n≤9223372036854775807)(hc:∀j,j<zs.length→w.cell? ⟨b,off+j,none⟩=some (.string (zs.getD j ByteArray.empty))):
  Calls Tryz.prog 45 #[.slice (some ⟨b,off,none⟩) n c,.string x] w fun e w'=>e=.returned (.bool (Lib.containsS (zs.take n) x))∧w'=w:=Any.slices_Contains_string Tryz.lays110 b off n c zs x w hz hbig hc
open Go.Lib in
/-- The same at a slice of length 0, a nil one too. (LAID: no walk: one application.) -/
theorem Tryz.slices_Contains_string_empty (a:Option Addr)(c:Nat)(x:ByteArray)(w:World):
  Calls Tryz.prog 45 #[.slice a 0 c,.string x] w fun e w'=>e=.returned (.bool false)∧w'=w:=Any.slices_Contains_string_empty Tryz.lays110 a c x w
def Tryz.lays193_ren:Go.Shelf.Ren:=⟨fun | 193=>26|n=>n,fun|31=>39|9=>9|4=>4|3=>3|0=>0|n=>n,fun|n=>n⟩
theorem Tryz.lays193:Go.Proofs.Lays.n193 Tryz.prog Tryz.lays193_ren:={
 mixed:=by kernel_rfl
 f193:=Tryz.func26.trans (congrArg some (by kernel_rfl))
 t0:=Tryz.underlying0
 a0:=Tryz.isAgg0
 z0:=Tryz.sizeOf0
 v0:=Tryz.zeroValue0
 t3:=Tryz.underlying3
 a3:=Tryz.isAgg3
 z3:=Tryz.sizeOf3
 v3:=Tryz.zeroValue3
 t4:=Tryz.underlying4
 a4:=Tryz.isAgg4
 z4:=Tryz.sizeOf4
 v4:=Tryz.zeroValue4
 t9:=Tryz.underlying9
 a9:=Tryz.isAgg9
 z9:=Tryz.sizeOf9
 v9:=Tryz.zeroValue9
 t31:=Tryz.underlying39
 a31:=Tryz.isAgg39
 z31:=Tryz.sizeOf39
 v31:=Tryz.zeroValue39 }
open Go.RowKit Go.Lib in
/-- slices.Equal at []string: "Equal reports whether two slices are equal: the same length and all elements equal. If the lengths are different, Equal returns false. Otherwise, the elements are compared in increasing index order, and the comparison stops at the first unequal pair. Empty and nil slices are considered equal.": IT RETURNS WHETHER THE TWO LISTS OF ELEMENTS ARE ONE; the world is as it was but for the count of draws (the test 's1[i] != s2[i]' has two reads, whose order the model draws, once a round). 'xs', 'ys': what the cells behind the two addresses hold (the spare capacity too, if you have it); 'xs.take n', 'ys.take m': the elements. THE TWO SLICES MAY OVERLAP. (LAID: no walk: one application.) -/
theorem Tryz.slices_Equal_string (b1 o1 n c b2 o2 m d:Nat)(xs ys:List ByteArray)(w:World)(hx:n≤xs.length)(hy:m≤ys.length)(hbig:n≤9223372036854775807)(hbig2:m≤9223372036854775807)(hc1:∀j,j<xs.length→w.cell? ⟨b1,o1+j,none⟩=some (.string (xs.getD j ByteArray.empty)))(hc2:∀j,j<ys.length→w.cell? ⟨b2,o2+j,none⟩=some (.string (ys.getD j ByteArray.empty))):
  Calls Tryz.prog 26 #[.slice (some ⟨b1,o1,none⟩) n c,.slice (some ⟨b2,o2,none⟩) m d] w fun e w'=>e=.returned (.bool (decide (xs.take n=ys.take m)))∧∃q,w'=w.drewN q:=Any.slices_Equal_string Tryz.lays193 b1 o1 n c b2 o2 m d xs ys w hx hy hbig hbig2 hc1 hc2
open Go.RowKit Go.Lib in
/-- The same where the first is of length 0 (a nil one too): no cell is asked for. (LAID: no walk: one application.) -/
theorem Tryz.slices_Equal_string_empty (a1 a2:Option Addr)(c m d:Nat)(w:World)(hbig2:m≤9223372036854775807):
  Calls Tryz.prog 26 #[.slice a1 0 c,.slice a2 m d] w fun e w'=>e=.returned (.bool (decide (m=0)))∧w'=w:=Any.slices_Equal_string_empty Tryz.lays193 a1 a2 c m d w hbig2
def Tryz.laysNm216_ren:Go.Shelf.Ren:=⟨fun | 16=>39|n=>n,fun|24=>39|9=>9|4=>4|n=>n,fun|n=>n⟩
theorem Tryz.laysNm216:Go.Proofs.Lays2.n16 Tryz.prog Tryz.laysNm216_ren:={
 mixed:=by kernel_rfl
 f16:=Tryz.func39.trans (congrArg some (by kernel_rfl))
 t4:=Tryz.underlying4
 a4:=Tryz.isAgg4
 z4:=Tryz.sizeOf4
 v4:=Tryz.zeroValue4
 t9:=Tryz.underlying9
 a9:=Tryz.isAgg9
 z9:=Tryz.sizeOf9
 v9:=Tryz.zeroValue9
 t24:=Tryz.underlying39
 a24:=Tryz.isAgg39
 z24:=Tryz.sizeOf39
 v24:=Tryz.zeroValue39
 i9:=by kernel_rfl }
open Go.RowKit Go.Lib in
/-- slices.Clone at []string: "Clone returns a copy of the slice. The elements are copied using assignment, so this is a shallow clone. The result may have additional unused capacity. The result preserves the nilness of s.": OF A SLICE THAT IS NOT nil IT RETURNS A SLICE THAT IS NOT nil, OF THE SAME ELEMENTS, IN MEMORY OF THE CALL's OWN: in the how-to's words (6f): 'w'.ownsRow B e 1 v' n cells': v' begins at the head of a row among the blocks from B on (B: the heap's size at the call), not frozen, whose first cells are the elements · 'Below B w w'': below B all is as it was. The capacity is whatever the run-time gives. 'zs': what the cells behind the slice's address hold; 'zs.take n': its elements. (LAID: no walk: one application.) -/
theorem Tryz.slices_Clone_string (b off n c:Nat)(zs:List ByteArray)(w:World)(hz:n≤zs.length)(hbig:n*16≤140737488355328)(hc:∀j,j<zs.length→w.cell? ⟨b,off+j,none⟩=some (.string (zs.getD j ByteArray.empty))):
  Calls Tryz.prog 39 #[.slice (some ⟨b,off,none⟩) n c] w fun e w'=>∃v',e=.returned v'∧w'.ownsRow w.heap.size 9 1 v' n ((zs.take n).map (Value.string))∧v'≠.slice none 0 0∧Below w.heap.size w w':=Any.slices_Clone_string Tryz.laysNm216 b off n c zs w hz hbig hc
open Go.RowKit Go.Lib in
/-- The same at nil: nil comes back; the world is as it was. (LAID: no walk: one application.) -/
theorem Tryz.slices_Clone_string_nil (n c:Nat)(w:World):
  Calls Tryz.prog 39 #[.slice none n c] w fun e w'=>e=.returned (.slice none 0 0)∧w'=w:=Any.slices_Clone_string_nil Tryz.laysNm216 n c w
def Tryz.laysNm237_ren:Go.Shelf.Ren:=⟨fun | 37=>119|n=>n,fun|3=>3|4=>4|n=>n,fun|n=>n⟩
end Go.Proofs
/-
  Keys: the program's and the reference's look at a string. Condition: the string is no longer than any string of Go.
-/
namespace Go.Proofs.YtnmdpphddimfbaaGreat
open Go.RowKit Go.Bw
def lowc (c:UInt8):Bool:=decide (97≤c.toNat∧c.toNat≤122)
def okc (c:UInt8):Bool:=decide ((97≤c.toNat∧c.toNat≤122)∨(48≤c.toNat∧c.toNat≤57)∨c.toNat=45∨c.toNat=95)
def keyL (l:List UInt8):Bool:=match l with
 | []=>false
 | c::_=>decide (l.length≤40)&&(lowc c&&l.all okc)
def keyB (s:ByteArray):Bool:=keyL s.data.toList
theorem list_of (s:ByteArray)(h:0<s.size):∃t,s.data.toList=s[0]::t:=by
 have hl:0<s.data.toList.length:=by simpa using h
 refine⟨s.data.toList.tail,?_⟩;cases hx:s.data.toList with
 | nil=>rw [hx]at hl;simp at hl
 | cons c t =>
  have:s[0]=s.data.toList[0]'hl:=rfl;rw [this];simp [hx]
section
variable {s:ByteArray}
include s
theorem keyB_empty (h:s.size=0):keyB s=false:=by
 have:s.data.toList.length=0:=by simpa using h
 have:=List.length_eq_zero_iff.1 this;simp [keyB,keyL,this]
theorem keyB_long (h:40<s.size):keyB s=false:=by
 obtain⟨t,ht⟩:=list_of s (by omega);have hl:s.data.toList.length=s.size:=by simp
 rw [ht]at hl;simp only [keyB,keyL,ht];simp [hl];omega
theorem keyB_low (h:0<s.size)(hc:lowc s[0]=false):keyB s=false:=by
 obtain⟨t,ht⟩:=list_of s h;simp only [keyB,keyL,ht];simp [hc]
theorem keyB_bad (k:Nat)(h:k<s.size)(hc:okc s[k]=false):keyB s=false:=by
 obtain⟨t,ht⟩:=list_of s (by omega);have hm:s[k]∈s.data.toList:=by
  have:s[k]=s.data.toList[k]'(by simpa using h):=rfl;rw [this];exact List.getElem_mem _
 have ha:s.data.toList.all okc=false:=by
  rw [List.all_eq_false];exact⟨_,hm,by simp [hc]⟩
 rw [ht]at ha;simp only [keyB,keyL,ht,ha];simp
theorem keyB_good (h0:0<s.size)(h:s.size≤40)(hc:lowc s[0]=true)(ha:∀(k:Nat) (hk:k<s.size),okc s[k]=true):keyB s=true:=by
 obtain⟨t,ht⟩:=list_of s h0;have hl:s.data.toList.length=s.size:=by simp
 have hall:s.data.toList.all okc=true:=by
  rw [List.all_eq_true];intro x hx;obtain⟨k,hk,rfl⟩:=List.getElem_of_mem hx;exact ha k (by simpa using hk)
 rw [ht]at hl hall;simp only [keyB,keyL,ht,hall];simp [hc,hl,h]
end
/-- All bytes before k are those of a key. -/
def OkTo (s:ByteArray)(k:Nat):Prop:=∀(j:Nat) (hj:j<s.size),j<k→okc s[j]=true
theorem OkTo.zero (s:ByteArray):OkTo s 0:=fun _ _ h=>by omega
theorem OkTo.step {s:ByteArray}{k:Nat}(h:OkTo s k)(hk:k<s.size)(hc:okc s[k]=true):OkTo s (k+1):=fun j hj h1=>by
 by_cases e:j=k
 ·subst e;exact hc
 ·exact h j hj (by omega)
theorem okc_cases (c:UInt8):okc c=true↔(97≤(c.toNat:Int)∧(c.toNat:Int)≤122)∨(48≤(c.toNat:Int)∧(c.toNat:Int)≤57)∨(c.toNat:Int)=45∨(c.toNat:Int)=95:=by
 simp [okc];omega
theorem key_prog (s:ByteArray)(w:World)(hs:s.size≤9223372036854775807):
  Calls Tryz.prog 64 #[.string s] w fun e w'=>e=.returned (.bool (keyB s))∧w=w':=by
 by_cases h0:s.size=0
 ·have hl:s.toList=[]:=by
   have:s.data.toList.length=0:=by simpa using h0
   have:=List.length_eq_zero_iff.1 this
   simpa [ByteArray.toList_eq] using this
  have hk:=Lib.hid (keyB_empty h0);clear h0
  go_enter Tryz.func64,Tryz.ntmps64
  go_wp2_with fail
  go_ret
  exact⟨ret_bool hk.out.symm,rfl⟩
 ·have hpos:0<s.size:=by omega
  have hl1:s.toList.isEmpty=false:=by
   have:s.data.toList.length≠0:=by simpa using h0
   have:s.data.toList≠[]:=fun e=>this (by rw [e];rfl)
   simpa [ByteArray.toList_eq] using this
  have hl2:(!s.toList.isEmpty)=true:=by rw [hl1];rfl
  clear h0
  by_cases h40:40<s.size
  ·have hk:=Lib.hid (keyB_long h40)
   go_enter Tryz.func64,Tryz.ntmps64
   go_wp2_with fail
   go_ret
   exact⟨ret_bool hk.out.symm,rfl⟩
  ·by_cases hc1:(s[0].toNat:Int)<97
   ·have hk:=Lib.hid (keyB_low hpos (by simp [lowc];omega))
    go_enter Tryz.func64,Tryz.ntmps64
    go_wp2_with fail
    go_ret
    exact⟨ret_bool hk.out.symm,rfl⟩
   ·by_cases hc2:122<(s[0].toNat:Int)
    ·have hk:=Lib.hid (keyB_low hpos (by simp [lowc];omega))
     go_enter Tryz.func64,Tryz.ntmps64
     go_wp2_with fail
     go_ret
     exact⟨ret_bool hk.out.symm,rfl⟩
    ·have hlow:=Lib.hid (show lowc s[0]=true by simp [lowc];omega)
     go_enter Tryz.func64,Tryz.ntmps64
     go_wp2_with fail
     go_loop [24] (fun i=>∃k:Nat,k≤s.size∧OkTo s k∧i=.int .i64 k) (fun i=>s.size-(intOf i).toNat)
     case atStart=>exact⟨0,by omega,OkTo.zero s,rfl⟩
     case round =>
      obtain⟨k,hk,hok,rfl⟩:=hrel
      by_cases hlt:k<s.size
      ·by_cases hb:okc s[k]=true
       ·have hst:=Lib.hid (hok.step hlt hb);have hb':=(okc_cases _).1 hb;clear hb;have hc:(∃e1:((s[k].toNat:Int)==45)=false,∃e2:((s[k].toNat:Int)==95)=false,97≤(s[k].toNat:Int)∧(s[k].toNat:Int)≤122) ∨
          (∃e1:((s[k].toNat:Int)==45)=false,∃e2:((s[k].toNat:Int)==95)=false,48≤(s[k].toNat:Int)∧(s[k].toNat:Int)≤57) ∨
          (∃e1:((s[k].toNat:Int)==45)=true,∃e2:((s[k].toNat:Int)==95)=false,45≤(s[k].toNat:Int)∧(s[k].toNat:Int)≤46) ∨
          (∃e1:((s[k].toNat:Int)==45)=false,∃e2:((s[k].toNat:Int)==95)=true,94≤(s[k].toNat:Int)∧(s[k].toNat:Int)≤95):=by
         rcases hb' with ⟨h1,h2⟩|⟨h1,h2⟩|h1|h1
         ·exact .inl ⟨by simp;omega,by simp;omega,h1,h2⟩
         ·exact .inr (.inl ⟨by simp;omega,by simp;omega,h1,h2⟩)
         ·exact .inr (.inr (.inl ⟨by simp;omega,by simp;omega,by omega,by omega⟩))
         ·exact .inr (.inr (.inr ⟨by simp;omega,by simp;omega,by omega,by omega⟩))
        clear hb';rcases hc with ⟨e1,e2,h1,h2⟩|⟨e1,e2,h1,h2⟩|⟨e1,e2,h1,h2⟩|⟨e1,e2,h1,h2⟩
        all_goals
         go_wp2_with fail
         go_round
         case rel=>exact⟨k+1,by omega,hst.out,by go_num⟩
         case measure=>simp [intOf];omega
       ·have hkb:=Lib.hid (keyB_bad k hlt (by simpa using hb));have hb':=mt (okc_cases _).2 hb;have e1:((s[k].toNat:Int)==45)=false:=by simp;omega
        have e2:((s[k].toNat:Int)==95)=false:=by simp;omega
        have hc:(s[k].toNat:Int)<48∨(∃e3:decide ((s[k].toNat:Int)≤57)=false,57<(s[k].toNat:Int)∧(s[k].toNat:Int)<97)∨(∃e3:decide ((s[k].toNat:Int)≤57)=false,∃e4:decide ((s[k].toNat:Int)≤122)=false,122<(s[k].toNat:Int)):=by
         by_cases a1:(s[k].toNat:Int)<48
         ·exact .inl a1
         ·have e3:decide ((s[k].toNat:Int)≤57)=false:=by simp;omega
          by_cases a2:122<(s[k].toNat:Int)
          ·exact .inr (.inr ⟨e3,by simp;omega,a2⟩)
          ·exact .inr (.inl ⟨e3,by omega,by omega⟩)
        clear hb hb';rcases hc with h1|⟨e3,h1,h2⟩|⟨e3,e4,h1⟩
        all_goals
         go_wp2_with fail
         go_ret
         exact⟨ret_bool hkb.out.symm,rfl⟩
      ·have hkg:=Lib.hid (keyB_good hpos (by omega) hlow.out (fun j hj=>hok j hj (by omega)));go_wp2_with fail
       go_ret
       exact⟨ret_bool hkg.out.symm,rfl⟩
theorem out_no {n low high:Int}(h:outB n low high=false):low≤n∧n≤high:=by
 simp [outB]at h;omega
theorem toList_ne {a b:ByteArray}(h:a≠b):(a.toList==b.toList)=false:=by
 cases hq:(a.toList==b.toList)
 ·rfl
 ·have he:a.toList=b.toList:=by simpa using hq
  rw [ByteArray.toList_eq,ByteArray.toList_eq]at he;exact absurd (by cases a;cases b;simp at he;rw [he]) h
/-- All bytes of the one string are among those of the other. -/
def onlyB (s:ByteArray)(some:List UInt8):Bool:=s.data.toList.all fun c=>some.contains c
def InTo (s:ByteArray)(l:List UInt8)(k:Nat):Prop:=∀(j:Nat) (hj:j<s.size),j<k→l.contains s[j]=true
section
variable {s:ByteArray}{l:List UInt8}
include s l
theorem InTo.step {k:Nat}(h:InTo s l k)(hk:k<s.size)(hc:l.contains s[k]=true):InTo s l (k+1):=fun j hj h1=>by
 by_cases e:j=k
 ·subst e;exact hc
 ·exact h j hj (by omega)
theorem onlyB_bad (k:Nat)(h:k<s.size)(hc:l.contains s[k]=false):onlyB s l=false:=by
 have hm:s[k]∈s.data.toList:=by
  have:s[k]=s.data.toList[k]'(by simpa using h):=rfl;rw [this];exact List.getElem_mem _
 unfold onlyB;rw [List.all_eq_false];exact⟨_,hm,by simp only [hc];decide⟩
theorem onlyB_good (ha:InTo s l s.size):onlyB s l=true:=by
 unfold onlyB;rw [List.all_eq_true];intro x hx;obtain⟨k,hk,rfl⟩:=List.getElem_of_mem hx;exact ha k (by simpa using hk) (by simpa using hk)
end
theorem only_any (s some:ByteArray)(w:World)(hs:s.size≤9223372036854775807):
  Calls Tryz.prog 91 #[.string s,.string some] w fun e w'=>e=.returned (.bool (onlyB s some.data.toList))∧w=w':=by
 go_enter Tryz.func91,Tryz.ntmps91
 go_wp2_with fail
 go_loop [8] (fun i=>∃k:Nat,k≤s.size∧InTo s some.data.toList k∧i=.int .i64 k) (fun i=>s.size-(intOf i).toNat)
 case atStart=>exact⟨0,by omega,fun _ _ h=>by omega,rfl⟩
 case round =>
  obtain⟨k,hk,hok,rfl⟩:=hrel
  by_cases hlt:k<s.size
  ·have hcon:=Lib.contains_iff_indexByte some.data.toList s[k];cases hb:some.data.toList.contains s[k]
   ·have hkb:=Lib.hid (onlyB_bad k hlt hb);rw [hb]at hcon;have hneg:Lib.indexByte some.data.toList s[k]<0:=by
     have:=of_decide_eq_false hcon.symm;omega
    clear hb hcon;go_wp2_with (go_at_call 112;refine(Tryz.strings_IndexByte _ _ _).mono ?_;rintro e w1 ⟨rfl,rfl⟩)
    go_ret
    exact⟨ret_bool hkb.out.symm,rfl⟩
   ·have hst:=Lib.hid (hok.step hlt hb);rw [hb]at hcon;have hpos:0≤Lib.indexByte some.data.toList s[k]:=of_decide_eq_true hcon.symm;clear hb hcon;go_wp2_with (go_at_call 112;refine(Tryz.strings_IndexByte _ _ _).mono ?_;rintro e w1 ⟨rfl,rfl⟩)
    go_round
    case rel=>exact⟨k+1,by omega,hst.out,by go_num⟩
    case measure=>simp [intOf];omega
  ·have hkg:=Lib.hid (onlyB_good (s:=s) (l:=some.data.toList) (fun j hj _=>hok j hj (by omega)));go_wp2_with fail
   go_ret
   exact⟨ret_bool hkg.out.symm,rfl⟩
def smalls:List UInt8:=[97,98,99,100,101,102,103,104,105,106,107,108,109,110,111,112,113,114,115,116,117,118,119,120,121,122]
def keyc:List UInt8:=smalls++[48,49,50,51,52,53,54,55,56,57,45,95]
theorem all_bytes (p:UInt8→Bool)(h:(List.range 256).all (fun n=>p n.toUInt8)=true)(c:UInt8):p c=true:=by
 have:=List.all_eq_true.1 h c.toNat (by simpa using c.toNat_lt)
 simpa using this
theorem smalls_c (c:UInt8):smalls.contains c=lowc c:=by
 have:=all_bytes (fun c=>smalls.contains c==lowc c) (by decide +kernel) c
 simpa using this
theorem keyc_c (c:UInt8):keyc.contains c=okc c:=by
 have:=all_bytes (fun c=>keyc.contains c==okc c) (by decide +kernel) c
 simpa using this
theorem onlyB_head {s:ByteArray}(h:0<s.size):onlyB (s.extract 0 1) smalls=lowc s[0]:=by
 obtain⟨t,ht⟩:=list_of s h;have:(s.extract 0 1).data.toList=[s[0]]:=by
  rw [Lib.extract_data,ht];simp
 unfold onlyB;rw [this];show(smalls.contains s[0]&&true)=_;rw [smalls_c,Bool.and_true]
theorem onlyB_all (s:ByteArray):onlyB s keyc=s.data.toList.all okc:=by
 unfold onlyB
 congr 1
 funext c
 exact keyc_c c
theorem in_is (n low high:Int)(b:Bool)(h:(!outB n low high)=b)(w:World):
  Calls Tryz.prog 90 #[.int .i64 n,.int .i64 low,.int .i64 high] w fun e w'=>e=.returned (.bool b)∧w=w':=h▸in_any n low high w
theorem out_is (n low high:Int)(b:Bool)(h:outB n low high=b)(w:World):
  Calls Tryz.prog 101 #[.int .i64 n,.int .i64 low,.int .i64 high] w fun e w'=>e=.returned (.bool b)∧w=w':=h▸out_any n low high w
theorem only_is (s some:ByteArray)(b:Bool)(h:onlyB s some.data.toList=b)(w:World)(hs:s.size≤9223372036854775807):
  Calls Tryz.prog 91 #[.string s,.string some] w fun e w'=>e=.returned (.bool b)∧w=w':=h▸only_any s some w hs
theorem key_is (s:ByteArray)(b:Bool)(h:keyB s=b)(w:World)(hs:s.size≤9223372036854775807):
  Calls Tryz.prog 64 #[.string s] w fun e w'=>e=.returned (.bool b)∧w=w':=h▸key_prog s w hs
theorem key_ref (s:ByteArray)(w:World)(hs:s.size≤9223372036854775807):
  Calls Tryz.prog 50 #[.string s] w fun e w'=>e=.returned (.bool (keyB s))∧w=w':=by
 by_cases h0:s.size=0∨40<s.size
 ·have hk:keyB s=false:=by
   rcases h0 with h0|h0
   ·exact keyB_empty h0
   ·exact keyB_long h0
  have hk:=Lib.hid hk;have ho:=Lib.hid (show(!outB s.size 1 40)=false by simp [outB];omega);clear h0
  go_enter Tryz.func50,Tryz.ntmps50
  go_wp2_with (go_at_call 90;refine(in_is _ _ _ _ ho.out _).mono ?_;rintro e w1 ⟨rfl,rfl⟩)
  go_ret
  exact⟨ret_bool hk.out.symm,rfl⟩
 ·have hpos:0<s.size:=by omega
  have h40:s.size≤40:=by omega
  have ho:=Lib.hid (show(!outB s.size 1 40)=true by simp [outB];omega);have hh:=onlyB_head hpos;have ha:=onlyB_all s;have hx:(s.extract 0 1).size≤9223372036854775807:=by simp;omega
  have hkk:keyB s=(lowc s[0]&&s.data.toList.all okc):=by
   obtain⟨t,ht⟩:=list_of s hpos;have hl:s.data.toList.length=s.size:=by simp
   rw [ht]at hl;simp only [keyB,keyL,ht];simp [hl,h40]
  clear h0;cases hc:lowc s[0]
  ·rw [hc]at hh hkk;have hk:=Lib.hid (show keyB s=false by rw [hkk];rfl);have Hh:=Lib.hid hh;clear hkk ha hh hc
   go_enter Tryz.func50,Tryz.ntmps50
   go_wp2_with first|(go_at_call 90;refine(in_is _ _ _ _ ho.out _).mono ?_;rintro e w1 ⟨rfl,rfl⟩)|(go_at_call 91;refine(only_is (s.extract 0 1) ⟨smalls.toArray⟩ _ Hh.out _ hx).mono ?_;rintro e w1 ⟨rfl,rfl⟩)
   go_ret
   exact⟨ret_bool hk.out.symm,rfl⟩
  ·rw [hc]at hh hkk;have hk:=Lib.hid (show onlyB s keyc=keyB s by rw [ha,hkk];rfl);have Hh:=Lib.hid hh;clear hkk ha hh hc
   go_enter Tryz.func50,Tryz.ntmps50
   go_wp2_with fail
   refine(in_is _ _ _ _ ho.out _).mono ?_;rintro e w1 ⟨rfl,rfl⟩;go_wp2_with fail
   refine(only_is (s.extract 0 1) ⟨smalls.toArray⟩ _ Hh.out _ hx).mono ?_;rintro e w1 ⟨rfl,rfl⟩;go_wp2_with fail
   refine(only_is s ⟨keyc.toArray⟩ _ hk.out _ hs).mono ?_;rintro e w1 ⟨rfl,rfl⟩;go_wp2_with fail
   go_ret
   exact⟨rfl,rfl⟩
theorem key_ref_is (s:ByteArray)(b:Bool)(h:keyB s=b)(w:World)(hs:s.size≤9223372036854775807):
  Calls Tryz.prog 50 #[.string s] w fun e w'=>e=.returned (.bool b)∧w=w':=h▸key_ref s w hs
end Go.Proofs.YtnmdpphddimfbaaGreat
/-
  Lemmas on what a law owns while it draws. No condition on a program.
-/
namespace Go.Bw
open Go.RowKit
theorem owns_str {w w':World}{B base e sz n:Nat}{v:Value}{xs:List Value}(h:w.ownsRow base e sz v n xs)(g:w.grownBy w' (some B))(hB:B<base):w'.ownsRow base e sz v n xs :=
 h.kept g (.inr (fun e=>by have:=(h.lt B e).1;omega))
theorem below_str {n₀ B:Nat}{w0 w w':World}(h:Below n₀ w0 w)(g:w.grownBy w' (some B))(hB:n₀≤B)(hs:n₀≤w.heap.size):Below n₀ w0 w' :=
 h.grown g hs (fun k hk=>by cases hk;exact hB)
theorem Str.kept {B b:Nat}{w w':World}{row:Option Nat}(h:Str B w b)(g:w.grownBy w' row)(hr:∀k,row=some k→B<k):Str B w' b:=by
 have hlt:=h.lt;have hB:w'.heap[B]?=w.heap[B]?:=g.block B hlt (fun e=>by have:=hr B e.symm;omega);obtain⟨v,n,zs,t,h0,h1,h2,h3,h4,h5⟩:=h;exact⟨v,n,zs,t,(World.cell?_of_block (a:=⟨B,0,none⟩) hB).trans h0,(World.cell?_of_block (a:=⟨B,1,none⟩) hB).trans h1,(World.frozen?_of_block (a:=⟨B,1,none⟩) hB).trans h2,h3,h4,
  h5.swap (fun k hk=>g.block k (Nat.lt_trans hk hlt) (fun e=>by have:=hr k e.symm;omega)) g.size⟩
theorem Str.alloc {B b:Nat}{w:World}(h:Str B w b)(o:Obj):Str B (w.alloc o) b:=h.kept (World.grownBy_alloc w o none) (by simp)
theorem Str.drew {B b:Nat}{w:World}(h:Str B w b):Str B w.drew b:=h
theorem Str.app {B b base e sz n:Nat}{w w':World}{v:Value}{xs:List Value}(h:Str B w b)(ho:w.ownsRow base e sz v n xs)(g:w.grownBy w' v.ownBlock)(hB:B<base):Str B w' b :=
 h.kept g (fun k hk=>by have:=(ho.lt k hk).1;omega)
/-- A store into an owned row of ints. -/
theorem owns_set {w:World}{base e n g cap:Nat}{xs:List Int}(h:w.ownsRow base e 1 (.slice (some ⟨g,0,none⟩) n cap) n (xs.map (.int .i64)))(i:Nat)(hi:i<n)(u:Int):
  (w.setCell ⟨g,i,none⟩ (.int .i64 u)).ownsRow base e 1 (.slice (some ⟨g,0,none⟩) n cap) n ((xs.set i u).map (.int .i64)):=by
 obtain⟨h1,h2⟩:=h;refine⟨by simpa using h1,?_⟩;rcases h2 with ⟨h2,_⟩|⟨g',cap',cur,hv,hb,hg,hn,hc,hs,ht⟩
 ·cases h2
 ·simp only [Value.slice.injEq,Option.some.injEq,Addr.mk.injEq]at hv;obtain⟨⟨rfl,_⟩,_,rfl⟩:=hv;refine .inr ⟨g,cap,cur.setIfInBounds i (.int .i64 u),rfl,hb,?_,hn,hc,by simpa using hs,?_⟩
  ·have hlt:=(Array.getElem?_eq_some_iff.1 hg).1;simp only [World.setCell,Array.getElem?_modify,if_true,hg,Option.map_some];rfl
  ·rw [List.map_set,←ht,Array.toList_setIfInBounds];exact List.take_set.symm▸rfl
end Go.Bw
/-
  Rows of things of several cells; what a call of the stream leaves. No condition on a program.
-/
namespace Go.Bw
open Go.RowKit
/-- The cells of a list of things. -/
def cellsOf {α:Type}(enc:α→List Value)(l:List α):List Value:=l.flatMap enc
section
variable {α:Type}(enc:α→List Value)
include enc
theorem cellsOf_cons (x:α)(l:List α):cellsOf enc (x::l)=enc x++cellsOf enc l:=rfl
theorem cellsOf_snoc (l:List α)(x:α):cellsOf enc (l++[x])=cellsOf enc l++enc x:=by simp [cellsOf]
section
variable (sz:Nat)(h:∀x,(enc x).length=sz)(l:List α)
include h l
theorem cellsOf_length:(cellsOf enc l).length=l.length*sz:=by
 induction l with
 | nil=>simp [cellsOf]
 | cons x l ih=>rw [cellsOf_cons,List.length_append,ih,h,List.length_cons,Nat.add_mul];omega
theorem cellsOf_get:∀ (k:Nat)(hk:k<l.length)(j:Nat) ,j<sz→(cellsOf enc l)[k*sz+j]?=(enc l[k])[j]?:=by
 induction l with
 | nil=>intro k hk;simp at hk
 | cons x l ih =>
  intro k hk j hj;rw [cellsOf_cons];cases k with
  | zero=>rw [List.getElem?_append_left (by rw [h];omega)];simp
  | succ k =>
   rw [List.getElem?_append_right (by rw [h,Nat.add_mul];omega),h];have:=ih k (by simpa using hk) j hj;rw [show(k+1)*sz+j-sz=k*sz+j by rw [Nat.add_mul];omega]
   simpa using this
end
end
/-- Element i of a list, at an Int index (a plain def: the walk does not open it). -/
def geta {α:Type} [Inhabited α] (l:List α) (i:Int):α:=l[i.toNat]?.getD default
theorem geta_eq {α:Type} [Inhabited α] (l:List α) (i:Int) (h0:0≤i) (h1:i<l.length):geta l i=l[i.toNat]'(by omega):=by
 unfold geta;rw [List.getElem?_eq_getElem (by omega)];rfl
theorem geta_mem {α:Type} [Inhabited α] {l:List α} {i:Int} (h0:0≤i) (h1:i<l.length):geta l i∈l:=by
 rw [geta_eq l i h0 h1];exact List.getElem_mem _
theorem Row.els {α:Type} [Inhabited α] {enc:α→List Value} {sz:Nat} (henc:∀x,(enc x).length=sz) (hs:0<sz) {w:World} {base n:Nat} {v:Value} {l:List α} (h:Row w base sz v n (cellsOf enc l)) :
  l.length=n∧((v=.slice none 0 0∧n=0)∨∃b off cap,v=.slice (some ⟨b,off,none⟩) n cap∧base≤b∧b<w.heap.size∧n≤cap∧cap≤9223372036854775807 ∧
   ∀i:Int,0≤i→i<n→∀j u,(enc (geta l i))[j]?=some u→w.cell? ⟨b,off+i.toNat*sz+j,none⟩=some u):=by
 obtain⟨h1,h2⟩:=h;have hl:l.length=n:=by rw [cellsOf_length enc sz henc]at h1;exact Nat.eq_of_mul_eq_mul_right hs h1
 refine⟨hl,?_⟩;rcases h2 with h2|⟨b,off,cap,e,hb,hlt,hn,hc,hcell⟩
 ·exact .inl h2
 ·refine .inr ⟨b,off,cap,e,hb,hlt,hn,by unfold maxLen at hc;omega,fun i h0 hi j u hu=>?_⟩;have hj:j<sz:=by
   have:=(List.getElem?_eq_some_iff.1 hu).1
   rwa [henc]at this
  have:=hcell (i.toNat*sz+j) u (by rw [cellsOf_get enc sz henc l i.toNat (by omega) j hj,←hu,geta_eq l i h0 (by omega)])
  rwa [←Nat.add_assoc]at this
/-- The value of a row is a slice of that many. -/
theorem Row.shape {w:World}{base sz n:Nat}{v:Value}{cs:List Value}(h:Row w base sz v n cs):∃a c,v=.slice a n c:=by
 rcases h.2 with ⟨rfl,rfl⟩|⟨b,off,cap,rfl,_⟩
 ·exact⟨_,_,rfl⟩
 ·exact⟨_,_,rfl⟩
/-- v is a row whose block is another one than n₀. -/
structure Apart (n₀:Nat)(w:World)(sz n:Nat)(v:Value)(cs:List Value):Prop where
 row:Row w 0 sz v n cs
 ne:∀k,v.ownBlock=some k→k≠n₀
section
variable {n₀ sz n:Nat}{w w':World}{v:Value}{cs:List Value}(h:Apart n₀ w sz n v cs)
include w' h
theorem Apart.grow (g:w.grownBy w' (some n₀)):Apart n₀ w' sz n v cs:=by
 refine⟨?_,h.ne⟩;obtain⟨⟨h1,h2⟩,hne⟩:=h;refine⟨h1,?_⟩;rcases h2 with h2|⟨b,off,cap,rfl,hb,hl,hn,hc,hcell⟩
 ·exact .inl h2
 ·refine .inr ⟨b,off,cap,rfl,hb,Nat.lt_of_lt_of_le hl g.size,hn,hc,fun i u hu=>?_⟩;rw [World.cell?_of_block (w:=w) (g.block b hl (fun e=>by have:=hne b rfl;simp at e;omega))];exact hcell i u hu
theorem Apart.below (g:Below w.heap.size w w'):Apart n₀ w' sz n v cs:=⟨h.row.below g,h.ne⟩
end
section
variable {n₀ sz n:Nat}{w:World}{v:Value}{cs:List Value}(h:Apart n₀ w sz n v cs)
include h
theorem Apart.alloc (o:Obj):Apart n₀ (w.alloc o) sz n v cs:=h.grow (World.grownBy_alloc w o _)
theorem Apart.drewN (k:Nat):Apart n₀ (w.drewN k) sz n v cs:=⟨h.row,h.ne⟩
end
theorem Apart.of_owns {n₀ B e sz n:Nat}{w:World}{v:Value}{cs:List Value}(h:w.ownsRow B e sz v n cs)(hB:n₀<B):Apart n₀ w sz n v cs :=
 ⟨(Row.of_owns h).mono (Nat.zero_le _),fun k hk=>by have:=h.lt k hk;omega⟩
/-- What a call that draws from the stream n₀ leaves: nothing else that was there has changed. -/
structure Drawn (n₀:Nat)(w w':World)(b:Nat):Prop where
 str:Str n₀ w' b
 gr:w.grownBy w' (some n₀)
theorem Drawn.refl {n₀ b:Nat}{w:World}(h:Str n₀ w b):Drawn n₀ w w b:=⟨h,grown_refl _ _⟩
theorem Drawn.trans {n₀ b b':Nat}{w w' w'':World}(h:Drawn n₀ w w' b)(k:Drawn n₀ w' w'' b'):Drawn n₀ w w'' b':=⟨k.str,grown_trans h.gr k.gr⟩
theorem Drawn.alloc {n₀ b:Nat}{w w':World}(h:Drawn n₀ w w' b)(o:Obj):Drawn n₀ w (w'.alloc o) b:=⟨h.str.alloc o,grown_trans h.gr (World.grownBy_alloc w' o _)⟩
theorem Drawn.mono {n₀ b b':Nat}{w w':World}(h:Drawn n₀ w w' b)(hb:b≤b'):Drawn n₀ w w' b':=⟨h.str.mono hb,h.gr⟩
theorem Drawn.drewN {n₀ b:Nat}{w w':World}(h:Drawn n₀ w w' b)(k:Nat):Drawn n₀ w (w'.drewN k) b:=⟨h.str,grown_drewN h.gr k⟩
theorem Drawn.below {n₀ b:Nat}{w w' w'':World}(h:Drawn n₀ w w' b)(g:Below w'.heap.size w' w''):Drawn n₀ w w'' b:=⟨h.str.below g,grown_trans h.gr (grown_of_below g)⟩
theorem Drawn.app {n₀ b B e sz n:Nat}{w w' w'':World}{v:Value}{xs:List Value}(h:Drawn n₀ w w' b)(ho:w'.ownsRow B e sz v n xs)(hB:w.heap.size≤B)(hn:n₀<B)(g:w'.grownBy w'' v.ownBlock):Drawn n₀ w w'' b:=by
 refine⟨h.str.app ho g hn,⟨g.os.trans h.gr.os,g.tape.trans h.gr.tape,g.output.trans h.gr.output,Nat.le_trans h.gr.size g.size,fun k hk hne=>?_⟩⟩;rw [g.block k (Nat.lt_of_lt_of_le hk h.gr.size) (fun e=>by have:=ho.lt k e.symm;omega),h.gr.block k hk hne]
theorem Drawn.size {n₀ b:Nat}{w w':World}(h:Drawn n₀ w w' b):w.heap.size≤w'.heap.size:=h.gr.size
end Go.Bw
/-
  Lists of keys that rise: the program's and the reference's look. Condition: the strings are no longer than any string of Go.
-/
namespace Go.Bw
open Go.RowKit
def encSt (s:ByteArray):List Value:=[.string s]
theorem encSt_length (s:ByteArray):(encSt s).length=1:=rfl
/-- Is the one string not greater than the other? -/
def leB (a b:ByteArray):Bool:=Op.bytesLess a.toList b.toList || a.toList==b.toList
end Go.Bw
namespace Go.Proofs.YtnmdpphddimfbaaGreat
open Go.RowKit Go.Bw
def risingAt (l:List ByteArray)(i:Int):Int:=if keyB (geta l i)=false then 5 else if 0<i∧leB (geta l i) (geta l (i-1))=true then 7 else 0
def risingE (l:List ByteArray):Int:=firstErr (risingAt l) l.length
section
variable (v:Value)(n:Nat)(l:List ByteArray)(base:Nat)(w:World)(h:Row w base 1 v n (cellsOf encSt l))(hz:∀s∈l,s.size≤9223372036854775807)
include h hz
theorem rising_prog :
  Calls Tryz.prog 99 #[v] w fun e w'=>e=.returned (.int .i64 (risingE l))∧Below w.heap.size w w':=by
 obtain⟨hl,hc⟩:=h.els encSt_length (by decide);subst hl;obtain⟨p0,c0,rfl⟩:=h.shape;have hw0:=Below.refl w.heap.size w;clear h
 go_enter Tryz.func99,Tryz.ntmps99
 go_wp2_with fail
 go_loopw [7] (fun i wr=>∃k:Int,0≤k∧k≤l.length∧NoErr (risingAt l) k∧i=.int .i64 k∧Below w.heap.size w wr) (fun i _=>l.length-(intOf i).toNat)
 case atStart=>exact⟨0,by omega,by omega,NoErr.zero _,rfl,hw0⟩
 case round =>
  obtain⟨k,hk0,hk1,hok,rfl,hb⟩:=hrel
  by_cases hlt:k<l.length
  ·rcases hc with ⟨_,hc⟩|⟨b,off,cap,hv,_,hbs,hnc,hcm,hcell⟩
   ·omega
   simp only [Value.slice.injEq]at hv;obtain⟨rfl,_,rfl⟩:=hv;have g1:=hcell k hk0 hlt 0 _ rfl;have g1:=(hb.cell (p:=⟨b,off+k.toNat*1+0,none⟩) hbs).trans g1;rw [Nat.mul_one,Nat.add_zero]at g1;have hz1:=hz _ (geta_mem hk0 hlt);have he:=Lib.hid (show risingAt l k=if keyB (geta l k)=false then 5 else if 0<k∧leB (geta l k) (geta l (k-1))=true then 7 else 0 from rfl);cases hkb:keyB (geta l k)
   ·have hf:=Lib.hid (firstErr_hit hok hk0 hlt (by rw [he.out,if_pos hkb];decide));have hg:=Lib.hid (show risingAt l k=5 by rw [he.out,if_pos hkb]);have hkb:=Lib.hid hkb;clear hcell hz;generalize geta l k=s1 at *;go_wp2_with (go_at_call 64;refine(key_is _ _ hkb.out _ hz1).mono ?_;rintro e w1 ⟨rfl,rfl⟩)
    go_ret
    exact⟨ret_int (by show(5:Int)=firstErr _ _;rw [hf.out,hg.out]),hb⟩
   ·by_cases hp:0<k
    ·have g2:=hcell (k-1) (by omega) (by omega) 0 _ rfl;have g2:=(hb.cell (p:=⟨b,off+(k-1).toNat*1+0,none⟩) hbs).trans g2;rw [Nat.mul_one,Nat.add_zero,show(k-1).toNat=k.toNat-1 by omega]at g2;cases hle:leB (geta l k) (geta l (k-1))
     ·have hst:=Lib.hid (hok.step (by rw [he.out,if_neg (by rw [hkb];decide),if_neg (by rw [hle];simp)]));have hkb:=Lib.hid hkb;unfold leB at hle;clear hcell hz;generalize geta l k=s1 at *;generalize geta l (k-1)=s2 at *;go_wp2_with (go_at_call 64;refine(key_is _ _ hkb.out _ hz1).mono ?_;rintro e w1 ⟨rfl,rfl⟩)
      go_roundw
      case rel=>exact⟨k+1,by omega,by omega,hst.out,rfl,hb⟩
      case measure=>simp [intOf];omega
     ·have hg:=Lib.hid (show risingAt l k=7 by rw [he.out,if_neg (by rw [hkb];decide),if_pos ⟨hp,hle⟩]);have hf:=Lib.hid (firstErr_hit hok hk0 hlt (by rw [hg.out];decide));have hkb:=Lib.hid hkb;unfold leB at hle;clear hcell hz;generalize geta l k=s1 at *;generalize geta l (k-1)=s2 at *;go_wp2_with (go_at_call 64;refine(key_is _ _ hkb.out _ hz1).mono ?_;rintro e w1 ⟨rfl,rfl⟩)
      go_ret
      exact⟨ret_int (by show(7:Int)=firstErr _ _;rw [hf.out,hg.out]),hb⟩
    ·have hst:=Lib.hid (hok.step (by rw [he.out,if_neg (by rw [hkb];decide),if_neg (fun h=>hp h.1)]));have hkb:=Lib.hid hkb;clear hcell hz;generalize geta l k=s1 at *;go_wp2_with (go_at_call 64;refine(key_is _ _ hkb.out _ hz1).mono ?_;rintro e w1 ⟨rfl,rfl⟩)
     go_roundw
     case rel=>exact⟨k+1,by omega,by omega,hst.out,rfl,hb⟩
     case measure=>simp [intOf];omega
  ·have hf:=Lib.hid (firstErr_none (f:=risingAt l) (n:=l.length) (fun j h0 h1=>hok j h0 (by omega)));clear hc;go_wp2_with fail
   go_ret
   exact⟨ret_int hf.out.symm,hb⟩
theorem rising_ref :
  Calls Tryz.prog 93 #[v] w fun e w'=>e=.returned (.int .i64 (risingE l))∧Below w.heap.size w w':=by
 obtain⟨hl,hc⟩:=h.els encSt_length (by decide);subst hl;obtain⟨p0,c0,rfl⟩:=h.shape;have hw0:=Below.refl w.heap.size w;clear h
 go_enter Tryz.func93,Tryz.ntmps93
 go_wp2_with fail
 go_loopw [7] (fun i wr=>∃k:Int,0≤k∧k≤l.length∧NoErr (risingAt l) k∧i=.int .i64 k∧Below w.heap.size w wr) (fun i _=>l.length-(intOf i).toNat)
 case atStart=>exact⟨0,by omega,by omega,NoErr.zero _,rfl,hw0⟩
 case round =>
  obtain⟨k,hk0,hk1,hok,rfl,hb⟩:=hrel
  by_cases hlt:k<l.length
  ·rcases hc with ⟨_,hc⟩|⟨b,off,cap,hv,_,hbs,hnc,hcm,hcell⟩
   ·omega
   simp only [Value.slice.injEq]at hv;obtain⟨rfl,_,rfl⟩:=hv;have g1:=hcell k hk0 hlt 0 _ rfl;have g1:=(hb.cell (p:=⟨b,off+k.toNat*1+0,none⟩) hbs).trans g1;rw [Nat.mul_one,Nat.add_zero]at g1;have hz1:=hz _ (geta_mem hk0 hlt);have he:=Lib.hid (show risingAt l k=if keyB (geta l k)=false then 5 else if 0<k∧leB (geta l k) (geta l (k-1))=true then 7 else 0 from rfl);cases hkb:keyB (geta l k)
   ·have hf:=Lib.hid (firstErr_hit hok hk0 hlt (by rw [he.out,if_pos hkb];decide));have hg:=Lib.hid (show risingAt l k=5 by rw [he.out,if_pos hkb]);have hkb:=Lib.hid hkb;clear hcell hz;generalize geta l k=s1 at *;go_wp2_with (go_at_call 50;refine(key_ref_is _ _ hkb.out _ hz1).mono ?_;rintro e w1 ⟨rfl,rfl⟩)
    go_ret
    exact⟨ret_int (by show(5:Int)=firstErr _ _;rw [hf.out,hg.out]),hb⟩
   ·by_cases hp:0<k
    ·have g2:=hcell (k-1) (by omega) (by omega) 0 _ rfl;have g2:=(hb.cell (p:=⟨b,off+(k-1).toNat*1+0,none⟩) hbs).trans g2;rw [Nat.mul_one,Nat.add_zero,show(k-1).toNat=k.toNat-1 by omega]at g2;cases hle:leB (geta l k) (geta l (k-1))
     ·have hst:=Lib.hid (hok.step (by rw [he.out,if_neg (by rw [hkb];decide),if_neg (by rw [hle];simp)]));have hkb:=Lib.hid hkb;unfold leB at hle;clear hcell hz;generalize geta l k=s1 at *;generalize geta l (k-1)=s2 at *;go_wp2_with (go_at_call 50;refine(key_ref_is _ _ hkb.out _ hz1).mono ?_;rintro e w1 ⟨rfl,rfl⟩)
      go_roundw
      case rel=>exact⟨k+1,by omega,by omega,hst.out,rfl,hb⟩
      case measure=>simp [intOf];omega
     ·have hg:=Lib.hid (show risingAt l k=7 by rw [he.out,if_neg (by rw [hkb];decide),if_pos ⟨hp,hle⟩]);have hf:=Lib.hid (firstErr_hit hok hk0 hlt (by rw [hg.out];decide));have hkb:=Lib.hid hkb;unfold leB at hle;clear hcell hz;generalize geta l k=s1 at *;generalize geta l (k-1)=s2 at *;go_wp2_with (go_at_call 50;refine(key_ref_is _ _ hkb.out _ hz1).mono ?_;rintro e w1 ⟨rfl,rfl⟩)
      go_ret
      exact⟨ret_int (by show(7:Int)=firstErr _ _;rw [hf.out,hg.out]),hb⟩
    ·have hst:=Lib.hid (hok.step (by rw [he.out,if_neg (by rw [hkb];decide),if_neg (fun h=>hp h.1)]));have hkb:=Lib.hid hkb;clear hcell hz;generalize geta l k=s1 at *;go_wp2_with (go_at_call 50;refine(key_ref_is _ _ hkb.out _ hz1).mono ?_;rintro e w1 ⟨rfl,rfl⟩)
     go_roundw
     case rel=>exact⟨k+1,by omega,by omega,hst.out,rfl,hb⟩
     case measure=>simp [intOf];omega
  ·have hf:=Lib.hid (firstErr_none (f:=risingAt l) (n:=l.length) (fun j h0 h1=>hok j h0 (by omega)));clear hc;go_wp2_with fail
   go_ret
   exact⟨ret_int hf.out.symm,hb⟩
end
/-- What is wrong with a list of positions that may be empty. -/
def listE (l:List ByteArray):Int:=if 10<l.length then 2 else risingE l
end Go.Proofs.YtnmdpphddimfbaaGreat
/-
  Is a string among strings? The library's slices.Contains. Condition: fewer strings than Go's greatest number.
-/
namespace Go.Bw
open Go.RowKit
theorem take_cellsOf {α:Type}(enc:α→List Value)(sz:Nat)(h:∀x,(enc x).length=sz):∀(l:List α) (k:Nat),k≤l.length→cellsOf enc (l.take k)=(cellsOf enc l).take (k*sz)
 | [],k,hk=>by simp at hk;subst hk;simp [cellsOf]
 | x::l,0,_=>by simp [cellsOf]
 | x::l,k+1,hk=>by
  rw [List.take_succ_cons,cellsOf_cons,cellsOf_cons,take_cellsOf enc sz h l k (by simpa using hk),Nat.add_mul,Nat.one_mul,Nat.add_comm,List.take_append,h,List.take_of_length_le (l:=enc x) (by rw [h];omega)]
  congr 2
  omega
/-- The first k of a row. -/
theorem Row.first {α:Type}{enc:α→List Value}{sz:Nat}(henc:∀x,(enc x).length=sz){w:World}{base n cap b off:Nat}{l:List α}(h:Row w base sz (.slice (some ⟨b,off,none⟩) n cap) n (cellsOf enc l))(hl:l.length=n){k:Nat}(hk:k≤n):
  Row w base sz (.slice (some ⟨b,off,none⟩) k cap) k (cellsOf enc (l.take k)):=by
 obtain⟨h1,h2⟩:=h;refine⟨by rw [cellsOf_length enc sz henc,List.length_take];congr 1;omega,?_⟩;rcases h2 with ⟨h2,_⟩|⟨b',off',cap',e,hb,hlt,hn,hc,hcell⟩
 ·cases h2
 ·simp only [Value.slice.injEq,Option.some.injEq,Addr.mk.injEq]at e;obtain⟨⟨rfl,rfl,_⟩,_,rfl⟩:=e;refine .inr ⟨b,off,cap,rfl,hb,hlt,by omega,hc,fun i u hu=>hcell i u ?_⟩;rw [take_cellsOf enc sz henc l k (by omega)]at hu;rw [List.getElem?_take]at hu
  split at hu
  ·exact hu
  ·cases hu
end Go.Bw
namespace Go.Proofs.YtnmdpphddimfbaaGreat
open Go.RowKit Go.Bw
/-- Is x among zs? -/
def hasS (zs:List ByteArray)(x:ByteArray):Bool:=Lib.containsS zs x
theorem contains_str (v:Value)(n:Nat)(zs:List ByteArray)(x:ByteArray)(base:Nat)(w:World)(h:Row w base 1 v n (cellsOf encSt zs)):
  Calls Tryz.prog 45 #[v,.string x] w fun e w'=>e=.returned (.bool (hasS zs x))∧w=w':=by
 obtain⟨hl,hc⟩:=h.els encSt_length (by decide);subst hl;rcases hc with ⟨rfl,h0⟩|⟨b,off,cap,rfl,_,hbs,hnc,hcm,hcell⟩
 ·refine(Tryz.slices_Contains_string_empty none 0 x w).mono ?_;rintro e w' ⟨rfl,rfl⟩;have:zs=[]:=List.length_eq_zero_iff.1 h0;subst this;exact⟨rfl,rfl⟩
 ·refine(Tryz.slices_Contains_string b off zs.length cap zs x w (Nat.le_refl _) (by omega) (fun j hj=>?_)).mono ?_
  ·have:=hcell (j:Int) (by omega) (by omega) 0 _ rfl;rw [geta_eq zs j (by omega) (by omega)]at this
   simpa [List.getD,hj] using this
  ·rintro e w' ⟨rfl,rfl⟩;rw [List.take_length];exact⟨rfl,rfl⟩
theorem hasS_iff (zs:List ByteArray)(x:ByteArray):hasS zs x=true↔x∈zs:=Lib.containsS_iff zs x
end Go.Proofs.YtnmdpphddimfbaaGreat
/-
  A region that draws its order: its calm operations (they read old cells or only compute) are taken first, in the order of the text; then the others, where only one order is left. No condition on a program.
-/
namespace Go.Bw
open Go.RowKit
def allocs (w:World)(os:List Obj):World:={ w with heap:=w.heap++os.toArray }
theorem allocs_nil (w:World):allocs w []=w:=by simp [allocs]
theorem allocs_alloc (w:World)(os:List Obj)(o:Obj):(allocs w os).alloc o=allocs w (os++[o]):=by
 simp [allocs,World.alloc]
theorem cell?_allocs (w:World)(os:List Obj)(a:Addr)(h:(w.cell? a).isSome=true):(allocs w os).cell? a=w.cell? a:=by
 obtain⟨v,hv⟩:=Option.isSome_iff_exists.1 h;have hlt:=World.block_lt_of_cell? w a hv;refine World.cell?_of_block ?_;simp [allocs,Array.getElem?_append,hlt]
section
variable {P:Program}{ops:Array Oper}{Q:Exit→Act→World→Prop}{md:Region.Mode}
/-- The worlds that are w with new blocks. -/
def Ext (w:World)(w':World):Prop:=∃os,w'=allocs w os
theorem ext_alloc {w₁:World}:∀w o,Ext w₁ w→Ext w₁ (w.alloc o):=fun w o ⟨os,e⟩=>⟨os++[o],by rw [e];exact allocs_alloc _ _ _⟩
/-- Operations that at most lay new blocks. -/
def laysB (o:Oper):Bool:=match o.op with | .alloc _ | .box .. | .buildSlice ..=>true|_=>false
def Same {α:Type}(w:World):Result α→Prop | .ok _ w'=>w'=w | .halt _ _=>True
def OutExt {α:Type}(w:World):Result α→Prop | .ok _ w'=>∃o,w'=w.alloc o | .halt _ _=>True
theorem same_pure {α:Type}(x:α)(w:World):Same w ((pure x:Sem α).run P w):=by simp [Same]
section
variable {α β:Type}{x:Sem α}{f:α→Sem β}{w:World}
include x f w
theorem same_bind (h:Same w (x.run P w))(hf:∀a,Same w ((f a).run P w)):Same w ((x >>= f).run P w):=by
 rw [Sem.run_bind];cases hx:x.run P w with
 | ok a w'=>rw [hx]at h;obtain rfl:=h;exact hf a
 | halt e w'=>trivial
theorem out_bind (h:Same w (x.run P w))(hf:∀a,OutExt w ((f a).run P w)):OutExt w ((x >>= f).run P w):=by
 rw [Sem.run_bind];cases hx:x.run P w with
 | ok a w'=>rw [hx]at h;obtain rfl:=h;exact hf a
 | halt e w'=>trivial
theorem out_bind' (h:OutExt w (x.run P w))(hf:∀a w',Same w' ((f a).run P w')):OutExt w ((x >>= f).run P w):=by
 rw [Sem.run_bind];cases hx:x.run P w with
 | ok a w' =>
  rw [hx]at h;obtain⟨o,rfl⟩:=h;have:=hf a (w.alloc o);show OutExt w ((f a).run P (w.alloc o));cases hy:(f a).run P (w.alloc o)with
  | ok b w''=>rw [hy]at this;obtain rfl:=this;exact⟨o,rfl⟩
  | halt e w'=>trivial
 | halt e w'=>trivial
end
section
variable (t:TypeId)(w:World)
include t w
theorem same_typeInfo:Same w ((typeInfo t).run P w):=by
 unfold typeInfo;cases h:P.info? t <;> simp [h,Same,stuck]
theorem same_underlying:Same w ((underlying t).run P w):=by
 unfold underlying;cases h:P.underlying t <;> simp [h,Same,stuck]
theorem same_zeroValue:Same w ((zeroValue t).run P w):=by
 unfold zeroValue;refine same_bind (same_typeInfo t w) fun i=>?_
 cases h:i.zero <;> simp [Same,unsupported]
theorem same_sizeOf:Same w ((sizeOf t).run P w):=by
 unfold sizeOf;exact same_bind (same_typeInfo t w) fun i=>same_pure _ _
end
theorem out_newRow (e:TypeId)(cs:Array Value)(w:World):OutExt w ((newRow e cs).run P w):=by
 unfold newRow newObj;simp [OutExt];exact⟨_,rfl⟩
def OutV (w:World):Result Next→Prop | .ok (.value _) w'=>∃o,w'=w.alloc o | .ok _ _=>False | .halt _ _=>True
theorem out_v {s:Sem Value}{w:World}(h:OutExt w (s.run P w)):OutV w ((do pure (Next.value (←s)):Sem Next).run P w):=by
 rw [Sem.run_bind];cases hx:s.run P w with
 | ok a w'=>rw [hx]at h;exact h
 | halt e w'=>trivial
theorem lays_out (o:Oper)(ρ:Operand→Value)(w:World)(h:laysB o=true):OutV w ((execOp ρ o).run P w):=by
 obtain⟨dst,op,type,pos,after,guard⟩:=o;cases op <;> simp [laysB]at h
 ·unfold execOp Instr.alloc newVar;exact out_v (out_bind (same_zeroValue _ _) fun z=>out_bind' (out_newRow _ _ _) fun _ _=>same_pure _ _)
 ·unfold execOp Instr.box newVar;exact out_v (out_bind' (out_newRow _ _ _) fun _ _=>same_pure _ _)
 ·rename_i t len parts
  unfold execOp Instr.buildSlice;refine out_v (out_bind (same_underlying _ _) fun d=>?_)
  split
  ·rename_i elem
   refine out_bind (same_sizeOf _ _) fun sz=>?_
   simp only []
   split
   ·simp [OutExt,unsupported]
   ·refine out_bind (same_pure _ _) fun _=>?_
    rename_i inst
    cases inst with
    | isFalse h0 =>
     refine out_bind (same_zeroValue _ _) fun _=>out_bind (same_pure _ _) fun _=>?_
     split
     ·exact out_bind' (out_newRow _ _ _) fun _ _=>same_pure _ _
     ·simp [OutExt,stuck]
    | isTrue h0 =>
     refine out_bind (same_pure _ _) fun _=>?_
     split
     ·exact out_bind' (out_newRow _ _ _) fun _ _=>same_pure _ _
     ·simp [OutExt,stuck]
  ·simp [OutExt,stuck]
theorem wpOp_lays {j:Nat}{oj:Oper}(hj:ops[j]?=some oj)(hl:laysB oj=true){K:Act→World→Prop}{a:Act}{w:World}(h:wpOp P ops Q j K a w):
  wpOp P ops Q j (fun a' w'=>K a' w'∧(w'=w∨∃o,w'=w.alloc o)) a w:=by
 unfold wpOp at *;simp only [hj]at *
 split
 ·rename_i hw
  simp only [hw,if_true]at h;refine h.imp (fun h=>?_) id;have hx:=lays_out (P:=P) oj a.eval w hl;unfold Oper.wp at *;generalize (execOp a.eval oj).run P w=r at *;cases r with
  | ok n w' =>
   cases n <;> simp only [Oper.upon]at h ⊢
   case value u=>exact⟨h,.inr hx⟩
   all_goals exact(hx:False).elim
  | halt x w' =>
   cases x <;> simp only [Oper.upon]at h ⊢
   case panic u=>exact h
 ·rename_i hw
  simp only [hw]at h;exact⟨h,by simp⟩
/-- Whatever order is picked from here on; the calm ones (mask) leave the world alone. -/
def wpAnyG (P:Program)(md:Region.Mode)(ops:Array Oper)(mask:Nat→Bool)(Q:Exit→Act→World→Prop):Nat→Array Bool→Act→World→Prop
 | 0,listed,a,w=>Region.ready md ops listed=[]∧Q .normal a w
 | fuel+1,listed,a,w =>
  (Region.ready md ops listed=[]→Q .normal a w) ∧
  ∀i∈Region.ready md ops listed,wpOp P ops Q i (fun a' w'=>(mask i=true→w'=w)∧wpAnyG P md ops mask Q fuel (listed.setIfInBounds i true) a' w') a w
theorem wpAny_of_G {mask:Nat→Bool}:∀(fuel:Nat) (listed:Array Bool) (a:Act) (w:World),wpAnyG P md ops mask Q fuel listed a w→wpAny P md ops Q fuel listed a w
 | 0,_,_,_,h=>h
 | fuel+1,_,_,_,h=>⟨h.1,fun i hi=>wpOp_mono (fun a' w' h'=>wpAny_of_G fuel _ a' w' h'.2) (h.2 i hi)⟩
/-- Does j wait for i, perhaps through others? -/
def waitsT (md:Region.Mode)(ops:Array Oper):Nat→Nat→Nat→Bool
 | 0,_,_=>false
 | f+1,j,i=>match ops[j]? with
  | some oj=>oj.after.any fun e=>Region.binds md e&&(e.on==i || waitsT md ops f e.on i)
  | none=>false
/-- What is listed has all that it waits for listed. -/
def Down (md:Region.Mode)(ops:Array Oper)(listed:Array Bool):Prop :=
 ∀j oj,ops[j]?=some oj→listed.getD j false=true→∀e∈oj.after,Region.binds md e=true→listed.getD e.on false=true
theorem waitsT_listed {listed:Array Bool}(hd:Down md ops listed){i:Nat}:∀(f j:Nat) (oj:Oper),ops[j]?=some oj→(∀e∈oj.after,Region.binds md e=true→listed.getD e.on false=true) →
  waitsT md ops f j i=true→listed.getD i false=true
 | 0,_,_,_,_,h=>by simp [waitsT]at h
 | f+1,j,oj,hj,ha,h=>by
  simp only [waitsT,hj]at h;obtain⟨e,he,hb⟩:=Array.any_eq_true'.1 h;simp only [Bool.and_eq_true,Bool.or_eq_true,beq_iff_eq]at hb;have hl:=ha e he hb.1;rcases hb.2 with h1|h1
  ·rw [←h1];exact hl
  ·cases ho:ops[e.on]? with
   | none =>
    cases f with
    | zero=>simp [waitsT]at h1
    | succ f=>simp [waitsT,ho]at h1
   | some ok=>exact waitsT_listed hd f e.on ok ho (hd e.on ok ho hl) h1
theorem Down.set {listed:Array Bool}(hd:Down md ops listed){i:Nat}(hi:i∈Region.ready md ops listed):Down md ops (listed.setIfInBounds i true):=by
 intro j oj hj hl e he hb;obtain⟨_,oi,hoi,hall⟩:=mem_ready.1 hi
 by_cases hij:i=j
 ·subst hij;rw [hoi]at hj;obtain rfl:=Option.some.inj hj;exact getD_set_true (hall e he hb)
 ·rw [getD_set_ne false hij]at hl;exact getD_set_true (hd j oj hj hl e he hb)
theorem first_G {mask:Nat→Bool}{i:Nat}{oi:Oper}{v:Value}(C:World→Prop)(hal:∀w o,C w→C (w.alloc o))(univ:Bool)(hun:univ=true→∀w,C w)(N:Nat)(hi:ops[i]?=some oi)(hm:mask i=true)(hsel:∀(j:Nat) (o:Oper) cs b,ops[j]?=some o→o.op≠.select cs b)(hQ:∀c a d v w,Q (.panic c) (Act.put a d v) w→Q (.panic c) a w):
  ∀(fuel:Nat) (listed:Array Bool) (a:Act) (w:World),C w→Down md ops listed →
   (∀j oj,ops[j]?=some oj→j≠i→listed.getD j true=false→waitsT md ops N j i=false→oi.apart ops oj=true∧(mask j=true∨laysB oj=true∨univ=true)) →
   i∈Region.ready md ops listed→YieldsIf P ops C oi v a →
   wpAnyG P md ops mask Q fuel (listed.setIfInBounds i true) (a.put oi.dst v) w→wpAnyG P md ops mask Q (fuel+1) listed a w:=by
 intro fuel
 induction fuel with
 | zero =>
  intro listed a w hE hd _ hr hy H;refine⟨fun h=>(by rw [h]at hr;cases hr),fun j hj=>?_⟩
  by_cases hji:j=i
  ·subst hji;exact hy.wpOp hi hE ⟨fun _=>rfl,H⟩
  ·have:=ready_mono hj hji;rw [H.1]at this;cases this
 | succ fuel ih =>
  intro listed a w hE hd hfree hr hy H;refine⟨fun h=>(by rw [h]at hr;cases hr),fun j hj=>?_⟩
  by_cases hji:j=i
  ·subst hji;exact hy.wpOp hi hE ⟨fun _=>rfl,H⟩
  ·have h1:=H.2 j (ready_mono hj hji);obtain⟨hjun,oj,hoj,hall⟩:=mem_ready.1 hj;have hiun:=(mem_ready.1 hr).1;have hnot:waitsT md ops N j i=false:=by
    cases hw:waitsT md ops N j i with
    | false=>rfl
    | true =>
     have hl:=waitsT_listed hd N j oj hoj hall hw;rcases Nat.lt_or_ge i listed.size with h'|h'
     ·simp [h']at hl hiun;rw [hiun]at hl;cases hl
     ·simp [Array.getElem?_eq_none h']at hl
   obtain⟨hap,hkind⟩:=hfree j oj hoj hji hjun hnot;have h2:=wpOp_putIf hoj hap (fun cs b=>hsel i oi cs b hi) (fun cs b=>hsel j oj cs b hoj) (fun c a w=>hQ c a _ _ w) hy h1;have hfree':∀k ok,ops[k]?=some ok→k≠i→(listed.setIfInBounds j true).getD k true=false →
     waitsT md ops N k i=false→oi.apart ops ok=true∧(mask k=true∨laysB ok=true∨univ=true):=fun k ok hk hki hun hno=>by
    refine hfree k ok hk hki ?_ hno
    by_cases hjk:j=k
    ·subst hjk;exact hjun
    ·rw [getD_set_ne true hjk]at hun;exact hun
   have go:∀a' w',C w'→(YieldsIf P ops C oi v a'∧(mask j=true→w'=w)∧wpAnyG P md ops mask Q fuel ((listed.setIfInBounds i true).setIfInBounds j true) (a'.put oi.dst v) w') →
     (mask j=true→w'=w)∧wpAnyG P md ops mask Q (fuel+1) (listed.setIfInBounds j true) a' w':=by
    intro a' w' hw h3;refine⟨h3.2.1,ih (listed.setIfInBounds j true) a' w' hw (hd.set hj) hfree' (ready_mono hr (Ne.symm hji)) h3.1 ?_⟩;rw [Array.setIfInBounds_comm _ _ hji];exact h3.2.2
   rcases hkind with hk|hk|hk
   ·exact wpOp_mono (fun a' w' h3=>go a' w' (by rw [h3.2.1 hk];exact hE) h3) h2
   ·refine wpOp_mono (fun a' w' h3=>go a' w' ?_ h3.1) (wpOp_lays hoj hk h2);rcases h3.2 with rfl|⟨o,rfl⟩
    ·exact hE
    ·exact hal _ _ hE
   ·exact wpOp_mono (fun a' w' h3=>go a' w' (hun hk w') h3) h2
/-- A calm operation: the same value in every world that is w₁ with new blocks, and nothing else. -/
def Oper.calm (P:Program)(o:Oper)(a:Act)(w₁:World)(next:Act→Prop):Prop :=
 ∃v,(∀os,(execOp a.eval o).run P (allocs w₁ os)=.ok (.value v) (allocs w₁ os))∧next (a.put o.dst v)
attribute [go_sem] Oper.calm
/-- The calm operations, in the order of the text. -/
def wpCalm (P:Program)(ops:Array Oper)(w₁:World)(Qa:Act→Prop):List Oper→Act→Prop
 | [],a=>Qa a
 | o::rest,a=>if Region.wanted o (yielded ops a.tmps)then Oper.calm P o a w₁ (wpCalm P ops w₁ Qa rest)else wpCalm P ops w₁ Qa rest (a.put o.dst undef)
section
variable {w₁:World}{Qa:Act→Prop}{a:Act}
include w₁ Qa a
theorem wpCalm_nil (h:Qa a):wpCalm P ops w₁ Qa [] a:=h
theorem wpCalm_step {o:Oper}{rest:List Oper}(h:∀K:Act→Prop,(∀a,wpCalm P ops w₁ Qa rest a→K a)→if Region.wanted o (yielded ops a.tmps)then Oper.calm P o a w₁ K else K (a.put o.dst undef)):wpCalm P ops w₁ Qa (o::rest) a :=
 h _ (fun _ h=>h)
end
def freeG (md:Region.Mode)(ops:Array Oper)(mask:Nat→Bool)(listed:Array Bool)(i:Nat):Bool :=
 match ops[i]? with
 | none=>false
 | some oi=>mask i&&(Region.ready md ops listed).contains i&&(List.range ops.size).all fun j=>j==i || listed.getD j true || waitsT md ops ops.size j i || match ops[j]? with
   | some oj=>oi.apart ops oj&&(mask j || laysB oj)
   | none=>true
/-- After the calm ones (cs, in this order) only one order of the others (ns) is left. -/
def calmB (md:Region.Mode)(ops:Array Oper)(mask:Nat→Bool)(ns:List Nat):List Nat→Array Bool→Bool
 | [],listed=>seqI md ops mask ns listed
 | i::cs,listed=>freeG md ops mask listed i&&calmB md ops mask ns cs (listed.setIfInBounds i true)
where
 seqI (md:Region.Mode) (ops:Array Oper) (mask:Nat→Bool):List Nat→Array Bool→Bool
 | [],listed=>(Region.ready md ops listed).isEmpty
 | k::ns,listed=>decide (Region.ready md ops listed=[k])&&!mask k&&seqI md ops mask ns (listed.setIfInBounds k true)
def pickOps (l:List Oper)(is:List Nat):List Oper:=is.filterMap fun i=>l[i]?
theorem seq_G {l:List Oper}{mask:Nat→Bool}:∀(ns:List Nat) (listed:Array Bool) (a:Act) (w:World),calmB.seqI md l.toArray mask ns listed=true→(∀k∈ns,k<l.length) →
  wpList P l.toArray Q (pickOps l ns) a w→wpAnyG P md l.toArray mask Q ns.length listed a w
 | [],listed,a,w,hB,_,h=>⟨by simpa [calmB.seqI] using hB,h⟩
 | k::ns,listed,a,w,hB,hl,h=>by
  simp only [calmB.seqI,Bool.and_eq_true,decide_eq_true_eq,Bool.not_eq_true']at hB;obtain⟨⟨hr,hmk⟩,hB'⟩:=hB;have hk:k<l.length:=hl k (by simp);have hp:pickOps l (k::ns)=l[k]::pickOps l ns:=by simp [pickOps,List.getElem?_eq_getElem hk]
  rw [hp]at h;refine⟨fun h1=>(by rw [hr]at h1;cases h1),fun i hi=>?_⟩;rw [hr]at hi;obtain rfl:i=k:=by simpa using hi
  have hw:wpOp P l.toArray Q i (wpList P l.toArray Q (pickOps l ns)) a w:=by unfold wpOp;simp only [List.getElem?_toArray,List.getElem?_eq_getElem hk];exact h
  exact wpOp_mono (fun a' w' h'=>⟨fun e=>(by rw [hmk]at e;cases e),seq_G ns _ a' w' hB' (fun k hk=>hl k (by simp [hk])) h'⟩) hw
theorem calm_G {l:List Oper}{mask:Nat→Bool}(w₁:World)(ns:List Nat)(hs:Region.noSelect l.toArray=true)(hQ:∀c a d v w,Q (.panic c) (Act.put a d v) w→Q (.panic c) a w)(hn:∀k∈ns,k<l.length):
  ∀(cs:List Nat) (listed:Array Bool) (a:Act),Down md l.toArray listed→calmB md l.toArray mask ns cs listed=true→(∀k∈cs,k<l.length) →
  wpCalm P l.toArray w₁ (fun a'=>wpList P l.toArray Q (pickOps l ns) a' w₁) (pickOps l cs) a→wpAnyG P md l.toArray mask Q (cs.length+ns.length) listed a w₁
 | [],listed,a,_,hB,_,h=>by
  rw [List.length_nil,Nat.zero_add];exact seq_G ns listed a w₁ hB hn h
 | i::cs,listed,a,hd,hB,hl,h=>by
  simp only [calmB,Bool.and_eq_true]at hB;obtain⟨hf,hB'⟩:=hB;have hi:i<l.length:=hl i (by simp);have h0:l.toArray[i]?=some l[i]:=by simp [hi]
  have hp:pickOps l (i::cs)=l[i]::pickOps l cs:=by simp [pickOps,List.getElem?_eq_getElem hi]
  rw [hp]at h;simp only [freeG,h0,Bool.and_eq_true,List.all_eq_true,List.mem_range]at hf;obtain⟨⟨hmk,hr⟩,hall⟩:=hf;have hr':i∈Region.ready md l.toArray listed:=by simpa using hr
  obtain⟨v,hy,hrest⟩:∃v,YieldsIf P l.toArray (Ext w₁) l[i] v a∧wpCalm P l.toArray w₁ (fun a'=>wpList P l.toArray Q (pickOps l ns) a' w₁) (pickOps l cs) (a.put (l[i]).dst v):=by
   unfold wpCalm at h
   split at h
   ·rename_i hw
    obtain⟨v,hv,hk⟩:=h;exact⟨v,.inl ⟨hw,fun w' ⟨os,e⟩=>by subst e;exact hv os⟩,hk⟩
   ·rename_i hw
    exact⟨undef,.inr ⟨by simpa using hw,rfl⟩,h⟩
  have:(i::cs).length+ns.length=(cs.length+ns.length)+1:=by simp;omega
  rw [this];refine first_G (Ext w₁) ext_alloc false (by simp) l.toArray.size h0 hmk (Region.noSelect_spec hs) hQ _ listed a w₁ ⟨[],(allocs_nil _).symm⟩ hd (fun j oj hj hne hun hw=>?_) hr' hy
   (calm_G w₁ ns hs hQ hn cs _ _ (hd.set hr') hB' (fun k hk=>hl k (by simp [hk])) hrest)
  have h1:=hall j (Array.getElem?_eq_some_iff.1 hj).1;simp only [hj,Bool.or_eq_true,beq_iff_eq,hne,false_or,hun,hw,Bool.false_eq_true,Bool.and_eq_true]at h1;exact⟨h1.1,h1.2.imp id .inl⟩
/-- A pure operation: the same value in every world. -/
def Oper.pureAt (P:Program)(o:Oper)(a:Act)(next:Act→Prop):Prop :=
 ∃v,(∀w,(execOp a.eval o).run P w=.ok (.value v) w)∧next (a.put o.dst v)
attribute [go_sem] Oper.pureAt
def wpPure (P:Program)(ops:Array Oper)(Qa:Act→Prop):List Oper→Act→Prop
 | [],a=>Qa a
 | o::rest,a=>if Region.wanted o (yielded ops a.tmps)then Oper.pureAt P o a (wpPure P ops Qa rest)else wpPure P ops Qa rest (a.put o.dst undef)
def freeP (md:Region.Mode)(ops:Array Oper)(mask:Nat→Bool)(listed:Array Bool)(i:Nat):Bool :=
 match ops[i]? with
 | none=>false
 | some oi=>mask i&&(Region.ready md ops listed).contains i&&(List.range ops.size).all fun j=>j==i || listed.getD j true || waitsT md ops ops.size j i || match ops[j]? with
   | some oj=>oi.apart ops oj
   | none=>true
def pureB (md:Region.Mode)(ops:Array Oper)(mask:Nat→Bool)(cs ns:List Nat):List Nat→Array Bool→Bool
 | [],listed=>calmB md ops mask ns cs listed
 | i::ps,listed=>freeP md ops mask listed i&&pureB md ops mask cs ns ps (listed.setIfInBounds i true)
theorem wpList_guardless (ops':Array Oper):∀(l:List Oper),l.all (fun o=>o.guard.isNone)=true→wpList P ops Q l=wpList P ops' Q l
 | [],_=>rfl
 | o::rest,h=>by
  simp only [List.all_cons,Bool.and_eq_true,Option.isNone_iff_eq_none]at h
  funext a w
  unfold wpList;rw [wpList_guardless ops' rest h.2];simp only [Region.wanted,h.1,if_true]
section
variable {id:Nat}{a:Act}{w:World}{l:List Oper}(cs ns:List Nat)(hm:P.follows .mixedOrders=true)
include id a w l cs ns hm
/-- A region that draws its order: first its calm operations cs, then the others ns. -/
theorem wp_region_calm0 (hB:(Region.noSelect l.toArray&&calmB .any l.toArray (fun i=>cs.contains i) ns cs (Array.replicate l.length false)&&(cs++ns).all (fun k=>decide (k<l.length))&&decide (cs.length+ns.length=l.length))=true)(hQ:∀c a d v w,Q (.panic c) (Act.put a d v) w→Q (.panic c) a w)(h:wpCalm P l.toArray w.drew (fun a'=>wpList P l.toArray Q (pickOps l ns) a' w.drew) (pickOps l cs) a):(Code.region id l.toArray true).wp P Q a w:=by
 simp only [Bool.and_eq_true,decide_eq_true_eq,List.all_eq_true]at hB;obtain⟨⟨⟨hs,hc⟩,hlt⟩,hlen⟩:=hB;refine wp_region_any hm (wpAny_of_G (mask:=fun i=>cs.contains i) _ _ _ _ ?_);have hd:Down .any l.toArray (Array.replicate l.length false):=fun j oj _ hl=>by
  rw [getD_replicate_false]at hl;cases hl
 have:=calm_G w.drew ns hs hQ (fun k hk=>hlt k (by simp [hk])) cs (Array.replicate l.length false) a hd hc (fun k hk=>hlt k (by simp [hk])) h;rw [hlen]at this
 simpa using this
/-- A region that draws its order: first its calm operations cs, then the others ns, which bear no guard. -/
theorem wp_region_calm (hB:(Region.noSelect l.toArray&&calmB .any l.toArray (fun i=>cs.contains i) ns cs (Array.replicate l.length false)&&(cs++ns).all (fun k=>decide (k<l.length))&&decide (cs.length+ns.length=l.length)&&(pickOps l ns).all (fun o=>o.guard.isNone))=true)(hQ:∀c a d v w,Q (.panic c) (Act.put a d v) w→Q (.panic c) a w)(h:wpCalm P l.toArray w.drew (fun a'=>wpList P (pickOps l ns).toArray Q (pickOps l ns) a' w.drew) (pickOps l cs) a):(Code.region id l.toArray true).wp P Q a w:=by
 rw [Bool.and_eq_true]at hB;exact wp_region_calm0 cs ns hm hB.1 hQ (by rw [wpList_guardless (pickOps l ns).toArray _ hB.2];exact h)
end
end
end Go.Bw
/-
  Fractions: the program's and the reference's reckoning. Conditions: the bounds on numbers that each theorem names.
-/
namespace Go.Bw
open Go.RowKit
theorem gcd_tmod (a b:Int):Int.gcd b (a.tmod b)=Int.gcd a b:=by
 unfold Int.gcd;rw [Int.natAbs_tmod,Nat.gcd_comm,←Nat.gcd_rec,Nat.gcd_comm]
theorem gcd_emod (a b:Int)(h:0≤a):Int.gcd b (a % b)=Int.gcd a b:=by
 rw [←Int.tmod_eq_emod_of_nonneg h,gcd_tmod]
theorem gcd_zero {a:Int}:Int.gcd a 0=a.natAbs:=by simp [Int.gcd]
theorem gcd_neg' (a b:Int):Int.gcd (-a) b=Int.gcd a b:=by simp [Int.gcd]
theorem gcd_abs (a b:Int):Int.gcd (max a (-a)) b=Int.gcd a b:=by
 by_cases h:0≤a
 ·rw [Int.max_eq_left (by omega)]
 ·rw [Int.max_eq_right (by omega),gcd_neg']
theorem wrap_neg_u64 {x:Int}(h1:-9223372036854775808≤x)(h2:x<0):IntKind.u64.wrap (-IntKind.u64.wrap x)=-x:=by
 have e:∀y:Int,IntKind.u64.wrap y=y % 18446744073709551616:=fun y=>rfl
 rw [e,e];omega
theorem frozen_new0 (w:World)(cs:Array Value)(e:TypeId)(i:Nat):(w.alloc (.cells cs e)).frozen? ⟨w.heap.size,i,none⟩=false:=by
 unfold World.frozen?;rw [heap_alloc_new];simp
/-- A block of two cells that was laid, seen behind a call that left it alone. -/
theorem fresh2 (w w1:World)(e:TypeId)(x0 y0:Value)(hb:Below (w.alloc (.cells #[x0,y0] e)).heap.size (w.alloc (.cells #[x0,y0] e)) w1):
  w1.cell? ⟨w.heap.size,0,none⟩=some x0∧w1.cell? ⟨w.heap.size,1,none⟩=some y0∧w1.frozen? ⟨w.heap.size,0,none⟩=false∧w1.frozen? ⟨w.heap.size,1,none⟩=false∧w.heap.size<w1.heap.size ∧
  (∀x y,((w1.setCell ⟨w.heap.size,0,none⟩ x).setCell ⟨w.heap.size,1,none⟩ y).cell? ⟨w.heap.size,0,none⟩=some x) ∧
  (∀x y,((w1.setCell ⟨w.heap.size,0,none⟩ x).setCell ⟨w.heap.size,1,none⟩ y).cell? ⟨w.heap.size,1,none⟩=some y) ∧
  (∀x y,Below w.heap.size w ((w1.setCell ⟨w.heap.size,0,none⟩ x).setCell ⟨w.heap.size,1,none⟩ y)):=by
 have hlt:w.heap.size<(w.alloc (.cells #[x0,y0] e)).heap.size:=by simp
 have k0:=(hb.cell (p:=⟨w.heap.size,0,none⟩) hlt).trans (cells_new w #[x0,y0] e 0 _ rfl);have k1:=(hb.cell (p:=⟨w.heap.size,1,none⟩) hlt).trans (cells_new w #[x0,y0] e 1 _ rfl);have hw:=((Below.refl w.heap.size w).alloc (Nat.le_refl _) (.cells #[x0,y0] e)).trans (hb.mono (Nat.le_of_lt hlt));refine⟨k0,k1,(hb.frozen (p:=⟨w.heap.size,0,none⟩) hlt).trans (frozen_new0 _ _ _ _),(hb.frozen (p:=⟨w.heap.size,1,none⟩) hlt).trans (frozen_new0 _ _ _ _),Nat.lt_of_lt_of_le hlt hb.size,fun x y=>?_,fun x y=>?_,fun x y=>(hw.setCell (Nat.le_refl _) _).setCell (Nat.le_refl _) _⟩
 ·rw [World.cell?_setCell_other _ _ _ _ (by simp)];exact World.cell?_setCell_same' _ _ _ (by rw [k0];rfl)
 ·exact World.cell?_setCell_same' _ _ _ (by rw [World.cell?_setCell_other _ _ _ _ (by simp),k1];rfl)
theorem mul_small (x q:Int)(h1:-1000000000000000≤x)(h2:x≤1000000000000000)(h3:0≤q)(h4:q≤100):-100000000000000000≤x*q∧x*q≤100000000000000000:=by
 have a:=Int.mul_le_mul_of_nonneg_right h1 h3;have b:=Int.mul_le_mul_of_nonneg_right h2 h3;omega
end Go.Bw
namespace Go.Proofs.YtnmdpphddimfbaaGreat
open Go.RowKit Go.Bw
theorem gcd_any (a b:Int)(w:World)(h1:0≤a)(h2:a≤9223372036854775807)(h3:0≤b)(h4:b≤9223372036854775807):
  Calls Tryz.prog 111 #[.int .i64 a,.int .i64 b] w fun e w'=>e=.returned (.int .i64 (Int.gcd a b))∧Below w.heap.size w w':=by
 have hw0:=Below.refl w.heap.size w;obtain⟨G,hG⟩:∃G,G=Int.gcd a b:=⟨_,rfl⟩
 rw [←hG];have HG:=Lib.hid hG.symm;clear hG
 go_enter Tryz.func111,Tryz.ntmps111
 go_wp2_with fail
 go_loopw [0,1] (fun s t wr=>∃x y:Int,0≤x∧x≤9223372036854775807∧0≤y∧y≤9223372036854775807∧Hid (Int.gcd x y=G)∧s=.int .i64 x∧t=.int .i64 y∧Below w.heap.size w wr) (fun _ t _=>(intOf t).toNat)
 case atStart=>exact⟨a,b,h1,h2,h3,h4,HG,rfl,rfl,hw0⟩
 case round =>
  obtain⟨x,y,hx0,hx1,hy0,hy1,hg,rfl,rfl,hb⟩:=hrel
  by_cases hy:y=0
  ·have hx:(G:Int)=x:=by rw [←hg.out,hy,gcd_zero];omega
   subst hy;have Hx:=Lib.hid hx;clear hx;go_wp2_with fail
   go_ret
   exact⟨ret_int Hx.out.symm,hb⟩
  ·have hyb:(y==0)=false:=by simp [hy]
   have hst:Hid (Int.gcd y (x % y)=G):=Lib.hid (by rw [gcd_emod _ _ hx0];exact hg.out);have hm0:0≤x % y:=Int.emod_nonneg _ hy;have hm1:x % y<y:=Int.emod_lt_of_pos _ (by omega);clear hg;go_wp2_with fail
   go_quiet (fail)
   go_wp2_with fail
   go_roundw
   case rel=>exact⟨y,x % y,by omega,by omega,by omega,by omega,hst,rfl,rfl,below_drewN hb _⟩
   case measure=>simp [intOf];omega
theorem lowest_any (num den:Int)(w:World)(h1:-9223372036854775808≤num)(h2:num≤9223372036854775807)(h3:1≤den)(h4:den≤9223372036854775807):
  Calls Tryz.prog 100 #[.agg #[.int .i64 num,.int .i64 den]] w fun e w'=>e=.returned (.bool (decide (Int.gcd num den=1)))∧Below w.heap.size w w':=by
 have hw0:=Below.refl w.heap.size w;obtain⟨G,hG⟩:∃G,G=Int.gcd num den:=⟨_,rfl⟩
 rw [←hG];have HG:=Lib.hid hG.symm;clear hG;have HA:Hid (Int.gcd num.natAbs den=G):=Lib.hid (by rw [←HG.out];simp [Int.gcd])
 by_cases hn:num<0
 ·have HW:=Lib.hid (wrap_neg_u64 h1 hn);have hG2:Hid (Int.gcd (-num) den=G):=Lib.hid (by rw [gcd_neg'];exact HG.out)
  go_enter Tryz.func100,Tryz.ntmps100
  go_wp2_with fail
  go_quiet (fail)
  go_wp2_with fail
  go_loopw [3,4] (fun s t wr=>∃x y:Int,0≤x∧x≤9223372036854775808∧0≤y∧y≤9223372036854775807∧Hid (Int.gcd x y=G)∧s=.int .u64 x∧t=.int .u64 y∧Below w.heap.size w wr) (fun _ t _=>(intOf t).toNat)
  case atStart=>exact⟨-num,den,by omega,by omega,by omega,h4,hG2,by rw [HW.out],rfl,below_drewN (hw0.alloc (Nat.le_refl _) _) _⟩
  case round =>
   obtain⟨x,y,hx0,hx1,hy0,hy1,hg,rfl,rfl,hb⟩:=hrel
   by_cases hy:y=0
   ·have hx:(G:Int)=x:=by rw [←hg.out,hy,gcd_zero];omega
    subst hy;have Hx:=Lib.hid hx;clear hx;go_wp2_with fail
    go_ret
    exact⟨ret_bool (by rw [←Hx.out];by_cases hG:G=1 <;> simp [hG] <;> omega),hb⟩
   ·have hyb:(y==0)=false:=by simp [hy]
    have hst:Hid (Int.gcd y (x % y)=G):=Lib.hid (by rw [gcd_emod _ _ hx0];exact hg.out);have hm0:0≤x % y:=Int.emod_nonneg _ hy;have hm1:x % y<y:=Int.emod_lt_of_pos _ (by omega);clear hg;go_wp2_with fail
    go_quiet (fail)
    go_wp2_with fail
    go_roundw
    case rel=>exact⟨y,x % y,by omega,by omega,by omega,by omega,hst,rfl,rfl,below_drewN hb _⟩
    case measure=>simp [intOf];omega
 ·go_enter Tryz.func100,Tryz.ntmps100
  go_wp2_with fail
  go_quiet (fail)
  go_wp2_with fail
  go_loopw [3,4] (fun s t wr=>∃x y:Int,0≤x∧x≤9223372036854775808∧0≤y∧y≤9223372036854775807∧Hid (Int.gcd x y=G)∧s=.int .u64 x∧t=.int .u64 y∧Below w.heap.size w wr) (fun _ t _=>(intOf t).toNat)
  case atStart=>exact⟨num,den,by omega,by omega,by omega,h4,HG,rfl,rfl,below_drewN (hw0.alloc (Nat.le_refl _) _) _⟩
  case round =>
   obtain⟨x,y,hx0,hx1,hy0,hy1,hg,rfl,rfl,hb⟩:=hrel
   by_cases hy:y=0
   ·have hx:(G:Int)=x:=by rw [←hg.out,hy,gcd_zero];omega
    subst hy;have Hx:=Lib.hid hx;clear hx;go_wp2_with fail
    go_ret
    exact⟨ret_bool (by rw [←Hx.out];by_cases hG:G=1 <;> simp [hG] <;> omega),hb⟩
   ·have hyb:(y==0)=false:=by simp [hy]
    have hst:Hid (Int.gcd y (x % y)=G):=Lib.hid (by rw [gcd_emod _ _ hx0];exact hg.out);have hm0:0≤x % y:=Int.emod_nonneg _ hy;have hm1:x % y<y:=Int.emod_lt_of_pos _ (by omega);clear hg;go_wp2_with fail
    go_quiet (fail)
    go_wp2_with fail
    go_roundw
    case rel=>exact⟨y,x % y,by omega,by omega,by omega,by omega,hst,rfl,rfl,below_drewN hb _⟩
    case measure=>simp [intOf];omega
/-- divisor: of a number and one above 0. -/
theorem divisor_any (a b:Int)(w:World)(h1:-9223372036854775808≤a)(h2:a≤9223372036854775807)(h3:1≤b)(h4:b≤9223372036854775807):
  Calls Tryz.prog 94 #[.int .i64 a,.int .i64 b] w fun e w'=>e=.returned (.int .i64 (Int.gcd a b))∧Below w.heap.size w w':=by
 have hw0:=Below.refl w.heap.size w;obtain⟨G,hG⟩:∃G,G=Int.gcd a b:=⟨_,rfl⟩
 rw [←hG];have HG:=Lib.hid hG.symm;clear hG
 go_enter Tryz.func94,Tryz.ntmps94
 go_wp2_with fail
 go_loopw [0,1] (fun s t wr=>∃x y:Int,-9223372036854775808≤x∧x≤9223372036854775807∧-9223372036854775807≤y∧y≤9223372036854775807∧(y=0→-9223372036854775807≤x)∧Hid (Int.gcd x y=G)∧s=.int .i64 x∧t=.int .i64 y∧Below w.heap.size w wr) (fun _ t _=>(intOf t).natAbs)
 case atStart=>exact⟨a,b,h1,h2,by omega,h4,by omega,HG,rfl,rfl,hw0⟩
 case round =>
  obtain⟨x,y,hx0,hx1,hy0,hy1,hxy,hg,rfl,rfl,hb⟩:=hrel
  by_cases hy:y=0
  ·have hx:(G:Int)=max x (-x):=by rw [←hg.out,hy,gcd_zero];omega
   have hx2:=hxy hy;subst hy;have Hx:=Lib.hid hx;clear hx hxy;go_wp2_with fail
   go_ret
   exact⟨ret_int Hx.out.symm,hb⟩
  ·have hyb:(y==0)=false:=by simp [hy]
   have hst:Hid (Int.gcd y (x.tmod y)=G):=Lib.hid (by rw [gcd_tmod];exact hg.out);have hna:(x.tmod y).natAbs<y.natAbs:=by rw [Int.natAbs_tmod];exact Nat.mod_lt _ (by omega)
   have hm0:-9223372036854775807≤x.tmod y:=by omega
   have hm1:x.tmod y≤9223372036854775807:=by omega
   clear hg hxy;go_wp2_with fail
   go_quiet (fail)
   go_wp2_with fail
   go_roundw
   case rel=>exact⟨y,x.tmod y,by omega,by omega,by omega,by omega,by omega,hst,rfl,rfl,below_drewN hb _⟩
   case measure=>exact hna
/-- So many hundredths, in lowest terms. -/
def ofHn (n:Int):Int:=n / (Int.gcd n 100:Int)
def ofHd (n:Int):Int:=100 / (Int.gcd n 100:Int)
theorem gcd100 (n:Int):1≤(Int.gcd n 100:Int)∧(Int.gcd n 100:Int)≤100:=by
 have h0:0<Int.gcd n 100:=Int.gcd_pos_of_ne_zero_right _ (by decide);have h1:Int.gcd n 100 ∣ 100:=by have:=Int.gcd_dvd_right n 100;exact_mod_cast this
 have:=Nat.le_of_dvd (by decide) h1;omega
theorem ofH_quo (n:Int):n.tdiv (Int.gcd n 100:Int)=ofHn n:=by
 unfold ofHn;rw [Int.tdiv_eq_ediv_of_dvd (Int.gcd_dvd_left n 100)]
theorem ofH_bounds (n:Int)(h:-1000000000000000≤n)(h':n≤1000000000000000):-1000000000000000≤ofHn n∧ofHn n≤1000000000000000∧1≤ofHd n∧ofHd n≤100:=by
 have hg:=gcd100 n;have hn:ofHn n*(Int.gcd n 100:Int)=n:=by unfold ofHn;exact Int.ediv_mul_cancel (Int.gcd_dvd_left n 100)
 have hm:(ofHn n).natAbs≤n.natAbs:=by
  rw [←congrArg Int.natAbs hn,Int.natAbs_mul];exact Nat.le_mul_of_pos_right _ (by omega)
 refine⟨by omega,by omega,?_,?_⟩
 ·unfold ofHd;exact Int.le_ediv_of_mul_le (by omega) (by omega)
 ·unfold ofHd;exact Int.ediv_le_self _ (by decide)
section
variable (n:Int)(w:World)(h1:-1000000000000000≤n)(h2:n≤1000000000000000)
include w h1 h2
theorem fraction_prog :
  Calls Tryz.prog 86 #[.int .i64 n,.int .i64 100] w fun e w'=>e=.returned (.agg #[.int .i64 (ofHn n),.int .i64 (ofHd n)])∧Below w.heap.size w w':=by
 have hq:=Lib.hid (ofH_quo n);have hg:=gcd100 n;have ha:=Lib.hid (gcd_abs n 100);have hd:=Lib.hid (show 100 / (Int.gcd n 100:Int)=ofHd n from rfl);have hw0:=Below.refl w.heap.size w
 go_enter Tryz.func86,Tryz.ntmps86
 go_wp2_with fail
 have k0:=cells_new w #[.int .i64 0,.int .i64 0] 34 0 _ rfl;have k1:=cells_new w #[.int .i64 0,.int .i64 0] 34 1 _ rfl;have kf:=frozen_new0 w #[.int .i64 0,.int .i64 0] 34 0;have kf1:=frozen_new0 w #[.int .i64 0,.int .i64 0] 34 1;have hlt:w.heap.size<(w.alloc (.cells #[.int .i64 0,.int .i64 0] 34)).heap.size:=by simp
 replace hw0:=hw0.alloc (Nat.le_refl _) (.cells #[.int .i64 0,.int .i64 0] 34)
 generalize w.alloc (Obj.cells #[Value.int IntKind.i64 0,Value.int IntKind.i64 0] 34)=W at *;refine(gcd_any _ _ _ (by omega) (by omega) (by omega) (by omega)).mono ?_;rw [ha.out];rintro e w1 ⟨rfl,hb⟩;generalize (Int.gcd n 100:Int)=g at *;have hg0:(g==0)=false:=by simp;omega
 replace k0:=(hb.cell (p:=⟨w.heap.size,0,none⟩) hlt).trans k0
 replace k1:=(hb.cell (p:=⟨w.heap.size,1,none⟩) hlt).trans k1
 replace kf:=(hb.frozen (p:=⟨w.heap.size,0,none⟩) hlt).trans kf
 replace kf1:=(hb.frozen (p:=⟨w.heap.size,1,none⟩) hlt).trans kf1
 replace hw0:=hw0.trans (hb.mono (Nat.le_of_lt hlt))
 have hlt1:w.heap.size<w1.heap.size:=Nat.lt_of_lt_of_le hlt hb.size;clear hb hlt;generalize hB:w.heap.size=B at *;go_wp2_with fail
 have hbn:=ofH_bounds n h1 h2;have hne:¬g=0:=by omega
 have e1:IntKind.i64.wrap (n.tdiv g)=ofHn n:=by rw [hq.out];exact IntWalk.i64_in _ (by omega)
 have e2:IntKind.i64.wrap (Int.tdiv 100 g)=ofHd n:=by rw [Int.tdiv_eq_ediv_of_nonneg (by decide),hd.out];exact IntWalk.i64_in _ (by omega)
 have hA:=@cell?_allocs;refine wp_region_calm [0,1,2,3,4,5,6] [7] (by kernel_rfl) (by kernel_rfl) (by intro c a d v w h;cases d <;> exact h) ?_;simp only [pickOps,List.filterMap_cons,List.filterMap_nil,List.getElem?_cons_succ,List.getElem?_cons_zero]
 repeat (refine wpCalm_step (fun K hK=>?_);go_simp;refine hK _ ?_;clear hK K)
 refine wpCalm_nil ?_;clear hA hne e1 e2;go_wp2_with fail
 have r1:=World.cell?_setCell_same' (w1.setCell ⟨B,0,none⟩ (.int .i64 (ofHn n))) ⟨B,1,none⟩ (.int .i64 (ofHd n)) (by rw [World.cell?_setCell_other _ _ _ _ (by simp),k1];rfl);have r0:((w1.setCell ⟨B,0,none⟩ (.int .i64 (ofHn n))).setCell ⟨B,1,none⟩ (.int .i64 (ofHd n))).cell? ⟨B,0,none⟩=some (.int .i64 (ofHn n)):=by
  rw [World.cell?_setCell_other _ _ _ _ (by simp)];exact World.cell?_setCell_same' _ _ _ (by rw [k0];rfl)
 refine bodyPost_ret (v:=.agg #[.int .i64 (ofHn n),.int .i64 (ofHd n)]) (by simp [results,Tryz.results86,go_sem,r0,r1]) rfl ⟨rfl,?_⟩;rw [hB];exact below_drewN ((hw0.setCell (Nat.le_refl _) _).setCell (Nat.le_refl _) _) 1
theorem ofHundredths_prog :
  Calls Tryz.prog 47 #[.int .i64 n] w fun e w'=>e=.returned (.agg #[.int .i64 (ofHn n),.int .i64 (ofHd n)])∧Below w.heap.size w w':=by
 go_enter Tryz.func47,Tryz.ntmps47
 go_wp2_with fail
 refine(fraction_prog n _ h1 h2).mono ?_;rintro e w1 ⟨rfl,hb⟩;obtain⟨k0,k1,kf,kf1,hlt,r0,r1,hB⟩:=fresh2 _ _ _ _ _ hb;have r0:=r0 (.int .i64 (ofHn n)) (.int .i64 (ofHd n));have r1:=r1 (.int .i64 (ofHn n)) (.int .i64 (ofHd n));have hB:=hB (.int .i64 (ofHn n)) (.int .i64 (ofHd n));clear hb;go_wp2_with fail
 exact bodyPost_ret (v:=.agg #[.int .i64 (ofHn n),.int .i64 (ofHd n)]) (by simp [results,Tryz.results47,go_sem,r0,r1]) rfl ⟨rfl,hB⟩
theorem lowestF_ref :
  Calls Tryz.prog 59 #[.int .i64 n,.int .i64 100] w fun e w'=>e=.returned (.agg #[.int .i64 (ofHn n),.int .i64 (ofHd n)])∧Below w.heap.size w w':=by
 have hq:=Lib.hid (ofH_quo n);have hg:=gcd100 n;have hd:=Lib.hid (show 100 / (Int.gcd n 100:Int)=ofHd n from rfl)
 go_enter Tryz.func59,Tryz.ntmps59
 go_wp2_with fail
 refine(divisor_any _ _ _ (by omega) (by omega) (by omega) (by omega)).mono ?_;rintro e w1 ⟨rfl,hb⟩;generalize (Int.gcd n 100:Int)=g at *;obtain⟨k0,k1,kf,kf1,hlt,r0,r1,hB⟩:=fresh2 _ _ _ _ _ hb;have r0:=r0 (.int .i64 (ofHn n)) (.int .i64 (ofHd n));have r1:=r1 (.int .i64 (ofHn n)) (.int .i64 (ofHd n));have hB:=hB (.int .i64 (ofHn n)) (.int .i64 (ofHd n));clear hb;go_wp2_with fail
 have hbn:=ofH_bounds n h1 h2;have hne:¬g=0:=by omega
 have e1:IntKind.i64.wrap (n.tdiv g)=ofHn n:=by rw [hq.out];exact IntWalk.i64_in _ (by omega)
 have e2:IntKind.i64.wrap (Int.tdiv 100 g)=ofHd n:=by rw [Int.tdiv_eq_ediv_of_nonneg (by decide),hd.out];exact IntWalk.i64_in _ (by omega)
 have hA:=@cell?_allocs;refine wp_region_calm [0,1,2,3,4,5,6] [7] (by kernel_rfl) (by kernel_rfl) (by intro c a d v w h;cases d <;> exact h) ?_;simp only [pickOps,List.filterMap_cons,List.filterMap_nil,List.getElem?_cons_succ,List.getElem?_cons_zero]
 repeat (refine wpCalm_step (fun K hK=>?_);go_simp;refine hK _ ?_;clear hK K)
 refine wpCalm_nil ?_;clear hA hne e1 e2;go_wp2_with fail
 exact bodyPost_ret (v:=.agg #[.int .i64 (ofHn n),.int .i64 (ofHd n)]) (by simp [results,Tryz.results59,go_sem,r0,r1]) rfl ⟨rfl,below_drewN hB 1⟩
theorem ofHundredths_ref :
  Calls Tryz.prog 19 #[.int .i64 n] w fun e w'=>e=.returned (.agg #[.int .i64 (ofHn n),.int .i64 (ofHd n)])∧Below w.heap.size w w':=by
 go_enter Tryz.func19,Tryz.ntmps19
 go_wp2_with fail
 refine(lowestF_ref n _ h1 h2).mono ?_;rintro e w1 ⟨rfl,hb⟩;obtain⟨k0,k1,kf,kf1,hlt,r0,r1,hB⟩:=fresh2 _ _ _ _ _ hb;have r0:=r0 (.int .i64 (ofHn n)) (.int .i64 (ofHd n));have r1:=r1 (.int .i64 (ofHn n)) (.int .i64 (ofHd n));have hB:=hB (.int .i64 (ofHn n)) (.int .i64 (ofHd n));clear hb;go_wp2_with fail
 exact bodyPost_ret (v:=.agg #[.int .i64 (ofHn n),.int .i64 (ofHd n)]) (by simp [results,Tryz.results19,go_sem,r0,r1]) rfl ⟨rfl,hB⟩
end
/-- What a fraction is worth in hundredths. -/
def hund (num den:Int):Int:=num*(100 / den)
section
variable (num den:Int)(w:World)(h1:-1000000000000000≤num)(h2:num≤1000000000000000)(h3:1≤den)(h4:den≤9223372036854775807)
include w h1 h2 h3 h4
theorem hundredths_prog :
  Calls Tryz.prog 87 #[.agg #[.int .i64 num,.int .i64 den]] w fun e w'=>e=.returned (.int .i64 (hund num den))∧Below w.heap.size w w':=by
 have hw0:=Below.refl w.heap.size w;have hq0:0≤100 / den:=Int.ediv_nonneg (by decide) (by omega);have hq1:100 / den≤100:=Int.ediv_le_self _ (by decide);have hdz:(den==0)=false:=by simp;omega
 have hb:=mul_small num (100 / den) h1 h2 hq0 hq1
 go_enter Tryz.func87,Tryz.ntmps87
 go_wp2_with fail
 go_quiet (fail)
 go_wp2_with fail
 go_ret
 exact⟨rfl,below_drewN (hw0.alloc (Nat.le_refl _) _) _⟩
theorem hundredths_ref :
  Calls Tryz.prog 60 #[.agg #[.int .i64 num,.int .i64 den]] w fun e w'=>e=.returned (.int .i64 (hund num den))∧Below w.heap.size w w':=by
 have hw0:=Below.refl w.heap.size w;have hq0:0≤100 / den:=Int.ediv_nonneg (by decide) (by omega);have hq1:100 / den≤100:=Int.ediv_le_self _ (by decide);have hdz:(den==0)=false:=by simp;omega
 have hb:=mul_small num (100 / den) h1 h2 hq0 hq1
 go_enter Tryz.func60,Tryz.ntmps60
 go_wp2_with fail
 go_quiet (fail)
 go_wp2_with fail
 go_ret
 exact⟨rfl,below_drewN (hw0.alloc (Nat.le_refl _) _) _⟩
end
/-- What is wrong with points from -most to most. -/
def amountE (num den most:Int):Int:=if den<1∨Int.gcd num den≠1 then 3 else if 100 % den≠0∨num < -most*den∨most*den<num then 1 else 0
theorem den_le {den:Int}(h:1≤den)(h0:100 % den=0):den≤100:=Int.le_of_dvd (by decide) (Int.dvd_of_emod_eq_zero h0)
section
variable (num den most:Int)(w:World)(h1:-9223372036854775808≤num)(h2:num≤9223372036854775807)(h3:-9223372036854775808≤den)(h4:den≤9223372036854775807)(h5:0≤most)(h6:most≤1000000)
include w h1 h2 h3 h4 h5 h6
theorem amount_prog :
  Calls Tryz.prog 68 #[.agg #[.int .i64 num,.int .i64 den],.int .i64 most] w fun e w'=>e=.returned (.int .i64 (amountE num den most))∧Below w.heap.size w w':=by
 have hw0:=Below.refl w.heap.size w
 by_cases hd:den<1
 ·have he:=Lib.hid (show amountE num den most=3 by simp [amountE,hd])
  go_enter Tryz.func68,Tryz.ntmps68
  go_wp2_with fail
  go_ret
  exact⟨ret_int he.out.symm,hw0.alloc (Nat.le_refl _) _⟩
 ·have c0:=cells_new w #[.int .i64 num,.int .i64 den] 34 0 _ rfl;have c1:=cells_new w #[.int .i64 num,.int .i64 den] 34 1 _ rfl;have hlt:w.heap.size<(w.alloc (.cells #[.int .i64 num,.int .i64 den] 34)).heap.size:=by simp
  replace hw0:=hw0.alloc (Nat.le_refl _) (.cells #[.int .i64 num,.int .i64 den] 34)
  have hl:=lowest_any num den (w.alloc (.cells #[.int .i64 num,.int .i64 den] 34)) h1 h2 (by omega) h4
  by_cases hg:Int.gcd num den=1
  ·have hgb:decide (Int.gcd num den=1)=true:=by simp [hg]
   rw [hgb]at hl
   by_cases hm:100 % den=0
   ·have hle:=den_le (by omega) hm;have hmb:(100 % den != 0)=false:=by simp [hm]
    have hb1:=mul_small most den (by omega) (by omega) (by omega) hle;have hb2:=mul_small (-most) den (by omega) (by omega) (by omega) hle;have he:=Lib.hid (show amountE num den most=if outB num (-most*den) (most*den)=true then 1 else 0 by simp [amountE,hd,hg,hm,outB]);clear hgb hg hm;cases ho:outB num (-most*den) (most*den)
    all_goals
     have ho:=Lib.hid ho
     go_enter Tryz.func68,Tryz.ntmps68
     go_wp2_with fail
     generalize w.alloc (.cells #[.int .i64 num,.int .i64 den] 34)=W at *;refine hl.mono ?_;rintro e w1 ⟨rfl,hb⟩
     replace c0:=(hb.cell (p:=⟨w.heap.size,0,none⟩) hlt).trans c0
     replace c1:=(hb.cell (p:=⟨w.heap.size,1,none⟩) hlt).trans c1
     replace hw0:=hw0.trans (hb.mono (Nat.le_of_lt hlt))
     clear hb hlt hl;go_wp2_with (go_at_call 101;refine(out_is _ _ _ _ ho.out _).mono ?_;rintro e w2 ⟨rfl,rfl⟩)
     go_ret
     exact⟨ret_int (by rw [he.out,ho.out];rfl),hw0⟩
   ·have hmb:(100 % den != 0)=true:=by simp [hm]
    have hdz:(den==0)=false:=by simp;omega
    have he:=Lib.hid (show amountE num den most=1 by simp [amountE,hd,hg,hm]);clear hgb hg hm
    go_enter Tryz.func68,Tryz.ntmps68
    go_wp2_with fail
    generalize w.alloc (.cells #[.int .i64 num,.int .i64 den] 34)=W at *;refine hl.mono ?_;rintro e w1 ⟨rfl,hb⟩
    replace c0:=(hb.cell (p:=⟨w.heap.size,0,none⟩) hlt).trans c0
    replace c1:=(hb.cell (p:=⟨w.heap.size,1,none⟩) hlt).trans c1
    replace hw0:=hw0.trans (hb.mono (Nat.le_of_lt hlt))
    clear hb hlt hl;go_wp2_with fail
    go_ret
    exact⟨ret_int he.out.symm,hw0⟩
  ·have hgb:decide (Int.gcd num den=1)=false:=by simp [hg]
   rw [hgb]at hl;have he:=Lib.hid (show amountE num den most=3 by simp [amountE,hg]);clear hgb hg
   go_enter Tryz.func68,Tryz.ntmps68
   go_wp2_with fail
   generalize w.alloc (.cells #[.int .i64 num,.int .i64 den] 34)=W at *;refine hl.mono ?_;rintro e w1 ⟨rfl,hb⟩
   replace hw0:=hw0.trans (hb.mono (Nat.le_of_lt hlt))
   clear hb hlt hl;go_wp2_with fail
   go_ret
   exact⟨ret_int he.out.symm,hw0⟩
theorem pointsFault_ref :
  Calls Tryz.prog 54 #[.agg #[.int .i64 num,.int .i64 den],.int .i64 most] w fun e w'=>e=.returned (.int .i64 (amountE num den most))∧Below w.heap.size w w':=by
 have hw0:=Below.refl w.heap.size w
 by_cases hd:den<1
 ·have he:=Lib.hid (show amountE num den most=3 by simp [amountE,hd])
  go_enter Tryz.func54,Tryz.ntmps54
  go_wp2_with fail
  go_ret
  exact⟨ret_int he.out.symm,hw0.alloc (Nat.le_refl _) _⟩
 ·have c0:=cells_new w #[.int .i64 num,.int .i64 den] 34 0 _ rfl;have c1:=cells_new w #[.int .i64 num,.int .i64 den] 34 1 _ rfl;have hlt:w.heap.size<(w.alloc (.cells #[.int .i64 num,.int .i64 den] 34)).heap.size:=by simp
  replace hw0:=hw0.alloc (Nat.le_refl _) (.cells #[.int .i64 num,.int .i64 den] 34)
  have hl:=divisor_any num den (w.alloc (.cells #[.int .i64 num,.int .i64 den] 34)) h1 h2 (by omega) h4;have hdz:(den==0)=false:=by simp;omega
  by_cases hg:Int.gcd num den=1
  ·rw [hg]at hl
   by_cases hm:100 % den=0
   ·have hle:=den_le (by omega) hm;have hmb:(100 % den != 0)=false:=by simp [hm]
    have hb1:=mul_small most den (by omega) (by omega) (by omega) hle;have hb2:=mul_small (-most) den (by omega) (by omega) (by omega) hle;have he:=Lib.hid (show amountE num den most=if num < -most*den∨most*den<num then 1 else 0 by simp [amountE,hd,hg,hm]);clear hg hm
    by_cases ho1:num < -most*den
    ·go_enter Tryz.func54,Tryz.ntmps54
     go_wp2_with fail
     generalize w.alloc (.cells #[.int .i64 num,.int .i64 den] 34)=W at *;refine hl.mono ?_;rintro e w1 ⟨rfl,hb⟩
     replace c0:=(hb.cell (p:=⟨w.heap.size,0,none⟩) hlt).trans c0
     replace c1:=(hb.cell (p:=⟨w.heap.size,1,none⟩) hlt).trans c1
     replace hw0:=hw0.trans (hb.mono (Nat.le_of_lt hlt))
     clear hb hlt hl;go_wp2_with fail
     go_ret
     exact⟨ret_int (by rw [he.out,if_pos (.inl ho1)]),hw0⟩
    ·by_cases ho2:most*den<num
     ·go_enter Tryz.func54,Tryz.ntmps54
      go_wp2_with fail
      generalize w.alloc (.cells #[.int .i64 num,.int .i64 den] 34)=W at *;refine hl.mono ?_;rintro e w1 ⟨rfl,hb⟩
      replace c0:=(hb.cell (p:=⟨w.heap.size,0,none⟩) hlt).trans c0
      replace c1:=(hb.cell (p:=⟨w.heap.size,1,none⟩) hlt).trans c1
      replace hw0:=hw0.trans (hb.mono (Nat.le_of_lt hlt))
      clear hb hlt hl;go_wp2_with fail
      go_ret
      exact⟨ret_int (by rw [he.out,if_pos (.inr ho2)]),hw0⟩
     ·go_enter Tryz.func54,Tryz.ntmps54
      go_wp2_with fail
      generalize w.alloc (.cells #[.int .i64 num,.int .i64 den] 34)=W at *;refine hl.mono ?_;rintro e w1 ⟨rfl,hb⟩
      replace c0:=(hb.cell (p:=⟨w.heap.size,0,none⟩) hlt).trans c0
      replace c1:=(hb.cell (p:=⟨w.heap.size,1,none⟩) hlt).trans c1
      replace hw0:=hw0.trans (hb.mono (Nat.le_of_lt hlt))
      clear hb hlt hl;go_wp2_with fail
      go_ret
      exact⟨ret_int (by rw [he.out,if_neg (by omega)]),hw0⟩
   ·have hmb:(100 % den != 0)=true:=by simp [hm]
    have he:=Lib.hid (show amountE num den most=1 by simp [amountE,hd,hg,hm]);clear hg hm
    go_enter Tryz.func54,Tryz.ntmps54
    go_wp2_with fail
    generalize w.alloc (.cells #[.int .i64 num,.int .i64 den] 34)=W at *;refine hl.mono ?_;rintro e w1 ⟨rfl,hb⟩
    replace c0:=(hb.cell (p:=⟨w.heap.size,0,none⟩) hlt).trans c0
    replace c1:=(hb.cell (p:=⟨w.heap.size,1,none⟩) hlt).trans c1
    replace hw0:=hw0.trans (hb.mono (Nat.le_of_lt hlt))
    clear hb hlt hl;go_wp2_with fail
    go_ret
    exact⟨ret_int he.out.symm,hw0⟩
  ·have he:=Lib.hid (show amountE num den most=3 by simp [amountE,hg]);have hgb:(((Int.gcd num den:Nat):Int) != 1)=true:=by simp;omega
   generalize ((Int.gcd num den:Nat):Int)=g at *;clear hg
   go_enter Tryz.func54,Tryz.ntmps54
   go_wp2_with fail
   generalize w.alloc (.cells #[.int .i64 num,.int .i64 den] 34)=W at *;refine hl.mono ?_;rintro e w1 ⟨rfl,hb⟩
   replace hw0:=hw0.trans (hb.mono (Nat.le_of_lt hlt))
   clear hb hlt hl;go_wp2_with fail
   go_ret
   exact⟨ret_int he.out.symm,hw0⟩
end
end Go.Proofs.YtnmdpphddimfbaaGreat
/-
  Line-ups: slots, scorers and fills in memory, what is wrong with them, and who comes in, plain. No condition on a program.
-/
namespace Go.Bw
open Go.RowKit
/-- Whether a row holds one that p likes, and where. -/
def idxI {α:Type}(l:List α)(p:α→Bool):Int:=match l.findIdx? p with|some i=>i|none=>-1
theorem idxI_hit {α:Type} [Inhabited α] {l:List α} {p:α→Bool} {k:Int} (h0:0≤k) (h1:k<l.length) (hn:∀j:Int,0≤j→j<k→p (geta l j)=false) (hk:p (geta l k)=true):idxI l p=k:=by
 unfold idxI;have e:l.findIdx? p=some k.toNat:=by
  rw [List.findIdx?_eq_some_iff_getElem];have hlt:k.toNat<l.length:=by omega
  refine⟨hlt,?_,fun j hj=>?_⟩
  ·have:=geta_eq l k h0 h1;rw [←this];exact hk
  ·have hn':=hn j (by omega) (by omega);rw [geta_eq l j (by omega) (by omega)]at hn'
   simpa using hn'
 rw [e];show((k.toNat:Nat):Int)=k;omega
theorem idxI_none {α:Type} [Inhabited α] {l:List α} {p:α→Bool} (hn:∀j:Int,0≤j→j<l.length→p (geta l j)=false):idxI l p=-1:=by
 unfold idxI;have e:l.findIdx? p=none:=by
  rw [List.findIdx?_eq_none_iff];intro x hx;obtain⟨i,hi,rfl⟩:=List.getElem_of_mem hx;have:=hn i (by omega) (by omega);rw [geta_eq l i (by omega) (by omega)]at this
  simpa using this
 rw [e]
theorem idxI_any {α:Type} [Inhabited α] (l:List α) (p:α→Bool):decide (0≤idxI l p)=l.any p:=by
 cases h:l.findIdx? p with
 | none =>
  have e:idxI l p=-1:=by unfold idxI;rw [h]
  rw [e];have:l.any p=false:=by
   rw [List.findIdx?_eq_none_iff]at h;rw [List.any_eq_false];intro x hx;simp [h x hx]
  rw [this];rfl
 | some i =>
  have e:idxI l p=i:=by unfold idxI;rw [h]
  rw [e];rw [List.findIdx?_eq_some_iff_getElem]at h;obtain⟨hi,hp,_⟩:=h;have:l.any p=true:=List.any_eq_true.2 ⟨_,List.getElem_mem hi,hp⟩;rw [this];simp
theorem idxI_lt {α:Type} [Inhabited α] {l:List α} {p:α→Bool} (h:0≤idxI l p):idxI l p<l.length∧p (geta l (idxI l p))=true:=by
 unfold idxI at h ⊢;cases hf:l.findIdx? p with
 | none=>rw [hf]at h;exact absurd h (by decide)
 | some i =>
  rw [List.findIdx?_eq_some_iff_getElem]at hf;obtain⟨hi,hp,_⟩:=hf;show((i:Nat):Int)<l.length∧p (geta l (i:Nat))=true;refine⟨by omega,?_⟩;rw [geta_eq l i (by omega) (by omega)]
  simpa using hp
/-- A slot. -/
structure SlD where
 key:ByteArray
 pv:Value
 ps:List ByteArray
/-- A scorer. -/
structure ScD where
 pl:ByteArray
 pv:Value
 ps:List ByteArray
 num:Int
 den:Int
 pd:Bool
/-- Who is in a slot. -/
structure FlD where
 sl:ByteArray
 pl:ByteArray
instance:Inhabited SlD:=⟨⟨⟨#[]⟩,.slice none 0 0,[]⟩⟩
instance:Inhabited ScD:=⟨⟨⟨#[]⟩,.slice none 0 0,[],0,0,false⟩⟩
instance:Inhabited FlD:=⟨⟨⟨#[]⟩,⟨#[]⟩⟩⟩
def encSl (x:SlD):List Value:=[.string x.key,x.pv]
def encSc (x:ScD):List Value:=[.string x.pl,x.pv,.int .i64 x.num,.int .i64 x.den,.bool x.pd]
def encFl (x:FlD):List Value:=[.string x.sl,.string x.pl]
theorem encSl_length (x:SlD):(encSl x).length=2:=rfl
theorem encSc_length (x:ScD):(encSc x).length=5:=rfl
theorem encFl_length (x:FlD):(encFl x).length=2:=rfl
end Go.Bw
namespace Go.Proofs.YtnmdpphddimfbaaGreat
open Go.RowKit Go.Bw
/-- Positions in memory. -/
structure PsH (w:World)(v:Value)(ps:List ByteArray):Prop where
 r:Row w 0 1 v ps.length (cellsOf encSt ps)
 z:∀s∈ps,s.size≤1000
 n:ps.length≤1000
theorem PsH.below {w w':World}{v:Value}{ps:List ByteArray}(h:PsH w v ps)(b:Below w.heap.size w w'):PsH w' v ps:=⟨h.r.below b,h.z,h.n⟩
structure SlH (w:World)(v:Value)(S:List SlD):Prop where
 r:Row w 0 2 v S.length (cellsOf encSl S)
 p:∀x∈S,PsH w x.pv x.ps
 z:∀x∈S,x.key.size≤1000
 n:S.length≤1000
structure ScH (w:World)(v:Value)(L:List ScD):Prop where
 r:Row w 0 5 v L.length (cellsOf encSc L)
 p:∀x∈L,PsH w x.pv x.ps
 z:∀x∈L,x.pl.size≤1000
 i:∀x∈L,-9223372036854775808≤x.num∧x.num≤9223372036854775807∧-9223372036854775808≤x.den∧x.den≤9223372036854775807
 n:L.length≤1000
structure FlH (w:World)(v:Value)(F:List FlD):Prop where
 r:Row w 0 2 v F.length (cellsOf encFl F)
 z:∀x∈F,x.sl.size≤1000∧x.pl.size≤1000
 n:F.length≤1000
structure BnH (w:World)(v:Value)(K:List ByteArray):Prop where
 r:Row w 0 1 v K.length (cellsOf encSt K)
 z:∀s∈K,s.size≤1000
 n:K.length≤1000
section
variable {w w':World}{v:Value}
theorem SlH.below {S:List SlD}(h:SlH w v S)(b:Below w.heap.size w w'):SlH w' v S:=⟨h.r.below b,fun x hx=>(h.p x hx).below b,h.z,h.n⟩
theorem ScH.below {L:List ScD}(h:ScH w v L)(b:Below w.heap.size w w'):ScH w' v L:=⟨h.r.below b,fun x hx=>(h.p x hx).below b,h.z,h.i,h.n⟩
theorem FlH.below {F:List FlD}(h:FlH w v F)(b:Below w.heap.size w w'):FlH w' v F:=⟨h.r.below b,h.z,h.n⟩
theorem BnH.below {K:List ByteArray}(h:BnH w v K)(b:Below w.heap.size w w'):BnH w' v K:=⟨h.r.below b,h.z,h.n⟩
end
/-- What is wrong with positions. -/
def posE (l:List ByteArray):Int:=if l.length=0 then 8 else listE l
/-- Have two lists one in common? -/
def commonB (a b:List ByteArray):Bool:=a.any fun s=>hasS b s
theorem commonB_comm (a b:List ByteArray):commonB a b=commonB b a:=by
 have key:∀a b:List ByteArray,commonB a b=true→commonB b a=true:=by
  intro a b h;obtain⟨s,hs,hb⟩:=List.any_eq_true.1 h;exact List.any_eq_true.2 ⟨s,(hasS_iff b s).1 hb,(hasS_iff a s).2 hs⟩
 cases h:commonB a b with
 | true=>exact(key a b h).symm
 | false =>
  cases h2:commonB b a with
  | false=>rfl
  | true=>rw [key b a h2]at h;cases h
def hasUp (ts:List ByteArray)(k:Int)(x:ByteArray):Bool:=hasS (ts.take k.toNat) x
def slotDup (S:List SlD)(k:Int):Bool:=(S.take k.toNat).any fun y=>decide (y.key=(geta S k).key)
def slotAt (S:List SlD)(k:Int):Int:=if keyB (geta S k).key=false then 5 else if slotDup S k=true then 6 else posE (geta S k).ps
def slotsE (S:List SlD):Int:=if S.length=0 then 8 else if 12<S.length then 2 else firstErr (slotAt S) S.length
def ordBad (L:List ScD)(k:Int):Bool:=decide (0<k)&&leB (geta L k).pl (geta L (k-1)).pl
def scorerAt (L:List ScD)(k:Int):Int:=if keyB (geta L k).pl=false then 5 else if ordBad L k=true then 7 else if posE (geta L k).ps≠0 then posE (geta L k).ps else amountE (geta L k).num (geta L k).den 10000
def scorersE (L:List ScD):Int:=if 20<L.length then 2 else firstErr (scorerAt L) L.length
/-- Where a scorer is. -/
def scIdx (L:List ScD)(x:ByteArray):Int:=idxI L fun y=>decide (y.pl=x)
def isInB (F:List FlD)(x:ByteArray):Bool:=F.any fun y=>decide (y.pl=x)
def fillDup (F:List FlD)(k:Int):Bool:=isInB (F.take k.toNat) (geta F k).pl
def fillAt (S:List SlD)(L:List ScD)(F:List FlD)(k:Int):Int :=
 if(geta F k).sl≠(geta S k).key then 8 else if(geta F k).pl=ByteArray.empty then 0 else if scIdx L (geta F k).pl<0 then 8 else if fillDup F k=true then 6 else
  if commonB (geta L (scIdx L (geta F k).pl)).ps (geta S k).ps=false then 10 else 0
/-- Fills of right slots and scorers. -/
def fillsE (S:List SlD)(L:List ScD)(F:List FlD):Int:=if F.length≠S.length then 3 else firstErr (fillAt S L F) F.length
def allE (S:List SlD)(L:List ScD)(F:List FlD):Int:=if slotsE S≠0 then slotsE S else if scorersE L≠0 then scorersE L else fillsE S L F
def benchAt (L:List ScD)(F:List FlD)(K:List ByteArray)(k:Int):Int:=if scIdx L (geta K k)<0 then 8 else if hasUp K k (geta K k)=true then 6 else if isInB F (geta K k)=true then 13 else 0
def benchE (L:List ScD)(F:List FlD)(K:List ByteArray):Int:=if 20<K.length then 2 else firstErr (benchAt L F K) K.length
/-- Who may come in. -/
def okSub (S:List SlD)(L:List ScD)(out:List FlD)(i:Nat)(p:ByteArray):Bool:=(geta L (scIdx L p)).pd&&(commonB (geta L (scIdx L p)).ps (geta S i).ps&&!isInB out p)
def stays (L:List ScD)(x:ByteArray):Bool:=decide (0≤scIdx L x)&&(geta L (scIdx L x)).pd
def subOne (S:List SlD)(L:List ScD)(K:List ByteArray)(i:Nat)(out:List FlD):List FlD :=
 if stays L (geta out i).pl=true then out else match K.find? (okSub S L out i)with|none=>out|some p=>out.set i ⟨(geta out i).sl,p⟩
def subK (S:List SlD)(L:List ScD)(F:List FlD)(K:List ByteArray):Nat→List FlD
 | 0=>F
 | i+1=>subOne S L K i (subK S L F K i)
def subL (S:List SlD)(L:List ScD)(F:List FlD)(K:List ByteArray):List FlD:=subK S L F K F.length
theorem subOne_length (S:List SlD)(L:List ScD)(K:List ByteArray)(i:Nat)(out:List FlD):(subOne S L K i out).length=out.length:=by
 unfold subOne
 split
 ·rfl
 ·split
  ·rfl
  ·exact List.length_set
theorem subK_length (S:List SlD)(L:List ScD)(F:List FlD)(K:List ByteArray):∀i,(subK S L F K i).length=F.length
 | 0=>rfl
 | i+1=>(subOne_length S L K i _).trans (subK_length S L F K i)
end Go.Proofs.YtnmdpphddimfbaaGreat
/-
  The best line-ups, in plain words: who is in which slot (matchings), the most that they can bring, slot by slot. No condition.
-/
namespace Go.Proofs.YtnmdpphddimfbaaGreat
open Go.RowKit Go.Bw
/-- Pairs of a slot and a scorer: each slot once, each scorer once; they fit. -/
structure Mt (fit:Nat→Nat→Bool)(T K:Nat→Prop)(ps:List (Nat×Nat)):Prop where
 f:∀p∈ps,T p.1∧K p.2∧fit p.2 p.1=true
 a:∀p∈ps,∀q∈ps,p.1=q.1→p=q
 b:∀p∈ps,∀q∈ps,p.2=q.2→p=q
 n:ps.Nodup
def valM (w:Nat→Int):List (Nat×Nat)→Int
 | []=>0
 | p::ps=>w p.2+valM w ps
section
variable {fit:Nat→Nat→Bool}{w:Nat→Int}{T T' K K':Nat→Prop}{ps:List (Nat×Nat)}{v v':Int}
theorem Mt.nil:Mt fit T K []:=⟨by simp,by simp,by simp,by simp⟩
section
variable (h:Mt fit T K ps)
include h
theorem Mt.mono (hT:∀i,T i→T' i)(hK:∀k,K k→K' k):Mt fit T' K' ps :=
 ⟨fun p hp=>⟨hT _ (h.f p hp).1,hK _ (h.f p hp).2.1,(h.f p hp).2.2⟩,h.a,h.b,h.n⟩
theorem Mt.cons {i k:Nat}(hi:¬T i)(hk:¬K k)(hf:fit k i=true):Mt fit (fun j=>T j∨j=i) (fun j=>K j∨j=k) ((i,k)::ps):=by
 refine⟨fun p hp=>?_,fun p hp q hq e=>?_,fun p hp q hq e=>?_,List.nodup_cons.2 ⟨fun hm=>hi (h.f _ hm).1,h.n⟩⟩
 ·rcases List.mem_cons.1 hp with rfl|hp
  ·exact⟨.inr rfl,.inr rfl,hf⟩
  ·exact⟨.inl (h.f p hp).1,.inl (h.f p hp).2.1,(h.f p hp).2.2⟩
 ·rcases List.mem_cons.1 hp with rfl|hp <;> rcases List.mem_cons.1 hq with rfl|hq
  ·rfl
  ·exact absurd (show T i from by rw [show i=q.1 from e];exact(h.f q hq).1) hi
  ·exact absurd (show T i from by rw [←show p.1=i from e];exact(h.f p hp).1) hi
  ·exact h.a p hp q hq e
 ·rcases List.mem_cons.1 hp with rfl|hp <;> rcases List.mem_cons.1 hq with rfl|hq
  ·rfl
  ·exact absurd (show K k from by rw [show k=q.2 from e];exact(h.f q hq).2.1) hk
  ·exact absurd (show K k from by rw [←show p.2=k from e];exact(h.f p hp).2.1) hk
  ·exact h.b p hp q hq e
theorem Mt.erase {i k:Nat}(hp:(i,k)∈ps):Mt fit (fun j=>T j∧j≠i) (fun j=>K j∧j≠k) (ps.erase (i,k)):=by
 have hm:∀q∈ps.erase (i,k),q∈ps∧q≠(i,k):=fun q hq=>by
  rw [h.n.mem_erase_iff]at hq;exact⟨hq.2,hq.1⟩
 refine⟨fun q hq=>?_,fun q hq r hr e=>h.a q (hm q hq).1 r (hm r hr).1 e,fun q hq r hr e=>h.b q (hm q hq).1 r (hm r hr).1 e,h.n.erase _⟩;obtain⟨h1,h2⟩:=hm q hq;obtain⟨a,b,c⟩:=h.f q h1;exact⟨⟨a,fun e=>h2 (h.a q h1 _ hp e)⟩,⟨b,fun e=>h2 (h.b q h1 _ hp e)⟩,c⟩
end
theorem valM_erase:∀ {ps:List (Nat×Nat)}{p:Nat×Nat} ,p∈ps→valM w ps=valM w (ps.erase p)+w p.2
 | [],_,h=>by cases h
 | q::ps,p,h=>by
  by_cases e:q=p
  ·subst e;rw [List.erase_cons_head];show w q.2+valM w ps=_;omega
  ·have hp:p∈ps:=by
    rcases List.mem_cons.1 h with h|h
    ·exact absurd h.symm e
    ·exact h
   rw [List.erase_cons_tail (by simpa using e)];have:=valM_erase hp;show w q.2+valM w ps=w q.2+valM w (ps.erase p)+w p.2;omega
/-- The most that they can bring. -/
structure IsMax (fit:Nat→Nat→Bool)(w:Nat→Int)(T K:Nat→Prop)(v:Int):Prop where
 at_:∃ps,Mt fit T K ps∧valM w ps=v
 le:∀ps,Mt fit T K ps→valM w ps≤v
section
variable (h:IsMax fit w T K v)
include h
theorem IsMax.uniq (h':IsMax fit w T K v'):v=v':=by
 obtain⟨ps,h1,h2⟩:=h.at_;obtain⟨qs,h3,h4⟩:=h'.at_;have:=h.le qs h3;have:=h'.le ps h1;omega
theorem IsMax.congr (hT:∀i,T i↔T' i)(hK:∀k,K k↔K' k):IsMax fit w T' K' v:=by
 obtain⟨ps,h1,h2⟩:=h.at_;exact⟨⟨ps,h1.mono (fun i=>(hT i).1) (fun k=>(hK k).1),h2⟩,fun qs hq=>h.le qs (hq.mono (fun i=>(hT i).2) (fun k=>(hK k).2))⟩
theorem IsMax.nonneg:0≤v:=h.le [] Mt.nil
end
theorem IsMax.noT (hT:∀i,¬T i):IsMax fit w T K 0:=by
 refine⟨⟨[],Mt.nil,rfl⟩,fun ps hp=>?_⟩;cases ps with
 | nil=>exact Int.le_refl _
 | cons p ps=>exact absurd (hp.f p (by simp)).1 (hT _)
theorem IsMax.noK (hK:∀k,¬K k):IsMax fit w T K 0:=by
 refine⟨⟨[],Mt.nil,rfl⟩,fun ps hp=>?_⟩;cases ps with
 | nil=>exact Int.le_refl _
 | cons p ps=>exact absurd (hp.f p (by simp)).2.1 (hK _)
/-- One scorer more. -/
theorem IsMax.scorer {v0:Int}{k:Nat}{vj:Nat→Int}(h0:IsMax fit w T K v0)(hk:¬K k)(hj:∀j,T j→fit k j=true→IsMax fit w (fun i=>T i∧i≠j) K (vj j))(ha:v0≤v)(hb:∀j,T j→fit k j=true→vj j+w k≤v)(hc:v=v0∨∃j,T j∧fit k j=true∧v=vj j+w k):IsMax fit w T (fun j=>K j∨j=k) v:=by
 refine⟨?_,fun ps hp=>?_⟩
 ·rcases hc with rfl|⟨j,h1,h2,rfl⟩
  ·obtain⟨ps,h3,h4⟩:=h0.at_;exact⟨ps,h3.mono (fun _ q=>q) (fun _ q=>.inl q),h4⟩
  ·obtain⟨ps,h3,h4⟩:=(hj j h1 h2).at_;refine⟨(j,k)::ps,(h3.cons (by simp) hk h2).mono (fun i q=>?_) (fun _ q=>q),?_⟩
   ·rcases q with q|rfl
    ·exact q.1
    ·exact h1
   ·show w k+valM w ps=_;omega
 ·by_cases hu:∃j,(j,k)∈ps
  ·obtain⟨j,hu⟩:=hu;obtain⟨h1,_,h2⟩:=hp.f _ hu;have h3:=(hj j h1 h2).le (ps.erase (j,k)) ((hp.erase hu).mono (fun _ q=>q) (fun i q=>by rcases q.1 with q1|q1;exact q1;exact absurd q1 q.2));have h4:=hb j h1 h2;have h5:=valM_erase (w:=w) hu;simp only at h5;omega
  ·have:=h0.le ps ⟨fun p hq=>⟨(hp.f p hq).1,by
    rcases(hp.f p hq).2.1 with q|q
    ·exact q
    ·exact absurd ⟨p.1,by rw [←q];exact hq⟩ hu,(hp.f p hq).2.2⟩,hp.a,hp.b,hp.n⟩
   omega
/-- One slot more. -/
theorem IsMax.slot {v0:Int}{i:Nat}{vk:Nat→Int}(h0:IsMax fit w T K v0)(hi:¬T i)(hj:∀k,K k→fit k i=true→IsMax fit w T (fun j=>K j∧j≠k) (vk k))(ha:v0≤v)(hb:∀k,K k→fit k i=true→vk k+w k≤v)(hc:v=v0∨∃k,K k∧fit k i=true∧v=vk k+w k):IsMax fit w (fun j=>T j∨j=i) K v:=by
 refine⟨?_,fun ps hp=>?_⟩
 ·rcases hc with rfl|⟨k,h1,h2,rfl⟩
  ·obtain⟨ps,h3,h4⟩:=h0.at_;exact⟨ps,h3.mono (fun _ q=>.inl q) (fun _ q=>q),h4⟩
  ·obtain⟨ps,h3,h4⟩:=(hj k h1 h2).at_;refine⟨(i,k)::ps,(h3.cons hi (by simp) h2).mono (fun _ q=>q) (fun j q=>?_),?_⟩
   ·rcases q with q|rfl
    ·exact q.1
    ·exact h1
   ·show w k+valM w ps=_;omega
 ·by_cases hu:∃k,(i,k)∈ps
  ·obtain⟨k,hu⟩:=hu;obtain⟨_,h1,h2⟩:=hp.f _ hu;have h3:=(hj k h1 h2).le (ps.erase (i,k)) ((hp.erase hu).mono (fun j q=>by rcases q.1 with q1|q1;exact q1;exact absurd q1 q.2) (fun _ q=>q));have h4:=hb k h1 h2;have h5:=valM_erase (w:=w) hu;simp only at h5;omega
  ·have:=h0.le ps ⟨fun p hq=>⟨by
    rcases(hp.f p hq).1 with q|q
    ·exact q
    ·exact absurd ⟨p.2,by rw [←q];exact hq⟩ hu,(hp.f p hq).2⟩,hp.a,hp.b,hp.n⟩
   omega
end
def updU (U:Nat→Bool)(k:Nat):Nat→Bool:=fun j=>U j || decide (j=k)
/-- The greatest of some values, from a first one on. -/
def maxTo (c:Nat→Bool)(g:Nat→Int)(v0:Int):Nat→Int
 | 0=>v0
 | k+1=>if c k=true then max (maxTo c g v0 k) (g k)else maxTo c g v0 k
section
variable {c:Nat→Bool}{g:Nat→Int}{v0:Int}
theorem maxTo_ge:∀ n,v0≤maxTo c g v0 n
 | 0=>Int.le_refl _
 | n+1=>by
  have:=maxTo_ge n;unfold maxTo
  split <;> omega
theorem maxTo_le {k:Nat}(hc:c k=true):∀n,k<n→g k≤maxTo c g v0 n
 | 0,h=>by omega
 | n+1,h=>by
  unfold maxTo
  by_cases e:k=n
  ·subst e;rw [if_pos hc];omega
  ·have:=maxTo_le hc n (by omega)
   split <;> omega
theorem maxTo_at:∀ n,maxTo c g v0 n=v0∨∃k,k<n∧c k=true∧maxTo c g v0 n=g k
 | 0=>.inl rfl
 | n+1=>by
  have ih:=maxTo_at n;unfold maxTo
  split
  ·rename_i hc
   by_cases e:maxTo c g v0 n≤g n
   ·exact .inr ⟨n,by omega,hc,by omega⟩
   ·rw [show max (maxTo c g v0 n) (g n)=maxTo c g v0 n by omega];rcases ih with ih|⟨k,h1,h2,h3⟩
    ·exact .inl ih
    ·exact .inr ⟨k,by omega,h2,h3⟩
  ·rcases ih with ih|⟨k,h1,h2,h3⟩
   ·exact .inl ih
   ·exact .inr ⟨k,by omega,h2,h3⟩
end
/-- The most that can be had in r slots from i on, by scorers who are not used. -/
def slotV (fit:Nat→Nat→Bool)(w:Nat→Int)(l:Nat):Nat→Nat→(Nat→Bool)→Int
 | 0,_,_=>0
 | r+1,i,U=>maxTo (fun k=>!U k&&fit k i) (fun k=>slotV fit w l r (i+1) (updU U k)+w k) (slotV fit w l r (i+1) U) l
theorem slotV_max (fit:Nat→Nat→Bool)(w:Nat→Int)(l:Nat):∀r i U,IsMax fit w (fun s=>i≤s∧s<i+r) (fun k=>k<l∧U k=false) (slotV fit w l r i U)
 | 0,i,U=>IsMax.noT (fun s h=>by omega)
 | r+1,i,U=>by
  have h0:=slotV_max fit w l r (i+1) U;refine(IsMax.slot (i:=i) (vk:=fun k=>slotV fit w l r (i+1) (updU U k)) (v:=slotV fit w l (r+1) i U) h0 (by omega) (fun k hk hf=>?_) (maxTo_ge _) (fun k hk hf=>?_) ?_).congr (fun j=>by omega) (fun _=>Iff.rfl)
  ·refine(slotV_max fit w l r (i+1) (updU U k)).congr (fun _=>Iff.rfl) (fun j=>?_);unfold updU;simp only [Bool.or_eq_false_iff,decide_eq_false_iff_not];constructor
   ·rintro⟨a,b,c⟩;exact⟨⟨a,b⟩,c⟩
   ·rintro⟨⟨a,b⟩,c⟩;exact⟨a,b,c⟩
  ·exact maxTo_le (c:=fun k=>!U k&&fit k i) (g:=fun k=>slotV fit w l r (i+1) (updU U k)+w k) (by simp [hk.2,hf]) l hk.1
  ·rcases maxTo_at (c:=fun k=>!U k&&fit k i) (g:=fun k=>slotV fit w l r (i+1) (updU U k)+w k) (v0:=slotV fit w l r (i+1) U) l with h|⟨k,h1,h2,h3⟩
   ·exact .inl h
   ·simp only [Bool.and_eq_true,Bool.not_eq_true']at h2;exact .inr ⟨k,⟨h1,h2.1⟩,h2.2,h3⟩
/-- The first scorer who brings the most in slot i. -/
def firstK (p:Nat→Bool):Nat→Nat→Option Nat
 | 0,_=>none
 | n+1,k=>if p k=true then some k else firstK p n (k+1)
theorem firstK_some {p:Nat→Bool}:∀{n k j},firstK p n k=some j→k≤j∧j<k+n∧p j=true∧∀i,k≤i→i<j→p i=false
 | 0,_,_,h=>by cases h
 | n+1,k,j,h=>by
  unfold firstK at h
  split at h
  ·rename_i hp
   cases h
   exact⟨by omega,by omega,hp,fun i h1 h2=>by omega⟩
  ·rename_i hp
   obtain⟨h1,h2,h3,h4⟩:=firstK_some h;refine⟨by omega,by omega,h3,fun i h5 h6=>?_⟩
   by_cases e:i=k
   ·subst e;simpa using hp
   ·exact h4 i (by omega) h6
theorem firstK_none {p:Nat→Bool}:∀{n k},firstK p n k=none→∀i,k≤i→i<k+n→p i=false
 | 0,_,_,i,h1,h2=>by omega
 | n+1,k,h,i,h1,h2=>by
  unfold firstK at h
  split at h
  ·cases h
  ·rename_i hp
   by_cases e:i=k
   ·subst e;simpa using hp
   ·exact firstK_none h i (by omega) (by omega)
theorem firstK_eq {p:Nat→Bool}:∀{n k j},k≤j→j<k+n→p j=true→(∀i,k≤i→i<j→p i=false)→firstK p n k=some j
 | 0,_,_,h1,h2,_,_=>by omega
 | n+1,k,j,h1,h2,h3,h4=>by
  unfold firstK
  by_cases e:j=k
  ·subst e;rw [if_pos h3]
  ·rw [if_neg (by rw [h4 k (Nat.le_refl _) (by omega)];decide)];exact firstK_eq (by omega) (by omega) h3 (fun i h5 h6=>h4 i (by omega) h6)
/-- The fills of the program: each slot stays empty if nothing is lost by it, or takes the first scorer by whom nothing is lost. -/
def greedF (fit:Nat→Nat→Bool)(w:Nat→Int)(l:Nat):Nat→Nat→(Nat→Bool)→List (Option Nat)
 | 0,_,_=>[]
 | r+1,i,U=>if slotV fit w l r (i+1) U=slotV fit w l (r+1) i U then none::greedF fit w l r (i+1) U else
  match firstK (fun k=>!U k&&(fit k i&&decide (slotV fit w l r (i+1) (updU U k)=slotV fit w l (r+1) i U-w k))) l 0 with
  | none=>none::greedF fit w l r (i+1) U
  | some k=>some k::greedF fit w l r (i+1) (updU U k)
/-- Somebody is found. -/
theorem greed_some {fit:Nat→Nat→Bool}{w:Nat→Int}{l r i:Nat}{U:Nat→Bool}(h:slotV fit w l r (i+1) U≠slotV fit w l (r+1) i U):∃k,firstK (fun k=>!U k&&(fit k i&&decide (slotV fit w l r (i+1) (updU U k)=slotV fit w l (r+1) i U-w k))) l 0=some k:=by
 rcases maxTo_at (c:=fun k=>!U k&&fit k i) (g:=fun k=>slotV fit w l r (i+1) (updU U k)+w k) (v0:=slotV fit w l r (i+1) U) l with e|⟨k,h1,h2,h3⟩
 ·exact absurd e.symm h
 ·cases hf:firstK (fun k=>!U k&&(fit k i&&decide (slotV fit w l r (i+1) (updU U k)=slotV fit w l (r+1) i U-w k))) l 0 with
  | some j=>exact⟨j,rfl⟩
  | none =>
   have h4:=firstK_none hf k (Nat.zero_le _) (by omega);simp only [Bool.and_eq_true,Bool.not_eq_true']at h2;have h5:slotV fit w l r (i+1) (updU U k)=slotV fit w l (r+1) i U-w k:=by
    have h6:slotV fit w l (r+1) i U=slotV fit w l r (i+1) (updU U k)+w k:=h3;omega
   rw [h2.1,h2.2,decide_eq_true h5]at h4;simp at h4
/-- The pairs of fills from slot i on. -/
def pairsF:Nat→List (Option Nat) →List (Nat×Nat)
 | _,[]=>[]
 | i,none::l=>pairsF (i+1) l
 | i,some k::l=>(i,k)::pairsF (i+1) l
/-- The program's fills bring the most. -/
theorem greed_mt (fit:Nat→Nat→Bool)(w:Nat→Int)(l:Nat):∀r i U,Mt fit (fun s=>i≤s∧s<i+r) (fun k=>k<l∧U k=false) (pairsF i (greedF fit w l r i U))∧valM w (pairsF i (greedF fit w l r i U))=slotV fit w l r i U
 | 0,i,U=>⟨Mt.nil,rfl⟩
 | r+1,i,U=>by
  unfold greedF
  split
  ·rename_i h
   obtain⟨h1,h2⟩:=greed_mt fit w l r (i+1) U;exact⟨h1.mono (fun s hs=>by omega) (fun _ q=>q),by rw [←h];exact h2⟩
  ·rename_i h
   obtain⟨k,hk⟩:=greed_some h;rw [hk];obtain⟨_,hl,hp,_⟩:=firstK_some hk;simp only [Bool.and_eq_true,Bool.not_eq_true',decide_eq_true_eq]at hp;obtain⟨h1,h2⟩:=greed_mt fit w l r (i+1) (updU U k);have hu:updU U k k=true:=by unfold updU;simp
   refine⟨(h1.cons (i:=i) (k:=k) (by omega) (fun q=>by rw [hu]at q;exact absurd q.2 (by decide)) hp.2.1).mono (fun s hs=>by omega) (fun j q=>?_),?_⟩
   ·rcases q with q|rfl
    ·refine⟨q.1,?_⟩;have:=q.2;unfold updU at this;simp only [Bool.or_eq_false_iff]at this;exact this.1
    ·exact⟨by omega,hp.1⟩
   ·show w k+valM w _=_;rw [h2,hp.2.2];omega
theorem greed_len (fit:Nat→Nat→Bool)(w:Nat→Int)(l:Nat):∀r i U,(greedF fit w l r i U).length=r
 | 0,i,U=>rfl
 | r+1,i,U=>by
  unfold greedF
  split
  ·simp [greed_len fit w l r]
  ·split <;> simp [greed_len fit w l r]
end Go.Proofs.YtnmdpphddimfbaaGreat
/-
  Line-ups: is there one among many that a function likes, and where (the library's IndexFunc, ContainsFunc). Conditions: at most 1000000 elements; the function only reads.
-/
namespace Go.Proofs.YtnmdpphddimfbaaGreat
open Go.RowKit Go.Bw
section
variable (Fn:Nat)(hF:∀args w,(callFunc Fn args).run Tryz.prog w=.ok (.enter Fn args) w)(c:Value)(v:Value)(l:List SlD)(p:SlD→Bool)(base:Nat)(w:World)(h:Row w base 2 v l.length (cellsOf encSl l))(hn:l.length≤1000000)(hp:∀x∈l,∀w1,Below w.heap.size w w1→Calls Tryz.prog Fn #[.agg #[.string x.key,x.pv],c] w1 fun e w2=>e=.returned (.bool (p x))∧Below w1.heap.size w1 w2)
include hF h hn hp
theorem idx_sl :
  Calls Tryz.prog 92 #[v,.func (.func Fn) #[] #[c]] w fun e w'=>e=.returned (.int .i64 (idxI l p))∧Below w.heap.size w w':=by
 obtain⟨q,d,rfl⟩:=h.shape;have HH:=Lib.hid h;clear h;have HP:=Lib.hid hp;clear hp
 go_enter Tryz.func92,Tryz.ntmps92
 go_wp2_with fail
 go_loopw [8] (fun i wr=>∃k:Int,0≤k∧k≤l.length∧i=.int .i64 k∧Hid (∀j:Int,0≤j→j<k→p (geta l j)=false)∧Below w.heap.size w wr) (fun i _=>l.length-(intOf i).toNat)
 case atStart=>exact⟨0,by omega,by omega,rfl,Lib.hid fun j h0 h1=>by omega,Below.refl _ _⟩
 case round =>
  obtain⟨k,hk0,hk1,rfl,hz,hbel⟩:=hrel
  by_cases hlt:k<l.length
  ·obtain⟨_,hc⟩:=(HH.out.below hbel).els encSl_length (by decide);rcases hc with ⟨hv,h0⟩|⟨b,off,cap,hv,_,hbs,hnc,hcm,hcell⟩
   ·omega
   simp only [Value.slice.injEq]at hv;obtain⟨rfl,_,rfl⟩:=hv;have c0:=hcell k hk0 hlt 0 _ rfl;have c1:=hcell k hk0 hlt 1 _ rfl;rw [Nat.add_zero]at c0;clear hcell;have H1:=Lib.hid (HP.out _ (geta_mem hk0 hlt) wr hbel);have HB:=Lib.hid hbel;clear hbel;cases hx:p (geta l k)
   ·have HZ:=Lib.hid (show ∀j:Int,0≤j→j<k+1→p (geta l j)=false from fun j h0 h1=>by
     by_cases hj:j=k
     ·rw [hj];exact hx
     ·exact hz.out j h0 (by omega))
    rw [hx]at H1;clear hx;generalize geta l k=x at *;go_wp2_with fail
    refine H1.out.mono ?_;rintro e w1 ⟨rfl,hb1⟩;have HB1:=Lib.hid (HB.out.trans (hb1.mono HB.out.size));clear hb1;go_wp2_with fail
    go_roundw
    case rel=>exact⟨k+1,by omega,by omega,rfl,HZ,HB1.out⟩
    case measure=>simp [intOf];omega
   ·have HE:=Lib.hid (idxI_hit hk0 hlt hz.out hx);rw [hx]at H1;clear hx;generalize geta l k=x at *;go_wp2_with fail
    refine H1.out.mono ?_;rintro e w1 ⟨rfl,hb1⟩;have HB1:=Lib.hid (HB.out.trans (hb1.mono HB.out.size));clear hb1;go_wp2_with fail
    go_ret
    exact⟨ret_int HE.out.symm,HB1.out⟩
  ·have HE:=Lib.hid (idxI_none (l:=l) (p:=p) fun j h0 h1=>hz.out j h0 (by omega));have HB:=Lib.hid hbel;clear hbel;go_wp2_with fail
   go_ret
   exact⟨ret_int HE.out.symm,HB.out⟩
theorem any_sl :
  Calls Tryz.prog 51 #[v,.func (.func Fn) #[] #[c]] w fun e w'=>e=.returned (.bool (l.any p))∧Below w.heap.size w w':=by
 have H1:=Lib.hid (idx_sl Fn hF c v l p base w h hn hp);have HA:=Lib.hid (idxI_any l p);obtain⟨q,d,hv⟩:=h.shape;clear h hp;subst hv;generalize idxI l p=r at *;generalize l.any p=b at *
 go_enter Tryz.func51,Tryz.ntmps51
 go_wp2_with fail
 refine H1.out.mono ?_;rintro e w1 ⟨rfl,hb1⟩;have HB:=Lib.hid hb1;clear hb1;go_wp2_with fail
 go_ret
 exact⟨ret_bool HA.out,HB.out⟩
end
theorem idx_sc (Fn:Nat)(hF:∀args w,(callFunc Fn args).run Tryz.prog w=.ok (.enter Fn args) w)(c:Value)(v:Value)(l:List ScD)(p:ScD→Bool)(base:Nat)(w:World)(h:Row w base 5 v l.length (cellsOf encSc l))(hn:l.length≤1000000)(hp:∀x∈l,∀w1,Below w.heap.size w w1→Calls Tryz.prog Fn #[.agg #[.string x.pl,x.pv,.int .i64 x.num,.int .i64 x.den,.bool x.pd],c] w1 fun e w2=>e=.returned (.bool (p x))∧Below w1.heap.size w1 w2):
  Calls Tryz.prog 95 #[v,.func (.func Fn) #[] #[c]] w fun e w'=>e=.returned (.int .i64 (idxI l p))∧Below w.heap.size w w':=by
 obtain⟨q,d,rfl⟩:=h.shape;have HH:=Lib.hid h;clear h;have HP:=Lib.hid hp;clear hp
 go_enter Tryz.func95,Tryz.ntmps95
 go_wp2_with fail
 go_loopw [8] (fun i wr=>∃k:Int,0≤k∧k≤l.length∧i=.int .i64 k∧Hid (∀j:Int,0≤j→j<k→p (geta l j)=false)∧Below w.heap.size w wr) (fun i _=>l.length-(intOf i).toNat)
 case atStart=>exact⟨0,by omega,by omega,rfl,Lib.hid fun j h0 h1=>by omega,Below.refl _ _⟩
 case round =>
  obtain⟨k,hk0,hk1,rfl,hz,hbel⟩:=hrel
  by_cases hlt:k<l.length
  ·obtain⟨_,hc⟩:=(HH.out.below hbel).els encSc_length (by decide);rcases hc with ⟨hv,h0⟩|⟨b,off,cap,hv,_,hbs,hnc,hcm,hcell⟩
   ·omega
   simp only [Value.slice.injEq]at hv;obtain⟨rfl,_,rfl⟩:=hv;have c0:=hcell k hk0 hlt 0 _ rfl;have c1:=hcell k hk0 hlt 1 _ rfl;have c2:=hcell k hk0 hlt 2 _ rfl;have c3:=hcell k hk0 hlt 3 _ rfl;have c4:=hcell k hk0 hlt 4 _ rfl;rw [Nat.add_zero]at c0;clear hcell;have H1:=Lib.hid (HP.out _ (geta_mem hk0 hlt) wr hbel);have HB:=Lib.hid hbel;clear hbel;cases hx:p (geta l k)
   ·have HZ:=Lib.hid (show ∀j:Int,0≤j→j<k+1→p (geta l j)=false from fun j h0 h1=>by
     by_cases hj:j=k
     ·rw [hj];exact hx
     ·exact hz.out j h0 (by omega))
    rw [hx]at H1;clear hx;generalize geta l k=x at *;go_wp2_with fail
    refine H1.out.mono ?_;rintro e w1 ⟨rfl,hb1⟩;have HB1:=Lib.hid (HB.out.trans (hb1.mono HB.out.size));clear hb1;go_wp2_with fail
    go_roundw
    case rel=>exact⟨k+1,by omega,by omega,rfl,HZ,HB1.out⟩
    case measure=>simp [intOf];omega
   ·have HE:=Lib.hid (idxI_hit hk0 hlt hz.out hx);rw [hx]at H1;clear hx;generalize geta l k=x at *;go_wp2_with fail
    refine H1.out.mono ?_;rintro e w1 ⟨rfl,hb1⟩;have HB1:=Lib.hid (HB.out.trans (hb1.mono HB.out.size));clear hb1;go_wp2_with fail
    go_ret
    exact⟨ret_int HE.out.symm,HB1.out⟩
  ·have HE:=Lib.hid (idxI_none (l:=l) (p:=p) fun j h0 h1=>hz.out j h0 (by omega));have HB:=Lib.hid hbel;clear hbel;go_wp2_with fail
   go_ret
   exact⟨ret_int HE.out.symm,HB.out⟩
section
variable (Fn:Nat)(hF:∀args w,(callFunc Fn args).run Tryz.prog w=.ok (.enter Fn args) w)(c:Value)(v:Value)(l:List ByteArray)(p:ByteArray→Bool)(base:Nat)(w:World)(h:Row w base 1 v l.length (cellsOf encSt l))(hn:l.length≤1000000)(hp:∀x∈l,∀w1,Below w.heap.size w w1→Calls Tryz.prog Fn #[.string x,c] w1 fun e w2=>e=.returned (.bool (p x))∧Below w1.heap.size w1 w2)
include hF h hn hp
theorem idx_st :
  Calls Tryz.prog 83 #[v,.func (.func Fn) #[] #[c]] w fun e w'=>e=.returned (.int .i64 (idxI l p))∧Below w.heap.size w w':=by
 obtain⟨q,d,rfl⟩:=h.shape;have HH:=Lib.hid h;clear h;have HP:=Lib.hid hp;clear hp
 go_enter Tryz.func83,Tryz.ntmps83
 go_wp2_with fail
 go_loopw [8] (fun i wr=>∃k:Int,0≤k∧k≤l.length∧i=.int .i64 k∧Hid (∀j:Int,0≤j→j<k→p (geta l j)=false)∧Below w.heap.size w wr) (fun i _=>l.length-(intOf i).toNat)
 case atStart=>exact⟨0,by omega,by omega,rfl,Lib.hid fun j h0 h1=>by omega,Below.refl _ _⟩
 case round =>
  obtain⟨k,hk0,hk1,rfl,hz,hbel⟩:=hrel
  by_cases hlt:k<l.length
  ·obtain⟨_,hc⟩:=(HH.out.below hbel).els encSt_length (by decide);rcases hc with ⟨hv,h0⟩|⟨b,off,cap,hv,_,hbs,hnc,hcm,hcell⟩
   ·omega
   simp only [Value.slice.injEq]at hv;obtain⟨rfl,_,rfl⟩:=hv;have c0:=hcell k hk0 hlt 0 _ rfl;rw [Nat.add_zero]at c0;rw [Nat.mul_one]at c0;clear hcell;have H1:=Lib.hid (HP.out _ (geta_mem hk0 hlt) wr hbel);have HB:=Lib.hid hbel;clear hbel;cases hx:p (geta l k)
   ·have HZ:=Lib.hid (show ∀j:Int,0≤j→j<k+1→p (geta l j)=false from fun j h0 h1=>by
     by_cases hj:j=k
     ·rw [hj];exact hx
     ·exact hz.out j h0 (by omega))
    rw [hx]at H1;clear hx;generalize geta l k=x at *;go_wp2_with fail
    refine H1.out.mono ?_;rintro e w1 ⟨rfl,hb1⟩;have HB1:=Lib.hid (HB.out.trans (hb1.mono HB.out.size));clear hb1;go_wp2_with fail
    go_roundw
    case rel=>exact⟨k+1,by omega,by omega,rfl,HZ,HB1.out⟩
    case measure=>simp [intOf];omega
   ·have HE:=Lib.hid (idxI_hit hk0 hlt hz.out hx);rw [hx]at H1;clear hx;generalize geta l k=x at *;go_wp2_with fail
    refine H1.out.mono ?_;rintro e w1 ⟨rfl,hb1⟩;have HB1:=Lib.hid (HB.out.trans (hb1.mono HB.out.size));clear hb1;go_wp2_with fail
    go_ret
    exact⟨ret_int HE.out.symm,HB1.out⟩
  ·have HE:=Lib.hid (idxI_none (l:=l) (p:=p) fun j h0 h1=>hz.out j h0 (by omega));have HB:=Lib.hid hbel;clear hbel;go_wp2_with fail
   go_ret
   exact⟨ret_int HE.out.symm,HB.out⟩
theorem any_st :
  Calls Tryz.prog 43 #[v,.func (.func Fn) #[] #[c]] w fun e w'=>e=.returned (.bool (l.any p))∧Below w.heap.size w w':=by
 have H1:=Lib.hid (idx_st Fn hF c v l p base w h hn hp);have HA:=Lib.hid (idxI_any l p);obtain⟨q,d,hv⟩:=h.shape;clear h hp;subst hv;generalize idxI l p=r at *;generalize l.any p=b at *
 go_enter Tryz.func43,Tryz.ntmps43
 go_wp2_with fail
 refine H1.out.mono ?_;rintro e w1 ⟨rfl,hb1⟩;have HB:=Lib.hid hb1;clear hb1;go_wp2_with fail
 go_ret
 exact⟨ret_bool HA.out,HB.out⟩
end
end Go.Proofs.YtnmdpphddimfbaaGreat
