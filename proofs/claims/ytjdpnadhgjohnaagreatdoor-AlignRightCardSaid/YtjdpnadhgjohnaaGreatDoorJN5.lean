import Derived.Test.YtjdpnadhgjohnaaGreatDoorJN0
import Derived.Test.YtjdpnadhgjohnaaGreatDoorJN4
import Derived.Deep.AppendLies
import Derived.Laws.MakeOwn
set_option linter.unusedSimpArgs false
set_option linter.unusedVariables false
set_option linter.unusedSectionVars false
namespace Go.Proofs.YtjdpnadhgjohnaaGreatDoor
section
open Go.RowKit
theorem B2.alloc {W:World}{g:Nat}{x y:Value}(h:B2 W g x y)(o:Obj):B2 (W.alloc o) g x y:=
 B2.after ((Below.refl W.heap.size W).alloc (Nat.le_refl _) o) h h.lt
theorem zog {W:World}{g g' o:Nat}{u:Value}(hne:g≠g'):(W.setCell ⟨g',o,none⟩ u).heap[g]?=W.heap[g]?:=Below.heap_setCell _ _ _ _ hne
theorem B2.of_block {W W':World}{g:Nat}{x y:Value}(h:B2 W g x y)(he:W'.heap[g]?=W.heap[g]?)(hs:W.heap.size≤W'.heap.size):B2 W' g x y:=by
 obtain⟨h1,h2,h3,h4,h5⟩:=h
 exact⟨(World.cell?_of_block (w:=W) he).trans h1,(World.cell?_of_block (w:=W) he).trans h2,(World.frozen?_of_block (w:=W) he).trans h3,(World.frozen?_of_block (w:=W) he).trans h4,Nat.lt_of_lt_of_le h5 hs⟩
theorem B1.of_block {W W':World}{g:Nat}{x:Value}(h:B1 W g x)(he:W'.heap[g]?=W.heap[g]?)(hs:W.heap.size≤W'.heap.size):B1 W' g x:=by
 obtain⟨h1,h2,h5⟩:=h
 exact⟨(World.cell?_of_block (w:=W) he).trans h1,(World.frozen?_of_block (w:=W) he).trans h2,Nat.lt_of_lt_of_le h5 hs⟩
theorem zhv (W:World)(p:Addr)(u:Value):(W.setCell p u).heap.size=W.heap.size:=by simp[World.setCell]
theorem B2.far {W:World}{g:Nat}{x y:Value}(h:B2 W g x y){g' o:Nat}(hne:g≠g')(u:Value):B2 (W.setCell ⟨g',o,none⟩ u) g x y:=
 h.of_block (zog hne) (by rw[zhv];exact Nat.le_refl _)
theorem B1.far {W:World}{g:Nat}{x:Value}(h:B1 W g x){g' o:Nat}(hne:g≠g')(u:Value):B1 (W.setCell ⟨g',o,none⟩ u) g x:=
 h.of_block (zog hne) (by rw[zhv];exact Nat.le_refl _)
theorem B1.new (W:World)(x:Value)(t:TypeId):B1 (W.alloc (.cells #[x] t)) W.heap.size x:=by simp[B1,go_sem]
theorem B2.new (W:World)(x y:Value)(t:TypeId):B2 (W.alloc (.cells #[x,y] t)) W.heap.size x y:=by simp[B2,go_sem]
abbrev K1 (w:World)(g:Nat)(x:Value):Prop:=w.cell? ⟨g,0,none⟩=some x∧w.frozen? ⟨g,0,none⟩=false∧g<w.heap.size
abbrev K2 (w:World)(g:Nat)(x y:Value):Prop:=w.cell? ⟨g,0,none⟩=some x∧w.cell? ⟨g,1,none⟩=some y∧w.frozen? ⟨g,0,none⟩=false∧w.frozen? ⟨g,1,none⟩=false∧g<w.heap.size
abbrev K6 (w:World)(g:Nat)(a b c d e f:Value):Prop:=w.cell? ⟨g,0,none⟩=some a∧w.cell? ⟨g,1,none⟩=some b∧w.cell? ⟨g,2,none⟩=some c∧w.cell? ⟨g,3,none⟩=some d∧w.cell? ⟨g,4,none⟩=some e∧w.cell? ⟨g,5,none⟩=some f∧g<w.heap.size
theorem K1.after {W w1:World}{g:Nat}{x:Value}(h:K1 W g x)(hb:Below W.heap.size W w1):K1 w1 g x:=B1.after hb h h.2.2
theorem K2.after {W w1:World}{g:Nat}{x y:Value}(h:K2 W g x y)(hb:Below W.heap.size W w1):K2 w1 g x y:=B2.after hb h h.2.2.2.2
theorem K1.off {c:Nat}{W w1:World}{g:Nat}{x:Value}(h:K1 W g x)(hb:Off c W.heap.size W w1)(hc:g≠c):K1 w1 g x:=B1.off hb h h.2.2 hc
theorem K2.off {c:Nat}{W w1:World}{g:Nat}{x y:Value}(h:K2 W g x y)(hb:Off c W.heap.size W w1)(hc:g≠c):K2 w1 g x y:=B2.off hb h h.2.2.2.2 hc
theorem K6.of_block {W W':World}{g:Nat}{a b c d e f:Value}(h:K6 W g a b c d e f)(he:W'.heap[g]?=W.heap[g]?)(hs:W.heap.size≤W'.heap.size):K6 W' g a b c d e f:=by
 obtain⟨h1,h2,h3,h4,h5,h6,h7⟩:=h
 exact⟨(World.cell?_of_block (w:=W) he).trans h1,(World.cell?_of_block (w:=W) he).trans h2,(World.cell?_of_block (w:=W) he).trans h3,(World.cell?_of_block (w:=W) he).trans h4,(World.cell?_of_block (w:=W) he).trans h5,(World.cell?_of_block (w:=W) he).trans h6,Nat.lt_of_lt_of_le h7 hs⟩
theorem K6.after {W w1:World}{g:Nat}{a b c d e f:Value}(h:K6 W g a b c d e f)(hb:Below W.heap.size W w1):K6 w1 g a b c d e f:=K6.of_block h (hb.block g h.2.2.2.2.2.2) hb.size
theorem K6.off {x:Nat}{W w1:World}{g:Nat}{a b c d e f:Value}(h:K6 W g a b c d e f)(hb:Off x W.heap.size W w1)(hc:g≠x):K6 w1 g a b c d e f:=K6.of_block h (hb.block g h.2.2.2.2.2.2 hc) hb.size
theorem K1.aft {W w1:World}{g:Nat}{x:Value}(hb:Below W.heap.size W w1)(h:K1 W g x):K1 w1 g x:=K1.after h hb
theorem K2.aft {W w1:World}{g:Nat}{x y:Value}(hb:Below W.heap.size W w1)(h:K2 W g x y):K2 w1 g x y:=K2.after h hb
theorem K6.aft {W w1:World}{g:Nat}{a b c d e f:Value}(hb:Below W.heap.size W w1)(h:K6 W g a b c d e f):K6 w1 g a b c d e f:=K6.after h hb
theorem K1.alloc {W:World}{g:Nat}{x:Value}(h:K1 W g x)(o:Obj):K1 (W.alloc o) g x:=K1.after h ((Below.refl W.heap.size W).alloc (Nat.le_refl _) o)
theorem K2.alloc {W:World}{g:Nat}{x y:Value}(h:K2 W g x y)(o:Obj):K2 (W.alloc o) g x y:=K2.after h ((Below.refl W.heap.size W).alloc (Nat.le_refl _) o)
theorem K6.alloc {W:World}{g:Nat}{a b c d e f:Value}(h:K6 W g a b c d e f)(o:Obj):K6 (W.alloc o) g a b c d e f:=K6.after h ((Below.refl W.heap.size W).alloc (Nat.le_refl _) o)
theorem K1.new (W:World)(x:Value)(t:TypeId):K1 (W.alloc (.cells #[x] t)) W.heap.size x:=B1.new W x t
theorem K2.new (W:World)(x y:Value)(t:TypeId):K2 (W.alloc (.cells #[x,y] t)) W.heap.size x y:=B2.new W x y t
theorem K6.new (W:World)(a b c d e f:Value)(t:TypeId):K6 (W.alloc (.cells #[a,b,c,d,e,f] t)) W.heap.size a b c d e f:=by simp[K6,go_sem]
theorem K2.set {W:World}{g:Nat}{x y:Value}(h:K2 W g x y)(u v:Value):K2 ((W.setCell ⟨g,0,none⟩ u).setCell ⟨g,1,none⟩ v) g u v:=B2.set h u v
theorem K1.set {W:World}{g:Nat}{x:Value}(h:K1 W g x)(u:Value):K1 (W.setCell ⟨g,0,none⟩ u) g u:=B1.set h u
theorem K1.far {W:World}{g:Nat}{x:Value}(h:K1 W g x){g' o:Nat}(hne:g≠g')(u:Value):K1 (W.setCell ⟨g',o,none⟩ u) g x:=B1.far h hne u
theorem K2.far {W:World}{g:Nat}{x y:Value}(h:K2 W g x y){g' o:Nat}(hne:g≠g')(u:Value):K2 (W.setCell ⟨g',o,none⟩ u) g x y:=B2.far h hne u
theorem K6.far {W:World}{g:Nat}{a b c d e f:Value}(h:K6 W g a b c d e f){g' o:Nat}(hne:g≠g')(u:Value):K6 (W.setCell ⟨g',o,none⟩ u) g a b c d e f:=
 K6.of_block h (zog hne) (by rw[zhv];exact Nat.le_refl _)
def RdG (t:TypeId)(size:Nat)(w:World)(lo hi:Nat)(v:Value)(n:Nat)(xs:List Value):Prop:=
 xs.length=n*size∧ ∃A c,v= .slice A n c∧n≤c∧n≤maxLen∧(0<n→ ∃b off cs fr,A=some ⟨b,off,none⟩∧lo≤b∧b<hi∧w.heap[b]?=some (.cells cs t fr)∧ ∀j u,xs[j]?=some u→cs[off+j]?=some u)
section
variable {t:TypeId}{size:Nat}{w W:World}{lo hi:Nat}{v:Value}{n:Nat}{xs:List Value}
theorem RdG.of_blocks (h:RdG t size w lo hi v n xs)(hk: ∀b,lo≤b→b<hi→b<w.heap.size→(∃cs fr,w.heap[b]?=some (.cells cs t fr))→W.heap[b]?=w.heap[b]?):RdG t size W lo hi v n xs:=by
 obtain⟨h1,A,c,hv,h2,h3,h4⟩:=h
 refine⟨h1,A,c,hv,h2,h3,fun hn=>?_⟩
 obtain⟨b,off,cs,fr,hA,hlo,hhi,hb,hc⟩:=h4 hn
 exact⟨b,off,cs,fr,hA,hlo,hhi,(hk b hlo hhi (Array.getElem?_eq_some_iff.1 hb).1 ⟨cs,fr,hb⟩).trans hb,hc⟩
theorem RdG.after (h:RdG t size w lo hi v n xs)(hb:Below w.heap.size w W):RdG t size W lo hi v n xs:=h.of_blocks fun b _ _ hb' _=>hb.block b hb'
theorem RdG.off {c:Nat}(h:RdG t size w lo hi v n xs)(hb:Off c w.heap.size w W)(hc:c<lo):RdG t size W lo hi v n xs:=h.of_blocks fun b hl _ hb' _=>hb.block b hb' xa
theorem RdG.mono {lo' hi':Nat}(h:RdG t size w lo hi v n xs)(hl:lo'≤lo)(hh:hi≤hi'):RdG t size w lo' hi' v n xs:=by
 obtain⟨h1,A,c,hv,h2,h3,h4⟩:=h
 refine⟨h1,A,c,hv,h2,h3,fun hn=>?_⟩
 obtain⟨b,off,cs,fr,hA,hlo,hhi,hb,hc⟩:=h4 hn
 exact⟨b,off,cs,fr,hA,by omega,by omega,hb,hc⟩
theorem RdG.of_own (h:w.ownsRow lo t size v n xs):RdG t size w lo w.heap.size v n xs:=by
 refine⟨h.1,?_⟩
 rcases h.2 with ⟨rfl,h0⟩|⟨g,cap,cur,rfl,hb,hg,h1,h2,h3,h4⟩
 ·
  exact⟨none,0,by rw[h0],by omega,by simp[h0,maxLen],fun hn=>by omega⟩
 ·
  refine⟨_,cap,rfl,h1,by omega,fun _=>⟨g,0,cur,_,rfl,hb,(Array.getElem?_eq_some_iff.1 hg).1,hg,?_⟩⟩
  intro j u hu
  rw[←h4,List.getElem?_take] at hu
  split at hu
  ·
   simpa using hu
  ·
   cases hu
theorem RdG.form (h:RdG t size w lo hi v n xs): ∃A c,v= .slice A n c∧n≤c∧n≤9223372036854775807:=by
 obtain⟨h1,A,c,hv,h2,h3,h4⟩:=h
 exact⟨A,c,hv,h2,by unfold maxLen at h3;omega⟩
theorem RdG.cells {A:Option Addr}{c:Nat}(h:RdG t size w lo hi (.slice A n c) n xs)(hn:0<n): ∃b off,A=some ⟨b,off,none⟩∧lo≤b∧b<hi∧b<w.heap.size∧ ∀j u,xs[j]?=some u→w.cell? ⟨b,off+j,none⟩=some u:=by
 obtain⟨h1,A',c',hv,h2,h3,h4⟩:=h
 injection hv with hA _ hc
 subst hA
 obtain⟨b,off,cs,fr,hA,hlo,hhi,hb,hc⟩:=h4 hn
 refine⟨b,off,hA,hlo,hhi,(Array.getElem?_eq_some_iff.1 hb).1,fun j u hu=>?_⟩
 rw[cell_of_row w b (off+j) cs t fr hb]
 exact hc j u hu
end
theorem zm9 {w W:World}{base:Nat}{e:TypeId}{size n:Nat}{v:Value}{xs:List Value}(h:w.ownsRow base e size v n xs)(hb:Below w.heap.size w W):W.ownsRow base e size v n xs:=by
 obtain⟨h1,h2⟩:=h
 refine⟨h1,?_⟩
 rcases h2 with h2|⟨g,cap,cur,hv,hg,hh,r⟩
 ·
  exact Or.inl h2
 ·
  exact Or.inr ⟨g,cap,cur,hv,hg,(hb.block g (Array.getElem?_eq_some_iff.1 hh).1).trans hh,r⟩
theorem Off.grown {c N:Nat}{w W W':World}{row:Option Nat}(h:Off c N w W)(hg:W.grownBy W' row)(hN:N≤W.heap.size)(hr: ∀g,row=some g→N≤g):Off c N w W':=
 h.trans ⟨hg.os,hg.tape,hg.output,hg.size,fun k hk _=>hg.block k xa (fun e=>by have:=hr k e.symm;omega)⟩
theorem K1.grown {W w1:World}{g:Nat}{x:Value}{row:Option Nat}(h:K1 W g x)(hg:W.grownBy w1 row)(hr: ∀k,row=some k→g<k):K1 w1 g x:=
 B1.of_block h (hg.block g h.2.2 (fun e=>by have:=hr g e.symm;omega)) hg.size
theorem K2.grown {W w1:World}{g:Nat}{x y:Value}{row:Option Nat}(h:K2 W g x y)(hg:W.grownBy w1 row)(hr: ∀k,row=some k→g<k):K2 w1 g x y:=
 B2.of_block h (hg.block g h.2.2.2.2 (fun e=>by have:=hr g e.symm;omega)) hg.size
theorem K6.grown {W w1:World}{g:Nat}{a b c d e f:Value}{row:Option Nat}(h:K6 W g a b c d e f)(hg:W.grownBy w1 row)(hr: ∀k,row=some k→g<k):K6 w1 g a b c d e f:=
 K6.of_block h (hg.block g h.2.2.2.2.2.2 (fun e=>by have:=hr g e.symm;omega)) hg.size
theorem z7d (W:World)(cs:Array Value)(t:TypeId)(base size n:Nat)(hs:cs.size=n*size)(hn:n≤maxLen)(hb:base≤W.heap.size):
  (W.alloc (.cells cs t)).ownsRow base t size (.slice (some ⟨W.heap.size,0,none⟩) n n) n cs.toList:=
 ⟨by simp[hs], .inr ⟨W.heap.size,n,cs,rfl,hb,heap_alloc_new W _,Nat.le_refl _,hn,hs,List.take_of_length_le (by simp[hs])⟩⟩
theorem zzm {W:World}{lo lo' t sz n:Nat}{v:Value}{cells:List Value}(h:W.ownsRow lo t sz v n cells)(hl:lo'≤lo):W.ownsRow lo' t sz v n cells:=by
 refine⟨h.1,?_⟩
 rcases h.2 with h2|⟨g',cap',cur,hv,hg',r⟩
 ·
  exact Or.inl h2
 ·
  exact Or.inr ⟨g',cap',cur,hv,Nat.le_trans hl hg',r⟩
structure Chg (D:Nat→Prop)(w W:World):Prop where
 os:W.os=w.os
 tape:W.tape=w.tape
 output:W.output=w.output
 size:w.heap.size≤W.heap.size
 block: ∀k,k<w.heap.size→ ¬D k→W.heap[k]?=w.heap[k]?
theorem Chg.below {w W:World}(h:Below w.heap.size w W):Chg (fun _=>False) w W:=⟨h.os,h.tape,h.output,h.size,fun k hk _=>h.block k hk⟩
theorem Chg.off {c:Nat}{w W:World}(h:Off c w.heap.size w W):Chg (fun k=>k=c) w W:=⟨h.os,h.tape,h.output,h.size,fun k hk hc=>h.block k hk hc⟩
theorem Chg.grown {row:Option Nat}{w W:World}(h:w.grownBy W row):Chg (fun k=>row=some k) w W:=⟨h.os,h.tape,h.output,h.size,fun k hk hc=>h.block k hk (fun e=>hc e.symm)⟩
theorem Chg.drew (w:World):Chg (fun _=>False) w w.drew:=⟨rfl,rfl,rfl,Nat.le_refl _,fun _ _ _=>rfl⟩
theorem Chg.drewN (w:World)(n:Nat):Chg (fun _=>False) w (w.drewN n):=Chg.below (below_drewN (Below.refl _ w) n)
theorem Chg.alloc (w:World)(o:Obj):Chg (fun _=>False) w (w.alloc o):=Chg.below ((Below.refl _ w).alloc (Nat.le_refl _) o)
theorem Chg.set (w:World)(g i:Nat)(u:Value):Chg (fun k=>k=g) w (w.setCell ⟨g,i,none⟩ u):=
 ⟨rfl,rfl,rfl,by simp[World.setCell],fun k hk hc=>Below.heap_setCell _ _ _ _ hc⟩
structure Loc where
 P:World→Prop
 F:Nat→Prop
 keep: ∀ {D:Nat→Prop} {w W:World},Chg D w W→(∀k,F k→ ¬D k)→P w→P W
abbrev Loc.k1 (g:Nat)(x:Value):Loc:=⟨fun w=>K1 w g x,fun k=>k=g,fun h hd hp=>B1.of_block hp (h.block g hp.2.2 (hd g J)) h.size⟩
abbrev Loc.k2 (g:Nat)(x y:Value):Loc:=⟨fun w=>K2 w g x y,fun k=>k=g,fun h hd hp=>B2.of_block hp (h.block g hp.2.2.2.2 (hd g J)) h.size⟩
abbrev Loc.k6 (g:Nat)(a b c d e f:Value):Loc:=⟨fun w=>K6 w g a b c d e f,fun k=>k=g,fun h hd hp=>K6.of_block hp (h.block g hp.2.2.2.2.2.2 (hd g J)) h.size⟩
abbrev C1 (w:World)(b o:Nat)(x:Value):Prop:=w.cell? ⟨b,o,none⟩=some x
abbrev C2 (w:World)(b o:Nat)(x y:Value):Prop:=w.cell? ⟨b,o,none⟩=some x∧w.cell? ⟨b,o+1,none⟩=some y
abbrev Loc.c1 (b o:Nat)(x:Value):Loc:=⟨fun w=>C1 w b o x,fun k=>k=b,fun h hd hp=>(World.cell?_of_block (h.block b (World.block_lt_of_cell? _ _ hp) (hd b J))).trans hp⟩
abbrev Loc.c2 (b o:Nat)(x y:Value):Loc:=⟨fun w=>C2 w b o x y,fun k=>k=b,fun h hd hp=>⟨(World.cell?_of_block (h.block b (World.block_lt_of_cell? _ _ hp.1) (hd b J))).trans hp.1,(World.cell?_of_block (h.block b (World.block_lt_of_cell? _ _ hp.1) (hd b J))).trans hp.2⟩⟩
abbrev Loc.fr (c N:Nat)(w0:World):Loc:=
 ⟨fun W=>Off c N w0 W∧N≤W.heap.size,fun k=>k<N∧k≠c,fun h hd hp=>⟨hp.1.trans ⟨h.os,h.tape,h.output,h.size,fun k hk hc=>h.block k (Nat.lt_of_lt_of_le hk hp.2) (hd k ⟨hk,hc⟩)⟩,Nat.le_trans hp.2 h.size⟩⟩
abbrev Loc.own (lo hi:Nat)(t:TypeId)(sz:Nat)(v:Value)(n:Nat)(xs:List Value):Loc:=
 ⟨fun w=>w.ownsRow lo t sz v n xs∧ ∀k,v.ownBlock=some k→k<hi,fun k=>lo≤k∧k<hi∧v.ownBlock=some k,fun h hd hp=>by
  refine⟨⟨hp.1.1,?_⟩,hp.2⟩
  rcases hp.1.2 with h2|⟨g,cap,cur,hv,hg,hh,r⟩
  ·
   exact Or.inl h2
  ·
   have hvg:v.ownBlock=some g:=by rw[hv];rfl
   exact Or.inr ⟨g,cap,cur,hv,hg,(h.block g (Array.getElem?_eq_some_iff.1 hh).1 (hd g ⟨hg,hp.2 g hvg,hvg⟩)).trans hh,r⟩⟩
abbrev Loc.bl (N:Nat)(w0:World):Loc:=
 ⟨fun W=>Below N w0 W∧N≤W.heap.size,fun k=>k<N,fun h hd hp=>⟨hp.1.trans ⟨h.os,h.tape,h.output,h.size,fun k hk=>h.block k (Nat.lt_of_lt_of_le hk hp.2) (hd k hk)⟩,Nat.le_trans hp.2 h.size⟩⟩
abbrev Loc.sz (N:Nat):Loc:=⟨fun w=>N≤w.heap.size,fun _=>False,fun h _ hp=>Nat.le_trans hp h.size⟩
def Mem:List Loc→World→Prop
 |[],_=>True
 |a::l,w=>a.P w∧Mem l w
def zi1 (D:Nat→Prop):List Loc→Prop
 |[]=>True
 |a::l=>(∀k,a.F k→D k→False)∧zi1 D l
theorem Mem.chg {D:Nat→Prop}{w W:World}(h:Chg D w W): ∀ {l:List Loc},Mem l w→zi1 D l→Mem l W
 |[],_,_=>True.intro
 |a::l,hm,ha=>⟨a.keep h (fun k hk hd=>ha.1 k hk hd) hm.1,Mem.chg h hm.2 ha.2⟩
theorem zi1.none: ∀ {l:List Loc},zi1 (fun _=>False) l
 |[]=>True.intro
 |_::_=>⟨fun _ _ h=>h,zi1.none⟩
theorem Mem.below {w W:World}{l:List Loc}(hm:Mem l w)(h:Below w.heap.size w W):Mem l W:=hm.chg (Chg.below h) zi1.none
theorem Mem.drew {w:World}{l:List Loc}(hm:Mem l w):Mem l w.drew:=hm.chg (Chg.drew w) zi1.none
theorem Mem.drewN {w:World}{l:List Loc}(hm:Mem l w)(n:Nat):Mem l (w.drewN n):=hm.chg (Chg.drewN w n) zi1.none
theorem Mem.alloc {w:World}{l:List Loc}(hm:Mem l w)(o:Obj):Mem l (w.alloc o):=hm.chg (Chg.alloc w o) zi1.none
theorem Mem.off {c:Nat}{w W:World}{l:List Loc}(hm:Mem l w)(h:Off c w.heap.size w W)(ha:zi1 (fun k=>k=c) l):Mem l W:=hm.chg (Chg.off h) ha
theorem Mem.set {g i:Nat}{u:Value}{w:World}{l:List Loc}(hm:Mem l w)(ha:zi1 (fun k=>k=g) l):Mem l (w.setCell ⟨g,i,none⟩ u):=hm.chg (Chg.set w g i u) ha
theorem Mem.grown {row:Option Nat}{w W:World}{l:List Loc}(hm:Mem l w)(h:w.grownBy W row)(ha:zi1 (fun k=>row=some k) l):Mem l W:=hm.chg (Chg.grown h) ha
theorem Mem.cons {a:Loc}{w:World}{l:List Loc}(h:a.P w)(hm:Mem l w):Mem (a::l) w:=⟨h,hm⟩
def RdC (size:Nat)(w:World)(lo hi:Nat)(v:Value)(n:Nat)(xs:List Value):Prop:=
 xs.length=n*size∧ ∃A c,v= .slice A n c∧n≤c∧n≤maxLen∧(0<n→ ∃b off,A=some ⟨b,off,none⟩∧lo≤b∧b<hi∧ ∀j u,xs[j]?=some u→w.cell? ⟨b,off+j,none⟩=some u)
section
variable {size:Nat}{w W:World}{lo hi:Nat}{v:Value}{n:Nat}{xs:List Value}
theorem RdC.of_blocks (h:RdC size w lo hi v n xs)(hk: ∀b,lo≤b→b<hi→b<w.heap.size→W.heap[b]?=w.heap[b]?):RdC size W lo hi v n xs:=by
 obtain⟨h1,A,c,hv,h2,h3,h4⟩:=h
 refine⟨h1,A,c,hv,h2,h3,fun hn=>?_⟩
 obtain⟨b,off,hA,hlo,hhi,hc⟩:=h4 hn
 exact⟨b,off,hA,hlo,hhi,fun j u hu=>(World.cell?_of_block (hk b hlo hhi (World.block_lt_of_cell? _ _ (hc j u hu)))).trans (hc j u hu)⟩
theorem RdC.after (h:RdC size w lo hi v n xs)(hb:Below w.heap.size w W):RdC size W lo hi v n xs:=h.of_blocks fun b _ _ hb'=>hb.block b hb'
theorem RdC.mono {lo' hi':Nat}(h:RdC size w lo hi v n xs)(hl:lo'≤lo)(hh:hi≤hi'):RdC size w lo' hi' v n xs:=by
 obtain⟨h1,A,c,hv,h2,h3,h4⟩:=h
 refine⟨h1,A,c,hv,h2,h3,fun hn=>?_⟩
 obtain⟨b,off,hA,hlo,hhi,hc⟩:=h4 hn
 exact⟨b,off,hA,by omega,by omega,hc⟩
theorem RdC.of_own {t:TypeId}(h:w.ownsRow lo t size v n xs):RdC size w lo w.heap.size v n xs:=by
 have h':=RdG.of_own h
 obtain⟨h1,A,c,hv,h2,h3,h4⟩:=h'
 refine⟨h1,A,c,hv,h2,h3,fun hn=>?_⟩
 obtain⟨b,off,cs,fr,hA,hlo,hhi,hb,hc⟩:=h4 hn
 exact⟨b,off,hA,hlo,hhi,fun j u hu=>by rw[cell_of_row w b (off+j) cs t fr hb];exact hc j u hu⟩
theorem RdC.form (h:RdC size w lo hi v n xs): ∃A c,v= .slice A n c∧n≤c∧n≤9223372036854775807:=by
 obtain⟨h1,A,c,hv,h2,h3,h4⟩:=h
 exact⟨A,c,hv,h2,by unfold maxLen at h3;omega⟩
theorem RdC.cells {A:Option Addr}{c:Nat}(h:RdC size w lo hi (.slice A n c) n xs)(hn:0<n): ∃b off,A=some ⟨b,off,none⟩∧lo≤b∧b<hi∧ ∀j u,xs[j]?=some u→w.cell? ⟨b,off+j,none⟩=some u:=by
 obtain⟨h1,A',c',hv,h2,h3,h4⟩:=h
 injection hv with hA _ hc
 subst hA
 exact h4 hn
theorem RdC.nil (w:World)(lo hi:Nat):RdC size w lo hi (.slice none 0 0) 0 []:=⟨by simp,none,0,rfl,Nat.le_refl _,by simp,fun h=>by omega⟩
end
end
section
open Go.RowKit
theorem zlt {α:Type}{p:α→Bool}: ∀ {l:List α} {k:Nat} {a:α},l[k]?=some a→p a=true→(∀j a,j<k→l[j]?=some a→p a=false)→l.findIdx? p=some k
 |[],_,_,h,_,_=>by simp at h
 |b::l,0,a,h,hp,_=>by simp at h;subst h;simp[List.findIdx?_cons,hp]
 |b::l,k+1,a,h,hp,hn=>by
  have hb:p b=false:=hn 0 b xa xm
  rw[List.findIdx?_cons,hb]
  simp only[Bool.false_eq_true,if_false]
  rw[zlt (l:=l) (k:=k) (a:=a) (by simpa using h) hp (fun j a hj hja=>hn (j+1) a xa (by simpa using hja))]
  rfl
theorem zsh {α:Type}{p:α→Bool}{l:List α}(hn: ∀j a,j<l.length→l[j]?=some a→p a=false):l.findIdx? p=none:=by
 rw[List.findIdx?_eq_none_iff]
 intro x hx
 obtain⟨i,hi,rfl⟩:=List.mem_iff_getElem.1 hx
 exact hn i _ hi (List.getElem?_eq_getElem hi)
def zd8 {α:Type}(p:α→Bool)(l:List α):Int:=match l.findIdx? p with|some i=>(i:Int)|none=> -1
theorem zd3 {α:Type}{p:α→Bool}{l:List α}{k:Nat}{a:α}(h:l[k]?=some a)(hp:p a=true)(hn: ∀j a,j<k→l[j]?=some a→p a=false):zd8 p l=k:=by
 unfold zd8;rw[zlt h hp hn]
theorem zeg {α:Type}{p:α→Bool}{l:List α}(hn: ∀j a,j<l.length→l[j]?=some a→p a=false):zd8 p l= -1:=by
 unfold zd8;rw[zsh hn]
theorem zeh {α:Type}(p:α→Bool)(l:List α):decide (0≤zd8 p l)=l.any p:=by
 unfold zd8
 cases h:l.findIdx? p with
 | none=>
  rw[List.findIdx?_eq_none_iff] at h
  rw[Bool.eq_iff_iff,decide_eq_true_eq,List.any_eq_true]
  constructor
  ·
   intro h;simp only at h;omega
  ·
   rintro ⟨x,hx,hp⟩;rw[h x hx] at hp;cases hp
 |some i=>
  obtain⟨hlt,hp,_⟩:=List.findIdx?_eq_some_iff_getElem.1 h
  rw[Bool.eq_iff_iff,decide_eq_true_eq,List.any_eq_true]
  exact⟨fun _=>⟨_,List.getElem_mem hlt,hp⟩,fun _=>by simp only;omega⟩
def Rd {α:Type}(size:Nat)(enc:α→List Value)(w:World)(lo hi:Nat)(v:Value)(l:List α):Prop:=RdC size w lo hi v l.length (l.flatMap enc)
theorem zf4 {α:Type}{size:Nat}{enc:α→List Value}(he: ∀a,(enc a).length=size): ∀ (l:List α) (k:Nat) (a:α) (j:Nat) (u:Value),l[k]?=some a→(enc a)[j]?=some u→(l.flatMap enc)[k*size+j]?=some u
 |[],k,a,j,u,h,_=>by simp at h
 | b::l,0,a,j,u,h,hu=>by
  simp at h
  subst h
  rw[List.flatMap_cons,Nat.zero_mul,Nat.zero_add,List.getElem?_append_left (by
   rcases Nat.lt_or_ge j (enc b).length with h|h
   ·
    exact h
   ·
    rw[List.getElem?_eq_none h] at hu;cases hu)]
  exact hu
 |b::l,k+1,a,j,u,h,hu=>by
  simp at h
  rw[List.flatMap_cons,List.getElem?_append_right (by rw[he];rw[Nat.add_mul];omega),he]
  have e:(k+1)*size+j-size=k*size+j:=by rw[Nat.add_mul];omega
  rw[e]
  exact zf4 he l k a j u h hu
theorem zde {α:Type}{size:Nat}{enc:α→List Value}(he: ∀a,(enc a).length=size): ∀l:List α,(l.flatMap enc).length=l.length*size
 |[]=>by simp
 |b::l=>by rw[List.flatMap_cons,List.length_append,he,zde he l,List.length_cons,Nat.add_mul];omega
section
variable {α:Type}{size:Nat}{enc:α→List Value}{w W:World}{lo hi:Nat}{v:Value}{l:List α}
theorem Rd.form (h:Rd size enc w lo hi v l): ∃A c,v= .slice A l.length c∧l.length≤c∧l.length≤9223372036854775807:=RdC.form h
theorem Rd.after (h:Rd size enc w lo hi v l)(hb:Below w.heap.size w W):Rd size enc W lo hi v l:=RdC.after h hb
theorem Rd.of_blocks (h:Rd size enc w lo hi v l)(hk: ∀b,lo≤b→b<hi→b<w.heap.size→W.heap[b]?=w.heap[b]?):Rd size enc W lo hi v l:=RdC.of_blocks h hk
theorem Rd.mono {lo' hi':Nat}(h:Rd size enc w lo hi v l)(hl:lo'≤lo)(hh:hi≤hi'):Rd size enc w lo' hi' v l:=RdC.mono h hl hh
theorem Rd.of_own {t:TypeId}(h:w.ownsRow lo t size v l.length (l.flatMap enc)):Rd size enc w lo w.heap.size v l:=RdC.of_own h
theorem Rd.nil (w:World)(lo hi:Nat):Rd size enc w lo hi (.slice none 0 0) []:=RdC.nil w lo hi
theorem Rd.at_ {A:Option Addr}{c:Nat}(h:Rd size enc w lo hi (.slice A l.length c) l)(he: ∀a,(enc a).length=size){k:Nat}{a:α}(hk:l[k]?=some a):
  ∃b off,A=some ⟨b,off,none⟩∧lo≤b∧b<hi∧ ∀j u,(enc a)[j]?=some u→w.cell? ⟨b,off+(k*size+j),none⟩=some u:=by
 have hlt:k<l.length:=by
  rcases Nat.lt_or_ge k l.length with h|h
  ·
   exact h
  ·
   rw[List.getElem?_eq_none h] at hk;cases hk
 obtain⟨b,off,hA,h1,h2,hc⟩:=RdC.cells h xa
 exact⟨b,off,hA,h1,h2,fun j u hu=>hc _ u (zf4 he l k a j u hk hu)⟩
end
abbrev Loc.rd {α:Type}(size:Nat)(enc:α→List Value)(lo hi:Nat)(v:Value)(l:List α):Loc:=
 ⟨fun w=>Rd size enc w lo hi v l,fun k=>lo≤k∧k<hi,fun h hd hp=>Rd.of_blocks hp (fun b h1 h2 h3=>h.block b h3 (hd b ⟨h1,h2⟩))⟩
def gti {α:Type}[Inhabited α](l:List α)(k:Nat):α:=l[k]?.getD default
theorem zbr {α:Type}[Inhabited α]{l:List α}{k:Nat}(h:k<l.length):l[k]?=some (gti l k):=by unfold gti;rw[List.getElem?_eq_getElem h];rfl
abbrev encI (x:Int):List Value:=[.int .i64 x]
abbrev encS (s:ByteArray):List Value:=[.string s]
structure Stp where
 kind:Int
 trans:Int
 act:ByteArray
 deriving Inhabited
abbrev encM (m:Stp):List Value:=[.int .i64 m.kind, .int .i64 m.trans, .string m.act]
abbrev RdI:=Rd 1 encI
abbrev RdS:=Rd 1 encS
abbrev RdM:=Rd 3 encM
theorem RdI.at1 {w:World}{lo hi:Nat}{A:Option Addr}{c:Nat}{l:List Int}(h:RdI w lo hi (.slice A l.length c) l){k:Nat}(hk:k<l.length):
  ∃b off,A=some ⟨b,off,none⟩∧lo≤b∧b<hi∧C1 w b (off+k) (.int .i64 (gti l k)):=by
 obtain⟨b,off,hA,h1,h2,hc⟩:=Rd.at_ h (fun _=>rfl) (zbr hk)
 exact⟨b,off,hA,h1,h2,by have:=hc 0 _ J;rw[Nat.mul_one] at this;exact this⟩
theorem RdS.at1 {w:World}{lo hi:Nat}{A:Option Addr}{c:Nat}{l:List ByteArray}(h:RdS w lo hi (.slice A l.length c) l){k:Nat}(hk:k<l.length):
  ∃b off,A=some ⟨b,off,none⟩∧lo≤b∧b<hi∧C1 w b (off+k) (.string (gti l k)):=by
 obtain⟨b,off,hA,h1,h2,hc⟩:=Rd.at_ h (fun _=>rfl) (zbr hk)
 exact⟨b,off,hA,h1,h2,by have:=hc 0 _ J;rw[Nat.mul_one] at this;exact this⟩
abbrev C3 (w:World)(b o:Nat)(x y z:Value):Prop:=w.cell? ⟨b,o,none⟩=some x∧w.cell? ⟨b,o+1,none⟩=some y∧w.cell? ⟨b,o+2,none⟩=some z
theorem RdM.at3 {w:World}{lo hi:Nat}{A:Option Addr}{c:Nat}{l:List Stp}(h:RdM w lo hi (.slice A l.length c) l){k:Nat}(hk:k<l.length):
  ∃b off,A=some ⟨b,off,none⟩∧lo≤b∧b<hi∧C3 w b (off+k*3) (.int .i64 (gti l k).kind) (.int .i64 (gti l k).trans) (.string (gti l k).act):=by
 obtain⟨b,off,hA,h1,h2,hc⟩:=Rd.at_ h (fun _=>rfl) (zbr hk)
 exact⟨b,off,hA,h1,h2,hc 0 _ J,hc 1 _ J,hc 2 _ J⟩
structure TrV where
 label:ByteArray
 vi:Value
 vo:Value
instance:Inhabited TrV:=⟨⟨default, .slice none 0 0, .slice none 0 0⟩⟩
abbrev encV (m:TrV):List Value:=[.string m.label,m.vi,m.vo]
abbrev RdV:=Rd 3 encV
theorem RdV.at3 {w:World}{lo hi:Nat}{A:Option Addr}{c:Nat}{l:List TrV}(h:RdV w lo hi (.slice A l.length c) l){k:Nat}(hk:k<l.length):
  ∃b off,A=some ⟨b,off,none⟩∧lo≤b∧b<hi∧C3 w b (off+k*3) (.string (gti l k).label) (gti l k).vi (gti l k).vo:=by
 obtain⟨b,off,hA,h1,h2,hc⟩:=Rd.at_ h (fun _=>rfl) (zbr hk)
 exact⟨b,off,hA,h1,h2,hc 0 _ J,hc 1 _ J,hc 2 _ J⟩
end
section
open Go.RowKit
theorem zp7 {α:Type}{p:α→Bool}{l:List α}{k:Nat}{a:α}(h: ∀j a,j<k→l[j]?=some a→p a=false)(ha:l[k]?=some a)(hp:p a=false): ∀j a,j<k+1→l[j]?=some a→p a=false:=by
 intro j b hj hb
 rcases Nat.lt_or_eq_of_le (Nat.le_of_lt_succ hj) with h1|rfl
 ·
  exact h j b h1 hb
 ·
  rw[ha] at hb;injection hb with hb;rw[←hb];exact hp
set_option maxHeartbeats 1000000 in
theorem ztx (f:FuncId)(hent:Ent f)(cap:Array Value)(p:Int→Bool)(l:List Int)(lo hi:Nat)(v:Value)(w:World)(hv:RdI w lo hi v l)
  (hf: ∀a∈l, ∀W,Below w.heap.size w W→Calls Tryz.prog f (#[.int .i64 a]++cap) W fun e W'=>e= .returned (.bool (p a))∧Below W.heap.size W W'):
  Calls Tryz.prog 231 #[v, .func (.func f) #[] cap] w fun e w'=>e= .returned (.int .i64 (zd8 p l))∧Below w.heap.size w w':=by
 obtain⟨A,c,rfl,hc,hm⟩:=hv.form
 unfold Ent at hent
 have HF:=Lib.hid hf
 clear hf
 have HA:=Lib.hid hv
 clear hv
 refine zak fun R hR=>?_
 have HR:=Lib.hid hR
 clear hR
 go_enter Tryz.func231,Tryz.ntmps231
 go_wp2
 go_loopw [8] (fun i wr=> ∃k:Nat,k≤l.length∧i= .int .i64 k∧(∀j a,j<k→l[j]?=some a→p a=false)∧Below w.heap.size w wr) (fun i _=>l.length-(intOf i).toNat)
 case atStart=>exact⟨0,Nat.zero_le _,rfl,fun j a h=>absurd h xa,Below.refl _ _⟩
 case round=>
  obtain⟨k,hk,rfl,hno,hb⟩:=hrel
  have HNO:=Lib.hid hno
  have HB:=Lib.hid hb
  clear hno hb
  by_cases hlt:k<l.length
  ·
   obtain⟨b,off,rfl,_,_,hcell⟩:=RdI.at1 (HA.out.after HB.out) hlt
   have HA2:=Lib.hid (zbr hlt)
   generalize gti l k=a at*
   go_wp2_with fail
   refine(HF.out a (List.mem_of_getElem? HA2.out) _ HB.out).mono ?_
   rintro e w1 ⟨rfl,hb1⟩
   have HB1:=Lib.hid hb1
   clear hb1
   cases hp:p a with
   |true=>
    have HP:=Lib.hid hp
    clear hp
    go_wp2
    exact HR.out _ _ ⟨zfj (zd3 HA2.out HP.out HNO.out).symm,HB.out.trans (HB1.out.mono HB.out.size)⟩
   |false=>
    have HP:=Lib.hid hp
    clear hp
    go_wp2
    go_roundw
    case rel=>exact⟨k+1,by omega,by go_num,zp7 HNO.out HA2.out HP.out,HB.out.trans (HB1.out.mono HB.out.size)⟩
    case measure=>simp[intOf];omega
  ·
   go_wp2
   have hkl:k=l.length:=by omega
   exact HR.out _ _ ⟨zfj (zeg (by rw[←hkl];exact HNO.out)).symm,HB.out⟩
set_option maxHeartbeats 400000 in
theorem zjc (f:FuncId)(hent:Ent f)(cap:Array Value)(p:Int→Bool)(l:List Int)(lo hi:Nat)(v:Value)(w:World)(hv:RdI w lo hi v l)
  (hf: ∀a∈l, ∀W,Below w.heap.size w W→Calls Tryz.prog f (#[.int .i64 a]++cap) W fun e W'=>e= .returned (.bool (p a))∧Below W.heap.size W W'):
  Calls Tryz.prog 189 #[v, .func (.func f) #[] cap] w fun e w'=>e= .returned (.bool (l.any p))∧Below w.heap.size w w':=by
 have HC:=Lib.hid (ztx f hent cap p l lo hi v w hv hf)
 clear hf hent hv
 refine zak fun R hR=>?_
 have HR:=Lib.hid hR
 clear hR
 go_enter Tryz.func189,Tryz.ntmps189
 go_wp2_with fail
 refine HC.out.mono ?_
 rintro e w1 ⟨rfl,hb1⟩
 have HB1:=Lib.hid hb1
 clear hb1
 go_wp2
 exact HR.out _ _ ⟨congrArg (fun b=>Ending.returned (.bool b)) (zeh p l),HB1.out⟩
set_option maxHeartbeats 1000000 in
theorem ztv (f:FuncId)(hent:Ent f)(cap:Array Value)(p:ByteArray→Bool)(l:List ByteArray)(lo hi:Nat)(v:Value)(w:World)(hv:RdS w lo hi v l)
  (hf: ∀a∈l, ∀W,Below w.heap.size w W→Calls Tryz.prog f (#[.string a]++cap) W fun e W'=>e= .returned (.bool (p a))∧Below W.heap.size W W'):
  Calls Tryz.prog 86 #[v, .func (.func f) #[] cap] w fun e w'=>e= .returned (.int .i64 (zd8 p l))∧Below w.heap.size w w':=by
 obtain⟨A,c,rfl,hc,hm⟩:=hv.form
 unfold Ent at hent
 have HF:=Lib.hid hf
 clear hf
 have HA:=Lib.hid hv
 clear hv
 refine zak fun R hR=>?_
 have HR:=Lib.hid hR
 clear hR
 go_enter Tryz.func86,Tryz.ntmps86
 go_wp2
 go_loopw [8] (fun i wr=> ∃k:Nat,k≤l.length∧i= .int .i64 k∧(∀j a,j<k→l[j]?=some a→p a=false)∧Below w.heap.size w wr) (fun i _=>l.length-(intOf i).toNat)
 case atStart=>exact⟨0,Nat.zero_le _,rfl,fun j a h=>absurd h xa,Below.refl _ _⟩
 case round=>
  obtain⟨k,hk,rfl,hno,hb⟩:=hrel
  have HNO:=Lib.hid hno
  have HB:=Lib.hid hb
  clear hno hb
  by_cases hlt:k<l.length
  ·
   obtain⟨b,off,rfl,_,_,hcell⟩:=RdS.at1 (HA.out.after HB.out) hlt
   have HA2:=Lib.hid (zbr hlt)
   generalize gti l k=a at*
   go_wp2_with fail
   refine(HF.out a (List.mem_of_getElem? HA2.out) _ HB.out).mono ?_
   rintro e w1 ⟨rfl,hb1⟩
   have HB1:=Lib.hid hb1
   clear hb1
   cases hp:p a with
   |true=>
    have HP:=Lib.hid hp
    clear hp
    go_wp2
    exact HR.out _ _ ⟨zfj (zd3 HA2.out HP.out HNO.out).symm,HB.out.trans (HB1.out.mono HB.out.size)⟩
   |false=>
    have HP:=Lib.hid hp
    clear hp
    go_wp2
    go_roundw
    case rel=>exact⟨k+1,by omega,by go_num,zp7 HNO.out HA2.out HP.out,HB.out.trans (HB1.out.mono HB.out.size)⟩
    case measure=>simp[intOf];omega
  ·
   go_wp2
   have hkl:k=l.length:=by omega
   exact HR.out _ _ ⟨zfj (zeg (by rw[←hkl];exact HNO.out)).symm,HB.out⟩
set_option maxHeartbeats 400000 in
theorem zow (f:FuncId)(hent:Ent f)(cap:Array Value)(p:ByteArray→Bool)(l:List ByteArray)(lo hi:Nat)(v:Value)(w:World)(hv:RdS w lo hi v l)
  (hf: ∀a∈l, ∀W,Below w.heap.size w W→Calls Tryz.prog f (#[.string a]++cap) W fun e W'=>e= .returned (.bool (p a))∧Below W.heap.size W W'):
  Calls Tryz.prog 37 #[v, .func (.func f) #[] cap] w fun e w'=>e= .returned (.bool (l.any p))∧Below w.heap.size w w':=by
 have HC:=Lib.hid (ztv f hent cap p l lo hi v w hv hf)
 clear hf hent hv
 refine zak fun R hR=>?_
 have HR:=Lib.hid hR
 clear hR
 go_enter Tryz.func37,Tryz.ntmps37
 go_wp2_with fail
 refine HC.out.mono ?_
 rintro e w1 ⟨rfl,hb1⟩
 have HB1:=Lib.hid hb1
 clear hb1
 go_wp2
 exact HR.out _ _ ⟨congrArg (fun b=>Ending.returned (.bool b)) (zeh p l),HB1.out⟩
set_option maxHeartbeats 1000000 in
theorem ztw (f:FuncId)(hent:Ent f)(cap:Array Value)(p:Stp→Bool)(l:List Stp)(lo hi:Nat)(v:Value)(w:World)(hv:RdM w lo hi v l)
  (hf: ∀a∈l, ∀W,Below w.heap.size w W→Calls Tryz.prog f (#[.agg #[.int .i64 a.kind, .int .i64 a.trans, .string a.act]]++cap) W fun e W'=>e= .returned (.bool (p a))∧Below W.heap.size W W'):
  Calls Tryz.prog 228 #[v, .func (.func f) #[] cap] w fun e w'=>e= .returned (.int .i64 (zd8 p l))∧Below w.heap.size w w':=by
 obtain⟨A,c,rfl,hc,hm⟩:=hv.form
 unfold Ent at hent
 have HF:=Lib.hid hf
 clear hf
 have HA:=Lib.hid hv
 clear hv
 refine zak fun R hR=>?_
 have HR:=Lib.hid hR
 clear hR
 go_enter Tryz.func228,Tryz.ntmps228
 go_wp2
 go_loopw [8] (fun i wr=> ∃k:Nat,k≤l.length∧i= .int .i64 k∧(∀j a,j<k→l[j]?=some a→p a=false)∧Below w.heap.size w wr) (fun i _=>l.length-(intOf i).toNat)
 case atStart=>exact⟨0,Nat.zero_le _,rfl,fun j a h=>absurd h xa,Below.refl _ _⟩
 case round=>
  obtain⟨k,hk,rfl,hno,hb⟩:=hrel
  have HNO:=Lib.hid hno
  have HB:=Lib.hid hb
  clear hno hb
  by_cases hlt:k<l.length
  ·
   obtain⟨b,off,rfl,_,_,hcell⟩:=RdM.at3 (HA.out.after HB.out) hlt
   have HA2:=Lib.hid (zbr hlt)
   generalize gti l k=a at*
   go_wp2_with fail
   refine(HF.out a (List.mem_of_getElem? HA2.out) _ HB.out).mono ?_
   rintro e w1 ⟨rfl,hb1⟩
   have HB1:=Lib.hid hb1
   clear hb1
   cases hp:p a with
   |true=>
    have HP:=Lib.hid hp
    clear hp
    go_wp2
    exact HR.out _ _ ⟨zfj (zd3 HA2.out HP.out HNO.out).symm,HB.out.trans (HB1.out.mono HB.out.size)⟩
   |false=>
    have HP:=Lib.hid hp
    clear hp
    go_wp2
    go_roundw
    case rel=>exact⟨k+1,by omega,by go_num,zp7 HNO.out HA2.out HP.out,HB.out.trans (HB1.out.mono HB.out.size)⟩
    case measure=>simp[intOf];omega
  ·
   go_wp2
   have hkl:k=l.length:=by omega
   exact HR.out _ _ ⟨zfj (zeg (by rw[←hkl];exact HNO.out)).symm,HB.out⟩
set_option maxHeartbeats 400000 in
theorem zox (f:FuncId)(hent:Ent f)(cap:Array Value)(p:Stp→Bool)(l:List Stp)(lo hi:Nat)(v:Value)(w:World)(hv:RdM w lo hi v l)
  (hf: ∀a∈l, ∀W,Below w.heap.size w W→Calls Tryz.prog f (#[.agg #[.int .i64 a.kind, .int .i64 a.trans, .string a.act]]++cap) W fun e W'=>e= .returned (.bool (p a))∧Below W.heap.size W W'):
  Calls Tryz.prog 181 #[v, .func (.func f) #[] cap] w fun e w'=>e= .returned (.bool (l.any p))∧Below w.heap.size w w':=by
 have HC:=Lib.hid (ztw f hent cap p l lo hi v w hv hf)
 clear hf hent hv
 refine zak fun R hR=>?_
 have HR:=Lib.hid hR
 clear hR
 go_enter Tryz.func181,Tryz.ntmps181
 go_wp2_with fail
 refine HC.out.mono ?_
 rintro e w1 ⟨rfl,hb1⟩
 have HB1:=Lib.hid hb1
 clear hb1
 go_wp2
 exact HR.out _ _ ⟨congrArg (fun b=>Ending.returned (.bool b)) (zeh p l),HB1.out⟩
end
section
open Go.RowKit
def letB (c:Int):Bool:=decide (65≤c) && decide (c≤90)||decide (97≤c) && decide (c≤122)
def zhr (c:Int):Bool:=letB c||decide (48≤c) && decide (c≤57)||decide (c=95)||decide (c=45)||decide (c=46)
set_option maxHeartbeats 2000000 in
theorem zpi (c:Int)(w:World):Calls Tryz.prog 136 #[.int .u8 c] w fun e w'=>e= .returned (.bool (letB c))∧Below w.heap.size w w':=by
 refine zak fun R hR=>?_
 have HR:=Lib.hid hR
 clear hR
 go_enter Tryz.func136,Tryz.ntmps136
 by_cases h1:(65:Int)≤c<;>by_cases h2:c≤90<;>by_cases h3:(97:Int)≤c<;>by_cases h4:c≤122<;>first
  |(exfalso;omega)
  |
   (have d1:=Lib.hid h1;have d2:=Lib.hid h2;have d3:=Lib.hid h3;have d4:=Lib.hid h4
    go_wp2
    refine HR.out _ _ ⟨?_,?_⟩
    ·
     simp[letB,h1,h2,h3,h4]
    ·
     (repeat (first|exact Below.refl _ _|assumption|refine Below.setCell ?_ (by first|omega|(simp;done)|(simp;omega)) _|refine Below.alloc ?_ (by first|omega|(simp;done)|(simp;omega)) _|refine Below.drew ?_|refine below_drewN ?_ _)))
set_option maxHeartbeats 2000000 in
theorem znl (c:Int)(w:World):Calls Tryz.prog 127 #[.int .u8 c] w fun e w'=>e= .returned (.bool (letB c))∧Below w.heap.size w w':=by
 refine zak fun R hR=>?_
 have HR:=Lib.hid hR
 clear hR
 go_enter Tryz.func127,Tryz.ntmps127
 by_cases h1:(65:Int)≤c<;>by_cases h2:c≤90<;>by_cases h3:(97:Int)≤c<;>by_cases h4:c≤122<;>first
  |(exfalso;omega)
  |
   (have d1:=Lib.hid h1;have d2:=Lib.hid h2;have d3:=Lib.hid h3;have d4:=Lib.hid h4
    go_wp2
    refine HR.out _ _ ⟨?_,?_⟩
    ·
     simp[letB,h1,h2,h3,h4]
    ·
     (repeat (first|exact Below.refl _ _|assumption|refine Below.setCell ?_ (by first|omega|(simp;done)|(simp;omega)) _|refine Below.alloc ?_ (by first|omega|(simp;done)|(simp;omega)) _|refine Below.drew ?_|refine below_drewN ?_ _)))
set_option maxHeartbeats 2000000 in
theorem z3e (c:Int)(w:World):Calls Tryz.prog 137 #[.int .u8 c] w fun e w'=>e= .returned (.bool (zhr c))∧Below w.heap.size w w':=by
 refine zak fun R hR=>?_
 have HR:=Lib.hid hR
 clear hR
 go_enter Tryz.func137,Tryz.ntmps137
 go_wp2_with fail
 refine(zpi _ _).mono ?_
 rintro e w1 ⟨rfl,hb⟩
 have HB:=Lib.hid hb
 clear hb
 cases hl:letB c
 ·
  have HL:=Lib.hid hl
  by_cases h1:(48:Int)≤c<;>by_cases h2:c≤57<;>by_cases h3:c=95<;>by_cases h4:c=45<;>by_cases h5:c=46<;>first
   |(exfalso;omega)
   |
    (go_wp2
     refine HR.out _ _ ⟨congrArg Ending.returned (congrArg Value.bool ?_),HB.out⟩
     rw[Bool.eq_iff_iff]
     simp[zhr,hl]
     try omega)
 ·
  go_wp2
  refine HR.out _ _ ⟨?_,HB.out⟩
  simp[zhr,hl]
def byt (s:ByteArray)(k:Nat):Int:=if h:k<s.size then(s[k].toNat:Int) else 0
theorem zwg {s:ByteArray}{k:Nat}(h:k<s.size):(s[k].toNat:Int)=byt s k:=by unfold byt;rw[dif_pos h]
def zf9 (s:ByteArray):Bool:=decide (1≤s.size) && decide (s.size≤40) && letB (byt s 0) && (List.range s.size).all fun k=>zhr (byt s k)
theorem zee {s:ByteArray}(h:s.size<1∨40<s.size∨letB (byt s 0)=false∨ ∃k,k<s.size∧zhr (byt s k)=false):zf9 s=false:=by
 unfold zf9
 rcases h with h|h|h|⟨k,h1,h2⟩
 ·
  have:decide (1≤s.size)=false:=decide_eq_false xa
  simp[this]
 ·
  have:decide (s.size≤40)=false:=decide_eq_false xa
  simp[this]
 ·
  simp[h]
 ·
  have:(List.range s.size).all (fun k=>zhr (byt s k))=false:=by
   rw[List.all_eq_false]
   exact⟨k,by simp[h1],by simp[h2]⟩
  simp[this]
theorem zpc {s:ByteArray}(h1: ¬s.size<1)(h2: ¬40<s.size)(h3:letB (byt s 0)=true)(h4: ∀k,k<s.size→zhr (byt s k)=true):zf9 s=true:=by
 unfold zf9
 have e1:decide (1≤s.size)=true:=decide_eq_true xa
 have e2:decide (s.size≤40)=true:=decide_eq_true xa
 have:(List.range s.size).all (fun k=>zhr (byt s k))=true:=by
  rw[List.all_eq_true]
  intro k hk
  exact h4 k (by simpa using hk)
 rw[e1,e2,h3,this]
 rfl
set_option maxHeartbeats 2000000 in
theorem zk7 (s:ByteArray)(w:World):Calls Tryz.prog 78 #[.string s] w fun e w'=>e= .returned (.bool (zf9 s))∧Below w.heap.size w w':=by
 refine zak fun R hR=>?_
 have HR:=Lib.hid hR
 clear hR
 go_enter Tryz.func78,Tryz.ntmps78
 by_cases h1:s.size<1
 ·
  have HF:=Lib.hid (zee (.inl h1))
  go_wp2
  refine HR.out _ _ ⟨by rw[HF.out],Below.refl _ _⟩
 ·
  by_cases h2:40<s.size
  ·
   have HF:=Lib.hid (zee (.inr (.inl h2)))
   go_wp2
   refine HR.out _ _ ⟨by rw[HF.out],Below.refl _ _⟩
  ·
   have d1:decide ((s.size:Int)<1)=false:=decide_eq_false xa
   have d2:decide ((40:Int)<(s.size:Int))=false:=decide_eq_false xa
   have H1:=Lib.hid h1
   have H2:=Lib.hid h2
   have hpos:0<s.size:=by omega
   have hb0:=zwg hpos
   go_wp2_with fail
   refine(zpi _ _).mono ?_
   rintro e w1 ⟨rfl,hb⟩
   cases hl:letB (byt s 0)
   ·
    have HF:=Lib.hid (zee (.inr (.inr (.inl hl))))
    go_wp2
    refine HR.out _ _ ⟨(by first|(rw[HF.out];done)|(rw[HF.out];rfl)),hb⟩
   ·
    have HL:=Lib.hid hl
    have HB:=Lib.hid hb
    clear hb hl
    clear hb0 d1 d2
    go_wp2
    go_loopw [20,3] (fun v20 v3 wr=> ∃ (k:Nat),k≤s.size∧v20= .int .i64 k∧Hid (∀j,j<k→zhr (byt s j)=true)∧Below w.heap.size w wr) (fun v20 _ _=>s.size-(intOf v20).toNat)
    case atStart=>exact⟨0,by omega,rfl,Lib.hid (fun j hj=>by omega),HB.out⟩
    case round=>
     obtain⟨k,hk,rfl,HP,hbr⟩:=hrel
     have HBR:=Lib.hid hbr
     clear hbr
     by_cases hlt:k<s.size
     ·
      have hkd:decide ((k:Int)<(s.size:Int))=true:=by simp;omega
      have hbk:=zwg hlt
      go_wp2_with fail
      refine(z3e _ _).mono ?_
      rintro e w2 ⟨rfl,hb2⟩
      have HB2:=Lib.hid (Ext.trans HBR.out hb2)
      clear hb2
      cases hp:zhr (byt s k)
      ·
       have HF:=Lib.hid (zee (.inr (.inr (.inr ⟨k,hlt,hp⟩))))
       go_wp2
       refine HR.out _ _ ⟨(by first|(rw[HF.out];done)|(rw[HF.out];rfl)),HB2.out⟩
      ·
       have HPk:=Lib.hid hp
       clear hp
       go_wp2
       go_roundw
       case rel=>
        refine⟨k+1,by omega,by go_num,Lib.hid (fun j hj=>?_),HB2.out⟩
        by_cases hjk:j<k
        ·
         exact HP.out j hjk
        ·
         obtain rfl:j=k:=by omega
         exact HPk.out
       case measure=>simp[intOf];omega
     ·
      have hkd:decide ((k:Int)<(s.size:Int))=false:=by simp;omega
      go_wp2
      refine HR.out _ _ ⟨?_,HBR.out⟩
      have HF:=zpc H1.out H2.out HL.out (fun j hj=>HP.out j xa)
      exact(by first|(rw[HF];done)|(rw[HF];rfl))
theorem zls {c:Int}(h:letB c=true):zhr c=true:=by simp[zhr,h]
set_option maxHeartbeats 4000000 in
theorem zf3 (s:ByteArray)(w:World):Calls Tryz.prog 68 #[.string s] w fun e w'=>e= .returned (.bool (zf9 s))∧Below w.heap.size w w':=by
 refine zak fun R hR=>?_
 have HR:=Lib.hid hR
 clear hR
 go_enter Tryz.func68,Tryz.ntmps68
 by_cases h1:s.size<1
 ·
  have HF:=Lib.hid (zee (.inl h1))
  go_wp2
  refine HR.out _ _ ⟨(by first|(rw[HF.out];done)|(rw[HF.out];rfl)),Below.refl _ _⟩
 ·
  by_cases h2:40<s.size
  ·
   have HF:=Lib.hid (zee (.inr (.inl h2)))
   go_wp2
   refine HR.out _ _ ⟨(by first|(rw[HF.out];done)|(rw[HF.out];rfl)),Below.refl _ _⟩
  ·
   have d1:decide ((s.size:Int)<1)=false:=decide_eq_false xa
   have d2:decide ((40:Int)<(s.size:Int))=false:=decide_eq_false xa
   have H1:=Lib.hid h1
   have H2:=Lib.hid h2
   have hpos:0<s.size:=by omega
   have hb0:=zwg hpos
   go_wp2_with fail
   refine(znl _ _).mono ?_
   rintro e w1 ⟨rfl,hb⟩
   cases hl:letB (byt s 0)
   ·
    have HF:=Lib.hid (zee (.inr (.inr (.inl hl))))
    go_wp2
    refine HR.out _ _ ⟨(by first|(rw[HF.out];done)|(rw[HF.out];rfl)),hb⟩
   ·
    have HL:=Lib.hid hl
    have HB:=Lib.hid hb
    clear hb hl
    clear hb0 d1 d2
    go_wp2
    go_loopw [3] (fun v3 wr=> ∃ (k:Nat),1≤k∧k≤s.size∧v3= .int .i64 k∧Hid (∀j,j<k→zhr (byt s j)=true)∧Below w.heap.size w wr) (fun v3 _=>s.size-(intOf v3).toNat)
    case atStart=>exact⟨1,by omega,by omega,rfl,Lib.hid (fun j hj=>by(obtain rfl:j=0:=by omega);exact zls HL.out),HB.out⟩
    case round=>
     obtain⟨k,hk1,hk,rfl,HP,hbr⟩:=hrel
     have HBR:=Lib.hid hbr
     clear hbr
     by_cases hlt:k<s.size
     ·
      have hkd:decide ((k:Int)<(s.size:Int))=true:=by simp;omega
      have hbk:=zwg hlt
      go_wp2_with fail
      refine(znl _ _).mono ?_
      rintro e w2 ⟨rfl,hb2⟩
      have HB2:=Lib.hid (Ext.trans HBR.out hb2)
      clear hb2
      cases hl:letB (byt s k)
      ·
       have HK:=Lib.hid hl
       clear hl
       have HX:zhr (byt s k)=true↔((48≤byt s k∧byt s k≤57)∨byt s k=95∨byt s k=45∨byt s k=46):=by simp[zhr,HK.out,or_assoc]
       have HXX:=Lib.hid HX
       clear HX
       have HG:zhr (byt s k)=true→Hid (∀j,j<k+1→zhr (byt s j)=true):=fun h=>Lib.hid (fun j hj=>by
        by_cases hjk:j<k
        ·
         exact HP.out j hjk
        ·
         (obtain rfl:j=k:=by omega)
         exact h)
       have HF:zhr (byt s k)=false→Hid (zf9 s=false):=fun hp=>Lib.hid (zee (.inr (.inr (.inr ⟨k,hlt,hp⟩))))
       have HGG:=Lib.hid HG
       have HFF:=Lib.hid HF
       clear HG HF HP
       generalize byt s k=c at*
       by_cases g1:(48:Int)≤c<;>by_cases g2:c≤57<;>by_cases g3:c=95<;>by_cases g4:c=45<;>by_cases g5:c=46<;>first
        |(exfalso;omega)
        |
         (have HP:=HGG.out (HXX.out.2 xa)
          (try subst c)
          clear HXX HFF HGG
          go_wp2
          go_roundw
          case rel=>exact⟨k+1,by omega,by omega,by go_num,HP,HB2.out⟩
          case measure=>(simp[intOf];omega))
        |
         (have HP:=HFF.out (by rw[←Bool.not_eq_true];intro h;have:=HXX.out.1 h;omega)
          have b1:(c==95)=false:=beq_false_of_ne g3
          have b2:(c==45)=false:=beq_false_of_ne g4
          have b3:(c==46)=false:=beq_false_of_ne g5
          have b4:(decide (48≤c) && decide (c≤57))=false:=by simp;omega
          first|have b5:=decide_eq_false g1|have b5:=decide_eq_true g1
          first|have b6:=decide_eq_false g2|have b6:=decide_eq_true g2
          clear g1 g2
          go_wp2<;>first
           |exact HR.out _ _ ⟨(by first|(rw[HP.out];done)|(rw[HP.out];rfl)),HB2.out⟩
           |(exfalso;clear HXX HGG HFF HP HK HB2 HBR HL HB H1 H2;simp_all;done))
      ·
       have HPk:=Lib.hid (zls hl)
       clear hl
       go_wp2
       go_roundw
       case rel=>
        refine⟨k+1,by omega,by omega,by go_num,Lib.hid (fun j hj=>?_),HB2.out⟩
        by_cases hjk:j<k
        ·
         exact HP.out j hjk
        ·
         obtain rfl:j=k:=by omega
         exact HPk.out
       case measure=>simp[intOf];omega
     ·
      have hkd:decide ((k:Int)<(s.size:Int))=false:=by simp;omega
      go_wp2
      refine HR.out _ _ ⟨?_,HBR.out⟩
      have HF:=zpc H1.out H2.out HL.out (fun j hj=>HP.out j xa)
      exact(by first|(rw[HF];done)|(rw[HF];rfl))
end
section
open Go.RowKit
def zfl (k:Int):Bool:=decide (1≤k) && decide (k≤4)
def fineB (l:List Stp):Bool:=decide (l.length≤4000) && l.all fun m=>zfl m.kind
def zd0 (l:List ByteArray):Bool:=decide (l.length≤200) && l.all zf9
set_option maxHeartbeats 400000 in
theorem zvu (k:Int)(w:World):Calls Tryz.prog 143 #[.int .i64 k] w fun e w'=>e= .returned (.bool (zfl k))∧Below w.heap.size w w':=by
 refine zak fun R hR=>?_
 have HR:=Lib.hid hR
 clear hR
 go_enter Tryz.func143,Tryz.ntmps143
 by_cases h1:(1:Int)≤k<;>by_cases h2:k≤4<;>
  (first|have b5:=decide_eq_false h1|have b5:=decide_eq_true h1)<;>
  (first|have b6:=decide_eq_false h2|have b6:=decide_eq_true h2)<;>
  (go_wp2
   refine HR.out _ _ ⟨congrArg Ending.returned (congrArg Value.bool ?_),Below.refl _ _⟩
   unfold zfl
   rw[b5,b6]
   try rfl)
theorem z1n:Ent 182:=zdf Tryz.func182 (by kernel_rfl) rfl
theorem zub:Ent 180:=zdf Tryz.func180 (by kernel_rfl) rfl
set_option maxHeartbeats 400000 in
theorem z0x (a:Stp)(w:World):Calls Tryz.prog 182 #[.agg #[.int .i64 a.kind, .int .i64 a.trans, .string a.act]] w fun e w'=>e= .returned (.bool (!zfl a.kind))∧Below w.heap.size w w':=by
 refine zak fun R hR=>?_
 have HR:=Lib.hid hR
 clear hR
 go_enter Tryz.func182,Tryz.ntmps182
 go_wp2_with fail
 refine(zvu _ _).mono ?_
 rintro e w1 ⟨rfl,hb1⟩
 have HB1:=Lib.hid hb1
 clear hb1
 go_wp2
 exact HR.out _ _ ⟨rfl,((Below.refl _ _).alloc (Nat.le_refl _) _).trans (HB1.out.mono xm)⟩
set_option maxHeartbeats 400000 in
theorem ztt (a:ByteArray)(w:World):Calls Tryz.prog 180 #[.string a] w fun e w'=>e= .returned (.bool (!zf9 a))∧Below w.heap.size w w':=by
 refine zak fun R hR=>?_
 have HR:=Lib.hid hR
 clear hR
 go_enter Tryz.func180,Tryz.ntmps180
 go_wp2_with fail
 refine(zk7 _ _).mono ?_
 rintro e w1 ⟨rfl,hb1⟩
 have HB1:=Lib.hid hb1
 clear hb1
 go_wp2
 exact HR.out _ _ ⟨rfl,HB1.out⟩
set_option maxHeartbeats 400000 in
theorem z38 (l:List Stp)(lo hi:Nat)(v:Value)(w:World)(hv:RdM w lo hi v l):
  Calls Tryz.prog 131 #[v] w fun e w'=>e= .returned (.bool (fineB l))∧Below w.heap.size w w':=by
 have HC:=Lib.hid (zox 182 z1n #[] (fun a=>!zfl a.kind) l lo hi v w hv (fun a _ W _=>z0x a W))
 obtain⟨A,c,rfl,hc,hm⟩:=hv.form
 clear hv
 refine zak fun R hR=>?_
 have HR:=Lib.hid hR
 clear hR
 go_enter Tryz.func131,Tryz.ntmps131
 by_cases h1:l.length≤4000
 ·
  have b5:decide ((l.length:Int)≤4000)=true:=decide_eq_true xa
  go_wp2_with fail
  refine HC.out.mono ?_
  rintro e w1 ⟨rfl,hb1⟩
  have HB1:=Lib.hid hb1
  clear hb1
  go_wp2
  refine HR.out _ _ ⟨congrArg (fun b=>Ending.returned (.bool b)) ?_,HB1.out⟩
  simp[fineB,h1,List.all_eq_not_any_not]
 ·
  have b5:decide ((l.length:Int)≤4000)=false:=decide_eq_false xa
  go_wp2
  refine HR.out _ _ ⟨congrArg Ending.returned (congrArg Value.bool ?_),Below.refl _ _⟩
  simp[fineB,h1]
set_option maxHeartbeats 400000 in
theorem zpl (l:List ByteArray)(lo hi:Nat)(v:Value)(w:World)(hv:RdS w lo hi v l):
  Calls Tryz.prog 130 #[v] w fun e w'=>e= .returned (.bool (zd0 l))∧Below w.heap.size w w':=by
 have HC:=Lib.hid (zow 180 zub #[] (fun a=>!zf9 a) l lo hi v w hv (fun a _ W _=>ztt a W))
 obtain⟨A,c,rfl,hc,hm⟩:=hv.form
 clear hv
 refine zak fun R hR=>?_
 have HR:=Lib.hid hR
 clear hR
 go_enter Tryz.func130,Tryz.ntmps130
 by_cases h1:l.length≤200
 ·
  have b5:decide ((l.length:Int)≤200)=true:=decide_eq_true xa
  go_wp2_with fail
  refine HC.out.mono ?_
  rintro e w1 ⟨rfl,hb1⟩
  have HB1:=Lib.hid hb1
  clear hb1
  go_wp2
  refine HR.out _ _ ⟨congrArg (fun b=>Ending.returned (.bool b)) ?_,HB1.out⟩
  simp[zd0,h1,List.all_eq_not_any_not]
 ·
  have b5:decide ((l.length:Int)≤200)=false:=decide_eq_false xa
  go_wp2
  refine HR.out _ _ ⟨congrArg Ending.returned (congrArg Value.bool ?_),Below.refl _ _⟩
  simp[zd0,h1]
end
section
open Go.RowKit
structure Tr where
 label:ByteArray
 inn:List Int
 out:List Int
 deriving Inhabited
structure Net where
 places:Int
 trans:List Tr
 source:Int
 sink:Int
def RdT (w:World)(lo hi:Nat)(v:Value)(ts:List Tr):Prop:=
 ∃vs:List TrV,RdV w lo hi v vs∧vs.length=ts.length∧ ∀k,k<ts.length→(gti vs k).label=(gti ts k).label∧RdI w lo hi (gti vs k).vi (gti ts k).inn∧RdI w lo hi (gti vs k).vo (gti ts k).out
section
variable {w W:World}{lo hi:Nat}{v:Value}{l:List Tr}
theorem RdT.of_blocks (h:RdT w lo hi v l)(hk: ∀b,lo≤b→b<hi→b<w.heap.size→W.heap[b]?=w.heap[b]?):RdT W lo hi v l:=by
 obtain⟨vs,h1,h2,h3⟩:=h
 exact⟨vs,h1.of_blocks hk,h2,fun k hk'=>⟨(h3 k hk').1,(h3 k hk').2.1.of_blocks hk,(h3 k hk').2.2.of_blocks hk⟩⟩
theorem RdT.after (h:RdT w lo hi v l)(hb:Below w.heap.size w W):RdT W lo hi v l:=h.of_blocks fun b _ _ hb'=>hb.block b hb'
theorem RdT.mono {lo' hi':Nat}(h:RdT w lo hi v l)(hl:lo'≤lo)(hh:hi≤hi'):RdT w lo' hi' v l:=by
 obtain⟨vs,h1,h2,h3⟩:=h
 exact⟨vs,h1.mono hl hh,h2,fun k hk'=>⟨(h3 k hk').1,(h3 k hk').2.1.mono hl hh,(h3 k hk').2.2.mono hl hh⟩⟩
theorem RdT.form (h:RdT w lo hi v l): ∃A c,v= .slice A l.length c∧l.length≤c∧l.length≤9223372036854775807:=by
 obtain⟨vs,h1,h2,h3⟩:=h
 rw[←h2]
 exact h1.form
theorem RdT.at3 {A:Option Addr}{c:Nat}(h:RdT w lo hi (.slice A l.length c) l){k:Nat}(hk:k<l.length):
  ∃b off vi vo,A=some ⟨b,off,none⟩∧lo≤b∧b<hi∧C3 w b (off+k*3) (.string (gti l k).label) vi vo∧RdI w lo hi vi (gti l k).inn∧RdI w lo hi vo (gti l k).out:=by
 obtain⟨vs,h1,h2,h3⟩:=h
 rw[←h2] at h1
 obtain⟨b,off,hA,hl,hh,hc⟩:=RdV.at3 (k:=k) h1 xa
 rw[(h3 k hk).1] at hc
 exact⟨b,off,_,_,hA,hl,hh,hc,(h3 k hk).2⟩
end
abbrev Loc.rdT (lo hi:Nat)(v:Value)(l:List Tr):Loc:=
 ⟨fun w=>RdT w lo hi v l,fun k=>lo≤k∧k<hi,fun h hd hp=>RdT.of_blocks hp (fun b h1 h2 h3=>h.block b h3 (hd b ⟨h1,h2⟩))⟩
abbrev K4 (w:World)(g:Nat)(a b c d:Value):Prop:=w.cell? ⟨g,0,none⟩=some a∧w.cell? ⟨g,1,none⟩=some b∧w.cell? ⟨g,2,none⟩=some c∧w.cell? ⟨g,3,none⟩=some d∧g<w.heap.size
theorem K4.of_block {W W':World}{g:Nat}{a b c d:Value}(h:K4 W g a b c d)(he:W'.heap[g]?=W.heap[g]?)(hs:W.heap.size≤W'.heap.size):K4 W' g a b c d:=by
 obtain⟨h1,h2,h3,h4,h7⟩:=h
 exact⟨(World.cell?_of_block (w:=W) he).trans h1,(World.cell?_of_block (w:=W) he).trans h2,(World.cell?_of_block (w:=W) he).trans h3,(World.cell?_of_block (w:=W) he).trans h4,Nat.lt_of_lt_of_le h7 hs⟩
theorem K4.aft {W w1:World}{g:Nat}{a b c d:Value}(hb:Below W.heap.size W w1)(h:K4 W g a b c d):K4 w1 g a b c d:=K4.of_block h (hb.block g h.2.2.2.2) hb.size
theorem K4.new (W:World)(a b c d:Value)(t:TypeId):K4 (W.alloc (.cells #[a,b,c,d] t)) W.heap.size a b c d:=by simp[K4,go_sem]
abbrev Loc.k4 (g:Nat)(a b c d:Value):Loc:=⟨fun w=>K4 w g a b c d,fun k=>k=g,fun h hd hp=>K4.of_block hp (h.block g hp.2.2.2.2 (hd g J)) h.size⟩
abbrev netV (n:Net)(vt:Value):Value:= .agg #[.int .i64 n.places,vt, .int .i64 n.source, .int .i64 n.sink]
end
section
open Go.RowKit
def badP (n:Int)(l:List Int)(k:Nat):Prop:=gti l k<0∨n≤gti l k∨(0<k∧gti l k≤gti l (k-1))
instance (n:Int)(l:List Int)(k:Nat):Decidable (badP n l k):=by unfold badP;infer_instance
def zcn (n:Int)(l:List Int):Bool:=(List.range l.length).all fun k=>!decide (badP n l k)
theorem zez {n:Int}{l:List Int}{k:Nat}(h:k<l.length)(hb:badP n l k):zcn n l=false:=by
 unfold zcn
 rw[List.all_eq_false]
 exact⟨k,by simp[h],by simp[hb]⟩
theorem zhz {n:Int}{l:List Int}(h: ∀k,k<l.length→ ¬badP n l k):zcn n l=true:=by
 unfold zcn
 rw[List.all_eq_true]
 intro k hk
 simp[h k (by simpa using hk)]
set_option maxHeartbeats 2000000 in
theorem zo7 (n:Net)(vt:Value)(l:List Int)(lo hi:Nat)(v:Value)(w:World)(hv:RdI w lo hi v l):
  Calls Tryz.prog 135 #[netV n vt,v] w fun e w'=>e= .returned (.bool (zcn n.places l))∧Below w.heap.size w w':=by
 obtain⟨A,c,rfl,hc,hm⟩:=hv.form
 have HV:=Lib.hid (hv.after ((Below.refl _ w).alloc (Nat.le_refl _) (.cells #[.int .i64 n.places,vt, .int .i64 n.source, .int .i64 n.sink] 24)))
 have hk4:=K4.new w (.int .i64 n.places) vt (.int .i64 n.source) (.int .i64 n.sink) 24
 have HB:=Lib.hid ((Below.refl w.heap.size w).alloc (Nat.le_refl _) (.cells #[.int .i64 n.places,vt, .int .i64 n.source, .int .i64 n.sink] 24))
 clear hv
 refine zak fun R hR=>?_
 have HR:=Lib.hid hR
 clear hR
 go_enter Tryz.func135,Tryz.ntmps135
 go_wp2
 generalize w.alloc (.cells #[.int .i64 n.places,vt, .int .i64 n.source, .int .i64 n.sink] 24)=W at*
 go_loopw [9,5,6] (fun v9 _ _ wr=> ∃k:Nat,k≤l.length∧v9= .int .i64 k∧Hid (∀j,j<k→ ¬badP n.places l j)∧wr=W) (fun v9 _ _ _=>l.length-(intOf v9).toNat)
 case atStart=>exact⟨0,by omega,rfl,Lib.hid (fun j h=>by omega),rfl⟩
 case round=>
  obtain⟨k,hk,rfl,HP,rfl⟩:=hrel
  by_cases hlt:k<l.length
  ·
   have hkd:decide ((k:Int)<(l.length:Int))=true:=by simp;omega
   obtain⟨b,off,rfl,_,_,hcell⟩:=RdI.at1 HV.out hlt
   have HF:badP n.places l k→Hid (zcn n.places l=false):=fun h=>Lib.hid (zez hlt h)
   have HG: ¬badP n.places l k→Hid (∀j,j<k+1→ ¬badP n.places l j):=fun h=>Lib.hid (fun j hj=>by
    by_cases hjk:j<k
    ·
     exact HP.out j hjk
    ·
     (obtain rfl:j=k:=by omega)
     exact h)
   unfold badP at HF HG
   have HFF:=Lib.hid HF
   have HGG:=Lib.hid HG
   clear HF HG HP
   by_cases g1:gti l k<0
   ·
    have HF:=HFF.out (.inl g1)
    have b1:=decide_eq_true g1
    go_wp2
    exact HR.out _ _ ⟨(by first|(rw[HF.out];done)|(rw[HF.out];rfl)),HB.out⟩
   ·
    have b1:=decide_eq_false g1
    by_cases g2:n.places≤gti l k
    ·
     have HF:=HFF.out (.inr (.inl g2))
     have b2:=decide_eq_true g2
     go_wp2
     exact HR.out _ _ ⟨(by first|(rw[HF.out];done)|(rw[HF.out];rfl)),HB.out⟩
    ·
     have b2:=decide_eq_false g2
     rcases Nat.eq_zero_or_pos k with rfl|hpos
     ·
      have HP:=HGG.out xa
      have hcell0:C1 wr b off (.int .i64 (gti l 0)):=hcell
      go_wp2
      go_roundw
      case rel=>exact⟨0+1,by omega,by go_num,HP,by trivial⟩
      case measure=>simp[intOf];omega
     ·
      have b3:decide ((0:Int)<(k:Int))=true:=decide_eq_true xa
      obtain⟨j,rfl⟩: ∃j,k=j+1:=⟨k-1,by omega⟩
      obtain⟨_,_,e,_,_,hcell2⟩:=RdI.at1 HV.out (k:=j) xa
      injection e with e
      injection e with e1 e2
      subst e1 e2
      by_cases g3:gti l (j+1)≤gti l j
      ·
       have HF:=HFF.out (.inr (.inr ⟨hpos,g3⟩))
       have b4:=decide_eq_true g3
       go_wp2
       exact HR.out _ _ ⟨(by first|(rw[HF.out];done)|(rw[HF.out];rfl)),HB.out⟩
      ·
       have b4:=decide_eq_false g3
       have HP:=HGG.out (by simp only[Nat.add_sub_cancel];omega)
       go_wp2
       go_roundw
       case rel=>exact⟨j+1+1,by omega,by go_num,HP,by trivial⟩
       case measure=>simp[intOf];omega
  ·
   have hkd:decide ((k:Int)<(l.length:Int))=false:=by simp;omega
   go_wp2
   have HF:=zhz (fun j hj=>HP.out j xa)
   exact HR.out _ _ ⟨(by first|(rw[HF];done)|(rw[HF];rfl)),HB.out⟩
end
section
open Go.RowKit
set_option maxHeartbeats 2000000 in
theorem ztg (n:Int)(l:List Int)(lo hi:Nat)(v:Value)(w:World)(hv:RdI w lo hi v l):
  Calls Tryz.prog 75 #[.int .i64 n,v] w fun e w'=>e= .returned (.bool (zcn n l))∧Below w.heap.size w w':=by
 obtain⟨A,c,rfl,hc,hm⟩:=hv.form
 have HV:=Lib.hid hv
 clear hv
 refine zak fun R hR=>?_
 have HR:=Lib.hid hR
 clear hR
 go_enter Tryz.func75,Tryz.ntmps75
 go_wp2
 go_loopw [5] (fun v9 wr=> ∃k:Nat,k≤l.length∧v9= .int .i64 k∧Hid (∀j,j<k→ ¬badP n l j)∧ ∃m,wr=w.drewN m) (fun v9 _=>l.length-(intOf v9).toNat)
 case atStart=>exact⟨0,by omega,rfl,Lib.hid (fun j h=>by omega),0,rfl⟩
 case round=>
  obtain⟨k,hk,rfl,HP,m,rfl⟩:=hrel
  by_cases hlt:k<l.length
  ·
   have hkd:decide ((k:Int)<(l.length:Int))=true:=by simp;omega
   have hkb:(k:Int)<(l.length:Int):=by omega
   obtain⟨b,off,rfl,_,_,hcell⟩:=RdI.at1 HV.out hlt
   have HF:badP n l k→Hid (zcn n l=false):=fun h=>Lib.hid (zez hlt h)
   have HG: ¬badP n l k→Hid (∀j,j<k+1→ ¬badP n l j):=fun h=>Lib.hid (fun j hj=>by
    by_cases hjk:j<k
    ·
     exact HP.out j hjk
    ·
     (obtain rfl:j=k:=by omega)
     exact h)
   unfold badP at HF HG
   have HFF:=Lib.hid HF
   have HGG:=Lib.hid HG
   clear HF HG HP
   by_cases g1:gti l k<0
   ·
    have HF:=HFF.out (.inl g1)
    have b1:=decide_eq_true g1
    go_wp2
    go_quiet (fail)
    go_wp2
    exact HR.out _ _ ⟨(by first|(rw[HF.out];done)|(rw[HF.out];rfl)),by first|exact below_drewN (Below.refl _ _) _|exact below_drewN (below_drewN (Below.refl _ _) _) _⟩
   ·
    have b1:=decide_eq_false g1
    by_cases g2:n≤gti l k
    ·
     have HF:=HFF.out (.inr (.inl g2))
     have b2:=decide_eq_true g2
     go_wp2
     go_quiet (fail)
     go_wp2
     exact HR.out _ _ ⟨(by first|(rw[HF.out];done)|(rw[HF.out];rfl)),by first|exact below_drewN (Below.refl _ _) _|exact below_drewN (below_drewN (Below.refl _ _) _) _⟩
    ·
     have b2:=decide_eq_false g2
     rcases Nat.eq_zero_or_pos k with rfl|hpos
     ·
      have HP:=HGG.out xa
      have hcell0:C1 w b off (.int .i64 (gti l 0)):=hcell
      go_wp2
      go_quiet (fail)
      go_wp2
      go_roundw
      case rel=>exact⟨0+1,by omega,by go_num,HP,m+nq,by first|rfl|rw[World.drewN_drewN]⟩
      case measure=>simp[intOf];omega
     ·
      have b3:decide ((0:Int)<(k:Int))=true:=decide_eq_true xa
      obtain⟨j,rfl⟩: ∃j,k=j+1:=⟨k-1,by omega⟩
      obtain⟨_,_,e,_,_,hcell2⟩:=RdI.at1 HV.out (k:=j) xa
      injection e with e
      injection e with e1 e2
      subst e1 e2
      by_cases g3:gti l (j+1)≤gti l j
      ·
       have HF:=HFF.out (.inr (.inr ⟨hpos,g3⟩))
       have b4:=decide_eq_true g3
       go_wp2
       go_quiet (fail)
       go_wp2
       exact HR.out _ _ ⟨(by first|(rw[HF.out];done)|(rw[HF.out];rfl)),by first|exact below_drewN (Below.refl _ _) _|exact below_drewN (below_drewN (Below.refl _ _) _) _⟩
      ·
       have b4:=decide_eq_false g3
       have HP:=HGG.out (by simp only[Nat.add_sub_cancel];omega)
       go_wp2
       go_quiet (fail)
       go_wp2
       go_roundw
       case rel=>exact⟨j+1+1,by omega,by go_num,HP,m+nq,by first|rfl|rw[World.drewN_drewN]⟩
       case measure=>simp[intOf];omega
  ·
   have hkd:decide ((k:Int)<(l.length:Int))=false:=by simp;omega
   go_wp2
   have HF:=zhz (fun j hj=>HP.out j xa)
   exact HR.out _ _ ⟨(by first|(rw[HF];done)|(rw[HF];rfl)),by first|exact below_drewN (Below.refl _ _) _|exact below_drewN (below_drewN (Below.refl _ _) _) _⟩
end
section
open Go.RowKit
section
variable {P:Program}{C:World→Prop}{Q:Exit→Act→World→Prop}{a:Act}{o:Oper}
theorem zdo {id:Nat}{w:World}{l:List Oper}(hm:P.follows .mixedOrders=true)(hB:Region.lexB .any l.toArray=true)(hC:C w.drew)
  (h:wpQuiet P l.toArray C (fun a'=> ∀w',C w'→Q .normal a' w') l a):(Code.region id l.toArray true).wp P Q a w:=
 wp_region_quiet (C:=C) hm hB hC (by simpa using h)
theorem zgb {K:Act→Prop}{v:Value}(hv: ∀w,C w→(execOp a.eval o).run P w= .ok (.value v) w)(hk:K (a.put o.dst v)):o.quiet P a C K:=
 ⟨v,fun w hw=>by unfold Oper.quietAt;rw[hv w hw];exact⟨rfl,rfl⟩,hk⟩
end
end
section
open Go.RowKit
theorem z7h (an ad:Int)(h1: -1073741824≤an)(h2:an≤1073741824)(h3:1≤ad)(h4:ad≤1073741824):((Int.gcd an ad:Int)==1)=(Fr.mk an ad).okB:=by
 rw[Bool.eq_iff_iff,beq_iff_eq,Fr.okB_iff]
 unfold Fr.ok
 simp only
 omega
theorem z7g (an ad:Int)(h: ¬ (-1073741824≤an∧an≤1073741824∧1≤ad∧ad≤1073741824)):false=(Fr.mk an ad).okB:=by
 rw[Fr.okB_not]
 unfold Fr.ok
 simp only
 omega
set_option maxHeartbeats 1000000 in
theorem zke (a:Fr)(w:World):
  Calls Tryz.prog 112 #[.agg #[.int .i64 a.n, .int .i64 a.d]] w fun e w'=>e= .returned (.bool a.okB)∧Below w.heap.size w w':=by
 obtain⟨an,ad⟩:=a
 refine zak fun R hR=>?_
 have HR:=Lib.hid hR
 clear hR
 go_enter Tryz.func112,Tryz.ntmps112
 go_wp2_with (go_at_call 171;refine(z0t _ _ _ xa xa xa xa).mono ?_;rintro e w' ⟨rfl,n,rfl⟩)
 all_goals refine HR.out _ _ ⟨congrArg _ (congrArg _ ?_),?_⟩
 all_goals (first|(exact z7h _ _ (by omega) (by omega) (by omega) (by omega))|(exact z7g _ _ (by omega))|(repeat (first|exact Below.refl _ _|assumption|refine Below.setCell ?_ (by first|omega|(simp;done)|(simp;omega)) _|refine Below.alloc ?_ (by first|omega|(simp;done)|(simp;omega)) _|refine Below.drew ?_|refine below_drewN ?_ _)))
def fRdB (w:World)(B:Nat)(v:Value)(l:List Fr):Prop:=
 ∃A c,v= .slice A l.length c∧l.length≤maxLen∧l.length≤c∧(0<l.length→ ∃b off,A=some ⟨b,off,none⟩∧b<B∧
  ∀i a,l[i]?=some a→w.cell? ⟨b,off+i*2,none⟩=some (.int .i64 a.n)∧w.cell? ⟨b,off+i*2+1,none⟩=some (.int .i64 a.d))
set_option maxHeartbeats 1000000 in
theorem zoq (f:FuncId)(hent:Ent f)(cap:Array Value)(p:Fr→Bool)(l:List Fr)(v:Value)(w:World)(hv:fRdB w w.heap.size v l)
  (hf: ∀a∈l, ∀W,Below w.heap.size w W→Calls Tryz.prog f (#[.agg #[.int .i64 a.n, .int .i64 a.d]]++cap) W fun e W'=>e= .returned (.bool (p a))∧Below W.heap.size W W'):
  Calls Tryz.prog 160 #[v, .func (.func f) #[] cap] w fun e w'=>e= .returned (.int .i64 (zd8 p l))∧Below w.heap.size w w':=by
 obtain⟨A,c,rfl,hm,hc,hA⟩:=hv
 unfold maxLen at hm
 unfold Ent at hent
 have HF:=Lib.hid hf
 clear hf
 have HA:=Lib.hid hA
 clear hA
 refine zak fun R hR=>?_
 have HR:=Lib.hid hR
 clear hR
 go_enter Tryz.func160,Tryz.ntmps160
 go_wp2
 go_loopw [8] (fun i wr=> ∃k:Nat,k≤l.length∧i= .int .i64 k∧(∀j a,j<k→l[j]?=some a→p a=false)∧Below w.heap.size w wr) (fun i _=>l.length-(intOf i).toNat)
 case atStart=>exact⟨0,Nat.zero_le _,rfl,fun j a h=>absurd h xa,Below.refl _ _⟩
 case round=>
  obtain⟨k,hk,rfl,hno,hb⟩:=hrel
  have HNO:=Lib.hid hno
  have HB:=Lib.hid hb
  clear hno hb
  by_cases hlt:k<l.length
  ·
   obtain⟨b,off,rfl,hbB,hcell⟩:=HA.out xa
   obtain⟨a,ha⟩: ∃a,l[k]?=some a:=⟨_,List.getElem?_eq_getElem hlt⟩
   have hc1:wr.cell? ⟨b,off+k*2,none⟩=some (.int .i64 a.n):=(HB.out.cell hbB).trans (hcell k a ha).1
   have hc2:wr.cell? ⟨b,off+k*2+1,none⟩=some (.int .i64 a.d):=(HB.out.cell hbB).trans (hcell k a ha).2
   have HA2:=Lib.hid ha
   clear ha hcell
   go_wp2_with fail
   refine(HF.out a (List.mem_of_getElem? HA2.out) _ HB.out).mono ?_
   rintro e w1 ⟨rfl,hb1⟩
   have HB1:=Lib.hid hb1
   clear hb1
   cases hp:p a with
   |true=>
    have HP:=Lib.hid hp
    clear hp
    go_wp2
    exact HR.out _ _ ⟨zfj (zd3 HA2.out HP.out HNO.out).symm,HB.out.trans (HB1.out.mono HB.out.size)⟩
   |false=>
    have HP:=Lib.hid hp
    clear hp
    go_wp2
    go_roundw
    case rel=>exact⟨k+1,by omega,by go_num,zp7 HNO.out HA2.out HP.out,HB.out.trans (HB1.out.mono HB.out.size)⟩
    case measure=>simp[intOf];omega
  ·
   go_wp2
   have hkl:k=l.length:=by omega
   exact HR.out _ _ ⟨zfj (zeg (by rw[←hkl];exact HNO.out)).symm,HB.out⟩
set_option maxHeartbeats 400000 in
theorem zlh (f:FuncId)(hent:Ent f)(cap:Array Value)(p:Fr→Bool)(l:List Fr)(v:Value)(w:World)(hv:fRdB w w.heap.size v l)
  (hf: ∀a∈l, ∀W,Below w.heap.size w W→Calls Tryz.prog f (#[.agg #[.int .i64 a.n, .int .i64 a.d]]++cap) W fun e W'=>e= .returned (.bool (p a))∧Below W.heap.size W W'):
  Calls Tryz.prog 205 #[v, .func (.func f) #[] cap] w fun e w'=>e= .returned (.bool (l.any p))∧Below w.heap.size w w':=by
 have HC:=Lib.hid (zoq f hent cap p l v w hv hf)
 clear hf hent hv
 refine zak fun R hR=>?_
 have HR:=Lib.hid hR
 clear hR
 go_enter Tryz.func205,Tryz.ntmps205
 go_wp2_with fail
 refine HC.out.mono ?_
 rintro e w1 ⟨rfl,hb1⟩
 have HB1:=Lib.hid hb1
 clear hb1
 go_wp2
 exact HR.out _ _ ⟨congrArg (fun b=>Ending.returned (.bool b)) (zeh p l),HB1.out⟩
theorem zxr:Ent 241:=zdf Tryz.func241 (by kernel_rfl) rfl
set_option maxHeartbeats 400000 in
theorem zws (a:Fr)(w:World):
  Calls Tryz.prog 241 #[.agg #[.int .i64 a.n, .int .i64 a.d]] w fun e w'=>e= .returned (.bool (!a.okB))∧Below w.heap.size w w':=by
 refine zak fun R hR=>?_
 have HR:=Lib.hid hR
 clear hR
 go_enter Tryz.func241,Tryz.ntmps241
 go_wp2_with fail
 refine(zke a _).mono ?_
 rintro e w1 ⟨rfl,hb1⟩
 have HB1:=Lib.hid hb1
 clear hb1
 go_wp2
 exact HR.out _ _ ⟨rfl,((Below.refl _ _).alloc (Nat.le_refl _) _).trans (HB1.out.mono xm)⟩
set_option maxHeartbeats 400000 in
theorem zg0 (l:List Fr)(v:Value)(w:World)(hv:fRdB w w.heap.size v l):
  Calls Tryz.prog 213 #[v] w fun e w'=>e= .returned (.bool (l.all Fr.okB))∧Below w.heap.size w w':=by
 have HC:=Lib.hid (zlh 241 zxr #[] (fun a=>!a.okB) l v w hv (fun a _ W _=>zws a W))
 clear hv
 refine zak fun R hR=>?_
 have HR:=Lib.hid hR
 clear hR
 go_enter Tryz.func213,Tryz.ntmps213
 go_wp2_with fail
 refine HC.out.mono ?_
 rintro e w1 ⟨rfl,hb1⟩
 have HB1:=Lib.hid hb1
 clear hb1
 go_wp2
 refine HR.out _ _ ⟨congrArg (fun b=>Ending.returned (.bool b)) ?_,HB1.out⟩
 simp[List.all_eq_not_any_not]
end
section
open Go.RowKit
theorem zoj {W:World}{n:Nat}{a b:Fr}(h0:W.cell? ⟨n,0,none⟩=some (.int .i64 a.n))(h1:W.cell? ⟨n,1,none⟩=some (.int .i64 a.d))(h2:W.cell? ⟨n,2,none⟩=some (.int .i64 b.n))(h3:W.cell? ⟨n,3,none⟩=some (.int .i64 b.d))(hn:n<W.heap.size):
  fRdB W W.heap.size (.slice (some ⟨n,0,none⟩) 2 2) [a,b]:=by
 refine⟨_,2,rfl,by simp[maxLen],by simp,fun _=>⟨_,_,rfl,hn,?_⟩⟩
 intro i c hc
 match i,hc with
 |0,hc=>simp at hc;subst hc;exact⟨h0,h1⟩
 |1,hc=>simp at hc;subst hc;exact⟨h2,h3⟩
 |i+2,hc=>simp at hc
theorem zk9 (neg:Bool)(num den n:Int)(w:World)(h0:0≤num)(hd:0<den)(h1:num≤9223372036854775808)(h2:den≤9223372036854775808)(hn:(if neg then -num else num)=n):
  Calls Tryz.prog 239 #[.bool neg, .int .u64 num, .int .u64 den] w fun e w'=>e= .returned (.tuple #[.agg #[.int .i64 (FE.of (mkF n den)).n, .int .i64 (FE.of (mkF n den)).d], .int .i64 (FE.of (mkF n den)).e])∧Below w.heap.size w w':=by
 obtain⟨a,rfl⟩:=Int.eq_ofNat_of_zero_le h0
 obtain⟨b,rfl⟩:=Int.eq_ofNat_of_zero_le (Int.le_of_lt hd)
 subst hn
 exact z76 neg a b w xa xa xa
set_option maxHeartbeats 2000000 in
theorem z2g (a b:Fr)(w:World):
  Calls Tryz.prog 215 #[.agg #[.int .i64 (a).n, .int .i64 (a).d], .agg #[.int .i64 (b).n, .int .i64 (b).d]] w fun e w'=>
   e= .returned (.tuple #[.agg #[.int .i64 (addE a b).n, .int .i64 (addE a b).d], .int .i64 (addE a b).e])∧Below w.heap.size w w':=by
 refine zak fun R hR=>?_
 have HR:=Lib.hid hR
 clear hR
 go_enter Tryz.func215,Tryz.ntmps215
 go_wp2_with fail
 refine(zg0 [a,b] _ _ (zoj (by simp[go_sem]) (by simp[go_sem]) (by simp[go_sem]) (by simp[go_sem]) xm)).mono ?_
 rintro e w1 ⟨rfl,hb1⟩
 obtain⟨p1,p2,p3,p4,p5⟩:=B2.after (g:=w.heap.size) (x:= .int .i64 a.n) (y:= .int .i64 a.d) hb1 (by simp[B2,go_sem]) xn
 obtain⟨q1,q2,q3,q4,q5⟩:=B2.after (g:=w.heap.size+1) (x:= .int .i64 b.n) (y:= .int .i64 b.d) hb1 (by simp[B2,go_sem]) xn
 have K2:=B2.after (g:=w.heap.size+1+1) (x:= .int .i64 0) (y:= .int .i64 0) hb1 (by simp[B2,go_sem]) xn
 have HB:Hid (Below w.heap.size w w1):=Lib.hid (by refine Below.step ?_ hb1 (by first|omega|(simp;done)|(simp;omega));(repeat (first|exact Below.refl _ _|assumption|refine Below.setCell ?_ (by first|omega|(simp;done)|(simp;omega)) _|refine Below.alloc ?_ (by first|omega|(simp;done)|(simp;omega)) _|refine Below.drew ?_|refine below_drewN ?_ _)))
 clear hb1
 cases hv:a.okB && b.okB with
 | false=>
  have hv':[a,b].all Fr.okB=false:=by simpa using hv
  have HV:=Lib.hid hv
  clear hv
  obtain⟨k1,k2,k3,k4,k5⟩:=K2
  go_wp2
  refine bodyPost_ret (v:= .tuple #[.agg #[.int .i64 0, .int .i64 0], .int .i64 1]) (by simp[results,Tryz.results215,go_sem,k1,k2]) J (HR.out _ _ ⟨?_,?_⟩)
  ·
   simp[addE,HV.out,FE.err]
  ·
   have:=HB.out;(repeat (first|exact Below.refl _ _|assumption|refine Below.setCell ?_ (by first|omega|(simp;done)|(simp;omega)) _|refine Below.alloc ?_ (by first|omega|(simp;done)|(simp;omega)) _|refine Below.drew ?_|refine below_drewN ?_ _))
 | true=>
  have hv':[a,b].all Fr.okB=true:=by simpa using hv
  have HV:=Lib.hid hv
  have hv2:a.ok∧b.ok:=by simpa[Fr.okB] using hv
  obtain⟨hva,hvb⟩:=hv2
  have ⟨a1,a2,a3,a4,_⟩:=hva
  have ⟨b1,b2,b3,b4,_⟩:=hvb
  have HL:=Lib.hid (z4d a b hva)
  have hg0:0<(Int.gcd a.d b.d:Int):=by have:=Int.gcd_pos_iff.2 (Or.inl (show a.d≠0 by omega):a.d≠0∨b.d≠0);omega
  have hqa:=z59 a.d _ a3 hg0 (Int.gcd_dvd_left ..)
  have hqb:=z59 b.d _ b3 hg0 (Int.gcd_dvd_right ..)
  clear hv hva hvb
  go_wp2_with fail
  refine(z0t _ _ _ xa xa xa xa).mono ?_
  rintro e w2 ⟨rfl,n2,rfl⟩
  generalize (Int.gcd a.d b.d:Int)=g at*
  obtain⟨qa,hqa'⟩: ∃q,a.d / g=q:=⟨_,rfl⟩
  obtain⟨qb,hqb'⟩: ∃q,b.d / g=q:=⟨_,rfl⟩
  obtain⟨x,hx⟩: ∃x,a.n*qb=x:=⟨_,rfl⟩
  obtain⟨y,hy⟩: ∃y,b.n*qa=y:=⟨_,rfl⟩
  obtain⟨z,hz'⟩: ∃z,a.d*qb=z:=⟨_,rfl⟩
  have HL2:Hid (mkF (x+y) z=fadd a b):=Lib.hid (by rw[←hx, ←hy, ←hz', ←hqa', ←hqb'];exact HL.out)
  rw[hqa'] at hqa
  rw[hqb'] at hqb
  have bx:=zj9 a.n qb a1 a2 xa xa
  have bY:=zj9 b.n qa b1 b2 xa xa
  have bz:=zj9 a.d qb xa a4 xa xa
  have bz2:0<a.d*qb:=Int.mul_pos xa xa
  rw[hx] at bx
  rw[hy] at bY
  rw[hz'] at bz bz2
  have gz:(g==0)=false:=by simp;omega
  clear HL
  go_wp2
  go_quiet (fail)
  go_wp2
  go_quiet (fail)
  clear hx hy hz' hqa' hqb' gz hg0
  by_cases hx0:x<0<;>by_cases hy0:y<0
  ·
   have hs:(decide (x<0)==decide (y<0))=true:=by simp[hx0,hy0]
   have wm:IntKind.u64.wrap ((x.natAbs:Int)+(y.natAbs:Int))= -(x+y):=by rw[IntKind.wrap_u64];omega
   all_goals
    go_wp2_with (first|(go_at_call 240;refine(zll _ _ (by omega) (by omega)).mono ?_;rintro e w' ⟨rfl,rfl⟩)|(go_at_call 239;refine(zk9 _ _ _ (x+y) _ (by omega) (by omega) (by omega) (by omega) (by first|(simp;done)|(simp;omega))).mono ?_;rintro e w3 ⟨rfl,hb3⟩;obtain⟨k1,k2,k3,k4,k5⟩:=B2.after hb3 K2 (by have:=K2.2.2.2.2;simp;omega);have HB3:=Lib.hid hb3;clear hb3))
    refine bodyPost_ret (v:= .tuple #[.agg #[.int .i64 (FE.of (mkF (x+y) z)).n, .int .i64 (FE.of (mkF (x+y) z)).d], .int .i64 (FE.of (mkF (x+y) z)).e]) (by simp[results,Tryz.results215,go_sem,k1,k2]) J (HR.out _ _ ⟨?_,?_⟩)
    ·
     rw[HL2.out];simp[addE,HV.out]
    ·
     have:=Below.step (below_drewN HB.out _) HB3.out (by simp;omega);(repeat (first|exact Below.refl _ _|assumption|refine Below.setCell ?_ (by first|omega|(simp;done)|(simp;omega)) _|refine Below.alloc ?_ (by first|omega|(simp;done)|(simp;omega)) _|refine Below.drew ?_|refine below_drewN ?_ _))
  ·
   have hs:(decide (x<0)==decide (y<0))=false:=by simp[hx0,hy0]
   by_cases hxy:x+y<0
   all_goals
    go_wp2_with (first|(go_at_call 240;refine(zll _ _ (by omega) (by omega)).mono ?_;rintro e w' ⟨rfl,rfl⟩)|(go_at_call 239;refine(zk9 _ _ _ (x+y) _ (by omega) (by omega) (by omega) (by omega) (by first|(simp[hxy];done)|(simp[hxy];omega)|(simp;omega))).mono ?_;rintro e w3 ⟨rfl,hb3⟩;obtain⟨k1,k2,k3,k4,k5⟩:=B2.after hb3 K2 (by have:=K2.2.2.2.2;simp;omega);have HB3:=Lib.hid hb3;clear hb3))
    refine bodyPost_ret (v:= .tuple #[.agg #[.int .i64 (FE.of (mkF (x+y) z)).n, .int .i64 (FE.of (mkF (x+y) z)).d], .int .i64 (FE.of (mkF (x+y) z)).e]) (by simp[results,Tryz.results215,go_sem,k1,k2]) J (HR.out _ _ ⟨?_,?_⟩)
    ·
     rw[HL2.out];simp[addE,HV.out]
    ·
     have:=Below.step (below_drewN HB.out _) HB3.out (by simp;omega);(repeat (first|exact Below.refl _ _|assumption|refine Below.setCell ?_ (by first|omega|(simp;done)|(simp;omega)) _|refine Below.alloc ?_ (by first|omega|(simp;done)|(simp;omega)) _|refine Below.drew ?_|refine below_drewN ?_ _))
  ·
   have hs:(decide (x<0)==decide (y<0))=false:=by simp[hx0,hy0]
   by_cases hxy:x+y<0
   all_goals
    go_wp2_with (first|(go_at_call 240;refine(zll _ _ (by omega) (by omega)).mono ?_;rintro e w' ⟨rfl,rfl⟩)|(go_at_call 239;refine(zk9 _ _ _ (x+y) _ (by omega) (by omega) (by omega) (by omega) (by first|(simp[hxy];done)|(simp[hxy];omega)|(simp;omega))).mono ?_;rintro e w3 ⟨rfl,hb3⟩;obtain⟨k1,k2,k3,k4,k5⟩:=B2.after hb3 K2 (by have:=K2.2.2.2.2;simp;omega);have HB3:=Lib.hid hb3;clear hb3))
    refine bodyPost_ret (v:= .tuple #[.agg #[.int .i64 (FE.of (mkF (x+y) z)).n, .int .i64 (FE.of (mkF (x+y) z)).d], .int .i64 (FE.of (mkF (x+y) z)).e]) (by simp[results,Tryz.results215,go_sem,k1,k2]) J (HR.out _ _ ⟨?_,?_⟩)
    ·
     rw[HL2.out];simp[addE,HV.out]
    ·
     have:=Below.step (below_drewN HB.out _) HB3.out (by simp;omega);(repeat (first|exact Below.refl _ _|assumption|refine Below.setCell ?_ (by first|omega|(simp;done)|(simp;omega)) _|refine Below.alloc ?_ (by first|omega|(simp;done)|(simp;omega)) _|refine Below.drew ?_|refine below_drewN ?_ _))
  ·
   have hs:(decide (x<0)==decide (y<0))=true:=by simp[hx0,hy0]
   have wm:IntKind.u64.wrap ((x.natAbs:Int)+(y.natAbs:Int))=x+y:=by rw[IntKind.wrap_u64];omega
   all_goals
    go_wp2_with (first|(go_at_call 240;refine(zll _ _ (by omega) (by omega)).mono ?_;rintro e w' ⟨rfl,rfl⟩)|(go_at_call 239;refine(zk9 _ _ _ (x+y) _ (by omega) (by omega) (by omega) (by omega) (by first|(simp;done)|(simp;omega))).mono ?_;rintro e w3 ⟨rfl,hb3⟩;obtain⟨k1,k2,k3,k4,k5⟩:=B2.after hb3 K2 (by have:=K2.2.2.2.2;simp;omega);have HB3:=Lib.hid hb3;clear hb3))
    refine bodyPost_ret (v:= .tuple #[.agg #[.int .i64 (FE.of (mkF (x+y) z)).n, .int .i64 (FE.of (mkF (x+y) z)).d], .int .i64 (FE.of (mkF (x+y) z)).e]) (by simp[results,Tryz.results215,go_sem,k1,k2]) J (HR.out _ _ ⟨?_,?_⟩)
    ·
     rw[HL2.out];simp[addE,HV.out]
    ·
     have:=Below.step (below_drewN HB.out _) HB3.out (by simp;omega);(repeat (first|exact Below.refl _ _|assumption|refine Below.setCell ?_ (by first|omega|(simp;done)|(simp;omega)) _|refine Below.alloc ?_ (by first|omega|(simp;done)|(simp;omega)) _|refine Below.drew ?_|refine below_drewN ?_ _))
end
section
open Go.RowKit
set_option maxHeartbeats 2000000 in
theorem z6r (a b:Fr)(w:World):
  Calls Tryz.prog 211 #[.agg #[.int .i64 (a).n, .int .i64 (a).d], .agg #[.int .i64 (b).n, .int .i64 (b).d]] w fun e w'=>
   e= .returned (.tuple #[.agg #[.int .i64 (subE a b).n, .int .i64 (subE a b).d], .int .i64 (subE a b).e])∧Below w.heap.size w w':=by
 refine zak fun R hR=>?_
 have HR:=Lib.hid hR
 clear hR
 go_enter Tryz.func211,Tryz.ntmps211
 go_wp2_with fail
 refine(zg0 [a,b] _ _ (zoj (by simp[go_sem]) (by simp[go_sem]) (by simp[go_sem]) (by simp[go_sem]) xm)).mono ?_
 rintro e w1 ⟨rfl,hb1⟩
 obtain⟨p1,p2,p3,p4,p5⟩:=B2.after (g:=w.heap.size) (x:= .int .i64 a.n) (y:= .int .i64 a.d) hb1 (by simp[B2,go_sem]) xn
 obtain⟨q1,q2,q3,q4,q5⟩:=B2.after (g:=w.heap.size+1) (x:= .int .i64 b.n) (y:= .int .i64 b.d) hb1 (by simp[B2,go_sem]) xn
 obtain⟨k1,k2,k3,k4,k5⟩:=B2.after (g:=w.heap.size+1+1) (x:= .int .i64 0) (y:= .int .i64 0) hb1 (by simp[B2,go_sem]) xn
 have HB:Hid (Below w.heap.size w w1):=Lib.hid (by refine Below.step ?_ hb1 (by first|omega|(simp;done)|(simp;omega));(repeat (first|exact Below.refl _ _|assumption|refine Below.setCell ?_ (by first|omega|(simp;done)|(simp;omega)) _|refine Below.alloc ?_ (by first|omega|(simp;done)|(simp;omega)) _|refine Below.drew ?_|refine below_drewN ?_ _)))
 clear hb1
 cases hv:a.okB && b.okB with
 | false=>
  have hv':[a,b].all Fr.okB=false:=by simpa using hv
  have HV:=Lib.hid hv
  clear hv
  go_wp2
  refine bodyPost_ret (v:= .tuple #[.agg #[.int .i64 0, .int .i64 0], .int .i64 1]) (by simp[results,Tryz.results211,go_sem,k1,k2]) J (HR.out _ _ ⟨?_,?_⟩)
  ·
   simp[subE,HV.out,FE.err]
  ·
   have:=HB.out;(repeat (first|exact Below.refl _ _|assumption|refine Below.setCell ?_ (by first|omega|(simp;done)|(simp;omega)) _|refine Below.alloc ?_ (by first|omega|(simp;done)|(simp;omega)) _|refine Below.drew ?_|refine below_drewN ?_ _))
 | true=>
  have hv':[a,b].all Fr.okB=true:=by simpa using hv
  have HV:=Lib.hid hv
  have hv2:a.ok∧b.ok:=by simpa[Fr.okB] using hv
  obtain⟨hva,hvb⟩:=hv2
  have ⟨a1,a2,a3,a4,_⟩:=hva
  have ⟨b1,b2,b3,b4,_⟩:=hvb
  clear hv
  have HS:Hid (addE a (fneg b)=subE a b):=Lib.hid (by simp[addE,subE,fsub,Fr.okB_of hva,Fr.okB_of hvb,Fr.okB_of (z73 hvb)])
  clear hva hvb
  go_wp2_with fail
  refine(z2g a (fneg b) _).mono ?_
  rintro e w3 ⟨rfl,hb3⟩
  obtain⟨g1,g2,g3,g4,g5⟩:=B2.after (g:=w.heap.size+1+1) (x:= .int .i64 0) (y:= .int .i64 0) hb3 (by simp[B2,go_sem,k1,k2,k3,k4,k5]) xn
  have HB3:Hid (Below w.heap.size w w3):=Lib.hid (by refine Below.step ?_ hb3 (by simp;omega);have:=HB.out;(repeat (first|exact Below.refl _ _|assumption|refine Below.setCell ?_ (by first|omega|(simp;done)|(simp;omega)) _|refine Below.alloc ?_ (by first|omega|(simp;done)|(simp;omega)) _|refine Below.drew ?_|refine below_drewN ?_ _)))
  clear hb3
  go_wp2
  refine bodyPost_ret (v:= .tuple #[.agg #[.int .i64 (addE a (fneg b)).n, .int .i64 (addE a (fneg b)).d], .int .i64 (addE a (fneg b)).e]) (by simp[results,Tryz.results211,go_sem,g1,g2]) J (HR.out _ _ ⟨?_,?_⟩)
  ·
   rw[HS.out]
  ·
   have:=HB3.out;(repeat (first|exact Below.refl _ _|assumption|refine Below.setCell ?_ (by first|omega|(simp;done)|(simp;omega)) _|refine Below.alloc ?_ (by first|omega|(simp;done)|(simp;omega)) _|refine Below.drew ?_|refine below_drewN ?_ _))
set_option maxHeartbeats 4000000 in
theorem z7m (a b:Fr)(w:World):
  Calls Tryz.prog 214 #[.agg #[.int .i64 (a).n, .int .i64 (a).d], .agg #[.int .i64 (b).n, .int .i64 (b).d]] w fun e w'=>
   e= .returned (.tuple #[.agg #[.int .i64 (mulE a b).n, .int .i64 (mulE a b).d], .int .i64 (mulE a b).e])∧Below w.heap.size w w':=by
 refine zak fun R hR=>?_
 have HR:=Lib.hid hR
 clear hR
 go_enter Tryz.func214,Tryz.ntmps214
 go_wp2_with fail
 refine(zg0 [a,b] _ _ (zoj (by simp[go_sem]) (by simp[go_sem]) (by simp[go_sem]) (by simp[go_sem]) xm)).mono ?_
 rintro e w1 ⟨rfl,hb1⟩
 obtain⟨p1,p2,p3,p4,p5⟩:=B2.after (g:=w.heap.size) (x:= .int .i64 a.n) (y:= .int .i64 a.d) hb1 (by simp[B2,go_sem]) xn
 obtain⟨q1,q2,q3,q4,q5⟩:=B2.after (g:=w.heap.size+1) (x:= .int .i64 b.n) (y:= .int .i64 b.d) hb1 (by simp[B2,go_sem]) xn
 obtain⟨k1,k2,k3,k4,k5⟩:=B2.after (g:=w.heap.size+1+1) (x:= .int .i64 0) (y:= .int .i64 0) hb1 (by simp[B2,go_sem]) xn
 have HB:Hid (Below w.heap.size w w1):=Lib.hid (by refine Below.step ?_ hb1 (by first|omega|(simp;done)|(simp;omega));(repeat (first|exact Below.refl _ _|assumption|refine Below.setCell ?_ (by first|omega|(simp;done)|(simp;omega)) _|refine Below.alloc ?_ (by first|omega|(simp;done)|(simp;omega)) _|refine Below.drew ?_|refine below_drewN ?_ _)))
 clear hb1
 cases hv:a.okB && b.okB with
 | false=>
  have hv':[a,b].all Fr.okB=false:=by simpa using hv
  have HV:=Lib.hid hv
  clear hv
  go_wp2
  refine bodyPost_ret (v:= .tuple #[.agg #[.int .i64 0, .int .i64 0], .int .i64 1]) (by simp[results,Tryz.results214,go_sem,k1,k2]) J (HR.out _ _ ⟨?_,?_⟩)
  ·
   simp[mulE,HV.out,FE.err]
  ·
   have:=HB.out;(repeat (first|exact Below.refl _ _|assumption|refine Below.setCell ?_ (by first|omega|(simp;done)|(simp;omega)) _|refine Below.alloc ?_ (by first|omega|(simp;done)|(simp;omega)) _|refine Below.drew ?_|refine below_drewN ?_ _))
 | true=>
  have hv':[a,b].all Fr.okB=true:=by simpa using hv
  have HV:=Lib.hid hv
  have hv2:a.ok∧b.ok:=by simpa[Fr.okB] using hv
  obtain⟨hva,hvb⟩:=hv2
  have ⟨a1,a2,a3,a4,_⟩:=hva
  have ⟨b1,b2,b3,b4,_⟩:=hvb
  clear hv
  have bm:=zj9 (a.n.natAbs:Int) (b.n.natAbs:Int) xa xa xa xa
  have bm0:0≤(a.n.natAbs:Int)*(b.n.natAbs:Int):=Int.mul_nonneg xa xa
  have bz:=zj9 a.d b.d xa a4 xa b4
  have bz2:0<a.d*b.d:=Int.mul_pos xa xa
  have HM:Hid ((if (decide (a.n<0) !=decide (b.n<0)) then -((a.n.natAbs:Int)*(b.n.natAbs:Int)) else(a.n.natAbs:Int)*(b.n.natAbs:Int))=a.n*b.n):=Lib.hid (sign_mul a.n b.n)
  obtain⟨m,hm⟩: ∃m,(a.n.natAbs:Int)*(b.n.natAbs:Int)=m:=⟨_,rfl⟩
  obtain⟨z,hz⟩: ∃z,a.d*b.d=z:=⟨_,rfl⟩
  rw[hm] at bm bm0 HM
  rw[hz] at bz bz2
  have wm:IntKind.u64.wrap ((a.n.natAbs:Int)*(b.n.natAbs:Int))=m:=by rw[hm,IntKind.wrap_u64];omega
  have wz:IntKind.u64.wrap (a.d*b.d)=z:=by rw[hz,IntKind.wrap_u64];omega
  have wa:IntKind.u64.wrap a.d=a.d:=by rw[IntKind.wrap_u64];omega
  have wb:IntKind.u64.wrap b.d=b.d:=by rw[IntKind.wrap_u64];omega
  have HZ:=Lib.hid hz
  clear hm hz hva hvb
  go_wp2
  go_region_held3 (fun W=>W.cell? ⟨w.heap.size,0,none⟩=some (.int .i64 a.n)∧W.cell? ⟨w.heap.size,1,none⟩=some (.int .i64 a.d)∧W.cell? ⟨w.heap.size+1,0,none⟩=some (.int .i64 b.n)∧W.cell? ⟨w.heap.size+1,1,none⟩=some (.int .i64 b.d)) (first|exact⟨p1,p2,q1,q2⟩|assumption|exact⟨x1,x2,y1,y2⟩|exact⟨zfi x1 (by omega),zfi x2 (by omega),zfi y1 (by omega),zfi y2 (by omega)⟩)
   (first|(go_at_call 240;refine(zll _ _ (by omega) (by omega)).mono ?_;rintro e w' ⟨rfl,rfl⟩)|(go_at_call 239;refine(zk9 _ _ _ (a.n*b.n) _ (by omega) (by omega) (by omega) (by omega) HM.out).mono ?_;rintro e w3 ⟨rfl,hb3⟩;obtain⟨x1,x2,x3,x4,x5⟩:=B2.after hb3 (g:=w.heap.size) ⟨p1,p2,p3,p4,p5⟩ (by simp;omega);obtain⟨y1,y2,y3,y4,y5⟩:=B2.after hb3 (g:=w.heap.size+1) ⟨q1,q2,q3,q4,q5⟩ (by simp;omega);obtain⟨z1,z2,z3,z4,z5⟩:=B2.after hb3 (g:=w.heap.size+1+1) ⟨k1,k2,k3,k4,k5⟩ (by simp;omega);have HB3:=Lib.hid (Below.step HB.out.drew hb3 (by simp;omega));clear hb3))
  go_wp2
  refine bodyPost_ret (v:= .tuple #[.agg #[.int .i64 (FE.of (mkF (a.n*b.n) z)).n, .int .i64 (FE.of (mkF (a.n*b.n) z)).d], .int .i64 (FE.of (mkF (a.n*b.n) z)).e]) (by simp[results,Tryz.results214,go_sem,z1,z2]) J (HR.out _ _ ⟨?_,?_⟩)
  ·
   simp[mulE,HV.out,fmul,HZ.out]
  ·
   have:=HB3.out;(repeat (first|exact Below.refl _ _|assumption|refine Below.setCell ?_ (by first|omega|(simp;done)|(simp;omega)) _|refine Below.alloc ?_ (by first|omega|(simp;done)|(simp;omega)) _|refine Below.drew ?_|refine below_drewN ?_ _))
set_option maxHeartbeats 4000000 in
theorem z8s (a b:Fr)(w:World):
  Calls Tryz.prog 212 #[.agg #[.int .i64 (a).n, .int .i64 (a).d], .agg #[.int .i64 (b).n, .int .i64 (b).d]] w fun e w'=>
   e= .returned (.tuple #[.agg #[.int .i64 (divE a b).n, .int .i64 (divE a b).d], .int .i64 (divE a b).e])∧Below w.heap.size w w':=by
 refine zak fun R hR=>?_
 have HR:=Lib.hid hR
 clear hR
 go_enter Tryz.func212,Tryz.ntmps212
 go_wp2_with fail
 refine(zg0 [a,b] _ _ (zoj (by simp[go_sem]) (by simp[go_sem]) (by simp[go_sem]) (by simp[go_sem]) xm)).mono ?_
 rintro e w1 ⟨rfl,hb1⟩
 obtain⟨p1,p2,p3,p4,p5⟩:=B2.after (g:=w.heap.size) (x:= .int .i64 a.n) (y:= .int .i64 a.d) hb1 (by simp[B2,go_sem]) xn
 obtain⟨q1,q2,q3,q4,q5⟩:=B2.after (g:=w.heap.size+1) (x:= .int .i64 b.n) (y:= .int .i64 b.d) hb1 (by simp[B2,go_sem]) xn
 obtain⟨k1,k2,k3,k4,k5⟩:=B2.after (g:=w.heap.size+1+1) (x:= .int .i64 0) (y:= .int .i64 0) hb1 (by simp[B2,go_sem]) xn
 have HB:Hid (Below w.heap.size w w1):=Lib.hid (by refine Below.step ?_ hb1 (by first|omega|(simp;done)|(simp;omega));(repeat (first|exact Below.refl _ _|assumption|refine Below.setCell ?_ (by first|omega|(simp;done)|(simp;omega)) _|refine Below.alloc ?_ (by first|omega|(simp;done)|(simp;omega)) _|refine Below.drew ?_|refine below_drewN ?_ _)))
 clear hb1
 cases hv:a.okB && b.okB with
 | false=>
  have hv':[a,b].all Fr.okB=false:=by simpa using hv
  have HV:=Lib.hid hv
  clear hv
  go_wp2
  refine bodyPost_ret (v:= .tuple #[.agg #[.int .i64 0, .int .i64 0], .int .i64 1]) (by simp[results,Tryz.results212,go_sem,k1,k2]) J (HR.out _ _ ⟨?_,?_⟩)
  ·
   simp[divE,HV.out,FE.err]
  ·
   have:=HB.out;(repeat (first|exact Below.refl _ _|assumption|refine Below.setCell ?_ (by first|omega|(simp;done)|(simp;omega)) _|refine Below.alloc ?_ (by first|omega|(simp;done)|(simp;omega)) _|refine Below.drew ?_|refine below_drewN ?_ _))
 | true=>
  have hv':[a,b].all Fr.okB=true:=by simpa using hv
  have HV:=Lib.hid hv
  have hv2:a.ok∧b.ok:=by simpa[Fr.okB] using hv
  obtain⟨hva,hvb⟩:=hv2
  have ⟨a1,a2,a3,a4,_⟩:=hva
  have ⟨b1,b2,b3,b4,_⟩:=hvb
  clear hv
  by_cases hz0:b.n=0
  ·
   have hz1:(b.n==0)=true:=by simpa using hz0
   have HZ0:=Lib.hid hz0
   clear hz0
   go_wp2
   refine bodyPost_ret (v:= .tuple #[.agg #[.int .i64 0, .int .i64 0], .int .i64 7]) (by simp[results,Tryz.results212,go_sem,k1,k2]) J (HR.out _ _ ⟨?_,?_⟩)
   ·
    simp[divE,HV.out,FE.err,HZ0.out]
   ·
    have:=HB.out;(repeat (first|exact Below.refl _ _|assumption|refine Below.setCell ?_ (by first|omega|(simp;done)|(simp;omega)) _|refine Below.alloc ?_ (by first|omega|(simp;done)|(simp;omega)) _|refine Below.drew ?_|refine below_drewN ?_ _))
  have hz1:(b.n==0)=false:=by simpa using hz0
  have bm:=zj9 (a.n.natAbs:Int) b.d xa xa xa xa
  have bm0:0≤(a.n.natAbs:Int)*b.d:=Int.mul_nonneg xa xa
  have bz:=zj9 a.d (b.n.natAbs:Int) xa a4 xa xa
  have bz2:0<a.d*(b.n.natAbs:Int):=Int.mul_pos xa xa
  obtain⟨nn,hnn⟩: ∃nn,(if (decide (a.n<0) !=decide (b.n<0)) then -((a.n.natAbs:Int)*b.d) else(a.n.natAbs:Int)*b.d)=nn:=⟨_,rfl⟩
  have HD:=Lib.hid (z0z a b nn hnn)
  have HM:=Lib.hid hnn
  obtain⟨m,hm⟩: ∃m,(a.n.natAbs:Int)*b.d=m:=⟨_,rfl⟩
  obtain⟨z,hz⟩: ∃z,a.d*(b.n.natAbs:Int)=z:=⟨_,rfl⟩
  rw[hm] at bm bm0 HM
  rw[hz] at bz bz2 HD
  have wm:IntKind.u64.wrap ((a.n.natAbs:Int)*b.d)=m:=by rw[hm,IntKind.wrap_u64];omega
  have wz:IntKind.u64.wrap (a.d*(b.n.natAbs:Int))=z:=by rw[hz,IntKind.wrap_u64];omega
  have wa:IntKind.u64.wrap a.d=a.d:=by rw[IntKind.wrap_u64];omega
  have wb:IntKind.u64.wrap b.d=b.d:=by rw[IntKind.wrap_u64];omega
  have HZ0:=Lib.hid hz0
  clear hm hz hva hvb hnn hz0
  go_wp2
  go_region_held3 (fun W=>W.cell? ⟨w.heap.size,0,none⟩=some (.int .i64 a.n)∧W.cell? ⟨w.heap.size,1,none⟩=some (.int .i64 a.d)∧W.cell? ⟨w.heap.size+1,0,none⟩=some (.int .i64 b.n)∧W.cell? ⟨w.heap.size+1,1,none⟩=some (.int .i64 b.d)) (first|exact⟨p1,p2,q1,q2⟩|assumption|exact⟨x1,x2,y1,y2⟩|exact⟨zfi x1 (by omega),zfi x2 (by omega),zfi y1 (by omega),zfi y2 (by omega)⟩)
   (first|(go_at_call 240;refine(zll _ _ (by omega) (by omega)).mono ?_;rintro e w' ⟨rfl,rfl⟩)|(go_at_call 239;refine(zk9 _ _ _ (nn) _ (by omega) (by omega) (by omega) (by omega) HM.out).mono ?_;rintro e w3 ⟨rfl,hb3⟩;obtain⟨x1,x2,x3,x4,x5⟩:=B2.after hb3 (g:=w.heap.size) ⟨p1,p2,p3,p4,p5⟩ (by simp;omega);obtain⟨y1,y2,y3,y4,y5⟩:=B2.after hb3 (g:=w.heap.size+1) ⟨q1,q2,q3,q4,q5⟩ (by simp;omega);obtain⟨z1,z2,z3,z4,z5⟩:=B2.after hb3 (g:=w.heap.size+1+1) ⟨k1,k2,k3,k4,k5⟩ (by simp;omega);have HB3:=Lib.hid (Below.step HB.out.drew hb3 (by simp;omega));clear hb3))
  go_wp2
  refine bodyPost_ret (v:= .tuple #[.agg #[.int .i64 (FE.of (mkF (nn) z)).n, .int .i64 (FE.of (mkF (nn) z)).d], .int .i64 (FE.of (mkF (nn) z)).e]) (by simp[results,Tryz.results212,go_sem,z1,z2]) J (HR.out _ _ ⟨?_,?_⟩)
  ·
   simp[divE,HV.out,HD.out,HZ0.out]
  ·
   have:=HB3.out;(repeat (first|exact Below.refl _ _|assumption|refine Below.setCell ?_ (by first|omega|(simp;done)|(simp;omega)) _|refine Below.alloc ?_ (by first|omega|(simp;done)|(simp;omega)) _|refine Below.drew ?_|refine below_drewN ?_ _))
set_option maxHeartbeats 4000000 in
theorem z8w (a b:Fr)(w:World):
  Calls Tryz.prog 238 #[.agg #[.int .i64 (a).n, .int .i64 (a).d], .agg #[.int .i64 (b).n, .int .i64 (b).d]] w fun e w'=>
   e= .returned (.tuple #[.int .i64 (if a.okB && b.okB then cmpN a b else 0), .int .i64 (if a.okB && b.okB then 0 else 1)])∧Below w.heap.size w w':=by
 refine zak fun R hR=>?_
 have HR:=Lib.hid hR
 clear hR
 go_enter Tryz.func238,Tryz.ntmps238
 go_wp2_with fail
 refine(zg0 [a,b] _ _ (zoj (by simp[go_sem]) (by simp[go_sem]) (by simp[go_sem]) (by simp[go_sem]) xm)).mono ?_
 rintro e w1 ⟨rfl,hb1⟩
 obtain⟨p1,p2,p3,p4,p5⟩:=B2.after (g:=w.heap.size) (x:= .int .i64 a.n) (y:= .int .i64 a.d) hb1 (by simp[B2,go_sem]) xn
 obtain⟨q1,q2,q3,q4,q5⟩:=B2.after (g:=w.heap.size+1) (x:= .int .i64 b.n) (y:= .int .i64 b.d) hb1 (by simp[B2,go_sem]) xn
 have HB:Hid (Below w.heap.size w w1):=Lib.hid (by refine Below.step ?_ hb1 (by first|omega|(simp;done)|(simp;omega));(repeat (first|exact Below.refl _ _|assumption|refine Below.setCell ?_ (by first|omega|(simp;done)|(simp;omega)) _|refine Below.alloc ?_ (by first|omega|(simp;done)|(simp;omega)) _|refine Below.drew ?_|refine below_drewN ?_ _)))
 clear hb1
 cases hv:a.okB && b.okB with
 |false=>
  have hv':[a,b].all Fr.okB=false:=by simpa using hv
  have HV:=Lib.hid hv
  clear hv
  go_wp2
  refine HR.out _ _ ⟨?_,HB.out⟩
  simp[HV.out]
 | true=>
  have hv':[a,b].all Fr.okB=true:=by simpa using hv
  have HV:=Lib.hid hv
  have hv2:a.ok∧b.ok:=by simpa[Fr.okB] using hv
  obtain⟨hva,hvb⟩:=hv2
  have ⟨a1,a2,a3,a4,_⟩:=hva
  have ⟨b1,b2,b3,b4,_⟩:=hvb
  clear hv
  have bx:=zj9 a.n b.d a1 a2 xa xa
  have bY:=zj9 b.n a.d b1 b2 xa xa
  have HC:Hid (cmpN a b=if a.n*b.d<b.n*a.d then -1 else if a.n*b.d>b.n*a.d then 1 else 0):=Lib.hid J
  obtain⟨x,hx⟩: ∃x,a.n*b.d=x:=⟨_,rfl⟩
  obtain⟨y,hy⟩: ∃y,b.n*a.d=y:=⟨_,rfl⟩
  rw[hx] at bx HC
  rw[hy] at bY HC
  clear hva hvb
  go_wp2
  go_quiet (fail)
  clear hx hy
  rcases Int.lt_trichotomy x y with h|h|h
  ·
   have HCV:Hid (cmpN a b= -1):=Lib.hid (by rw[HC.out,if_pos h])
   go_wp2
   exact HR.out _ _ ⟨by rw[HCV.out,HV.out];rfl,below_drewN HB.out _⟩
  ·
   subst h
   have HCV:Hid (cmpN a b=0):=Lib.hid (by rw[HC.out,if_neg xa,if_neg xa])
   go_wp2
   exact HR.out _ _ ⟨by rw[HCV.out,HV.out];rfl,below_drewN HB.out _⟩
  ·
   have HCV:Hid (cmpN a b=1):=Lib.hid (by rw[HC.out,if_neg xa,if_pos h])
   go_wp2
   exact HR.out _ _ ⟨by rw[HCV.out,HV.out];rfl,below_drewN HB.out _⟩
end
end Go.Proofs.YtjdpnadhgjohnaaGreatDoor
