import Derived.Test.YtjdpnadhgjohnaaGreatDoorJN0
import Derived.WalkKit
import Derived.Laws.AppendOwn
import Derived.Orders
import Derived.Maps.Own
import Derived.Maps.Views
import Derived.Lib.ItoaNum
set_option linter.unusedSimpArgs false
set_option linter.unusedVariables false
set_option linter.unusedSectionVars false
section
namespace Go.Proofs.YtjdpnadhgjohnaaGreatDoor.Aw
open Go.RowKit
inductive AV where
 |any
 |s (v:Value)
 |agg (cs:List AV)
 |sl (l:List AV)
 |emp
 |ref (cs:List AV)
 |own (id sz n:Nat)
 |ptr (id sz k j:Nat)
 |fn (f:FuncId) (cs:List AV)
 |tup (l:List AV)
 |mp (id:Nat)
 |sub (id sz o n:Nat)
 |ifc (t:TypeId) (x:AV)
 |opq
def AV.cells:AV→List AV
 | .agg cs=>cs
 |x=>[x]
def AV.one:AV→Bool
 | .s v=>v.oneCell'
 | .any| .agg _| .tup _=>false
 |_=>true
structure MapX where
 P:Program
 kt:TypeId
 el:TypeId
 n:Nat
 D:DataW Unit
def MapX.At (X:MapX)(w:World)(b:Nat):Prop:=w.ownsMap X.P X.kt (plainElem X.P X.el) b X.n X.D
theorem MapX.At.keep {X:MapX}{w w':World}{b:Nat}(h:X.At w b)(hb:w'.heap[b]?=w.heap[b]?):X.At w' b:=by
 obtain⟨es,clock,h1,F,hs,hD⟩:=h
 exact⟨es,clock,hb.trans h1,F,hs,hD⟩
theorem MapX.At.map {X:MapX}{w:World}{b:Nat}(h:X.At w b): ∃es clock,w.heap[b]?=some (.map es clock):=by
 obtain⟨es,clock,h1,_⟩:=h
 exact⟨es,clock,h1⟩
theorem MapX.At.lt {X:MapX}{w:World}{b:Nat}(h:X.At w b):b<w.heap.size:=by
 obtain⟨es,clock,h1⟩:=h.map
 exact(Array.getElem?_eq_some_iff.1 h1).1
inductive Ob where
 |dead
 |row (sz:Nat) (cs:List AV)
 |fz (sz:Nat) (cs:List AV)
 |mp (X:MapX)
structure Cx where
 base:Nat
 w0:World
 w:World
 mu:Nat→Option (Option Nat)
 St:Nat→Nat→Prop
 Pr:Nat→Nat→Prop:=fun _ _=>False
def Cx.SP (G:Cx)(b o:Nat):Prop:=G.St b o∨G.Pr b o
inductive Rep (G:Cx):Value→AV→Prop
 |any (v:Value):Rep G v .any
 |s (v:Value):Rep G v (.s v)
 |
  agg (vs:Array Value) (cs:List AV) (hl:vs.size=cs.length) (h1: ∀c∈cs,c.one=true)
   (h: ∀ (j:Nat) v c,vs[j]?=some v→cs[j]?=some c→Rep G v c):Rep G (.agg vs) (.agg cs)
 |emp (A:Option Addr) (hA: ∀a,A=some a→a.spot=none):Rep G (.slice A 0 0) .emp
 |slnil (A:Option Addr) (cap:Nat):Rep G (.slice A 0 cap) (.sl [])
 |
  sl (b o cap sz:Nat) (l:List AV) (val:Nat→Nat→Value) (hc:l.length≤cap) (hm:l.length≤maxLen)
   (h1: ∀ (k:Nat) e,l[k]?=some e→e.cells.length=sz∧ ∀c∈e.cells,c.one=true)
   (h2: ∀ (k:Nat) e (j:Nat) c,l[k]?=some e→e.cells[j]?=some c→G.St b (o+k*sz+j)∧G.w.cell? ⟨b,o+k*sz+j,none⟩=some (val k j))
   (h: ∀ (k:Nat) e (j:Nat) c,l[k]?=some e→e.cells[j]?=some c→Rep G (val k j) c):Rep G (.slice (some ⟨b,o,none⟩) l.length cap) (.sl l)
 |
  ref (b o:Nat) (cs:List AV) (val:Nat→Value) (h1: ∀c∈cs,c.one=true)
   (h2: ∀ (j:Nat) c,cs[j]?=some c→G.St b (o+j)∧G.w.cell? ⟨b,o+j,none⟩=some (val j))
   (h: ∀ (j:Nat) c,cs[j]?=some c→Rep G (val j) c):Rep G (.pointer (some ⟨b,o,none⟩)) (.ref cs)
 |own0 (id sz:Nat) (A:Option Addr) (hA: ∀a,A=some a→a.spot=none) (hm:G.mu id=some none):Rep G (.slice A 0 0) (.own id sz 0)
 |
  own (id sz n b cap:Nat) (hm:G.mu id=some (some b)) (hn:n≤cap) (hc:cap≤maxLen)
   (hb: ∃ (cur:Array Value) (e:TypeId) (f:Nat × Nat),G.w.heap[b]?=some (Obj.cells cur e f)∧cur.size=cap*sz):Rep G (.slice (some ⟨b,0,none⟩) n cap) (.own id sz n)
 |ptr (id sz k j b:Nat) (hm:G.mu id=some (some b)):Rep G (.pointer (some ⟨b,k*sz+j,none⟩)) (.ptr id sz k j)
 |fn (f:FuncId) (vs:Array Value) (cs:List AV) (hl:vs.size=cs.length) (h: ∀ (j:Nat) v c,vs[j]?=some v→cs[j]?=some c→Rep G v c):Rep G (.func (.func f) #[] vs) (.fn f cs)
 |tup (vs:Array Value) (l:List AV) (hl:vs.size=l.length) (h: ∀ (j:Nat) v c,vs[j]?=some v→l[j]?=some c→Rep G v c):Rep G (.tuple vs) (.tup l)
 |mp (id b:Nat) (hm:G.mu id=some (some b)):Rep G (.map (some b)) (.mp id)
 |
  sub (id sz o n b cap:Nat) (A:Option Addr) (hm:G.mu id=some (some b)) (hA:0<n→A=some ⟨b,o*sz,none⟩)
   (hc:n≤cap∧cap≤maxLen∧ ∃ (cur:Array Value) (e:TypeId) (f:Nat × Nat),G.w.heap[b]?=some (Obj.cells cur e f)∧(o+cap)*sz≤cur.size):Rep G (.slice A n cap) (.sub id sz o n)
 |ifc (t:TypeId) (v:Value) (x:AV) (h:Rep G v x):Rep G (.iface t v) (.ifc t x)
 |opq (v:Value) (h:v.oneCell'=true):Rep G v .opq
theorem Rep.one {G:Cx}{v:Value}{x:AV}(h:Rep G v x)(hx:x.one=true):v.oneCell'=true:=by
 cases h with
 |s=>exact hx
 |any=>simp[AV.one] at hx
 |agg=>simp[AV.one] at hx
 |tup=>simp[AV.one] at hx
 |opq _ h=>exact h
 |_=>rfl
def zce (w w':World):Prop:= ∀ (b:Nat) (cur:Array Value) (e:TypeId) (f:Nat × Nat),w.heap[b]?=some (Obj.cells cur e f)→ ∃cur':Array Value,w'.heap[b]?=some (Obj.cells cur' e f)∧cur'.size=cur.size
theorem zce.refl (w:World):zce w w:=fun _ cur _ _ h=>⟨cur,h,rfl⟩
theorem zce.trans {a b c:World}(h:zce a b)(k:zce b c):zce a c:=fun i cur e f x=>by
 obtain⟨c1,h1,s1⟩:=h i cur e f x
 obtain⟨c2,h2,s2⟩:=k i c1 e f h1
 exact⟨c2,h2,s2.trans s1⟩
def zym:Obj→Bool
 | .loop _=>true
 | .deferred _=>true
 |_=>false
structure Cx.Ext (G G':Cx):Prop where
 base:G'.base=G.base
 w0:G'.w0=G.w0
 st: ∀b o,G.St b o→G'.St b o
 cell: ∀b o,G.SP b o→G'.w.cell? ⟨b,o,none⟩=G.w.cell? ⟨b,o,none⟩
 mu: ∀id x,G.mu id=some x→G'.mu id=some x
 size:G.w.heap.size≤G'.w.heap.size
 rows:zce G.w G'.w
 stN: ∀b o,G'.St b o→G.St b o∨G.base≤b
 pr:G'.Pr=G.Pr
 prN: ∀b o,G'.St b o→G.St b o∨ ¬G.Pr b o
 oth: ∀ (k:Nat) o,G.w.heap[k]?=some o→zym o=true→G'.w.heap[k]?=some o
theorem Cx.Ext.refl (G:Cx):G.Ext G:=⟨rfl,rfl,fun _ _ h=>h,fun _ _ _=>rfl,fun _ _ h=>h,Nat.le_refl _,zce.refl _,fun _ _ h=> .inl h,rfl,fun _ _ h=> .inl h,fun _ _ h _=>h⟩
theorem Cx.Ext.trans {G H K:Cx}(h:G.Ext H)(k:H.Ext K):G.Ext K:=
 ⟨k.base.trans h.base,k.w0.trans h.w0,fun b o x=>k.st b o (h.st b o x),fun b o x=>(k.cell b o (x.imp (h.st b o) (fun y=>by rw[h.pr];exact y))).trans (h.cell b o x),fun id x e=>k.mu id x (h.mu id x e),Nat.le_trans h.size k.size,
  h.rows.trans k.rows,fun b o x=>by
  rcases k.stN b o x with h1|h1
  ·
   exact h.stN b o h1
  ·
   right;rw[←h.base];exact h1,k.pr.trans h.pr,fun b o x=>by
  rcases k.prN b o x with h1|h1
  ·
   exact h.prN b o h1
  ·
   right;rw[←h.pr];exact h1,fun b o x s=>k.oth b o (h.oth b o x s) s⟩
theorem Rep.ext {G G':Cx}{v:Value}{x:AV}(h:Rep G v x)(e:G.Ext G'):Rep G' v x:=by
 induction h with
 |any v=>exact .any v
 |s v=>exact .s v
 |agg vs cs hl h1 _ ih=>exact .agg vs cs hl h1 ih
 |emp A hA=>exact .emp A hA
 |slnil A cap=>exact .slnil A cap
 |sl b o cap sz l val hc hm h1 h2 _ ih=>exact .sl b o cap sz l val hc hm h1 (fun k x j c hk hj=>⟨e.st _ _ (h2 k x j c hk hj).1,(e.cell _ _ (.inl (h2 k x j c hk hj).1)).trans (h2 k x j c hk hj).2⟩) ih
 |ref b o cs val h1 h2 _ ih=>exact .ref b o cs val h1 (fun j c hj=>⟨e.st _ _ (h2 j c hj).1,(e.cell _ _ (.inl (h2 j c hj).1)).trans (h2 j c hj).2⟩) ih
 |own0 id sz A hA hm=>exact .own0 id sz A hA (e.mu _ _ hm)
 |own id sz n b cap hm hn hc hb=>
  obtain⟨cur,t,f,h1,h2⟩:=hb
  obtain⟨cur',h3,h4⟩:=e.rows _ _ _ _ h1
  exact .own id sz n b cap (e.mu _ _ hm) hn hc ⟨cur',t,f,h3,h4.trans h2⟩
 |ptr id sz k j b hm=>exact .ptr id sz k j b (e.mu _ _ hm)
 |fn f vs cs hl _ ih=>exact .fn f vs cs hl ih
 |tup vs l hl _ ih=>exact .tup vs l hl ih
 |mp id b hm=>exact .mp id b (e.mu _ _ hm)
 |sub id sz o n b cap A hm hA hc=>
  obtain⟨g1,g2,cur,t,f,h1,h2⟩:=hc
  obtain⟨cur',h3,h4⟩:=e.rows _ _ _ _ h1
  exact .sub id sz o n b cap A (e.mu _ _ hm) hA ⟨g1,g2,cur',t,f,h3,by rw[h4];exact h2⟩
 |ifc t v x _ ih=>exact .ifc t v x ih
 |opq v h=>exact .opq v h
inductive Lo (k:Nat):AV→Prop
 |any:Lo k .any
 |s (v:Value):Lo k (.s v)
 |agg (cs:List AV) (h: ∀c∈cs,Lo k c):Lo k (.agg cs)
 |emp:Lo k .emp
 |sl (l:List AV) (h: ∀c∈l,Lo k c):Lo k (.sl l)
 |ref (cs:List AV) (h: ∀c∈cs,Lo k c):Lo k (.ref cs)
 |own (id sz n:Nat) (h:id<k):Lo k (.own id sz n)
 |ptr (id sz i j:Nat) (h:id<k):Lo k (.ptr id sz i j)
 |fn (f:FuncId) (cs:List AV) (h: ∀c∈cs,Lo k c):Lo k (.fn f cs)
 |tup (l:List AV) (h: ∀c∈l,Lo k c):Lo k (.tup l)
 |mp (id:Nat) (h:id<k):Lo k (.mp id)
 |sub (id sz o n:Nat) (h:id<k):Lo k (.sub id sz o n)
 |ifc (t:TypeId) (x:AV) (h:Lo k x):Lo k (.ifc t x)
 |opq:Lo k .opq
theorem Lo.cells {k:Nat}{x:AV}(h:Lo k x): ∀c∈x.cells,Lo k c:=by
 cases h with
 |agg cs h=>exact h
 |any=>intro c hc;simp[AV.cells] at hc;subst hc;exact .any
 |s v=>intro c hc;simp[AV.cells] at hc;subst hc;exact .s v
 |emp=>intro c hc;simp[AV.cells] at hc;subst hc;exact .emp
 |sl l h=>intro c hc;simp[AV.cells] at hc;subst hc;exact .sl l h
 |ref l h=>intro c hc;simp[AV.cells] at hc;subst hc;exact .ref l h
 |own id sz n h=>intro c hc;simp[AV.cells] at hc;subst hc;exact .own id sz n h
 |ptr id sz i j h=>intro c hc;simp[AV.cells] at hc;subst hc;exact .ptr id sz i j h
 |fn f l h=>intro c hc;simp[AV.cells] at hc;subst hc;exact .fn f l h
 |tup l h=>intro c hc;simp[AV.cells] at hc;subst hc;exact .tup l h
 |mp id h=>intro c hc;simp[AV.cells] at hc;subst hc;exact .mp id h
 |sub id sz o n h=>intro c hc;simp[AV.cells] at hc;subst hc;exact .sub id sz o n h
 |ifc t x h=>intro c hc;simp[AV.cells] at hc;subst hc;exact .ifc t x h
 |opq=>intro c hc;simp[AV.cells] at hc;subst hc;exact .opq
theorem Rep.low {G G':Cx}{k:Nat}{v:Value}{x:AV}(h:Rep G v x)(hx:Lo k x)(hst: ∀b o,G.St b o→G'.St b o)(hc: ∀b o,G.St b o→G'.w.cell? ⟨b,o,none⟩=G.w.cell? ⟨b,o,none⟩)
  (hmu: ∀id y,id<k→G.mu id=some y→G'.mu id=some y) (hr:0<k→zce G.w G'.w):Rep G' v x:=by
 induction h with
 |any v=>exact .any v
 |s v=>exact .s v
 |agg vs cs hl h1 _ ih=>cases hx with|agg _ hx=>exact .agg vs cs hl h1 (fun j v c a b=>ih j v c a b (hx c (List.mem_of_getElem? b)))
 |emp A hA=>exact .emp A hA
 |slnil A cap=>exact .slnil A cap
 |sl b o cap sz l val hcp hm h1 h2 _ ih=>cases hx with|sl _ hx=>exact .sl b o cap sz l val hcp hm h1 (fun k x j c hk hj=>⟨hst _ _ (h2 k x j c hk hj).1,(hc _ _ (h2 k x j c hk hj).1).trans (h2 k x j c hk hj).2⟩) (fun k x j c hk hj=>ih k x j c hk hj ((hx x (List.mem_of_getElem? hk)).cells c (List.mem_of_getElem? hj)))
 |ref b o cs val h1 h2 _ ih=>cases hx with|ref _ hx=>exact .ref b o cs val h1 (fun j c hj=>⟨hst _ _ (h2 j c hj).1,(hc _ _ (h2 j c hj).1).trans (h2 j c hj).2⟩) (fun j c hj=>ih j c hj (hx c (List.mem_of_getElem? hj)))
 |own0 id sz A hA hm=>cases hx with|own _ _ _ hx=>exact .own0 id sz A hA (hmu _ _ hx hm)
 | own id sz n b cap hm hn hcp hb=>
  cases hx with
  |own _ _ _ hx=>
   obtain⟨cur,t,f,h1,h2⟩:=hb
   obtain⟨cur',h3,h4⟩:=hr xa _ _ _ _ h1
   exact .own id sz n b cap (hmu _ _ hx hm) hn hcp ⟨cur',t,f,h3,h4.trans h2⟩
 |ptr id sz i j b hm=>cases hx with|ptr _ _ _ _ hx=>exact .ptr id sz i j b (hmu _ _ hx hm)
 |fn f vs cs hl _ ih=>cases hx with|fn _ _ hx=>exact .fn f vs cs hl (fun j v c a b=>ih j v c a b (hx c (List.mem_of_getElem? b)))
 |tup vs l hl _ ih=>cases hx with|tup _ hx=>exact .tup vs l hl (fun j v c a b=>ih j v c a b (hx c (List.mem_of_getElem? b)))
 |mp id b hm=>cases hx with|mp _ hx=>exact .mp id b (hmu _ _ hx hm)
 | sub id sz o n b cap A hm hA hc=>
  cases hx with
  |sub _ _ _ _ hx=>
   obtain⟨g1,g2,cur,t,f,h1,h2⟩:=hc
   obtain⟨cur',h3,h4⟩:=hr xa _ _ _ _ h1
   exact .sub id sz o n b cap A (hmu _ _ hx hm) hA ⟨g1,g2,cur',t,f,h3,by rw[h4];exact h2⟩
 |ifc t v x _ ih=>cases hx with|ifc _ _ hx=>exact .ifc t v x (ih hx)
 |opq v h=>exact .opq v h
def zev (G:Cx)(b sz:Nat)(cs:List AV)(f:Nat × Nat→Prop):Prop:=
 ∃ (cur:Array Value) (e:TypeId) (fr:Nat × Nat),G.w.heap[b]?=some (Obj.cells cur e fr)∧f fr∧cs.length*sz≤cur.size∧
  ∀ (k:Nat) e,cs[k]?=some e→e.cells.length=sz∧(∀c∈e.cells,c.one=true)∧ ∀ (j:Nat) c,e.cells[j]?=some c→ ∃v,cur[k*sz+j]?=some v∧Rep G v c
def ObOk (G:Cx)(id:Nat):Ob→Prop
 | .dead=> ∀b,G.mu id=some (some b)→b<G.w.heap.size
 | .row sz cs=>match G.mu id with
  |none=>False
  |some none=>cs=[]
  |some (some b)=>zev G b sz cs (· =(0,0))∧G.base≤b∧ ∀o, ¬G.SP b o
 | .fz sz cs=>match G.mu id with
  |none=>False
  |some none=>cs=[]
  |some (some b)=>zev G b sz cs (fun _=>True)∧ ∀ (k:Nat) e (j:Nat),cs[k]?=some e→j<e.cells.length→G.St b (k*sz+j)
 | .mp X=> ∃b,G.mu id=some (some b)∧X.At G.w b∧G.base≤b∧(∀o, ¬G.SP b o)∧ ∀j,G.mu j=some (some b)→j=id
theorem ObOk.lt {G:Cx}{id b:Nat}{ob:Ob}(h:ObOk G id ob)(hm:G.mu id=some (some b)):b<G.w.heap.size:=by
 cases ob with
 |dead=>exact h b hm
 |row sz cs=>
  simp only[ObOk,hm] at h
  obtain⟨⟨cur,e,fr,h1,_⟩,_⟩:=h
  exact(Array.getElem?_eq_some_iff.1 h1).1
 |fz sz cs=>
  simp only[ObOk,hm] at h
  obtain⟨⟨cur,e,fr,h1,_⟩,_⟩:=h
  exact(Array.getElem?_eq_some_iff.1 h1).1
 |mp X=>
  obtain⟨b',h1,h2,_⟩:=h
  rw[hm] at h1
  cases h1
  exact h2.lt
def zed (σ:List Ob)(i:Nat):Prop:= ∃sz cs,σ[i]?=some (.row sz cs)
structure TabP (w:World):Prop where
 tab: ∃t f,w.heap[0]?=some (.cells (Lib.pow10Tab.map fun z=>Value.int .u64 z).toArray t f)
def TabB (b:Nat):Prop:=0<b
theorem TabP.keep {b:Nat}{w w':World}(h:TabP w)(hb:TabB b)(k:Below b w w'):TabP w':=by
 obtain⟨t,f,ht⟩:=h.tab
 exact⟨t,f,(k.block 0 hb).trans ht⟩
theorem TabP.lt {w:World}(h:TabP w):TabB w.heap.size:=by
 obtain⟨t,f,ht⟩:=h.tab
 exact(Array.getElem?_eq_some_iff.1 ht).1
structure BelowT (b:Nat)(w0 w:World):Prop extends Below b w0 w where
 tab:TabP w0
 tb:TabB b
theorem BelowT.trans {b:Nat}{w0 w w':World}(h:BelowT b w0 w)(k:Below b w w'):BelowT b w0 w':=⟨h.toBelow.trans k,h.tab,h.tb⟩
theorem BelowT.drew {b:Nat}{w0 w:World}(h:BelowT b w0 w):BelowT b w0 w.drew:=⟨h.toBelow.drew,h.tab,h.tb⟩
theorem BelowT.alloc {b:Nat}{w0 w:World}(h:BelowT b w0 w)(hb:b≤w.heap.size)(x:Obj):BelowT b w0 (w.alloc x):=⟨h.toBelow.alloc hb x,h.tab,h.tb⟩
theorem BelowT.now {b:Nat}{w0 w:World}(h:BelowT b w0 w):TabP w:=h.tab.keep h.tb h.toBelow
instance {b:Nat}{w0 w:World}:Coe (BelowT b w0 w) (Below b w0 w):=⟨BelowT.toBelow⟩
structure StT (St:Nat→Nat→Prop)(w:World):Prop where
 st: ∀b o,St b o→b<w.heap.size
 tab:TabP w
instance {St:Nat→Nat→Prop}{w:World}:CoeFun (StT St w) (fun _=> ∀b o,St b o→b<w.heap.size):=⟨StT.st⟩
instance {St:Nat→Nat→Prop}{w:World}:Coe (StT St w) (∀b o,St b o→b<w.heap.size):=⟨StT.st⟩
structure Rel (G:Cx)(σ:List Ob):Prop where
 below:BelowT G.base G.w0 G.w
 le:G.base≤G.w0.heap.size
 st: ∀b o,G.SP b o→b<G.w.heap.size
 obs: ∀id ob,σ[id]?=some ob→ObOk G id ob
 inj: ∀i j b,zed σ i→zed σ j→G.mu i=some (some b)→G.mu j=some (some b)→i=j
 fresh: ∀id,σ.length≤id→G.mu id=none
abbrev Frm:=List (Nat × AV)
def Frm.get:Frm→Nat→AV
 |[],_=> .any
 |(d,x)::F,t=>bif Nat.beq d t then x else Frm.get F t
def ofValue:Value→AV
 | .agg cs=>bif cs.toList.all (·.oneCell') then .agg (cs.toList.map .s) else .any
 |v=> .s v
def Frm.eval (F:Frm):Operand→AV
 | .tmp t=>F.get t
 | .const v=>ofValue v
 | .global _=> .any
 | .func f=> .fn f []
def FOk (G:Cx)(a:Act)(F:Frm):Prop:= ∀d,Rep G (a.tmps.getD d undef) (F.get d)
structure Cx.Step (G G':Cx):Prop where
 base:G'.base=G.base
 w0:G'.w0=G.w0
 st: ∀b o,G.St b o→G'.St b o
 cell: ∀b o,G.SP b o→G'.w.cell? ⟨b,o,none⟩=G.w.cell? ⟨b,o,none⟩
 stN: ∀b o,G'.St b o→G.St b o∨G.base≤b
 pr:G'.Pr=G.Pr
 prN: ∀b o,G'.St b o→G.St b o∨ ¬G.Pr b o
 oth: ∀ (k:Nat) o,G.w.heap[k]?=some o→zym o=true→G'.w.heap[k]?=some o
theorem Cx.Step.refl (G:Cx):G.Step G:=⟨rfl,rfl,fun _ _ h=>h,fun _ _ _=>rfl,fun _ _ h=> .inl h,rfl,fun _ _ h=> .inl h,fun _ _ h _=>h⟩
theorem Cx.Step.trans {G H K:Cx}(h:G.Step H)(k:H.Step K):G.Step K:=
 ⟨k.base.trans h.base,k.w0.trans h.w0,fun b o x=>k.st b o (h.st b o x),fun b o x=>(k.cell b o (x.imp (h.st b o) (fun y=>by rw[h.pr];exact y))).trans (h.cell b o x),fun b o x=>by
  rcases k.stN b o x with h1|h1
  ·
   exact h.stN b o h1
  ·
   right;rw[←h.base];exact h1,k.pr.trans h.pr,fun b o x=>by
  rcases k.prN b o x with h1|h1
  ·
   exact h.prN b o h1
  ·
   right;rw[←h.pr];exact h1,fun b o x s=>k.oth b o (h.oth b o x s) s⟩
class Mk where
 Ds:List Nat
instance:Mk:=⟨[]⟩
def DfOk [M:Mk](G:Cx)(ds:List Deferred):Prop:=ds=M.Ds.map (fun D=>{target:= .collected D,args:= #[]})∧M.Ds.Nodup∧ ∀D∈M.Ds,G.base≤D∧G.w.heap[D]?=some (.deferred (some []))
theorem DfOk.step [Mk]{G G':Cx}{ds:List Deferred}(h:DfOk G ds)(e:G.Step G'):DfOk G' ds:=
 ⟨h.1,h.2.1,fun D hD=>⟨by rw[e.base];exact(h.2.2 D hD).1,e.oth D _ (h.2.2 D hD).2 rfl⟩⟩
theorem DfOk.nil {G:Cx}:DfOk G []:=⟨rfl,List.nodup_nil,fun _ h=>by cases h⟩
structure S8 [Mk](N:Nat)(G:Cx)(a:Act)(F:Frm)(σ:List Ob):Prop where
 rel:Rel G σ
 fr:FOk G a F
 df:DfOk G a.defers
 nt:a.tmps.size=N
theorem Cx.Ext.step {G G':Cx}(e:G.Ext G'):G.Step G':=⟨e.base,e.w0,e.st,e.cell,e.stN,e.pr,e.prN,e.oth⟩
theorem zm0 (G:Cx)(v:Value):Rep G v (ofValue v):=by
 cases v with
 | agg cs=>
  simp only[ofValue]
  cases h1:cs.toList.all (·.oneCell') with
  |false=>exact .any _
  | true=>
   refine .agg _ _ xm (fun c hc=>?_) (fun j v c hv hc=>?_)
   ·
    obtain⟨u,hu,rfl⟩:=List.mem_map.1 hc
    exact List.all_eq_true.1 h1 u hu
   ·
    simp only[List.getElem?_map,Array.getElem?_toList,hv,Option.map_some,Option.some.injEq] at hc
    subst hc;exact .s _
 |_=>exact .s _
theorem zc1 {G:Cx}{a:Act}{F:Frm}(h:FOk G a F)(y:Operand):Rep G (a.eval y) (F.eval y):=by
 cases y with
 |tmp t=>exact h t
 |const v=>exact zm0 G v
 |global g=>exact .any _
 |func f=>exact .fn f #[] [] rfl (fun j v c hv hc=>by simp at hc)
theorem FOk.ext {G G':Cx}{a:Act}{F:Frm}(h:FOk G a F)(e:G.Ext G'):FOk G' a F:=fun d=>(h d).ext e
theorem FOk.put {G:Cx}{a:Act}{F:Frm}{d:Nat}{v:Value}{x:AV}(h:FOk G a F)(hd:d<a.tmps.size)(hv:Rep G v x):FOk G (a.put (some d) v) ((d,x)::F):=by
 intro t
 by_cases e:d=t
 ·
  subst e
  simpa[Act.put,Frm.get,Array.getD_eq_getD_getElem?,hd] using hv
 ·
  have hb:Nat.beq d t=false:=by
   cases hh:Nat.beq d t with
   |false=>rfl
   |true=>exact absurd (Nat.eq_of_beq_eq_true hh) e
  simpa[Act.put,Frm.get,Array.getD_eq_getD_getElem?,hb,Array.getElem?_setIfInBounds,e] using h t
end Go.Proofs.YtjdpnadhgjohnaaGreatDoor.Aw
end
