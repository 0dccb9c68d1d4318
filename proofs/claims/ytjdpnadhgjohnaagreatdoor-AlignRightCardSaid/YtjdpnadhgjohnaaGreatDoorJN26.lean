import Derived.Test.YtjdpnadhgjohnaaGreatDoorJN0
import Derived.Test.YtjdpnadhgjohnaaGreatDoorJN25
import Derived.Test.YtjdpnadhgjohnaaGreatDoorJN10
import Derived.Test.YtjdpnadhgjohnaaGreatDoorJN18
set_option linter.unusedSimpArgs false
set_option linter.unusedVariables false
set_option linter.unusedSectionVars false
namespace Go.Proofs.YtjdpnadhgjohnaaGreatDoor
namespace Aw
open Go.RowKit Go.Proofs
variable {P:Program}[IsP P]
theorem zqg {G:Cx}{w':World}{b o:Nat}(h1:G.w.heap.size≤b)(h2:b<w'.heap.size):(zxa G w').St b o:= .inr ⟨h1,h2⟩
theorem zdw {f:FuncId}{args:List AV}{r:AV}(h:Pure Tryz.prog f args r):Pure P f args r:=by rw[IsP.eq (P:=P)];exact h
theorem lo_I {k:Nat}{l:List Int}:Lo k (eL eI l):=zdj fun _=> .s _
theorem zfz {f:FuncId}{args:List AV}{r:List Int × Int}(he:Ent f)(h: ∀ (G:Cx) (vargs:Array Value),StT G.St G.w→vargs.size=args.length→(∀ (j:Nat) v x,vargs[j]?=some v→args[j]?=some x→Rep G v x)→Calls Tryz.prog f vargs G.w (RetI G.w r)):Pure P f args (.tup [eL eI r.1,eI r.2]):=
 zdw (zgm he (.tup _ (zaj lo_I (zaj (.s _) zba))) fun G vargs hst hsz hrep=>(h G vargs hst hsz hrep).mono (by
  rintro e w' ⟨A,c,rfl,hr,hb⟩
  refine⟨_,rfl,hb, .tup _ _ J (fun j v x hv hx=>?_)⟩
  match j,hv,hx with
  |0,hv,hx=>simp at hv hx;subst hv hx;exact z65 (G:=zxa G w') hr (fun b o h1 h2 _=>zqg h1 h2)
  |1,hv,hx=>simp at hv hx;subst hv hx;exact .s _
  |j+2,hv,hx=>simp at hv))
theorem zf0 {f:FuncId}{args:List AV}{b:Bool}(he:Ent f)(h: ∀ (G:Cx) (vargs:Array Value),StT G.St G.w→vargs.size=args.length→(∀ (j:Nat) v x,vargs[j]?=some v→args[j]?=some x→Rep G v x)→Calls Tryz.prog f vargs G.w fun e w'=>e= .returned (.bool b)∧Below G.w.heap.size G.w w'):Pure P f args (eB b):=
 zdw (zgm he (.s _) fun G vargs hst hsz hrep=>(h G vargs hst hsz hrep).mono (by
  rintro e w' ⟨rfl,hb⟩
  exact⟨_,rfl,hb, .s _⟩))
theorem zyw {f:FuncId}{args:List AV}{n:Int}(he:Ent f)(h: ∀ (G:Cx) (vargs:Array Value),StT G.St G.w→vargs.size=args.length→(∀ (j:Nat) v x,vargs[j]?=some v→args[j]?=some x→Rep G v x)→Calls Tryz.prog f vargs G.w fun e w'=>e= .returned (.int .i64 n)∧Below G.w.heap.size G.w w'):Pure P f args (eI n):=
 zdw (zgm he (.s _) fun G vargs hst hsz hrep=>(h G vargs hst hsz hrep).mono (by
  rintro e w' ⟨rfl,hb⟩
  exact⟨_,rfl,hb, .s _⟩))
theorem args1 {G:Cx}{vargs:Array Value}{n:Net}(hst: ∀b o,G.St b o→b<G.w.heap.size)(hsz:vargs.size=[eN n].length)(hrep: ∀ (j:Nat) v y,vargs[j]?=some v→[eN n][j]?=some y→Rep G v y):
  ∃vt,vargs= #[netV n vt]∧RdT G.w 0 G.w.heap.size vt n.trans:=by
 obtain⟨l⟩:=vargs
 match l,hsz with
 |[a],_=>
  obtain⟨vt,rfl,h1⟩:=zkz (hrep 0 a _ rfl rfl) hst
  exact⟨vt,rfl,h1⟩
theorem argsS {G:Cx}{vargs:Array Value}{l:List ByteArray}(hst: ∀b o,G.St b o→b<G.w.heap.size)(hsz:vargs.size=[eL eS l].length)(hrep: ∀ (j:Nat) v y,vargs[j]?=some v→[eL eS l][j]?=some y→Rep G v y):
  ∃v,vargs= #[v]∧RdS G.w 0 G.w.heap.size v l:=by
 obtain⟨q⟩:=vargs
 match q,hsz with
 |[a],_=>exact⟨a,rfl,zky (hrep 0 a _ rfl rfl) hst⟩
theorem zyp (n:Net):Pure P 30 [eN n] (eB (zb7 n)):=
 zf0 (zdf Tryz.func30 J J) fun G vargs hst hsz hrep=>by
  obtain⟨vt,rfl,h1⟩:=args1 hst hsz hrep
  exact zo5 n vt _ _ G.w h1
end Aw
namespace Aw
open Go.RowKit Go.Proofs
variable {P:Program}[IsP P]
theorem argsII {G:Cx}{vargs:Array Value}{a b:List Int}(hst: ∀b o,G.St b o→b<G.w.heap.size)(hsz:vargs.size=[eL eI a,eL eI b].length)(hrep: ∀ (j:Nat) v y,vargs[j]?=some v→[eL eI a,eL eI b][j]?=some y→Rep G v y):
  ∃x y,vargs= #[x,y]∧RdI G.w 0 G.w.heap.size x a∧RdI G.w 0 G.w.heap.size y b:=by
 obtain⟨q⟩:=vargs
 match q,hsz with
 |[x,y],_=>exact⟨x,y,rfl,zjh (hrep 0 x _ rfl rfl) hst,zjh (hrep 1 y _ rfl rfl) hst⟩
theorem argsI {G:Cx}{vargs:Array Value}{a:List Int}(hst: ∀b o,G.St b o→b<G.w.heap.size)(hsz:vargs.size=[eL eI a].length)(hrep: ∀ (j:Nat) v y,vargs[j]?=some v→[eL eI a][j]?=some y→Rep G v y):
  ∃x,vargs= #[x]∧RdI G.w 0 G.w.heap.size x a:=by
 obtain⟨q⟩:=vargs
 match q,hsz with
 |[x],_=>exact⟨x,rfl,zjh (hrep 0 x _ rfl rfl) hst⟩
theorem eqI_pf (a b:List Int):Pure P 74 [eL eI a,eL eI b] (eB (decide (a=b))):=
 zf0 (zdf Tryz.func74 J J) fun G vargs hst hsz hrep=>by
  obtain⟨x,y,rfl,h1,h2⟩:=argsII hst hsz hrep
  exact zpu a b _ _ _ _ x y G.w h1 h2
theorem z4b (n:Net):Pure P 46 [eN n] (.tup [eL eI (oneE n n.sink).1,eI (oneE n n.sink).2]):=
 zfz (zdf Tryz.func46 J J) fun G vargs hst hsz hrep=>by
  obtain⟨vt,rfl,h1⟩:=args1 hst hsz hrep
  exact zkh n vt _ _ G.w h1
end Aw
end Go.Proofs.YtjdpnadhgjohnaaGreatDoor
