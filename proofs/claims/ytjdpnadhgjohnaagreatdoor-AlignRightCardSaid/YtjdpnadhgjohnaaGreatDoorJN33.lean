import Derived.Test.YtjdpnadhgjohnaaGreatDoorJN0
import Derived.Test.YtjdpnadhgjohnaaGreatDoorJN26
import Derived.Test.YtjdpnadhgjohnaaGreatDoorJN13
import Derived.Test.YtjdpnadhgjohnaaGreatDoorJN11
import Derived.Test.YtjdpnadhgjohnaaGreatDoorJN6
set_option linter.unusedSimpArgs false
set_option linter.unusedVariables false
set_option linter.unusedSectionVars false
section
namespace Go.Proofs.YtjdpnadhgjohnaaGreatDoor.Aw
open Go.RowKit Go.Proofs
variable {P:Program}[IsP P]
def eSt (m:Stp):AV:= .agg [eI m.kind,eI m.trans,eS m.act]
def eC (c:Cst):AV:= .agg [eI c.log,eI c.model,eI c.silent]
theorem z7w {k:Nat}(m:Stp):Lo k (eSt m):= .agg _ (zaj (.s _) (zaj (.s _) (zaj (.s _) zba)))
theorem zgx {k:Nat}(l:List Stp):Lo k (eL eSt l):=zdj fun m=>z7w m
theorem lo_C {k:Nat}(c:Cst):Lo k (eC c):= .agg _ (zaj (.s _) (zaj (.s _) (zaj (.s _) zba)))
theorem rep3 {G:Cx}{v x y z:Value}(h:Rep G v (.agg [.s x, .s y, .s z])):v= .agg #[x,y,z]:=by
 cases h with
 | agg vs _ hl h1 hr=>
  obtain⟨q⟩:=vs
  match q,hl with
  |[a,b,c],_=>
   rw[zc5 (hr 0 a _ J J),zc5 (hr 1 b _ J J),zc5 (hr 2 c _ J J)]
theorem zy5 {G:Cx}{lo hi:Nat}{v:Value}{l:List Stp}(h:RdM G.w lo hi v l)(hs: ∀b o,lo≤b→b<hi→b<G.w.heap.size→G.St b o):Rep G v (eL eSt l):=
 z5p (size:=3) (enc:=encM) (f:=eSt) xm (fun _=>rfl) (fun a c hc=>by simp[eSt,AV.cells] at hc;rcases hc with rfl|rfl|rfl<;>rfl) h hs (fun a _ j u c hu hc=>by
  match j,hu,hc with
  |0,hu,hc=>simp[eSt,AV.cells] at hu hc;subst hu hc;exact .s _
  |1,hu,hc=>simp[eSt,AV.cells] at hu hc;subst hu hc;exact .s _
  |2,hu,hc=>simp[eSt,AV.cells] at hu hc;subst hu hc;exact .s _
  |j+3,hu,hc=>simp at hu)
theorem zte {G:Cx}{v:Value}{l:List Stp}(h:Rep G v (eL eSt l))(hs: ∀b o,G.St b o→b<G.w.heap.size):RdM G.w 0 G.w.heap.size v l:=
 zyx (size:=3) (enc:=encM) (f:=eSt) xe xm (fun _=>rfl) h hs (fun a _ j u c v hu hc hv=>by
  match j,hu,hc with
  |0,hu,hc=>simp[eSt,AV.cells] at hu hc;subst hu hc;exact zc5 hv
  |1,hu,hc=>simp[eSt,AV.cells] at hu hc;subst hu hc;exact zc5 hv
  |2,hu,hc=>simp[eSt,AV.cells] at hu hc;subst hu hc;exact zc5 hv
  |j+3,hu,hc=>simp at hu)
theorem zwk {G:Cx}{vargs:Array Value}{n:Net}{l:List ByteArray}(hst: ∀b o,G.St b o→b<G.w.heap.size)(hsz:vargs.size=[eN n,eL eS l].length)(hrep: ∀ (j:Nat) v y,vargs[j]?=some v→[eN n,eL eS l][j]?=some y→Rep G v y):
  ∃vt v,vargs= #[netV n vt,v]∧RdT G.w 0 G.w.heap.size vt n.trans∧RdS G.w 0 G.w.heap.size v l:=by
 obtain⟨q⟩:=vargs
 match q,hsz with
 |[a,b],_=>
  obtain⟨vt,rfl,h1⟩:=zkz (hrep 0 a _ rfl rfl) hst
  exact⟨vt,b,rfl,h1,zky (hrep 1 b _ J J) hst⟩
theorem z2c {G:Cx}{vargs:Array Value}{n:Net}{l:List ByteArray}{s:List Int}(hst: ∀b o,G.St b o→b<G.w.heap.size)(hsz:vargs.size=[eN n,eL eS l,eL eI s].length)(hrep: ∀ (j:Nat) v y,vargs[j]?=some v→[eN n,eL eS l,eL eI s][j]?=some y→Rep G v y):
  ∃vt v u,vargs= #[netV n vt,v,u]∧RdT G.w 0 G.w.heap.size vt n.trans∧RdS G.w 0 G.w.heap.size v l∧RdI G.w 0 G.w.heap.size u s:=by
 obtain⟨q⟩:=vargs
 match q,hsz with
 |[a,b,c],_=>
  obtain⟨vt,rfl,h1⟩:=zkz (hrep 0 a _ rfl rfl) hst
  exact⟨vt,b,c,rfl,h1,zky (hrep 1 b _ J J) hst,zjh (hrep 2 c _ J J) hst⟩
theorem zwj {G:Cx}{vargs:Array Value}{n:Net}{l:List ByteArray}{s:List Int}{m:Stp}(hst: ∀b o,G.St b o→b<G.w.heap.size)(hsz:vargs.size=[eN n,eL eS l,eL eI s,eSt m].length)(hrep: ∀ (j:Nat) v y,vargs[j]?=some v→[eN n,eL eS l,eL eI s,eSt m][j]?=some y→Rep G v y):
  ∃vt v u,vargs= #[netV n vt,v,u,stpV m]∧RdT G.w 0 G.w.heap.size vt n.trans∧RdS G.w 0 G.w.heap.size v l∧RdI G.w 0 G.w.heap.size u s:=by
 obtain⟨q⟩:=vargs
 match q,hsz with
 |[a,b,c,d],_=>
  obtain⟨vt,rfl,h1⟩:=zkz (hrep 0 a _ rfl rfl) hst
  have h4:=rep3 (hrep 3 d _ J J)
  subst h4
  exact⟨vt,b,c,rfl,h1,zky (hrep 1 b _ J J) hst,zjh (hrep 2 c _ J J) hst⟩
theorem zu8 (n:Net)(l:List ByteArray):Pure P 70 [eN n,eL eS l] (.tup [eL eI (zb0 n l).1,eI (zb0 n l).2]):=
 zfz (zdf Tryz.func70 J J) fun G vargs hst hsz hrep=>by
  obtain⟨vt,v,rfl,h1,h2⟩:=zwk hst hsz hrep
  exact zs3 n l vt v _ _ _ _ G.w h1 h2
theorem end_pf (n:Net)(l:List ByteArray):Pure P 71 [eN n,eL eS l] (.tup [eL eI (endE n l).1,eI (endE n l).2]):=
 zfz (zdf Tryz.func71 J J) fun G vargs hst hsz hrep=>by
  obtain⟨vt,v,rfl,h1,h2⟩:=zwk hst hsz hrep
  exact z2n n l vt v _ _ _ _ G.w h1 h2
theorem zy7 (n:Net)(l:List ByteArray):Pure P 24 [eN n,eL eS l] (.tup [eL eI (zb0 n l).1,eI (zb0 n l).2]):=
 zfz (zdf Tryz.func24 J J) fun G vargs hst hsz hrep=>by
  obtain⟨vt,v,rfl,h1,h2⟩:=zwk hst hsz hrep
  exact zo6 n l vt v _ _ _ _ G.w h1 h2
theorem z68 (n:Net)(l:List ByteArray):Pure P 63 [eN n,eL eS l] (.tup [eL eI (endE n l).1,eI (endE n l).2]):=
 zfz (zdf Tryz.func63 J J) fun G vargs hst hsz hrep=>by
  obtain⟨vt,v,rfl,h1,h2⟩:=zwk hst hsz hrep
  exact zvg n l vt v _ _ _ _ G.w h1 h2
theorem zw1 (l:List ByteArray):Pure P 62 [eL eS l] (eB (zd0 l)):=
 zf0 (zdf Tryz.func62 J J) fun G vargs hst hsz hrep=>by
  obtain⟨v,rfl,h1⟩:=argsS hst hsz hrep
  exact zm2 l _ _ v G.w h1
theorem zvm (n:Net)(l:List ByteArray)(s:List Int):Pure P 43 [eN n,eL eS l,eL eI s] (.tup [eL eSt (zhq n l s).1,eI (zhq n l s).2]):=
 zdw (zgm (zdf Tryz.func43 J J) (.tup _ (zaj (zgx _) (zaj (.s _) zba))) fun G vargs hst hsz hrep=>by
  obtain⟨vt,v,u,rfl,h1,h2,h3⟩:=z2c hst hsz hrep
  refine(z2m n l s vt v u _ _ _ _ _ _ G.w h1 h2 h3).mono ?_
  rintro e w' ⟨A,c,rfl,hr,hb⟩
  refine⟨_,rfl,hb, .tup _ _ J (fun j v x hv hx=>?_)⟩
  match j,hv,hx with
  |0,hv,hx=>simp at hv hx;subst hv hx;exact zy5 (G:=zxa G w') hr (fun b o h1 h2 _=>zqg h1 h2)
  |1,hv,hx=>simp at hv hx;subst hv hx;exact .s _
  |j+2,hv,hx=>simp at hv)
theorem zza (n:Net)(l:List ByteArray)(s:List Int)(hz:zb1 n l s=true):Pure P 94 [eN n,eL eS l,eL eI s] (eL eSt (zb8 n l s)):=
 zdw (zgm (zdf Tryz.func94 J J) (zgx _) fun G vargs hst hsz hrep=>by
  obtain⟨vt,v,u,rfl,h1,h2,h3⟩:=z2c hst hsz hrep
  refine(zw0 n l s vt v u _ _ _ _ _ _ G.w h1 h2 h3 hz).mono ?_
  rintro e w' ⟨A,c,rfl,hr,hb⟩
  refine⟨_,rfl,hb,?_⟩
  rw[zpd hz] at hr⊢
  exact zy5 (G:=zxa G w') hr (fun b o h1 h2 _=>zqg h1 h2))
theorem z44 (n:Net)(l:List ByteArray)(s:List Int)(m:Stp):Pure P 90 [eN n,eL eS l,eL eI s,eSt m] (.tup [eL eI (zbk n l s m).1,eI (zbk n l s m).2]):=
 zfz (zdf Tryz.func90 J J) fun G vargs hst hsz hrep=>by
  obtain⟨vt,v,u,rfl,h1,h2,h3⟩:=zwj hst hsz hrep
  exact z2p n l s m vt v u _ _ _ _ _ _ G.w h1 h2 h3
theorem zze (n:Net)(l:List ByteArray)(s:List Int)(m:Stp):Pure P 28 [eN n,eL eS l,eL eI s,eSt m] (.tup [eL eI (zbk n l s m).1,eI (zbk n l s m).2]):=
 zfz (zdf Tryz.func28 J J) fun G vargs hst hsz hrep=>by
  obtain⟨vt,v,u,rfl,h1,h2,h3⟩:=zwj hst hsz hrep
  exact zk0 n l s m vt v u _ _ _ _ _ _ G.w h1 h2 h3
theorem z8u (c:Cst)(l:List Stp):Pure P 72 [eC c,eL eSt l] (.tup [eI (zi0 c l).1,eI (zi0 c l).2]):=
 zdw (zgm (zdf Tryz.func72 J J) (.tup _ (zaj (.s _) (zaj (.s _) zba))) fun G vargs hst hsz hrep=>by
  obtain⟨q⟩:=vargs
  match q,hsz,hrep with
  |[a,b],_,hrep=>
   have h1:=rep3 (hrep 0 a _ J J)
   subst h1
   refine(zwr c l _ _ b G.w (zte (hrep 1 b _ J J) hst)).mono ?_
   rintro e w' ⟨rfl,hb⟩
   refine⟨_,rfl,hb, .tup _ _ J (fun j v x hv hx=>?_)⟩
   match j,hv,hx with
   |0,hv,hx=>simp at hv hx;subst hv hx;exact .s _
   |1,hv,hx=>simp at hv hx;subst hv hx;exact .s _
   |j+2,hv,hx=>simp at hv)
theorem zjv (c:Cst):Pure P 44 [eC c] (eB (vcB c)):=
 zf0 (zdf Tryz.func44 J J) fun G vargs hst hsz hrep=>by
  obtain⟨q⟩:=vargs
  match q,hsz,hrep with
  |[a],_,hrep=>
   have h1:=rep3 (hrep 0 a _ J J)
   subst h1
   exact zi3 c G.w
theorem zon (c:Cst):Pure P 31 [eC c] (eB (vcB c)):=
 zf0 (zdf Tryz.func31 J J) fun G vargs hst hsz hrep=>by
  obtain⟨q⟩:=vargs
  match q,hsz,hrep with
  |[a],_,hrep=>
   have h1:=rep3 (hrep 0 a _ J J)
   subst h1
   exact zhx c G.w
theorem z66 (c:Cst)(m:Stp):Pure P 27 [eC c,eSt m] (eI (zbf c m.kind)):=
 zyw (zdf Tryz.func27 J J) fun G vargs hst hsz hrep=>by
  obtain⟨q⟩:=vargs
  match q,hsz,hrep with
  |[a,b],_,hrep=>
   have h1:=rep3 (hrep 0 a _ J J)
   have h2:=rep3 (hrep 1 b _ J J)
   subst h1 h2
   exact zy9 c m G.w
end Go.Proofs.YtjdpnadhgjohnaaGreatDoor.Aw
end
