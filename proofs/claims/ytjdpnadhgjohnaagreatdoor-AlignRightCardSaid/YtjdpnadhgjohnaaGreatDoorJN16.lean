import Derived.Test.YtjdpnadhgjohnaaGreatDoorJN0
import Derived.Test.YtjdpnadhgjohnaaGreatDoorJN15
import Derived.Test.YtjdpnadhgjohnaaGreatDoorJN5
set_option linter.unusedSimpArgs false
set_option linter.unusedVariables false
set_option linter.unusedSectionVars false
namespace Go.Proofs.YtjdpnadhgjohnaaGreatDoor
namespace Aw
open Go.RowKit
variable [Mk]
section
variable {P:Program}{N:Nat}{F:Frm}{σ σ':List Ob}{Q:Exit→Frm→List Ob→Prop}{next:Frm→List Ob→Prop}
theorem zah (h:next F σ):zfe next Q .normal F σ:=h
theorem zep {id:Nat}(h:Q (.exit id) F σ):zfe next Q (.exit id) F σ:=h
theorem zbg (h:Q .ret F σ):zfe next Q .ret F σ:=h
theorem zcf {id:Nat}(h:Q .normal F σ):ABlk id Q .normal F σ:=h
theorem zbh {id:Nat}(h:Q .ret F σ):ABlk id Q .ret F σ:=h
theorem zcg {id:Nat}(h:Q .normal F σ):ABlk id Q (.exit id) F σ:=by simp only[ABlk,if_true];exact h
theorem zbz {id id':Nat}(hne:Nat.beq id' id=false)(h:Q (.exit id') F σ):ABlk id Q (.exit id') F σ:=by
 have:id'≠id:=fun e=>by subst e;simp at hne
 simp only[ABlk,if_neg this];exact h
theorem zap {ops:Array Oper}{o:Oper}{j t:Nat}{c:Bool}(h:o.guard=some (j,c))(hd:(ops[j]?).bind (·.dst)=some t)(hc:F.get t= .s (.bool c)):Runs ops F o true:=by
 have:=zmw (F:=F) h hd hc
 simpa using this
theorem zdq {c:Code}{S:Type}(fr:S→Frm)(st:S→List Ob)(inv:S→Prop)(ms:S→Nat)(s0:S)(hw:Weak N F σ (fr s0) (st s0))(h0:inv s0)
  (round: ∀s,inv s→AWp P N c (fr s) (st s) (zfe (fun F' σ'=> ∃s',inv s'∧ms s'<ms s∧Weak N F' σ' (fr s') (st s')) Q)):AWp P N (.loop c) F σ Q:=by
 refine za4 hw (z84 (fun m F σ=> ∃s,inv s∧ms s=m∧Weak N F σ (fr s) (st s)) (ms s0) ⟨s0,h0,rfl,Weak.refl⟩ (fun m F σ h=>?_))
 obtain⟨s,h1,rfl,h3⟩:=h
 refine za4 h3 (zuj (round s h1) (fun e F σ q=>?_))
 cases e with
 |normal=>obtain⟨s',g1,g2,g3⟩:=q;exact⟨ms s',g2,s',g1,rfl,g3⟩
 |_=>exact q
theorem z60 {G:Cx}{v:Value}{l:List AV}(h:Rep G v (.sl l)):l.length≤maxLen:=by
 cases h with
 |slnil=>exact Nat.zero_le _
 |sl b o cap sz _ val hc hm h1 h2 h=>exact hm
theorem aw_bd {c:Code}{d:Nat}{L:List AV}(hd:F.get d= .sl L)(k:L.length≤maxLen→AWp P N c F σ Q):AWp P N c F σ Q:=fun G a hs=>k (z60 (by rw[←hd];exact hs.fr d)) G a hs
theorem z17 {α:Type}{f:α→AV}{l:List α}{c:Code}{d:Nat}(hd:F.get d= .sl (l.map f))(k:l.length≤maxLen→AWp P N c F σ Q):AWp P N c F σ Q:=aw_bd hd (fun h=>k (by simpa using h))
def Sub (F:Frm):Frm→Prop
 |[]=>True
 |(d,y)::F'=>F.get d=y∧Sub F F'
theorem zcv: ∀F',Sub F F'→Weak N F σ F' σ:=fun F' h G a hs=>⟨G,rfl, .refl G,hs.rel,by
 have key: ∀F',Sub F F'→FOk G a F':=by
  intro F'
  induction F' with
  |nil=>intro _ d;exact .any _
  |cons p F' ih=>
   obtain⟨d,y⟩:=p
   intro h t
   simp only[Frm.get]
   cases e:Nat.beq d t with
   |true=>have:=Nat.eq_of_beq_eq_true e;subst this;rw[←h.1];exact hs.fr d
   |false=>exact ih h.2 t
 exact key F' h,hs.df,hs.nt⟩
theorem zbn {o:Oper}{p:Prop}[Decidable p](h:p)(hd:Does P o F σ (.s (.bool (decide p))) σ'):Does P o F σ (.s (.bool true)) σ':=by rwa [decide_eq_true h] at hd
theorem zbl {o:Oper}{p:Prop}[Decidable p](h: ¬p)(hd:Does P o F σ (.s (.bool (decide p))) σ'):Does P o F σ (.s (.bool false)) σ':=by rwa [decide_eq_false h] at hd
theorem z8q {o:Oper}{x y:AV}(h:x=y)(hd:Does P o F σ x σ'):Does P o F σ y σ':=h▸hd
section
variable {o:Oper}
theorem zxv {c x y:Operand}{u:AV}(ho:o.op= .pick c x y)(hc:F.eval c= .s (.bool true))(hu:F.eval x=u):Does P o F σ u σ:=hu▸zn3 ho hc
theorem zxw {c x y:Operand}{u:AV}(ho:o.op= .pick c x y)(hc:F.eval c= .s (.bool false))(hu:F.eval y=u):Does P o F σ u σ:=hu▸zn3 ho hc
theorem zan {α:Type}{f:α→AV}{l:List α}{t e:TypeId}{x:Operand}(ho:o.op= .call {callee:= .builtin .len,args:= #[x],argTypes:= #[t]})(ht:za5 P t=some e)(hx:F.eval x= .sl (l.map f)):Does P o F σ (.s (.int .i64 (l.length:Nat))) σ:=by
 have:=zn5 (F:=F) (σ:=σ) ho ht hx
 rwa [List.length_map] at this
theorem zsu {t e:TypeId}{x:Operand}(ho:o.op= .call {callee:= .builtin .len,args:= #[x],argTypes:= #[t]})(ht:za5 P t=some e)(hx:F.eval x= .emp):Does P o F σ (.s (.int .i64 0)) σ:=
 zbc fun G ρ hr hop=>by
  have h1:=hop x (by simp[ho,Op.operands,Call.operands])
  rw[hx] at h1
  generalize hv:ρ x=v at h1
  cases h1 with
  |emp A hA=>exact⟨_,zd5 ht ho ρ _ _ _ hv _, .s _⟩
theorem zot {t:TypeId}{x:Operand}{z:Option Value}{n bt:Nat}{cs:List AV}(ho:o.op= .load t x)(ha:zcw P t=some true)(hi:za6 P t=some (z,n,bt))(hx:F.eval x= .ref cs)(hn:cs.length=n):Does P o F σ (.agg cs) σ:=by
 have:=zi8 (F:=F) (σ:=σ) ho ha hi hx xa
 rwa [←hn,List.take_length] at this
theorem z1t {t t':TypeId}{x y:Operand}{a b:Bool}(ht:P.underlying t=some .bool)(ho:o.op= .binOp .eql t x y t')(hx:F.eval x= .s (.bool a))(hy:F.eval y= .s (.bool b)):Does P o F σ (.s (.bool (a==b))) σ:=
 zc3 ho hx hy fun w=>by
  have h1: ∀d,(Op.equalIn (d+1) t (.bool a) (.bool b)).run P w= .ok (a==b) w:=fun d=>by simp[Op.equalIn,run_underlying ht]
  have h2:(Op.equal t (.bool a) (.bool b)).run P w= .ok (a==b) w:=h1 9999
  have h3:(binOp .eql t (.bool a) (.bool b):Sem Value)=(do pure (.bool (←Op.equal t (.bool a) (.bool b)))):=rfl
  rw[Sem.run_bind,show(eqGuard .eql t x y (.bool a) (.bool b)).run P w= .ok () w from rfl,Result.andThen_ok,h3,Sem.run_bind,h2]
  rfl
theorem zlx {x:Operand}{cs:List AV}(ho:o.op= .nilCheck x)(hx:F.eval x= .ref cs):Does P o F σ (.ref cs) σ:=
 zbc fun G ρ hr hop=>by
  have h1:=hop x (by simp[ho,Op.operands])
  rw[hx] at h1
  generalize hv:ρ x=u at h1
  cases h1 with
  |ref b i _ val h1 h2 h=>exact⟨_,by simp[execOp,ho,hv], .ref b i cs val h1 h2 h⟩
end
theorem z5s {ad:Tmp}{ty:TypeId}{id sz k n bt:Nat}{z:Option Value}{ob:Ob}{cs:List AV}{e1 r:AV}{e:Exit}(he:e= .normal∨e= .ret)(ha:zcw P ty=some true)(hi:za6 P ty=some (z,n,bt))(hp:F.get ad= .ptr id sz k 0)(hs:σ[id]?=some ob)(ho:ze6 ob=some (sz,cs))(hk:cs[k]?=some e1)(hn:e1.cells.length=n)(hr: .agg e1.cells=r):zl6 P [.cell ad ty] r e F σ:=
 ⟨he,[_], .cons _ _ _ _ (.cells ad ty id sz k n bt z ob cs e1 ha hi hp hs ho hk hn) .nil,by subst hr;exact .refl _⟩
theorem zcl {t:Nat}{x r:AV}{e:Exit}(he:e= .normal∨e= .ret)(h:F.get t=x)(hr:x=r):zl6 P [.tmp t] r e F σ:=⟨he,[x], .cons _ _ _ _ (.tmp t x h) .nil,by subst hr;exact .refl _⟩
theorem post2 {t u:Nat}{x y x' y':AV}{e:Exit}(he:e= .normal∨e= .ret)(h:F.get t=x)(h':F.get u=y)(hf:Fini σ x x')(hf':Fini σ y y'):zl6 P [.tmp t, .tmp u] (.tup [x',y']) e F σ:=
 ⟨he,[x,y], .cons _ _ _ _ (.tmp t x h) (.cons _ _ _ _ (.tmp u y h') .nil), .tup _ _ J (zeq.cons hf (zeq.cons hf' zeq.nil)).2⟩
end
theorem zdk {α:Type}[Inhabited α]{f:α→AV}{l:List α}{k:Nat}(h:k<l.length):(l.map f)[k]?=some (f (gti l k)):=by
 rw[List.getElem?_map,zbr h];rfl
theorem zba {k:Nat}: ∀y∈([]:List AV),Lo k y:=by simp
theorem zaj {k:Nat}{x:AV}{l:List AV}(h:Lo k x)(t: ∀y∈l,Lo k y): ∀y∈x::l,Lo k y:=by
 intro y hy
 rcases List.mem_cons.1 hy with rfl|hy
 ·
  exact h
 ·
  exact t y hy
theorem zdj {k:Nat}{α:Type}{f:α→AV}{l:List α}(h: ∀a,Lo k (f a)):Lo k (.sl (l.map f)):= .sl _ fun y hy=>by
 obtain⟨a,_,rfl⟩:=List.mem_map.1 hy
 exact h a
theorem ztq {k:Nat}{α:Type}{f:α→AV}{l:List α}(h: ∀a, ∀c∈(f a).cells,Lo k c): ∀e∈l.map f, ∀c∈e.cells,Lo k c:=fun y hy=>by
 obtain⟨a,_,rfl⟩:=List.mem_map.1 hy
 exact h a
def eI (n:Int):AV:= .s (.int .i64 n)
def eB (b:Bool):AV:= .s (.bool b)
def eS (s:ByteArray):AV:= .s (.string s)
def eL {α:Type}(f:α→AV)(l:List α):AV:= .sl (l.map f)
section
def zxe:AV→Option AV
 | .any=>none
 | .s v=>some (.s v)
 | .agg l=>some (.agg l)
 | .sl l=>some (.sl l)
 | .emp=>some .emp
 | .ref l=>some (.ref l)
 | .own a b c=>some (.own a b c)
 | .ptr a b c d=>some (.ptr a b c d)
 | .fn f l=>some (.fn f l)
 | .tup l=>some (.tup l)
 | .mp a=>some (.mp a)
 | .sub a b c d=>some (.sub a b c d)
 | .ifc t x=>some (.ifc t x)
 | .opq=>some .opq
theorem zmb {x y:AV}(h:zxe x=some y):x=y:=by cases x<;>simp[zxe] at h<;>exact h
def opv (op:Op)(F:Frm):Option AV:=match op with
 | .move y=>zxe (F.eval y)
 | .assign y=>zxe (F.eval y)
 | .nilCheck x=>(match F.eval x with
  | .ptr a b c d=>some (.ptr a b c d)
  | .ref cs=>some (.ref cs)
  | .fn f cs=>some (.fn f cs)
  |_=>none)
 | .extract x i=>(match F.eval x with
  | .tup l=>l[i]?
  |_=>none)
 | .pick c x y=>(match F.eval c with
  | .s (.bool true)=>zxe (F.eval x)
  | .s (.bool false)=>zxe (F.eval y)
  |_=>none)
 |_=>none
def fdv (op:Op)(t f off n:Nat)(F:Frm):Option AV:=match op with
 | .fieldAddr t' x f'=>bif Nat.beq t t' && (Nat.beq f f' && !Nat.beq n 0) then(match F.eval x with
  | .ptr id sz k j=>some (.ptr id sz k (j+off))
  | .ref cs=>some (.ref (cs.drop off))
  |_=>none) else none
 |_=>none
def ldv (op:Op)(t:Nat)(F:Frm):Option AV:=match op with
 | .load t' x=>bif Nat.beq t t' then(match F.eval x with
  | .ref (c::_)=>some c
  |_=>none) else none
 |_=>none
def lwv (op:Op)(t n:Nat)(F:Frm):Option AV:=match op with
 | .load t' x=>bif Nat.beq t t' then(match F.eval x with
  | .ref cs=>bif Nat.beq cs.length n then some (.agg cs) else none
  |_=>none) else none
 |_=>none
def runB (ops:Array Oper)(F:Frm)(o:Oper):Option Bool:=match o.guard with
 |none=>some true
 | some (j,c)=>(match (ops[j]?).bind (·.dst) with
  | some t=>(match F.get t with
   | .s (.bool b)=>some (match b,c with
    |true,true=>true
    |false,false=>true
    |_,_=>false)
   |_=>none)
  |none=>none)
def stv (v:Option AV)(N:Nat)(ops:Array Oper)(o:Oper)(F:Frm):Option (Nat × AV):=match o.dst with
 | some d=>bif Nat.blt d N then(match runB ops F o with
  |some true=>(match v with
   |some x=>some (d,x)
   |none=>none)
  |_=>none) else none
 |none=>none
def stz (N:Nat)(ops:Array Oper)(o:Oper)(F:Frm):Option Nat:=match o.dst with
 |some d=>bif Nat.blt d N then(match runB ops F o with
  |some false=>some d
  |_=>none) else none
 |none=>none
theorem zyq {ops:Array Oper}{F:Frm}{o:Oper}{r:Bool}(h:runB ops F o=some r):Runs ops F o r:=by
 unfold runB at h
 split at h
 ·
  rename_i hg;cases h;exact zaa hg
 ·
  rename_i j c hg
  split at h
  ·
   rename_i t ht
   split at h
   ·
    rename_i b hb
    have:=zmw (F:=F) hg ht hb
    cases b<;>cases c<;>(simp at h;subst h;simpa using this)
   ·
    cases h
  ·
   cases h
theorem zbe {v:Option AV}{N:Nat}{ops:Array Oper}{o:Oper}{F:Frm}{d:Nat}{x:AV}(h:stv v N ops o F=some (d,x)):o.dst=some d∧Nat.blt d N=true∧Runs ops F o true∧v=some x:=by
 unfold stv at h
 split at h
 ·
  rename_i e he
  cases hb:Nat.blt e N with
  |false=>rw[hb] at h;cases h
  | true=>
   rw[hb] at h
   simp only[cond_true] at h
   split at h
   ·
    rename_i hr
    split at h
    ·
     rename_i y hy
     cases h
     exact⟨he,hb,zyq hr,rfl⟩
    ·
     cases h
   ·
    cases h
 ·
  cases h
theorem zhn {N:Nat}{ops:Array Oper}{o:Oper}{F:Frm}{d:Nat}(h:stz N ops o F=some d):o.dst=some d∧Nat.blt d N=true∧Runs ops F o false:=by
 unfold stz at h
 split at h
 ·
  rename_i e he
  cases hb:Nat.blt e N with
  |false=>rw[hb] at h;cases h
  | true=>
   rw[hb] at h
   simp only[cond_true] at h
   split at h
   ·
    rename_i hr;cases h;exact⟨he,hb,zyq hr⟩
   ·
    cases h
 ·
  cases h
variable {P:Program}{F:Frm}{σ:List Ob}{o:Oper}{x:AV}
theorem zhe (h:opv o.op F=some x):Does P o F σ x σ:=by
 unfold opv at h
 split at h
 ·
  rename_i y ho;exact z1r (.inl ho) (zmb h)
 ·
  rename_i y ho;exact z1r (.inr ho) (zmb h)
 ·
  rename_i y ho
  split at h
  ·
   rename_i hx;cases h;exact zly ho hx
  ·
   rename_i hx;cases h;exact zlx ho hx
  ·
   rename_i hx;cases h;exact zn4 ho hx
  ·
   cases h
 ·
  rename_i y i ho
  split at h
  ·
   rename_i hx;exact zlz ho hx h
  ·
   cases h
 ·
  rename_i c y z ho
  split at h
  ·
   rename_i hc;exact zxv ho hc (zmb h)
  ·
   rename_i hc;exact zxw ho hc (zmb h)
  ·
   cases h
 ·
  cases h
theorem zmd {t f off n ft:Nat}(hf:zbx P t f=some (off,ft,some n))(h:fdv o.op t f off n F=some x):Does P o F σ x σ:=by
 unfold fdv at h
 split at h
 ·
  rename_i t' y f' ho
  cases h1:Nat.beq t t' && (Nat.beq f f' && !Nat.beq n 0) with
  |false=>rw[h1] at h;cases h
  | true=>
   rw[h1] at h
   simp only[cond_true] at h
   simp only[Bool.and_eq_true,Bool.not_eq_true'] at h1
   obtain⟨e1,e2,e3⟩:=h1
   have e1:=Nat.eq_of_beq_eq_true e1
   have e2:=Nat.eq_of_beq_eq_true e2
   subst e1 e2
   have hn:n≠0:=fun e=>by subst e;simp at e3
   split at h
   ·
    rename_i hx;cases h;exact zgh ho hf hn hx
   ·
    rename_i hx;cases h;exact zgg ho hf hn hx
   ·
    cases h
 ·
  cases h
theorem zis {t:Nat}(ha:zcw P t=some false)(h:ldv o.op t F=some x):Does P o F σ x σ:=by
 unfold ldv at h
 split at h
 ·
  rename_i t' y ho
  cases h1:Nat.beq t t' with
  |false=>rw[h1] at h;cases h
  | true=>
   rw[h1] at h
   simp only[cond_true] at h
   have e1:=Nat.eq_of_beq_eq_true h1
   subst e1
   split at h
   ·
    rename_i hx;cases h;exact zkn ho ha hx
   ·
    cases h
 ·
  cases h
theorem zqj {t n bt:Nat}{z:Option Value}(ha:zcw P t=some true)(hi:za6 P t=some (z,n,bt))(h:lwv o.op t n F=some x):Does P o F σ x σ:=by
 unfold lwv at h
 split at h
 ·
  rename_i t' y ho
  cases h1:Nat.beq t t' with
  |false=>rw[h1] at h;cases h
  | true=>
   rw[h1] at h
   simp only[cond_true] at h
   have e1:=Nat.eq_of_beq_eq_true h1
   subst e1
   split at h
   ·
    rename_i cs hx
    cases h2:Nat.beq cs.length n with
    |false=>rw[h2] at h;cases h
    |true=>rw[h2] at h;cases h;exact zot ho ha hi hx (Nat.eq_of_beq_eq_true h2)
   ·
    cases h
 ·
  cases h
end
section
variable {P:Program}{N:Nat}{F:Frm}{σ:List Ob}{Q:Exit→Frm→List Ob→Prop}{ops:Array Oper}{o:Oper}{l:List Oper}{d:Nat}{x:AV}
theorem zac (h:stv (opv o.op F) N ops o F=some (d,x))(k:AOps P N ops l ((d,x)::F) σ Q):AOps P N ops (o::l) F σ Q:=zad (zbe h).1 (zbe h).2.1 (zbe h).2.2.1 (zhe (zbe h).2.2.2) k
theorem zbm {t f off n ft:Nat}(hf:zbx P t f=some (off,ft,some n))(h:stv (fdv o.op t f off n F) N ops o F=some (d,x))(k:AOps P N ops l ((d,x)::F) σ Q):AOps P N ops (o::l) F σ Q:=zad (zbe h).1 (zbe h).2.1 (zbe h).2.2.1 (zmd hf (zbe h).2.2.2) k
theorem zbq {t:Nat}(ha:zcw P t=some false)(h:stv (ldv o.op t F) N ops o F=some (d,x))(k:AOps P N ops l ((d,x)::F) σ Q):AOps P N ops (o::l) F σ Q:=zad (zbe h).1 (zbe h).2.1 (zbe h).2.2.1 (zis ha (zbe h).2.2.2) k
theorem zby {t n bt:Nat}{z:Option Value}(ha:zcw P t=some true)(hi:za6 P t=some (z,n,bt))(h:stv (lwv o.op t n F) N ops o F=some (d,x))(k:AOps P N ops l ((d,x)::F) σ Q):AOps P N ops (o::l) F σ Q:=zad (zbe h).1 (zbe h).2.1 (zbe h).2.2.1 (zqj ha hi (zbe h).2.2.2) k
theorem zbb (h:stz N ops o F=some d)(k:AOps P N ops l ((d, .s undef)::F) σ Q):AOps P N ops (o::l) F σ Q:=zj8 (zhn h).1 (zhn h).2.1 (zhn h).2.2 k
end
section
variable {P:Program}{N:Nat}{F:Frm}{σ:List Ob}{ops:Array Oper}{o:Oper}{l:List Oper}{d:Nat}{x:AV}{K:Frm→Prop}
theorem qx_s (h:stv (opv o.op F) N ops o F=some (d,x))(k:QX P N ops σ l ((d,x)::F) K):QX P N ops σ (o::l) F K:=zbi (zbe h).1 (zbe h).2.1 (zbe h).2.2.1 (zhe (zbe h).2.2.2) k
theorem qx_f {t f off n ft:Nat}(hf:zbx P t f=some (off,ft,some n))(h:stv (fdv o.op t f off n F) N ops o F=some (d,x))(k:QX P N ops σ l ((d,x)::F) K):QX P N ops σ (o::l) F K:=zbi (zbe h).1 (zbe h).2.1 (zbe h).2.2.1 (zmd hf (zbe h).2.2.2) k
theorem qx_l {t:Nat}(ha:zcw P t=some false)(h:stv (ldv o.op t F) N ops o F=some (d,x))(k:QX P N ops σ l ((d,x)::F) K):QX P N ops σ (o::l) F K:=zbi (zbe h).1 (zbe h).2.1 (zbe h).2.2.1 (zis ha (zbe h).2.2.2) k
theorem qx_w {t n bt:Nat}{z:Option Value}(ha:zcw P t=some true)(hi:za6 P t=some (z,n,bt))(h:stv (lwv o.op t n F) N ops o F=some (d,x))(k:QX P N ops σ l ((d,x)::F) K):QX P N ops σ (o::l) F K:=zbi (zbe h).1 (zbe h).2.1 (zbe h).2.2.1 (zqj ha hi (zbe h).2.2.2) k
theorem qx_z (h:stz N ops o F=some d)(k:QX P N ops σ l ((d, .s undef)::F) K):QX P N ops σ (o::l) F K:=zdc (zhn h).1 (zhn h).2.1 (zhn h).2.2 k
end
theorem zra {P:Program}{N:Nat}{F:Frm}{σ:List Ob}{Q:Exit→Frm→List Ob→Prop}{c c2 c3:Code}(F1:Frm)(σ1:List Ob)
  (h:AWp P N c F σ (zfe (fun F σ=>AWp P N c2 F σ (zfe (fun F' σ'=>Weak N F' σ' F1 σ1) Q)) (zfe (fun F' σ'=>Weak N F' σ' F1 σ1) Q)))
  (k:AWp P N c3 F1 σ1 Q):AWp P N c F σ (zfe (fun F σ=>AWp P N c2 F σ (zfe (fun F σ=>AWp P N c3 F σ Q) Q)) (zfe (fun F σ=>AWp P N c3 F σ Q) Q)):=by
 have w: ∀e F σ,zfe (fun F' σ'=>Weak N F' σ' F1 σ1) Q e F σ→zfe (fun F σ=>AWp P N c3 F σ Q) Q e F σ:=fun e F σ q=>by
  cases e with
  |normal=>exact za4 q k
  |_=>exact q
 refine zuj h (fun e F σ q=>?_)
 cases e with
 |normal=>exact zuj q w
 |_=>first|exact w .ret F σ q|exact w (.exit _) F σ q|exact w (.goto _) F σ q|exact w (.panic _) F σ q|exact w .outgrown F σ q
end Aw
section
open Go.RowKit
section
variable {P:Program}{pre:List Oper}{last:Oper}{Q:Exit→Act→World→Prop}{S:World→Prop}
def z0h (pre:List Oper)(last:Oper):Bool:=
 (List.range pre.length).all (fun i=>(last.after.any fun e=>Region.binds .any e && e.on==i)||(List.range pre.length).any (fun k=>match pre[k]? with|none=>false|some o=>o.after.any fun e=>Region.binds .any e && e.on==i)) &&
 (List.range pre.length).all (fun i=>match pre[i]? with
  |none=>true
  |some o=>(o.after.all fun e=>!Region.binds .any e||decide (e.on<i)) && (match o.guard with|none=>true|some (j,_)=>decide (j<pre.length))) &&
 last.guard.isNone && last.after.all (fun e=>!Region.binds .any e||decide (e.on<pre.length))
structure LastT (pre:List Oper)(last:Oper):Prop where
 waits: ∀i,i<pre.length→(∃e∈last.after,Region.binds .any e=true∧e.on=i)∨ ∃ (k:Nat) (o:Oper),pre[k]?=some o∧ ∃e∈o.after,Region.binds .any e=true∧e.on=i
 early: ∀ (i:Nat) (o:Oper),pre[i]?=some o→ ∀e∈o.after,Region.binds .any e=true→e.on<i
 guards: ∀ (i:Nat) (o:Oper),pre[i]?=some o→ ∀ (j:Nat) (b:Bool),o.guard=some (j,b)→j<pre.length
 free:last.guard=none
 on: ∀e∈last.after,Region.binds .any e=true→e.on<pre.length
theorem z3s (h:z0h pre last=true):LastT pre last:=by
 unfold z0h at h
 simp only[Bool.and_eq_true,Bool.or_eq_true,List.all_eq_true,List.any_eq_true,List.mem_range,Array.any_eq_true',beq_iff_eq] at h
 obtain⟨⟨⟨h1,h2⟩,h3⟩,h4⟩:=h
 refine⟨fun i hi=>?_,fun i o ho e he hb=>?_,fun i o ho j b hj=>?_,by simpa using h3,fun e he hb=>?_⟩
 ·
  rcases h1 i hi with ⟨e,he,hb,ho⟩|⟨k,hk,hm⟩
  ·
   exact .inl ⟨e,he,hb,ho⟩
  ·
   right
   rw[List.getElem?_eq_getElem hk] at hm
   simp only[Array.any_eq_true',Bool.and_eq_true,beq_iff_eq] at hm
   obtain⟨e,he,hb,ho⟩:=hm
   exact⟨k,pre[k],List.getElem?_eq_getElem hk,e,he,hb,ho⟩
 ·
  have hi:i<pre.length:=(List.getElem?_eq_some_iff.1 ho).1
  have:=h2 i hi
  rw[ho] at this
  simp only[Bool.and_eq_true,Array.all_eq_true',Bool.or_eq_true,Bool.not_eq_true',decide_eq_true_eq] at this
  rcases this.1 e he with h|h
  ·
   rw[hb] at h;cases h
  ·
   exact h
 ·
  have hi:i<pre.length:=(List.getElem?_eq_some_iff.1 ho).1
  have:=h2 i hi
  rw[ho] at this
  simp only[Bool.and_eq_true] at this
  have h5:=this.2
  rw[hj] at h5
  simpa using h5
 ·
  simp only[Array.all_eq_true',Bool.or_eq_true,Bool.not_eq_true',decide_eq_true_eq] at h4
  rcases h4 e he with h|h
  ·
   rw[hb] at h;cases h
  ·
   exact h
def Clo (pre:List Oper)(L:Array Bool):Prop:= ∀ (k:Nat) (o:Oper),pre[k]?=some o→L.getD k false=true→ ∀e∈o.after,Region.binds .any e=true→L.getD e.on false=true
theorem Clo.none (n:Nat):Clo pre (Array.replicate n false):=by
 intro k o _ h
 rw[Array.getD_eq_getD_getElem?,Array.getElem?_replicate] at h
 split at h<;>simp at h
theorem Clo.step {L:Array Bool}{i:Nat}(h:Clo pre L)(hL:L.size=pre.length)(hi:i∈Region.ready .any pre.toArray L):Clo pre (L.setIfInBounds i true):=by
 intro k o hk hd e he hb
 have hmono: ∀j,L.getD j false=true→(L.setIfInBounds i true).getD j false=true:=by
  intro j hj
  rw[Array.getD_eq_getD_getElem?] at hj⊢
  rw[Array.getElem?_setIfInBounds]
  split
  ·
   rename_i e;subst e
   split
   ·
    rfl
   ·
    rename_i h3
    rw[Array.getElem?_eq_none xa] at hj
    cases hj
  ·
   exact hj
 apply hmono
 by_cases hik:i=k
 ·
  subst hik
  obtain⟨_,o2,ho2,hall⟩:=mem_ready.1 hi
  rw[List.getElem?_toArray,hk] at ho2
  cases ho2
  exact hall e he hb
 ·
  refine h k o hk ?_ e he hb
  rw[Array.getD_eq_getD_getElem?] at hd⊢
  rw[Array.getElem?_setIfInBounds,if_neg hik] at hd
  exact hd
theorem zs6 (ok:LastT pre last){i:Nat}{o:Oper}(ho:pre[i]?=some o)(tmps:Array Value):Region.wanted o (yielded (pre++[last]).toArray tmps)=Region.wanted o (yielded pre.toArray tmps):=by
 unfold Region.wanted
 cases hg:o.guard with
 |none=>rfl
 |some jb=>
  obtain⟨j,b⟩:=jb
  simp only
  rw[zs4 (ok.guards i o ho j b hg)]
theorem z3h (ok:LastT pre last){i:Nat}(hi:i<pre.length){K K':Act→World→Prop}{a:Act}{w:World}(hK: ∀a w,K a w→K' a w)
  (h:wpOp P pre.toArray (zjy P pre last Q) i K a w):wpOp P (pre++[last]).toArray Q i K' a w:=by
 refine wpOp_mono hK ?_
 unfold wpOp at h⊢
 rw[znq hi]
 obtain⟨o,ho⟩: ∃o,pre[i]?=some o:=⟨_,List.getElem?_eq_getElem hi⟩
 simp only[List.getElem?_toArray,ho] at h⊢
 rw[zs6 ok ho]
 split
 ·
  rename_i hw
  rw[if_pos hw] at h
  rcases h with h|⟨h1,h2⟩
  ·
   exact .inl (zya h)
  ·
   exact .inr ⟨h1,h2⟩
 ·
  rename_i hw
  rw[if_neg hw] at h
  exact h
theorem z0g (ok:LastT pre last): ∀ (fuel:Nat) (L:Array Bool) (a:Act) (w:World),L.size=pre.length→Clo pre L→
  wpAny P .any pre.toArray (zjy P pre last Q) fuel L a w→wpAny P .any (pre++[last]).toArray Q (fuel+1) (L.push false) a w:=by
 -- who may come up: as before; the last one, once all have come up
 have hready: ∀ (L:Array Bool),L.size=pre.length→Clo pre L→ ∀i,i∈Region.ready .any (pre++[last]).toArray (L.push false)→(i<pre.length∧i∈Region.ready .any pre.toArray L)∨(i=pre.length∧ ∀j,j<pre.length→L.getD j false=true):=by
  intro L hL hC i hi
  obtain⟨h1,o,ho,hall⟩:=mem_ready.1 hi
  have hlt:i<pre.length+1:=by
   have:=(Array.getElem?_eq_some_iff.1 ho).1
   simpa using this
  rcases Nat.lt_or_eq_of_le (Nat.le_of_lt_succ hlt) with h2|h2
  ·
   left
   refine⟨h2,mem_ready.2 ⟨?_,o,by rw[znq h2] at ho;exact ho,fun e he hb=>?_⟩⟩
   ·
    simpa[Array.getD_eq_getD_getElem?,Array.getElem?_push,hL,Nat.ne_of_lt h2] using h1
   ·
    have hon:=ok.early i o (by rw[znq h2] at ho;simpa using ho) e he hb
    have:=hall e he hb
    simpa[Array.getD_eq_getD_getElem?,Array.getElem?_push,hL,Nat.ne_of_lt (Nat.lt_trans hon h2)] using this
  ·
   right
   subst h2
   rw[zqo] at ho
   injection ho with ho
   subst ho
   refine⟨rfl,fun j hj=>?_⟩
   have key: ∀ (m j:Nat),j<pre.length→pre.length-j≤m→L.getD j false=true:=by
    intro m
    induction m with
    |zero=>intro j hj hm;omega
    | succ m ihm=>
     intro j hj hm
     rcases ok.waits j hj with ⟨e,he,hb,rfl⟩|⟨k,o2,hk,e,he,hb,rfl⟩
     ·
      have:=hall e he hb
      simpa[Array.getD_eq_getD_getElem?,Array.getElem?_push,hL,Nat.ne_of_lt hj] using this
     ·
      have hlt2:=ok.early k o2 hk e he hb
      have hk2:k<pre.length:=(List.getElem?_eq_some_iff.1 hk).1
      exact hC k o2 hk (ihm k hk2 xa) e he hb
   exact key pre.length j hj xa
 have hsome: ∀ (L:Array Bool),L.size=pre.length→Region.ready .any (pre++[last]).toArray (L.push false)≠[]:=by
  intro L hL he
  -- the least that has not come up is ready
  have key: ∀i,i≤pre.length→ ∀j,j<i→L.getD j false=true:=by
   intro i
   induction i with
   |zero=>intro _ j hj;omega
   | succ i ih=>
    intro hi j hj
    rcases Nat.lt_or_eq_of_le (Nat.le_of_lt_succ hj) with h1|h1
    ·
     exact ih xa j h1
    ·
     subst h1
     cases hc:L.getD j false with
     |true=>rfl
     | false=>
      exfalso
      have hj':j<pre.length:=by omega
      obtain⟨o,ho⟩: ∃o,pre[j]?=some o:=⟨_,List.getElem?_eq_getElem hj'⟩
      have hm:j∈Region.ready .any (pre++[last]).toArray (L.push false):=by
       refine mem_ready.2 ⟨?_,o,by rw[znq hj'];simpa using ho,fun e he hb=>?_⟩
       ·
        have hlt:j<L.size:=by omega
        simp[Array.getD_eq_getD_getElem?,hlt] at hc⊢
        simp[Array.getElem?_push,Nat.ne_of_lt hlt,hlt,hc]
       ·
        have hon:=ok.early j o ho e he hb
        have:=ih xa e.on hon
        simpa[Array.getD_eq_getD_getElem?,Array.getElem?_push,hL,Nat.ne_of_lt (Nat.lt_trans hon hj')] using this
      rw[he] at hm
      cases hm
  have hm:pre.length∈Region.ready .any (pre++[last]).toArray (L.push false):=by
   refine mem_ready.2 ⟨?_,last,zqo,fun e he hb=>?_⟩
   ·
    rw[Array.getD_eq_getD_getElem?, ←hL,Array.getElem?_push_size];rfl
   ·
    have hon:=ok.on e he hb
    have:=key pre.length (Nat.le_refl _) e.on hon
    simpa[Array.getD_eq_getD_getElem?,Array.getElem?_push,hL,Nat.ne_of_lt hon] using this
  rw[he] at hm
  cases hm
 -- the last one
 have hlast: ∀ (fuel:Nat) (L:Array Bool) (a:Act) (w:World),L.size=pre.length→(∀j,j<pre.length→L.getD j false=true)→zjy P pre last Q .normal a w→
   wpOp P (pre++[last]).toArray Q pre.length (wpAny P .any (pre++[last]).toArray Q fuel ((L.push false).setIfInBounds pre.length true)) a w:=by
  intro fuel L a w hL hall h
  have hdone:Region.ready .any (pre++[last]).toArray ((L.push false).setIfInBounds pre.length true)=[]:=by
   rw[List.eq_nil_iff_forall_not_mem]
   intro i hi
   obtain⟨h1,o,ho,_⟩:=mem_ready.1 hi
   have hlt:i<pre.length+1:=by
    have:=(Array.getElem?_eq_some_iff.1 ho).1
    simpa using this
   rcases Nat.lt_or_eq_of_le (Nat.le_of_lt_succ hlt) with h2|h2
   ·
    have h3:=hall i h2
    have hlt':i<L.size:=by omega
    rw[Array.getD_eq_getD_getElem?,Array.getElem?_eq_getElem hlt'] at h3
    rw[Array.getD_eq_getD_getElem?,Array.getElem?_setIfInBounds,if_neg xa,Array.getElem?_push,if_neg xa,Array.getElem?_eq_getElem hlt'] at h1
    simp only[Option.getD_some] at h1 h3
    rw[h3] at h1
    cases h1
   ·
    subst h2
    simp[Array.getD_eq_getD_getElem?,Array.getElem?_setIfInBounds,hL] at h1
  have hK: ∀a w,Q .normal a w→wpAny P .any (pre++[last]).toArray Q fuel ((L.push false).setIfInBounds pre.length true) a w:=by
   intro a w hq
   cases fuel with
   |zero=>exact⟨hdone,hq⟩
   |succ fuel=>exact⟨fun _=>hq,by rw[hdone];simp⟩
  refine wpOp_mono hK ?_
  unfold wpOp
  rw[zqo]
  exact h
 intro fuel
 induction fuel with
 | zero=>
  intro L a w hL hC h
  refine⟨fun he=>absurd he (hsome L hL),fun i hi=>?_⟩
  rcases hready L hL hC i hi with ⟨_,h2⟩|⟨rfl,h2⟩
  ·
   rw[h.1] at h2;cases h2
  ·
   exact hlast 0 L a w hL h2 h.2
 | succ fuel ih=>
  intro L a w hL hC h
  refine⟨fun he=>absurd he (hsome L hL),fun i hi=>?_⟩
  rcases hready L hL hC i hi with ⟨h1,h2⟩|⟨rfl,h2⟩
  ·
   refine z3h ok h1 (fun a' w' h'=>?_) (h.2 i h2)
   have:=ih (L.setIfInBounds i true) a' w' (by simpa using hL) (hC.step hL h2) h'
   rwa [show(L.push false).setIfInBounds i true=(L.setIfInBounds i true).push false from by
    apply Array.ext_getElem?
    intro j
    simp only[Array.getElem?_setIfInBounds,Array.getElem?_push,Array.size_push,Array.size_setIfInBounds]
    by_cases h3:i=j
    ·
     subst h3
     rw[if_pos J,if_pos xa,if_neg xa,if_pos J,if_pos xa]
    ·
     rw[if_neg h3,if_neg h3]]
  ·
   refine hlast (fuel+1) L a w hL h2 (h.1 ?_)
   rw[List.eq_nil_iff_forall_not_mem]
   intro j hj
   obtain⟨h3,o,ho,_⟩:=mem_ready.1 hj
   have hlt:j<pre.length:=by
    have:=(Array.getElem?_eq_some_iff.1 ho).1
    simpa using this
   have h4:=h2 j hlt
   have hlt':j<L.size:=by omega
   simp[Array.getD_eq_getD_getElem?,hlt'] at h3 h4
   rw[h4] at h3
   cases h3
end
end
namespace Aw
open Go.RowKit
variable [Mk]{P:Program}{N:Nat}{l:List Oper}{F:Frm}{σ:List Ob}{Q:Exit→Frm→List Ob→Prop}
theorem zun {last:Oper}(hl:l.dropLast++[last]=l)(hk:z0h l.dropLast last=true)(h:zx4 P N l.dropLast F σ (zfe (fun F σ=>AOps P N l.toArray [last] F σ Q) Q)):zx4 P N l F σ Q:=fun G a hs=>by
 have h1:=h G a hs
 have h2:=ze9 (Q':=zjy P l.dropLast last (lift N G Q)) (fun e a w q=>by
  obtain⟨G',F',σ',rfl,g2,g3,g4⟩:=q
  unfold zjy
  rw[hl]
  cases e with
  |normal=>exact zch (fun e a w q=>zfh g2 (fun _ _ _ x=>x) q) _ _ _ (g4 G' a g3)
  |_=>exact⟨G',F',σ',rfl,g2,g3,g4⟩) _ _ _ _ h1
 have h3:=z0g (z3s hk) _ _ a G.w xm (Clo.none _) h2
 rw[hl] at h3
 have h4:l.length=l.dropLast.length+1:=by rw[←hl];simp
 rw[h4]
 rwa [show Array.replicate (l.dropLast.length+1) false=(Array.replicate l.dropLast.length false).push false by simp[Array.replicate_succ]]
end Aw
namespace Aw
open Go.RowKit
def zxa (G:Cx)(w':World):Cx:={base:=0,w0:=G.w,w:=w',mu:=fun _=>none,St:=fun b o=>G.St b o∨(G.w.heap.size≤b∧b<w'.heap.size)}
theorem zgm {P:Program}{f:FuncId}{args:List AV}{r:AV}(he:zok P f)(hl:Lo 0 r)
  (h: ∀ (G:Cx) (vargs:Array Value),StT G.St G.w→vargs.size=args.length→(∀ (j:Nat) v x,vargs[j]?=some v→args[j]?=some x→Rep G v x)→
   Calls P f vargs G.w fun e w'=> ∃v,e= .returned v∧Below G.w.heap.size G.w w'∧Rep (zxa G w') v r):Pure P f args r:=
 ⟨he,hl,fun G vargs hst hsz hrep=>(h G vargs hst hsz hrep).mono (by
  rintro e w' ⟨v,rfl,hb,hr⟩
  refine⟨v,zxa G w',rfl,rfl,hb,fun b o h=> .inl h,fun b o h=>?_,fun b o h=>?_,hr⟩
  ·
   exact h.imp (fun h=>h) (fun h=>h.1)
  ·
   rcases h with h|h
   ·
    have:=hst b o h;have:=hb.size;show b<w'.heap.size;omega
   ·
    exact h.2)⟩
theorem z5p {G:Cx}{α:Type}[Inhabited α]{size:Nat}{enc:α→List Value}{f:α→AV}(he: ∀a,(enc a).length=size)(hf: ∀a,(f a).cells.length=size)(h1: ∀a, ∀c∈(f a).cells,c.one=true)
  {lo hi:Nat} {v:Value} {l:List α} (h:Rd size enc G.w lo hi v l) (hs: ∀b o,lo≤b→b<hi→b<G.w.heap.size→G.St b o)
  (hr: ∀a∈l, ∀ (j:Nat) u c,(enc a)[j]?=some u→(f a).cells[j]?=some c→Rep G u c):Rep G v (eL f l):=by
 obtain⟨A,c,rfl,hc,hm⟩:=h.form
 unfold eL
 rcases Nat.eq_zero_or_pos l.length with h0|h0
 ·
  have:l=[]:=List.eq_nil_of_length_eq_zero h0
  subst this
  exact .slnil A c
 ·
  obtain⟨b,off,rfl,hlo,hhi,_⟩:=Rd.at_ h he (zbr h0)
  have key: ∀ (k:Nat) a (j:Nat) u,l[k]?=some a→(enc a)[j]?=some u→G.w.cell? ⟨b,off+(k*size+j),none⟩=some u:=by
   intro k a j u hk hu
   obtain⟨b2,off2,hA,_,_,h3⟩:=Rd.at_ h he hk
   cases hA
   exact h3 j u hu
  have hval: ∀ (k:Nat) e (j:Nat) c,(l.map f)[k]?=some e→e.cells[j]?=some c→ ∃a u,l[k]?=some a∧e=f a∧(enc a)[j]?=some u∧Rep G u c∧G.w.cell? ⟨b,off+k*size+j,none⟩=some u:=by
   intro k e j c hk hc
   rw[List.getElem?_map] at hk
   cases ha:l[k]? with
   |none=>rw[ha] at hk;cases hk
   |some a=>
    rw[ha] at hk
    simp only[Option.map_some,Option.some.injEq] at hk
    subst hk
    have hj:j<(enc a).length:=by rw[he, ←hf a];exact(List.getElem?_eq_some_iff.1 hc).1
    refine⟨a,(enc a)[j],rfl,rfl,List.getElem?_eq_getElem hj,hr a (List.mem_of_getElem? ha) j _ c (List.getElem?_eq_getElem hj) hc,?_⟩
    rw[Nat.add_assoc]
    exact key k a j _ ha (List.getElem?_eq_getElem hj)
  have hlen:l.length=(l.map f).length:=by simp
  rw[hlen]
  refine .sl b off c size (l.map f) (fun k j=>(G.w.cell? ⟨b,off+k*size+j,none⟩).getD undef) (by simpa using hc) (by simpa[maxLen] using hm) (fun k e hk=>?_) (fun k e j c hk hc=>?_) (fun k e j c hk hc=>?_)
  ·
   obtain⟨a,_,rfl⟩:=List.mem_map.1 (List.mem_of_getElem? hk)
   exact⟨hf a,h1 a⟩
  ·
   obtain⟨a,u,_,_,_,_,h6⟩:=hval k e j c hk hc
   exact⟨hs b _ hlo hhi (World.block_lt_of_cell? _ _ h6),by rw[h6];rfl⟩
  ·
   obtain⟨a,u,_,_,_,h5,h6⟩:=hval k e j c hk hc
   rw[h6];exact h5
theorem zyx {G:Cx}{α:Type}[Inhabited α]{size:Nat}{enc:α→List Value}{f:α→AV}(hsz:0<size)(he: ∀a,(enc a).length=size)(hf: ∀a,(f a).cells.length=size)
  {v:Value} {l:List α} (h:Rep G v (eL f l)) (hs: ∀b o,G.St b o→b<G.w.heap.size)
  (hr: ∀a∈l, ∀ (j:Nat) u c v,(enc a)[j]?=some u→(f a).cells[j]?=some c→Rep G v c→v=u):Rd size enc G.w 0 G.w.heap.size v l:=by
 unfold eL at h
 generalize hL:l.map f=L at h
 cases h with
 |slnil A cap=>
  have:l=[]:=by simpa using hL
  subst this
  exact⟨by simp,A,cap,rfl,Nat.zero_le _,Nat.zero_le _,fun h=>by simp at h⟩
 | sl b o cap sz _ val hc hm h1 h2 h=>
  subst hL
  simp only[List.length_map] at*
  have key: ∀ (k:Nat) a (j:Nat) u,l[k]?=some a→(enc a)[j]?=some u→G.w.cell? ⟨b,o+(k*size+j),none⟩=some u:=by
   intro k a j u hk hu
   have hk2:(l.map f)[k]?=some (f a):=by rw[List.getElem?_map,hk];rfl
   have hsz':sz=size:=by rw[← (h1 k _ hk2).1,hf]
   subst hsz'
   have hj:j<(f a).cells.length:=by rw[hf, ←he a];exact(List.getElem?_eq_some_iff.1 hu).1
   have hj2:=List.getElem?_eq_getElem hj
   have h3:=h2 k _ j _ hk2 hj2
   rw[Nat.add_assoc] at h3
   rw[h3.2,hr a (List.mem_of_getElem? hk) j u _ _ hu hj2 (h k _ j _ hk2 hj2)]
  refine⟨zde he l,_,cap,rfl,hc,hm,fun hn=>⟨b,o,rfl,Nat.zero_le _,?_,fun j u hu=>?_⟩⟩
  ·
   have h0:=zbr hn
   have hk2:(l.map f)[0]?=some (f (gti l 0)):=by rw[List.getElem?_map,h0];rfl
   have hj:0<(f (gti l 0)).cells.length:=by rw[hf];exact hsz
   exact hs _ _ (h2 0 _ 0 _ hk2 (List.getElem?_eq_getElem hj)).1
  ·
   have hlt:j<l.length*size:=by
    have:=(List.getElem?_eq_some_iff.1 hu).1
    rwa [zde he] at this
   have hk:j / size<l.length:=Nat.div_lt_of_lt_mul (by rw[Nat.mul_comm];exact hlt)
   have hjm:j % size<(enc (gti l (j / size))).length:=by rw[he];exact Nat.mod_lt _ hsz
   have h5:=zf4 he l (j / size) (gti l (j / size)) (j % size) _ (zbr hk) (List.getElem?_eq_getElem hjm)
   have h6:=key (j / size) _ (j % size) _ (zbr hk) (List.getElem?_eq_getElem hjm)
   have h7:j / size*size+j % size=j:=by rw[Nat.mul_comm];exact Nat.div_add_mod _ _
   rw[h7] at h5 h6
   rw[h5] at hu
   cases hu
   exact h6
theorem z65 {G:Cx}{lo hi:Nat}{v:Value}{l:List Int}(h:RdI G.w lo hi v l)(hs: ∀b o,lo≤b→b<hi→b<G.w.heap.size→G.St b o):Rep G v (eL eI l):=
 z5p (size:=1) (enc:=encI) (f:=eI) xm (fun _=>rfl) (fun a c hc=>by simp[eI,AV.cells] at hc;subst hc;rfl) h hs (fun a _ j u c hu hc=>by
  cases j with
  |zero=>simp[eI,AV.cells] at hu hc;subst hu hc;exact .s _
  |succ j=>simp at hu)
theorem zjh {G:Cx}{v:Value}{l:List Int}(h:Rep G v (eL eI l))(hs: ∀b o,G.St b o→b<G.w.heap.size):RdI G.w 0 G.w.heap.size v l:=
 zyx (size:=1) (enc:=encI) (f:=eI) xe xm (fun _=>rfl) h hs (fun a _ j u c v hu hc hv=>by
  cases j with
  |zero=>simp[eI,AV.cells] at hu hc;subst hu hc;exact zc5 hv
  |succ j=>simp at hu)
theorem zky {G:Cx}{v:Value}{l:List ByteArray}(h:Rep G v (eL eS l))(hs: ∀b o,G.St b o→b<G.w.heap.size):RdS G.w 0 G.w.heap.size v l:=
 zyx (size:=1) (enc:=encS) (f:=eS) xe xm (fun _=>rfl) h hs (fun a _ j u c v hu hc hv=>by
  cases j with
  |zero=>simp[eS,AV.cells] at hu hc;subst hu hc;exact zc5 hv
  |succ j=>simp at hu)
end Aw
namespace Aw
open Go.RowKit
variable [Mk]
def RnL (ρ:List Nat)(l l':List AV):Prop:=l.length=l'.length∧ ∀ (j:Nat) x y,l[j]?=some x→l'[j]?=some y→Rn ρ x y
theorem RnL.nil {ρ:List Nat}:RnL ρ [] []:=⟨rfl,by simp⟩
theorem RnL.cons {ρ:List Nat}{x y:AV}{l l':List AV}(h:Rn ρ x y)(t:RnL ρ l l'):RnL ρ (x::l) (y::l'):=by
 refine⟨by simp[t.1],fun j a b ha hb=>?_⟩
 cases j with
 |zero=>simp at ha hb;subst ha hb;exact h
 |succ j=>exact t.2 j a b (by simpa using ha) (by simpa using hb)
theorem zco {ρ:List Nat}{sz:Nat}{cs cs':List AV}(h:RnL ρ cs cs'):ObRn ρ (.row sz [.agg cs]) (.row sz [.agg cs']):= .rowR sz _ _ (.agg cs cs' h.1 h.2) h.2 h.1
section
variable {N:Nat}{F F':Frm}{σ σ':List Ob}
theorem zij {G:Cx}{id sz:Nat}{cs cs':List AV}(hr:Rel G σ)(hs:σ[id]?=some (.row sz cs))(h0:cs=[]→cs'=[])(h: ∀b f,zev G b sz cs f→zev G b sz cs' f):Rel G (σ.set id (.row sz cs')):=by
 have hid:id<σ.length:=(List.getElem?_eq_some_iff.1 hs).1
 refine⟨hr.below,hr.le,hr.st,fun i ob hob=>?_,fun i j b hi hj hm hm'=>?_,fun i hi=>hr.fresh i (by simpa using hi)⟩
 ·
  by_cases hi:id=i
  ·
   subst hi
   rw[List.getElem?_set_self hid] at hob
   cases hob
   have h1:=hr.obs id _ hs
   simp only[ObOk] at h1⊢
   cases hx:G.mu id with
   |none=>rw[hx] at h1;exact h1
   |some x=>
    rw[hx] at h1
    cases x with
    |none=>exact h0 h1
    |some b=>exact⟨h b _ h1.1,h1.2⟩
  ·
   rw[List.getElem?_set_ne hi] at hob;exact hr.obs i ob hob
 ·
  have old: ∀i,zed (σ.set id (.row sz cs')) i→zed σ i:=by
   rintro i ⟨sz1,cs1,hi⟩
   by_cases h2:id=i
   ·
    subst h2;exact⟨sz,cs,hs⟩
   ·
    rw[List.getElem?_set_ne h2] at hi;exact⟨sz1,cs1,hi⟩
  exact hr.inj i j b (old i hi) (old j hj) hm hm'
theorem zgl {id sz sz2:Nat}{e e':AV}{pre post:List AV}(hs:σ[id]?=some (.row sz [e]))(h1:e.cells=pre++ .s (.slice none 0 0)::post)(h2:e'.cells=pre++ .own σ.length sz2 0::post):
  Weak N F σ F (σ.set id (.row sz [e'])++[.row sz2 []]):=fun G a h=>by
 have he:=zh2 h.rel
 have hr:=zjj h.rel sz2
 have hid:id<σ.length:=(List.getElem?_eq_some_iff.1 hs).1
 refine⟨G.new σ.length G.w none,rfl,he.step,?_,h.fr.ext he,h.df,h.nt⟩
 have hset:σ.set id (Ob.row sz [e'])++[Ob.row sz2 []]=(σ++[Ob.row sz2 []]).set id (Ob.row sz [e']):=by rw[List.set_append_left _ _ hid]
 rw[hset]
 refine zij hr (by rw[List.getElem?_append_left hid];exact hs) (fun h=>by cases h) ?_
 rintro b f ⟨cur,t,fr,g1,g2,g3,g4⟩
 refine⟨cur,t,fr,g1,g2,g3,fun k y hy=>?_⟩
 cases k with
 |succ k=>simp at hy
 | zero=>
  simp at hy
  subst hy
  obtain⟨k1,k2,k3⟩:=g4 0 e rfl
  rw[h1] at k1 k2 k3
  rw[h2]
  refine⟨by simpa using k1,fun c hc=>?_,fun j c hc=>?_⟩
  ·
   simp only[List.mem_append,List.mem_cons] at hc
   rcases hc with hc|rfl|hc
   ·
    exact k2 c (by simp[hc])
   ·
    rfl
   ·
    exact k2 c (by simp[hc])
  ·
   by_cases hj:j=pre.length
   ·
    subst hj
    simp at hc
    subst hc
    obtain⟨v,h6,h7⟩:=k3 pre.length (.s (.slice none 0 0)) xm
    refine⟨v,h6,?_⟩
    cases h7
    exact .own0 σ.length sz2 none (fun a ha=>by cases ha) (by simp[Cx.new])
   ·
    have e:(pre++AV.s (.slice none 0 0)::post)[j]?=some c:=by
     rw[←hc]
     by_cases hlt:j<pre.length
     ·
      rw[List.getElem?_append_left hlt,List.getElem?_append_left hlt]
     ·
      rw[List.getElem?_append_right xa,List.getElem?_append_right xa]
      obtain⟨i,hi⟩: ∃i,j-pre.length=i+1:=⟨j-pre.length-1,by omega⟩
      rw[hi];rfl
    exact k3 j c e
end
section
variable {P:Program}{o:Oper}{F:Frm}{σ:List Ob}
theorem zq1 {sz n:Nat}{l:List AV}(h:Does P o F [] (.own 0 sz n) [.row sz l])(hn:n=l.length)(hop0: ∀y∈o.op.operands,Lo 0 (F.eval y))(hlo:Lo 0 (.sl l)):Does P o F σ (.sl l) σ:=by
 intro G a next Q hr hop hk
 obtain⟨G0,hG0⟩: ∃G0:Cx,G0={base:=G.w.heap.size,w0:=G.w,w:=G.w,mu:=fun _=>none,St:=G.St}:=⟨_,rfl⟩
 have hr0:Rel G0 []:=by
  subst hG0
  exact⟨⟨Below.refl _ _,hr.below.now,hr.below.now.lt⟩,Nat.le_refl _,fun b o h=>h.elim (fun h=>hr.st b o (.inl h)) False.elim,fun id ob h=>by simp at h,fun i j b hi _ _ _=>by obtain⟨_,_,h⟩:=hi;simp at h,fun _ _=>rfl⟩
 have hw:G.w=G0.w:=by subst hG0;rfl
 rw[hw]
 refine h G0 a next Q hr0 (fun y hy=>(hop y hy).low (hop0 y hy) (by subst hG0;exact fun _ _ h=>h) (by subst hG0;exact fun _ _ _=>rfl) (fun id y h=>by omega) (fun h=>by omega)) (fun v G1 he hr1 hrep=>?_)
 obtain⟨he2,hr2⟩:=zqp hr1 (id:=0) (sz:=sz) (cs:=l) rfl
 have hrep2:=zvf hr2 (id:=0) (sz:=sz) (cs:=l) rfl hn (hrep.ext he2)
 have hb0:G1.base=G.w.heap.size:=by rw[he.base];subst hG0;rfl
 have hw0:(G1.froz 0).w0=G.w:=by show G1.w0=_;rw[he.w0];subst hG0;rfl
 have hbel:Below G.w.heap.size G.w (G1.froz 0).w:=by have:=hr2.below;rw[show(G1.froz 0).base=G.w.heap.size from hb0,hw0] at this;exact this.toBelow
 have hSt:G0.St=G.St:=by subst hG0;rfl
 obtain⟨h4,h5⟩:=ziw (G1:=G1.froz 0) hr rfl hbel (fun b o h=>he2.st _ _ (he.st _ _ (by rw[hSt];exact h))) (fun b o h=>by
  rcases he2.stN b o h with h1|h1
  ·
   rcases he.stN b o h1 with h2|h2
   ·
    rw[hSt] at h2;exact .inl h2
   ·
    right;have e:G0.base=G.w.heap.size:=by subst hG0;rfl
    omega
  ·
   right;omega) (fun b o h=>hr2.st b o (.inl h))
 exact hk v {G with w:=(G1.froz 0).w,St:=(G1.froz 0).St} h4 h5 (hrep2.low hlo (fun _ _ h=>h) (fun _ _ _=>rfl) (fun id y h=>by omega) (fun h=>by omega))
theorem zjl {t e:TypeId}{y:Operand}{z:Value}{bt:Nat}{v:Value}(ho:o.op= .buildSlice t 1 #[(0,y)])(ht:za5 P t=some e)(hi:za6 P e=some (some z,1,bt))
  (h1:(ofValue z).cells.all AV.one=true) (hn:(ofValue z).cells.length=1) (hy:F.eval y= .s v) (hx:(AV.s v).one=true):Does P o F σ (.sl [.s v]) σ:=
 zq1 (lit1_s ho ht hi h1 hn hy hx) rfl (fun u hu=>by simp[ho,Op.operands] at hu;subst hu;rw[hy];exact .s _) (.sl _ (zaj (.s _) zba))
theorem zvr {t e:TypeId}{y:Operand}{z:Value}{bt:Nat}{l:List AV}(ho:o.op= .buildSlice t 1 #[(0,y)])(ht:za5 P t=some e)(hi:za6 P e=some (some z,1,bt))
  (h1:(ofValue z).cells.all AV.one=true) (hn:(ofValue z).cells.length=1) (hy:F.eval y= .sl l) (hx:(AV.sl l).one=true) (hl:Lo 0 (.sl l)):Does P o F σ (.sl [.sl l]) σ:=
 zq1 (z7y ho ht hi h1 hn hy hx) rfl (fun u hu=>by simp[ho,Op.operands] at hu;subst hu;rw[hy];exact hl) (.sl _ (zaj hl zba))
theorem zel {t e:TypeId}{y:Operand}{z:Value}{n bt:Nat}{cs:List AV}(ho:o.op= .buildSlice t 1 #[(0,y)])(ht:za5 P t=some e)(hi:za6 P e=some (some z,n,bt))
  (h1:(ofValue z).cells.all AV.one=true) (hn:(ofValue z).cells.length=n) (h2:2≤n) (hsm:n≤16777216) (hy:F.eval y= .agg cs) (hx:cs.all AV.one=true) (hl:cs.length=n) (hlo:Lo 0 (.agg cs)):Does P o F σ (.sl [.agg cs]) σ:=
 zq1 (zko ho ht hi h1 hn h2 hsm hy hx hl) rfl (fun u hu=>by simp[ho,Op.operands] at hu;subst hu;rw[hy];exact hlo) (.sl _ (zaj hlo zba))
end
section
variable {P:Program}{F:Frm}{σ:List Ob}
end
end Aw
namespace Aw
open Go.RowKit
section
variable [Mk]{P:Program}{N:Nat}{F:Frm}{σ:List Ob}{Q:Exit→Frm→List Ob→Prop}{ops:Array Oper}{o:Oper}{l:List Oper}{d:Nat}
theorem zk4 {p:Prop}[Decidable p](hd:o.dst=some d)(hN:Nat.blt d N=true)(hr:Runs ops F o true)(hD:Does P o F σ (.s (.bool (decide p))) σ)(k1:p→AOps P N ops l ((d, .s (.bool true))::F) σ Q)(k2: ¬p→AOps P N ops l ((d, .s (.bool false))::F) σ Q):AOps P N ops (o::l) F σ Q:=by
 by_cases h:p
 ·
  exact zad hd hN hr (zbn h hD) (k1 h)
 ·
  exact zad hd hN hr (zbl h hD) (k2 h)
end
end Aw
namespace Aw
open Go.RowKit
variable [Mk]
section
variable {P:Program}{N:Nat}{l:List Oper}{F F':Frm}{σ:List Ob}{out:List (Nat × AV)}{Q:Exit→Frm→List Ob→Prop}
variable {ops:Array Oper}{all:List Oper}{acc:List Nat}{K:Frm→List Ob→Prop}
end
end Aw
namespace Aw
open Go.RowKit
def eT (t:Tr):AV:= .agg [eS t.label,eL eI t.inn,eL eI t.out]
def eN (n:Net):AV:= .agg [eI n.places,eL eT n.trans,eI n.source,eI n.sink]
theorem z6x {G:Cx}{v:Value}{l:List Tr}(h:Rep G v (eL eT l))(hs: ∀b o,G.St b o→b<G.w.heap.size):RdT G.w 0 G.w.heap.size v l:=by
 unfold eL at h
 generalize hL:l.map eT=L at h
 cases h with
 |slnil A cap=>
  have:l=[]:=by simpa using hL
  subst this
  exact⟨[],⟨by simp,A,cap,rfl,Nat.zero_le _,Nat.zero_le _,fun h=>by simp at h⟩,rfl,fun k hk=>by simp at hk⟩
 | sl b o cap sz _ val hc hm h1 h2 h=>
  subst hL
  simp only[List.length_map] at*
  have hk2: ∀k,k<l.length→(l.map eT)[k]?=some (eT (gti l k)):=fun k hk=>by rw[List.getElem?_map,zbr hk];rfl
  refine⟨(List.range l.length).map fun k=>⟨(gti l k).label,val k 1,val k 2⟩,?_,by simp,fun k hk=>?_⟩
  ·
   have hlen:((List.range l.length).map fun k=>(⟨(gti l k).label,val k 1,val k 2⟩:TrV)).length=l.length:=by simp
   refine⟨zde xm _,_,cap,by rw[hlen],by simpa using hc,by simpa using hm,fun hn=>⟨b,o,rfl,Nat.zero_le _,?_,fun j u hu=>?_⟩⟩
   ·
    rw[hlen] at hn
    exact hs _ _ (h2 0 _ 0 _ (hk2 0 hn) rfl).1
   ·
    have hlt:j<l.length*3:=by
     have:=(List.getElem?_eq_some_iff.1 hu).1
     rwa [zde (size:=3) xm,hlen] at this
    have hk:j / 3<l.length:=by omega
    have hg:((List.range l.length).map fun k=>(⟨(gti l k).label,val k 1,val k 2⟩:TrV))[j / 3]?=some ⟨(gti l (j / 3)).label,val (j / 3) 1,val (j / 3) 2⟩:=by simp[hk]
    have hjm:j % 3<3:=Nat.mod_lt _ xe
    have hsz:sz=3:=by rw[← (h1 _ _ (hk2 _ hk)).1];rfl
    subst hsz
    have h7:j / 3*3+j % 3=j:=by rw[Nat.mul_comm];exact Nat.div_add_mod _ _
    have key: ∀ (i:Nat) u c,(encV ⟨(gti l (j / 3)).label,val (j / 3) 1,val (j / 3) 2⟩)[i]?=some u→(eT (gti l (j / 3))).cells[i]?=some c→j % 3=i→G.w.cell? ⟨b,o+j,none⟩=some (val (j / 3) i):=by
     intro i u c _ hc2 hi
     have h3:=(h2 (j / 3) _ i c (hk2 _ hk) hc2).2
     rw[←hi] at h3⊢
     rw[Nat.add_assoc,h7] at h3
     exact h3
    have hu2: ∀i u',j % 3=i→(encV ⟨(gti l (j / 3)).label,val (j / 3) 1,val (j / 3) 2⟩)[i]?=some u'→u=u':=by
     intro i u' hi hu'
     have h5:=zf4 (size:=3) (enc:=encV) xm _ (j / 3) _ i u' hg hu'
     rw[←hi,h7,hu] at h5
     injection h5
    have h3:j % 3=0∨j % 3=1∨j % 3=2:=by omega
    rcases h3 with h3|h3|h3
    ·
     rw[hu2 0 _ h3 J,key 0 _ _ J J h3]
     have:=h (j / 3) _ 0 _ (hk2 _ hk) rfl
     rw[zc5 this]
    ·
     rw[hu2 1 _ h3 J,key 1 _ _ J J h3]
    ·
     rw[hu2 2 _ h3 J,key 2 _ _ J J h3]
  ·
   have hg:gti ((List.range l.length).map fun k=>(⟨(gti l k).label,val k 1,val k 2⟩:TrV)) k=⟨(gti l k).label,val k 1,val k 2⟩:=by
    unfold gti;simp[hk]
   rw[hg]
   exact⟨rfl,zjh (h k _ 1 _ (hk2 k hk) rfl) hs,zjh (h k _ 2 _ (hk2 k hk) rfl) hs⟩
theorem zkz {G:Cx}{v:Value}{n:Net}(h:Rep G v (eN n))(hs: ∀b o,G.St b o→b<G.w.heap.size): ∃vt,v=netV n vt∧RdT G.w 0 G.w.heap.size vt n.trans:=by
 unfold eN at h
 cases h with
 | agg vs _ hl h1 h=>
  obtain⟨l⟩:=vs
  match l,hl with
  |[a,b,c,d],_=>
   have ha:=zc5 (h 0 a _ J J)
   have hc:=zc5 (h 2 c _ J J)
   have hd:=zc5 (h 3 d _ J J)
   subst ha hc hd
   exact⟨b,rfl,z6x (h 1 b _ J J) hs⟩
end Aw
namespace Aw
open Go Go.Proofs Go.RowKit
end Aw
namespace Aw
open Go.RowKit
variable [Mk]
section
variable {P:Program}{N:Nat}{l:List Oper}{F F1:Frm}{σ σ1:List Ob}{Q:Exit→Frm→List Ob→Prop}
end
end Aw
end Go.Proofs.YtjdpnadhgjohnaaGreatDoor
