import Derived.Test.YtjdpnadhgjohnaaGreatDoorJN0
import Derived.Test.YtjdpnadhgjohnaaGreatDoorJN3
import Derived.Test.YtjdpnadhgjohnaaGreatDoorJN4
import Derived.Deep.LoopGhost
set_option linter.unusedSimpArgs false
set_option linter.unusedVariables false
set_option linter.unusedSectionVars false
section
namespace Go.Proofs.YtjdpnadhgjohnaaGreatDoor.Aw
open Go.RowKit
variable [Mk]
def lift (N:Nat)(G:Cx)(Q:Exit→Frm→List Ob→Prop):Exit→Act→World→Prop:=
 fun e a' w'=> ∃G' F' σ',G'.w=w'∧G.Step G'∧S8 N G' a' F' σ'∧Q e F' σ'
theorem zfh {N:Nat}{G G1:Cx}(h:G.Step G1){Q Q':Exit→Frm→List Ob→Prop}(hq: ∀e F σ,Q e F σ→Q' e F σ){e:Exit}{a:Act}{w:World}(x:lift N G1 Q e a w):lift N G Q' e a w:=by
 obtain⟨G',F',σ',h1,h2,h3,h4⟩:=x
 exact⟨G',F',σ',h1,h.trans h2,h3,hq _ _ _ h4⟩
def AWp (P:Program)(N:Nat)(c:Code)(F:Frm)(σ:List Ob)(Q:Exit→Frm→List Ob→Prop):Prop:=
 ∀G a,S8 N G a F σ→c.wp P (lift N G Q) a G.w
def AOps (P:Program)(N:Nat)(ops:Array Oper)(l:List Oper)(F:Frm)(σ:List Ob)(Q:Exit→Frm→List Ob→Prop):Prop:=
 ∀G a,S8 N G a F σ→wpList P ops (lift N G Q) l a G.w
def zfe (next:Frm→List Ob→Prop)(Q:Exit→Frm→List Ob→Prop):Exit→Frm→List Ob→Prop
 | .normal,F,σ=>next F σ
 |e,F,σ=>Q e F σ
def ABlk (id:Nat)(Q:Exit→Frm→List Ob→Prop):Exit→Frm→List Ob→Prop
 | .exit id',F,σ=>if id'=id then Q .normal F σ else Q (.exit id') F σ
 |e,F,σ=>Q e F σ
theorem zrl {P:Program}{o:Oper}{a:Act}{K K':Act→World→Prop}{Q Q':Exit→Act→World→Prop}(hK: ∀a w,K a w→K' a w)(hQ: ∀e a w,Q e a w→Q' e a w){r:Result Next}(h:o.upon P a K Q r):o.upon P a K' Q' r:=by
 have hout:LetsOut Q→LetsOut Q':=fun ⟨a,w,q⟩=>⟨a,w,hQ _ _ _ q⟩
 cases r with
 | ok n w=>
  cases n<;>simp only[Oper.upon] at h⊢ <;>
   first
    |exact hK _ _ h
    |exact h.elim
    |exact Calls.mono h (fun e w'' he=>by cases e<;>first|exact hK _ _ he|exact hQ _ _ _ he|exact hout he)
    |exact Rows.mono h (fun v w he=>hK _ _ he)
 |halt x w=>cases x<;>simp only[Oper.upon] at h⊢ <;>first|exact hQ _ _ _ h|exact h.elim
theorem zch {P:Program}{ops:Array Oper}{Q Q':Exit→Act→World→Prop}(hQ: ∀e a w,Q e a w→Q' e a w): ∀ (l:List Oper) (a:Act) (w:World),wpList P ops Q l a w→wpList P ops Q' l a w
 |[],a,w,h=>hQ _ _ _ h
 | o::l,a,w,h=>by
  unfold wpList at h⊢
  split
  ·
   rename_i hw
   rw[if_pos hw] at h
   rcases h with h|⟨h1,a0,w0,h2⟩
   ·
    exact .inl (zrl (fun a w x=>zch hQ l a w x) hQ h)
   ·
    exact .inr ⟨h1,a0,w0,hQ _ _ _ h2⟩
  ·
   rename_i hw
   rw[if_neg hw] at h
   exact zch hQ l _ w h
section
variable {P:Program}{N:Nat}{F:Frm}{σ:List Ob}{Q:Exit→Frm→List Ob→Prop}
theorem zag {x y:Code}(h:AWp P N x F σ (zfe (fun F σ=>AWp P N y F σ Q) Q)):AWp P N (.seq x y) F σ Q:=fun G a hs=>by
 refine wp_seq (Code.wp_mono (fun e a1 w1 q=>?_) (h G a hs))
 obtain⟨G',F',σ',rfl,h2,h3,h4⟩:=q
 cases e with
 |normal=>exact Code.wp_mono (fun e a w q=>zfh h2 (fun _ _ _ x=>x) q) (h4 G' a1 h3)
 |_=>exact⟨G',F',σ',rfl,h2,h3,h4⟩
theorem zav (h:Q .normal F σ):AWp P N .skip F σ Q:=fun G a hs=>wp_skip ⟨G,F,σ,rfl, .refl G,hs,h⟩
theorem zdz {id:Nat}(h:Q (.exit id) F σ):AWp P N (.exit id) F σ Q:=fun G a hs=>wp_exit ⟨G,F,σ,rfl, .refl G,hs,h⟩
theorem za3 (h:Q .ret F σ):AWp P N .ret F σ Q:=fun G a hs=>wp_ret ⟨G,F,σ,rfl, .refl G,hs,h⟩
theorem za9 {id:Nat}{c:Code}(h:AWp P N c F σ (ABlk id Q)):AWp P N (.block id c) F σ Q:=fun G a hs=>by
 refine wp_block (Code.wp_mono (fun e a1 w1 q=>?_) (h G a hs))
 obtain⟨G',F',σ',rfl,h2,h3,h4⟩:=q
 cases e with
 | exit id'=>
  simp only[ABlk] at h4
  simp only[Exit.inBlock]
  split
  ·
   rename_i e;rw[if_pos e] at h4;exact⟨G',F',σ',rfl,h2,h3,h4⟩
  ·
   rename_i e;rw[if_neg e] at h4;exact⟨G',F',σ',rfl,h2,h3,h4⟩
 |_=>exact⟨G',F',σ',rfl,h2,h3,h4⟩
theorem zj2 {G:Cx}{a:Act}{y:Operand}{b:Bool}(hf:FOk G a F)(h:F.eval y= .s (.bool b)):a.eval y= .bool b:=by
 have:=zc1 hf y
 rw[h] at this
 generalize a.eval y=v at*
 cases this;rfl
theorem zoh {c:Operand}{x y:Code}{b:Bool}(hc:F.eval c= .s (.bool b))(ht:b=true→AWp P N x F σ Q)(hf:b=false→AWp P N y F σ Q):AWp P N (.cond c x y) F σ Q:=fun G a hs=>
 wp_cond_split (zj2 hs.fr hc) (fun e=>ht e G a hs) (fun e=>hf e G a hs)
theorem aw_if {c:Operand}{x y:Code}{p:Prop}[Decidable p](hc:F.eval c= .s (.bool (decide p)))(ht:p→AWp P N x F σ Q)(hf: ¬p→AWp P N y F σ Q):AWp P N (.cond c x y) F σ Q:=
 zoh hc (fun e=>ht (of_decide_eq_true e)) (fun e=>hf (of_decide_eq_false e))
theorem za7 {c:Operand}{x y:Code}(hc:F.eval c= .s (.bool true))(ht:AWp P N x F σ Q):AWp P N (.cond c x y) F σ Q:=zoh hc (fun _=>ht) (fun e=>by cases e)
theorem zaw {c:Operand}{x y:Code}(hc:F.eval c= .s (.bool false))(ht:AWp P N y F σ Q):AWp P N (.cond c x y) F σ Q:=zoh hc (fun e=>by cases e) (fun _=>ht)
theorem z84 {c:Code}(I:Nat→Frm→List Ob→Prop)(m:Nat)(h0:I m F σ)
  (round: ∀m F σ,I m F σ→AWp P N c F σ (zfe (fun F' σ'=> ∃m',m'<m∧I m' F' σ') Q)):AWp P N (.loop c) F σ Q:=fun G a hs=>by
 refine wp_loop_ghost (fun n a w=> ∃G' F' σ',G'.w=w∧G.Step G'∧S8 N G' a F' σ'∧I n F' σ') m ⟨G,F,σ,rfl, .refl G,hs,h0⟩ ?_
 rintro n a w ⟨G',F',σ',rfl,h2,h3,h4⟩
 refine Code.wp_mono (fun e a1 w1 q=>?_) (round n F' σ' h4 G' a h3)
 obtain⟨G2,F2,σ2,rfl,h5,h6,h7⟩:=q
 cases e with
 |normal=>obtain⟨m',hm,hi⟩:=h7;exact⟨m',hm,⟨G2,F2,σ2,rfl,h2.trans h5,h6,hi⟩⟩
 |_=>exact⟨G2,F2,σ2,rfl,h2.trans h5,h6,h7⟩
theorem zab {id:Nat}{l:List Oper}(h:AOps P N l.toArray l F σ Q):AWp P N (.region id l.toArray false) F σ Q:=fun G a hs=>wp_region_lit (h G a hs)
theorem zuj {c:Code}{Q':Exit→Frm→List Ob→Prop}(h:AWp P N c F σ Q)(hq: ∀e F σ,Q e F σ→Q' e F σ):AWp P N c F σ Q':=fun G a hs=>
 Code.wp_mono (fun e a w q=>zfh (.refl G) hq q) (h G a hs)
def Weak (N:Nat)(F:Frm)(σ:List Ob)(F':Frm)(σ':List Ob):Prop:= ∀G a,S8 N G a F σ→ ∃G',G'.w=G.w∧G.Step G'∧S8 N G' a F' σ'
theorem Weak.refl:Weak N F σ F σ:=fun G a h=>⟨G,rfl, .refl G,h⟩
theorem Weak.trans {F1 F2:Frm}{σ1 σ2:List Ob}(h:Weak N F σ F1 σ1)(k:Weak N F1 σ1 F2 σ2):Weak N F σ F2 σ2:=fun G a hs=>by
 obtain⟨G1,e1,s1,h1⟩:=h G a hs
 obtain⟨G2,e2,s2,h2⟩:=k G1 a h1
 exact⟨G2,e2.trans e1,s1.trans s2,h2⟩
theorem za4 {c:Code}{F':Frm}{σ':List Ob}(w:Weak N F σ F' σ')(h:AWp P N c F' σ' Q):AWp P N c F σ Q:=fun G a hs=>by
 obtain⟨G1,e1,s1,h1⟩:=w G a hs
 rw[←e1]
 exact Code.wp_mono (fun e a w q=>zfh s1 (fun _ _ _ x=>x) q) (h G1 a h1)
theorem zax {ops:Array Oper}{l:List Oper}{F':Frm}{σ':List Ob}(w:Weak N F σ F' σ')(h:AOps P N ops l F' σ' Q):AOps P N ops l F σ Q:=fun G a hs=>by
 obtain⟨G1,e1,s1,h1⟩:=w G a hs
 rw[←e1]
 exact zch (fun e a w q=>zfh s1 (fun _ _ _ x=>x) q) _ _ _ (h G1 a h1)
end
def Does (P:Program)(o:Oper)(F:Frm)(σ:List Ob)(x:AV)(σ':List Ob):Prop:=
 ∀ (G:Cx) (a:Act) (next:Act→World→Prop) (Q:Exit→Act→World→Prop),Rel G σ→(∀y∈o.op.operands,Rep G (a.eval y) (F.eval y))→
  (∀v G',G.Ext G'→Rel G' σ'→Rep G' v x→next (a.put o.dst v) G'.w)→o.wp P a G.w next Q
theorem S8.step {N:Nat}{G G':Cx}{a:Act}{F:Frm}{σ σ':List Ob}(h:S8 N G a F σ)(e:G.Ext G')(r:Rel G' σ'):S8 N G' a F σ':=⟨r,h.fr.ext e,h.df.step e.step,h.nt⟩
theorem S8.put {N:Nat}{G:Cx}{a:Act}{F:Frm}{σ:List Ob}{d:Nat}{v:Value}{x:AV}(h:S8 N G a F σ)(hd:d<N)(hv:Rep G v x):S8 N G (a.put (some d) v) ((d,x)::F) σ:=
 ⟨h.rel,h.fr.put (by rw[h.nt];exact hd) hv,h.df,by simp[Act.put,h.nt]⟩
def Runs (ops:Array Oper)(F:Frm)(o:Oper)(b:Bool):Prop:=
 match o.guard with
 |none=>b=true
 |some (j,want)=> ∃t,(ops[j]?).bind (·.dst)=some t∧((∃c,F.get t= .s (.bool c)∧b=(c==want))∨(F.get t= .s undef∧b=false))
theorem zaa {ops:Array Oper}{F:Frm}{o:Oper}(h:o.guard=none):Runs ops F o true:=by simp[Runs,h]
theorem zmw {ops:Array Oper}{F:Frm}{o:Oper}{j:Nat}{want c:Bool}{t:Nat}(h:o.guard=some (j,want))(hd:(ops[j]?).bind (·.dst)=some t)(hc:F.get t= .s (.bool c)):Runs ops F o (c==want):=by
 simp only[Runs,h]
 exact⟨t,hd, .inl ⟨c,hc,rfl⟩⟩
theorem zct {ops:Array Oper}{F:Frm}{o:Oper}{j:Nat}{want:Bool}{t:Nat}(h:o.guard=some (j,want))(hd:(ops[j]?).bind (·.dst)=some t)(hc:F.get t= .s undef):Runs ops F o false:=by
 simp only[Runs,h]
 exact⟨t,hd, .inr ⟨hc,trivial⟩⟩
theorem Runs.wanted {ops:Array Oper}{F:Frm}{o:Oper}{b:Bool}{G:Cx}{a:Act}(h:Runs ops F o b)(hf:FOk G a F):Region.wanted o (yielded ops a.tmps)=b:=by
 unfold Runs at h
 unfold Region.wanted
 cases hg:o.guard with
 |none=>rw[hg] at h;exact h.symm
 | some jb=>
  obtain⟨j,want⟩:=jb
  rw[hg] at h
  obtain⟨t,h1,⟨c,h2,rfl⟩|⟨h2,rfl⟩⟩:=h
  case inr=>
   simp only
   have h3:=hf t
   rw[h2] at h3
   have h5:a.tmps.getD t undef=undef:=by generalize a.tmps.getD t undef=v at*;cases h3;rfl
   rw[Array.getD_eq_getD_getElem?] at h5
   cases h6:a.tmps[t]? with
   |none=>simp[yielded,h1,h6]
   |some u=>
    rw[h6] at h5
    simp only[Option.getD_some] at h5
    subst h5
    simp[yielded,h1,h6,undef]
  simp only
  have h3:=hf t
  rw[h2] at h3
  have h4:a.tmps[t]?=some (.bool c):=by
   have h5:a.tmps.getD t undef= .bool c:=by generalize a.tmps.getD t undef=v at*;cases h3;rfl
   rw[Array.getD_eq_getD_getElem?] at h5
   cases h6:a.tmps[t]? with
   |none=>rw[h6] at h5;simp[undef] at h5
   |some u=>rw[h6] at h5;simpa using h5
  simp[yielded,h1,h4]
section
variable {P:Program}{N:Nat}{F:Frm}{σ σ':List Ob}{Q:Exit→Frm→List Ob→Prop}{ops:Array Oper}{o:Oper}{l:List Oper}{x:AV}
theorem zae (h:Q .normal F σ):AOps P N ops [] F σ Q:=fun G a hs=>⟨G,F,σ,rfl, .refl G,hs,h⟩
theorem zad {d:Nat}(hd:o.dst=some d)(hN:Nat.blt d N=true)(hr:Runs ops F o true)(hD:Does P o F σ x σ')(k:AOps P N ops l ((d,x)::F) σ' Q):AOps P N ops (o::l) F σ Q:=fun G a hs=>by
 unfold wpList
 rw[if_pos (hr.wanted hs.fr)]
 left
 refine hD G a _ _ hs.rel (fun y _=>zc1 hs.fr y) (fun v G' e r hv=>?_)
 rw[hd]
 exact zch (fun e' a w q=>zfh e.step (fun _ _ _ x=>x) q) _ _ _ (k G' _ ((hs.step e r).put (by simpa[Nat.blt_eq] using hN) hv))
theorem zcm (hd:o.dst=none)(hr:Runs ops F o true)(hD:Does P o F σ x σ')(k:AOps P N ops l F σ' Q):AOps P N ops (o::l) F σ Q:=fun G a hs=>by
 unfold wpList
 rw[if_pos (hr.wanted hs.fr)]
 left
 refine hD G a _ _ hs.rel (fun y _=>zc1 hs.fr y) (fun v G' e r hv=>?_)
 rw[hd]
 exact zch (fun e' a w q=>zfh e.step (fun _ _ _ x=>x) q) _ _ _ (k G' _ (hs.step e r))
theorem zj8 {d:Nat}(hd:o.dst=some d)(hN:Nat.blt d N=true)(hr:Runs ops F o false)(k:AOps P N ops l ((d, .s undef)::F) σ Q):AOps P N ops (o::l) F σ Q:=fun G a hs=>by
 unfold wpList
 rw[if_neg (by rw[hr.wanted hs.fr];simp)]
 rw[hd]
 exact k G _ (hs.put (by simpa[Nat.blt_eq] using hN) (.s _))
end
end Go.Proofs.YtjdpnadhgjohnaaGreatDoor.Aw
end
