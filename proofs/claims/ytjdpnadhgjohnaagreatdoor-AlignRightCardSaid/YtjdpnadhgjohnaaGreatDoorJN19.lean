import Derived.Test.YtjdpnadhgjohnaaGreatDoorJN0
import Derived.Test.YtjdpnadhgjohnaaGreatDoorJN18
import Derived.Laws.Small
import Derived.Test.YtjdpnadhgjohnaaGreatDoorJN16
set_option linter.unusedSimpArgs false
set_option linter.unusedVariables false
set_option linter.unusedSectionVars false
namespace Go.Proofs.YtjdpnadhgjohnaaGreatDoor
namespace Aw
open Go Go.RowKit
section
variable {P:Program}{o:Oper}{F:Frm}{σ:List Ob}
theorem z4p {x y:Operand}{t t':TypeId}{k k':IntKind}{m n c:Int}(ho:o.op= .call {callee:= .builtin .max,args:= #[x,y],argTypes:= #[t,t']})(hx:F.eval x= .s (.int k m))(hy:F.eval y= .s (.int k' n))(hc:(if m<n then n else m)=c):Does P o F σ (.s (.int k c)) σ:=
 zbc fun G ρ hr hop=>by
  have h1:=hop x (by simp[ho,Op.operands,Call.operands])
  have h2:=hop y (by simp[ho,Op.operands,Call.operands])
  rw[hx] at h1
  rw[hy] at h2
  subst hc
  exact⟨_,by simp[execOp,ho,resolve,invoke,builtin,zc5 h1,zc5 h2,run_max_int2], .s _⟩
theorem z4o {x y:Operand}{t t':TypeId}{k k':IntKind}{m n c:Int}(ho:o.op= .call {callee:= .builtin .min,args:= #[x,y],argTypes:= #[t,t']})(hx:F.eval x= .s (.int k m))(hy:F.eval y= .s (.int k' n))(hc:(if n<m then n else m)=c):Does P o F σ (.s (.int k c)) σ:=
 zbc fun G ρ hr hop=>by
  have h1:=hop x (by simp[ho,Op.operands,Call.operands])
  have h2:=hop y (by simp[ho,Op.operands,Call.operands])
  rw[hx] at h1
  rw[hy] at h2
  subst hc
  exact⟨_,by simp[execOp,ho,resolve,invoke,builtin,zc5 h1,zc5 h2,run_min_int2], .s _⟩
def zoy (op:BinOp)(k:IntKind)(x y:Int):Int:=match op with
 | .and=>k.wrap (BitVec.ofInt k.bits x &&& BitVec.ofInt k.bits y).toNat
 | .or=>k.wrap (BitVec.ofInt k.bits x|||BitVec.ofInt k.bits y).toNat
 | .xor=>k.wrap (BitVec.ofInt k.bits x ^^^ BitVec.ofInt k.bits y).toNat
 |_=>k.wrap (BitVec.ofInt k.bits x &&& ~~~(BitVec.ofInt k.bits y)).toNat
theorem zf6 {b:BinOp}{t t':TypeId}{x y:Operand}{k:IntKind}{m n c:Int}(ho:o.op= .binOp b t x y t')(hb:b= .and∨b= .or∨b= .xor∨b= .andNot)(hx:F.eval x= .s (.int k m))(hy:F.eval y= .s (.int k n))(hw:zoy b k m n=c):Does P o F σ (.s (.int k c)) σ:=
 zc3 ho hx hy fun w=>zdm w (by rcases hb with rfl|rfl|rfl|rfl<;>simp) (by subst hw;rcases hb with rfl|rfl|rfl|rfl<;>simp[Op.intBits,zoy])
theorem zfc {b:BinOp}{t t':TypeId}{x y:Operand}{k k':IntKind}{m n c:Int}(ho:o.op= .binOp b t x y t')(hx:F.eval x= .s (.int k m))(hy:F.eval y= .s (.int k' n))(h0:0≤n)
  (hw:(b= .shr∧m.fdiv (2 ^ min n.toNat k.bits)=c)∨(b= .shl∧k.wrap (m*2 ^ min n.toNat k.bits)=c)):Does P o F σ (.s (.int k c)) σ:=
 zc3 ho hx hy fun w=>by
  have hn: ¬ (n<0):=by omega
  have hg:(eqGuard b t x y (.int k m) (.int k' n)).run P w= .ok () w:=by
   unfold eqGuard
   rcases hw with ⟨rfl,_⟩|⟨rfl,_⟩<;>rfl
  rw[Sem.run_bind,hg,Result.andThen_ok]
  rcases hw with ⟨rfl,rfl⟩|⟨rfl,rfl⟩<;>simp[binOp,Op.shift,hn]
theorem z1q {t t':TypeId}{x y:Operand}{a b:Bool}(ht:P.underlying t=some .bool)(ho:o.op= .binOp .neq t x y t')(hx:F.eval x= .s (.bool a))(hy:F.eval y= .s (.bool b)):Does P o F σ (.s (.bool (!(a==b)))) σ:=
 zc3 ho hx hy fun w=>by
  have h1: ∀d,(Op.equalIn (d+1) t (.bool a) (.bool b)).run P w= .ok (a==b) w:=fun d=>by simp[Op.equalIn,run_underlying ht]
  have h2:(Op.equal t (.bool a) (.bool b)).run P w= .ok (a==b) w:=h1 9999
  have h3:(binOp .neq t (.bool a) (.bool b):Sem Value)=(do pure (.bool (!(←Op.equal t (.bool a) (.bool b))))):=rfl
  rw[Sem.run_bind,show(eqGuard .neq t x y (.bool a) (.bool b)).run P w= .ok () w from rfl,Result.andThen_ok,h3,Sem.run_bind,h2]
  rfl
inductive NonNil:AV→Prop
 |own (id sz n:Nat) (h:0<n):NonNil (.own id sz n)
 |sub (id sz k n:Nat) (h:0<n):NonNil (.sub id sz k n)
 |sl (x:AV) (l:List AV):NonNil (.sl (x::l))
theorem zw9 {G:Cx}{x:AV}{v:Value}(h:NonNil x)(hv:Rep G v x): ∃a n c,v= .slice (some a) n c:=by
 cases h with
 |own id sz n h=>
  cases hv with
  |own0=>omega
  |own=>exact⟨_,_,_,rfl⟩
 |sub id sz k n h=>cases hv with|sub _ _ _ _ b cap A hm hA _=>rw[hA h];exact⟨_,_,_,rfl⟩
 |sl x l=>cases hv with|sl=>exact⟨_,_,_,rfl⟩
theorem zmx {P:Program}{t e:TypeId}(ht:za5 P t=some e)(x y:Operand)(A:Option Addr)(n c:Nat)(b:BinOp)(w:World){r:Bool}(hr:(b= .eql∧r=A.isNone)∨(b= .neq∧r=!A.isNone)):(do eqGuard b t x y (.slice A n c) (.slice none 0 0);binOp b t (.slice A n c) (.slice none 0 0):Sem Value).run P w= .ok (.bool r) w:=by
 have hg:(eqGuard b t x y (.slice A n c) (.slice none 0 0)).run P w= .ok () w:=by
  unfold eqGuard
  rcases hr with ⟨rfl,_⟩|⟨rfl,_⟩<;>rfl
 have he:(Op.equal t (.slice A n c) (.slice none 0 0)).run P w= .ok A.isNone w:=by
  have key: ∀d,(Op.equalIn (d+1) t (.slice A n c) (.slice none 0 0)).run P w= .ok A.isNone w:=fun d=>by
   unfold Op.equalIn
   cases A<;>simp[run_underlying (zea ht)]
  exact key 9999
 rw[Sem.run_bind,hg,Result.andThen_ok]
 rcases hr with ⟨rfl,rfl⟩|⟨rfl,rfl⟩<;>simp[binOp,he]
theorem zpx {t t' e:TypeId}{x y:Operand}{u:AV}{b:BinOp}{r:Bool}(ho:o.op= .binOp b t x y t')(ht:za5 P t=some e)(hx:F.eval x=u)(hu:NonNil u)(hy:F.eval y= .s (.slice none 0 0))(hr:(b= .eql∧r=false)∨(b= .neq∧r=true)):Does P o F σ (.s (.bool r)) σ:=
 zbc fun G ρ hrl hop=>by
  have h1:=hop x (by simp[ho,Op.operands])
  have h2:=hop y (by simp[ho,Op.operands])
  rw[hx] at h1
  rw[hy] at h2
  obtain⟨a,n,c,hv⟩:=zw9 hu h1
  refine⟨_,?_, .s _⟩
  have h3:=zmx (P:=P) ht x y (some a) n c b G.w (r:=r) (by simpa using hr)
  simp only[execOp,ho,hv,zc5 h2,Sem.run_bind] at h3⊢
  rw[h3]
  rfl
theorem zn8 {t t' e:TypeId}{x y:Operand}{b:BinOp}{r:Bool}(ho:o.op= .binOp b t x y t')(ht:za5 P t=some e)(hx:F.eval x= .s (.slice none 0 0))(hy:F.eval y= .s (.slice none 0 0))(hr:(b= .eql∧r=true)∨(b= .neq∧r=false)):Does P o F σ (.s (.bool r)) σ:=
 zc3 ho hx hy fun w=>zmx ht x y none 0 0 b w (by simpa using hr)
theorem zkm {t e:TypeId}{x y:Operand}{z:Option Value}{n bt:Nat}{id sz m:Nat}{k:IntKind}{i:Int}{l:Nat}(ho:o.op= .slice t x (some y) none none)(ht:za5 P t=some e)(hi:za6 P e=some (z,n,bt))(hn:n=sz)(hx:F.eval x= .own id sz m)(hm0:0<m)(hy:F.eval y= .s (.int k i))(hk:i=(l:Int))(hl:l≤m):Does P o F σ (.sub id sz l (m-l)) σ:=
 zbc fun G ρ hr hop=>by
  have g1:=hop x (by simp[ho,Op.operands])
  have g2:=hop y (by simp[ho,Op.operands])
  rw[hx] at g1
  rw[hy] at g2
  have e2:=zc5 g2
  obtain⟨q1,q2⟩:=zle ht
  subst hk hn
  generalize hv:ρ x=u at g1
  cases g1 with
  |own0=>omega
  | own _ _ _ b cap hm hn hc hb=>
   have h2:=run_slice_l (P:=P) G.w t (some ⟨b,0,none⟩) m cap q2 k (l:Int) xa xa
   refine⟨sliced (some ⟨b,0,none⟩) l m cap n,by simp only[execOp,ho,Option.map_some,Option.map_none,hv,e2,Sem.run_bind,run_sliceAt_slice (P:=P) G.w t _ _ _ _ q2,h2,q1,zb3 hi,Result.andThen_ok,Sem.run_pure,Int.toNat_natCast],?_⟩
   refine .sub id n l (m-l) b (cap-l) _ hm (fun h0=>?_) ⟨by omega,by omega,?_⟩
   ·
    have: ¬ (cap=l):=by omega
    simp[this,Addr.add_lit]
   ·
    obtain⟨cur,te,f,h3,h4⟩:=hb
    exact⟨cur,te,f,h3,by rw[h4,show l+(cap-l)=cap by omega];exact Nat.le_refl _⟩
def laid (cs:List AV)(k:Nat)(l:List AV):List AV:=cs.take k++l++cs.drop (k+l.length)
theorem z3t (cs:List AV)(k:Nat):laid cs k []=cs:=by simp[laid]
theorem ztr {cs:List AV}{k:Nat}{l:List AV}(h:k+l.length≤cs.length):(laid cs k l).length=cs.length:=by simp[laid];omega
theorem z3u {cs:List AV}{k:Nat}{l:List AV}(h:k+l.length≤cs.length)(q:Nat):(laid cs k l)[q]?=if q<k then cs[q]? else if q<k+l.length then l[q-k]? else cs[q]?:=by
 have hk:(cs.take k).length=k:=by simp;omega
 unfold laid
 by_cases h1:q<k
 ·
  rw[if_pos h1,List.append_assoc,List.getElem?_append_left xa,List.getElem?_take,if_pos h1]
 ·
  rw[if_neg h1]
  by_cases h2:q<k+l.length
  ·
   rw[if_pos h2,List.getElem?_append_left (by simp only[List.length_append,hk];omega),List.getElem?_append_right xa,hk]
  ·
   rw[if_neg h2,List.getElem?_append_right (by simp only[List.length_append,hk];omega),List.getElem?_drop]
   congr 1
   simp only[List.length_append,hk];omega
inductive Dst (id sz k n:Nat):AV→Prop
 |own (h:k=0):Dst id sz k n (.own id sz n)
 |sub:Dst id sz k n (.sub id sz k n)
theorem z8o {G:Cx}{id sz k n:Nat}{x:AV}{v:Value}(h:Dst id sz k n x)(hv:Rep G v x): ∃A cap,v= .slice A n cap∧(0<n→ ∃b,G.mu id=some (some b)∧A=some ⟨b,k*sz,none⟩):=by
 cases h with
 |own h=>
  subst h
  cases hv with
  |own0=>exact⟨_,_,rfl,fun h=>absurd h xa⟩
  |own _ _ _ b cap hm hn hc hb=>exact⟨_,_,rfl,fun _=>⟨b,hm,by rw[Nat.zero_mul]⟩⟩
 |sub=>
  cases hv with
  |sub _ _ _ _ b cap A hm hA _=>exact⟨_,_,rfl,fun h=>⟨b,hm,hA h⟩⟩
theorem zrp {P:Program}{t ty e:TypeId}{z:Option Value}{sz bt:Nat}(ht:za5 P t=some e)(hi:za6 P e=some (z,sz,bt))(w:World)(B:Option Addr)(n dc:Nat)
  (A:Option Addr) (m c:Nat) (news:List Value) (hl:news.length=Nat.min m n*sz) (hA:A=none→Nat.min m n=0) (hnews: ∀a,A=some a→ ∀ (j:Nat) u,news[j]?=some u→w.cell? (a.add j)=some u)
  {w':World} (hw: ∀a,B=some a→(storeCells a news).run P w= .ok () w') (hw0:B=none→w'=w):
  (Builtin.copy_ #[t,t] ty #[.slice B n dc, .slice A m c]).run P w= .ok (goInt (Nat.min m n)) w':=by
 have hf:(Builtin.firstCells sz (Nat.min m n) (.slice A m c)).run P w= .ok news.toArray w:=by
  cases A with
  |none=>
   have:=hA J
   rw[this,Nat.zero_mul] at hl
   have:news=[]:=List.eq_nil_of_length_eq_zero hl
   subst this
   simp[Builtin.firstCells]
  |some a=>exact run_firstCells_some (P:=P) w sz _ a m c news hl (hnews a J)
 cases B with
 |none=>
  rw[hw0 J]
  simp[Builtin.copy_,run_underlying (zea ht),Builtin.lenOf,zb3 hi,hf]
 |some a=>
  have h2:=hw a J
  simp[Builtin.copy_,run_underlying (zea ht),Builtin.lenOf,zb3 hi,hf,h2]
theorem zn9 {t e:TypeId}{d s:Operand}{z:Option Value}{sz bt id k n:Nat}{x y':AV}{cs l:List AV}(ho:o.op= .call {callee:= .builtin .copy,args:= #[d,s],argTypes:= #[t,t]})
  (ht:za5 P t=some e) (hi:za6 P e=some (z,sz,bt)) (hsz:0<sz) (hx:F.eval d=x) (hdst:Dst id sz k n x) (hs:σ[id]?=some (.row sz cs)) (hkn:k+n≤cs.length) (hy:F.eval s=y') (hsrc:Src σ sz y' l):
  Does P o F σ (.s (.int .i64 (Nat.min l.length n:Nat))) (σ.set id (.row sz (laid cs k (l.take n)))):=
 zfr (x:= .any) fun G ρ hr hop=>by
  have g1:=hop d (by simp[ho,Op.operands,Call.operands])
  have g2:=hop s (by simp[ho,Op.operands,Call.operands])
  rw[hx] at g1
  rw[hy] at g2
  obtain⟨B,dc,hv,hB⟩:=z8o hdst g1
  obtain⟨A,c,news,hv2,hvals⟩:=zl8 hsz hr hsrc g2
  have hnl:(news.take (Nat.min l.length n*sz)).length=Nat.min l.length n*sz:=by
   rw[List.length_take,hvals.len]
   exact Nat.min_eq_left (Nat.mul_le_mul_right _ (Nat.min_le_left _ _))
  have hnews: ∀a,A=some a→ ∀ (j:Nat) u,(news.take (Nat.min l.length n*sz))[j]?=some u→G.w.cell? (a.add j)=some u:=fun a ha j u hu=>by
   rw[List.getElem?_take] at hu
   split at hu
   ·
    exact hvals.at_ a ha j u hu
   ·
    cases hu
  have hA0:A=none→Nat.min l.length n=0:=fun h=>by rw[hvals.nil h];exact Nat.zero_min n
  have hrun: ∀w',(∀a,B=some a→(storeCells a (news.take (Nat.min l.length n*sz))).run P G.w= .ok () w')→(B=none→w'=G.w)→(execOp ρ o).run P G.w= .ok (.value (.int .i64 (Nat.min l.length n:Nat))) w':=fun w' h1 h2=>by
   have:=zrp (P:=P) (ty:=o.type) ht hi G.w B n dc A l.length c _ hnl hA0 hnews h1 h2
   simp[execOp,ho,resolve,invoke,builtin,hv,hv2,this,goInt]
  by_cases h0:Nat.min l.length n=0
  ·
   have ht0:l.take n=[]:=by
    apply List.eq_nil_of_length_eq_zero
    rw[List.length_take];exact(Nat.min_comm _ _).trans h0
   have hn0:news.take (Nat.min l.length n*sz)=[]:=by rw[h0,Nat.zero_mul,List.take_zero]
   refine⟨_,G,hrun G.w (fun a _=>by rw[hn0];rfl) (fun _=>rfl), .refl G,?_,by rw[h0];exact .s _⟩
   rw[ht0,z3t]
   have:σ.set id (.row sz cs)=σ:=by
    apply List.ext_getElem?
    intro i
    by_cases h:id=i
    ·
     subst h;rw[List.getElem?_set_self (List.getElem?_eq_some_iff.1 hs).1,hs]
    ·
     rw[List.getElem?_set_ne h]
   rw[this];exact hr
  ·
   have hn:0<n:=by
    rcases Nat.eq_zero_or_pos n with h|h
    ·
     subst h;simp at h0
    ·
     exact h
   obtain⟨b,hm,rfl⟩:=hB hn
   have h6:=hr.obs id _ hs
   simp only[ObOk,hm] at h6
   obtain⟨⟨cur,te,fr,h7,rfl,h8,h9⟩,h10,h11⟩:=h6
   have hlt:(l.take n).length=Nat.min l.length n:=by rw[List.length_take];exact Nat.min_comm _ _
   obtain⟨q,hq⟩: ∃q,Nat.min l.length n=q:=⟨_,rfl⟩
   have hqn:q≤n:=by rw[←hq];exact Nat.min_le_right _ _
   have hql:q≤l.length:=by rw[←hq];exact Nat.min_le_left _ _
   rw[hq] at hnl hrun hlt
   have hfit:k*sz+q*sz≤cur.size:=by
    have:(k+q)*sz≤cs.length*sz:=Nat.mul_le_mul_right _ xa
    rw[Nat.add_mul] at this;omega
   have hst:=run_storeCells_at P b (k*sz) te (news.take (q*sz)) 0 cur G.w h7 (by rw[hnl];omega) (fun u hu=>hvals.one u (List.mem_of_mem_take hu))
   simp only[Nat.add_zero,hnl] at hst
   obtain⟨nc,hnc⟩: ∃nc:Array Value,nc=(cur.toList.take (k*sz)++news.take (q*sz)++cur.toList.drop (k*sz+q*sz)).toArray:=⟨_,rfl⟩
   rw[←hnc] at hst
   have hncs:nc.size=cur.size:=by
    rw[hnc]
    simp only[List.size_toArray,List.length_append,List.length_drop,Array.length_toList,hnl]
    rw[List.length_take,Array.length_toList]
    omega
   have hlay:k+(l.take n).length≤cs.length:=by rw[hlt];omega
   refine⟨_,{G with w:=G.w.setRow b nc},hrun _ (fun a ha=>by cases ha;exact hst) (fun h=>by cases h),zju hr hs hm h7 hncs,zmn hr hs hm h7 hncs (by rw[ztr hlay,hncs];exact h8) ?_,by rw[hq];exact .s _⟩
   have hget: ∀i,nc[i]?=if i<k*sz then cur[i]? else if i<k*sz+q*sz then news[i-k*sz]? else cur[i]?:=by
    intro i
    have ha:(cur.toList.take (k*sz)).length=k*sz:=by rw[List.length_take,Array.length_toList];omega
    rw[hnc]
    simp only[List.getElem?_toArray]
    by_cases hi1:i<k*sz
    ·
     rw[if_pos hi1,List.append_assoc,List.getElem?_append_left xa,List.getElem?_take,if_pos hi1,Array.getElem?_toList]
    ·
     rw[if_neg hi1]
     by_cases hi2:i<k*sz+q*sz
     ·
      rw[if_pos hi2,List.getElem?_append_left (by simp only[List.length_append,ha,hnl];omega),List.getElem?_append_right xa,ha,List.getElem?_take,if_pos xa]
     ·
      rw[if_neg hi2,List.getElem?_append_right (by simp only[List.length_append,ha,hnl];omega),List.getElem?_drop,Array.getElem?_toList]
      congr 1
      simp only[List.length_append,ha,hnl];omega
   intro i x' hx'
   rw[z3u hlay,hlt] at hx'
   by_cases hi1:i<k
   ·
    rw[if_pos hi1] at hx'
    obtain⟨a1,a2,a3⟩:=h9 i x' hx'
    refine⟨a1,a2,fun j c hc=>?_⟩
    obtain⟨v,b1,b2⟩:=a3 j c hc
    refine⟨v,?_,b2⟩
    have hj:j<sz:=by have:=(List.getElem?_eq_some_iff.1 hc).1;omega
    have:(i+1)*sz≤k*sz:=Nat.mul_le_mul_right _ hi1
    rw[Nat.add_mul] at this
    rw[hget,if_pos xa];exact b1
   ·
    rw[if_neg hi1] at hx'
    by_cases hi2:i<k+q
    ·
     rw[if_pos hi2,List.getElem?_take,if_pos xa] at hx'
     obtain⟨a1,a2,a3⟩:=hvals.rep (i-k) x' hx'
     refine⟨a1,a2,fun j c hc=>?_⟩
     obtain⟨v,b1,b2⟩:=a3 j c hc
     refine⟨v,?_,b2⟩
     have hj:j<sz:=by have:=(List.getElem?_eq_some_iff.1 hc).1;omega
     have e1:(i-k)*sz=i*sz-k*sz:=Nat.sub_mul _ _ _
     have e2:k*sz≤i*sz:=Nat.mul_le_mul_right _ xa
     have e3:(i+1)*sz≤(k+q)*sz:=Nat.mul_le_mul_right _ hi2
     rw[Nat.add_mul,Nat.add_mul] at e3
     rw[hget,if_neg xa,if_pos xa]
     rw[show i*sz+j-k*sz=(i-k)*sz+j by omega];exact b1
    ·
     rw[if_neg hi2] at hx'
     obtain⟨a1,a2,a3⟩:=h9 i x' hx'
     refine⟨a1,a2,fun j c hc=>?_⟩
     obtain⟨v,b1,b2⟩:=a3 j c hc
     refine⟨v,?_,b2⟩
     have:(k+q)*sz≤i*sz:=Nat.mul_le_mul_right _ xa
     rw[Nat.add_mul] at this
     rw[hget,if_neg xa,if_neg xa];exact b1
end
end Aw
namespace Aw
open Go.RowKit
def zp3 (P:Program)(t:TypeId):Option (Nat × TypeId):=match P.underlying t with|some (.array n e)=>some (n,e)|_=>none
theorem zu1 {P:Program}{t e:TypeId}{m:Nat}(h:zp3 P t=some (m,e)):P.underlying t=some (.array m e):=by
 unfold zp3 at h
 split at h
 ·
  rename_i n e' hu
  cases h;exact hu
 ·
  cases h
section
variable {P:Program}{o:Oper}{F:Frm}{σ:List Ob}
theorem zlr {t e:TypeId}{z:Option Value}{sz bt m:Nat}(ht:zp3 P t=some (m,e))(he:za6 P e=some (z,sz,bt))(b i:Nat)(kd:IntKind)(n:Int)(h0:0≤n)(h1:n<m)(w:World):
  (Instr.indexAt t (.pointer (some ⟨b,i,none⟩)) (.int kd n)).run P w= .ok (.pointer (some ⟨b,i+n.toNat*sz,none⟩)) w:=by
 simp[Instr.indexAt,asIntOf,run_underlying (zu1 ht),Instr.sureAddr,h0,h1,zb3 he,Addr.add_lit]
theorem zn7 {t e:TypeId}{x y:Operand}{z:Option Value}{sz bt m:Nat}{id s k j:Nat}{kd:IntKind}{n:Int}{i:Nat}(ho:o.op= .indexAddr t x y)(ht:zp3 P t=some (m,e))(he:za6 P e=some (z,sz,bt))
  (hx:F.eval x= .ptr id s k j) (hy:F.eval y= .s (.int kd n)) (hk:n=(i:Int)) (hi:i<m):Does P o F σ (.ptr id s k (j+i*sz)) σ:=
 zbc fun G ρ hr hop=>by
  have h1:=hop x (by simp[ho,Op.operands])
  have h2:=hop y (by simp[ho,Op.operands])
  rw[hx] at h1
  rw[hy] at h2
  have hyv:=zc5 h2
  subst hk
  generalize hv:ρ x=u at h1
  cases h1 with
  | ptr _ _ _ _ b hm=>
   refine⟨.pointer (some ⟨b,k*s+j+i*sz,none⟩),?_,?_⟩
   ·
    simp only[execOp,ho,hv,hyv,Sem.run_bind,zlr ht he b _ kd (i:Int) xa xa,Result.andThen_ok,Sem.run_pure,Int.toNat_natCast]
   ·
    rw[Nat.add_assoc]
    exact .ptr id s k (j+i*sz) b hm
theorem zn6 {t e:TypeId}{x y:Operand}{z:Option Value}{sz bt m:Nat}{cs:List AV}{kd:IntKind}{n:Int}{i:Nat}(ho:o.op= .indexAddr t x y)(ht:zp3 P t=some (m,e))(he:za6 P e=some (z,sz,bt))
  (hx:F.eval x= .ref cs) (hy:F.eval y= .s (.int kd n)) (hk:n=(i:Int)) (hi:i<m):Does P o F σ (.ref (cs.drop (i*sz))) σ:=
 zbc fun G ρ hr hop=>by
  have h1:=hop x (by simp[ho,Op.operands])
  have h2:=hop y (by simp[ho,Op.operands])
  rw[hx] at h1
  rw[hy] at h2
  have hyv:=zc5 h2
  subst hk
  generalize hv:ρ x=u at h1
  cases h1 with
  | ref b q _ val hone h3 h=>
   refine⟨.pointer (some ⟨b,q+i*sz,none⟩),by simp only[execOp,ho,hv,hyv,Sem.run_bind,zlr ht he b _ kd (i:Int) xa xa,Result.andThen_ok,Sem.run_pure,Int.toNat_natCast],?_⟩
   refine .ref b (q+i*sz) _ (fun j=>val (i*sz+j)) (fun c hc=>hone c (List.mem_of_mem_drop hc)) (fun j c hj=>?_) (fun j c hj=>?_)
   ·
    rw[List.getElem?_drop] at hj
    rw[Nat.add_assoc]
    exact h3 _ c hj
   ·
    rw[List.getElem?_drop] at hj
    exact h _ c hj
theorem zov {t e:TypeId}{parts:Array (Nat × Operand)}{z:Value}{n bt m sz be:Nat}{ze:Option Value}{cs:List AV}(ho:o.op= .build t parts)(hi:za6 P t=some (some z,n,bt))(ht:zp3 P t=some (m,e))(he:za6 P e=some (ze,sz,be))
  (h1:(ofValue z).cells.all AV.one=true) (hf:ziy (fun i=>some (i*sz,sz)) (ofValue z).cells (parts.toList.map fun (i,x)=>(i,F.eval x))=some cs):Does P o F σ (.agg cs) σ:=
 zbc fun G ρ hr hop=>by
  obtain⟨i,h2,h3,h4,h5⟩:=zgq hi
  obtain⟨vs,h6,h7⟩:=zki (G:=G) (place:=(fun i=>some (i*sz,sz))) (parts.map fun (i,x)=>(i,ρ x)).toList _ z.cells _ cs (zik G z h1) xm (zj6 (fun y hy=>hop y (by simpa[ho,Op.operands] using hy))) hf
  have h8:(Instr.build t (parts.map fun (i,x)=>(i,ρ x))).run P G.w= .ok (.agg vs) G.w:=by
   simp[Instr.build,zeroValue,typeInfo,h2,h3,run_underlying (zu1 ht),zb3 he]
   simp at h6
   rw[h6]
   rfl
  exact⟨.agg vs,by simp only[execOp,ho,Sem.run_bind,h8,Result.andThen_ok,Sem.run_pure], .agg vs cs h7.size h7.one h7.rep⟩
theorem zye {G:Cx}{id sz n:Nat}{cs:List AV}(hr:Rel G σ)(hs:σ[id]?=some (.row sz cs)):Rel G (σ.set id (.row sz (cs.take n))):=by
 have hlt:=(List.getElem?_eq_some_iff.1 hs).1
 have al: ∀i,zed (σ.set id (.row sz (cs.take n))) i→zed σ i:=by
  rintro i ⟨sz',cs',h⟩
  by_cases hi:id=i
  ·
   subst hi;exact⟨sz,cs,hs⟩
  ·
   rw[List.getElem?_set_ne hi] at h
   exact⟨sz',cs',h⟩
 refine⟨hr.below,hr.le,hr.st,fun i ob hob=>?_,fun i j b hi hj=>hr.inj i j b (al i hi) (al j hj),fun i hi=>hr.fresh i (by simpa using hi)⟩
 by_cases hi:id=i
 ·
  subst hi
  rw[List.getElem?_set_self hlt] at hob
  cases hob
  have h1:=hr.obs id _ hs
  simp only[ObOk] at h1⊢
  cases hx:G.mu id with
  |none=>rw[hx] at h1;exact h1
  | some x=>
   rw[hx] at h1
   cases x with
   |none=>simp only at h1⊢;subst h1;simp
   | some b=>
    obtain⟨⟨cur,e,fr,g1,g2,g3,g4⟩,h2⟩:=h1
    refine⟨⟨cur,e,fr,g1,g2,?_,fun k x hk=>?_⟩,h2⟩
    ·
     exact Nat.le_trans (Nat.mul_le_mul_right _ (by rw[List.length_take];omega)) g3
    ·
     rw[List.getElem?_take] at hk
     split at hk
     ·
      exact g4 k x hk
     ·
      cases hk
 ·
  rw[List.getElem?_set_ne hi] at hob
  exact hr.obs i ob hob
theorem zxu {id sz n:Nat}{cs:List AV}{x:AV}{σ':List Ob}(hs:σ[id]?=some (.row sz cs))(h:Does P o F (σ.set id (.row sz (cs.take n))) x σ'):Does P o F σ x σ':=fun G a next Q hr hop hn=>
 h G a next Q (zye hr hs) hop hn
theorem zst {t e:TypeId}{x:Operand}{id sz q n:Nat}(ho:o.op= .call {callee:= .builtin .len,args:= #[x],argTypes:= #[t]})(ht:za5 P t=some e)(hx:F.eval x= .sub id sz q n):Does P o F σ (.s (.int .i64 (n:Nat))) σ:=
 zbc fun G ρ hr hop=>by
  have h1:=hop x (by simp[ho,Op.operands,Call.operands])
  rw[hx] at h1
  generalize hv:ρ x=v at h1
  cases h1 with
  |sub _ _ _ _ b cap A hm hA _=>exact⟨_,zd5 ht ho ρ _ _ _ hv _, .s _⟩
theorem zou {t e:TypeId}{x y:Operand}{z:Option Value}{sz bt:Nat}{id q m:Nat}{kd:IntKind}{n:Int}{k:Nat}(ho:o.op= .indexAddr t x y)(ht:za5 P t=some e)(he:za6 P e=some (z,sz,bt))
  (hx:F.eval x= .sub id sz q m) (hy:F.eval y= .s (.int kd n)) (hk:n=(k:Int)) (hu:k<m):Does P o F σ (.ptr id sz (q+k) 0) σ:=
 zbc fun G ρ hr hop=>by
  have h1:=hop x (by simp[ho,Op.operands])
  have h2:=hop y (by simp[ho,Op.operands])
  rw[hx] at h1
  rw[hy] at h2
  have hyv:=zc5 h2
  subst hk
  generalize hv:ρ x=v at h1
  cases h1 with
  |sub _ _ _ _ b cap A hm hA _=>
   have hA:=hA xa
   subst hA
   refine⟨.pointer (some ⟨b,(q+k)*sz+0,none⟩),?_, .ptr id sz (q+k) 0 b hm⟩
   simp only[execOp,ho,hv,hyv,Sem.run_bind,zje ht he b _ m cap kd (k:Int) xa xa,Result.andThen_ok,Sem.run_pure,Int.toNat_natCast,Nat.add_zero,Nat.add_mul]
end
end Aw
namespace Aw
open Go.RowKit
variable [Mk]
section
variable {P:Program}{o:Oper}{F:Frm}{σ:List Ob}
theorem zw8 {G:Cx}{b sz h:Nat}{cs:List AV}{f:Nat × Nat→Prop}(hr:zev G b sz cs f):zev G b sz (cs.take h) f:=by
 obtain⟨cur,e,fr,h1,h2,h3,h4⟩:=hr
 refine⟨cur,e,fr,h1,h2,Nat.le_trans (Nat.mul_le_mul_right _ (by rw[List.length_take];omega)) h3,fun k x hx=>?_⟩
 rw[List.getElem?_take] at hx
 split at hx
 ·
  exact h4 k x hx
 ·
  cases hx
theorem zzw {G:Cx}{id sz h:Nat}{cs:List AV}(hr:Rel G σ)(hs:σ[id]?=some (.row sz cs)):Rel G (σ.set id (.row sz (cs.take h))):=
 zij hr hs (fun e=>by subst e;simp) (fun b f=>zw8)
theorem zqy {t e:TypeId}{x y:Operand}{z:Option Value}{n bt:Nat}{id sz m:Nat}{k:IntKind}{i:Int}{h:Nat}{cs:List AV}(ho:o.op= .slice t x none (some y) none)(ht:za5 P t=some e)(hi:za6 P e=some (z,n,bt))(hn:n=sz)(hx:F.eval x= .own id sz m)(hm0:0<m)(hy:F.eval y= .s (.int k i))(hk:i=(h:Int))(hl:h≤m)(hs:σ[id]?=some (.row sz cs)):
  Does P o F σ (.own id sz h) (σ.set id (.row sz (cs.take h))):=by
 intro G a next Q hr hop hn2
 have g1:=hop x (by simp[ho,Op.operands])
 have g2:=hop y (by simp[ho,Op.operands])
 rw[hx] at g1
 rw[hy] at g2
 have e2:=zc5 g2
 obtain⟨q1,q2⟩:=zle ht
 subst hk hn
 generalize hv:a.eval x=u at g1
 cases g1 with
 |own0=>omega
 | own _ _ _ b cap hm hn hc hb=>
  have h2:=run_slice_h (P:=P) G.w t (some ⟨b,0,none⟩) m cap q2 k (h:Int) xa xa
  have h5:(execOp a.eval o).run P G.w= .ok (.value (sliced (some ⟨b,0,none⟩) 0 h cap n)) G.w:=by
   simp only[execOp,ho,Option.map_some,Option.map_none,hv,e2,Sem.run_bind,run_sliceAt_slice (P:=P) G.w t _ _ _ _ q2,h2,q1,zb3 hi,Result.andThen_ok,Sem.run_pure,Int.toNat_natCast]
  unfold Oper.wp
  rw[h5]
  refine hn2 _ G (.refl G) (zzw hr hs) ?_
  have e3:sliced (some ⟨b,0,none⟩) 0 h cap n= .slice (some ⟨b,0,none⟩) h cap:=by
   have: ¬ (cap=0):=by omega
   simp[sliced,Addr.add_lit,this]
  rw[e3]
  exact .own id n h b cap hm xa hc hb
end
end Aw
end Go.Proofs.YtjdpnadhgjohnaaGreatDoor
