import Derived.Test.YtjdpnadhgjohnaaGreatDoorJN0
import Derived.Test.YtjdpnadhgjohnaaGreatDoorJN7
import Derived.IntWalk
import Derived.Lib.Strings
set_option linter.unusedSimpArgs false
set_option linter.unusedVariables false
set_option linter.unusedSectionVars false
namespace Go.Proofs.YtjdpnadhgjohnaaGreatDoor
namespace Aw
open Go.RowKit
def za6 (P:Program)(t:TypeId):Option (Option Value × Nat × Nat):=(P.info? t).map fun i=>(i.zero,i.size,i.bytes)
def zcw (P:Program)(t:TypeId):Option Bool:=(P.underlying t).map fun d=>match d with| .struct _=>true| .array _ _=>true|_=>false
def za5 (P:Program)(t:TypeId):Option TypeId:=match P.underlying t with|some (.slice e)=>some e|_=>none
def zbx (P:Program)(t:TypeId)(f:Nat):Option (Nat × TypeId × Option Nat):=match P.underlying t with
 |some (.struct fs)=>(fs[f]?).map fun x=>(x.offset,x.type,(P.info? x.type).map (·.size))
 |_=>none
theorem zgq {P:Program}{t:TypeId}{z:Option Value}{n b:Nat}(h:za6 P t=some (z,n,b)): ∃i,P.info? t=some i∧i.zero=z∧i.size=n∧i.bytes=b:=by
 unfold za6 at h
 cases hi:P.info? t with
 |none=>rw[hi] at h;cases h
 |some i=>rw[hi] at h;simp only[Option.map_some,Option.some.injEq,Prod.mk.injEq] at h;exact⟨i,rfl,h.1,h.2.1,h.2.2⟩
theorem zea {P:Program}{t e:TypeId}(h:za5 P t=some e):P.underlying t=some (.slice e):=by
 unfold za5 at h
 split at h
 ·
  rename_i e' h1;cases h;exact h1
 ·
  cases h
theorem zqr {P:Program}{t:TypeId}{f off:Nat}{ft:TypeId}{n:Option Nat}(h:zbx P t f=some (off,ft,n)):
  ∃fs x,P.underlying t=some (.struct fs)∧fs[f]?=some x∧x.offset=off∧x.type=ft∧(P.info? ft).map (·.size)=n:=by
 unfold zbx at h
 split at h
 ·
  rename_i fs h1
  cases hx:fs[f]? with
  |none=>rw[hx] at h;cases h
  |some x=>rw[hx] at h;simp only[Option.map_some,Option.some.injEq,Prod.mk.injEq] at h;exact⟨fs,x,h1,hx,h.1,h.2.1,by rw[←h.2.1];exact h.2.2⟩
 ·
  cases h
theorem zb3 {P:Program}{t:TypeId}{z:Option Value}{n b:Nat}(h:za6 P t=some (z,n,b))(w:World):(sizeOf t).run P w= .ok n w:=by
 obtain⟨i,h1,_,h2,_⟩:=zgq h
 simp[sizeOf,typeInfo,h1,h2]
theorem zfy {P:Program}{t:TypeId}{b:Bool}(h:zcw P t=some b)(w:World):(isAgg t).run P w= .ok b w:=by
 unfold zcw at h
 cases hd:P.underlying t with
 |none=>rw[hd] at h;cases h
 |some d=>
  rw[hd] at h
  simp only[Option.map_some,Option.some.injEq] at h
  cases d<;>simp_all[isAgg,run_underlying hd]
theorem zc5 {G:Cx}{v u:Value}(h:Rep G v (.s u)):v=u:=by cases h;rfl
section
variable {P:Program}{o:Oper}{F:Frm}{σ:List Ob}
theorem zbc {x:AV}(h: ∀ (G:Cx) (ρ:Operand→Value),Rel G σ→(∀y∈o.op.operands,Rep G (ρ y) (F.eval y))→ ∃v,(execOp ρ o).run P G.w= .ok (.value v) G.w∧Rep G v x):Does P o F σ x σ:=by
 intro G a next Q hr ho hn
 obtain⟨v,h1,h2⟩:=h G a.eval hr ho
 unfold Oper.wp
 rw[h1]
 exact hn v G (.refl G) hr h2
theorem zsp {y:Operand}{x:AV}(ho:o.op= .move y)(hx:F.eval y=x):Does P o F σ x σ:=
 zbc fun G ρ hr hop=>⟨ρ y,by simp[execOp,ho],hx▸hop y (by simp[ho,Op.operands])⟩
theorem zoa {y:Operand}{x:AV}(ho:o.op= .assign y)(hx:F.eval y=x):Does P o F σ x σ:=
 zbc fun G ρ hr hop=>⟨ρ y,by simp[execOp,ho],hx▸hop y (by simp[ho,Op.operands])⟩
theorem zn3 {c x y:Operand}{b:Bool}(ho:o.op= .pick c x y)(hc:F.eval c= .s (.bool b)):Does P o F σ (bif b then F.eval x else F.eval y) σ:=
 zbc fun G ρ hr hop=>by
  have h1:=hop c (by simp[ho,Op.operands])
  rw[hc] at h1
  have h2:=zc5 h1
  refine⟨if b then ρ x else ρ y,by simp[execOp,ho,h2,asBool],?_⟩
  cases b
  ·
   exact hop y (by simp[ho,Op.operands])
  ·
   exact hop x (by simp[ho,Op.operands])
def Mv (o:Oper)(y:Operand):Prop:=o.op= .move y∨o.op= .assign y
theorem z1r {y:Operand}{x:AV}(ho:Mv o y)(hx:F.eval y=x):Does P o F σ x σ:=by
 rcases ho with h|h
 ·
  exact zsp h hx
 ·
  exact zoa h hx
section
variable {y:Operand}(ho:Mv o y)
include ho
end
theorem z33 {d:Nat}{x:AV}{F:Frm}:Frm.get ((d,x)::F) d=x:=by simp[Frm.get]
theorem zaq {F:Frm}{caps:List AV}:List.map F.eval []++caps=caps:=rfl
theorem zaf {F:Frm}{y:Operand}{l:List Operand}{x:AV}{caps xs:List AV}(h:F.eval y=x)(t:l.map F.eval++caps=xs):(y::l).map F.eval++caps=x::xs:=by rw[List.map_cons,h,List.cons_append,t]
theorem zc3 {b:BinOp}{t t':TypeId}{x y:Operand}{u v r:Value}(ho:o.op= .binOp b t x y t')(hx:F.eval x= .s u)(hy:F.eval y= .s v)
  (h: ∀w,(do eqGuard b t x y u v;binOp b t u v:Sem Value).run P w= .ok r w):Does P o F σ (.s r) σ:=
 zbc fun G ρ hr hop=>by
  have h1:=hop x (by simp[ho,Op.operands])
  have h2:=hop y (by simp[ho,Op.operands])
  rw[hx] at h1
  rw[hy] at h2
  refine⟨r,?_, .s r⟩
  have h3:=h G.w
  simp only[execOp,ho,zc5 h1,zc5 h2,Sem.run_bind] at h3⊢
  rw[h3]
  rfl
theorem zdm {b:BinOp}{t:TypeId}{x y:Operand}{k:IntKind}{m n:Int}{r:Value}(w:World)(hb:b≠ .shl∧b≠ .shr)(h:(match b with
  | .add| .sub| .mul=>Op.intArith b k m n
  | .quo| .rem=>Op.intDiv b k m n
  | .and| .or| .xor| .andNot=>Op.intBits b k m n
  |_=>Op.intCmp b m n:Sem Value).run P w= .ok r w):(do eqGuard b t x y (.int k m) (.int k n);binOp b t (.int k m) (.int k n):Sem Value).run P w= .ok r w:=by
 have h1:(eqGuard b t x y (.int k m) (.int k n)).run P w= .ok () w:=by
  unfold eqGuard
  cases b<;>rfl
 rw[Sem.run_bind,h1,Result.andThen_ok]
 unfold binOp
 cases b<;>first|exact absurd rfl hb.1|exact absurd rfl hb.2|simp_all
section
variable {t t':TypeId}{x y:Operand}{k:IntKind}{m n c:Int}
theorem za2 (ho:o.op= .binOp .add t x y t')(hx:F.eval x= .s (.int k m))(hy:F.eval y= .s (.int k n))(hw:k.wrap (m+n)=c):Does P o F σ (.s (.int k c)) σ:=
 zc3 ho hx hy fun w=>zdm w xm (by simp[Op.intArith,hw])
theorem zcb (ho:o.op= .binOp .sub t x y t')(hx:F.eval x= .s (.int k m))(hy:F.eval y= .s (.int k n))(hw:k.wrap (m-n)=c):Does P o F σ (.s (.int k c)) σ:=
 zc3 ho hx hy fun w=>zdm w xm (by simp[Op.intArith,hw])
theorem ze3 (ho:o.op= .binOp .mul t x y t')(hx:F.eval x= .s (.int k m))(hy:F.eval y= .s (.int k n))(hw:k.wrap (m*n)=c):Does P o F σ (.s (.int k c)) σ:=
 zc3 ho hx hy fun w=>zdm w xm (by simp[Op.intArith,hw])
theorem zmi (ho:o.op= .binOp .quo t x y t')(hx:F.eval x= .s (.int k m))(hy:F.eval y= .s (.int k n))(h0:n≠0)(hw:k.wrap (m.tdiv n)=c):Does P o F σ (.s (.int k c)) σ:=
 zc3 ho hx hy fun w=>zdm w xm (by simp[Op.intDiv,hw,h0])
theorem zmh (ho:o.op= .binOp .rem t x y t')(hx:F.eval x= .s (.int k m))(hy:F.eval y= .s (.int k n))(h0:n≠0)(hw:m.tmod n=c):Does P o F σ (.s (.int k c)) σ:=
 zc3 ho hx hy fun w=>zdm w xm (by simp[Op.intDiv,hw,h0])
theorem za0 (ho:o.op= .binOp .lss t x y t')(hx:F.eval x= .s (.int k m))(hy:F.eval y= .s (.int k n)):Does P o F σ (.s (.bool (decide (m<n)))) σ:=
 zc3 ho hx hy fun w=>zdm w xm (by simp[Op.intCmp])
theorem zc8 (ho:o.op= .binOp .leq t x y t')(hx:F.eval x= .s (.int k m))(hy:F.eval y= .s (.int k n)):Does P o F σ (.s (.bool (decide (m≤n)))) σ:=
 zc3 ho hx hy fun w=>zdm w xm (by simp[Op.intCmp])
theorem zay (ho:o.op= .binOp .gtr t x y t')(hx:F.eval x= .s (.int k m))(hy:F.eval y= .s (.int k n)):Does P o F σ (.s (.bool (decide (n<m)))) σ:=
 zc3 ho hx hy fun w=>zdm w xm (by simp[Op.intCmp])
theorem zc9 (ho:o.op= .binOp .geq t x y t')(hx:F.eval x= .s (.int k m))(hy:F.eval y= .s (.int k n)):Does P o F σ (.s (.bool (decide (n≤m)))) σ:=
 zc3 ho hx hy fun w=>zdm w xm (by simp[Op.intCmp])
theorem zb2 (ho:o.op= .binOp .eql t x y t')(hx:F.eval x= .s (.int k m))(hy:F.eval y= .s (.int k n)):Does P o F σ (.s (.bool (decide (m=n)))) σ:=
 zc3 ho hx hy fun w=>zdm w xm (by
  by_cases h:m=n
  ·
   simp[Op.intCmp,h]
  ·
   have:(m==n)=false:=by simpa using h
   simp[Op.intCmp,h,this])
theorem zbv (ho:o.op= .binOp .neq t x y t')(hx:F.eval x= .s (.int k m))(hy:F.eval y= .s (.int k n)):Does P o F σ (.s (.bool (decide (m≠n)))) σ:=
 zc3 ho hx hy fun w=>zdm w xm (by
  by_cases h:m=n
  ·
   simp[Op.intCmp,h]
  ·
   have:(m !=n)=true:=by simpa using h
   simp[Op.intCmp,h,this])
end
theorem toList_inj {a b:ByteArray}:a.toList=b.toList↔a=b:=by
 constructor
 ·
  intro h
  rw[ByteArray.toList_eq,ByteArray.toList_eq] at h
  exact ByteArray.ext (Array.toList_inj.1 h)
 ·
  intro h;rw[h]
theorem zkp {t t':TypeId}{x y:Operand}{a b:ByteArray}(ho:o.op= .binOp .eql t x y t')(hx:F.eval x= .s (.string a))(hy:F.eval y= .s (.string b)):Does P o F σ (.s (.bool (decide (a=b)))) σ:=
 zc3 ho hx hy fun w=>by
  by_cases h:a=b
  ·
   simp[eqGuard,binOp,Op.stringOp,h]
  ·
   have:(a.toList==b.toList)=false:=by simpa[toList_inj] using h
   simp[eqGuard,binOp,Op.stringOp,h,this]
theorem zv9 {t t':TypeId}{x y:Operand}{a b:ByteArray}(ho:o.op= .binOp .neq t x y t')(hx:F.eval x= .s (.string a))(hy:F.eval y= .s (.string b)):Does P o F σ (.s (.bool (decide (a≠b)))) σ:=
 zc3 ho hx hy fun w=>by
  by_cases h:a=b
  ·
   simp[eqGuard,binOp,Op.stringOp,h]
  ·
   have:(a.toList==b.toList)=false:=by simpa[toList_inj] using h
   simp[eqGuard,binOp,Op.stringOp,h,this]
theorem zwb {t t':TypeId}{x y:Operand}{a b:ByteArray}(ho:o.op= .binOp .lss t x y t')(hx:F.eval x= .s (.string a))(hy:F.eval y= .s (.string b)):Does P o F σ (.s (.bool (Op.bytesLess a.toList b.toList))) σ:=
 zc3 ho hx hy fun w=>by simp[eqGuard,binOp,Op.stringOp]
theorem z4q {t t':TypeId}{x y:Operand}{a b:ByteArray}(ho:o.op= .binOp .gtr t x y t')(hx:F.eval x= .s (.string a))(hy:F.eval y= .s (.string b)):Does P o F σ (.s (.bool (!(Op.bytesLess a.toList b.toList||decide (a=b))))) σ:=
 zc3 ho hx hy fun w=>by
  have:(a.toList==b.toList)=decide (a=b):=by rw[Bool.eq_iff_iff];simp[toList_inj]
  simp[eqGuard,binOp,Op.stringOp,this]
theorem zbs {t:TypeId}{x:Operand}{b:Bool}(ho:o.op= .unOp .not t x)(hx:F.eval x= .s (.bool b)):Does P o F σ (.s (.bool (!b))) σ:=
 zbc fun G ρ hr hop=>by
  have h1:=hop x (by simp[ho,Op.operands])
  rw[hx] at h1
  exact⟨_,by simp[execOp,ho,zc5 h1,Op.unary], .s _⟩
theorem zwa {t:TypeId}{x:Operand}{k:IntKind}{n c:Int}(ho:o.op= .unOp .neg t x)(hx:F.eval x= .s (.int k n))(hw:k.wrap (0-n)=c):Does P o F σ (.s (.int k c)) σ:=
 zbc fun G ρ hr hop=>by
  have h1:=hop x (by simp[ho,Op.operands])
  rw[hx] at h1
  exact⟨_,by simp only[execOp,ho,zc5 h1,Op.unary,Op.intArith,hw];rfl, .s _⟩
def zrm (P:Program)(t:TypeId):Option IntKind:=match P.underlying t with|some (.int k)=>some k|_=>none
theorem ze4 {t t':TypeId}{x:Operand}{k k':IntKind}{n c:Int}(ho:o.op= .convert t t' x)(ht:(P.underlying t).isSome=true)(hk:zrm P t'=some k')(hx:F.eval x= .s (.int k n))(hw:k'.wrap n=c):Does P o F σ (.s (.int k' c)) σ:=
 zbc fun G ρ hr hop=>by
  have h1:=hop x (by simp[ho,Op.operands])
  rw[hx] at h1
  have h2:P.underlying t'=some (.int k'):=by
   unfold zrm at hk
   split at hk
   ·
    rename_i h3;cases hk;exact h3
   ·
    cases hk
  obtain⟨d,hd⟩:=Option.isSome_iff_exists.1 ht
  refine⟨.int k' c,?_, .s _⟩
  simp only[execOp,ho,zc5 h1,convert,Sem.run_bind,run_underlying hd,run_underlying h2,Result.andThen_ok,Conv.intToInt,hw,Sem.run_pure]
theorem zlz {x:Operand}{i:Nat}{l:List AV}{y:AV}(ho:o.op= .extract x i)(hx:F.eval x= .tup l)(hy:l[i]?=some y):Does P o F σ y σ:=
 zbc fun G ρ hr hop=>by
  have h1:=hop x (by simp[ho,Op.operands])
  rw[hx] at h1
  generalize hv:ρ x=u at h1
  cases h1 with
  |tup vs _ hl h=>
   have hi:i<vs.size:=by rw[hl];exact(List.getElem?_eq_some_iff.1 hy).1
   exact⟨vs[i],by simp[execOp,ho,hv,Instr.extract,hi],h i _ _ (by simp[hi]) hy⟩
theorem zsv {f:FuncId}{caps:Array Operand}{cs:List AV}(ho:o.op= .makeFunc (.func f) #[] caps)(hc:caps.toList.map F.eval=cs):Does P o F σ (.fn f cs) σ:=
 zbc fun G ρ hr hop=>by
  refine⟨.func (.func f) #[] (caps.map ρ),by simp[execOp,ho,Instr.makeFunc], .fn f _ _ (by rw[←hc];simp) (fun j v c hv hcj=>?_)⟩
  rw[←hc] at hcj
  simp only[Array.getElem?_map,List.getElem?_map,Array.getElem?_toList] at hv hcj
  cases hj:caps[j]? with
  |none=>rw[hj] at hv;cases hv
  |some y=>
   rw[hj] at hv hcj
   simp only[Option.map_some,Option.some.injEq] at hv hcj
   subst hv hcj
   exact hop y (by simp only[ho,Op.operands];simp;exact Array.mem_of_getElem? hj)
theorem zly {x:Operand}{id sz k j:Nat}(ho:o.op= .nilCheck x)(hx:F.eval x= .ptr id sz k j):Does P o F σ (.ptr id sz k j) σ:=
 zbc fun G ρ hr hop=>by
  have h1:=hop x (by simp[ho,Op.operands])
  rw[hx] at h1
  generalize hv:ρ x=u at h1
  cases h1 with
  |ptr _ _ _ _ b hm=>exact⟨_,by simp[execOp,ho,hv], .ptr id sz k j b hm⟩
theorem zn4 {x:Operand}{f:FuncId}{cs:List AV}(ho:o.op= .nilCheck x)(hx:F.eval x= .fn f cs):Does P o F σ (.fn f cs) σ:=
 zbc fun G ρ hr hop=>by
  have h1:=hop x (by simp[ho,Op.operands])
  rw[hx] at h1
  generalize hv:ρ x=u at h1
  cases h1 with
  |fn _ vs _ hl h=>exact⟨_,by simp[execOp,ho,hv], .fn f vs cs hl h⟩
theorem zmy {t:TypeId}{f off:Nat}{ft:TypeId}{n:Nat}(hf:zbx P t f=some (off,ft,some n))(hn:n≠0)(b i:Nat)(w:World):(Instr.fieldAt t (.pointer (some ⟨b,i,none⟩)) f).run P w= .ok (.pointer (some ⟨b,i+off,none⟩)) w:=by
 obtain⟨fs,x,h1,h2,h3,h4,h5⟩:=zqr hf
 have h6:(sizeOf x.type).run P w= .ok n w:=by
  rw[h4]
  cases hi:P.info? ft with
  |none=>rw[hi] at h5;cases h5
  |some i=>rw[hi] at h5;simp only[Option.map_some,Option.some.injEq] at h5;simp[sizeOf,typeInfo,hi,h5]
 simp[Instr.fieldAt,run_underlying h1,h2,Instr.sureAddr,fieldPlace,h6,hn,h3,Addr.add_lit]
theorem zgh {t:TypeId}{x:Operand}{f off:Nat}{ft:TypeId}{n id sz k j:Nat}(ho:o.op= .fieldAddr t x f)(hf:zbx P t f=some (off,ft,some n))(hn:n≠0)(hx:F.eval x= .ptr id sz k j):Does P o F σ (.ptr id sz k (j+off)) σ:=
 zbc fun G ρ hr hop=>by
  have h1:=hop x (by simp[ho,Op.operands])
  rw[hx] at h1
  generalize hv:ρ x=u at h1
  cases h1 with
  |ptr _ _ _ _ b hm=>
   refine⟨.pointer (some ⟨b,k*sz+j+off,none⟩),by simp only[execOp,ho,hv,Sem.run_bind,zmy hf hn,Result.andThen_ok,Sem.run_pure],?_⟩
   rw[Nat.add_assoc]
   exact .ptr id sz k (j+off) b hm
theorem zgg {t:TypeId}{x:Operand}{f off:Nat}{ft:TypeId}{n:Nat}{cs:List AV}(ho:o.op= .fieldAddr t x f)(hf:zbx P t f=some (off,ft,some n))(hn:n≠0)(hx:F.eval x= .ref cs):Does P o F σ (.ref (cs.drop off)) σ:=
 zbc fun G ρ hr hop=>by
  have h1:=hop x (by simp[ho,Op.operands])
  rw[hx] at h1
  generalize hv:ρ x=u at h1
  cases h1 with
  | ref b i _ val hone h2 h=>
   refine⟨.pointer (some ⟨b,i+off,none⟩),by simp only[execOp,ho,hv,Sem.run_bind,zmy hf hn,Result.andThen_ok,Sem.run_pure],?_⟩
   refine .ref b (i+off) _ (fun j=>val (off+j)) (fun c hc=>hone c (List.mem_of_mem_drop hc)) (fun j c hj=>?_) (fun j c hj=>?_)
   ·
    rw[List.getElem?_drop] at hj
    rw[Nat.add_assoc]
    exact h2 _ c hj
   ·
    rw[List.getElem?_drop] at hj
    exact h _ c hj
theorem zje {t e:TypeId}{z:Option Value}{sz bt:Nat}(ht:za5 P t=some e)(he:za6 P e=some (z,sz,bt))(b i m cap:Nat)(kd:IntKind)(n:Int)(h0:0≤n)(h1:n<m)(w:World):
  (Instr.indexAt t (.slice (some ⟨b,i,none⟩) m cap) (.int kd n)).run P w= .ok (.pointer (some ⟨b,i+n.toNat*sz,none⟩)) w:=by
 simp[Instr.indexAt,asIntOf,run_underlying (zea ht),h0,h1,zb3 he,Addr.add_lit]
theorem za1 {t e:TypeId}{x y:Operand}{z:Option Value}{sz bt:Nat}{l:List AV}{kd:IntKind}{n:Int}{k:Nat}{u:AV}(ho:o.op= .indexAddr t x y)(ht:za5 P t=some e)(he:za6 P e=some (z,sz,bt))
  (hx:F.eval x= .sl l) (hy:F.eval y= .s (.int kd n)) (hk:n=(k:Int)) (hu:l[k]?=some u) (hsz:u.cells.length=sz):Does P o F σ (.ref u.cells) σ:=
 zbc fun G ρ hr hop=>by
  have h1:=hop x (by simp[ho,Op.operands])
  have h2:=hop y (by simp[ho,Op.operands])
  rw[hx] at h1
  rw[hy] at h2
  have hyv:=zc5 h2
  subst hk
  have hlt:=(List.getElem?_eq_some_iff.1 hu).1
  generalize hv:ρ x=v at h1
  cases h1 with
  |slnil=>simp at hu
  |sl b i cap sz' _ val hc hmx hone h3 h=>
   obtain⟨h4,h5⟩:=hone k u hu
   have hsz':sz'=sz:=h4.symm.trans hsz
   subst hsz'
   refine⟨.pointer (some ⟨b,i+k*sz',none⟩),?_, .ref b _ _ (val k) h5 (fun j c hj=>h3 k u j c hu hj) (fun j c hj=>h k u j c hu hj)⟩
   simp only[execOp,ho,hv,hyv,Sem.run_bind,zje ht he b i l.length cap kd (k:Int) xa xa,Result.andThen_ok,Sem.run_pure,Int.toNat_natCast]
theorem zal {t e:TypeId}{x y:Operand}{z:Option Value}{sz bt:Nat}{id m:Nat}{kd:IntKind}{n:Int}{k:Nat}(ho:o.op= .indexAddr t x y)(ht:za5 P t=some e)(he:za6 P e=some (z,sz,bt))
  (hx:F.eval x= .own id sz m) (hy:F.eval y= .s (.int kd n)) (hk:n=(k:Int)) (hu:k<m):Does P o F σ (.ptr id sz k 0) σ:=
 zbc fun G ρ hr hop=>by
  have h1:=hop x (by simp[ho,Op.operands])
  have h2:=hop y (by simp[ho,Op.operands])
  rw[hx] at h1
  rw[hy] at h2
  have hyv:=zc5 h2
  subst hk
  generalize hv:ρ x=v at h1
  cases h1 with
  |own0=>omega
  |own _ _ _ b cap hm hn hc hb=>
   refine⟨.pointer (some ⟨b,k*sz+0,none⟩),?_, .ptr id sz k 0 b hm⟩
   simp only[execOp,ho,hv,hyv,Sem.run_bind,zje ht he b 0 m cap kd (k:Int) xa xa,Result.andThen_ok,Sem.run_pure,Int.toNat_natCast,Nat.zero_add,Nat.add_zero]
theorem zd5 {t e:TypeId}{x:Operand}(ht:za5 P t=some e)(ho:o.op= .call {callee:= .builtin .len,args:= #[x],argTypes:= #[t]})(ρ:Operand→Value)(A:Option Addr)(n c:Nat)(hv:ρ x= .slice A n c)(w:World):
  (execOp ρ o).run P w= .ok (.value (.int .i64 n)) w:=by
 simp[execOp,ho,resolve,invoke,builtin,Builtin.len_,hv,run_underlying (zea ht),goInt]
theorem zn5 {t e:TypeId}{x:Operand}{l:List AV}(ho:o.op= .call {callee:= .builtin .len,args:= #[x],argTypes:= #[t]})(ht:za5 P t=some e)(hx:F.eval x= .sl l):Does P o F σ (.s (.int .i64 (l.length:Nat))) σ:=
 zbc fun G ρ hr hop=>by
  have h1:=hop x (by simp[ho,Op.operands,Call.operands])
  rw[hx] at h1
  generalize hv:ρ x=v at h1
  cases h1 with
  |slnil=>exact⟨_,zd5 ht ho ρ _ _ _ hv _, .s _⟩
  |sl b i cap sz' _ val hc hmx hone h3 h=>exact⟨_,zd5 ht ho ρ _ _ _ hv _, .s _⟩
theorem zcy {t e:TypeId}{x:Operand}{id sz n:Nat}(ho:o.op= .call {callee:= .builtin .len,args:= #[x],argTypes:= #[t]})(ht:za5 P t=some e)(hx:F.eval x= .own id sz n):Does P o F σ (.s (.int .i64 (n:Nat))) σ:=
 zbc fun G ρ hr hop=>by
  have h1:=hop x (by simp[ho,Op.operands,Call.operands])
  rw[hx] at h1
  generalize hv:ρ x=v at h1
  cases h1 with
  |own0=>exact⟨_,zd5 ht ho ρ _ _ _ hv _, .s _⟩
  |own _ _ _ b cap hm hn hc hb=>exact⟨_,zd5 ht ho ρ _ _ _ hv _, .s _⟩
theorem zxx {t e:TypeId}{x:Operand}{A:Option Addr}{n c:Nat}(ho:o.op= .call {callee:= .builtin .len,args:= #[x],argTypes:= #[t]})(ht:za5 P t=some e)(hx:F.eval x= .s (.slice A n c)):Does P o F σ (.s (.int .i64 (n:Nat))) σ:=
 zbc fun G ρ hr hop=>by
  have h1:=hop x (by simp[ho,Op.operands,Call.operands])
  rw[hx] at h1
  exact⟨_,zd5 ht ho ρ _ _ _ (zc5 h1) _, .s _⟩
def zff (P:Program)(t:TypeId):Bool:=match P.underlying t with|some .string=>true|_=>false
theorem zmr {t:TypeId}(h:zff P t=true):P.underlying t=some .string:=by
 unfold zff at h
 split at h
 ·
  assumption
 ·
  cases h
theorem zgf {t:TypeId}{x:Operand}{b:ByteArray}(ho:o.op= .call {callee:= .builtin .len,args:= #[x],argTypes:= #[t]})(ht:zff P t=true)(hx:F.eval x= .s (.string b)):Does P o F σ (.s (.int .i64 (b.size:Nat))) σ:=
 zbc fun G ρ hr hop=>by
  have h1:=hop x (by simp[ho,Op.operands,Call.operands])
  rw[hx] at h1
  exact⟨_,by simp[execOp,ho,resolve,invoke,builtin,Builtin.len_,zc5 h1,run_underlying (zmr ht),goInt], .s _⟩
theorem zja {t:TypeId}{x y:Operand}{b:ByteArray}{kd:IntKind}{n:Int}{k:Nat}{u:UInt8}(ho:o.op= .index t x y)(ht:zff P t=true)(hx:F.eval x= .s (.string b))(hy:F.eval y= .s (.int kd n))(hk:n=(k:Int))(hu:b[k]?=some u):Does P o F σ (.s (.int .u8 (u.toNat:Nat))) σ:=
 zbc fun G ρ hr hop=>by
  have h1:=hop x (by simp[ho,Op.operands])
  have h2:=hop y (by simp[ho,Op.operands])
  rw[hx] at h1
  rw[hy] at h2
  subst hk
  exact⟨_,by simp[execOp,ho,Instr.index,zc5 h1,zc5 h2,asIntOf,run_underlying (zmr ht),hu], .s _⟩
theorem zlp {t:TypeId}(ha:zcw P t=some false){b i:Nat}{v:Value}{w:World}(h:w.cell? ⟨b,i,none⟩=some v):(Instr.loadAt t (.pointer (some ⟨b,i,none⟩))).run P w= .ok v w:=by
 simp[Instr.loadAt,Instr.sureAddr,loadVar,zfy ha,h]
theorem zlq {t:TypeId}{z:Option Value}{n bt:Nat}(ha:zcw P t=some true)(hi:za6 P t=some (z,n,bt)){b i:Nat}{f:Nat→Value}{w:World}(h: ∀j,j<n→w.cell? ⟨b,i+j,none⟩=some (f j)):
  (Instr.loadAt t (.pointer (some ⟨b,i,none⟩))).run P w= .ok (.agg ((List.range n).map f).toArray) w:=by
 have h1:=run_loadCells (P:=P) w ⟨b,i,none⟩ n f (fun j hj=>by rw[Addr.add_lit];exact h j hj)
 simp[Instr.loadAt,Instr.sureAddr,loadVar,zfy ha,zb3 hi,h1]
theorem zkn {t:TypeId}{x:Operand}{c:AV}{cs:List AV}(ho:o.op= .load t x)(ha:zcw P t=some false)(hx:F.eval x= .ref (c::cs)):Does P o F σ c σ:=
 zbc fun G ρ hr hop=>by
  have h1:=hop x (by simp[ho,Op.operands])
  rw[hx] at h1
  generalize hv:ρ x=v at h1
  cases h1 with
  |ref b i _ val hone h2 h=>
   have h3:G.w.cell? ⟨b,i,none⟩=some (val 0):=(h2 0 c J).2
   exact⟨val 0,by simp only[execOp,ho,hv,Sem.run_bind,zlp ha h3,Result.andThen_ok,Sem.run_pure],h 0 c J⟩
theorem zi8 {t:TypeId}{x:Operand}{z:Option Value}{n bt:Nat}{cs:List AV}(ho:o.op= .load t x)(ha:zcw P t=some true)(hi:za6 P t=some (z,n,bt))(hx:F.eval x= .ref cs)(hn:n≤cs.length):Does P o F σ (.agg (cs.take n)) σ:=
 zbc fun G ρ hr hop=>by
  have h1:=hop x (by simp[ho,Op.operands])
  rw[hx] at h1
  generalize hv:ρ x=v at h1
  cases h1 with
  | ref b i _ val hone h2 h=>
   have h3:=zlq (P:=P) ha hi (w:=G.w) (b:=b) (i:=i) (f:=val) (fun j hj=>(h2 j _ (List.getElem?_eq_getElem xa)).2)
   refine⟨.agg ((List.range n).map val).toArray,by simp only[execOp,ho,hv,Sem.run_bind,h3,Result.andThen_ok,Sem.run_pure],?_⟩
   refine .agg _ _ (by simp;omega) (fun c hc=>hone c (List.mem_of_mem_take hc)) (fun j v c hv hc=>?_)
   rw[List.getElem?_take] at hc
   split at hc
   ·
    rename_i hj
    simp[hj] at hv
    subst hv
    exact h j c hc
   ·
    cases hc
def ze6:Ob→Option (Nat × List AV)
 | .row sz cs=>some (sz,cs)
 | .fz sz cs=>some (sz,cs)
 | .dead=>none
 | .mp _=>none
theorem zfp {G:Cx}{id sz k b:Nat}{ob:Ob}{cs:List AV}{e:AV}(hr:Rel G σ)(hs:σ[id]?=some ob)(ho:ze6 ob=some (sz,cs))(hm:G.mu id=some (some b))(he:cs[k]?=some e):
  ∃f:Nat→Value,e.cells.length=sz∧(∀c∈e.cells,c.one=true)∧ ∀ (j:Nat) c,e.cells[j]?=some c→G.w.cell? ⟨b,k*sz+j,none⟩=some (f j)∧Rep G (f j) c:=by
 have key: ∀fr,zev G b sz cs fr→ ∃f:Nat→Value,e.cells.length=sz∧(∀c∈e.cells,c.one=true)∧ ∀ (j:Nat) c,e.cells[j]?=some c→G.w.cell? ⟨b,k*sz+j,none⟩=some (f j)∧Rep G (f j) c:=by
  rintro fr ⟨cur,t,f,h1,_,h2,h3⟩
  obtain⟨h4,h5,h6⟩:=h3 k e he
  refine⟨fun j=>cur.getD (k*sz+j) undef,h4,h5,fun j c hc=>?_⟩
  obtain⟨v,h7,h8⟩:=h6 j c hc
  have h9:cur.getD (k*sz+j) undef=v:=by rw[Array.getD_eq_getD_getElem?,h7];rfl
  refine⟨?_,by dsimp only;rw[h9];exact h8⟩
  rw[cell_of_row _ b _ cur t f h1,h7];dsimp only;rw[h9]
 have h1:=hr.obs id ob hs
 cases ob with
 |dead=>cases ho
 |mp X=>cases ho
 |row sz' cs'=>
  simp only[ze6,Option.some.injEq,Prod.mk.injEq] at ho
  obtain⟨rfl,rfl⟩:=ho
  simp only[ObOk,hm] at h1
  exact key _ h1.1
 |fz sz' cs'=>
  simp only[ze6,Option.some.injEq,Prod.mk.injEq] at ho
  obtain⟨rfl,rfl⟩:=ho
  simp only[ObOk,hm] at h1
  exact key _ h1.1
theorem zao {t:TypeId}{x:Operand}{id sz k j:Nat}{ob:Ob}{cs:List AV}{e c:AV}(ho:o.op= .load t x)(ha:zcw P t=some false)(hx:F.eval x= .ptr id sz k j)(hs:σ[id]?=some ob)(hb:ze6 ob=some (sz,cs))(he:cs[k]?=some e)(hc:e.cells[j]?=some c):Does P o F σ c σ:=
 zbc fun G ρ hr hop=>by
  have h1:=hop x (by simp[ho,Op.operands])
  rw[hx] at h1
  generalize hv:ρ x=v at h1
  cases h1 with
  |ptr _ _ _ _ b hm=>
   obtain⟨f,_,_,h2⟩:=zfp hr hs hb hm he
   obtain⟨h3,h4⟩:=h2 j c hc
   exact⟨f j,by simp only[execOp,ho,hv,Sem.run_bind,zlp ha h3,Result.andThen_ok,Sem.run_pure],h4⟩
theorem zi9 {t:TypeId}{x:Operand}{z:Option Value}{n bt:Nat}{id sz k j:Nat}{ob:Ob}{cs:List AV}{e:AV}(ho:o.op= .load t x)(ha:zcw P t=some true)(hi:za6 P t=some (z,n,bt))(hx:F.eval x= .ptr id sz k j)(hs:σ[id]?=some ob)(hb:ze6 ob=some (sz,cs))(he:cs[k]?=some e)(hn:j+n≤e.cells.length):Does P o F σ (.agg ((e.cells.drop j).take n)) σ:=
 zbc fun G ρ hr hop=>by
  have h1:=hop x (by simp[ho,Op.operands])
  rw[hx] at h1
  generalize hv:ρ x=v at h1
  cases h1 with
  | ptr _ _ _ _ b hm=>
   obtain⟨f,_,hone,h2⟩:=zfp hr hs hb hm he
   have h3:=zlq (P:=P) ha hi (w:=G.w) (b:=b) (i:=k*sz+j) (f:=fun i=>f (j+i)) (fun i hi=>by rw[Nat.add_assoc];exact(h2 (j+i) _ (List.getElem?_eq_getElem xa)).1)
   refine⟨.agg ((List.range n).map (fun i=>f (j+i))).toArray,by simp only[execOp,ho,hv,Sem.run_bind,h3,Result.andThen_ok,Sem.run_pure],?_⟩
   refine .agg _ _ (by simp;omega) (fun c hc=>hone c (List.mem_of_mem_drop (List.mem_of_mem_take hc))) (fun i v c hv hc=>?_)
   rw[List.getElem?_take] at hc
   split at hc
   ·
    rename_i hj
    simp[hj] at hv
    subst hv
    rw[List.getElem?_drop] at hc
    exact(h2 _ c hc).2
   ·
    cases hc
theorem zdg {t:TypeId}{x:Operand}{z:Option Value}{n bt:Nat}{id sz k:Nat}{ob:Ob}{cs:List AV}{e:AV}(ho:o.op= .load t x)(ha:zcw P t=some true)(hi:za6 P t=some (z,n,bt))(hx:F.eval x= .ptr id sz k 0)(hs:σ[id]?=some ob)(hb:ze6 ob=some (sz,cs))(he:cs[k]?=some e)(hn:e.cells.length=n):Does P o F σ (.agg e.cells) σ:=by
 have:=zi9 (P:=P) (F:=F) (σ:=σ) ho ha hi hx hs hb he xa
 rwa [List.drop_zero, ←hn,List.take_length] at this
theorem zxy {t:TypeId}{x:Operand}{f off:Nat}{ft:TypeId}{n:Option Nat}{cs:List AV}{c:AV}(ho:o.op= .field t x f)(hf:zbx P t f=some (off,ft,n))(ha:zcw P ft=some false)(hx:F.eval x= .agg cs)(hc:cs[off]?=some c):Does P o F σ c σ:=
 zbc fun G ρ hr hop=>by
  have h1:=hop x (by simp[ho,Op.operands])
  rw[hx] at h1
  generalize hv:ρ x=v at h1
  obtain⟨fs,fl,h2,h3,h4,h5,h6⟩:=zqr hf
  cases h1 with
  |agg vs _ hl hone h=>
   have hi:off<vs.size:=by rw[hl];exact(List.getElem?_eq_some_iff.1 hc).1
   refine⟨vs[off],?_,h off _ _ (by simp[hi]) hc⟩
   simp[execOp,ho,hv,Instr.field,run_underlying h2,h3,asAgg,part,h5,zfy ha,h4,hi]
theorem zud {t:TypeId}{x:Operand}{f off:Nat}{ft:TypeId}{n:Nat}{z:Option Value}{bt:Nat}{cs:List AV}(ho:o.op= .field t x f)(hf:zbx P t f=some (off,ft,some n))(ha:zcw P ft=some true)(hi:za6 P ft=some (z,n,bt))(hx:F.eval x= .agg cs):Does P o F σ (.agg ((cs.drop off).take n)) σ:=
 zbc fun G ρ hr hop=>by
  have h1:=hop x (by simp[ho,Op.operands])
  rw[hx] at h1
  generalize hv:ρ x=v at h1
  obtain⟨fs,fl,h2,h3,h4,h5,h6⟩:=zqr hf
  cases h1 with
  | agg vs _ hl hone h=>
   refine⟨.agg (vs.extract off (off+n)),?_, .agg _ _ (by simp;omega) (fun c hc=>hone c (List.mem_of_mem_drop (List.mem_of_mem_take hc))) (fun j v c hv hc=>?_)⟩
   ·
    simp[execOp,ho,hv,Instr.field,run_underlying h2,h3,asAgg,part,h5,zfy ha,h4,zb3 hi]
   ·
    rw[List.getElem?_take] at hc
    split at hc
    ·
     rename_i hj
     rw[List.getElem?_drop] at hc
     rw[Array.getElem?_extract] at hv
     split at hv
     ·
      exact h _ _ _ hv hc
     ·
      cases hv
    ·
     cases hc
end
end Aw
namespace Aw
open Go.RowKit
theorem zgv {G:Cx}{v:Value}{x:AV}(h:Rep G v x)(h1: ∀c∈x.cells,c.one=true):v.cells.size=x.cells.length∧ ∀ (j:Nat) u c,v.cells[j]?=some u→x.cells[j]?=some c→Rep G u c∧u.oneCell'=true:=by
 by_cases hx: ∃cs,x= .agg cs
 ·
  obtain⟨cs,rfl⟩:=hx
  cases h with
  |agg vs _ hl hone h=>
   exact⟨hl,fun j u c hu hc=>⟨h j u c hu hc,(h j u c hu hc).one (hone c (List.mem_of_getElem? hc))⟩⟩
 ·
  have hxc:x.cells=[x]:=by cases x<;>first|rfl|(exact absurd ⟨_,rfl⟩ hx)
  have hone:x.one=true:=h1 x (by rw[hxc];simp)
  have hvo:=h.one hone
  have hv:v.cells= #[v]:=by cases v<;>first|rfl|(simp[Value.oneCell'] at hvo)
  rw[hxc,hv]
  refine⟨rfl,fun j u c hu hc=>?_⟩
  cases j with
  |zero=>simp at hu hc;subst hu hc;exact⟨h,hvo⟩
  |succ j=>simp at hc
theorem zq9 {B:Nat}{w0 w:World}(h:Below B w0 w){b:Nat}(hb:B≤b)(cs:Array Value):Below B w0 (w.setRow b cs):=
 h.trans ⟨rfl,rfl,rfl,by simp[World.setRow],fun k hk=>setRow_other w b k cs xa⟩
theorem zsy {B:Nat}{w0 w:World}(h:BelowT B w0 w){b:Nat}(hb:B≤b)(cs:Array Value):BelowT B w0 (w.setRow b cs):=⟨zq9 h.toBelow hb cs,h.tab,h.tb⟩
theorem ObOk.of {G G':Cx}{id:Nat}{ob:Ob}(h:ObOk G id ob)(hm:G'.mu id=G.mu id)(hb:G'.base=G.base)(hst:G'.St=G.St)(hsz:G.w.heap.size≤G'.w.heap.size)(hrow: ∀b sz cs f,G.mu id=some (some b)→(ob= .row sz cs∨ob= .fz sz cs)→zev G b sz cs f→zev G' b sz cs f)
  (hmap: ∀b X,G.mu id=some (some b)→X.At G.w b→ob= .mp X→G'.w.heap[b]?=G.w.heap[b]?∧ ∀j,G'.mu j=some (some b)→G.mu j=some (some b)) (hpr:G'.Pr=G.Pr:=by rfl):ObOk G' id ob:=by
 have hsp:G'.SP=G.SP:=by funext b o;simp only[Cx.SP,hst,hpr]
 cases ob with
 |dead=>exact fun b h1=>Nat.lt_of_lt_of_le (h b (by rw[←hm];exact h1)) hsz
 |mp X=>
  obtain⟨b,h1,h2,h3,h4,h5⟩:=h
  obtain⟨g1,g2⟩:=hmap b X h1 h2 rfl
  exact⟨b,hm.trans h1,h2.keep g1,by rw[hb];exact h3,by rw[hsp];exact h4,fun j hj=>h5 j (g2 j hj)⟩
 | row sz cs=>
  simp only[ObOk] at h⊢
  rw[hm,hb,hsp]
  cases hx:G.mu id with
  |none=>rw[hx] at h;exact h
  |some x=>
   rw[hx] at h
   cases x with
   |none=>exact h
   |some b=>exact⟨hrow b sz cs _ hx (.inl rfl) h.1,h.2⟩
 | fz sz cs=>
  simp only[ObOk] at h⊢
  rw[hm,hst]
  cases hx:G.mu id with
  |none=>rw[hx] at h;exact h
  |some x=>
   rw[hx] at h
   cases x with
   |none=>exact h
   |some b=>exact⟨hrow b sz cs _ hx (.inr rfl) h.1,h.2⟩
section
variable {G:Cx}{σ:List Ob}
def Cx.new (G:Cx)(id:Nat)(w:World)(b:Option Nat):Cx:={G with w:=w,mu:=fun i=>if i=id then some b else G.mu i}
theorem zf8 (hr:Rel G σ)(w:World)(hw:w.heap=G.w.heap)(cells:Array Value)(e:TypeId):G.Ext (G.new σ.length (w.alloc (.cells cells e)) (some G.w.heap.size)):=by
 have hsz:w.heap.size=G.w.heap.size:=by rw[hw]
 have hold: ∀k,k<G.w.heap.size→(w.alloc (.cells cells e)).heap[k]?=G.w.heap[k]?:=fun k hk=>by rw[heap_alloc_old (r:=k) w _ xa,hw]
 refine⟨rfl,rfl,fun _ _ h=>h,fun b o h=>World.cell?_of_block (hold b (hr.st b o h)),fun id x h=>?_,by simp[Cx.new,hsz],fun b cur t f h=>⟨cur,?_,rfl⟩,fun _ _ h=> .inl h,rfl,fun _ _ h=> .inl h,fun k o h _=>(hold k (Array.getElem?_eq_some_iff.1 h).1).trans h⟩
 ·
  have:id≠σ.length:=by
   intro e2
   rw[e2,hr.fresh _ (Nat.le_refl _)] at h
   cases h
  simp[Cx.new,this,h]
 ·
  exact(hold b (Array.getElem?_eq_some_iff.1 h).1).trans h
theorem zic (hr:Rel G σ)(w:World)(hw:w.heap=G.w.heap)(hbw:BelowT G.base G.w0 w)(cells:Array Value)(e:TypeId)(sz:Nat)(cs:List AV)(hn:cs.length*sz≤cells.size)
  (h: ∀ (k:Nat) x,cs[k]?=some x→x.cells.length=sz∧(∀c∈x.cells,c.one=true)∧ ∀ (j:Nat) c,x.cells[j]?=some c→ ∃v,cells[k*sz+j]?=some v∧Rep G v c):
  Rel (G.new σ.length (w.alloc (.cells cells e)) (some G.w.heap.size)) (σ++[.row sz cs]):=by
 have hext:=zf8 hr w hw cells e
 have hsz:w.heap.size=G.w.heap.size:=by rw[hw]
 have hble:G.base≤G.w.heap.size:=by have h1:=hr.le;have h2:=hr.below.size;omega
 refine⟨hbw.alloc xa _,hr.le,fun b o hb=>?_,fun id ob hob=>?_,fun i j b hi hj hmi hmj=>?_,fun id hid=>?_⟩
 ·
  have:=hr.st b o hb
  simp only[Cx.new,World.size_alloc];omega
 ·
  by_cases hid:id<σ.length
  ·
   rw[List.getElem?_append_left hid] at hob
   have h1:=hr.obs id ob hob
   have hne:id≠σ.length:=by omega
   have hm:(G.new σ.length (w.alloc (.cells cells e)) (some G.w.heap.size)).mu id=G.mu id:=by simp[Cx.new,hne]
   have key: ∀b sz cs f,zev G b sz cs f→zev (G.new σ.length (w.alloc (.cells cells e)) (some G.w.heap.size)) b sz cs f:=by
    rintro b sz cs f ⟨cur,t,fr,h2,h3,h4,h5⟩
    refine⟨cur,t,fr,?_,h3,h4,fun k x hx=>⟨(h5 k x hx).1,(h5 k x hx).2.1,fun j c hc=>?_⟩⟩
    ·
     exact((heap_alloc_old (r:=b) w _ (by have:=(Array.getElem?_eq_some_iff.1 h2).1;omega)).trans (by rw[hw])).trans h2
    ·
     obtain⟨v,h6,h7⟩:=(h5 k x hx).2.2 j c hc
     exact⟨v,h6,h7.ext hext⟩
   exact h1.of hm J J (by simp[Cx.new,hsz]) (fun b sz cs f _ _ hx=>key b sz cs f hx) (fun b X hb hX _=>⟨(heap_alloc_old (r:=b) w _ (by have:=hX.lt;omega)).trans (by rw[hw]),fun j hj=>by
    by_cases e2:j=σ.length
    ·
     subst e2
     have:=hX.lt
     simp[Cx.new] at hj
     omega
    ·
     simpa[Cx.new,e2] using hj⟩)
  ·
   have hid2:id=σ.length:=by
    have:=(List.getElem?_eq_some_iff.1 hob).1
    simp at this;omega
   subst hid2
   simp at hob
   subst hob
   simp only[ObOk,Cx.new,if_true]
   refine⟨⟨cells,e,(0,0),?_,rfl,hn,fun k x hx=>⟨(h k x hx).1,(h k x hx).2.1,fun j c hc=>?_⟩⟩,hble,fun o ho=>?_⟩
   ·
    show(w.alloc (.cells cells e)).heap[G.w.heap.size]?=_
    rw[←hsz];exact heap_alloc_new w _
   ·
    obtain⟨v,h6,h7⟩:=(h k x hx).2.2 j c hc
    exact⟨v,h6,h7.ext hext⟩
   ·
    have:=hr.st _ _ ho
    omega
 ·
  -- of two rows in one block
  have old: ∀i b,zed (σ++[.row sz cs]) i→(G.new σ.length (w.alloc (.cells cells e)) (some G.w.heap.size)).mu i=some (some b)→(i=σ.length∧b=G.w.heap.size)∨(i<σ.length∧zed σ i∧G.mu i=some (some b)∧b<G.w.heap.size):=by
   rintro i b ⟨sz1,cs1,hi⟩ hm
   by_cases hlt:i<σ.length
   ·
    right
    rw[List.getElem?_append_left hlt] at hi
    have hm2:G.mu i=some (some b):=by simpa[Cx.new,Nat.ne_of_lt hlt] using hm
    refine⟨hlt,⟨sz1,cs1,hi⟩,hm2,?_⟩
    have h1:=hr.obs i _ hi
    simp only[ObOk,hm2] at h1
    obtain⟨⟨cur,t,fr,h2,_⟩,_⟩:=h1
    exact(Array.getElem?_eq_some_iff.1 h2).1
   ·
    left
    have:=(List.getElem?_eq_some_iff.1 hi).1
    simp at this
    have he:i=σ.length:=by omega
    subst he
    simp[Cx.new] at hm
    exact⟨rfl,hm.symm⟩
  rcases old i b hi hmi with ⟨rfl,hb1⟩|⟨h1,h2,h3,h4⟩<;>rcases old j b hj hmj with ⟨rfl,hb2⟩|⟨g1,g2,g3,g4⟩
  ·
   rfl
  ·
   omega
  ·
   omega
  ·
   exact hr.inj i j b h2 g2 h3 g3
 ·
  simp at hid
  have hne:id≠σ.length:=by omega
  simp[Cx.new,hne,hr.fresh id xa]
theorem zh2 (hr:Rel G σ):G.Ext (G.new σ.length G.w none):=by
 refine⟨rfl,rfl,fun _ _ h=>h,fun _ _ _=>rfl,fun id x h=>?_,Nat.le_refl _,zce.refl _,fun _ _ h=> .inl h,rfl,fun _ _ h=> .inl h,fun _ _ h _=>h⟩
 have:id≠σ.length:=by
  intro e2
  rw[e2,hr.fresh _ (Nat.le_refl _)] at h
  cases h
 simp[Cx.new,this,h]
theorem zev.ext {G':Cx}(e:G.Ext G')(hw:G'.w=G.w){b sz:Nat}{cs:List AV}{f:Nat × Nat→Prop}(h:zev G b sz cs f):zev G' b sz cs f:=by
 obtain⟨cur,t,fr,h2,h3,h4,h5⟩:=h
 refine⟨cur,t,fr,by rw[hw];exact h2,h3,h4,fun k x hx=>⟨(h5 k x hx).1,(h5 k x hx).2.1,fun j c hc=>?_⟩⟩
 obtain⟨v,h6,h7⟩:=(h5 k x hx).2.2 j c hc
 exact⟨v,h6,h7.ext e⟩
theorem zjj (hr:Rel G σ)(sz:Nat):Rel (G.new σ.length G.w none) (σ++[.row sz []]):=by
 have hext:=zh2 hr
 refine⟨hr.below,hr.le,hr.st,fun id ob hob=>?_,fun i j b hi hj hmi hmj=>?_,fun id hid=>?_⟩
 ·
  by_cases hid:id<σ.length
  ·
   rw[List.getElem?_append_left hid] at hob
   have h1:=hr.obs id ob hob
   have hm:(G.new σ.length G.w none).mu id=G.mu id:=by simp[Cx.new,Nat.ne_of_lt hid]
   exact h1.of hm J J (Nat.le_refl _) (fun b sz cs f _ _ hx=>hx.ext hext J) (fun b X hb hX _=>⟨rfl,fun j hj=>by
    by_cases e2:j=σ.length
    ·
     subst e2;simp[Cx.new] at hj
    ·
     simpa[Cx.new,e2] using hj⟩)
  ·
   have hid2:id=σ.length:=by
    have:=(List.getElem?_eq_some_iff.1 hob).1
    simp at this;omega
   subst hid2
   simp at hob
   subst hob
   simp[ObOk,Cx.new]
 ·
  have old: ∀i b,zed (σ++[.row sz []]) i→(G.new σ.length G.w none).mu i=some (some b)→zed σ i∧G.mu i=some (some b):=by
   rintro i b ⟨sz1,cs1,hi⟩ hm
   by_cases hlt:i<σ.length
   ·
    rw[List.getElem?_append_left hlt] at hi
    exact⟨⟨sz1,cs1,hi⟩,by simpa[Cx.new,Nat.ne_of_lt hlt] using hm⟩
   ·
    have:=(List.getElem?_eq_some_iff.1 hi).1
    simp at this
    have he:i=σ.length:=by omega
    subst he
    simp[Cx.new] at hm
  exact hr.inj i j b (old i b hi hmi).1 (old j b hj hmj).1 (old i b hi hmi).2 (old j b hj hmj).2
 ·
  simp at hid
  have hne:id≠σ.length:=by omega
  simp[Cx.new,hne,hr.fresh id xa]
theorem zju {id b sz:Nat}{cs:List AV}{cur cur':Array Value}{e:TypeId}(hr:Rel G σ)(hs:σ[id]?=some (.row sz cs))(hm:G.mu id=some (some b))(hcur:G.w.heap[b]?=some (.cells cur e (0,0)))(hsz:cur'.size=cur.size):
  G.Ext {G with w:=G.w.setRow b cur'}:=by
 have h1:=hr.obs id _ hs
 simp only[ObOk,hm] at h1
 refine⟨rfl,rfl,fun _ _ h=>h,fun b' o h=>?_,fun _ _ h=>h,by simp[World.setRow],fun b' c t f h=>?_,fun _ _ h=> .inl h,rfl,fun _ _ h=> .inl h,fun k o h hst=>(setRow_other _ b k cur' (fun e=>by subst e;rw[hcur] at h;cases h;cases hst)).trans h⟩
 ·
  have hne:b'≠b:=fun e=>h1.2.2 o (e▸h)
  exact World.cell?_of_block (setRow_other _ b b' cur' hne)
 ·
  by_cases hb:b'=b
  ·
   subst hb
   rw[hcur] at h
   cases h
   exact⟨cur',setRow_heap _ _ cur cur' _ _ hcur,hsz⟩
  ·
   exact⟨c,(setRow_other _ b b' cur' hb).trans h,rfl⟩
theorem zmn {id b sz:Nat}{cs cs':List AV}{cur cur':Array Value}{e:TypeId}(hr:Rel G σ)(hs:σ[id]?=some (.row sz cs))(hm:G.mu id=some (some b))(hcur:G.w.heap[b]?=some (.cells cur e (0,0)))(hsz:cur'.size=cur.size)
  (hn:cs'.length*sz≤cur'.size)
  (h: ∀ (k:Nat) x,cs'[k]?=some x→x.cells.length=sz∧(∀c∈x.cells,c.one=true)∧ ∀ (j:Nat) c,x.cells[j]?=some c→ ∃v,cur'[k*sz+j]?=some v∧Rep G v c):
  Rel {G with w:=G.w.setRow b cur'} (σ.set id (.row sz cs')):=by
 have hext:=zju hr hs hm hcur hsz
 have h1:=hr.obs id _ hs
 simp only[ObOk,hm] at h1
 have hid:id<σ.length:=(List.getElem?_eq_some_iff.1 hs).1
 refine⟨zsy hr.below h1.2.1 cur',hr.le,fun b' o hb=>by simpa[World.setRow] using hr.st b' o hb,fun i ob hob=>?_,fun i j b' hi hj hmi hmj=>?_,fun i hi=>hr.fresh i (by simpa using hi)⟩
 ·
  by_cases hi:id=i
  ·
   subst hi
   rw[List.getElem?_set_self hid] at hob
   cases hob
   simp only[ObOk,hm]
   refine⟨⟨cur',e,(0,0),setRow_heap _ _ cur cur' _ _ hcur,rfl,hn,fun k x hx=>⟨(h k x hx).1,(h k x hx).2.1,fun j c hc=>?_⟩⟩,h1.2.1,h1.2.2⟩
   obtain⟨v,h6,h7⟩:=(h k x hx).2.2 j c hc
   exact⟨v,h6,h7.ext hext⟩
  ·
   rw[List.getElem?_set_ne hi] at hob
   have h2:=hr.obs i ob hob
   have key: ∀b' sz cs f,b'≠b→zev G b' sz cs f→zev {G with w:=G.w.setRow b cur'} b' sz cs f:=by
    rintro b' sz cs f hne ⟨cu,t,fr,h2,h3,h4,h5⟩
    refine⟨cu,t,fr,(setRow_other _ b b' cur' hne).trans h2,h3,h4,fun k x hx=>⟨(h5 k x hx).1,(h5 k x hx).2.1,fun j c hc=>?_⟩⟩
    obtain⟨v,h6,h7⟩:=(h5 k x hx).2.2 j c hc
    exact⟨v,h6,h7.ext hext⟩
   refine h2.of J J J (by simp[World.setRow]) (fun b' sz2 cs2 f hb' hob2 hx=>by
    by_cases e2:b'=b
    ·
     subst e2
     rcases hob2 with rfl|rfl
     ·
      exact absurd (hr.inj id i b' ⟨sz,cs,hs⟩ ⟨sz2,cs2,hob⟩ hm hb') hi
     ·
      -- a finished row in this block can have no cells
      simp only[ObOk,hb'] at h2
      obtain⟨cu,t,fr,h3,h4,h5⟩:=hx
      have h3':=h3
      rw[hcur] at h3'
      cases h3'
      refine⟨cur',e,(0,0),setRow_heap _ _ cur cur' _ _ hcur,h4,by rw[hsz];exact h5.1,fun k x hx=>⟨(h5.2 k x hx).1,(h5.2 k x hx).2.1,fun j c hc=>?_⟩⟩
      exact absurd (Or.inl (h2.2 k x j hx (List.getElem?_eq_some_iff.1 hc).1)) (h1.2.2 _)
    ·
     exact key b' _ _ _ e2 hx) (fun b' X hb' hX _=>⟨setRow_other _ b b' cur' (fun e2=>by
    obtain⟨es,cl,h3⟩:=hX.map
    rw[e2,hcur] at h3;cases h3),fun j hj=>hj⟩)
 ·
  have old: ∀i,zed (σ.set id (.row sz cs')) i→zed σ i:=by
   rintro i ⟨sz1,cs1,hi⟩
   by_cases h2:id=i
   ·
    subst h2;exact⟨sz,cs,hs⟩
   ·
    rw[List.getElem?_set_ne h2] at hi;exact⟨sz1,cs1,hi⟩
  exact hr.inj i j b' (old i hi) (old j hj) hmi hmj
theorem zvv (hr:Rel G σ)(id:Nat):Rel G (σ.set id .dead):=by
 refine⟨hr.below,hr.le,hr.st,fun i ob hob=>?_,fun i j b hi hj hmi hmj=>?_,fun i hi=>hr.fresh i (by simpa using hi)⟩
 ·
  by_cases h:id=i
  ·
   subst h
   have hid:id<σ.length:=by simpa using (List.getElem?_eq_some_iff.1 hob).1
   rw[List.getElem?_set_self hid] at hob
   cases hob
   exact fun b hb=>(hr.obs id _ (List.getElem?_eq_getElem hid)).lt hb
  ·
   rw[List.getElem?_set_ne h] at hob;exact hr.obs i ob hob
 ·
  have old: ∀i,zed (σ.set id .dead) i→zed σ i:=by
   rintro i ⟨sz1,cs1,hi⟩
   by_cases h2:id=i
   ·
    subst h2
    have hid:id<σ.length:=by simpa using (List.getElem?_eq_some_iff.1 hi).1
    rw[List.getElem?_set_self hid] at hi
    cases hi
   ·
    rw[List.getElem?_set_ne h2] at hi;exact⟨sz1,cs1,hi⟩
  exact hr.inj i j b (old i hi) (old j hj) hmi hmj
theorem zwy {id sz:Nat}{b:Option Nat}{cs:List AV}(hr:Rel G σ)(hs:σ[id]?=some (.row sz cs))(hm:G.mu id=some b):Rel (G.new σ.length G.w b) (σ.set id .dead++[.row sz cs])∧G.Ext (G.new σ.length G.w b):=by
 have hext:G.Ext (G.new σ.length G.w b):=by
  refine⟨rfl,rfl,fun _ _ h=>h,fun _ _ _=>rfl,fun id x h=>?_,Nat.le_refl _,zce.refl _,fun _ _ h=> .inl h,rfl,fun _ _ h=> .inl h,fun _ _ h _=>h⟩
  have:id≠σ.length:=by
   intro e2
   rw[e2,hr.fresh _ (Nat.le_refl _)] at h
   cases h
  simp[Cx.new,this,h]
 have hr2:=zvv hr id
 have hid:id<σ.length:=(List.getElem?_eq_some_iff.1 hs).1
 refine⟨⟨hr.below,hr.le,hr.st,fun i ob hob=>?_,fun i j b' hi hj hmi hmj=>?_,fun i hi=>?_⟩,hext⟩
 ·
  by_cases hi:i<σ.length
  ·
   rw[List.getElem?_append_left (by simpa using hi)] at hob
   have h1:=hr2.obs i ob hob
   have hm2:(G.new σ.length G.w b).mu i=G.mu i:=by simp[Cx.new,Nat.ne_of_lt hi]
   exact h1.of hm2 J J (Nat.le_refl _) (fun b sz cs f _ _ hx=>hx.ext hext J) (fun b' X hb' hX _=>⟨rfl,fun j hj=>by
    by_cases e2:j=σ.length
    ·
     subst e2
     simp[Cx.new] at hj
     subst hj
     have h3:=hr.obs id _ hs
     simp only[ObOk,hm] at h3
     obtain⟨⟨cu,te,fr,h4,_⟩,_⟩:=h3
     obtain⟨es,cl,h5⟩:=hX.map
     rw[h4] at h5;cases h5
    ·
     simpa[Cx.new,e2] using hj⟩)
  ·
   have hi2:i=σ.length:=by
    have:=(List.getElem?_eq_some_iff.1 hob).1
    simp at this;omega
   subst hi2
   rw[List.getElem?_append_right xm] at hob
   simp at hob
   subst hob
   have h1:=hr.obs id _ hs
   simp only[ObOk,hm] at h1
   have hm3:(G.new σ.length G.w b).mu σ.length=some b:=by simp[Cx.new]
   simp only[ObOk,hm3]
   cases b with
   |none=>exact h1
   |some b=>exact⟨h1.1.ext hext J,h1.2.1,h1.2.2⟩
 ·
  have old: ∀i b',zed (σ.set id .dead++[.row sz cs]) i→(G.new σ.length G.w b).mu i=some (some b')→(i=σ.length∧b=some b')∨(i<σ.length∧i≠id∧zed σ i∧G.mu i=some (some b')):=by
   rintro i b' ⟨sz1,cs1,hi⟩ hmi
   by_cases hlt:i<σ.length
   ·
    right
    rw[List.getElem?_append_left (by simpa using hlt)] at hi
    by_cases h2:id=i
    ·
     subst h2;rw[List.getElem?_set_self hid] at hi;cases hi
    ·
     rw[List.getElem?_set_ne h2] at hi
     exact⟨hlt,Ne.symm h2,⟨sz1,cs1,hi⟩,by simpa[Cx.new,Nat.ne_of_lt hlt] using hmi⟩
   ·
    left
    have:=(List.getElem?_eq_some_iff.1 hi).1
    simp at this
    have he:i=σ.length:=by omega
    subst he
    simp[Cx.new] at hmi
    exact⟨rfl,hmi⟩
  rcases old i b' hi hmi with ⟨rfl,h1⟩|⟨h1,h2,h3,h4⟩<;>rcases old j b' hj hmj with ⟨rfl,g1⟩|⟨g1,g2,g3,g4⟩
  ·
   rfl
  ·
   exact absurd (hr.inj j id b' g3 ⟨sz,cs,hs⟩ g4 (by rw[hm,h1])) g2
  ·
   exact absurd (hr.inj i id b' h3 ⟨sz,cs,hs⟩ h4 (by rw[hm,g1])) h2
  ·
   exact hr.inj i j b' h3 g3 h4 g4
 ·
  simp at hi
  have hne:i≠σ.length:=by omega
  simp[Cx.new,hne,hr.fresh i xa]
theorem zqx (G:Cx):G.Ext {G with w:=G.w.drew}:=⟨rfl,rfl,fun _ _ h=>h,fun _ _ _=>rfl,fun _ _ h=>h,Nat.le_refl _,zce.refl _,fun _ _ h=> .inl h,rfl,fun _ _ h=> .inl h,fun _ _ h _=>h⟩
theorem zv8 (hr:Rel G σ):Rel {G with w:=G.w.drew} σ:=by
 refine⟨hr.below.drew,hr.le,hr.st,fun id ob h=>?_,hr.inj,hr.fresh⟩
 have h1:=hr.obs id ob h
 exact h1.of J J J (Nat.le_refl _) (fun b sz cs f _ _ hx=>by
  obtain⟨cur,t,fr,h2,h3,h4,h5⟩:=hx
  refine⟨cur,t,fr,h2,h3,h4,fun k x hx=>⟨(h5 k x hx).1,(h5 k x hx).2.1,fun j c hc=>?_⟩⟩
  obtain⟨v,h7,h8⟩:=(h5 k x hx).2.2 j c hc
  exact⟨v,h7,h8.ext (zqx G)⟩) (fun b X _ _ _=>⟨rfl,fun _ h=>h⟩)
end
end Aw
end Go.Proofs.YtjdpnadhgjohnaaGreatDoor
