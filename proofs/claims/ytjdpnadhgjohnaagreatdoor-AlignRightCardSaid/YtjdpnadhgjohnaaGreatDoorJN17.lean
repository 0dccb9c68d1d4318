import Derived.Test.YtjdpnadhgjohnaaGreatDoorJN0
import Derived.Test.YtjdpnadhgjohnaaGreatDoorJN16
import Derived.Laws.StructEq
set_option linter.unusedSimpArgs false
set_option linter.unusedVariables false
set_option linter.unusedSectionVars false
section
namespace Go.Proofs.YtjdpnadhgjohnaaGreatDoor.Aw
open Go Go.Proofs Go.RowKit
section
variable [Mk]{P:Program}{N:Nat}{ops:Array Oper}{o:Oper}{l:List Oper}{F:Frm}{σ:List Ob}{Q:Exit→Frm→List Ob→Prop}
end
inductive SK where|i|b|s
def skOf:TypeDesc→Option SK
 | .int _=>some .i
 | .bool=>some .b
 | .string=>some .s
 |_=>none
def fsK (P:Program):List Field→Nat→Option (List SK)
 |[],_=>some []
 |f::fs,k=>if f.name== "_" ||f.offset !=k then none else
  match (P.underlying f.type).bind skOf,fsK P fs (k+1) with
  |some a,some l=>some (a::l)
  |_,_=>none
def zyd (P:Program)(t:TypeId):Option (List SK):=
 match P.underlying t with
 |some (.struct fs)=>if P.eqGuardType P.depth t||P.stoodInHeld t then none else fsK P fs.toList 0
 |_=>none
def vK:SK→Value→Value→Bool
 | .i, .int k _, .int k' _=>decide (k=k')
 | .b, .bool _, .bool _=>true
 | .s, .string _, .string _=>true
 |_,_,_=>false
def vKs:List SK→List Value→List Value→Bool
 |[],[],[]=>true
 |k::ks,u::us,v::vs=>vK k u v && vKs ks us vs
 |_,_,_=>false
def unS:AV→Value
 | .s v=>v
 |_=>undef
def isS:AV→Bool
 | .s _=>true
 |_=>false
noncomputable def eqL (us vs:List Value):Bool:= @decide (us=vs) (Classical.propDecidable _)
theorem eqSc {P:Program}(w:World)(d:Nat){t:TypeId}{T:TypeDesc}(hT:P.underlying t=some T){a:SK}(ha:skOf T=some a){u v:Value}(hv:vK a u v=true):(Op.equalIn (d+1) t u v).run P w= .ok (@decide (u=v) (Classical.propDecidable _)) w:=by
 cases T with
 | int kk=>
  cases ha
  cases u with
  | int k1 a1=>
   cases v with
   | int k2 a2=>
    obtain rfl:k1=k2:=by simpa[vK] using hv
    rw[run_equalIn_int w d t _ _ _ _ hT]
    by_cases h:a1=a2
    ·
     subst h;simp
    ·
     have: ¬ (Value.int k1 a1=Value.int k1 a2):=fun e=>h (by injection e)
     simp[h]
   |_=>simp[vK] at hv
  |_=>simp[vK] at hv
 | bool=>
  cases ha
  cases u with
  | bool a1=>
   cases v with
   |bool a2=>
    rw[run_equalIn_bool w d t _ _ hT]
    cases a1<;>cases a2<;>simp
   |_=>simp[vK] at hv
  |_=>simp[vK] at hv
 | string=>
  cases ha
  cases u with
  | string a1=>
   cases v with
   | string a2=>
    rw[run_equalIn_string w d t _ _ hT]
    by_cases h:a1=a2
    ·
     subst h;simp
    ·
     have h2:(a1.toList==a2.toList)=false:=by simpa[toList_inj] using h
     rw[h2]
     simp[h]
   |_=>simp[vK] at hv
  |_=>simp[vK] at hv
 |_=>simp[skOf] at ha
theorem eqF {P:Program}(w:World)(d:Nat)(xs ys:Array Value): ∀ (fs:List Field) (k:Nat) (ks:List SK) (us vs:List Value),fsK P fs k=some ks→vKs ks us vs=true→
  (∀j,j<us.length→xs[k+j]?=us[j]?)→(∀j,j<vs.length→ys[k+j]?=vs[j]?)→(Op.eqFields (d+1) xs ys fs).run P w= .ok (eqL us vs) w
 |[],k,ks,us,vs,h,hv,hx,hy=>by
  simp only[fsK,Option.some.injEq] at h
  subst h
  cases us<;>cases vs<;>simp[vKs] at hv
  simp[Op.eqFields,eqL]
 | f ::fs,k,ks,us,vs,h,hv,hx,hy=>by
  unfold fsK at h
  split at h
  ·
   cases h
  ·
   rename_i hn
   split at h
   ·
    rename_i a l ha hl
    cases h
    match us,vs,hv with
    | u::us,v::vs,hv=>
     simp only[vKs,Bool.and_eq_true] at hv
     obtain⟨hv1,hv2⟩:=hv
     simp only[Bool.or_eq_true,beq_iff_eq,bne_iff_ne,ne_eq,not_or,Decidable.not_not] at hn
     obtain⟨hn1,hn2⟩:=hn
     have ih:=eqF w d xs ys fs (k+1) l us vs hl hv2 (fun j hj=>by have:=hx (j+1) (by simpa using hj);rw[show k+1+j=k+(j+1) by omega];simpa using this) (fun j hj=>by have:=hy (j+1) (by simpa using hj);rw[show k+1+j=k+(j+1) by omega];simpa using this)
     have hx0:=hx 0 xm
     have hy0:=hy 0 xm
     simp only[Nat.add_zero,List.getElem?_cons_zero] at hx0 hy0
     obtain⟨T,hT,hTk⟩: ∃T,P.underlying f.type=some T∧skOf T=some a:=by
      cases hT:P.underlying f.type with
      |none=>rw[hT] at ha;cases ha
      |some T=>rw[hT] at ha;exact⟨T,rfl,ha⟩
     have hagg: ∀cs off x,cs[off]?=some x→(part f.type cs off).run P w= .ok x w:=by
      intro cs off x hc
      cases T<;>simp[skOf] at hTk<;>simp[part,isAgg,run_underlying hT,hc]
     have key:(Op.equalIn (d+1) f.type u v).run P w= .ok (@decide (u=v) (Classical.propDecidable _)) w:=eqSc w d hT hTk hv1
     unfold Op.eqFields
     rw[if_pos hn1,hn2]
     simp only[Sem.run_bind,hagg xs k u hx0,hagg ys k v hy0,Result.andThen_ok,key,Sem.run_ite]
     by_cases h:u=v
     ·
      subst h
      rw[if_neg xm,ih]
      unfold eqL
      by_cases h2:us=vs
      ·
       simp[h2]
      ·
       simp[h2]
     ·
      rw[if_pos (by simp[h])]
      simp[eqL,h]
    |[],_,hv=>simp[vKs] at hv
    |_::_,[],hv=>simp[vKs] at hv
   ·
    cases h
section
variable {P:Program}{o:Oper}{F:Frm}{σ:List Ob}
theorem zmm {G:Cx}{u:Value}{cs:List AV}(h:Rep G u (.agg cs))(hc:cs.all isS=true): ∃xs:Array Value,u= .agg xs∧ ∀j,j<(cs.map unS).length→xs[j]?=(cs.map unS)[j]?:=by
 cases h with
 |agg vs _ hl h1 hr=>
  refine⟨vs,rfl,fun j hj=>?_⟩
  have hj2:j<cs.length:=by simpa using hj
  have hj3:j<vs.size:=by omega
  have h2:=hr j vs[j] cs[j] (Array.getElem?_eq_getElem hj3) (List.getElem?_eq_getElem hj2)
  have h3:isS cs[j]=true:=by rw[List.all_eq_true] at hc;exact hc _ (List.getElem_mem hj2)
  rw[List.getElem?_map,List.getElem?_eq_getElem hj2,Array.getElem?_eq_getElem hj3]
  generalize cs[j]=c at*
  cases c<;>simp[isS] at h3
  rw[zc5 h2];rfl
theorem z1k {P:Program}{t:TypeId}{ks:List SK}{xs ys:Array Value}{us vs:List Value}(hk:zyd P t=some ks)(hv:vKs ks us vs=true)(hx: ∀j,j<us.length→xs[j]?=us[j]?)(hy: ∀j,j<vs.length→ys[j]?=vs[j]?)(x y:Operand)(b:BinOp)(w:World):
  (eqGuard b t x y (.agg xs) (.agg ys)).run P w= .ok () w∧(Op.equalIn 10000 t (.agg xs) (.agg ys)).run P w= .ok (eqL us vs) w:=by
 unfold zyd at hk
 split at hk
 ·
  rename_i fs hu
  split at hk
  ·
   cases hk
  ·
   rename_i hg
   simp only[Bool.or_eq_true,not_or,Bool.not_eq_true] at hg
   have hfo:P.fieldsOf t=fs:=by unfold Program.fieldsOf;rw[hu]
   refine⟨run_eqGuard_agg w b t x y xs ys hg.1,?_⟩
   have h1:=run_equalIn_struct (P:=P) w 9999 t xs ys (by rw[hfo];exact hu) hg.2
   rw[hfo] at h1
   rw[show(10000:Nat)=9999+1 from rfl,h1]
   exact eqF w 9998 xs ys fs.toList 0 ks us vs hk hv (fun j hj=>by rw[Nat.zero_add];exact hx j hj) (fun j hj=>by rw[Nat.zero_add];exact hy j hj)
 ·
  cases hk
theorem z4r {t t':TypeId}{x y:Operand}{cs ds:List AV}{ks:List SK}(ho:o.op= .binOp .eql t x y t')(hx:F.eval x= .agg cs)(hy:F.eval y= .agg ds)(hk:zyd P t=some ks)(hv:vKs ks (cs.map unS) (ds.map unS)=true)(hc:cs.all isS=true)(hd:ds.all isS=true):
  Does P o F σ (.s (.bool (@decide (cs.map unS=ds.map unS) (Classical.propDecidable _)))) σ:=
 zbc fun G ρ hr hop=>by
  have h1:=hop x (by simp[ho,Op.operands])
  have h2:=hop y (by simp[ho,Op.operands])
  rw[hx] at h1
  rw[hy] at h2
  obtain⟨xs,e1,g1⟩:=zmm h1 hc
  obtain⟨ys,e2,g2⟩:=zmm h2 hd
  obtain⟨r1,r2⟩:=z1k hk hv g1 g2 x y .eql G.w
  refine⟨_,?_, .s _⟩
  simp only[execOp,ho,e1,e2,Sem.run_bind]
  rw[r1]
  simp only[Result.andThen_ok,run_eql_struct,r2]
  rfl
theorem z4n {t t':TypeId}{x y:Operand}{cs ds:List AV}{ks:List SK}(ho:o.op= .binOp .neq t x y t')(hx:F.eval x= .agg cs)(hy:F.eval y= .agg ds)(hk:zyd P t=some ks)(hv:vKs ks (cs.map unS) (ds.map unS)=true)(hc:cs.all isS=true)(hd:ds.all isS=true):
  Does P o F σ (.s (.bool (@decide (cs.map unS≠ds.map unS) (Classical.propDecidable _)))) σ:=
 zbc fun G ρ hr hop=>by
  have h1:=hop x (by simp[ho,Op.operands])
  have h2:=hop y (by simp[ho,Op.operands])
  rw[hx] at h1
  rw[hy] at h2
  obtain⟨xs,e1,g1⟩:=zmm h1 hc
  obtain⟨ys,e2,g2⟩:=zmm h2 hd
  obtain⟨r1,r2⟩:=z1k hk hv g1 g2 x y .neq G.w
  refine⟨.bool (!(eqL (cs.map unS) (ds.map unS))),?_,?_⟩
  ·
   simp only[execOp,ho,e1,e2,Sem.run_bind]
   rw[r1]
   simp only[Result.andThen_ok,run_neq_struct,r2]
   rfl
  ·
   have:(!(eqL (cs.map unS) (ds.map unS)))= @decide (cs.map unS≠ds.map unS) (Classical.propDecidable _):=by
    unfold eqL
    by_cases h:cs.map unS=ds.map unS<;>simp[h]
   rw[this]
   exact .s _
end
end Go.Proofs.YtjdpnadhgjohnaaGreatDoor.Aw
end
