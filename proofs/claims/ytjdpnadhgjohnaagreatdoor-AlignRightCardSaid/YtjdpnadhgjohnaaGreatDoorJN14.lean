import Derived.Test.YtjdpnadhgjohnaaGreatDoorJN0
import Derived.Test.YtjdpnadhgjohnaaGreatDoorJN12
import Derived.Laws.MakeOwn
set_option linter.unusedSimpArgs false
set_option linter.unusedVariables false
set_option linter.unusedSectionVars false
section
namespace Go.Proofs.YtjdpnadhgjohnaaGreatDoor.Aw
open Go.RowKit
theorem zyr {G:Cx}{v:Value}{x:AV}{n:Nat}(h:Rep G v x)(h1:x.cells.all AV.one=true)(hn:x.cells.length=n): ∀ (k:Nat) y,[x][k]?=some y→y.cells.length=n∧(∀c∈y.cells,c.one=true)∧ ∀ (j:Nat) c,y.cells[j]?=some c→ ∃u,v.cells[k*n+j]?=some u∧Rep G u c:=by
 have h2:=List.all_eq_true.1 h1
 obtain⟨h3,h4⟩:=zgv h h2
 intro k y hy
 cases k with
 |succ k=>simp at hy
 |zero=>
  simp at hy
  subst hy
  refine⟨hn,h2,fun j c hc=>?_⟩
  have hj:j<v.cells.size:=by rw[h3];exact(List.getElem?_eq_some_iff.1 hc).1
  exact⟨v.cells[j],by simp[hj],(h4 j _ c (by simp[hj]) hc).1⟩
section
variable {P:Program}{o:Oper}{F:Frm}{σ:List Ob}
theorem zfr {x r:AV}{σ':List Ob}(h: ∀ (G:Cx) (ρ:Operand→Value),Rel G σ→(∀y∈o.op.operands,Rep G (ρ y) (F.eval y))→ ∃v G',(execOp ρ o).run P G.w= .ok (.value v) G'.w∧G.Ext G'∧Rel G' σ'∧Rep G' v r):Does P o F σ r σ':=by
 intro G a next Q hr ho hn
 obtain⟨v,G',h1,h2,h3,h4⟩:=h G a.eval hr ho
 unfold Oper.wp
 rw[h1]
 exact hn v G' h2 h3 h4
theorem zwc {σ':List Ob}(h: ∀ (G:Cx) (ρ:Operand→Value),Rel G σ→(∀y∈o.op.operands,Rep G (ρ y) (F.eval y))→ ∃G',(execOp ρ o).run P G.w= .ok .skip G'.w∧G.Ext G'∧Rel G' σ'):Does P o F σ .any σ':=by
 intro G a next Q hr ho hn
 obtain⟨G',h1,h2,h3⟩:=h G a.eval hr ho
 unfold Oper.wp
 rw[h1]
 exact hn undef G' h2 h3 (.any _)
theorem zbt {e:TypeId}{y:Operand}{x:AV}{n:Nat}(ho:o.op= .box e y)(hy:F.eval y=x)(h1:x.cells.all AV.one=true)(hn:x.cells.length=n):Does P o F σ (.ptr σ.length n 0 0) (σ++[.row n [x]]):=
 zfr (x:=x) fun G ρ hr hop=>by
  have h2:=hop y (by simp[ho,Op.operands])
  rw[hy] at h2
  have h3:=zyr h2 h1 hn
  obtain⟨h4,_⟩:=zgv h2 (List.all_eq_true.1 h1)
  refine⟨.pointer (some ⟨G.w.heap.size,0,none⟩),_,?_,zf8 hr G.w J (ρ y).cells e,zic hr G.w J hr.below (ρ y).cells e n [x] (by simp[h4,hn]) h3,?_⟩
  ·
   simp[execOp,ho,Instr.box,newVar,newRow,Cx.new]
  ·
   have:=Rep.ptr (G:=G.new σ.length (G.w.alloc (.cells (ρ y).cells e)) (some G.w.heap.size)) σ.length n 0 0 G.w.heap.size (by simp[Cx.new])
   simpa using this
theorem zcd {e:TypeId}{z:Value}{n bt:Nat}(ho:o.op= .alloc e)(hi:za6 P e=some (some z,n,bt))(h1:(ofValue z).cells.all AV.one=true)(hn:(ofValue z).cells.length=n):Does P o F σ (.ptr σ.length n 0 0) (σ++[.row n [ofValue z]]):=
 zfr (x:= .any) fun G ρ hr hop=>by
  have h2:=zm0 G z
  have h3:=zyr h2 h1 hn
  obtain⟨h4,_⟩:=zgv h2 (List.all_eq_true.1 h1)
  obtain⟨i,h5,h6,h7,h8⟩:=zgq hi
  refine⟨.pointer (some ⟨G.w.heap.size,0,none⟩),_,?_,zf8 hr G.w J z.cells e,zic hr G.w J hr.below z.cells e n [ofValue z] (by simp[h4,hn]) h3,?_⟩
  ·
   simp[execOp,ho,Instr.alloc,zeroValue,typeInfo,h5,h6,newVar,newRow,Cx.new]
  ·
   have:=Rep.ptr (G:=G.new σ.length (G.w.alloc (.cells z.cells e)) (some G.w.heap.size)) σ.length n 0 0 G.w.heap.size (by simp[Cx.new])
   simpa using this
def putC (e:AV)(j:Nat)(xs:List AV):AV:=match e with
 | .agg cs=> .agg (cs.take j++xs++cs.drop (j+xs.length))
 |_=>xs.headD .any
theorem zw5 {e:AV}{j:Nat}{xs:List AV}(h1: ∀c∈xs,c.one=true)(hj:j+xs.length≤e.cells.length)(h0:0<xs.length):(putC e j xs).cells=e.cells.take j++xs++e.cells.drop (j+xs.length):=by
 by_cases hx: ∃cs,e= .agg cs
 ·
  obtain⟨cs,rfl⟩:=hx;rfl
 ·
  have hxc:e.cells=[e]:=by cases e<;>first|rfl|(exact absurd ⟨_,rfl⟩ hx)
  rw[hxc] at hj⊢
  simp at hj
  obtain⟨y,rfl⟩: ∃y,xs=[y]:=by
   match xs,hj,h0 with
   |[y],_,_=>exact⟨y,rfl⟩
   |_::_::_,hj,_=>simp at hj;omega
  have hj0:j=0:=by simp at hj;omega
  subst hj0
  have hp:putC e 0 [y]=y:=by cases e<;>first|rfl|(exact absurd ⟨_,rfl⟩ hx)
  rw[hp]
  have hy:=h1 y xm
  cases y<;>simp_all[AV.cells,AV.one]
theorem zat {t:TypeId}{z:Option Value}{n bt:Nat}{p y:Operand}{id sz k j:Nat}{cs:List AV}{e x:AV}(ho:o.op= .store t p y)(hi:za6 P t=some (z,n,bt))(hp:F.eval p= .ptr id sz k j)(hy:F.eval y=x)
  (hs:σ[id]?=some (.row sz cs)) (he:cs[k]?=some e) (h1:x.cells.all AV.one=true) (hn:x.cells.length=n) (h0:0<n) (hj:j+n≤sz):Does P o F σ .any (σ.set id (.row sz (cs.set k (putC e j x.cells)))):=
 zwc fun G ρ hr hop=>by
  have h2:=hop p (by simp[ho,Op.operands])
  have h3:=hop y (by simp[ho,Op.operands])
  rw[hp] at h2
  rw[hy] at h3
  have h1':=List.all_eq_true.1 h1
  obtain⟨h4,h5⟩:=zgv h3 h1'
  generalize hv:ρ p=v at h2
  cases h2 with
  | ptr _ _ _ _ b hm=>
   have h6:=hr.obs id _ hs
   simp only[ObOk,hm] at h6
   obtain⟨⟨cur,te,fr,h7,rfl,h8,h9⟩,h10,h11⟩:=h6
   have hk:k<cs.length:=(List.getElem?_eq_some_iff.1 he).1
   have hfit:k*sz+j+0+(ρ y).cells.toList.length≤cur.size:=by
    have:(k+1)*sz≤cs.length*sz:=Nat.mul_le_mul_right _ hk
    rw[Nat.add_mul] at this
    simp[h4,hn]
    omega
   have h12:=run_storeCells_at P b (k*sz+j) te (ρ y).cells.toList 0 cur G.w h7 hfit (fun u hu=>by
    obtain⟨i,hi2,rfl⟩:=List.mem_iff_getElem.1 hu
    simp at hi2
    exact(h5 i _ x.cells[i] (by simp[hi2]) xm).2)
   simp only[Nat.add_zero] at h12 hfit
   have hlen:(ρ y).cells.toList.length=n:=by simp[h4,hn]
   obtain⟨hesz,heone,her⟩:=h9 k e he
   obtain⟨nc,hnc⟩: ∃nc:Array Value,nc=(cur.toList.take (k*sz+j)++(ρ y).cells.toList++cur.toList.drop (k*sz+j+(ρ y).cells.toList.length)).toArray:=⟨_,rfl⟩
   have hncs:nc.size=cur.size:=by
    rw[hnc]
    simp only[List.size_toArray,List.length_append,List.length_take,List.length_drop,Array.length_toList]
    simp only[Array.length_toList] at hfit
    omega
   refine⟨{G with w:=G.w.setRow b nc},?_,zju hr hs hm h7 hncs,zmn hr hs hm h7 hncs (by simp only[List.length_set];omega) ?_⟩
   ·
    have h13:(Instr.storeAt t (.pointer (some ⟨b,k*sz+j,none⟩)) (ρ y)).run P G.w= .ok () (G.w.setRow b nc):=by
     rw[hnc]
     simp[Instr.storeAt,Instr.sureAddr,storeVar,zb3 hi,h4,hn]
     simpa[h4,hn] using h12
    simp only[execOp,ho,hv,Sem.run_bind,h13,Result.andThen_ok,Sem.run_pure]
   ·
    have hpc:=zw5 (e:=e) (j:=j) (xs:=x.cells) h1' xa xa
    have hget: ∀q,nc[q]?=if q<k*sz+j then cur[q]? else if q<k*sz+j+n then(ρ y).cells[q-(k*sz+j)]? else cur[q]?:=by
     intro q
     have ha:(cur.toList.take (k*sz+j)).length=k*sz+j:=by simp;simp at hfit;omega
     rw[hnc]
     simp only[List.getElem?_toArray]
     by_cases hq:q<k*sz+j
     ·
      rw[if_pos hq,List.append_assoc,List.getElem?_append_left xa,List.getElem?_take,if_pos hq,Array.getElem?_toList]
     ·
      rw[if_neg hq]
      by_cases hq2:q<k*sz+j+n
      ·
       rw[if_pos hq2,List.getElem?_append_left (by simp[hlen,h4,hn];simp at ha;omega),List.getElem?_append_right xa,ha,Array.getElem?_toList]
      ·
       rw[if_neg hq2,List.getElem?_append_right (by simp[hlen,h4,hn];simp at ha;omega),List.getElem?_drop,Array.getElem?_toList]
       congr 1
       simp only[List.length_append,ha,hlen]
       omega
    intro q y' hq
    by_cases hqk:k=q
    ·
     subst hqk
     rw[List.getElem?_set_self hk] at hq
     cases hq
     have hlc:(putC e j x.cells).cells.length=sz:=by rw[hpc];simp;omega
     refine⟨hlc,fun c hc=>?_,fun i c hc=>?_⟩
     ·
      rw[hpc] at hc
      simp only[List.mem_append] at hc
      rcases hc with (hc|hc)|hc
      ·
       exact heone c (List.mem_of_mem_take hc)
      ·
       exact h1' c hc
      ·
       exact heone c (List.mem_of_mem_drop hc)
     ·
      have hi':i<sz:=by have:=(List.getElem?_eq_some_iff.1 hc).1;omega
      rw[hget]
      rw[hpc] at hc
      have ha:(e.cells.take j).length=j:=by simp;omega
      by_cases hi1:i<j
      ·
       rw[if_pos xa]
       rw[List.append_assoc,List.getElem?_append_left xa,List.getElem?_take,if_pos hi1] at hc
       exact her i c hc
      ·
       rw[if_neg xa]
       by_cases hi2:i<j+n
       ·
        rw[if_pos xa]
        rw[List.getElem?_append_left (by simp only[List.length_append,ha];omega),List.getElem?_append_right xa,ha] at hc
        have hlt:i-j<(ρ y).cells.size:=by omega
        refine⟨(ρ y).cells[i-j],?_,(h5 (i-j) _ c (by simp[hlt]) hc).1⟩
        rw[show k*sz+i-(k*sz+j)=i-j by omega]
        simp[hlt]
       ·
        rw[if_neg xa]
        rw[List.getElem?_append_right (by simp only[List.length_append,ha];omega),List.getElem?_drop] at hc
        have:j+x.cells.length+(i-(e.cells.take j++x.cells).length)=i:=by simp only[List.length_append,ha];omega
        rw[this] at hc
        exact her i c hc
    ·
     rw[List.getElem?_set_ne hqk] at hq
     obtain⟨g1,g2,g3⟩:=h9 q y' hq
     refine⟨g1,g2,fun i c hc=>?_⟩
     obtain⟨u,g4,g5⟩:=g3 i c hc
     refine⟨u,?_,g5⟩
     rw[hget]
     have hi':i<sz:=by have:=(List.getElem?_eq_some_iff.1 hc).1;omega
     rcases Nat.lt_or_gt_of_ne hqk with h|h
     ·
      have:(k+1)*sz≤q*sz:=Nat.mul_le_mul_right _ h
      rw[Nat.add_mul] at this
      rw[if_neg xa,if_neg xa]
      exact g4
     ·
      have:(q+1)*sz≤k*sz:=Nat.mul_le_mul_right _ h
      rw[Nat.add_mul] at this
      rw[if_pos xa]
      exact g4
end
end Go.Proofs.YtjdpnadhgjohnaaGreatDoor.Aw
end
