import Derived.Test.YtjdpnadhgjohnaaGreatDoorJN0
import Derived.Test.YtjdpnadhgjohnaaGreatDoorJN14
import Derived.Laws.CopyRow
set_option linter.unusedSimpArgs false
set_option linter.unusedVariables false
set_option linter.unusedSectionVars false
namespace Go.Proofs.YtjdpnadhgjohnaaGreatDoor
namespace Aw
open Go.RowKit
structure RepL (G:Cx)(vs:Array Value)(cs:List AV):Prop where
 size:vs.size=cs.length
 one: ∀c∈cs,c.one=true
 rep: ∀ (j:Nat) v c,vs[j]?=some v→cs[j]?=some c→Rep G v c
def ziy (place:Nat→Option (Nat × Nat))(cs:List AV):List (Nat × AV)→Option (List AV)
 |[]=>some cs
 |(i,x)::rest=>match place i with
  |none=>none
  |some (off,size)=>bif Nat.beq x.cells.length size && Nat.ble (off+x.cells.length) cs.length && x.cells.all AV.one then ziy place (cs.take off++x.cells++cs.drop (off+x.cells.length)) rest else none
theorem znu (off:Nat): ∀ (vs:List Value) (k:Nat) (cells:Array Value),off+k+vs.length≤cells.size→
  ((vs.zipIdx k).foldl (fun cs p=>cs.setIfInBounds (off+p.2) p.1) cells).toList=cells.toList.take (off+k)++vs++cells.toList.drop (off+k+vs.length)
 |[],k,cells,h=>by simp
 |v::vs,k,cells,h=>by
  simp only[List.zipIdx_cons,List.foldl_cons]
  simp only[List.length_cons] at h
  rw[znu off vs (k+1) _ (by simp;omega)]
  have:=list_seg_step cells.toList (off+k) v vs (by simp;omega)
  simp only[Array.toList_setIfInBounds,List.length_cons, ←Nat.add_assoc] at this⊢
  exact this
theorem zki {G:Cx}{place:Nat→Option (Nat × Nat)}: ∀ (pv:List (Nat × Value)) (pa:List (Nat × AV)) (vs:Array Value) (cs cs':List AV),RepL G vs cs→pv.length=pa.length→
  (∀ (i:Nat) p q,pv[i]?=some p→pa[i]?=some q→p.1=q.1∧Rep G p.2 q.2)→ziy place cs pa=some cs'→ ∃vs',Instr.fill place vs pv=some vs'∧RepL G vs' cs'
 |[],[],vs,cs,cs',h,_,_,hf=>by simp[ziy] at hf;subst hf;exact⟨vs,rfl,h⟩
 |[],_::_,_,_,_,_,hl,_,_=>by simp at hl
 |_::_,[],_,_,_,_,hl,_,_=>by simp at hl
 | (i, v)::pv,(i',x)::pa,vs,cs,cs',h,hl,hp,hf=>by
  obtain⟨h1,h2⟩:=hp 0 _ _ rfl rfl
  dsimp only at h1 h2
  subst h1
  unfold ziy at hf
  cases hpl:place i with
  |none=>rw[hpl] at hf;cases hf
  | some q=>
   obtain⟨off,size⟩:=q
   rw[hpl] at hf
   dsimp only at hf
   cases hc:(Nat.beq x.cells.length size && Nat.ble (off+x.cells.length) cs.length && x.cells.all AV.one) with
   |false=>rw[hc] at hf;cases hf
   | true=>
    rw[hc] at hf
    simp only[cond_true] at hf
    rw[Bool.and_eq_true,Bool.and_eq_true] at hc
    obtain⟨⟨h3,h4⟩,h5⟩:=hc
    replace h3:=Nat.eq_of_beq_eq_true h3
    replace h4:=Nat.le_of_ble_eq_true h4
    have h5':=List.all_eq_true.1 h5
    obtain⟨h6,h7⟩:=zgv h2 h5'
    have hsz:=h.size
    have hfold:(v.cells.zipIdx.foldl (fun cs (p:Value × Nat)=>cs.setIfInBounds (off+p.2) p.1) vs).toList=vs.toList.take off++v.cells.toList++vs.toList.drop (off+x.cells.length):=by
     rw[←Array.foldl_toList,Array.toList_zipIdx]
     have:=znu off v.cells.toList 0 vs (by simp;omega)
     simpa[h6] using this
    obtain⟨nv,hnv⟩: ∃nv,nv=v.cells.zipIdx.foldl (fun cs (p:Value × Nat)=>cs.setIfInBounds (off+p.2) p.1) vs:=⟨_,rfl⟩
    rw[←hnv] at hfold
    have hget: ∀q,nv[q]?=(vs.toList.take off++v.cells.toList++vs.toList.drop (off+x.cells.length))[q]?:=fun q=>by rw[←Array.getElem?_toList,hfold]
    have hrl:RepL G nv (cs.take off++x.cells++cs.drop (off+x.cells.length)):=by
     refine⟨?_,fun c hc=>?_,fun j u c hu hc=>?_⟩
     ·
      rw[←Array.length_toList,hfold]
      simp only[List.length_append,List.length_take,List.length_drop,Array.length_toList]
      omega
     ·
      simp only[List.mem_append] at hc
      rcases hc with (hc|hc)|hc
      ·
       exact h.one c (List.mem_of_mem_take hc)
      ·
       exact h5' c hc
      ·
       exact h.one c (List.mem_of_mem_drop hc)
     ·
      rw[hget] at hu
      have ha:(vs.toList.take off).length=off:=by simp;omega
      have hb:(cs.take off).length=off:=by simp;omega
      by_cases hj1:j<off
      ·
       rw[List.append_assoc,List.getElem?_append_left xa,List.getElem?_take,if_pos hj1,Array.getElem?_toList] at hu
       rw[List.append_assoc,List.getElem?_append_left xa,List.getElem?_take,if_pos hj1] at hc
       exact h.rep j u c hu hc
      ·
       by_cases hj2:j<off+x.cells.length
       ·
        rw[List.getElem?_append_left (by simp only[List.length_append,ha,Array.length_toList];omega),List.getElem?_append_right xa,ha,Array.getElem?_toList] at hu
        rw[List.getElem?_append_left (by simp only[List.length_append,hb];omega),List.getElem?_append_right xa,hb] at hc
        exact(h7 _ u c hu hc).1
       ·
        rw[List.getElem?_append_right (by simp only[List.length_append,ha,Array.length_toList];omega),List.getElem?_drop,Array.getElem?_toList] at hu
        rw[List.getElem?_append_right (by simp only[List.length_append,hb];omega),List.getElem?_drop] at hc
        simp only[List.length_append,ha,hb,Array.length_toList,h6] at hu hc
        exact h.rep _ u c hu hc
    obtain⟨vs',h8,h9⟩:=zki pv pa nv _ cs' hrl (by simpa using hl) (fun i p q h1 h2=>hp (i+1) p q (by simpa using h1) (by simpa using h2)) hf
    refine⟨vs',?_,h9⟩
    unfold Instr.fill
    have h10: ¬ (v.cells.size≠size∨off+v.cells.size>vs.size):=by omega
    simp only[hpl]
    rw[if_neg (by simpa using h10)]
    rw[←hnv]
    exact h8
def zei (P:Program)(t:TypeId):Option (List (Nat × Nat)):=match P.underlying t with
 |some (.struct fs)=>fs.toList.mapM fun f=>(P.info? f.type).map fun i=>(f.offset,i.size)
 |_=>none
theorem zik (G:Cx)(z:Value)(h:(ofValue z).cells.all AV.one=true):RepL G z.cells (ofValue z).cells:=by
 have h1:=List.all_eq_true.1 h
 obtain⟨h2,h3⟩:=zgv (zm0 G z) h1
 exact⟨h2,h1,fun j v c hv hc=>(h3 j v c hv hc).1⟩
section
variable {P:Program}{o:Oper}{F:Frm}{σ:List Ob}
theorem zj6 {G:Cx}{ρ:Operand→Value}{parts:Array (Nat × Operand)}(h: ∀y∈((parts.toList.map (·.2)).toArray),Rep G (ρ y) (F.eval y)):
  ∀ (i:Nat) p q,((parts.map fun (i,x)=>(i,ρ x)).toList)[i]?=some p→(parts.toList.map fun (i,x)=>(i,F.eval x))[i]?=some q→p.1=q.1∧Rep G p.2 q.2:=by
 intro i p q hp hq
 simp only[Array.toList_map,List.getElem?_map,Array.getElem?_toList] at hp hq
 cases hi:parts[i]? with
 |none=>rw[hi] at hp;cases hp
 |some r=>
  rw[hi] at hp hq
  simp only[Option.map_some,Option.some.injEq] at hp hq
  subst hp hq
  refine⟨rfl,h r.2 ?_⟩
  have:r∈parts:=Array.mem_of_getElem? hi
  simp only[List.mem_toArray,List.mem_map]
  exact⟨r,by simpa using this,rfl⟩
theorem zcc {t:TypeId}{parts:Array (Nat × Operand)}{z:Value}{n bt:Nat}{pl:List (Nat × Nat)}{cs:List AV}(ho:o.op= .build t parts)(hi:za6 P t=some (some z,n,bt))(hp:zei P t=some pl)
  (h1:(ofValue z).cells.all AV.one=true) (hf:ziy (pl[·]?) (ofValue z).cells (parts.toList.map fun (i,x)=>(i,F.eval x))=some cs):Does P o F σ (.agg cs) σ:=
 zbc fun G ρ hr hop=>by
  obtain⟨i,h2,h3,h4,h5⟩:=zgq hi
  obtain⟨vs,h6,h7⟩:=zki (G:=G) (place:=(pl[·]?)) (parts.map fun (i,x)=>(i,ρ x)).toList _ z.cells _ cs (zik G z h1) xm (zj6 (fun y hy=>hop y (by simpa[ho,Op.operands] using hy))) hf
  have h8:P.built t (parts.map fun (i,x)=>(i,ρ x)).toList=some vs:=by
   unfold zei at hp
   unfold Program.built
   rw[h2]
   split at hp
   ·
    rename_i fs hu
    simp only[hu,h3,hp]
    have:(fun (x:Nat)=>pl.toArray[x]?)=(fun (x:Nat)=>pl[x]?):=by funext x;simp
    rw[this]
    exact h6
   ·
    cases hp
  exact⟨.agg vs,by simp only[execOp,ho,Sem.run_bind,run_build G.w t _ vs h8,Result.andThen_ok,Sem.run_pure], .agg vs cs h7.size h7.one h7.rep⟩
def z4w (sz:Nat)(cs:List AV)(k:Nat):AV:=bif Nat.beq sz 1 then cs.getD k .any else .agg ((cs.drop (k*sz)).take sz)
def zf7 (sz n:Nat)(cs:List AV):List AV:=(List.range n).map (z4w sz cs)
theorem zpz {G:Cx}{vs:Array Value}{cs:List AV}{sz n:Nat}(h:RepL G vs cs)(hn:cs.length=n*sz):
  ∀ (k:Nat) y,(zf7 sz n cs)[k]?=some y→y.cells.length=sz∧(∀c∈y.cells,c.one=true)∧ ∀ (j:Nat) c,y.cells[j]?=some c→ ∃u,vs[k*sz+j]?=some u∧Rep G u c:=by
 intro k y hy
 unfold zf7 at hy
 rw[List.getElem?_map] at hy
 have hk:k<n:=by
  by_cases hk:k<n
  ·
   exact hk
  ·
   rw[List.getElem?_eq_none (by simp;omega)] at hy;cases hy
 rw[List.getElem?_range hk] at hy
 simp only[Option.map_some,Option.some.injEq] at hy
 have hb:(k+1)*sz≤n*sz:=Nat.mul_le_mul_right _ hk
 rw[Nat.add_mul] at hb
 have hcell: ∀ (j:Nat) c,cs[k*sz+j]?=some c→ ∃u,vs[k*sz+j]?=some u∧Rep G u c:=fun j c hc=>by
  have hlt:k*sz+j<vs.size:=by rw[h.size];exact(List.getElem?_eq_some_iff.1 hc).1
  exact⟨vs[k*sz+j],by simp[hlt],h.rep _ _ c (by simp[hlt]) hc⟩
 unfold z4w at hy
 cases hs:Nat.beq sz 1 with
 | true=>
  rw[hs] at hy
  have hs1:=Nat.eq_of_beq_eq_true hs
  subst hs1
  simp only[cond_true] at hy
  have hlt:k<cs.length:=by omega
  have hg:cs.getD k .any=cs[k]:=by simp[List.getD,hlt]
  rw[hg] at hy
  subst hy
  have ho:=h.one cs[k] (List.getElem_mem hlt)
  have hc1:(cs[k]).cells=[cs[k]]:=by
   generalize cs[k]=c at ho
   cases c<;>simp_all[AV.cells,AV.one]
  rw[hc1]
  refine⟨rfl,fun c hc=>by simp at hc;subst hc;exact ho,fun j c hc=>?_⟩
  cases j with
  |succ j=>simp at hc
  |zero=>
   simp at hc
   subst hc
   exact hcell 0 _ (by simp[hlt])
 | false=>
  rw[hs] at hy
  simp only[cond_false] at hy
  subst hy
  refine⟨by simp[AV.cells];omega,fun c hc=>h.one c (List.mem_of_mem_drop (List.mem_of_mem_take hc)),fun j c hc=>?_⟩
  simp only[AV.cells,List.getElem?_take,List.getElem?_drop] at hc
  split at hc
  ·
   exact hcell j c hc
  ·
   cases hc
theorem zks (sz n:Nat)(cs:List AV):(zf7 sz n cs).length=n:=by simp[zf7]
def zgs (z:Value)(n:Nat):List AV:=(List.range n).map fun i=>(ofValue z).cells.getD (i % (ofValue z).cells.length) .any
theorem zrg (G:Cx)(z:Value)(n:Nat)(h:(ofValue z).cells.all AV.one=true)(hz:0<(ofValue z).cells.length):RepL G (madeCells z.cells n) (zgs z n):=by
 have h0:=zik G z h
 refine⟨by simp[madeCells,zgs],fun c hc=>?_,fun j v c hv hc=>?_⟩
 ·
  obtain⟨i,hi,rfl⟩:=List.mem_map.1 hc
  have hlt:=Nat.mod_lt i hz
  rw[List.getD_eq_getElem?_getD,List.getElem?_eq_getElem hlt]
  exact h0.one _ (List.getElem_mem hlt)
 ·
  have hj:j<n:=by
   have:=(List.getElem?_eq_some_iff.1 hc).1
   simpa[zgs] using this
  simp[madeCells,hj] at hv
  simp[zgs,hj] at hc
  subst hv hc
  have hlt:=Nat.mod_lt j hz
  have hlt2:j % z.cells.size<z.cells.size:=by rw[h0.size];exact hlt
  refine h0.rep (j % z.cells.size) _ _ ?_ ?_
  ·
   simp[hlt2]
  ·
   rw[h0.size];simp[List.getD,hlt]
theorem zq0 {t e:TypeId}{len:Nat}{parts:Array (Nat × Operand)}{z:Value}{n bt:Nat}{cs:List AV}(ho:o.op= .buildSlice t len parts)(ht:za5 P t=some e)(hi:za6 P e=some (some z,n,bt))
  (h1:(ofValue z).cells.all AV.one=true) (hn:(ofValue z).cells.length=n) (h0:0<n) (hlen:0<len) (hsm:len*n≤16777216) (hf:ziy (fun i=>some (i*n,n)) (zgs z (len*n)) (parts.toList.map fun (i,x)=>(i,F.eval x))=some cs) (hcl:cs.length=len*n):Does P o F σ (.own σ.length n len) (σ++[.row n (zf7 n len cs)]):=
 zfr (x:= .any) fun G ρ hr hop=>by
  obtain⟨i,h2,h3,h4,h5⟩:=zgq hi
  obtain⟨vs,h6,h7⟩:=zki (G:=G) (place:=fun i=>some (i*n,n)) (parts.map fun (i,x)=>(i,ρ x)).toList _ (madeCells z.cells (len*n)) _ cs (zrg G z (len*n) h1 xa) xm (zj6 (fun y hy=>hop y (by simpa[ho,Op.operands] using hy))) hf
  have hvs:vs.size=len*n:=by rw[h7.size];exact hcl
  have hpos: ¬ (len*n=0):=by
   have:=Nat.mul_pos hlen h0
   omega
  have h8:(Instr.buildSlice t len (parts.map fun (i,x)=>(i,ρ x))).run P G.w= .ok (.slice (some ⟨G.w.heap.size,0,none⟩) len len) (G.w.alloc (.cells vs e)):=by
   have hsm': ¬ (16777216<len*n):=by omega
   have h6':Instr.fill (fun i=>some (i*n,n)) (Array.map (fun x=>z.cells[x % z.cells.size]!) (Array.range (len*n))) (parts.map fun (i,x)=>(i,ρ x)).toList=some vs:=h6
   simp only[Array.toList_map] at h6'
   simp[Instr.buildSlice,run_underlying (zea ht),zb3 hi,hsm',hpos,zeroValue,typeInfo,h2,h3,h6',newRow]
  have hrow:=zpz h7 hcl
  have h9:=zic hr G.w J hr.below vs e n (zf7 n len cs) (by rw[zks];omega) hrow
  refine⟨.slice (some ⟨G.w.heap.size,0,none⟩) len len,_,?_,zf8 hr G.w J vs e,h9,?_⟩
  ·
   simp only[execOp,ho,Sem.run_bind,h8,Result.andThen_ok,Sem.run_pure];rfl
  ·
   refine .own σ.length n len G.w.heap.size len (by simp[Cx.new]) (Nat.le_refl _) ?_ ⟨vs,e,(0,0),?_,hvs⟩
   ·
    have:len≤len*n:=Nat.le_mul_of_pos_right _ h0
    unfold maxLen;omega
   ·
    show(G.w.alloc (.cells vs e)).heap[G.w.heap.size]?=_
    exact heap_alloc_new G.w _
theorem zsr {t e:TypeId}{y:Operand}{z:Value}{bt:Nat}{x:AV}(ho:o.op= .buildSlice t 1 #[(0,y)])(ht:za5 P t=some e)(hi:za6 P e=some (some z,1,bt))
  (h1:(ofValue z).cells.all AV.one=true) (hn:(ofValue z).cells.length=1) (hy:F.eval y=x) (hx:x.one=true):Does P o F σ (.own σ.length 1 1) (σ++[.row 1 [x]]):=by
 have hxc:x.cells=[x]:=by cases x<;>simp_all[AV.cells,AV.one]
 have hz:(zgs z (1*1)).length=1:=by simp[zgs]
 have hf:ziy (fun i=>some (i*1,1)) (zgs z (1*1)) ((#[(0,y)]:Array (Nat × Operand)).toList.map fun (i,x)=>(i,F.eval x))=some [x]:=by
  have h2:(zgs z (1*1)).drop 1=[]:=List.drop_eq_nil_of_le xa
  simp only[List.map_cons,List.map_nil,hy,ziy,hxc,hz]
  simp[hx,h2]
  rfl
 have:=zq0 (P:=P) (F:=F) (σ:=σ) ho ht hi h1 hn xe xe xe hf xm
 have hc:zf7 1 1 [x]=[x]:=by simp[zf7,z4w,List.range_succ]
 rwa [hc] at this
theorem lit1_s {t e:TypeId}{y:Operand}{z:Value}{bt:Nat}{v:Value}(ho:o.op= .buildSlice t 1 #[(0,y)])(ht:za5 P t=some e)(hi:za6 P e=some (some z,1,bt))
  (h1:(ofValue z).cells.all AV.one=true) (hn:(ofValue z).cells.length=1) (hy:F.eval y= .s v) (hx:(AV.s v).one=true):Does P o F σ (.own σ.length 1 1) (σ++[.row 1 [.s v]]):=zsr ho ht hi h1 hn hy hx
theorem z7y {t e:TypeId}{y:Operand}{z:Value}{bt:Nat}{l:List AV}(ho:o.op= .buildSlice t 1 #[(0,y)])(ht:za5 P t=some e)(hi:za6 P e=some (some z,1,bt))
  (h1:(ofValue z).cells.all AV.one=true) (hn:(ofValue z).cells.length=1) (hy:F.eval y= .sl l) (hx:(AV.sl l).one=true):Does P o F σ (.own σ.length 1 1) (σ++[.row 1 [.sl l]]):=zsr ho ht hi h1 hn hy hx
theorem zko {t e:TypeId}{y:Operand}{z:Value}{n bt:Nat}{cs:List AV}(ho:o.op= .buildSlice t 1 #[(0,y)])(ht:za5 P t=some e)(hi:za6 P e=some (some z,n,bt))
  (h1:(ofValue z).cells.all AV.one=true) (hn:(ofValue z).cells.length=n) (h2:2≤n) (hsm:n≤16777216) (hy:F.eval y= .agg cs) (hx:cs.all AV.one=true) (hl:cs.length=n):Does P o F σ (.own σ.length n 1) (σ++[.row n [.agg cs]]):=by
 have hz:(zgs z (1*n)).length=n:=by simp[zgs]
 have hf:ziy (fun i=>some (i*n,n)) (zgs z (1*n)) ((#[(0,y)]:Array (Nat × Operand)).toList.map fun (i,x)=>(i,F.eval x))=some cs:=by
  have h3:(zgs z (1*n)).drop n=[]:=List.drop_eq_nil_of_le xa
  have hc:(AV.agg cs).cells=cs:=rfl
  have hb:(Nat.beq cs.length n && Nat.ble (0*n+cs.length) (zgs z (1*n)).length && cs.all AV.one)=true:=by
   rw[hx,hz,hl,Nat.zero_mul,Nat.zero_add]
   simp
  simp only[List.map_cons,List.map_nil,hy,ziy,hc,hb,cond_true]
  have hz2:(zgs z n).length=n:=by simp[zgs]
  have h3':(zgs z n).drop n=[]:=List.drop_eq_nil_of_le xa
  simp[hl,h3',hz2]
 have:=zq0 (P:=P) (F:=F) (σ:=σ) ho ht hi h1 hn xa xe xa hf xa
 have hc:zf7 n 1 cs=[.agg cs]:=by
  have hb:Nat.beq cs.length 1=false:=by
   cases h:Nat.beq cs.length 1 with
   |false=>rfl
   |true=>have:=Nat.eq_of_beq_eq_true h;omega
  subst hl
  simp only[zf7,z4w,List.range_succ,List.range_zero,List.nil_append,List.map_cons,List.map_nil,hb,cond_false,Nat.zero_mul,List.drop_zero,List.take_length]
 rwa [hc] at this
theorem zss {t e:TypeId}{parts:Array (Nat × Operand)}{z:Option Value}{n bt:Nat}(ho:o.op= .buildSlice t 0 parts)(hp:parts= #[])(ht:za5 P t=some e)(hi:za6 P e=some (z,n,bt)):Does P o F σ .emp σ:=
 zfr (x:= .any) fun G ρ hr hop=>by
  subst hp
  have h8:(Instr.buildSlice t 0 #[]).run P G.w= .ok (.slice (some ⟨G.w.heap.size,0,none⟩) 0 0) (G.w.alloc (.cells #[] e)):=by
   have h0: ∀f:Nat→Value,Array.map f (Array.range 0)= #[]:=fun f=>by simp[Array.range_zero']
   simp[Instr.buildSlice,run_underlying (zea ht),zb3 hi,Instr.fill,newRow,h0]
  have hext:=zf8 hr G.w J #[] e
  refine⟨.slice (some ⟨G.w.heap.size,0,none⟩) 0 0,{G with w:=G.w.alloc (.cells #[] e)},?_,?_,?_, .emp _ (fun a ha=>by cases ha;rfl)⟩
  ·
   simp only[execOp,ho,Array.map_empty,Sem.run_bind,h8,Result.andThen_ok,Sem.run_pure]
  ·
   exact⟨rfl,rfl,fun _ _ h=>h,hext.cell,fun _ _ h=>h,hext.size,hext.rows,fun _ _ h=> .inl h,rfl,fun _ _ h=> .inl h,hext.oth⟩
  ·
   have hold: ∀k,k<G.w.heap.size→(G.w.alloc (.cells #[] e)).heap[k]?=G.w.heap[k]?:=fun k hk=>heap_alloc_old (r:=k) G.w _ hk
   have he:G.Ext {G with w:=G.w.alloc (.cells #[] e)}:=⟨rfl,rfl,fun _ _ h=>h,hext.cell,fun _ _ h=>h,hext.size,hext.rows,fun _ _ h=> .inl h,rfl,fun _ _ h=> .inl h,hext.oth⟩
   have hble:G.base≤G.w.heap.size:=by have h1:=hr.le;have h2:=hr.below.size;omega
   refine⟨hr.below.alloc hble _,hr.le,fun b o hb=>by have:=hr.st b o hb;simp only[World.size_alloc];omega,fun id ob hob=>?_,hr.inj,hr.fresh⟩
   refine(hr.obs id ob hob).of rfl J J xm (fun b sz cs f _ _ hx=>?_) (fun b X _ hX _=>⟨hold b hX.lt,fun _ h=>h⟩)
   obtain⟨cur,t,fr,h2,h3,h4,h5⟩:=hx
   refine⟨cur,t,fr,(hold b (Array.getElem?_eq_some_iff.1 h2).1).trans h2,h3,h4,fun k x hx=>⟨(h5 k x hx).1,(h5 k x hx).2.1,fun j c hc=>?_⟩⟩
   obtain⟨v,h6,h7⟩:=(h5 k x hx).2.2 j c hc
   exact⟨v,h6,h7.ext he⟩
theorem zsq {t e:TypeId}{y y':Operand}{kl kc:IntKind}{l c:Nat}{i i':Int}{z:Value}{n bt:Nat}(ho:o.op= .makeSlice t y y')(ht:za5 P t=some e)(hi:za6 P e=some (some z,n,bt))
  (h1:(ofValue z).cells.all AV.one=true) (hn:(ofValue z).cells.length=n) (h0:0<n) (hy:F.eval y= .s (.int kl i)) (hy':F.eval y'= .s (.int kc i')) (hil:i=(l:Int)) (hic:i'=(c:Int)) (hlc:l≤c) (hb:bt*c≤281474976710656) (hm:c≤9223372036854775807):
  Does P o F σ (.own σ.length n l) (σ++[.row n (List.replicate l (ofValue z))]):=
 zfr (x:= .any) fun G ρ hr hop=>by
  obtain⟨inf,h2,h3,h4,h5⟩:=zgq hi
  have g1:=hop y (by simp[ho,Op.operands])
  have g2:=hop y' (by simp[ho,Op.operands])
  rw[hy] at g1
  rw[hy'] at g2
  have g3:=zc5 g1
  have g4:=zc5 g2
  subst hil hic
  have hb':(inf.bytes:Int)*(c:Int)≤281474976710656:=by
   rw[h5]
   have:((bt*c:Nat):Int)≤281474976710656:=by omega
   rwa [Int.natCast_mul] at this
  have hr1:=run_make (P:=P) G.w t e inf z (zea ht) h2 h3 kl kc (l:Int) (c:Int) (Int.natCast_nonneg l) (Int.ofNat_le.2 hlc) hb' xa
  simp only[Int.toNat_natCast,h4] at hr1
  have h7:=zik G z h1
  have hrow: ∀ (k:Nat) x,(List.replicate l (ofValue z))[k]?=some x→x.cells.length=n∧(∀c∈x.cells,c.one=true)∧ ∀ (j:Nat) cc,x.cells[j]?=some cc→ ∃v,(madeCells z.cells (c*n))[k*n+j]?=some v∧Rep G v cc:=by
   intro k x hx
   rw[List.getElem?_replicate] at hx
   split at hx
   ·
    rename_i hk
    cases hx
    refine⟨hn,h7.one,fun j cc hcc=>?_⟩
    have hj:j<n:=by have:=(List.getElem?_eq_some_iff.1 hcc).1;omega
    have hsz:z.cells.size=n:=by rw[h7.size];exact hn
    have hlt:k*n+j<c*n:=by
     have:(k+1)*n≤c*n:=Nat.mul_le_mul_right _ xa
     rw[Nat.add_mul] at this;omega
    have hmod:(k*n+j) % z.cells.size=j:=by rw[hsz,Nat.mul_comm,Nat.mul_add_mod];exact Nat.mod_eq_of_lt hj
    refine⟨z.cells[j]'(by omega),?_,h7.rep j _ cc (by simp[show j<z.cells.size by omega]) hcc⟩
    simp[madeCells,hlt,hmod,show j<z.cells.size by omega]
   ·
    cases hx
  have h9:=zic hr G.w J hr.below (madeCells z.cells (c*n)) e n (List.replicate l (ofValue z)) (by simp[size_madeCells];exact Nat.mul_le_mul_right _ hlc) hrow
  refine⟨.slice (some ⟨G.w.heap.size,0,none⟩) l c,_,?_,zf8 hr G.w J _ e,h9,?_⟩
  ·
   simp only[execOp,ho,g3,g4,Sem.run_bind,hr1,Result.andThen_ok,Sem.run_pure];rfl
  ·
   refine .own σ.length n l G.w.heap.size c (by simp[Cx.new]) hlc (by unfold maxLen;exact hm) ⟨madeCells z.cells (c*n),e,(0,0),?_,size_madeCells _ _⟩
   show(G.w.alloc (.cells _ e)).heap[G.w.heap.size]?=_
   exact heap_alloc_new G.w _
end
end Aw
namespace Aw
open Go.RowKit
inductive Src (σ:List Ob)(sz:Nat):AV→List AV→Prop
 |sl (l:List AV) (h: ∀e∈l,e.cells.length=sz):Src σ sz (.sl l) l
 |emp:Src σ sz .emp []
 |nil:Src σ sz (.s (.slice none 0 0)) []
 |own (id:Nat) (ob:Ob) (cs:List AV) (hs:σ[id]?=some ob) (ho:ze6 ob=some (sz,cs)) (n:Nat) (hn:n=cs.length):Src σ sz (.own id sz n) cs
 |pre (id:Nat) (ob:Ob) (cs:List AV) (hs:σ[id]?=some ob) (ho:ze6 ob=some (sz,cs)) (n:Nat) (hn:n≤cs.length):Src σ sz (.own id sz n) (cs.take n)
 |sub (id:Nat) (ob:Ob) (cs:List AV) (hs:σ[id]?=some ob) (ho:ze6 ob=some (sz,cs)) (i n:Nat) (hn:i+n≤cs.length):Src σ sz (.sub id sz i n) ((cs.drop i).take n)
structure Vals (G:Cx)(sz:Nat)(A:Option Addr)(l:List AV)(news:List Value):Prop where
 len:news.length=l.length*sz
 one: ∀u∈news,u.oneCell'=true
 rep: ∀ (k:Nat) e,l[k]?=some e→e.cells.length=sz∧(∀c∈e.cells,c.one=true)∧ ∀ (j:Nat) c,e.cells[j]?=some c→ ∃u,news[k*sz+j]?=some u∧Rep G u c
 at_: ∀a,A=some a→ ∀ (j:Nat) u,news[j]?=some u→G.w.cell? (a.add j)=some u
 nil:A=none→l=[]
theorem zs7 {G:Cx}{b o sz:Nat}{l:List AV}(hsz:0<sz)(h: ∀ (k:Nat) e,l[k]?=some e→e.cells.length=sz∧(∀c∈e.cells,c.one=true)∧ ∀ (j:Nat) c,e.cells[j]?=some c→ ∃u,G.w.cell? ⟨b,o+k*sz+j,none⟩=some u∧Rep G u c): ∃news,Vals G sz (some ⟨b,o,none⟩) l news:=by
 have key: ∀i,i<l.length*sz→ ∃u,G.w.cell? ⟨b,o+i,none⟩=some u∧u.oneCell'=true:=by
  intro i hi
  have hk:i / sz<l.length:=Nat.div_lt_of_lt_mul (by rw[Nat.mul_comm];exact hi)
  obtain⟨h1,h2,h3⟩:=h (i / sz) _ (List.getElem?_eq_getElem hk)
  have hj:i % sz<(l[i / sz]).cells.length:=by rw[h1];exact Nat.mod_lt _ hsz
  obtain⟨u,h4,h5⟩:=h3 (i % sz) _ (List.getElem?_eq_getElem hj)
  refine⟨u,?_,h5.one (h2 _ (List.getElem_mem hj))⟩
  rw[Nat.add_assoc] at h4
  rwa [Nat.mul_comm,Nat.div_add_mod] at h4
 refine⟨(List.range (l.length*sz)).map fun i=>(G.w.cell? ⟨b,o+i,none⟩).getD undef,by simp,fun u hu=>?_,fun k e hk=>?_,fun a ha j u hu=>?_,fun hA=>by cases hA⟩
 ·
  obtain⟨i,hi,rfl⟩:=List.mem_map.1 hu
  obtain⟨v,h1,h2⟩:=key i (by simpa using hi)
  rw[h1];exact h2
 ·
  obtain⟨h1,h2,h3⟩:=h k e hk
  refine⟨h1,h2,fun j c hc=>?_⟩
  obtain⟨u,h4,h5⟩:=h3 j c hc
  have hj:j<sz:=by have:=(List.getElem?_eq_some_iff.1 hc).1;omega
  have hk2:k<l.length:=(List.getElem?_eq_some_iff.1 hk).1
  have hlt:k*sz+j<l.length*sz:=by
   have:(k+1)*sz≤l.length*sz:=Nat.mul_le_mul_right _ hk2
   rw[Nat.add_mul] at this;omega
  rw[Nat.add_assoc] at h4
  exact⟨u,by simp[hlt,h4],h5⟩
 ·
  cases ha
  have hlt:j<l.length*sz:=by
   have:=(List.getElem?_eq_some_iff.1 hu).1
   simpa using this
  obtain⟨v,h1,h2⟩:=key j hlt
  simp[hlt,h1] at hu
  subst hu
  rw[Addr.add_lit];exact h1
theorem zga (G:Cx)(sz:Nat)(A:Option Addr):Vals G sz A [] []:=⟨by simp,by simp,by simp,by simp,fun _=>rfl⟩
theorem zl8 {G:Cx}{σ:List Ob}{sz:Nat}{x:AV}{l:List AV}{v:Value}(hsz:0<sz)(hr:Rel G σ)(h:Src σ sz x l)(hv:Rep G v x): ∃A c news,v= .slice A l.length c∧Vals G sz A l news:=by
 have own: ∀ (id:Nat) (ob:Ob) (cs:List AV) (n:Nat),σ[id]?=some ob→ze6 ob=some (sz,cs)→n≤cs.length→Rep G v (.own id sz n)→ ∃A c news,v= .slice A (cs.take n).length c∧Vals G sz A (cs.take n) news:=by
  intro id ob cs n hs ho hn hv
  cases hv with
  |own0 _ _ A hA hm=>exact⟨A,0,[],by simp,by simpa using zga G sz A⟩
  | own _ _ _ b cap hm hn2 hc hb=>
   have key: ∃news,Vals G sz (some ⟨b,0,none⟩) (cs.take n) news:=zs7 hsz fun k e he=>by
    rw[List.getElem?_take] at he
    split at he
    ·
     obtain⟨f,h1,h2,h3⟩:=zfp hr hs ho hm he
     refine⟨h1,h2,fun j c hc=>⟨f j,?_,(h3 j c hc).2⟩⟩
     rw[Nat.zero_add]
     exact(h3 j c hc).1
    ·
     cases he
   obtain⟨news,h1⟩:=key
   exact⟨_,cap,news,by simp[Nat.min_eq_left hn],h1⟩
 cases h with
 | sl _ h=>
  cases hv with
  |slnil A cap=>exact⟨A,cap,[],rfl,zga G sz A⟩
  | sl b i cap sz' _ val hc hmx h1 h2 h3=>
   have key: ∃news,Vals G sz (some ⟨b,i,none⟩) l news:=zs7 hsz fun k e he=>by
    obtain⟨h4,h5⟩:=h1 k e he
    have h6:sz'=sz:=h4.symm.trans (h e (List.mem_of_getElem? he))
    subst h6
    exact⟨h4,h5,fun j c hc=>⟨val k j,(h2 k e j c he hc).2,h3 k e j c he hc⟩⟩
   obtain⟨news,h4⟩:=key
   exact⟨_,cap,news,rfl,h4⟩
 |emp=>cases hv with|emp A hA=>exact⟨A,0,[],rfl,zga G sz A⟩
 |nil=>cases hv;exact⟨none,0,[],rfl,zga G sz none⟩
 |own id ob _ hs ho n hn=>
  have:=own id ob l n hs ho xa hv
  rwa [hn,List.take_length] at this
 |pre id ob cs hs ho n hn=>exact own id ob cs n hs ho hn hv
 | sub id ob cs hs ho i n hn=>
  cases hv with
  | sub _ _ _ _ b cap A hm hA _=>
   have hlen:((cs.drop i).take n).length=n:=by rw[List.length_take,List.length_drop];omega
   rcases Nat.eq_zero_or_pos n with rfl|hp
   ·
    exact⟨A,cap,[],by simp,by simpa using zga G sz A⟩
   ·
    have key: ∃news,Vals G sz (some ⟨b,i*sz,none⟩) ((cs.drop i).take n) news:=zs7 hsz fun k e he=>by
     rw[List.getElem?_take] at he
     split at he
     ·
      rw[List.getElem?_drop] at he
      obtain⟨f,h1,h2,h3⟩:=zfp hr hs ho hm he
      refine⟨h1,h2,fun j c hc=>⟨f j,?_,(h3 j c hc).2⟩⟩
      rw[show i*sz+k*sz+j=(i+k)*sz+j by rw[Nat.add_mul]]
      exact(h3 j c hc).1
     ·
      cases he
    obtain⟨news,h1⟩:=key
    rw[hA hp]
    exact⟨_,cap,news,by rw[hlen],h1⟩
section
variable {P:Program}{o:Oper}{F:Frm}{σ:List Ob}
theorem zp8 {t ty e:TypeId}{z:Option Value}{sz bt:Nat}(ht:za5 P t=some e)(hi:za6 P e=some (z,sz,bt))(w:World)(g n cap:Nat)(cur:Array Value)(te:TypeId)(hg:w.heap[g]?=some (.cells cur te (0,0)))
  (A:Option Addr) (m c:Nat) (news:List Value) (hl:news.length=m*sz) (hA:A=none→m=0) (hnews: ∀a,A=some a→ ∀ (j:Nat) u,news[j]?=some u→w.cell? (a.add j)=some u) (h1: ∀u∈news,u.oneCell'=true)
  (hroom:n+m≤cap) (hfit:n*sz+news.length≤cur.size):
  (Builtin.append_ #[t,t] ty #[.slice (some ⟨g,0,none⟩) n cap, .slice A m c]).run P w= .ok (.slice (some ⟨g,0,none⟩) (n+m) cap) (w.setRow g (cur.toList.take (n*sz)++news++cur.toList.drop (n*sz+news.length)).toArray):=by
 have hf:(Builtin.firstCells sz m (.slice A m c)).run P w= .ok news.toArray w:=by
  cases A with
  |none=>
   have:=hA J
   subst this
   have:news=[]:=List.eq_nil_of_length_eq_zero (by simpa using hl)
   subst this
   simp[Builtin.firstCells]
  |some a=>exact run_firstCells_some (P:=P) w sz m a m c news hl (hnews a J)
 have hst:=run_storeCells_at P g (n*sz) te news 0 cur w hg (by simpa using hfit) h1
 simp only[Nat.add_zero] at hst
 simp[Builtin.append_,run_underlying (zea ht),zb3 hi,Builtin.lenOf,hroom,hf,Addr.add_lit,hst]
theorem zom {t ty e:TypeId}{z:Value}{sz bt:Nat}(ht:za5 P t=some e)(hi:za6 P e=some (some z,sz,bt))(w:World)(B:Option Addr)(n cap:Nat)(olds:List Value)(hlo:olds.length=n*sz)(hB:B=none→n=0)(holds: ∀b,B=some b→ ∀ (j:Nat) u,olds[j]?=some u→w.cell? (b.add j)=some u)
  (A:Option Addr) (m c:Nat) (news:List Value) (hl:news.length=m*sz) (hA:A=none→m=0) (hnews: ∀a,A=some a→ ∀ (j:Nat) u,news[j]?=some u→w.cell? (a.add j)=some u)
  (hroom:cap<n+m) (h63:n+m≤9223372036854775807) (hby:(n+m)*bt≤140737488355328):
  (Builtin.append_ #[t,t] ty #[.slice B n cap, .slice A m c]).run P w= .ok (.slice (some ⟨w.heap.size,0,none⟩) (n+m) (grownCap w (n+m) cap e))
    (w.drew.alloc (.cells (olds.toArray++news.toArray++Builtin.zeroCells z.cells (grownCap w (n+m) cap e-(n+m))) e)):=by
 have hfirst: ∀ (A:Option Addr) (m c:Nat) (news:List Value),news.length=m*sz→(A=none→m=0)→(∀a,A=some a→ ∀ (j:Nat) u,news[j]?=some u→w.cell? (a.add j)=some u)→(Builtin.firstCells sz m (.slice A m c)).run P w.drew= .ok news.toArray w.drew:=by
  intro A m c news hl hA hnews
  cases A with
  |none=>
   have:=hA J
   subst this
   have:news=[]:=List.eq_nil_of_length_eq_zero (by simpa using hl)
   subst this
   simp[Builtin.firstCells]
  |some a=>exact run_firstCells_some (P:=P) w.drew sz m a m c news hl (by simpa using hnews a J)
 obtain⟨i,h1,h2,h3,h4⟩:=zgq hi
 have hn: ¬ (n+m≤cap):=by omega
 have h63': ¬ (9223372036854775807<((n:Int)+(m:Int))):=by omega
 have hfit:=growslice_fits hroom hby
 have h48': ¬ (281474976710656<Builtin.nextslicecap (n+m) cap*i.bytes):=by rw[h4];omega
 have hfo:=hfirst B n cap olds hlo hB holds
 have hfn:=hfirst A m c news hl hA hnews
 simp[Builtin.append_,run_underlying (zea ht),sizeOf,typeInfo,zeroValue,h1,h2,h3,Builtin.lenOf,hn,h63',h48',Question.forced,newRow,grownCap,hfo,hfn]
 congr 2
 apply Array.ext'
 simp
theorem zh9 {t:TypeId}{e:TypeId}{s y:Operand}{z:Value}{sz bt:Nat}{x y':AV}{σ1:List Ob}{base l:List AV}(ho:o.op= .call {callee:= .builtin .append,args:= #[s,y],argTypes:= #[t,t]})
  (ht:za5 P t=some e) (hi:za6 P e=some (some z,sz,bt)) (hzs:z.cells.size=sz) (hsz:0<sz) (hx:F.eval s=x) (hy:F.eval y=y') (hsrc:Src σ sz y' l)
  (h63:base.length+l.length≤maxLen) (hby:(base.length+l.length)*bt≤140737488355328) (hlen1:σ1.length=σ.length)
  (hb: ∀ (G:Cx) (v:Value),Rel G σ→Rep G v x→ ∃B cap olds,v= .slice B base.length cap∧Vals G sz B base olds∧Rel G σ1∧
   ((base=[]∧cap=0∧ ∀a,B=some a→a.spot=none)∨ ∃b id cs cur te,B=some ⟨b,0,none⟩∧G.mu id=some (some b)∧σ[id]?=some (.row sz cs)∧base=cs.take base.length∧base.length≤cs.length∧G.w.heap[b]?=some (.cells cur te (0,0))∧cur.size=cap*sz∧cap≤maxLen∧σ1=σ.set id .dead)):
  Does P o F σ (.own σ.length sz (base.length+l.length)) (σ1++[.row sz (base++l)]):=
 zfr (x:= .any) fun G ρ hr hop=>by
  have g1:=hop s (by simp[ho,Op.operands,Call.operands])
  have g2:=hop y (by simp[ho,Op.operands,Call.operands])
  rw[hx] at g1
  rw[hy] at g2
  obtain⟨B,cap,olds,hv1,hvb,hr1,hcase⟩:=hb G (ρ s) hr g1
  obtain⟨A,c,news,hv2,hvn⟩:=zl8 hsz hr hsrc g2
  have hsmall:base.length+l.length≤9223372036854775807:=by simp only[maxLen] at h63;omega
  have hop2: ∀ (v:Value) (w:World),(Builtin.append_ #[t,t] o.type #[.slice B base.length cap, .slice A l.length c]).run P G.w= .ok v w→(execOp ρ o).run P G.w= .ok (.value v) w:=by
   intro v w h
   simp only[execOp,ho,resolve,invoke,builtin,Sem.run_bind,Sem.run_pure,Result.andThen_ok,List.map_toArray,List.map_cons,List.map_nil,hv1,hv2,h]
  have hAn:A=none→l.length=0:=fun h=>by rw[hvn.nil h];rfl
  have hBn:B=none→base.length=0:=fun h=>by rw[hvb.nil h];rfl
  -- what lies in the cells
  have hcells: ∀ (cells:Array Value),(∀q,q<(base.length+l.length)*sz→cells[q]?=(olds++news)[q]?)→ ∀ (k:Nat) x,(base++l)[k]?=some x→x.cells.length=sz∧(∀c∈x.cells,c.one=true)∧ ∀ (j:Nat) c,x.cells[j]?=some c→ ∃v,cells[k*sz+j]?=some v∧Rep G v c:=by
   intro cells hcl k x hk
   have hkl:k<base.length+l.length:=by have:=(List.getElem?_eq_some_iff.1 hk).1;simpa using this
   have hpos: ∀j,j<sz→k*sz+j<(base.length+l.length)*sz:=fun j hj=>by
    have:(k+1)*sz≤(base.length+l.length)*sz:=Nat.mul_le_mul_right _ hkl
    rw[Nat.add_mul] at this;omega
   by_cases hk1:k<base.length
   ·
    rw[List.getElem?_append_left hk1] at hk
    obtain⟨h1,h2,h3⟩:=hvb.rep k x hk
    refine⟨h1,h2,fun j c hc=>?_⟩
    have hj:j<sz:=by have:=(List.getElem?_eq_some_iff.1 hc).1;omega
    obtain⟨u,h4,h5⟩:=h3 j c hc
    refine⟨u,?_,h5⟩
    rw[hcl _ (hpos j hj),List.getElem?_append_left (List.getElem?_eq_some_iff.1 h4).1]
    exact h4
   ·
    rw[List.getElem?_append_right xa] at hk
    obtain⟨h1,h2,h3⟩:=hvn.rep _ x hk
    refine⟨h1,h2,fun j c hc=>?_⟩
    have hj:j<sz:=by have:=(List.getElem?_eq_some_iff.1 hc).1;omega
    obtain⟨u,h4,h5⟩:=h3 j c hc
    refine⟨u,?_,h5⟩
    have he:k*sz+j-olds.length=(k-base.length)*sz+j:=by
     rw[hvb.len,Nat.sub_mul]
     have:base.length*sz≤k*sz:=Nat.mul_le_mul_right _ xa
     omega
    rw[hcl _ (hpos j hj),List.getElem?_append_right (by rw[hvb.len];have:base.length*sz≤k*sz:=Nat.mul_le_mul_right _ xa;omega),he]
    exact h4
  -- into a new block
  have grow:cap<base.length+l.length→ ∃v G',(execOp ρ o).run P G.w= .ok (.value v) G'.w∧G.Ext G'∧Rel G' (σ1++[.row sz (base++l)])∧Rep G' v (.own σ.length sz (base.length+l.length)):=by
   intro hc
   have hrun:=zom (P:=P) ht hi (ty:=o.type) G.w B base.length cap olds hvb.len hBn hvb.at_ A l.length c news hvn.len hAn hvn.at_ hc hsmall hby
   obtain⟨cells,hcs⟩: ∃cells,cells=olds.toArray++news.toArray++Builtin.zeroCells z.cells (grownCap G.w (base.length+l.length) cap e-(base.length+l.length)):=⟨_,rfl⟩
   rw[←hcs] at hrun
   have hge:=grownCap_ge G.w (base.length+l.length) cap e
   have hcm:grownCap G.w (base.length+l.length) cap e≤maxLen:=grownCap_le_maxLen G.w _ cap e h63
   have hsize:cells.size=grownCap G.w (base.length+l.length) cap e*sz:=by
    rw[hcs]
    simp only[Array.size_append,List.size_toArray,size_zeroCells,hzs,hvb.len,hvn.len, ←Nat.add_mul]
    congr 1
    omega
   have hrow:=hcells cells (fun q hq=>by
    rw[hcs, ←Array.getElem?_toList]
    simp only[Array.toList_append,List.append_assoc]
    rw[←List.append_assoc,List.getElem?_append_left (by rw[List.length_append,hvb.len,hvn.len, ←Nat.add_mul];exact hq)])
   have h9:=zic hr1 G.w.drew J hr1.below.drew cells e sz (base++l) (by rw[hsize,List.length_append];exact Nat.mul_le_mul_right _ hge) hrow
   have h10:=zf8 hr1 G.w.drew J cells e
   rw[hlen1] at h9 h10
   refine⟨_,_,hop2 _ _ hrun,h10,h9,?_⟩
   refine .own σ.length sz _ G.w.heap.size _ (by simp[Cx.new]) hge hcm ⟨cells,e,(0,0),?_,hsize⟩
   show(G.w.drew.alloc (.cells cells e)).heap[G.w.heap.size]?=_
   exact heap_alloc_new G.w.drew _
  rcases hcase with ⟨hbn,hcap,hBs⟩|⟨b,id,cs,cur,te,rfl,hm,hs,hbase,hble,hcur,hcsz,hcm,hσ1⟩
  ·
   by_cases hl0:l.length=0
   ·
    -- nothing onto nothing
    have hln:l=[]:=List.eq_nil_of_length_eq_zero hl0
    subst hbn
    subst hln
    have hno:news=[]:=List.eq_nil_of_length_eq_zero (by simpa using hvn.len)
    subst hno
    have hrun:(Builtin.append_ #[t,t] o.type #[.slice B ([]:List AV).length cap, .slice A ([]:List AV).length c]).run P G.w= .ok (.slice B 0 cap) G.w:=by
     have hf:(Builtin.firstCells sz 0 (.slice A 0 c)).run P G.w= .ok #[] G.w:=by
      cases A with
      |none=>simp[Builtin.firstCells]
      |some a=>exact run_firstCells_some (P:=P) G.w sz 0 a 0 c [] xm xm
     cases B with
     |none=>simp[Builtin.append_,run_underlying (zea ht),zb3 hi,Builtin.lenOf,hf]
     |some a=>simp[Builtin.append_,run_underlying (zea ht),zb3 hi,Builtin.lenOf,hf,storeCells]
    subst hcap
    have h9:=zjj hr1 sz
    have h10:=zh2 hr1
    rw[hlen1] at h9 h10
    exact⟨_,G.new σ.length G.w none,hop2 _ _ hrun,h10,h9, .own0 σ.length sz B hBs (by simp[Cx.new])⟩
   ·
    exact grow xa
  ·
   by_cases hroom:base.length+l.length≤cap
   ·
    have hfit:base.length*sz+news.length≤cur.size:=by rw[hvn.len,hcsz, ←Nat.add_mul];exact Nat.mul_le_mul_right _ hroom
    have hrun:=zp8 (P:=P) ht hi (ty:=o.type) G.w b base.length cap cur te hcur A l.length c news hvn.len hAn hvn.at_ hvn.one hroom hfit
    obtain⟨nc,hnc⟩: ∃nc:Array Value,nc=(cur.toList.take (base.length*sz)++news++cur.toList.drop (base.length*sz+news.length)).toArray:=⟨_,rfl⟩
    rw[←hnc] at hrun
    have hncs:nc.size=cur.size:=by
     rw[hnc]
     simp only[List.size_toArray,List.length_append,List.length_take,List.length_drop,Array.length_toList]
     omega
    have holds:cur.toList.take (base.length*sz)=olds:=by
     apply List.ext_getElem?
     intro q
     rw[List.getElem?_take,Array.getElem?_toList]
     by_cases hq:q<base.length*sz
     ·
      rw[if_pos hq]
      have h1:=hvb.at_ _ J q (olds[q]'(by rw[hvb.len];exact hq)) (List.getElem?_eq_getElem _)
      rw[Addr.add_lit,Nat.zero_add,cell_of_row _ b q cur te (0,0) hcur] at h1
      rw[h1,List.getElem?_eq_getElem (by rw[hvb.len];exact hq)]
     ·
      rw[if_neg hq,List.getElem?_eq_none (by rw[hvb.len];omega)]
    have hrow:=hcells nc (fun q hq=>by
     rw[hnc,List.getElem?_toArray,holds,List.getElem?_append_left (by rw[List.length_append,hvb.len,hvn.len, ←Nat.add_mul];exact hq)])
    have hw:=zmn (cs':=base++l) hr hs hm hcur hncs (by rw[hncs,hcsz,List.length_append];exact Nat.mul_le_mul_right _ hroom) hrow
    have hwe:=zju hr hs hm hcur hncs
    have hid:id<σ.length:=(List.getElem?_eq_some_iff.1 hs).1
    have hm2:({G with w:=G.w.setRow b nc}:Cx).mu id=some (some b):=hm
    obtain⟨h9,h10⟩:=zwy (id:=id) (sz:=sz) (cs:=base++l) hw (by rw[List.getElem?_set_self hid]) hm2
    rw[List.set_set, ←hσ1,List.length_set] at h9
    rw[List.length_set] at h10
    refine⟨_,_,hop2 _ _ hrun,hwe.trans h10,h9,?_⟩
    refine .own σ.length sz _ b cap (by simp[Cx.new]) hroom hcm ⟨nc,te,(0,0),?_,by rw[hncs];exact hcsz⟩
    exact setRow_heap _ _ cur nc _ _ hcur
   ·
    exact grow xa
theorem zca {t e:TypeId}{s y:Operand}{z:Value}{sz bt id n:Nat}{y':AV}{cs l:List AV}(ho:o.op= .call {callee:= .builtin .append,args:= #[s,y],argTypes:= #[t,t]})
  (ht:za5 P t=some e) (hi:za6 P e=some (some z,sz,bt)) (hzs:z.cells.size=sz) (hsz:0<sz) (hx:F.eval s= .own id sz n) (hs:σ[id]?=some (.row sz cs)) (hn:n=cs.length) (hy:F.eval y=y') (hsrc:Src σ sz y' l)
  (h63:cs.length+l.length≤maxLen) (hby:(cs.length+l.length)*bt≤140737488355328):
  Does P o F σ (.own σ.length sz (cs.length+l.length)) (σ.set id .dead++[.row sz (cs++l)]):=
 zh9 ho ht hi hzs hsz hx hy hsrc h63 hby xm fun G v hr hv=>by
  have hk:=zvv hr id
  cases hv with
  |own0 _ _ A hA hm=>
   have h1:=hr.obs id _ hs
   simp only[ObOk,hm] at h1
   subst h1
   exact⟨A,0,[],rfl,zga G sz A,hk, .inl ⟨rfl,rfl,hA⟩⟩
  |own _ _ _ b cap hm hn2 hc hb=>
   subst hn
   have h1:=hr.obs id _ hs
   simp only[ObOk,hm] at h1
   obtain⟨⟨cur,te,fr,h2,rfl,h3,h4⟩,h5,h6⟩:=h1
   obtain⟨cur2,te2,fr2,h7,h8⟩:=hb
   rw[h2] at h7
   cases h7
   obtain⟨A,c,olds,hv,hvals⟩:=zl8 (v:= .slice (some ⟨b,0,none⟩) cs.length cap) hsz hr (Src.own id _ cs hs rfl cs.length rfl) (.own id sz cs.length b cap hm hn2 hc ⟨cur,te,(0,0),h2,h8⟩)
   cases hv
   exact⟨_,cap,olds,rfl,hvals,hk, .inr ⟨b,id,cs,cur,te,rfl,hm,hs,by simp,Nat.le_refl _,h2,h8,hc,rfl⟩⟩
theorem zl0 {t e:TypeId}{s y:Operand}{z:Value}{sz bt:Nat}{x y':AV}{l:List AV}(ho:o.op= .call {callee:= .builtin .append,args:= #[s,y],argTypes:= #[t,t]})
  (ht:za5 P t=some e) (hi:za6 P e=some (some z,sz,bt)) (hzs:z.cells.size=sz) (hsz:0<sz) (hx:F.eval s=x) (hx2:x= .emp∨x= .s (.slice none 0 0)) (hy:F.eval y=y') (hsrc:Src σ sz y' l)
  (h63:l.length≤maxLen) (hby:l.length*bt≤140737488355328):
  Does P o F σ (.own σ.length sz l.length) (σ++[.row sz l]):=by
 have:=zh9 (P:=P) (o:=o) (F:=F) (σ:=σ) (base:=[]) (σ1:=σ) ho ht hi hzs hsz hx hy hsrc (by simpa using h63) (by simpa using hby) rfl fun G v hr hv=>by
  rcases hx2 with rfl|rfl
  ·
   cases hv with
   |emp A hA=>exact⟨A,0,[],rfl,zga G sz A,hr, .inl ⟨rfl,rfl,hA⟩⟩
  ·
   cases hv
   exact⟨none,0,[],rfl,zga G sz none,hr, .inl ⟨rfl,rfl,fun a ha=>by cases ha⟩⟩
 simpa using this
end
end Aw
namespace Aw
open Go.RowKit
variable [Mk]
inductive Rn (ρ:List Nat):AV→AV→Prop
 |lo (x:AV) (h:Lo 0 x):Rn ρ x x
 |own (id j sz n n':Nat) (h:ρ[j]?=some id) (hn:n=n'):Rn ρ (.own id sz n) (.own j sz n')
 |ptr (id j sz k i:Nat) (h:ρ[j]?=some id):Rn ρ (.ptr id sz k i) (.ptr j sz k i)
 |mp (id j:Nat) (h:ρ[j]?=some id):Rn ρ (.mp id) (.mp j)
 |sub (id j sz q n q' n':Nat) (h:ρ[j]?=some id) (hq:q=q') (hn:n=n'):Rn ρ (.sub id sz q n) (.sub j sz q' n')
 |ifc (t:TypeId) (x y:AV) (h:Rn ρ x y):Rn ρ (.ifc t x) (.ifc t y)
 |agg (cs cs':List AV) (hl:cs.length=cs'.length) (h: ∀ (j:Nat) x y,cs[j]?=some x→cs'[j]?=some y→Rn ρ x y):Rn ρ (.agg cs) (.agg cs')
 |fn (f:FuncId) (cs cs':List AV) (hl:cs.length=cs'.length) (h: ∀ (j:Nat) x y,cs[j]?=some x→cs'[j]?=some y→Rn ρ x y):Rn ρ (.fn f cs) (.fn f cs')
def Cx.ren (G:Cx)(ρ:List Nat):Cx:={G with mu:=fun j=>(ρ[j]?).bind G.mu}
theorem Rn.one {ρ:List Nat}{x y:AV}(h:Rn ρ x y):y.one=x.one:=by cases h<;>rfl
theorem Rn.rep {G:Cx}{ρ:List Nat}{v:Value}{x y:AV}(h:Rn ρ x y):Rep G v x→Rep (G.ren ρ) v y:=by
 induction h generalizing v with
 |lo x h=>exact fun hv=>hv.low h (fun _ _ h=>h) (fun _ _ _=>rfl) (fun id y h=>by omega) (fun h=>by omega)
 |own id j sz n n' h hn=>
  subst hn
  intro hv
  cases hv with
  |own0 _ _ A hA hm=>exact .own0 j sz A hA (by simp[Cx.ren,h,hm])
  |own _ _ _ b cap hm hn hc hb=>exact .own j sz n b cap (by simp[Cx.ren,h,hm]) hn hc hb
 |ptr id j sz k i h=>
  intro hv
  cases hv with
  |ptr _ _ _ _ b hm=>exact .ptr j sz k i b (by simp[Cx.ren,h,hm])
 |mp id j h=>
  intro hv
  cases hv with
  |mp _ b hm=>exact .mp j b (by simp[Cx.ren,h,hm])
 |sub id j sz q n q' n' h hq hn=>
  subst hq hn
  intro hv
  cases hv with
  |sub _ _ _ _ b cap A hm hA hc=>exact .sub j sz q n b cap A (by simp[Cx.ren,h,hm]) hA hc
 |ifc t x y h ih=>
  intro hv
  cases hv with
  |ifc _ _ _ hv=>exact .ifc t _ _ (ih hv)
 | agg cs cs' hl h ih=>
  intro hv
  cases hv with
  | agg vs _ hs h1 hr=>
   refine .agg vs cs' (hs.trans hl) (fun c hc=>?_) (fun j v y hv hy=>?_)
   ·
    obtain⟨j,hj,rfl⟩:=List.mem_iff_getElem.1 hc
    rw[(h j cs[j] cs'[j] xm (by simp[hj])).one]
    exact h1 _ (List.getElem_mem _)
   ·
    have hj:j<cs.length:=by rw[hl];exact(List.getElem?_eq_some_iff.1 hy).1
    exact ih j _ y (List.getElem?_eq_getElem hj) hy (hr j v _ hv (List.getElem?_eq_getElem hj))
 | fn f cs cs' hl h ih=>
  intro hv
  cases hv with
  |fn _ vs _ hs hr=>
   refine .fn f vs cs' (hs.trans hl) (fun j v y hv hy=>?_)
   have hj:j<cs.length:=by rw[hl];exact(List.getElem?_eq_some_iff.1 hy).1
   exact ih j _ y (List.getElem?_eq_getElem hj) hy (hr j v _ hv (List.getElem?_eq_getElem hj))
inductive ObRn (ρ:List Nat):Ob→Ob→Prop
 |dead (ob:Ob):ObRn ρ ob .dead
 |row (sz:Nat) (cs:List AV) (h: ∀e∈cs, ∀c∈e.cells,Lo 0 c):ObRn ρ (.row sz cs) (.row sz cs)
 |fz (sz:Nat) (cs:List AV) (h: ∀e∈cs, ∀c∈e.cells,Lo 0 c):ObRn ρ (.fz sz cs) (.fz sz cs)
 |rowR (sz:Nat) (e e':AV) (h:Rn ρ e e') (h1: ∀ (j:Nat) x y,e.cells[j]?=some x→e'.cells[j]?=some y→Rn ρ x y) (hl:e.cells.length=e'.cells.length):ObRn ρ (.row sz [e]) (.row sz [e'])
 |mp (X:MapX) (n:Nat) (hn:X.n≤n):ObRn ρ (.mp X) (.mp {X with n:=n})
theorem ztf {G:Cx}{ρ:List Nat}{b sz:Nat}{cs cs':List AV}{f:Nat × Nat→Prop}(h:zev G b sz cs f)(hl:cs.length=cs'.length)
  (hc: ∀ (k:Nat) e e',cs[k]?=some e→cs'[k]?=some e'→e.cells.length=e'.cells.length∧ ∀ (j:Nat) x y,e.cells[j]?=some x→e'.cells[j]?=some y→Rn ρ x y):zev (G.ren ρ) b sz cs' f:=by
 obtain⟨cur,t,fr,h1,h2,h3,h4⟩:=h
 refine⟨cur,t,fr,h1,h2,by rw[←hl];exact h3,fun k e' he'=>?_⟩
 have hk:k<cs.length:=by rw[hl];exact(List.getElem?_eq_some_iff.1 he').1
 obtain⟨g1,g2,g3⟩:=h4 k _ (List.getElem?_eq_getElem hk)
 obtain⟨k1,k2⟩:=hc k _ e' (List.getElem?_eq_getElem hk) he'
 refine⟨by rw[←k1];exact g1,fun c hcc=>?_,fun j y hy=>?_⟩
 ·
  obtain⟨j,hj,rfl⟩:=List.mem_iff_getElem.1 hcc
  rw[(k2 j _ _ (List.getElem?_eq_getElem xa) (List.getElem?_eq_getElem hj)).one]
  exact g2 _ (List.getElem_mem _)
 ·
  have hj:j<(cs[k]).cells.length:=by rw[k1];exact(List.getElem?_eq_some_iff.1 hy).1
  obtain⟨v,g4,g5⟩:=g3 j _ (List.getElem?_eq_getElem hj)
  exact⟨v,g4,(k2 j _ y (List.getElem?_eq_getElem hj) hy).rep g5⟩
theorem ObRn.rowE {ρ:List Nat}{sz:Nat}{cs cs':List AV}(h: ∀e∈cs', ∀c∈e.cells,Lo 0 c)(hc:cs=cs'):ObRn ρ (.row sz cs) (.row sz cs'):=by subst hc;exact .row sz cs h
def StRn (σ:List Ob)(ρ:List Nat)(σ':List Ob):Prop:=σ'.length=ρ.length∧ ∀ (j i:Nat) ob',ρ[j]?=some i→σ'[j]?=some ob'→ ∃ob,σ[i]?=some ob∧ObRn ρ ob ob'
def FrRn (F:Frm)(ρ:List Nat):Frm→Prop
 |[]=>True
 |(d,y)::F'=>Rn ρ (F.get d) y∧FrRn F ρ F'
theorem zqb {G:Cx}{σ σ':List Ob}{ρ:List Nat}(hr:Rel G σ)(hn:ρ.Nodup)(hs:StRn σ ρ σ'):Rel (G.ren ρ) σ':=by
 obtain⟨hlen,hst⟩:=hs
 refine⟨hr.below,hr.le,hr.st,fun j ob' hob=>?_,fun j j' b hj hj' hm hm'=>?_,fun j hj=>?_⟩
 ·
  have hj:j<ρ.length:=by rw[←hlen];exact(List.getElem?_eq_some_iff.1 hob).1
  obtain⟨ob,h1,h2⟩:=hst j _ ob' (List.getElem?_eq_getElem hj) hob
  have h3:=hr.obs _ ob h1
  have hm:(G.ren ρ).mu j=G.mu ρ[j]:=by simp[Cx.ren,hj]
  cases h2 with
  |dead=>exact fun b hb=>h3.lt (by rw[←hm];exact hb)
  | mp X n hn2=>
   obtain⟨b,g1,g2,g3,g4,g5⟩:=h3
   refine⟨b,hm.trans g1,World.ownsMap.mono g2 hn2,g3,g4,fun j' hj'=>?_⟩
   cases hρ:ρ[j']? with
   |none=>simp[Cx.ren,hρ] at hj'
   |some i=>
    obtain⟨hlt,hi⟩:=List.getElem?_eq_some_iff.1 hρ
    simp only[Cx.ren,hρ,Option.bind_some] at hj'
    have:=g5 i hj'
    rw[←hi] at this
    exact(List.getElem_inj hn).1 this
  | row sz cs h=>
   simp only[ObOk,hm] at h3⊢
   cases hx:G.mu ρ[j] with
   |none=>rw[hx] at h3;exact h3
   | some x=>
    rw[hx] at h3
    cases x with
    |none=>exact h3
    |some b=>
     refine⟨ztf h3.1 J (fun k e e' he he'=>?_),h3.2⟩
     rw[he] at he';cases he'
     refine⟨rfl,fun i x y hx hy=>?_⟩
     rw[hx] at hy;cases hy
     exact .lo _ (h e (List.mem_of_getElem? he) x (List.mem_of_getElem? hx))
  | fz sz cs h=>
   simp only[ObOk,hm] at h3⊢
   cases hx:G.mu ρ[j] with
   |none=>rw[hx] at h3;exact h3
   | some x=>
    rw[hx] at h3
    cases x with
    |none=>exact h3
    |some b=>
     refine⟨ztf h3.1 J (fun k e e' he he'=>?_),h3.2⟩
     rw[he] at he';cases he'
     refine⟨rfl,fun i x y hx hy=>?_⟩
     rw[hx] at hy;cases hy
     exact .lo _ (h e (List.mem_of_getElem? he) x (List.mem_of_getElem? hx))
  | rowR sz e e' h g1 hl=>
   simp only[ObOk,hm] at h3⊢
   cases hx:G.mu ρ[j] with
   |none=>rw[hx] at h3;exact h3
   | some x=>
    rw[hx] at h3
    cases x with
    |none=>simp at h3
    | some b=>
     refine⟨ztf h3.1 J (fun k x x' he he'=>?_),h3.2⟩
     cases k with
     |succ k=>simp at he
     |zero=>
      simp at he he'
      subst he he'
      exact⟨hl,g1⟩
 ·
  obtain⟨sz,cs,h1⟩:=hj
  obtain⟨sz',cs',h1'⟩:=hj'
  have hlj:j<ρ.length:=by rw[←hlen];exact(List.getElem?_eq_some_iff.1 h1).1
  have hlj':j'<ρ.length:=by rw[←hlen];exact(List.getElem?_eq_some_iff.1 h1').1
  have al: ∀j sz cs (hlj:j<ρ.length),σ'[j]?=some (.row sz cs)→zed σ ρ[j]:=by
   intro j sz cs hlj h1
   obtain⟨ob,h2,h3⟩:=hst j _ _ (List.getElem?_eq_getElem hlj) h1
   cases h3 with
   |row _ _ _=>exact⟨sz,cs,h2⟩
   |rowR _ e _ _ _ _=>exact⟨sz,[e],h2⟩
  have e:=hr.inj ρ[j] ρ[j'] b (al j sz cs hlj h1) (al j' sz' cs' hlj' h1') (by simpa[Cx.ren,hlj] using hm) (by simpa[Cx.ren,hlj'] using hm')
  exact(List.getElem_inj hn).1 e
 ·
  have:ρ[j]?=none:=List.getElem?_eq_none xa
  simp[Cx.ren,this]
section
variable {N:Nat}{F F':Frm}{σ σ':List Ob}
theorem znt {G:Cx}{a:Act}{ρ:List Nat}(hf:FOk G a F): ∀F',FrRn F ρ F'→FOk (G.ren ρ) a F'
 |[],_=>fun d=> .any _
 | (d,y)::F',h=>fun t=>by
  simp only[Frm.get]
  cases e:Nat.beq d t with
  |true=>
   have:=Nat.eq_of_beq_eq_true e
   subst this
   exact h.1.rep (hf d)
  |false=>exact znt hf F' h.2 t
theorem wk_ren (ρ:List Nat)(hn:ρ.Nodup)(hs:StRn σ ρ σ')(hf:FrRn F ρ F'):Weak N F σ F' σ':=fun G a h=>
 ⟨G.ren ρ,rfl,⟨rfl,rfl,fun _ _ h=>h,fun _ _ _=>rfl,fun _ _ h=> .inl h,rfl,fun _ _ h=> .inl h,fun _ _ h _=>h⟩,⟨zqb h.rel hn hs,znt h.fr F' hf,h.df,h.nt⟩⟩
def StL (ρ0:List Nat)(σ:List Ob):List Nat→List Ob→Prop
 |[],[]=>True
 |i::ρ,ob'::σ'=>(∃ob,σ[i]?=some ob∧ObRn ρ0 ob ob')∧StL ρ0 σ ρ σ'
 |_,_=>False
theorem zmt {ρ0:List Nat}: ∀ (ρ:List Nat) (σ':List Ob),StL ρ0 σ ρ σ'→σ'.length=ρ.length∧ ∀ (j i:Nat) ob',ρ[j]?=some i→σ'[j]?=some ob'→ ∃ob,σ[i]?=some ob∧ObRn ρ0 ob ob'
 |[],[],_=>⟨rfl,fun j i ob' h=>by simp at h⟩
 |[],_::_,h=>h.elim
 |_::_,[],h=>h.elim
 |i::ρ,ob'::σ',h=>by
  obtain⟨h1,h2⟩:=zmt ρ σ' h.2
  refine⟨by simp[h1],fun j i' x hj hx=>?_⟩
  cases j with
  |zero=>simp at hj hx;subst hj hx;exact h.1
  |succ j=>exact h2 j i' x (by simpa using hj) (by simpa using hx)
theorem zdl (ρ:List Nat)(hn:ρ.Nodup)(hs:StL ρ σ ρ σ')(hf:FrRn F ρ F'):Weak N F σ F' σ':=wk_ren ρ hn (zmt ρ σ' hs) hf
end
end Aw
namespace Aw
open Go.RowKit
section
variable [Mk]{N:Nat}{F F':Frm}{σ σ':List Ob}
def Cx.froz (G:Cx)(id:Nat):Cx:={G with St:=fun b o=>G.St b o∨G.mu id=some (some b)}
theorem zqp {G:Cx}{id sz:Nat}{cs:List AV}(hr:Rel G σ)(hs:σ[id]?=some (.row sz cs)):G.Ext (G.froz id)∧Rel (G.froz id) (σ.set id (.fz sz cs)):=by
 have h0:=hr.obs id _ hs
 have hid:id<σ.length:=(List.getElem?_eq_some_iff.1 hs).1
 have hbb: ∀b,G.mu id=some (some b)→G.base≤b∧b<G.w.heap.size∧ ∀o, ¬G.SP b o:=by
  intro b hb
  simp only[ObOk,hb] at h0
  obtain⟨⟨cur,t,fr,h1,_⟩,h2,h3⟩:=h0
  exact⟨h2,(Array.getElem?_eq_some_iff.1 h1).1,h3⟩
 have hext:G.Ext (G.froz id):=⟨rfl,rfl,fun _ _ h=> .inl h,fun _ _ _=>rfl,fun _ _ h=>h,Nat.le_refl _,zce.refl _,fun b o h=>h.imp (fun h=>h) (fun h=>(hbb b h).1),rfl,fun b o h=>h.imp (fun h=>h) (fun h h2=>(hbb b h).2.2 o (.inr h2)),fun _ _ h _=>h⟩
 refine⟨hext,hr.below,hr.le,fun b o h=>?_,fun i ob hob=>?_,fun i j b hi hj hm hm'=>?_,fun i hi=>hr.fresh i (by simpa using hi)⟩
 ·
  rcases h with (h|h)|h
  ·
   exact hr.st b o (.inl h)
  ·
   exact(hbb b h).2.1
  ·
   exact hr.st b o (.inr h)
 ·
  have rowx: ∀b sz cs f,zev G b sz cs f→zev (G.froz id) b sz cs f:=fun b sz cs f h=>h.ext hext J
  by_cases hi:id=i
  ·
   subst hi
   rw[List.getElem?_set_self hid] at hob
   cases hob
   simp only[ObOk] at h0⊢
   show match G.mu id with|none=>False|some none=>cs=[]|some (some b)=>_
   cases hx:G.mu id with
   |none=>rw[hx] at h0;exact h0
   | some x=>
    rw[hx] at h0
    cases x with
    |none=>exact h0
    |some b=>
     obtain⟨cur,t,fr,h1,h2,h3⟩:=rowx _ _ _ _ h0.1
     exact⟨⟨cur,t,fr,h1,trivial,h3⟩,fun k e j _ _=> .inr hx⟩
  ·
   rw[List.getElem?_set_ne hi] at hob
   have h1:=hr.obs i ob hob
   cases ob with
   |dead=>exact h1
   | row sz2 cs2=>
    simp only[ObOk] at h1⊢
    show match G.mu i with|none=>False|some none=>cs2=[]|some (some b)=>_
    cases hx:G.mu i with
    |none=>rw[hx] at h1;exact h1
    | some x=>
     rw[hx] at h1
     cases x with
     |none=>exact h1
     | some b=>
      refine⟨rowx _ _ _ _ h1.1,h1.2.1,fun o ho=>?_⟩
      rcases ho with (ho|ho)|ho
      ·
       exact h1.2.2 o (.inl ho)
      ·
       exact hi (hr.inj id i b ⟨sz,cs,hs⟩ ⟨sz2,cs2,hob⟩ ho hx)
      ·
       exact h1.2.2 o (.inr ho)
   | fz sz2 cs2=>
    simp only[ObOk] at h1⊢
    show match G.mu i with|none=>False|some none=>cs2=[]|some (some b)=>_
    cases hx:G.mu i with
    |none=>rw[hx] at h1;exact h1
    |some x=>
     rw[hx] at h1
     cases x with
     |none=>exact h1
     |some b=>exact⟨rowx _ _ _ _ h1.1,fun k e j he hj=> .inl (h1.2 k e j he hj)⟩
   | mp X=>
    obtain⟨b,g1,g2,g3,g4,g5⟩:=h1
    exact⟨b,g1,g2,g3,fun o ho=>by
     rcases ho with (ho|ho)|ho
     ·
      exact g4 o (.inl ho)
     ·
      exact hi (g5 id ho)
     ·
      exact g4 o (.inr ho),g5⟩
 ·
  have old: ∀i,zed (σ.set id (.fz sz cs)) i→zed σ i:=by
   rintro i ⟨sz1,cs1,hi⟩
   by_cases h2:id=i
   ·
    subst h2;rw[List.getElem?_set_self hid] at hi;cases hi
   ·
    rw[List.getElem?_set_ne h2] at hi;exact⟨sz1,cs1,hi⟩
  exact hr.inj i j b (old i hi) (old j hj) hm hm'
theorem zbw {id sz:Nat}{cs:List AV}(hs:σ[id]?=some (.row sz cs)):Weak N F σ F (σ.set id (.fz sz cs)):=fun G a h=>by
 obtain⟨h1,h2⟩:=zqp h.rel hs
 exact⟨G.froz id,rfl,h1.step,h.step h1 h2⟩
theorem zvf {G:Cx}{id sz:Nat}{cs:List AV}{v:Value}(hr:Rel G σ)(hs:σ[id]?=some (.fz sz cs)){n:Nat}(hn:n=cs.length)(hv:Rep G v (.own id sz n)):Rep G v (.sl cs):=by
 have h0:=hr.obs id _ hs
 cases hv with
 |own0 _ _ A hA hm=>
  simp only[ObOk,hm] at h0
  subst h0
  exact .slnil A 0
 | own _ _ _ b cap hm hn2 hc hb=>
  simp only[ObOk,hm] at h0
  obtain⟨⟨cur,t,fr,h1,_,h3,h4⟩,h5⟩:=h0
  subst hn
  refine .sl b 0 cap sz cs (fun k j=>cur.getD (k*sz+j) undef) hn2 (Nat.le_trans hn2 hc) (fun k e he=>⟨(h4 k e he).1,(h4 k e he).2.1⟩) (fun k e j c he hc=>?_) (fun k e j c he hc=>?_)
  ·
   obtain⟨u,h6,h7⟩:=(h4 k e he).2.2 j c hc
   refine⟨by rw[Nat.zero_add];exact h5 k e j he (List.getElem?_eq_some_iff.1 hc).1,?_⟩
   rw[Nat.zero_add,cell_of_row _ b _ cur t fr h1,h6,Array.getD_eq_getD_getElem?,h6];rfl
  ·
   obtain⟨u,h6,h7⟩:=(h4 k e he).2.2 j c hc
   rw[Array.getD_eq_getD_getElem?,h6];exact h7
theorem z61 {G:Cx}{id sz k:Nat}{cs:List AV}{e:AV}{v:Value}(hr:Rel G σ)(hs:σ[id]?=some (.fz sz cs))(he:cs[k]?=some e)(hv:Rep G v (.ptr id sz k 0)):Rep G v (.ref e.cells):=by
 have h0:=hr.obs id _ hs
 cases hv with
 | ptr _ _ _ _ b hm=>
  simp only[ObOk,hm] at h0
  obtain⟨⟨cur,t,fr,h1,_,h3,h4⟩,h5⟩:=h0
  obtain⟨g1,g2,g3⟩:=h4 k e he
  refine .ref b (k*sz+0) e.cells (fun j=>cur.getD (k*sz+j) undef) g2 (fun j c hc=>?_) (fun j c hc=>?_)
  ·
   obtain⟨u,h6,h7⟩:=g3 j c hc
   refine⟨h5 k e j he (List.getElem?_eq_some_iff.1 hc).1,?_⟩
   show G.w.cell? ⟨b,k*sz+j,none⟩=_
   rw[cell_of_row _ b _ cur t fr h1,h6,Array.getD_eq_getD_getElem?,h6];rfl
  ·
   obtain⟨u,h6,h7⟩:=g3 j c hc
   rw[Array.getD_eq_getD_getElem?,h6];exact h7
theorem FOk.more {G:Cx}{a:Act}{d:Nat}{x:AV}(h:FOk G a F)(hx:Rep G (a.tmps.getD d undef) x):FOk G a ((d,x)::F):=fun t=>by
 simp only[Frm.get]
 cases e:Nat.beq d t with
 |true=>have:=Nat.eq_of_beq_eq_true e;subst this;exact hx
 |false=>exact h t
theorem z2s {d id sz n:Nat}{cs:List AV}(hd:F.get d= .own id sz n)(hs:σ[id]?=some (.fz sz cs))(hn:n=cs.length):Weak N F σ ((d, .sl cs)::F) σ:=fun G a h=>
 ⟨G,rfl, .refl G,h.rel,h.fr.more (zvf h.rel hs hn (by rw[←hd];exact h.fr d)),h.df,h.nt⟩
theorem zci {d id sz k:Nat}{cs:List AV}{e:AV}(hd:F.get d= .ptr id sz k 0)(hs:σ[id]?=some (.fz sz cs))(he:cs[k]?=some e):Weak N F σ ((d, .ref e.cells)::F) σ:=fun G a h=>
 ⟨G,rfl, .refl G,h.rel,h.fr.more (z61 h.rel hs he (by rw[←hd];exact h.fr d)),h.df,h.nt⟩
theorem zyz {G:Cx}{v:Value}(h:Rep G v .emp):Rep G v (.sl []):=by
 cases h with
 |emp A hA=>
  exact .slnil A 0
theorem zyy {G:Cx}{v:Value}(h:Rep G v (.s (.slice none 0 0))):Rep G v (.sl []):=by cases h;exact .slnil none 0
theorem wk_own {d:Nat}{x:AV}(sz:Nat)(hd:F.get d=x)(hx:x= .emp∨x= .s (.slice none 0 0)):Weak N F σ ((d, .own σ.length sz 0)::F) (σ++[.row sz []]):=fun G a h=>by
 have he:=zh2 h.rel
 refine⟨G.new σ.length G.w none,rfl,he.step,zjj h.rel sz,(h.fr.ext he).more ?_,h.df,h.nt⟩
 have h1:=h.fr d
 rw[hd] at h1
 generalize a.tmps.getD d undef=v at h1
 rcases hx with rfl|rfl
 ·
  cases h1 with|emp A hA=>exact .own0 σ.length sz A hA (by simp[Cx.new])
 ·
  cases h1;exact .own0 σ.length sz none (fun a ha=>by cases ha) (by simp[Cx.new])
end
def zok (P:Program)(f:FuncId):Prop:= ∀args w,(callFunc f args).run P w= .ok (.enter f args) w
theorem zkk {P:Program}{f:FuncId}{fn:Func}{c:Code}(hf:P.funcs[f]?=some fn)(hname:(fn.name== "runtime.NumGoroutine")=false)(hb:fn.body=some c):zok P f:=fun args w=>by
 have h1:fn.name≠ "runtime.NumGoroutine" :=by simpa using hname
 simp[callFunc,hf,h1,hb]
structure Pure (P:Program)(f:FuncId)(args:List AV)(r:AV):Prop where
 ent:zok P f
 lo:Lo 0 r
 call: ∀ (G:Cx) (vargs:Array Value),StT G.St G.w→vargs.size=args.length→(∀ (j:Nat) v x,vargs[j]?=some v→args[j]?=some x→Rep G v x)→
  Calls P f vargs G.w fun e w'=> ∃v G',e= .returned v∧G'.w=w'∧Below G.w.heap.size G.w w'∧(∀b o,G.St b o→G'.St b o)∧(∀b o,G'.St b o→G.St b o∨G.w.heap.size≤b)∧(∀b o,G'.St b o→b<w'.heap.size)∧Rep G' v r
def Flat (r:AV):Prop:= ∀ (G G':Cx) (v:Value),Rep G v r→Rep G' v r
theorem Flat.s (v:Value):Flat (.s v):=fun G G' u h=>by cases h;exact .s _
theorem Flat.agg {cs:List AV}(h: ∀c∈cs,Flat c):Flat (.agg cs):=fun G G' u hu=>by
 cases hu with
 |agg vs _ hl h1 hr=>exact .agg vs cs hl h1 (fun j v c hv hc=>h c (List.mem_of_getElem? hc) G G' v (hr j v c hv hc))
theorem Flat.tup {cs:List AV}(h: ∀c∈cs,Flat c):Flat (.tup cs):=fun G G' u hu=>by
 cases hu with
 |tup vs _ hl hr=>exact .tup vs cs hl (fun j v c hv hc=>h c (List.mem_of_getElem? hc) G G' v (hr j v c hv hc))
inductive Fini (σ:List Ob):AV→AV→Prop
 |refl (x:AV):Fini σ x x
 |own (id sz n:Nat) (ob:Ob) (cs:List AV) (hs:σ[id]?=some ob) (ho:ze6 ob=some (sz,cs)) (hn:n=cs.length):Fini σ (.own id sz n) (.sl cs)
 |ptr (id sz k:Nat) (ob:Ob) (cs:List AV) (e:AV) (hs:σ[id]?=some ob) (ho:ze6 ob=some (sz,cs)) (he:cs[k]?=some e):Fini σ (.ptr id sz k 0) (.ref e.cells)
 |emp:Fini σ .emp (.sl [])
 |nil:Fini σ (.s (.slice none 0 0)) (.sl [])
 |agg (cs cs':List AV) (hl:cs.length=cs'.length) (h: ∀ (j:Nat) x y,cs[j]?=some x→cs'[j]?=some y→Fini σ x y):Fini σ (.agg cs) (.agg cs')
 |tup (cs cs':List AV) (hl:cs.length=cs'.length) (h: ∀ (j:Nat) x y,cs[j]?=some x→cs'[j]?=some y→Fini σ x y):Fini σ (.tup cs) (.tup cs')
def zeq (σ:List Ob)(l l':List AV):Prop:=l.length=l'.length∧ ∀ (j:Nat) x y,l[j]?=some x→l'[j]?=some y→Fini σ x y
theorem zeq.nil {σ:List Ob}:zeq σ [] []:=⟨rfl,by simp⟩
theorem zeq.cons {σ:List Ob}{x y:AV}{l l':List AV}(h:Fini σ x y)(t:zeq σ l l'):zeq σ (x::l) (y::l'):=by
 refine⟨by simp[t.1],fun j a b ha hb=>?_⟩
 cases j with
 |zero=>simp at ha hb;subst ha hb;exact h
 |succ j=>exact t.2 j a b (by simpa using ha) (by simpa using hb)
theorem zeq.refl {σ:List Ob}(l:List AV):zeq σ l l:=⟨rfl,fun j x y hx hy=>by rw[hx] at hy;cases hy;exact .refl _⟩
theorem Fini.one {σ:List Ob}{x y:AV}(h:Fini σ x y)(hx:x.one=true):y.one=true:=by
 cases h<;>first|exact hx|rfl|(simp[AV.one] at hx)
def Cx.all (G:Cx)(B:Nat):Cx:={G with St:=fun b o=>G.St b o∨(B≤b∧b<G.w.heap.size)}
theorem zt1 {G:Cx}{σ:List Ob}{B:Nat}(hr:Rel G σ)(hB:B≤G.base){x y:AV}(h:Fini σ x y): ∀ {v:Value},Rep G v x→Rep (G.all B) v y:=by
 have up: ∀ {v:Value} {x:AV},Rep G v x→Rep (G.all B) v x:=fun {v x} h=>by
  have e:Rep {G with St:=(G.all B).St} v x:=by
   induction h with
   |any v=>exact .any v
   |s v=>exact .s v
   |agg vs cs hl h1 _ ih=>exact .agg vs cs hl h1 ih
   |emp A hA=>exact .emp A hA
   |slnil A cap=>exact .slnil A cap
   |sl b o cap sz l val hc hm h1 h2 _ ih=>exact .sl b o cap sz l val hc hm h1 (fun k x j c hk hj=>⟨.inl (h2 k x j c hk hj).1,(h2 k x j c hk hj).2⟩) ih
   |ref b o cs val h1 h2 _ ih=>exact .ref b o cs val h1 (fun j c hj=>⟨.inl (h2 j c hj).1,(h2 j c hj).2⟩) ih
   |own0 id sz A hA hm=>exact .own0 id sz A hA hm
   |own id sz n b cap hm hn hc hb=>exact .own id sz n b cap hm hn hc hb
   |ptr id sz k j b hm=>exact .ptr id sz k j b hm
   |fn f vs cs hl _ ih=>exact .fn f vs cs hl ih
   |tup vs l hl _ ih=>exact .tup vs l hl ih
   |mp id b hm=>exact .mp id b hm
   |sub id sz o n b cap A hm hA hc=>exact .sub id sz o n b cap A hm hA hc
   |ifc t v x _ ih=>exact .ifc t v x ih
   |opq v h=>exact .opq v h
  exact e
 induction h with
 |refl x=>exact up
 |emp=>exact fun hv=>up (zyz hv)
 |nil=>exact fun hv=>up (zyy hv)
 | own id sz n ob cs hs ho hn=>
  intro v hv
  have h0:=hr.obs id ob hs
  cases hv with
  |own0 _ _ A hA hm=>
   have hcs:cs=[]:=List.eq_nil_of_length_eq_zero xa
   subst hcs
   exact up (zyz (.emp A hA))
  | own _ _ _ b cap hm hn2 hc hb=>
   subst hn
   have hbl:B≤b∨(∀ (k:Nat) e (j:Nat),cs[k]?=some e→j<e.cells.length→G.St b (k*sz+j)):=by
    cases ob with
    |dead=>cases ho
    |mp X=>cases ho
    |row sz' cs'=>simp only[ObOk,hm] at h0;exact .inl (Nat.le_trans hB h0.2.1)
    |fz sz' cs'=>
     simp only[ze6,Option.some.injEq,Prod.mk.injEq] at ho
     obtain⟨rfl,rfl⟩:=ho
     simp only[ObOk,hm] at h0
     exact .inr h0.2
   have hsz:b<G.w.heap.size:=by
    obtain⟨cur,e,f,h1,_⟩:=hb
    exact(Array.getElem?_eq_some_iff.1 h1).1
   have key: ∀ (k:Nat) e,cs[k]?=some e→ ∃f:Nat→Value,e.cells.length=sz∧(∀c∈e.cells,c.one=true)∧ ∀ (j:Nat) c,e.cells[j]?=some c→G.w.cell? ⟨b,k*sz+j,none⟩=some (f j)∧Rep G (f j) c:=fun k e he=>zfp hr hs ho hm he
   refine .sl b 0 cap sz cs (fun k j=>(G.w.cell? ⟨b,k*sz+j,none⟩).getD undef) hn2 (Nat.le_trans hn2 hc) (fun k e he=>?_) (fun k e j c he hc=>?_) (fun k e j c he hc=>?_)
   ·
    obtain⟨f,h1,h2,_⟩:=key k e he;exact⟨h1,h2⟩
   ·
    obtain⟨f,h1,h2,h3⟩:=key k e he
    rw[Nat.zero_add]
    refine⟨?_,?_⟩
    ·
     rcases hbl with h|h
     ·
      exact .inr ⟨h,hsz⟩
     ·
      exact .inl (h k e j he (List.getElem?_eq_some_iff.1 hc).1)
    ·
     show G.w.cell? _=_
     rw[(h3 j c hc).1];rfl
   ·
    obtain⟨f,h1,h2,h3⟩:=key k e he
    rw[(h3 j c hc).1]
    exact up (h3 j c hc).2
 | ptr id sz k ob cs e hs ho he=>
  intro v hv
  have h0:=hr.obs id ob hs
  cases hv with
  | ptr _ _ _ _ b hm=>
   have hbl:B≤b∨(∀ (k:Nat) e (j:Nat),cs[k]?=some e→j<e.cells.length→G.St b (k*sz+j)):=by
    cases ob with
    |dead=>cases ho
    |mp X=>cases ho
    |row sz' cs'=>simp only[ObOk,hm] at h0;exact .inl (Nat.le_trans hB h0.2.1)
    |fz sz' cs'=>
     simp only[ze6,Option.some.injEq,Prod.mk.injEq] at ho
     obtain⟨rfl,rfl⟩:=ho
     simp only[ObOk,hm] at h0
     exact .inr h0.2
   obtain⟨f,h1,h2,h3⟩:=zfp hr hs ho hm he
   refine .ref b (k*sz+0) e.cells f h2 (fun j c hc=>?_) (fun j c hc=>up (h3 j c hc).2)
   refine⟨?_,(h3 j c hc).1⟩
   rcases hbl with h|h
   ·
    exact .inr ⟨h,World.block_lt_of_cell? _ _ (h3 j c hc).1⟩
   ·
    exact .inl (h k e j he (List.getElem?_eq_some_iff.1 hc).1)
 | agg cs cs' hl h ih=>
  intro v hv
  cases hv with
  | agg vs _ hs h1 hr2=>
   refine .agg vs cs' (hs.trans hl) (fun c hc=>?_) (fun j v y hv hy=>?_)
   ·
    obtain⟨j,hj,rfl⟩:=List.mem_iff_getElem.1 hc
    exact(h j cs[j] cs'[j] xm (by simp[hj])).one (h1 _ (List.getElem_mem _))
   ·
    have hj:j<cs.length:=by rw[hl];exact(List.getElem?_eq_some_iff.1 hy).1
    exact ih j _ y (List.getElem?_eq_getElem hj) hy (hr2 j v _ hv (List.getElem?_eq_getElem hj))
 | tup cs cs' hl h ih=>
  intro v hv
  cases hv with
  |tup vs _ hs hr2=>
   refine .tup vs cs' (hs.trans hl) (fun j v y hv hy=>?_)
   have hj:j<cs.length:=by rw[hl];exact(List.getElem?_eq_some_iff.1 hy).1
   exact ih j _ y (List.getElem?_eq_getElem hj) hy (hr2 j v _ hv (List.getElem?_eq_getElem hj))
inductive ResA (P:Program)(F:Frm)(σ:List Ob):ResultVar→AV→Prop
 |tmp (t:Tmp) (x:AV) (h:F.get t=x):ResA P F σ (.tmp t) x
 |cell (a:Tmp) (t:TypeId) (id sz k j:Nat) (ob:Ob) (cs:List AV) (e c:AV) (ha:zcw P t=some false) (hp:F.get a= .ptr id sz k j) (hs:σ[id]?=some ob) (ho:ze6 ob=some (sz,cs)) (he:cs[k]?=some e) (hc:e.cells[j]?=some c):ResA P F σ (.cell a t) c
 |cells (a:Tmp) (t:TypeId) (id sz k n bt:Nat) (z:Option Value) (ob:Ob) (cs:List AV) (e:AV) (ha:zcw P t=some true) (hi:za6 P t=some (z,n,bt)) (hp:F.get a= .ptr id sz k 0) (hs:σ[id]?=some ob) (ho:ze6 ob=some (sz,cs)) (he:cs[k]?=some e) (hn:e.cells.length=n):ResA P F σ (.cell a t) (.agg e.cells)
inductive ResL (P:Program)(F:Frm)(σ:List Ob):List ResultVar→List AV→Prop
 |nil:ResL P F σ [] []
 |cons (r:ResultVar) (x:AV) (rs:List ResultVar) (xs:List AV) (h:ResA P F σ r x) (t:ResL P F σ rs xs):ResL P F σ (r::rs) (x::xs)
def zqe:List AV→AV
 |[x]=>x
 |xs=> .tup xs
def zl6 (P:Program)(rs:List ResultVar)(r:AV):Exit→Frm→List Ob→Prop:=fun e F σ=>(e= .normal∨e= .ret)∧ ∃xs,ResL P F σ rs xs∧Fini σ (zqe xs) r
section
variable {P:Program}
def zrr (P:Program)(tmps:Array Value):ResultVar→Sem Value
 | .tmp t=>pure (tmps.getD t undef)
 | .cell a t=>do loadVar t (←asAddr (tmps.getD a undef))
theorem z29 {F:Frm}{σ:List Ob}{r:ResultVar}{x:AV}(h:ResA P F σ r x){G:Cx}{a:Act}(hr:Rel G σ)(hf:FOk G a F): ∃v,(zrr P a.tmps r).run P G.w= .ok v G.w∧Rep G v x:=by
 cases h with
 |tmp t _ h=>exact⟨a.tmps.getD t undef,rfl,by rw[←h];exact hf t⟩
 | cell ad t id sz k j ob cs e c ha hp hs ho he hc=>
  have h1:=hf ad
  rw[hp] at h1
  generalize hv:a.tmps.getD ad undef=v at h1
  cases h1 with
  |ptr _ _ _ _ b hm=>
   obtain⟨f,_,_,h2⟩:=zfp hr hs ho hm he
   obtain⟨h3,h4⟩:=h2 _ _ hc
   refine⟨f j,?_,h4⟩
   simp[zrr,hv,asAddr,loadVar,zfy ha,h3]
 | cells ad t id sz k n bt z ob cs e ha hi hp hs ho he hn=>
  have h1:=hf ad
  rw[hp] at h1
  generalize hv:a.tmps.getD ad undef=v at h1
  cases h1 with
  | ptr _ _ _ _ b hm=>
   obtain⟨f,g1,g2,h2⟩:=zfp hr hs ho hm he
   have h3:=run_loadCells (P:=P) G.w ⟨b,k*sz+0,none⟩ n f (fun j hj=>by rw[Addr.add_lit];exact(h2 j _ (List.getElem?_eq_getElem xa)).1)
   refine⟨.agg ((List.range n).map f).toArray,?_, .agg _ _ (by simp[hn]) g2 (fun j v c hv hc=>?_)⟩
   ·
    simp only[Nat.add_zero] at h3
    simp[zrr,hv,asAddr,loadVar,zfy ha,zb3 hi,h3]
   ·
    have hj:j<n:=by have:=(List.getElem?_eq_some_iff.1 hc).1;omega
    simp[hj] at hv
    subst hv
    exact(h2 j c hc).2
theorem z28 {F:Frm}{σ:List Ob}{G:Cx}{a:Act}(hr:Rel G σ)(hf:FOk G a F): ∀ {rs:List ResultVar} {xs:List AV},ResL P F σ rs xs→ ∃vs:List Value,(rs.mapM (zrr P a.tmps)).run P G.w= .ok vs G.w∧vs.length=xs.length∧ ∀ (j:Nat) v x,vs[j]?=some v→xs[j]?=some x→Rep G v x:=by
 intro rs xs h
 induction h with
 |nil=>exact⟨[],rfl,rfl,by simp⟩
 |cons r x rs xs h t ih=>
  obtain⟨v,h1,h2⟩:=z29 h hr hf
  obtain⟨vs,h3,h4,h5⟩:=ih
  refine⟨v::vs,by simp[List.mapM_cons,h1,h3],by simp[h4],fun j u y hu hy=>?_⟩
  cases j with
  |zero=>simp at hu hy;subst hu hy;exact h2
  |succ j=>exact h5 j u y (by simpa using hu) (by simpa using hy)
theorem zhc {fn:Func}{F:Frm}{σ:List Ob}{xs:List AV}{G:Cx}{a:Act}(hr:Rel G σ)(hf:FOk G a F)(h:ResL P F σ fn.results.toList xs): ∃v,(results fn a.tmps).run P G.w= .ok v G.w∧Rep G v (zqe xs):=by
 obtain⟨vs,h1,h2,h3⟩:=z28 hr hf h
 have h4:(results fn a.tmps).run P G.w= .ok (if h:vs.toArray.size=1 then vs.toArray[0] else .tuple vs.toArray) G.w:=by
  have h0:results fn a.tmps=(do
   let vs ←fn.results.mapM (zrr P a.tmps)
   pure (if h:vs.size=1 then vs[0] else .tuple vs)):=rfl
  rw[h0,Array.mapM_eq_mapM_toList]
  simp[h1]
 refine⟨_,h4,?_⟩
 match xs,vs,h2,h3 with
 |[x],[v],_,h3=>simpa[zqe] using h3 0 v x rfl rfl
 |[],[],_,h3=>simpa[zqe] using Rep.tup (G:=G) #[] [] rfl xm
 |x::y::xs,u::v::vs,h2,h3=>
  have: ¬ ((u::v::vs).toArray.size=1):=by simp
  rw[dif_neg this]
  exact .tup _ _ (by simpa using h2) (fun j a b ha hb=>h3 j a b (by simpa using ha) hb)
def argF:Nat→List AV→Frm
 |_,[]=>[]
 |k,x::l=>(k,x)::argF (k+1) l
theorem zku: ∀ (l:List AV) (k d:Nat),(argF k l).get d=if k≤d then l.getD (d-k) .any else .any
 |[],k,d=>by simp[argF,Frm.get]
 | x::l,k,d=>by
  simp only[argF,Frm.get]
  cases e:Nat.beq k d with
  |true=>have:=Nat.eq_of_beq_eq_true e;subst this;simp
  | false=>
   have hne:k≠d:=fun h=>by subst h;simp at e
   simp only[cond_false,zku l (k+1) d]
   by_cases h:k+1≤d
   ·
    rw[if_pos h,if_pos xa]
    obtain⟨m,hm⟩: ∃m,d-k=m+1:=⟨d-k-1,by omega⟩
    rw[hm,show d-(k+1)=m by omega]
    simp
   ·
    rw[if_neg h,if_neg xa]
theorem zd1 {f:FuncId}{fn:Func}{c:Code}{N:Nat}{args:List AV}{F0:Frm}{rs:List ResultVar}{r:AV}(hf:P.funcs[f]?=some fn)(hname:(fn.name== "runtime.NumGoroutine")=false)(hb:fn.body=some c)(hN:fn.ntmps=N)(hres:fn.results.toList=rs)(hn:Nat.ble args.length N=true)
  (hl: ∀x∈args,Lo 0 x) (hr:Lo 0 r) (hF0:argF 0 args=F0) (h:AWp P N c F0 [] (zl6 P rs r)):Pure P f args r:=by
 subst hF0
 refine⟨zkk hf hname hb,hr,fun G vargs hst hsz hrep=>?_⟩
 have hn:=Nat.le_of_ble_eq_true hn
 refine calls_of_wp hf hb ?_
 let G0:Cx:={base:=G.w.heap.size,w0:=G.w,w:=G.w,mu:=fun _=>none,St:=G.St}
 have hrel:Rel G0 []:=⟨⟨Below.refl _ _,hst.tab,hst.tab.lt⟩,Nat.le_refl _,fun b o h=>h.elim (hst.st b o) False.elim,by simp,by rintro i j b ⟨_,_,h⟩;simp at h,fun _ _=>rfl⟩
 have hfo:FOk G0 {tmps:=vargs++Array.replicate (fn.ntmps-vargs.size) undef,defers:=[]} (argF 0 args):=by
  intro d
  rw[zku]
  simp only[Nat.zero_le,if_true,Nat.sub_zero]
  by_cases hd:d<args.length
  ·
   have h1:(vargs++Array.replicate (fn.ntmps-vargs.size) undef).getD d undef=vargs[d]'(by omega):=by
    rw[Array.getD_eq_getD_getElem?,Array.getElem?_append_left xa]
    simp[show d<vargs.size by omega]
   rw[h1]
   have h2:args.getD d .any=args[d]:=by simp[List.getD,hd]
   rw[h2]
   exact(hrep d _ _ (by simp[show d<vargs.size by omega]) (by simp[hd])).low (hl _ (List.getElem_mem hd)) (fun _ _ h=>h) (fun _ _ _=>rfl) (fun id y h=>by omega) (fun h=>by omega)
  ·
   have h2:args.getD d .any= .any:=by simp[List.getD,hd]
   rw[h2];exact .any _
 have hs8:S8 N G0 {tmps:=vargs++Array.replicate (fn.ntmps-vargs.size) undef,defers:=[]} (argF 0 args) []:=⟨hrel,hfo, .nil,by simp[hN];omega⟩
 refine Code.wp_mono (fun e a w q=>?_) (h G0 _ hs8)
 obtain⟨G',F',σ',rfl,h2,h3,he,xs,h4,h5⟩:=q
 obtain⟨v,h6,h7⟩:=zhc (fn:=fn) h3.rel h3.fr (by rw[hres];exact h4)
 have hbase:G'.base=G.w.heap.size:=h2.base
 have hbel:Below G.w.heap.size G.w G'.w:=by have:=h3.rel.below;rw[hbase,h2.w0] at this;exact this.toBelow
 have hfin:=zt1 (B:=G.w.heap.size) h3.rel xa h5 h7
 have post: ∃v' G'',Ending.returned v= .returned v'∧G''.w=G'.w∧Below G.w.heap.size G.w G'.w∧(∀b o,G.St b o→G''.St b o)∧(∀b o,G''.St b o→G.St b o∨G.w.heap.size≤b)∧(∀b o,G''.St b o→b<G'.w.heap.size)∧Rep G'' v' r:=by
  refine⟨v,G'.all G.w.heap.size,rfl,rfl,hbel,fun b o h=> .inl (h2.st b o h),fun b o h=>?_,fun b o h=>?_,hfin⟩
  ·
   rcases h with h|h
   ·
    exact h2.stN b o h
   ·
    exact .inr h.1
  ·
   rcases h with h|h
   ·
    exact h3.rel.st b o (.inl h)
   ·
    exact h.2
 rcases he with rfl|rfl
 ·
  exact⟨h3.df.1,v,h6,post⟩
 ·
  exact⟨h3.df.1,v,h6,post⟩
theorem ziw {G:Cx}{σ:List Ob}{G1:Cx}{w':World}(hr:Rel G σ)(hw:G1.w=w')(hbel:Below G.w.heap.size G.w w')(hs1: ∀b o,G.St b o→G1.St b o)(hs2: ∀b o,G1.St b o→G.St b o∨G.w.heap.size≤b)(hs3: ∀b o,G1.St b o→b<w'.heap.size):
  G.Ext {G with w:=w',St:=G1.St}∧Rel {G with w:=w',St:=G1.St} σ:=by
 have hble:G.base≤G.w.heap.size:=by have h1:=hr.le;have h2:=hr.below.size;omega
 have hext:G.Ext {G with w:=w',St:=G1.St}:=⟨rfl,rfl,hs1,fun b o h=>hbel.cell (hr.st b o h),fun _ _ h=>h,hbel.size,fun b cur e f h=>⟨cur,(hbel.block b (Array.getElem?_eq_some_iff.1 h).1).trans h,rfl⟩,fun b o h=>(hs2 b o h).imp (fun h=>h) (fun h=>by omega),rfl,fun b o h=>(hs2 b o h).imp (fun h=>h) (fun h h2=>by have:=hr.st b o (.inr h2);omega),fun k o h _=>(hbel.block k (Array.getElem?_eq_some_iff.1 h).1).trans h⟩
 refine⟨hext,hr.below.trans (hbel.mono hble),hr.le,fun b o h=>h.elim (hs3 b o) (fun h=>Nat.lt_of_lt_of_le (hr.st b o (.inr h)) hbel.size),fun id ob hob=>?_,hr.inj,hr.fresh⟩
 have h1:=hr.obs id ob hob
 have rowx: ∀b sz cs f,zev G b sz cs f→zev {G with w:=w',St:=G1.St} b sz cs f:=by
  rintro b sz cs f ⟨cur,t,fr,h2,h3,h4,h5⟩
  refine⟨cur,t,fr,(hbel.block b (Array.getElem?_eq_some_iff.1 h2).1).trans h2,h3,h4,fun k x hx=>⟨(h5 k x hx).1,(h5 k x hx).2.1,fun j c hc=>?_⟩⟩
  obtain⟨v,h6,h7⟩:=(h5 k x hx).2.2 j c hc
  exact⟨v,h6,h7.ext hext⟩
 cases ob with
 |dead=>exact fun b hb=>Nat.lt_of_lt_of_le (h1 b hb) hbel.size
 | row sz cs=>
  simp only[ObOk] at h1⊢
  cases hx:G.mu id with
  |none=>rw[hx] at h1;exact h1
  | some x=>
   rw[hx] at h1
   cases x with
   |none=>exact h1
   | some b=>
    refine⟨rowx _ _ _ _ h1.1,h1.2.1,fun o ho=>?_⟩
    obtain⟨⟨cur,t,fr,h2,_⟩,_,h3⟩:=h1
    have:=(Array.getElem?_eq_some_iff.1 h2).1
    rcases ho with ho|ho
    ·
     rcases hs2 b o ho with h|h
     ·
      exact h3 o (.inl h)
     ·
      omega
    ·
     exact h3 o (.inr ho)
 | fz sz cs=>
  simp only[ObOk] at h1⊢
  cases hx:G.mu id with
  |none=>rw[hx] at h1;exact h1
  |some x=>
   rw[hx] at h1
   cases x with
   |none=>exact h1
   |some b=>exact⟨rowx _ _ _ _ h1.1,fun k e j he hj=>hs1 _ _ (h1.2 k e j he hj)⟩
 | mp X=>
  obtain⟨b,g1,g2,g3,g4,g5⟩:=h1
  exact⟨b,g1,g2.keep (hbel.block b g2.lt),g3,fun o ho=>by
   rcases ho with ho|ho
   ·
    rcases hs2 b o ho with h|h
    ·
     exact g4 o (.inl h)
    ·
     have:=g2.lt
     omega
   ·
    exact g4 o (.inr ho),g5⟩
section
variable {o:Oper}{F:Frm}{σ:List Ob}
theorem zli {f:FuncId}{cap:Array Value}{fo:Operand}{ar:Array Operand}{ts:Array TypeId}(ho:o.op= .call {callee:= .value fo,args:=ar,argTypes:=ts})(ρ:Operand→Value)(hv:ρ fo= .func (.func f) #[] cap)(he:zok P f)(w:World):
  (execOp ρ o).run P w= .ok (.enter f (ar.map ρ++cap)) w:=by
 simp[execOp,ho,resolve,Deferred.ofValue,hv,invoke,he _ w]
theorem zoe {G:Cx}{ρ:Operand→Value}{fo:Operand}{ar:Array Operand}{ts:Array TypeId}{f:FuncId}{caps:List AV}(ho:o.op= .call {callee:= .value fo,args:=ar,argTypes:=ts})(hop: ∀y∈o.op.operands,Rep G (ρ y) (F.eval y))(hf:F.eval fo= .fn f caps):
  ∃cap:Array Value,ρ fo= .func (.func f) #[] cap∧(ar.map ρ++cap).size=(ar.toList.map F.eval++caps).length∧ ∀ (j:Nat) v x,(ar.map ρ++cap)[j]?=some v→(ar.toList.map F.eval++caps)[j]?=some x→Rep G v x:=by
 have h1:=hop fo (by simp[ho,Op.operands,Call.operands])
 rw[hf] at h1
 generalize hv:ρ fo=u at h1
 cases h1 with
 | fn _ vs _ hl h=>
  refine⟨vs,rfl,by simp[hl],fun j v x hj hx=>?_⟩
  by_cases hlt:j<ar.size
  ·
   rw[Array.getElem?_append_left (by simpa using hlt)] at hj
   rw[List.getElem?_append_left (by simpa using hlt)] at hx
   simp[hlt] at hj hx
   subst hj hx
   exact hop ar[j] (by simp[ho,Op.operands,Call.operands])
  ·
   rw[Array.getElem?_append_right (by simp;omega)] at hj
   rw[List.getElem?_append_right (by simp;omega)] at hx
   simp only[Array.size_map,List.length_map,Array.length_toList] at hj hx
   exact h _ v x hj hx
theorem zai {fo:Operand}{ar:Array Operand}{ts:Array TypeId}{f:FuncId}{caps args:List AV}{r:AV}(ho:o.op= .call {callee:= .value fo,args:=ar,argTypes:=ts})(hf:F.eval fo= .fn f caps)(hp:Pure P f args r)(ha:ar.toList.map F.eval++caps=args):Does P o F σ r σ:=by
 intro G a next Q hr hop hn
 obtain⟨cap,h1,h2,h3⟩:=zoe ho hop hf
 rw[ha] at h2 h3
 unfold Oper.wp
 rw[zli ho a.eval h1 hp.ent G.w,Oper.upon_enter]
 refine(hp.call G _ ⟨fun b o h=>hr.st b o (.inl h),hr.below.now⟩ h2 h3).mono ?_
 rintro e w' ⟨v,G1,rfl,hw,hbel,hs1,hs2,hs3,hrep⟩
 obtain⟨h4,h5⟩:=ziw hr hw hbel hs1 hs2 hs3
 subst hw
 exact hn v {G with w:=G1.w,St:=G1.St} h4 h5 (hrep.low hp.lo (fun _ _ h=>h) (fun _ _ _=>rfl) (fun id y h=>by omega) (fun h=>by omega))
end
end
end Aw
namespace Aw
open Go.RowKit
variable [Mk]
def z5y (acc:List Nat)(o:Oper):Nat:=o.after.toList.foldl (fun s e=>bif Region.binds .any e then(s|||2 ^ e.on)|||acc.getD e.on 0 else s) 0
def zdr:List Oper→List Nat→List Nat
 |[],acc=>acc
 |o::l,acc=>zdr l (acc++[z5y acc o])
def zhk (ops:Array Oper)(x y:Oper):Bool:=
 (match x.dst with|some d=>(y.looksAt ops).contains d||y.dst==some d|none=>false)||
 (match y.dst with|some d=>(x.looksAt ops).contains d|none=>false)
def qOk (l:List Oper):Bool:=
 let m:=zdr l []
 (List.range l.length).all fun j=>match l[j]? with
  |none=>true
  |some oj=>(oj.after.toList.all fun e=>!Region.binds .any e||Nat.blt e.on j) && (List.range j).all fun i=>match l[i]? with
   |none=>true
   |some oi=>!zhk l.toArray oi oj||(m.getD j 0).testBit i
theorem zpg {acc:List Nat}{i:Nat}: ∀ (es:List Edge) (s:Nat),(es.foldl (fun s e=>bif Region.binds .any e then(s|||2 ^ e.on)|||acc.getD e.on 0 else s) s).testBit i=true→s.testBit i=true∨ ∃e∈es,Region.binds .any e=true∧(e.on=i∨(acc.getD e.on 0).testBit i=true)
 |[],s,h=> .inl h
 | e ::es,s,h=>by
  rw[List.foldl_cons] at h
  rcases zpg es _ h with h1|⟨e',h1,h2⟩
  ·
   cases hb:Region.binds .any e with
   |false=>rw[hb] at h1;exact .inl h1
   | true=>
    rw[hb] at h1
    simp only[cond_true,Nat.testBit_or,Bool.or_eq_true] at h1
    rcases h1 with (h1|h1)|h1
    ·
     exact .inl h1
    ·
     refine .inr ⟨e,by simp,hb, .inl ?_⟩
     rw[Nat.testBit_two_pow] at h1
     simpa using h1
    ·
     exact .inr ⟨e,by simp,hb, .inr h1⟩
  ·
   exact .inr ⟨e',by simp[h1],h2⟩
def zg4 (l:List Oper)(D:Nat→Prop):Prop:= ∀ (j:Nat) o,l[j]?=some o→D j→ ∀e∈o.after.toList,Region.binds .any e=true→D e.on
theorem zf1 {all:List Oper}{D:Nat→Prop}(hD:zg4 all D): ∀ (l:List Oper) (acc:List Nat),(∀j o,l[j]?=some o→all[acc.length+j]?=some o)→(∀ (j i:Nat),j<acc.length→(acc.getD j 0).testBit i=true→D j→D i)→
  ∀ (j i:Nat),((zdr l acc).getD j 0).testBit i=true→D j→D i
 | [],acc,_,h,j,i,hb,hj=>by
  by_cases hlt:j<acc.length
  ·
   exact h j i hlt hb hj
  ·
   simp[zdr,List.getD,hlt] at hb
 | o ::l,acc,hall,h,j,i,hb,hj=>by
  refine zf1 hD l (acc++[z5y acc o]) (fun j o' ho'=>?_) (fun j i hlt hb hj=>?_) j i hb hj
  ·
   have:=hall (j+1) o' (by simpa using ho')
   rw[←this]
   congr 1
   simp;omega
  ·
   simp only[List.length_append,List.length_singleton] at hlt
   by_cases hlt2:j<acc.length
   ·
    rw[List.getD_eq_getElem?_getD,List.getElem?_append_left hlt2, ←List.getD_eq_getElem?_getD] at hb
    exact h j i hlt2 hb hj
   ·
    have hje:j=acc.length:=by omega
    subst hje
    rw[List.getD_eq_getElem?_getD,List.getElem?_append_right (Nat.le_refl _)] at hb
    simp at hb
    rcases zpg _ _ hb with h1|⟨e,h1,h2,h3⟩
    ·
     simp at h1
    ·
     have hoe:=hD acc.length o (by simpa using hall 0 o J) hj e h1 h2
     rcases h3 with rfl|h3
     ·
      exact hoe
     ·
      by_cases hlt3:e.on<acc.length
      ·
       exact h e.on i hlt3 h3 hoe
      ·
       simp[List.getD,hlt3] at h3
def fr (sel:Nat→Bool):Nat→List (Nat × AV)→Frm→Frm
 |_,[],F=>F
 |k,p::out,F=>fr sel (k+1) out (bif sel k then p::F else F)
theorem zec {sel sel':Nat→Bool}{t:Nat}: ∀ (out:List (Nat × AV)) (k:Nat) (F F':Frm),F.get t=F'.get t→(∀ (j:Nat) p,out[j]?=some p→p.1=t→sel (k+j)=sel' (k+j))→(fr sel k out F).get t=(fr sel' k out F').get t
 |[],k,F,F',h,_=>h
 | p::out,k,F,F',h,hs=>by
  refine zec out (k+1) _ _ ?_ (fun j q hq he=>by have:=hs (j+1) q (by simpa using hq) he;rwa [show k+(j+1)=k+1+j by omega] at this)
  by_cases hp:p.1=t
  ·
   have h1:=hs 0 p J hp
   simp only[Nat.add_zero] at h1
   rw[h1]
   obtain⟨d,x⟩:=p
   cases sel' k with
   |true=>simp only[cond_true,Frm.get,h]
   |false=>exact h
  ·
   have hb: ∀ (F:Frm),Frm.get (p::F) t=F.get t:=fun F=>by
    obtain⟨d,x⟩:=p
    simp only[Frm.get]
    cases e:Nat.beq d t with
    |true=>exact absurd (Nat.eq_of_beq_eq_true e) hp
    |false=>rfl
   cases sel k<;>cases sel' k<;>simp[hb,h]
theorem znr {sel:Nat→Bool}{t:Nat}{x:AV}: ∀ (out:List (Nat × AV)) (k:Nat) (F:Frm) (i:Nat),out[i]?=some (t,x)→sel (k+i)=true→(∀ (j:Nat) p,out[j]?=some p→i<j→sel (k+j)=true→p.1≠t)→(fr sel k out F).get t=x
 |[],_,_,i,h,_,_=>by simp at h
 | p::out,k,F,0,h,hs,hn=>by
  simp at h
  subst h
  have h1:(fr sel (k+1) out ((t,x)::F)).get t=(fr (fun _=>false) (k+1) out ((t,x)::F)).get t:=zec out (k+1) _ _ J (fun j q hq he=>by
   cases hc:sel (k+1+j) with
   |false=>rfl
   |true=>exact absurd he (hn (j+1) q (by simpa using hq) xa (by rw[show k+(j+1)=k+1+j by omega];exact hc)))
  have h2: ∀ (out:List (Nat × AV)) (k:Nat) (F:Frm),fr (fun _=>false) k out F=F:=by
   intro out
   induction out with
   |nil=>intro k F;rfl
   |cons p out ih=>intro k F;simp[fr,ih]
  simp only[Nat.add_zero] at hs
  simp only[fr,hs,cond_true]
  rw[h1,h2]
  simp[Frm.get]
 |p::out,k,F,i+1,h,hs,hn=>by
  simp only[fr]
  exact znr out (k+1) _ i (by simpa using h) (by rwa [show k+1+i=k+(i+1) by omega]) (fun j q hq hij hc=>hn (j+1) q (by simpa using hq) xa (by rwa [show k+(j+1)=k+1+j by omega]))
theorem zi4: ∀ (out:List (Nat × AV)) (k i:Nat) (F:Frm),fr (fun j=>decide (j<k+i)) k out F=(out.take i).reverse++F
 |[],k,i,F=>by simp[fr]
 | p::out,k,0,F=>by
  have h:=zi4 out (k+1) 0 F
  have h2: ∀ (out:List (Nat × AV)) (k':Nat) (F:Frm),k≤k'→fr (fun j=>decide (j<k+0)) k' out F=F:=by
   intro out
   induction out with
   |nil=>intro k' F _;rfl
   |cons p out ih=>
    intro k' F hk
    have:decide (k'<k+0)=false:=by simp;omega
    simp only[fr,this,cond_false]
    exact ih _ _ xa
  simpa using h2 (p::out) k F (Nat.le_refl _)
 |p::out,k,i+1,F=>by
  have h:=zi4 out (k+1) i (p::F)
  have:decide (k<k+(i+1))=true:=by simp
  simp only[fr,this,cond_true]
  rw[show(fun j=>decide (j<k+(i+1)))=(fun j=>decide (j<k+1+i)) by funext j;congr 1;simp;omega,h]
  simp
inductive QSteps (P:Program)(N:Nat)(ops:Array Oper)(σ:List Ob):List Oper→Frm→Frm→List (Nat × AV)→Prop
 |nil (F:Frm):QSteps P N ops σ [] F F []
 |run (o:Oper) (l:List Oper) (F F':Frm) (x:AV) (out:List (Nat × AV)) (d:Nat) (hd:o.dst=some d) (hN:Nat.blt d N=true) (hr:Runs ops F o true) (hD:Does P o F σ x σ) (h:QSteps P N ops σ l ((d,x)::F) F' out):QSteps P N ops σ (o::l) F F' ((d,x)::out)
 |skip (o:Oper) (l:List Oper) (F F':Frm) (out:List (Nat × AV)) (d:Nat) (hd:o.dst=some d) (hN:Nat.blt d N=true) (hr:Runs ops F o false) (h:QSteps P N ops σ l ((d, .s undef)::F) F' out):QSteps P N ops σ (o::l) F F' ((d, .s undef)::out)
theorem zzg {P:Program}{N:Nat}{ops:Array Oper}{σ:List Ob}: ∀ {l:List Oper} {F F':Frm} {out:List (Nat × AV)},QSteps P N ops σ l F F' out→l.length=out.length∧F'=out.reverse++F∧
  ∀ (i:Nat) o,l[i]?=some o→ ∃d x,out[i]?=some (d,x)∧o.dst=some d∧d<N∧((Runs ops ((out.take i).reverse++F) o true∧Does P o ((out.take i).reverse++F) σ x σ)∨(Runs ops ((out.take i).reverse++F) o false∧x= .s undef)):=by
 intro l F F' out h
 induction h with
 |nil F=>exact⟨rfl,rfl,by simp⟩
 | run o l F F' x out d hd hN hr hD h ih=>
  obtain⟨h1,h2,h3⟩:=ih
  refine⟨by simp[h1],by simp[h2],fun i o' hi=>?_⟩
  cases i with
  |zero=>simp at hi;subst hi;exact⟨d,x,rfl,hd,by simpa[Nat.blt_eq] using hN, .inl ⟨by simpa using hr,by simpa using hD⟩⟩
  |succ i=>
   obtain⟨d',x',g1,g2,g3,g4⟩:=h3 i o' (by simpa using hi)
   exact⟨d',x',by simpa using g1,g2,g3,by simpa using g4⟩
 | skip o l F F' out d hd hN hr h ih=>
  obtain⟨h1,h2,h3⟩:=ih
  refine⟨by simp[h1],by simp[h2],fun i o' hi=>?_⟩
  cases i with
  |zero=>simp at hi;subst hi;exact⟨d, .s undef,rfl,hd,by simpa[Nat.blt_eq] using hN, .inr ⟨by simpa using hr,rfl⟩⟩
  |succ i=>
   obtain⟨d',x',g1,g2,g3,g4⟩:=h3 i o' (by simpa using hi)
   exact⟨d',x',by simpa using g1,g2,g3,by simpa using g4⟩
def left:List Bool→Nat
 |[]=>0
 |b::l=>(bif b then 0 else 1)+left l
theorem zir: ∀ (l:List Bool) (i:Nat),l[i]?=some false→left (l.set i true)+1=left l
 |[],i,h=>by simp at h
 |b::l,0,h=>by simp at h;subst h;simp[left];omega
 |b::l,i+1,h=>by have:=zir l i (by simpa using h);simp[left];omega
theorem zma {l:List Bool}: ∀ (i:Nat),l[i]?=some false→0<left l
 |i,h=>by have:=zir l i h;omega
theorem zpr {F F':Frm}{ops:Array Oper}{o:Oper}(h: ∀t∈o.looksAt ops,F.get t=F'.get t): ∀y∈o.op.operands,F.eval y=F'.eval y:=by
 intro y hy
 cases y with
 |tmp t=>exact h t (List.mem_append_left _ (List.mem_filterMap.2 ⟨.tmp t,by simpa using hy,rfl⟩))
 |_=>rfl
theorem Does.congr {P:Program}{F F':Frm}{ops:Array Oper}{o:Oper}{σ σ':List Ob}{x:AV}(h:Does P o F σ x σ')(he: ∀t∈o.looksAt ops,F.get t=F'.get t):Does P o F' σ x σ':=fun G a next Q hr hop hn=>
 h G a next Q hr (fun y hy=>by rw[zpr he y hy];exact hop y hy) hn
theorem Runs.congr {F F':Frm}{ops:Array Oper}{o:Oper}{b:Bool}(h:Runs ops F o b)(he: ∀t∈o.looksAt ops,F.get t=F'.get t):Runs ops F' o b:=by
 unfold Runs at h⊢
 cases hg:o.guard with
 |none=>rw[hg] at h;exact h
 |some jb=>
  obtain⟨j,want⟩:=jb
  rw[hg] at h
  obtain⟨t,h1,h2⟩:=h
  exact⟨t,h1,by rw[←he t (List.mem_append_right _ (by simp[hg,h1]))];exact h2⟩
def zx4 (P:Program)(N:Nat)(l:List Oper)(F:Frm)(σ:List Ob)(Q:Exit→Frm→List Ob→Prop):Prop:=
 ∀G a,S8 N G a F σ→wpAny P .any l.toArray (lift N G Q) l.length (Array.replicate l.length false) a G.w
theorem zes {ops:Array Oper}{x y:Oper}{d:Nat}:(x.dst=some d→d∈y.looksAt ops→zhk ops x y=true)∧(x.dst=some d→y.dst=some d→zhk ops x y=true)∧(y.dst=some d→d∈x.looksAt ops→zhk ops x y=true):=by
 refine⟨fun h1 h2=>?_,fun h1 h2=>?_,fun h1 h2=>?_⟩
 ·
  simp[zhk,h1,h2]
 ·
  simp[zhk,h1,h2]
 ·
  simp[zhk,h1,h2]
section
variable {P:Program}{N:Nat}{l:List Oper}{F F':Frm}{σ:List Ob}{out:List (Nat × AV)}{Q:Exit→Frm→List Ob→Prop}
theorem zzf (hq:qOk l=true)(hs:QSteps P N l.toArray σ l F F' out)(hQ:Q .normal F' σ)(G0:Cx):
  ∀ (fuel:Nat) (L:Array Bool) (G:Cx) (a:Act),G0.Step G→L.size=l.length→left L.toList=fuel→zg4 l (fun j=>L.getD j false=true)→S8 N G a (fr (fun j=>L.getD j false) 0 out F) σ→wpAny P .any l.toArray (lift N G0 Q) fuel L a G.w:=by
 obtain⟨hlen,hF',hat⟩:=zzg hs
 unfold qOk at hq
 have hq': ∀j oj,l[j]?=some oj→(∀e∈oj.after.toList,Region.binds .any e=true→e.on<j)∧ ∀i oi,i<j→l[i]?=some oi→zhk l.toArray oi oj=true→((zdr l []).getD j 0).testBit i=true:=by
  intro j oj hj
  have h1:=List.all_eq_true.1 hq j (by simpa using (List.getElem?_eq_some_iff.1 hj).1)
  rw[hj] at h1
  simp only[Bool.and_eq_true,List.all_eq_true] at h1
  refine⟨fun e he hb=>?_,fun i oi hij hi hc=>?_⟩
  ·
   have:=h1.1 e he
   rw[hb] at this
   simpa[Nat.blt_eq] using this
  ·
   have:=h1.2 i (by simpa using hij)
   rw[hi] at this
   simpa[hc] using this
 have hsound: ∀ (D:Nat→Prop),zg4 l D→ ∀j i,((zdr l []).getD j 0).testBit i=true→D j→D i:=fun D hD=>zf1 hD l [] (fun j o h=>by simpa using h) (fun j i h=>by simp at h)
 have hnone: ∀ (L:Array Bool),L.size=l.length→Region.ready .any l.toArray L=[]→ ∀j,j<l.length→L.getD j false=true:=by
  intro L hL hr j
  induction j using Nat.strongRecOn with
  | _ j ih=>
   intro hj
   cases hc:L.getD j false with
   |true=>rfl
   | false=>
    exfalso
    obtain⟨o,ho⟩: ∃o,l[j]?=some o:=⟨_,List.getElem?_eq_getElem hj⟩
    have hm:j∈Region.ready .any l.toArray L:=by
     refine mem_ready.2 ⟨?_,o,by simpa using ho,fun e he hb=>?_⟩
     ·
      have hlt:j<L.size:=by omega
      simp[Array.getD_eq_getD_getElem?,hlt] at hc⊢
      exact hc
     ·
      have hon:=(hq' j o ho).1 e (by simpa using he) hb
      exact ih e.on hon xa
    rw[hr] at hm
    cases hm
 -- when all have come up
 have hend: ∀ (L:Array Bool) (G:Cx) (a:Act),G0.Step G→L.size=l.length→Region.ready .any l.toArray L=[]→S8 N G a (fr (fun j=>L.getD j false) 0 out F) σ→lift N G0 Q .normal a G.w:=by
  intro L G a hst hL hr h8
  refine⟨G,F',σ,rfl,hst,⟨h8.rel,fun t=>?_,h8.df,h8.nt⟩,hQ⟩
  have h1:=h8.fr t
  have h2:(fr (fun j=>L.getD j false) 0 out F).get t=(fr (fun j=>decide (j<0+out.length)) 0 out F).get t:=zec out 0 F F J (fun j p hp _=>by
   have hj:j<out.length:=(List.getElem?_eq_some_iff.1 hp).1
   simp only[Nat.zero_add]
   rw[hnone L hL hr j xa]
   simp[hj])
  rw[h2,zi4,List.take_length, ←hF'] at h1
  exact h1
 intro fuel
 induction fuel with
 | zero=>
  intro L G a hst hL hlf hcl h8
  have hr:Region.ready .any l.toArray L=[]:=by
   rw[List.eq_nil_iff_forall_not_mem]
   intro i hi
   obtain⟨h1,o,ho,_⟩:=mem_ready.1 hi
   have hlt:i<L.size:=by rw[hL];simpa using (Array.getElem?_eq_some_iff.1 ho).1
   have:0<left L.toList:=zma i (by simp[Array.getD_eq_getD_getElem?,hlt] at h1⊢;exact h1)
   omega
  exact⟨hr,hend L G a hst hL hr h8⟩
 | succ fuel ih=>
  intro L G a hst hL hlf hcl h8
  refine⟨fun hr=>hend L G a hst hL hr h8,fun i hi=>?_⟩
  obtain⟨h1,o,ho,hall⟩:=mem_ready.1 hi
  have hli:l[i]?=some o:=by simpa using ho
  have hlt:i<L.size:=by rw[hL];exact(List.getElem?_eq_some_iff.1 hli).1
  have hfalse:L.getD i false=false:=by simp[Array.getD_eq_getD_getElem?,hlt] at h1⊢;exact h1
  obtain⟨d,x,g1,g2,g3,g4⟩:=hat i o hli
  -- the others that touch its slots: those before it have come up, those behind it have not
  have hcl':zg4 l (fun j=>j=i∨L.getD j false=true):=by
   intro j oj hj hD e he hb
   rcases hD with rfl|hD
   ·
    rw[hli] at hj;cases hj
    exact .inr (hall e (by simpa using he) hb)
   ·
    exact .inr (hcl j oj hj hD e he hb)
  have hord: ∀j oj,l[j]?=some oj→j≠i→(j<i→zhk l.toArray oj o=true→L.getD j false=true)∧(i<j→zhk l.toArray o oj=true→L.getD j false=false):=by
   intro j oj hj hne
   refine⟨fun hji hc=>?_,fun hij hc=>?_⟩
   ·
    rcases hsound _ hcl' i j ((hq' i o hli).2 j oj hji hj hc) (.inl rfl) with h|h
    ·
     exact absurd h hne
    ·
     exact h
   ·
    cases hx:L.getD j false with
    |false=>rfl
    |true=>
     have:=hsound _ hcl j i ((hq' j oj hj).2 i o hij hli hc) hx
     rw[hfalse] at this
     cases this
  have hsel: ∀t,t∈o.looksAt l.toArray→Frm.get ((out.take i).reverse++F) t=(fr (fun j=>L.getD j false) 0 out F).get t:=by
   intro t ht
   rw[←zi4 out 0 i F]
   refine(zec out 0 F F J (fun j p hp hpt=>?_)).symm
   simp only[Nat.zero_add]
   have hj:j<l.length:=by rw[hlen];exact(List.getElem?_eq_some_iff.1 hp).1
   obtain⟨d',x',k1,k2,_,_⟩:=hat j _ (List.getElem?_eq_getElem hj)
   rw[k1] at hp
   cases hp
   dsimp only at hpt
   subst hpt
   by_cases hji:j=i
   ·
    subst hji;rw[hfalse];simp
   ·
    rcases Nat.lt_or_gt_of_ne hji with h|h
    ·
     rw[(hord j _ (List.getElem?_eq_getElem hj) hji).1 h (zes.1 k2 ht)];simp[h]
    ·
     rw[(hord j _ (List.getElem?_eq_getElem hj) hji).2 h (zes.2.2 k2 ht)];simp;omega
  -- what is known behind it
  have hnext: ∀ (G':Cx) (v:Value),G.Ext G'→Rel G' σ→Rep G' v x→wpAny P .any l.toArray (lift N G0 Q) fuel (L.setIfInBounds i true) (a.put (some d) v) G'.w:=by
   intro G' v he hr' hv
   refine ih _ G' _ (hst.trans he.step) (by simpa using hL) ?_ ?_ ⟨hr',fun t=>?_,h8.df.step he.step,by simp[Act.put,h8.nt]⟩
   ·
    have:=zir L.toList i (by simp[Array.getD_eq_getD_getElem?,hlt] at hfalse⊢;exact hfalse)
    rw[Array.toList_setIfInBounds];omega
   ·
    intro j oj hj hD e he2 hb
    have key: ∀k,(L.setIfInBounds i true).getD k false=true↔(k=i∨L.getD k false=true):=fun k=>by
     by_cases hk:i=k
     ·
      subst hk;simp[Array.getD_eq_getD_getElem?,hlt]
     ·
      simp[Array.getD_eq_getD_getElem?,Array.getElem?_setIfInBounds,hk,Ne.symm hk]
    rw[key] at hD⊢
    exact hcl' j oj hj hD e he2 hb
   ·
    have hselL: ∀k,k≠i→(L.setIfInBounds i true).getD k false=L.getD k false:=fun k hk=>by
     simp[Array.getD_eq_getD_getElem?,Array.getElem?_setIfInBounds,Ne.symm hk]
    by_cases htd:t=d
    ·
     subst htd
     have h2:(fr (fun j=>(L.setIfInBounds i true).getD j false) 0 out F).get t=x:=znr out 0 F i g1 (by simp[Array.getD_eq_getD_getElem?,hlt]) (fun j p hp hij hc hpt=>by
      simp only[Nat.zero_add] at hc
      rw[hselL j xa] at hc
      have hj:j<l.length:=by rw[hlen];exact(List.getElem?_eq_some_iff.1 hp).1
      obtain⟨d',x',k1,k2,_,_⟩:=hat j _ (List.getElem?_eq_getElem hj)
      rw[k1] at hp
      cases hp
      dsimp only at hpt
      subst hpt
      have:=(hord j _ (List.getElem?_eq_getElem hj) xa).2 hij (zes.2.1 g2 k2)
      rw[this] at hc
      cases hc)
     rw[h2]
     have:t<a.tmps.size:=by rw[h8.nt];exact g3
     simpa[Act.put,Array.getD_eq_getD_getElem?,this] using hv
    ·
     have h2:(fr (fun j=>(L.setIfInBounds i true).getD j false) 0 out F).get t=(fr (fun j=>L.getD j false) 0 out F).get t:=zec out 0 F F J (fun j p hp hpt=>by
      simp only[Nat.zero_add]
      refine hselL j (fun e=>?_)
      subst e
      rw[g1] at hp
      cases hp
      exact htd hpt.symm)
     rw[h2]
     have:=(h8.fr t).ext he
     simpa[Act.put,Array.getD_eq_getD_getElem?,Array.getElem?_setIfInBounds,Ne.symm htd] using this
  unfold wpOp
  simp only[ho]
  rcases g4 with ⟨k1,k2⟩|⟨k1,rfl⟩
  ·
   rw[if_pos ((k1.congr hsel).wanted h8.fr)]
   left
   refine(k2.congr hsel) G a _ _ h8.rel (fun y _=>zc1 h8.fr y) (fun v G' he hr' hv=>?_)
   rw[g2]
   exact hnext G' v he hr' hv
  ·
   rw[if_neg (by rw[(k1.congr hsel).wanted h8.fr];simp)]
   rw[g2]
   exact hnext G undef (.refl G) h8.rel (.s _)
def QX (P:Program)(N:Nat)(ops:Array Oper)(σ:List Ob)(l:List Oper)(F:Frm)(K:Frm→Prop):Prop:= ∃F' out,QSteps P N ops σ l F F' out∧K F'
theorem zds {ops:Array Oper}{K:Frm→Prop}(h:K F):QX P N ops σ [] F K:=⟨F,[], .nil F,h⟩
theorem zbi {ops:Array Oper}{K:Frm→Prop}{o:Oper}{d:Nat}{x:AV}(hd:o.dst=some d)(hN:Nat.blt d N=true)(hr:Runs ops F o true)(hD:Does P o F σ x σ)(h:QX P N ops σ l ((d,x)::F) K):QX P N ops σ (o::l) F K:=by
 obtain⟨F',out,h1,h2⟩:=h
 exact⟨F',_, .run o l F F' x out d hd hN hr hD h1,h2⟩
theorem zdc {ops:Array Oper}{K:Frm→Prop}{o:Oper}{d:Nat}(hd:o.dst=some d)(hN:Nat.blt d N=true)(hr:Runs ops F o false)(h:QX P N ops σ l ((d, .s undef)::F) K):QX P N ops σ (o::l) F K:=by
 obtain⟨F',out,h1,h2⟩:=h
 exact⟨F',_, .skip o l F F' out d hd hN hr h1,h2⟩
theorem zkc: ∀n,left (List.replicate n false)=n
 |0=>rfl
 |n+1=>by simp[List.replicate_succ,left,zkc n];omega
theorem zbj (hq:qOk l=true)(h:QX P N l.toArray σ l F (fun F'=>Q .normal F' σ)):zx4 P N l F σ Q:=fun G a hs=>by
 obtain⟨F',out,h1,h2⟩:=h
 have h3: ∀ (out:List (Nat × AV)) (k:Nat) (F:Frm),fr (fun j=>(Array.replicate l.length false).getD j false) k out F=F:=by
  intro out
  induction out with
  |nil=>intro k F;rfl
  | cons p out ih=>
   intro k F
   have:(Array.replicate l.length false).getD k false=false:=by
    simp only[Array.getD_eq_getD_getElem?,Array.getElem?_replicate]
    split<;>rfl
   simp only[fr,this,cond_false]
   exact ih _ _
 refine zzf hq h1 h2 G l.length _ G a (.refl G) xm (by simp[zkc]) ?_ ?_
 ·
  intro j o hj hD
  have:(Array.replicate l.length false).getD j false=false:=by
   simp only[Array.getD_eq_getD_getElem?,Array.getElem?_replicate]
   split<;>rfl
  rw[this] at hD
  cases hD
 ·
  rw[h3];exact hs
theorem ze9 {md:Region.Mode}{ops:Array Oper}{Q Q':Exit→Act→World→Prop}(hQ: ∀e a w,Q e a w→Q' e a w): ∀ (fuel:Nat) (L:Array Bool) (a:Act) (w:World),wpAny P md ops Q fuel L a w→wpAny P md ops Q' fuel L a w
 |0,L,a,w,h=>⟨h.1,hQ _ _ _ h.2⟩
 | fuel+1,L,a,w,h=>by
  refine⟨fun hr=>hQ _ _ _ (h.1 hr),fun i hi=>?_⟩
  have h1:=h.2 i hi
  unfold wpOp at h1⊢
  split
  ·
   rename_i hn
   rw[hn] at h1
   exact ze9 hQ fuel _ a w h1
  ·
   rename_i o hn
   rw[hn] at h1
   dsimp only at h1
   split
   ·
    rename_i hw
    rw[if_pos hw] at h1
    rcases h1 with h1|⟨h1,a0,w0,h2⟩
    ·
     exact .inl (zrl (fun a w x=>ze9 hQ fuel _ a w x) hQ h1)
    ·
     exact .inr ⟨h1,a0,w0,hQ _ _ _ h2⟩
   ·
    rename_i hw
    rw[if_neg hw] at h1
    exact ze9 hQ fuel _ _ w h1
theorem zb6 {id:Nat}(hm:P.follows .mixedOrders=true)(h:zx4 P N l F σ Q):AWp P N (.region id l.toArray true) F σ Q:=fun G a hs=>by
 refine wp_region_any hm ?_
 have he:=zqx G
 have h1:=h _ a (hs.step he (zv8 hs.rel))
 exact ze9 (fun e a w q=>zfh he.step (fun _ _ _ x=>x) q) _ _ _ _ (by simpa using h1)
end
end Aw
end Go.Proofs.YtjdpnadhgjohnaaGreatDoor
