import Derived.Test.YtjdpnadhgjohnaaGreatDoorJN0
import Derived.Test.YtjdpnadhgjohnaaGreatDoorJN5
import Derived.Maps.AppendAt
import Derived.OwnWalk
import Derived.Deep.Light
set_option linter.unusedSimpArgs false
set_option linter.unusedVariables false
set_option linter.unusedSectionVars false
namespace Go.Proofs.YtjdpnadhgjohnaaGreatDoor
section
open Go.RowKit
def TI (t e size bytes:Nat)(z:Value):Prop:= ∃i,Tryz.prog.underlying t=some (.slice e)∧Tryz.prog.info? e=some i∧i.zero=some z∧i.size=size∧i.bytes=bytes∧z.cells.size=size∧0<size
theorem TI.mk {t e size bytes:Nat}{z:Value}(h1:Tryz.prog.underlying t=some (.slice e))(h2:(Tryz.prog.info? e).map (fun i=>(i.zero,i.size,i.bytes))=some (some z,size,bytes))(h3:z.cells.size=size)(h4:0<size):TI t e size bytes z:=by
 obtain⟨i,hi,a,b,c⟩:=info_parts h2
 exact⟨i,h1,hi,a,b,c,h3,h4⟩
theorem zhm:TI 38 3 1 8 (.int .i64 0):=TI.mk Tryz.underlying38 (by kernel_rfl) rfl xe
def Own {α:Type}(e size:Nat)(enc:α→List Value)(w:World)(lo hi:Nat)(v:Value)(l:List α):Prop:=
 w.ownsRow lo e size v l.length (l.flatMap enc)∧ ∀k,v.ownBlock=some k→k<hi
section
variable {α:Type}{e size:Nat}{enc:α→List Value}{w W:World}{lo hi:Nat}{v:Value}{l:List α}
theorem Own.nil (w:World)(lo hi:Nat):Own e size enc w lo hi (.slice none 0 0) []:=⟨⟨by simp, .inl ⟨rfl,rfl⟩⟩,fun k h=>by cases h⟩
theorem Own.mono {lo' hi':Nat}(h:Own e size enc w lo hi v l)(hl:lo'≤lo)(hh:hi≤hi'):Own e size enc w lo' hi' v l:=⟨zzm h.1 hl,fun k hk=>Nat.lt_of_lt_of_le (h.2 k hk) hh⟩
theorem Own.keep {D:Nat→Prop}(hc:Chg D w W)(hd: ∀k,lo≤k∧k<hi→ ¬D k)(h:Own e size enc w lo hi v l):Own e size enc W lo hi v l:=by
 refine⟨⟨h.1.1,?_⟩,h.2⟩
 rcases h.1.2 with h2|⟨g,cap,cur,hv,hg,hh,r⟩
 ·
  exact Or.inl h2
 ·
  have hvg:v.ownBlock=some g:=by rw[hv];rfl
  exact Or.inr ⟨g,cap,cur,hv,hg,(hc.block g (Array.getElem?_eq_some_iff.1 hh).1 (hd g ⟨hg,h.2 g hvg⟩)).trans hh,r⟩
theorem Own.form (h:Own e size enc w lo hi v l): ∃A c,v= .slice A l.length c∧l.length≤c∧l.length≤9223372036854775807:=by
 rcases h.1.2 with ⟨rfl,h2⟩|⟨g,cap,cur,hv,hg,hh,h1,h2,_⟩
 ·
  exact⟨none,0,by rw[h2],by omega,by omega⟩
 ·
  exact⟨_,_,hv,h1,by unfold maxLen at h2;omega⟩
theorem Own.rd (h:Own e size enc w lo hi v l):Rd size enc w lo hi v l:=by
 rcases h.1.2 with ⟨rfl,h2⟩|⟨g,cap,cur,hv,hg,hh,h1,h2,h3,h4⟩
 ·
  have:l=[]:=List.eq_nil_of_length_eq_zero h2
  subst this
  exact Rd.nil w lo hi
 ·
  refine⟨h.1.1,_,_,hv,h1,Nat.le_trans h1 h2,fun _=>⟨g,0,rfl,hg,h.2 g (by rw[hv];rfl),fun j u hu=>?_⟩⟩
  rw[cell_of_row w g (0+j) cur e (0,0) hh,Nat.zero_add]
  rw[←h4,List.getElem?_take] at hu
  split at hu
  ·
   simpa using hu
  ·
   cases hu
theorem Own.blk (h:Own e size enc w lo hi v l)(hn:0<l.length): ∃g cap,v= .slice (some ⟨g,0,none⟩) l.length cap∧lo≤g∧g<hi∧g<w.heap.size:=by
 rcases h.1.2 with ⟨rfl,h2⟩|⟨g,cap,cur,hv,hg,hh,h1,h2,h3,h4⟩
 ·
  omega
 ·
  exact⟨g,cap,hv,hg,h.2 g (by rw[hv];rfl),(Array.getElem?_eq_some_iff.1 hh).1⟩
theorem Own.cell {g n cap:Nat}(h:Own e size enc w lo hi (.slice (some ⟨g,0,none⟩) n cap) l)(he: ∀a,(enc a).length=size){k:Nat}{a:α}(hk:l[k]?=some a){j:Nat}{u:Value}(hu:(enc a)[j]?=some u):
  w.cell? ⟨g,k*size+j,none⟩=some u∧w.frozen? ⟨g,k*size+j,none⟩=false:=by
 rcases h.1.2 with ⟨h0,_⟩|⟨g',c',cur,hv,hb,hg,_,_,hs,ht⟩
 ·
  cases h0
 ·
  injection hv with hA _ _
  injection hA with hA
  injection hA with hA
  subst hA
  refine⟨?_,by simp[World.frozen?,hg]⟩
  rw[cell_of_row w g _ cur e (0,0) hg]
  have hf:=zf4 he l k a j u hk hu
  rw[←ht,List.getElem?_take] at hf
  split at hf
  ·
   simpa using hf
  ·
   cases hf
theorem Own.set1 {enc:α→List Value}{g n cap:Nat}(h:Own e 1 enc w lo hi (.slice (some ⟨g,0,none⟩) n cap) l){k:Nat}{a:α}{u:Value}(he: ∀a,(enc a).length=1)(hu:enc a=[u]):
  Own e 1 enc (w.setCell ⟨g,k,none⟩ u) lo hi (.slice (some ⟨g,0,none⟩) n cap) (l.set k a):=by
 refine⟨?_,h.2⟩
 rcases h.1.2 with ⟨h0,_⟩|⟨g',c',cur,hv,hb,hg,h1,h2,hs,ht⟩
 ·
  cases h0
 ·
  injection hv with hA hn hc
  injection hA with hA
  injection hA with hA
  subst hA hc hn
  have hset: ∀ (l:List α) (k:Nat),(l.set k a).flatMap enc=(l.flatMap enc).set k u:=by
   intro l
   induction l with
   |nil=>intro k;simp
   |cons b l ih=>
    intro k
    obtain⟨y,hy⟩: ∃y,enc b=[y]:=List.length_eq_one_iff.1 (he b)
    cases k with
    |zero=>simp[hu,hy]
    |succ k=>simp[hy,ih k]
  refine⟨by rw[zde he,List.length_set], .inr ⟨g,cap,cur.setIfInBounds k u,by rw[List.length_set],hb,?_,by rw[List.length_set];exact h1,h2,by simp[hs],?_⟩⟩
  ·
   simp[World.setCell,Array.getElem?_modify,hg]
  ·
   rw[hset, ←ht,List.length_set]
   simp only[Array.toList_setIfInBounds]
   rw[List.take_set]
end
abbrev Loc.ow {α:Type}(e size:Nat)(enc:α→List Value)(lo hi:Nat)(v:Value)(l:List α):Loc:=
 ⟨fun w=>Own e size enc w lo hi v l,fun k=>lo≤k∧k<hi,fun h hd hp=>Own.keep h hd hp⟩
abbrev OwnI:=Own 3 1 encI
abbrev Loc.owI (lo hi:Nat)(v:Value)(l:List Int):Loc:=Loc.ow 3 1 encI lo hi v l
abbrev Loc.rdI (lo hi:Nat)(v:Value)(l:List Int):Loc:=Loc.rd 1 encI lo hi v l
abbrev Loc.rdS (lo hi:Nat)(v:Value)(l:List ByteArray):Loc:=Loc.rd 1 encS lo hi v l
abbrev Loc.rdM (lo hi:Nat)(v:Value)(l:List Stp):Loc:=Loc.rd 3 encM lo hi v l
theorem OwnI.at1 {w:World}{lo hi g n cap:Nat}{l:List Int}(h:OwnI w lo hi (.slice (some ⟨g,0,none⟩) n cap) l){k:Nat}(hk:k<l.length):
  w.cell? ⟨g,k,none⟩=some (.int .i64 (gti l k))∧w.frozen? ⟨g,k,none⟩=false:=by
 have:=Own.cell h (fun _=>rfl) (zbr hk) (j:=0) (u:= .int .i64 (gti l k)) J
 simpa using this
theorem OwnI.set {w:World}{lo hi g n cap:Nat}{l:List Int}(h:OwnI w lo hi (.slice (some ⟨g,0,none⟩) n cap) l)(k:Nat)(x:Int):
  OwnI (w.setCell ⟨g,k,none⟩ (.int .i64 x)) lo hi (.slice (some ⟨g,0,none⟩) n cap) (l.set k x):=Own.set1 h (fun _=>rfl) rfl
theorem Own.lit {α:Type}{size:Nat}{enc:α→List Value}(W:World)(t:TypeId)(lo:Nat)(l:List α)(cs:Array Value)(n:Nat)(hn:n=l.length)(hcs:cs.toList=l.flatMap enc)(hl:lo≤W.heap.size)(hm:n≤maxLen)(he: ∀a,(enc a).length=size):
  Own t size enc (W.alloc (.cells cs t)) lo (W.heap.size+1) (.slice (some ⟨W.heap.size,0,none⟩) n n) l:=by
 subst hn
 have hsz:cs.size=l.length*size:=by rw[←Array.length_toList,hcs,zde he]
 have h:=z7d W cs t lo size l.length hsz hm hl
 rw[hcs] at h
 exact⟨h,fun k hk=>by simp[Value.ownBlock] at hk;omega⟩
theorem Rd.lit {α:Type}{size:Nat}{enc:α→List Value}(W:World)(t:TypeId)(l:List α)(cs:Array Value)(n:Nat)(hn:n=l.length)(hcs:cs.toList=l.flatMap enc)(hm:n≤maxLen)(he: ∀a,(enc a).length=size):
  Rd size enc (W.alloc (.cells cs t)) 0 (W.heap.size+1) (.slice (some ⟨W.heap.size,0,none⟩) n n) l:=(Own.lit W t 0 l cs n hn hcs (Nat.zero_le _) hm he).rd
theorem RdI.lit1 (W:World)(x:Int)(t:TypeId):RdI (W.alloc (.cells #[.int .i64 x] t)) 0 (W.heap.size+1) (.slice (some ⟨W.heap.size,0,none⟩) 1 1) [x]:=Rd.lit W t [x] _ 1 rfl rfl xe (fun _=>rfl)
theorem zuo (b off j:Nat):(⟨b,off,none⟩:Addr).add j=⟨b,off+j,none⟩:=by unfold Addr.add;split<;>simp_all
theorem z6w {α:Type}{t e size bytes:Nat}{z:Value}{enc:α→List Value}(ti:TI t e size bytes z)(he: ∀a,(enc a).length=size)(h1: ∀a, ∀u∈enc a,u.oneCell'=true)(w:World)(ty:TypeId){lo hi lo' hi':Nat}{v vx:Value}{l xs:List α}{rest:List Loc}
  (hM:Mem (Loc.ow e size enc lo hi v l::rest) w) (hA:zi1 (fun k=>lo≤k∧k<hi) rest) (hx:Rd size enc w lo' hi' vx xs) (hlen:(l.length+xs.length)*bytes≤140737488355328) (hlen2:l.length+xs.length≤maxLen) (hlo:lo≤w.heap.size):
  ∃A c w',(Builtin.append_ #[t,t] ty #[v,vx]).run Tryz.prog w= .ok (.slice A (l.length+xs.length) c) w'∧Mem (Loc.ow e size enc lo w'.heap.size (.slice A (l.length+xs.length) c) (l++xs)::rest) w'∧w.heap.size≤w'.heap.size∧Chg (fun k=>lo≤k∧k<hi) w w':=by
 obtain⟨i,ht,hi0,hz,hsize,hby,hzs,hsz⟩:=ti
 obtain⟨ho,hr⟩:=hM
 obtain⟨A,c,rfl,_,_⟩:=hx.form
 have fin: ∀ (v':Value) (w':World),w'.ownsRow lo e size v' (l.length+xs.length) (l.flatMap enc++xs.flatMap enc)→w.grownBy w' v.ownBlock→(v'.ownBlock=v.ownBlock∨v'.ownBlock=some w.heap.size)→
   ∃A c,v'= .slice A (l.length+xs.length) c∧Mem (Loc.ow e size enc lo w'.heap.size (.slice A (l.length+xs.length) c) (l++xs)::rest) w'∧w.heap.size≤w'.heap.size∧Chg (fun k=>lo≤k∧k<hi) w w':=by
  intro v' w' h2 h3 h4
  have hown:Own e size enc w' lo w'.heap.size v' (l++xs):=by
   refine⟨by rw[List.length_append,List.flatMap_append];exact h2,fun k hk=>(h2.lt k hk).2⟩
  obtain⟨A',c',hv',_,_⟩:=hown.form
  rw[List.length_append] at hv'
  subst hv'
  have hch:Chg (fun k=>lo≤k∧k<hi) w w':=⟨h3.os,h3.tape,h3.output,h3.size,fun k hk hd=>h3.block k hk (fun e=>hd ⟨(ho.1.lt k e.symm).1,ho.2 k e.symm⟩)⟩
  exact⟨A',c',rfl,⟨hown,hr.chg hch hA⟩,h3.size,hch⟩
 rcases A with _|ad
 ·
  have hm:xs.length=0:=by
   rcases Nat.eq_zero_or_pos xs.length with h0|h0
   ·
    exact h0
   ·
    obtain⟨b,off,h,_⟩:=RdC.cells hx h0
    cases h
  have hxs:xs=[]:=List.eq_nil_of_length_eq_zero hm
  subst hxs
  have hrun:(Builtin.append_ #[t,t] ty #[v, .slice none ([]:List α).length c]).run Tryz.prog w= .ok v w:=by
   rcases ho.1.2 with ⟨rfl,h0⟩|⟨g,cap,cur,rfl,_,_,hnc,_⟩
   ·
    simp[Builtin.append_,run_underlying ht,sizeOf,typeInfo,hi0,Builtin.lenOf,Builtin.firstCells]
   ·
    simp[Builtin.append_,run_underlying ht,sizeOf,typeInfo,hi0,Builtin.lenOf,Builtin.firstCells,hnc,storeCells]
  obtain⟨A',c',hv,hM',h5,h6⟩:=fin v w (by simpa using ho.1) (World.grownBy.refl w _) (.inl rfl)
  exact⟨A',c',w,hrun.trans (by rw[hv]),hM',h5,h6⟩
 ·
  have hcells: ∀j u,(xs.flatMap enc)[j]?=some u→w.cell? (ad.add j)=some u:=by
   intro j u hu
   rcases Nat.eq_zero_or_pos xs.length with h0|h0
   ·
    have:xs=[]:=List.eq_nil_of_length_eq_zero h0
    subst this
    simp at hu
   ·
    obtain⟨b,off,h,_,_,hc⟩:=RdC.cells hx h0
    rw[Option.some.inj h,zuo]
    exact hc j u hu
  obtain⟨v',w',hrun,h2,h3,_,h5⟩:=run_append_own_at (P:=Tryz.prog) w lo t ty e i z size bytes ht hi0 hz hsize hby hzs hsz v l.length (l.flatMap enc) ho.1 ad xs.length c (xs.flatMap enc) (zde he xs) hcells
   (fun u hu=>by obtain⟨a,_,ha⟩:=List.mem_flatMap.1 hu;exact h1 a u ha) hlen2 hlen hlo
  obtain⟨A',c',hv,hM',h6,h7⟩:=fin v' w' h2 h3 h5
  exact⟨A',c',w',hrun.trans (by rw[hv]),hM',h6,h7⟩
section
variable {α:Type}{t e size bytes:Nat}{z:Value}{enc:α→List Value}
theorem wp_app {o:Oper}{a:Act}{K:Act→World→Prop}{Q:Exit→Act→World→Prop}(s x:Operand)(ho:o.op= .call {callee:= .builtin .append,args:= #[s,x],argTypes:= #[t,t]})
  (ti:TI t e size bytes z) (he: ∀a,(enc a).length=size) (h1: ∀a, ∀u∈enc a,u.oneCell'=true) {w:World} {lo hi lo' hi':Nat} {v vx:Value} {l xs:List α} {rest:List Loc} (hs:a.eval s=v) (hvx:a.eval x=vx)
  (hM:Mem (Loc.ow e size enc lo hi v l::rest) w) (hA:zi1 (fun k=>lo≤k∧k<hi) rest) (hx:Rd size enc w lo' hi' vx xs) (hlen:(l.length+xs.length)*bytes≤140737488355328) (hlen2:l.length+xs.length≤9223372036854775807) (hlo:lo≤w.heap.size)
  (h: ∀A c w',Mem (Loc.ow e size enc lo w'.heap.size (.slice A (l.length+xs.length) c) (l++xs)::rest) w'→w.heap.size≤w'.heap.size→Chg (fun k=>lo≤k∧k<hi) w w'→K (a.put o.dst (.slice A (l.length+xs.length) c)) w'):o.wp Tryz.prog a w K Q:=by
 obtain⟨A,c,w',hrun,h2,h3,h4⟩:=z6w ti he h1 w o.type hM hA hx hlen (by unfold maxLen;omega) hlo
 unfold Oper.wp execOp
 simp only[ho,resolve,invoke,builtin,Sem.run_bind,Sem.run_pure,Result.andThen_ok,List.map_toArray,List.map_cons,List.map_nil,hs,hvx,hrun]
 exact h A c w' h2 h3 h4
theorem zcz {ops:Array Oper}{restO:List Oper}{o:Oper}{a:Act}{Q:Exit→Act→World→Prop}(hgd:o.guard=none)(s x:Operand)(ho:o.op= .call {callee:= .builtin .append,args:= #[s,x],argTypes:= #[t,t]})
  (ti:TI t e size bytes z) (he: ∀a,(enc a).length=size) (h1: ∀a, ∀u∈enc a,u.oneCell'=true) {w:World} {lo hi lo' hi':Nat} {v vx:Value} {l xs:List α} {rest:List Loc} (hs:a.eval s=v) (hvx:a.eval x=vx)
  (hM:Mem (Loc.ow e size enc lo hi v l::rest) w) (hA:zi1 (fun k=>lo≤k∧k<hi) rest) (hx:Rd size enc w lo' hi' vx xs) (hlen:(l.length+xs.length)*bytes≤140737488355328) (hlen2:l.length+xs.length≤9223372036854775807) (hlo:lo≤w.heap.size)
  (h: ∀A c w',Mem (Loc.ow e size enc lo w'.heap.size (.slice A (l.length+xs.length) c) (l++xs)::rest) w'→w.heap.size≤w'.heap.size→Chg (fun k=>lo≤k∧k<hi) w w'→wpList Tryz.prog ops Q restO (a.put o.dst (.slice A (l.length+xs.length) c)) w'):wpList Tryz.prog ops Q (o::restO) a w:=
 wpList_plain hgd fun _ hK=>wp_app s x ho ti he h1 hs hvx hM hA hx hlen hlen2 hlo fun A c w' h2 h3 h4=>hK _ _ (h A c w' h2 h3 h4)
end
theorem run_mk {t e size bytes:Nat}{z:Value}(ti:TI t e size bytes z)(w:World)(n:Nat)(hn:bytes*n≤140737488355328)(h63:n≤9223372036854775807):
  (Instr.makeSlice t (.int .i64 (n:Int)) (.int .i64 (n:Int))).run Tryz.prog w= .ok (.slice (some ⟨w.heap.size,0,none⟩) n n) (w.alloc (.cells (madeCells z.cells (n*size)) e)):=by
 obtain⟨i,ht,hi0,hz,hsize,hby,hzs,hsz⟩:=ti
 have:=run_make (P:=Tryz.prog) w t e i z ht hi0 hz .i64 .i64 (n:Int) (n:Int) xa xa (by rw[hby];omega) xa
 rw[Int.toNat_natCast,hsize] at this
 exact this
theorem z3o {α:Type}{size:Nat}{enc:α→List Value}{z:Value}(a:α)(hz:z.cells.toList=enc a)(hs:z.cells.size=size)(hpos:0<size): ∀n,(madeCells z.cells (n*size)).toList=(List.replicate n a).flatMap enc:=by
 intro n
 apply List.ext_getElem?
 intro j
 have hlen:(enc a).length=size:=by rw[←hz,Array.length_toList,hs]
 have hL:((List.replicate n a).flatMap enc).length=n*size:=by
  induction n with
  |zero=>simp
  |succ n ih=>rw[List.replicate_succ,List.flatMap_cons,List.length_append,ih,hlen,Nat.add_mul];omega
 by_cases hj:j<n*size
 ·
  have hq:j / size<n:=(Nat.div_lt_iff_lt_mul hpos).2 hj
  have hmod:j % size<size:=Nat.mod_lt _ hpos
  have e1:(madeCells z.cells (n*size)).toList[j]?=some (z.cells[j % size]!):=by
   simp[madeCells,hj,hs]
  have e2:(enc a)[j % size]?=some (z.cells[j % size]!):=by
   rw[←hz]
   simp[hs,hmod]
  have e3:((List.replicate n a).flatMap enc)[j]?=(enc a)[j % size]?:=by
   clear e1 e2 hL
   induction n generalizing j with
   |zero=>simp at hj
   | succ n ih=>
    rw[List.replicate_succ,List.flatMap_cons]
    by_cases hjs:j<size
    ·
     rw[List.getElem?_append_left xa,Nat.mod_eq_of_lt hjs]
    ·
     rw[List.getElem?_append_right xa,hlen]
     have hlt:j-size<n*size:=by rw[Nat.add_mul] at hj;omega
     rw[ih (j-size) hlt ((Nat.div_lt_iff_lt_mul hpos).2 hlt) (Nat.mod_lt _ hpos)]
     rw[←Nat.mod_eq_sub_mod xa]
  rw[e1,e3,e2]
 ·
  rw[List.getElem?_eq_none (by simp[size_madeCells];omega),List.getElem?_eq_none xa]
theorem Own.made {α:Type}{t e size bytes:Nat}{z:Value}{enc:α→List Value}(ti:TI t e size bytes z)(W:World)(lo n:Nat)(a:α)(hz:z.cells.toList=enc a)(hl:lo≤W.heap.size)(hn:n≤9223372036854775807)(he: ∀a,(enc a).length=size):
  Own e size enc (W.alloc (.cells (madeCells z.cells (n*size)) e)) lo (W.heap.size+1) (.slice (some ⟨W.heap.size,0,none⟩) n n) (List.replicate n a):=by
 obtain⟨i,ht,hi0,hzz,hsize,hby,hzs,hsz⟩:=ti
 exact Own.lit W e lo _ _ n xm (z3o a hz hzs hsz n) hl (by unfold maxLen;omega) he
end
section
open Go.RowKit
abbrev K3 (w:World)(g:Nat)(a b c:Value):Prop:=w.cell? ⟨g,0,none⟩=some a∧w.cell? ⟨g,1,none⟩=some b∧w.cell? ⟨g,2,none⟩=some c∧g<w.heap.size
theorem K3.of_block {W W':World}{g:Nat}{a b c:Value}(h:K3 W g a b c)(he:W'.heap[g]?=W.heap[g]?)(hs:W.heap.size≤W'.heap.size):K3 W' g a b c:=by
 obtain⟨h1,h2,h3,h7⟩:=h
 exact⟨(World.cell?_of_block (w:=W) he).trans h1,(World.cell?_of_block (w:=W) he).trans h2,(World.cell?_of_block (w:=W) he).trans h3,Nat.lt_of_lt_of_le h7 hs⟩
theorem K3.aft {W w1:World}{g:Nat}{a b c:Value}(hb:Below W.heap.size W w1)(h:K3 W g a b c):K3 w1 g a b c:=K3.of_block h (hb.block g h.2.2.2) hb.size
theorem K3.new (W:World)(a b c:Value)(t:TypeId):K3 (W.alloc (.cells #[a,b,c] t)) W.heap.size a b c:=by simp[K3,go_sem]
abbrev Loc.k3 (g:Nat)(a b c:Value):Loc:=⟨fun w=>K3 w g a b c,fun k=>k=g,fun h hd hp=>K3.of_block hp (h.block g hp.2.2.2 (hd g J)) h.size⟩
theorem zxg {s:ByteArray}(h: ¬s=ByteArray.empty):s.toList.isEmpty=false:=by
 rw[ByteArray.toList_eq]
 rw[Bool.eq_false_iff]
 intro e
 apply h
 obtain⟨d⟩:=s
 simp at e
 subst e
 rfl
def trB (n:Int)(t:Tr):Bool:=(t.label.toList.isEmpty||zf9 t.label) && zcn n t.inn && zcn n t.out
def zhu (n:Net):List Tr→Bool
 |[]=>zcn n.places [n.source] && zcn n.places [n.sink]
 |t::ts=>if trB n.places t then zhu n ts else false
def zb7 (n:Net):Bool:=if n.places<1∨40<n.places∨60<n.trans.length then false else zhu n n.trans
theorem zc2 {α:Type}[Inhabited α]{l:List α}{k:Nat}(h:k<l.length):l.drop k=gti l k::l.drop (k+1):=by
 rw[List.drop_eq_getElem_cons h]
 unfold gti
 rw[List.getElem?_eq_getElem h]
 rfl
theorem zbd {a b:Bool}(h:a=b):Ending.returned (.bool a)= .returned (.bool b):=by rw[h]
set_option maxHeartbeats 2000000 in
theorem zrh (n:Net)(vt:Value)(lo hi:Nat)(w:World)(hv:RdT w lo hi vt n.trans):
  Calls Tryz.prog 76 #[netV n vt] w fun e w'=>e= .returned (.bool (zb7 n))∧Below w.heap.size w w':=by
 obtain⟨A,c,rfl,hc,hm⟩:=hv.form
 have HV:=Lib.hid hv
 clear hv
 refine zak fun R hR=>?_
 have HR:=Lib.hid hR
 clear hR
 go_enter Tryz.func76,Tryz.ntmps76
 have M:Mem [Loc.k4 w.heap.size (.int .i64 n.places) (.slice A n.trans.length c) (.int .i64 n.source) (.int .i64 n.sink),Loc.bl w.heap.size w] (w.alloc (.cells #[.int .i64 n.places, .slice A n.trans.length c, .int .i64 n.source, .int .i64 n.sink] 24)):=⟨K4.new w _ _ _ _ _,⟨(Below.refl _ _).alloc (Nat.le_refl _) _,by simp⟩,True.intro⟩
 have HM:=Lib.hid M
 clear M
 go_wp2_with fail
 all_goals (try ((with_reducible refine HR.out _ _ ⟨?_,?_⟩)<;>first|exact zbd (by grind [zb7])|exact HM.out.2.1.1))
 have HI:Hid (zb7 n=zhu n n.trans):=Lib.hid (by grind [zb7])
 generalize w.alloc (.cells #[.int .i64 n.places, .slice A n.trans.length c, .int .i64 n.source, .int .i64 n.sink] 24)=W at*
 go_loopw [22,4] (fun v22 _ wr=> ∃k:Nat,k≤n.trans.length∧v22= .int .i64 k∧Hid (zb7 n=zhu n (n.trans.drop k))∧Hid (Mem [Loc.k4 w.heap.size (.int .i64 n.places) (.slice A n.trans.length c) (.int .i64 n.source) (.int .i64 n.sink),Loc.bl w.heap.size w] wr)) (fun v22 _ _=>n.trans.length-(intOf v22).toNat)
 case atStart=>exact⟨0,by omega,rfl,HI,HM⟩
 case round=>
  clear HM HI
  obtain⟨k,hk,rfl,HI,HM⟩:=hrel
  have hk4:=HM.out.1
  by_cases hlt:k<n.trans.length
  ·
   obtain⟨b,off,vi,vo,rfl,_,_,hcell,hri,hro⟩:=RdT.at3 (HV.out.after HM.out.2.1.1) hlt
   have HD:=Lib.hid (zc2 hlt)
   obtain⟨Ai,ci,rfl,hci,hmi⟩:=hri.form
   obtain⟨Ao,co,rfl,hco,hmo⟩:=hro.form
   generalize gti n.trans k=t at*
   obtain⟨lab,tin,tout⟩:=t
   simp only at hri hro hcell hci hmi hco hmo
   have M:Mem [Loc.k4 w.heap.size (.int .i64 n.places) (.slice (some ⟨b,off,none⟩) n.trans.length c) (.int .i64 n.source) (.int .i64 n.sink),Loc.bl w.heap.size w,Loc.k3 wr.heap.size (.string lab) (.slice Ai tin.length ci) (.slice Ao tout.length co),Loc.rd 1 encI lo hi (.slice Ai tin.length ci) tin,Loc.rd 1 encI lo hi (.slice Ao tout.length co) tout] (wr.alloc (.cells #[.string lab, .slice Ai tin.length ci, .slice Ao tout.length co] 76)):= 
    ⟨K4.aft ((Below.refl _ _).alloc (Nat.le_refl _) _) hk4,⟨(HM.out.2.1.1).alloc HM.out.2.1.2 _,by have:=HM.out.2.1.2;simp;omega⟩,K3.new wr _ _ _ _,Rd.after hri ((Below.refl _ _).alloc (Nat.le_refl _) _),Rd.after hro ((Below.refl _ _).alloc (Nat.le_refl _) _),True.intro⟩
   clear hri hro
   replace M:=Lib.hid M
   have hq4:=M.out.1
   have hq3:=M.out.2.2.1
   go_wp2_with (first
    |(go_at_call 78;refine(zk7 _ _).mono ?_;rintro e w1 ⟨rfl,hb1⟩;replace M:=Lib.hid (M.out.below hb1);clear hb1;replace hq4:=M.out.1;replace hq3:=M.out.2.2.1)
    |(go_at_call 135;refine(zo7 n _ _ lo hi _ _ (by first|exact M.out.2.2.2.1|exact M.out.2.2.2.2.1)).mono ?_;rintro e w1 ⟨rfl,hb1⟩;replace M:=Lib.hid (M.out.below hb1);clear hb1;replace hq4:=M.out.1;replace hq3:=M.out.2.2.1))
   all_goals (have HJ:zb7 n=if trB n.places ⟨lab,tin,tout⟩ then zhu n (n.trans.drop (k+1)) else false:=by rw[HI.out,HD.out];rfl)
   all_goals first
    |((with_reducible refine HR.out _ _ ⟨?_,?_⟩)<;>first|exact zbd (by go_light;grind [trB])|exact M.out.2.1.1)
    |(refine⟨⟨k+1,by omega,by go_num,Lib.hid (by go_light;grind [trB]),Lib.hid ⟨M.out.1,M.out.2.1,True.intro⟩⟩,by simp[intOf];omega⟩)
  ·
   obtain rfl:k=n.trans.length:=by omega
   have HE:Hid (zb7 n=(zcn n.places [n.source] && zcn n.places [n.sink])):=Lib.hid (by rw[HI.out];simp[zhu])
   clear HI
   have M:=HM
   clear HM
   go_wp2_with (go_at_call 135;refine(zo7 n _ _ 0 _ _ _ (RdI.lit1 _ _ _)).mono ?_;rintro e w1 ⟨rfl,hb1⟩;replace M:=Lib.hid ((M.out.alloc _).below hb1);clear hb1;replace hk4:=M.out.1)
   all_goals ((with_reducible refine HR.out _ _ ⟨?_,?_⟩)<;>first|exact zbd (by rw[HE.out];go_light;grind)|exact M.out.2.1.1)
end
section
open Go.RowKit
def zg6 (n:Net):List Tr→Bool
 |[]=>true
 |t::ts=>if trB n.places t then zg6 n ts else false
def zg7 (n:Net):Bool:=if n.places<1∨40<n.places∨60<n.trans.length∨n.source<0∨n.places≤n.source∨n.sink<0∨n.places≤n.sink then false else zg6 n n.trans
theorem zm7 (n x:Int):zcn n [x]=(decide (0≤x) && decide (x<n)):=by
 simp[zcn,badP,gti,List.range_succ]
 grind
theorem zrj (n:Net): ∀l,zhu n l=(zg6 n l && (zcn n.places [n.source] && zcn n.places [n.sink]))
 |[]=>by simp[zhu,zg6]
 |t::ts=>by
  simp only[zhu,zg6]
  rw[zrj n ts]
  cases trB n.places t<;>simp
theorem zrk (n:Net):zg7 n=zb7 n:=by
 unfold zg7 zb7
 rw[zrj,zm7,zm7]
 grind
set_option maxHeartbeats 2000000 in
theorem zo5 (n:Net)(vt:Value)(lo hi:Nat)(w:World)(hv:RdT w lo hi vt n.trans):
  Calls Tryz.prog 30 #[netV n vt] w fun e w'=>e= .returned (.bool (zb7 n))∧Below w.heap.size w w':=by
 rw[←zrk]
 obtain⟨A,c,rfl,hc,hm⟩:=hv.form
 have HV:=Lib.hid hv
 clear hv
 refine zak fun R hR=>?_
 have HR:=Lib.hid hR
 clear hR
 go_enter Tryz.func30,Tryz.ntmps30
 have M:Hid (Mem [Loc.k4 w.heap.size (.int .i64 n.places) (.slice A n.trans.length c) (.int .i64 n.source) (.int .i64 n.sink),Loc.bl w.heap.size w] (w.alloc (.cells #[.int .i64 n.places, .slice A n.trans.length c, .int .i64 n.source, .int .i64 n.sink] 24))):=Lib.hid ⟨K4.new w _ _ _ _ _,⟨(Below.refl _ _).alloc (Nat.le_refl _) _,by simp⟩,True.intro⟩
 have hk4:=M.out.1
 go_wp2_with fail
 all_goals (try ((with_reducible refine HR.out _ _ ⟨?_,?_⟩)<;>first|exact zbd (by go_light;grind [zg7])|exact M.out.2.1.1))
 have HI:Hid (zg7 n=zg6 n n.trans):=Lib.hid (by go_light;grind [zg7])
 generalize w.alloc (.cells #[.int .i64 n.places, .slice A n.trans.length c, .int .i64 n.source, .int .i64 n.sink] 24)=W at*
 go_loopw [3,4] (fun v3 _ wr=> ∃k:Nat,k≤n.trans.length∧v3= .int .i64 k∧Hid (zg7 n=zg6 n (n.trans.drop k))∧Hid (Mem [Loc.k4 w.heap.size (.int .i64 n.places) (.slice A n.trans.length c) (.int .i64 n.source) (.int .i64 n.sink),Loc.bl w.heap.size w] wr)) (fun v3 _ _=>n.trans.length-(intOf v3).toNat)
 case atStart=>exact⟨0,by omega,rfl,HI,M⟩
 case round=>
  clear M HI
  obtain⟨k,hk,rfl,HI,HM⟩:=hrel
  have hk4:=HM.out.1
  by_cases hlt:k<n.trans.length
  ·
   obtain⟨b,off,vi,vo,rfl,_,_,hcell,hri,hro⟩:=RdT.at3 (HV.out.after HM.out.2.1.1) hlt
   have HD:=Lib.hid (zc2 hlt)
   obtain⟨Ai,ci,rfl,hci,hmi⟩:=hri.form
   obtain⟨Ao,co,rfl,hco,hmo⟩:=hro.form
   generalize gti n.trans k=t at*
   obtain⟨lab,tin,tout⟩:=t
   simp only at hri hro hcell hci hmi hco hmo
   have M:Mem [Loc.k4 w.heap.size (.int .i64 n.places) (.slice (some ⟨b,off,none⟩) n.trans.length c) (.int .i64 n.source) (.int .i64 n.sink),Loc.bl w.heap.size w,Loc.k3 wr.heap.size (.string lab) (.slice Ai tin.length ci) (.slice Ao tout.length co),Loc.rd 1 encI lo hi (.slice Ai tin.length ci) tin,Loc.rd 1 encI lo hi (.slice Ao tout.length co) tout] (wr.alloc (.cells #[.string lab, .slice Ai tin.length ci, .slice Ao tout.length co] 76)):= 
    ⟨K4.aft ((Below.refl _ _).alloc (Nat.le_refl _) _) hk4,⟨(HM.out.2.1.1).alloc HM.out.2.1.2 _,by have:=HM.out.2.1.2;simp;omega⟩,K3.new wr _ _ _ _,Rd.after hri ((Below.refl _ _).alloc (Nat.le_refl _) _),Rd.after hro ((Below.refl _ _).alloc (Nat.le_refl _) _),True.intro⟩
   clear hri hro
   replace M:=Lib.hid M
   have hq4:=M.out.1
   have hq3:=M.out.2.2.1
   go_wp2_with (first
    |(go_at_call 68;refine(zf3 _ _).mono ?_;rintro e w1 ⟨rfl,hb1⟩;replace M:=Lib.hid (M.out.below hb1);clear hb1;replace hq4:=M.out.1;replace hq3:=M.out.2.2.1)
    |(go_at_call 75;refine(ztg _ _ lo hi _ _ (by first|exact M.out.2.2.2.1|exact M.out.2.2.2.2.1)).mono ?_;rintro e w1 ⟨rfl,hb1⟩;replace M:=Lib.hid (M.out.below hb1);clear hb1;replace hq4:=M.out.1;replace hq3:=M.out.2.2.1))
   all_goals (have HJ:zg7 n=if trB n.places ⟨lab,tin,tout⟩ then zg6 n (n.trans.drop (k+1)) else false:=by rw[HI.out,HD.out];rfl)
   all_goals first
    |((with_reducible refine HR.out _ _ ⟨?_,?_⟩)<;>first|exact zbd (by go_light;grind [trB])|exact M.out.2.1.1)
    |(refine⟨⟨k+1,by omega,by go_num,Lib.hid (by go_light;grind [trB]),Lib.hid ⟨M.out.1,M.out.2.1,True.intro⟩⟩,by simp[intOf];omega⟩)
  ·
   obtain rfl:k=n.trans.length:=by omega
   have HE:Hid (zg7 n=true):=Lib.hid (by rw[HI.out];simp[zg6])
   clear HI
   go_wp2_with fail
   all_goals ((with_reducible refine HR.out _ _ ⟨?_,?_⟩)<;>first|exact zbd (by rw[HE.out])|exact HM.out.2.1.1)
def zkv:List Int→Bool
 |[]=>true
 |k::l=>if k<0∨100<k then false else zkv l
def zdx (n:Net)(m:List Int):Bool:=if (m.length:Int)≠n.places then false else zkv m
set_option maxHeartbeats 2000000 in
theorem zd2 (n:Net)(vt:Value)(m:List Int)(v:Value)(lo hi:Nat)(w:World)(hv:RdI w lo hi v m):
  Calls Tryz.prog 104 #[netV n vt,v] w fun e w'=>e= .returned (.bool (zdx n m))∧Below w.heap.size w w':=by
 obtain⟨A,c,rfl,hc,hm⟩:=hv.form
 have HV:=Lib.hid hv
 clear hv
 refine zak fun R hR=>?_
 have HR:=Lib.hid hR
 clear hR
 go_enter Tryz.func104,Tryz.ntmps104
 have M:Hid (Mem [Loc.k4 w.heap.size (.int .i64 n.places) (vt) (.int .i64 n.source) (.int .i64 n.sink),Loc.bl w.heap.size w] (w.alloc (.cells #[.int .i64 n.places,vt, .int .i64 n.source, .int .i64 n.sink] 24))):=Lib.hid ⟨K4.new w _ _ _ _ _,⟨(Below.refl _ _).alloc (Nat.le_refl _) _,by simp⟩,True.intro⟩
 have hk4:=M.out.1
 go_wp2_with fail
 all_goals (try ((with_reducible refine HR.out _ _ ⟨?_,?_⟩)<;>first|exact zbd (by go_light;grind [zdx])|exact M.out.2.1.1))
 have HI:Hid (zdx n m=zkv m):=Lib.hid (by go_light;grind [zdx])
 generalize w.alloc (.cells #[.int .i64 n.places,vt, .int .i64 n.source, .int .i64 n.sink] 24)=W at*
 go_loop [5] (fun v3=> ∃k:Nat,k≤m.length∧v3= .int .i64 k∧Hid (zdx n m=zkv (m.drop k))) (fun v3=>m.length-(intOf v3).toNat)
 case atStart=>exact⟨0,by omega,rfl,HI⟩
 case round=>
  clear HI
  obtain⟨k,hk,rfl,HI⟩:=hrel
  by_cases hlt:k<m.length
  ·
   obtain⟨b,off,rfl,_,_,hcell⟩:=RdI.at1 (HV.out.after M.out.2.1.1) hlt
   have HD:=Lib.hid (zc2 hlt)
   generalize gti m k=x at*
   go_wp2_with fail
   all_goals (have HJ:zdx n m=if x<0∨100<x then false else zkv (m.drop (k+1)):=by rw[HI.out,HD.out];rfl)
   all_goals first
    |((with_reducible refine HR.out _ _ ⟨?_,?_⟩)<;>first|exact zbd (by go_light;grind)|exact M.out.2.1.1)
    |(refine⟨⟨k+1,by omega,by go_num,Lib.hid (by go_light;grind)⟩,by simp[intOf];omega⟩)
  ·
   obtain rfl:k=m.length:=by omega
   have HE:Hid (zdx n m=true):=Lib.hid (by rw[HI.out];simp[zkv])
   clear HI
   go_wp2_with fail
   all_goals ((with_reducible refine HR.out _ _ ⟨?_,?_⟩)<;>first|exact zbd (by rw[HE.out])|exact M.out.2.1.1)
end
section
open Go.RowKit
theorem oneI: ∀a:Int, ∀u∈encI a,u.oneCell'=true:=by intro a u hu;simp at hu;subst hu;rfl
def RetI (w:World)(r:List Int × Int)(e:Ending)(w':World):Prop:=
 ∃A c,e= .returned (.tuple #[.slice A r.1.length c, .int .i64 r.2])∧RdI w' w.heap.size w'.heap.size (.slice A r.1.length c) r.1∧Below w.heap.size w w'
theorem RetI.nil {w w':World}{r:List Int × Int}{c:Int}(h:r=([],c))(hb:Below w.heap.size w w'):RetI w r (.returned (.tuple #[.slice none 0 0, .int .i64 c])) w':=by
 subst h
 exact⟨none,0,rfl,Rd.nil _ _ _,hb⟩
theorem RetI.mk {w w':World}{r:List Int × Int}{l:List Int}{n k:Nat}{A:Option Addr}{c:Int}(h:r=(l,c))(hn:n=l.length){lo hi:Nat}(hr:RdI w' lo hi (.slice A n k) l)(hlo:w.heap.size≤lo)(hhi:hi≤w'.heap.size)(hb:Below w.heap.size w w'):RetI w r (.returned (.tuple #[.slice A n k, .int .i64 c])) w':=by
 subst h hn
 exact⟨A,k,rfl,hr.mono hlo hhi,hb⟩
def oneL (k:Nat)(p:Int):List Int:=(List.replicate k 0).set p.toNat 1
def oneE (n:Net)(p:Int):List Int × Int:=if zb7 n then(oneL n.places.toNat p,0) else([],1)
theorem zg5 {n:Net}(h:zb7 n=true):(0≤n.source∧n.source<n.places)∧(0≤n.sink∧n.sink<n.places):=by
 rw[←zrk] at h
 unfold zg7 at h
 split at h
 ·
  cases h
 ·
  omega
theorem zbu {n:Net}(h:zb7 n=true):1≤n.places∧n.places≤40∧n.trans.length≤60:=by
 unfold zb7 at h
 split at h
 ·
  cases h
 ·
  omega
theorem zux {n:Net}{b:Bool}(hb:zb7 n=b)(vt:Value)(lo hi:Nat)(w:World)(hv:RdT w lo hi vt n.trans):
  Calls Tryz.prog 76 #[netV n vt] w fun e w'=>e= .returned (.bool b)∧Below w.heap.size w w':=hb▸zrh n vt lo hi w hv
theorem zcs {n:Net}{b:Bool}(hb:zb7 n=b)(vt:Value)(lo hi:Nat)(w:World)(hv:RdT w lo hi vt n.trans):
  Calls Tryz.prog 30 #[netV n vt] w fun e w'=>e= .returned (.bool b)∧Below w.heap.size w w':=hb▸zo5 n vt lo hi w hv
theorem mk_int {x:Int}{k:Nat}(h:x=k)(hk:k≤1000000): ∀w:World,(Instr.makeSlice 38 (.int .i64 x) (.int .i64 x)).run Tryz.prog w= .ok (.slice (some ⟨w.heap.size,0,none⟩) k k) (w.alloc (.cells (madeCells #[.int .i64 0] k) 3)):=by
 intro w
 subst h
 have:=run_mk zhm w k xa xa
 rw[Nat.mul_one] at this
 exact this
theorem OwnI.made (W:World)(n:Nat)(hn:n≤1000000):OwnI (W.alloc (.cells (madeCells #[.int .i64 0] n) 3)) W.heap.size (W.heap.size+1) (.slice (some ⟨W.heap.size,0,none⟩) n n) (List.replicate n 0):=by
 have:=Own.made (enc:=encI) zhm W W.heap.size n 0 J (Nat.le_refl _) xa (fun _=>rfl)
 rw[Nat.mul_one] at this
 exact this
theorem z6u (W:World)(cs:Array Value)(t:TypeId)(k:Nat)(u:Value):(W.alloc (.cells cs t)).setCell ⟨W.heap.size,k,none⟩ u=W.alloc (.cells (cs.setIfInBounds k u) t):=by
 simp[go_sem]
set_option maxHeartbeats 1000000 in
theorem zzu (n:Net)(p:Int)(vt:Value)(lo hi:Nat)(w:World)(hv:RdT w lo hi vt n.trans)(hp:zb7 n=true→0≤p∧p<n.places):
  Calls Tryz.prog 101 #[netV n vt, .int .i64 p] w (RetI w (oneE n p)):=by
 obtain⟨A,c,rfl,hc,hm⟩:=hv.form
 have HV:=Lib.hid hv
 clear hv
 cases hvb:zb7 n
 ·
  have HVB:=Lib.hid hvb
  clear hvb hp
  refine zak fun R hR=>?_
  have HR:=Lib.hid hR
  clear hR
  go_enter Tryz.func101,Tryz.ntmps101
  have M:Hid (Mem [Loc.k4 w.heap.size (.int .i64 n.places) (.slice A n.trans.length c) (.int .i64 n.source) (.int .i64 n.sink),Loc.bl w.heap.size w] (w.alloc (.cells #[.int .i64 n.places, .slice A n.trans.length c, .int .i64 n.source, .int .i64 n.sink] 24))):=Lib.hid ⟨K4.new w _ _ _ _ _,⟨(Below.refl _ _).alloc (Nat.le_refl _) _,by simp⟩,True.intro⟩
  have hk4:=M.out.1
  go_wp2_with (go_at_call 76;refine(zux HVB.out _ lo hi _ (HV.out.after M.out.2.1.1)).mono ?_;rintro e w1 ⟨rfl,hb1⟩;replace M:=Lib.hid (M.out.below hb1);clear hb1;replace hk4:=M.out.1)
  exact HR.out _ _ (RetI.nil (by rw[oneE,HVB.out];rfl) M.out.2.1.1)
 ·
  have HVB:=Lib.hid hvb
  have hpl:=zbu hvb
  have hpp:=hp hvb
  clear hvb hp
  obtain⟨np,hnp⟩: ∃k:Nat,n.places=k:=⟨n.places.toNat,by omega⟩
  obtain⟨kp,rfl⟩: ∃k:Nat,p=k:=⟨p.toNat,by omega⟩
  have hlt:kp<np:=by omega
  have hmk:=mk_int hnp xa
  have HNP:=Lib.hid hnp
  have hn40:np≤40:=by omega
  clear hnp hpl hpp
  refine zak fun R hR=>?_
  have HR:=Lib.hid hR
  clear hR
  go_enter Tryz.func101,Tryz.ntmps101
  have M:Hid (Mem [Loc.k4 w.heap.size (.int .i64 n.places) (.slice A n.trans.length c) (.int .i64 n.source) (.int .i64 n.sink),Loc.bl w.heap.size w] (w.alloc (.cells #[.int .i64 n.places, .slice A n.trans.length c, .int .i64 n.source, .int .i64 n.sink] 24))):=Lib.hid ⟨K4.new w _ _ _ _ _,⟨(Below.refl _ _).alloc (Nat.le_refl _) _,by simp⟩,True.intro⟩
  have hk4:=M.out.1
  go_wp2_with (first
   |(go_at_call 76;refine(zux HVB.out _ lo hi _ (HV.out.after M.out.2.1.1)).mono ?_;rintro e w1 ⟨rfl,hb1⟩;replace M:=Lib.hid (M.out.below hb1);clear hb1;replace hk4:=M.out.1;have HO:=Lib.hid (OwnI.made w1 np xa);have hat:=OwnI.at1 HO.out (k:=kp) (by simp;omega)))
  refine HR.out _ _ (RetI.mk (l:=oneL np kp) (by simp[oneE,HVB.out,HNP.out]) (by simp[oneL]) (Own.rd (z6u w1 _ _ kp _▸OwnI.set HO.out kp 1)) M.out.2.1.2 xm ?_)
  exact(M.out.2.1.1).alloc M.out.2.1.2 _
set_option maxHeartbeats 400000 in
theorem zjn (n:Net)(vt:Value)(lo hi:Nat)(w:World)(hv:RdT w lo hi vt n.trans):
  Calls Tryz.prog 129 #[netV n vt] w (RetI w (oneE n n.source)):=by
 have HV:=Lib.hid hv
 have HP:=Lib.hid (@zg5 n)
 obtain⟨A,c,rfl,hc,hm⟩:=hv.form
 clear hv
 refine zak fun R hR=>?_
 have HR:=Lib.hid hR
 clear hR
 go_enter Tryz.func129,Tryz.ntmps129
 have M:Hid (Mem [Loc.k4 w.heap.size (.int .i64 n.places) (.slice A n.trans.length c) (.int .i64 n.source) (.int .i64 n.sink),Loc.bl w.heap.size w] (w.alloc (.cells #[.int .i64 n.places, .slice A n.trans.length c, .int .i64 n.source, .int .i64 n.sink] 24))):=Lib.hid ⟨K4.new w _ _ _ _ _,⟨(Below.refl _ _).alloc (Nat.le_refl _) _,by simp⟩,True.intro⟩
 have hk4:=M.out.1
 go_wp2_with (go_at_call 101;refine(zzu n _ _ lo hi _ (HV.out.after M.out.2.1.1) (fun h=>(HP.out h).1)).mono ?_;rintro e w1 ⟨A1,c1,rfl,hr1,hb1⟩;have HR1:=Lib.hid hr1;replace M:=Lib.hid (M.out.below hb1);clear hb1 hr1)
 exact HR.out _ _ ⟨_,_,rfl,(HR1.out.mono xm (Nat.le_refl _)),M.out.2.1.1⟩
set_option maxHeartbeats 400000 in
theorem zkh (n:Net)(vt:Value)(lo hi:Nat)(w:World)(hv:RdT w lo hi vt n.trans):
  Calls Tryz.prog 46 #[netV n vt] w (RetI w (oneE n n.sink)):=by
 have HV:=Lib.hid hv
 have HP:=Lib.hid (@zg5 n)
 obtain⟨A,c,rfl,hc,hm⟩:=hv.form
 clear hv
 refine zak fun R hR=>?_
 have HR:=Lib.hid hR
 clear hR
 go_enter Tryz.func46,Tryz.ntmps46
 have M:Hid (Mem [Loc.k4 w.heap.size (.int .i64 n.places) (.slice A n.trans.length c) (.int .i64 n.source) (.int .i64 n.sink),Loc.bl w.heap.size w] (w.alloc (.cells #[.int .i64 n.places, .slice A n.trans.length c, .int .i64 n.source, .int .i64 n.sink] 24))):=Lib.hid ⟨K4.new w _ _ _ _ _,⟨(Below.refl _ _).alloc (Nat.le_refl _) _,by simp⟩,True.intro⟩
 have hk4:=M.out.1
 go_wp2_with (go_at_call 101;refine(zzu n _ _ lo hi _ (HV.out.after M.out.2.1.1) (fun h=>(HP.out h).2)).mono ?_;rintro e w1 ⟨A1,c1,rfl,hr1,hb1⟩;have HR1:=Lib.hid hr1;replace M:=Lib.hid (M.out.below hb1);clear hb1 hr1)
 exact HR.out _ _ ⟨_,_,rfl,(HR1.out.mono xm (Nat.le_refl _)),M.out.2.1.1⟩
def zdd (n:Net)(m:List Int):Bool:=zb7 n && zdx n m
theorem zs2: ∀m:List Int,zkv m=!m.any fun k=>decide (k<0)||decide (100<k)
 |[]=>rfl
 |k::l=>by
  simp only[zkv,List.any_cons]
  rw[zs2 l]
  grind
theorem zsl:Ent 190:=zdf Tryz.func190 (by kernel_rfl) rfl
set_option maxHeartbeats 400000 in
theorem zr4 (k:Int)(w:World):Calls Tryz.prog 190 #[.int .i64 k] w fun e w'=>e= .returned (.bool (decide (k<0)||decide (100<k)))∧Below w.heap.size w w':=by
 refine zak fun R hR=>?_
 have HR:=Lib.hid hR
 clear hR
 go_enter Tryz.func190,Tryz.ntmps190
 go_wp2_with fail
 all_goals (refine HR.out _ _ ⟨zbd ?_,Below.refl _ _⟩<;>(go_light;grind))
set_option maxHeartbeats 1000000 in
theorem ztn (n:Net)(m:List Int)(vt v:Value)(lo hi lo' hi':Nat)(w:World)(hv:RdT w lo hi vt n.trans)(hm:RdI w lo' hi' v m):
  Calls Tryz.prog 146 #[netV n vt,v] w fun e w'=>e= .returned (.bool (zdd n m))∧Below w.heap.size w w':=by
 have HC:=Lib.hid (fun (W:World) (hW:Below w.heap.size w W)=>zjc 190 zsl #[] (fun k=>decide (k<0)||decide (100<k)) m lo' hi' v W (hm.after hW) (fun a _ W _=>zr4 a W))
 obtain⟨A,c,rfl,hc,hmm⟩:=hv.form
 obtain⟨A2,c2,rfl,hc2,hmm2⟩:=hm.form
 have HV:=Lib.hid hv
 clear hv hm
 refine zak fun R hR=>?_
 have HR:=Lib.hid hR
 clear hR
 go_enter Tryz.func146,Tryz.ntmps146
 have M:Hid (Mem [Loc.k4 w.heap.size (.int .i64 n.places) (.slice A n.trans.length c) (.int .i64 n.source) (.int .i64 n.sink),Loc.bl w.heap.size w] (w.alloc (.cells #[.int .i64 n.places, .slice A n.trans.length c, .int .i64 n.source, .int .i64 n.sink] 24))):=Lib.hid ⟨K4.new w _ _ _ _ _,⟨(Below.refl _ _).alloc (Nat.le_refl _) _,by simp⟩,True.intro⟩
 have hk4:=M.out.1
 go_wp2_with (first
  |(go_at_call 76;refine(zrh n _ lo hi _ (HV.out.after M.out.2.1.1)).mono ?_;rintro e w1 ⟨rfl,hb1⟩;replace M:=Lib.hid (M.out.below hb1);clear hb1;replace hk4:=M.out.1)
  |(go_at_call 189;refine(HC.out _ M.out.2.1.1).mono ?_;rintro e w1 ⟨rfl,hb1⟩;replace M:=Lib.hid (M.out.below hb1);clear hb1;replace hk4:=M.out.1))
 all_goals ((with_reducible refine HR.out _ _ ⟨?_,?_⟩)<;>first|exact zbd (by go_light;simp only[zdd,zdx,zs2];grind)|exact M.out.2.1.1)
end
section
open Go.RowKit
structure Cst where
 log:Int
 model:Int
 silent:Int
abbrev cstV (c:Cst):Value:= .agg #[.int .i64 c.log, .int .i64 c.model, .int .i64 c.silent]
def inB (k:Int):Bool:=decide (0≤k) && decide (k≤1000)
def vcB (c:Cst):Bool:=inB c.log && (inB c.model && inB c.silent)
def zbf (c:Cst)(k:Int):Int:=if k=2 then c.log else if k=3 then c.model else if k=4 then c.silent else 0
theorem zin {c:Cst}(h:vcB c=true)(k:Int):0≤zbf c k∧zbf c k≤1000:=by
 unfold vcB inB at h
 simp only[Bool.and_eq_true,decide_eq_true_eq] at h
 unfold zbf
 split
 ·
  omega
 ·
  split
  ·
   omega
  ·
   split<;>omega
def zcr (c:Cst)(l:List Stp):Nat→Int
 |0=>0
 |k+1=>zcr c l k+zbf c (gti l k).kind
theorem zod {c:Cst}(h:vcB c=true)(l:List Stp): ∀k:Nat,0≤zcr c l k∧zcr c l k≤1000*k
 |0=>by simp[zcr]
 |k+1=>by
  have:=zod h l k
  have:=zin h (gti l k).kind
  simp only[zcr]
  omega
abbrev stpM (m:Stp):Value:= .agg #[.int .i64 m.kind, .int .i64 m.trans, .string m.act]
set_option maxHeartbeats 400000 in
theorem zzj (c:Cst)(m:Stp)(w:World):Calls Tryz.prog 134 #[cstV c,stpM m] w fun e w'=>e= .returned (.int .i64 (zbf c m.kind))∧Below w.heap.size w w':=by
 obtain⟨kd,tr,ac⟩:=m
 simp only
 refine zak fun R hR=>?_
 have HR:=Lib.hid hR
 clear hR
 go_enter Tryz.func134,Tryz.ntmps134
 go_wp2_with fail
 all_goals (refine HR.out _ _ ⟨zfj ?_,?_⟩<;>first|exact((Below.refl _ _).alloc (Nat.le_refl _) _).alloc (by simp) _|(go_light;grind [zbf]))
set_option maxHeartbeats 400000 in
theorem zy9 (c:Cst)(m:Stp)(w:World):Calls Tryz.prog 27 #[cstV c,stpM m] w fun e w'=>e= .returned (.int .i64 (zbf c m.kind))∧Below w.heap.size w w':=by
 obtain⟨kd,tr,ac⟩:=m
 simp only
 refine zak fun R hR=>?_
 have HR:=Lib.hid hR
 clear hR
 go_enter Tryz.func27,Tryz.ntmps27
 go_wp2_with fail
 all_goals (refine HR.out _ _ ⟨zfj ?_,?_⟩<;>first|exact((Below.refl _ _).alloc (Nat.le_refl _) _).alloc (by simp) _|(go_light;grind [zbf]))
set_option maxHeartbeats 400000 in
theorem z6i (k:Int)(w:World):Calls Tryz.prog 99 #[.int .i64 k] w fun e w'=>e= .returned (.bool (inB k))∧Below w.heap.size w w':=by
 refine zak fun R hR=>?_
 have HR:=Lib.hid hR
 clear hR
 go_enter Tryz.func99,Tryz.ntmps99
 go_wp2_with fail
 all_goals (refine HR.out _ _ ⟨zbd ?_,Below.refl _ _⟩<;>(go_light;grind [inB]))
set_option maxHeartbeats 400000 in
theorem zi3 (c:Cst)(w:World):Calls Tryz.prog 44 #[cstV c] w fun e w'=>e= .returned (.bool (vcB c))∧Below w.heap.size w w':=by
 have M:Hid (Mem [Loc.k3 w.heap.size (.int .i64 c.log) (.int .i64 c.model) (.int .i64 c.silent),Loc.bl w.heap.size w] (w.alloc (.cells #[.int .i64 c.log, .int .i64 c.model, .int .i64 c.silent] 27))):=Lib.hid ⟨K3.new w _ _ _ _,⟨(Below.refl _ _).alloc (Nat.le_refl _) _,by simp⟩,True.intro⟩
 have hk3:=M.out.1
 refine zak fun R hR=>?_
 have HR:=Lib.hid hR
 clear hR
 go_enter Tryz.func44,Tryz.ntmps44
 go_wp2_with (go_at_call 99;refine(z6i _ _).mono ?_;rintro e w1 ⟨rfl,hb1⟩;replace M:=Lib.hid (M.out.below hb1);clear hb1;replace hk3:=M.out.1)
 all_goals ((with_reducible refine HR.out _ _ ⟨?_,?_⟩)<;>first|exact zbd (by go_light;grind [vcB])|exact M.out.2.1.1)
set_option maxHeartbeats 1000000 in
theorem zhx (c:Cst)(w:World):Calls Tryz.prog 31 #[cstV c] w fun e w'=>e= .returned (.bool (vcB c))∧Below w.heap.size w w':=by
 have M:Hid (Mem [Loc.k3 w.heap.size (.int .i64 c.log) (.int .i64 c.model) (.int .i64 c.silent),Loc.bl w.heap.size w] (w.alloc (.cells #[.int .i64 c.log, .int .i64 c.model, .int .i64 c.silent] 27))):=Lib.hid ⟨K3.new w _ _ _ _,⟨(Below.refl _ _).alloc (Nat.le_refl _) _,by simp⟩,True.intro⟩
 have hk3:=M.out.1
 refine zak fun R hR=>?_
 have HR:=Lib.hid hR
 clear hR
 go_enter Tryz.func31,Tryz.ntmps31
 go_wp2_with fail
 all_goals ((with_reducible refine HR.out _ _ ⟨?_,?_⟩)<;>first|exact zbd (by go_light;grind [vcB,inB])|exact M.out.2.1.1)
theorem zp2 {c:Cst}{z:Bool}(h:vcB c=z)(w:World):Calls Tryz.prog 44 #[cstV c] w fun e w'=>e= .returned (.bool z)∧Below w.heap.size w w':=h▸zi3 c w
theorem zoo {c:Cst}{z:Bool}(h:vcB c=z)(w:World):Calls Tryz.prog 31 #[cstV c] w fun e w'=>e= .returned (.bool z)∧Below w.heap.size w w':=h▸zhx c w
def fewL:List Stp→Bool
 |[]=>true
 |m::l=>if m.kind<1∨4<m.kind then false else fewL l
theorem z0y: ∀l,fewL l=l.all fun m=>zfl m.kind
 |[]=>rfl
 |m::l=>by
  rw[fewL,z0y l,List.all_cons]
  unfold zfl
  grind
theorem z39 (l:List Stp):fineB l=if 4000<l.length then false else fewL l:=by
 unfold fineB
 rw[←z0y]
 grind
set_option maxHeartbeats 1000000 in
theorem z3b (l:List Stp)(lo hi:Nat)(v:Value)(w:World)(hv:RdM w lo hi v l):
  Calls Tryz.prog 123 #[v] w fun e w'=>e= .returned (.bool (fineB l))∧Below w.heap.size w w':=by
 obtain⟨A,c,rfl,hc,hm⟩:=hv.form
 have HV:=Lib.hid hv
 clear hv
 have HF:=Lib.hid (z39 l)
 refine zak fun R hR=>?_
 have HR:=Lib.hid hR
 clear hR
 go_enter Tryz.func123,Tryz.ntmps123
 go_wp2_with fail
 ·
  exact HR.out _ _ ⟨zbd (by rw[HF.out];clear HF;go_light;grind),Below.refl _ _⟩
 have HI:Hid (fineB l=fewL l):=Lib.hid (by rw[HF.out];clear HF;go_light;grind)
 go_loop [3] (fun v3=> ∃k:Nat,k≤l.length∧v3= .int .i64 k∧Hid (fineB l=fewL (l.drop k))) (fun v3=>l.length-(intOf v3).toNat)
 case atStart=>exact⟨0,by omega,rfl,HI⟩
 case round=>
  clear HI HF
  obtain⟨k,hk,rfl,HI⟩:=hrel
  by_cases hlt:k<l.length
  ·
   obtain⟨b,off,rfl,_,_,hcell⟩:=RdM.at3 HV.out hlt
   have HJ:Hid (fineB l=if (gti l k).kind<1∨4<(gti l k).kind then false else fewL (l.drop (k+1))):=Lib.hid (by rw[HI.out,zc2 hlt,fewL])
   generalize gti l k=x at*
   obtain⟨kd,tr,ac⟩:=x
   simp only at hcell HJ
   go_wp2_with fail
   all_goals have hj:=HJ.out
   all_goals first
    |((with_reducible refine HR.out _ _ ⟨?_,?_⟩)<;>first|exact zbd (by clear HJ HI;go_light;grind)|exact Below.refl _ _)
    |(refine⟨⟨k+1,by omega,by go_num,Lib.hid (by clear HJ HI;go_light;grind)⟩,by simp[intOf];omega⟩)
  ·
   obtain rfl:k=l.length:=by omega
   have HE:Hid (fineB l=true):=Lib.hid (by rw[HI.out];simp[fewL])
   clear HI
   go_wp2_with fail
   all_goals ((with_reducible refine HR.out _ _ ⟨?_,?_⟩)<;>first|exact zbd (by rw[HE.out])|exact Below.refl _ _)
theorem z77 {l:List Stp}{z:Bool}(h:fineB l=z)(lo hi:Nat)(v:Value)(w:World)(hv:RdM w lo hi v l):
  Calls Tryz.prog 131 #[v] w fun e w'=>e= .returned (.bool z)∧Below w.heap.size w w':=h▸z38 l lo hi v w hv
theorem z67 {l:List Stp}{z:Bool}(h:fineB l=z)(lo hi:Nat)(v:Value)(w:World)(hv:RdM w lo hi v l):
  Calls Tryz.prog 123 #[v] w fun e w'=>e= .returned (.bool z)∧Below w.heap.size w w':=h▸z3b l lo hi v w hv
theorem z1o:Ent 133:=zdf Tryz.func133 (by kernel_rfl) rfl
set_option maxHeartbeats 400000 in
theorem z1x (c:Cst)(x:Int)(m:Stp)(g:Nat)(w:World)(hg:K3 w g (.int .i64 c.log) (.int .i64 c.model) (.int .i64 c.silent))(hx: -9223372036854775808≤x+zbf c m.kind∧x+zbf c m.kind≤9223372036854775807):
  Calls Tryz.prog 133 #[.int .i64 x,stpM m, .pointer (some ⟨g,0,none⟩)] w fun e w'=>e= .returned (.int .i64 (x+zbf c m.kind))∧Below w.heap.size w w':=by
 have M:Hid (Mem [Loc.k3 g (.int .i64 c.log) (.int .i64 c.model) (.int .i64 c.silent),Loc.k3 w.heap.size (.int .i64 m.kind) (.int .i64 m.trans) (.string m.act),Loc.bl w.heap.size w] (w.alloc (.cells #[.int .i64 m.kind, .int .i64 m.trans, .string m.act] 66))):=Lib.hid ⟨K3.aft ((Below.refl _ _).alloc (Nat.le_refl _) _) hg,K3.new w _ _ _ _,⟨(Below.refl _ _).alloc (Nat.le_refl _) _,by simp⟩,True.intro⟩
 have hk3:=M.out.1
 have hk4:=M.out.2.1
 clear hg
 refine zak fun R hR=>?_
 have HR:=Lib.hid hR
 clear hR
 go_enter Tryz.func133,Tryz.ntmps133
 go_wp2_with (go_at_call 134;refine(zzj _ _ _).mono ?_;rintro e w1 ⟨rfl,hb1⟩;replace M:=Lib.hid (M.out.below hb1);clear hb1;skip)
 exact HR.out _ _ ⟨zfj (by first|rfl|(go_light;omega)),M.out.2.2.1.1⟩
set_option maxHeartbeats 1000000 in
theorem z0v (f:FuncId)(hent:Ent f)(cap:Array Value)(acc:Nat→Int)(l:List Stp)(lo hi:Nat)(v:Value)(w:World)(hv:RdM w lo hi v l)
  (hf: ∀k,k<l.length→ ∀W,Below w.heap.size w W→Calls Tryz.prog f (#[.int .i64 (acc k),stpM (gti l k)]++cap) W fun e W'=>e= .returned (.int .i64 (acc (k+1)))∧Below W.heap.size W W'):
  Calls Tryz.prog 132 #[v, .int .i64 (acc 0), .func (.func f) #[] cap] w fun e w'=>e= .returned (.int .i64 (acc l.length))∧Below w.heap.size w w':=by
 obtain⟨A,c,rfl,hc,hm⟩:=hv.form
 unfold Ent at hent
 have HF:=Lib.hid hf
 clear hf
 have HV:=Lib.hid hv
 clear hv
 have M:Hid (Mem [Loc.bl w.heap.size w] w):=Lib.hid ⟨⟨Below.refl _ _,Nat.le_refl _⟩,True.intro⟩
 refine zak fun R hR=>?_
 have HR:=Lib.hid hR
 clear hR
 go_enter Tryz.func132,Tryz.ntmps132
 go_wp2_with fail
 go_loopw [11,1,8] (fun v11 v1 _ wr=> ∃k:Nat,k≤l.length∧v11= .int .i64 k∧v1= .int .i64 (acc k)∧Hid (Mem [Loc.bl w.heap.size w] wr)) (fun v11 _ _ _=>l.length-(intOf v11).toNat)
 case atStart=>exact⟨0,by omega,rfl,rfl,M⟩
 case round=>
  clear M
  obtain⟨k,hk,rfl,rfl,M⟩:=hrel
  by_cases hlt:k<l.length
  ·
   obtain⟨b,off,rfl,_,_,hcell⟩:=RdM.at3 (HV.out.after M.out.1.1) hlt
   have HFK:=Lib.hid (HF.out k hlt)
   generalize gti l k=x at*
   obtain⟨kd,tr,ac⟩:=x
   simp only at hcell
   replace M:Hid (Mem [Loc.k3 wr.heap.size (.int .i64 kd) (.int .i64 tr) (.string ac),Loc.bl w.heap.size w] (wr.alloc (.cells #[.int .i64 kd, .int .i64 tr, .string ac] 66))):=Lib.hid ⟨K3.new wr _ _ _ _,M.out.alloc _⟩
   have hk3:=M.out.1
   go_wp2_with fail
   refine(HFK.out _ M.out.2.1.1).mono ?_
   rintro e w1 ⟨rfl,hb1⟩
   replace M:=Lib.hid (M.out.below hb1)
   clear hb1
   go_wp2_with fail
   refine⟨⟨k+1,by omega,by go_num,rfl,Lib.hid M.out.2⟩,by simp[intOf];omega⟩
  ·
   obtain rfl:k=l.length:=by omega
   go_wp2_with fail
   exact HR.out _ _ ⟨rfl,M.out.1.1⟩
def zi0 (c:Cst)(l:List Stp):Int × Int:=if vcB c && fineB l then(zcr c l l.length,0) else(0,1)
theorem zkg {l:List Stp}(h:fineB l=true):l.length≤4000:=by
 unfold fineB at h
 simp only[Bool.and_eq_true,decide_eq_true_eq] at h
 exact h.1
theorem zhw {a b c d:Int}(h:(a,b)=(c,d)):Ending.returned (.tuple #[.int .i64 a, .int .i64 b])= .returned (.tuple #[.int .i64 c, .int .i64 d]):=by
 injection h with h1 h2;rw[h1,h2]
set_option maxHeartbeats 1000000 in
theorem zwr (c:Cst)(l:List Stp)(lo hi:Nat)(v:Value)(w:World)(hv:RdM w lo hi v l):
  Calls Tryz.prog 72 #[cstV c,v] w fun e w'=>e= .returned (.tuple #[.int .i64 (zi0 c l).1, .int .i64 (zi0 c l).2])∧Below w.heap.size w w':=by
 have HV:=Lib.hid hv
 obtain⟨A,cc,rfl,hc,hm⟩:=hv.form
 clear hv
 obtain⟨z,hz⟩: ∃z,vcB c=z:=⟨_,rfl⟩
 obtain⟨y,hy⟩: ∃y,fineB l=y:=⟨_,rfl⟩
 have HZ:=Lib.hid hz
 have HY:=Lib.hid hy
 have HCE:Hid (zi0 c l=if z && y then(zcr c l l.length,0) else(0,1)):=Lib.hid (by rw[zi0,hz,hy])
 clear hz hy
 have M:Hid (Mem [Loc.k3 w.heap.size (.int .i64 c.log) (.int .i64 c.model) (.int .i64 c.silent),Loc.bl w.heap.size w] (w.alloc (.cells #[.int .i64 c.log, .int .i64 c.model, .int .i64 c.silent] 27))):=Lib.hid ⟨K3.new w _ _ _ _,⟨(Below.refl _ _).alloc (Nat.le_refl _) _,by simp⟩,True.intro⟩
 cases z<;>cases y
 all_goals
  refine zak fun R hR=>?_
  have HR:=Lib.hid hR
  clear hR
  go_enter Tryz.func72,Tryz.ntmps72
  have hk3:=M.out.1
  go_wp2_with (first
   |(go_at_call 44;refine(zp2 HZ.out _).mono ?_;rintro e w1 ⟨rfl,hb1⟩;replace M:=Lib.hid (M.out.below hb1);clear hb1;replace hk3:=M.out.1)
   |(go_at_call 131;refine(z77 HY.out lo hi _ _ (HV.out.after M.out.2.1.1)).mono ?_;rintro e w1 ⟨rfl,hb1⟩;replace M:=Lib.hid (M.out.below hb1);clear hb1;replace hk3:=M.out.1)
   |(go_at_call 132;refine(z0v 133 z1o #[.pointer (some ⟨w.heap.size,0,none⟩)] (zcr c l) l lo hi _ _ (HV.out.after M.out.2.1.1) (fun k hk W hW=>z1x c _ _ _ W (K3.aft hW M.out.1) (by have h1:=zod HZ.out l k;have h2:=zin HZ.out (gti l k).kind;have h3:=zkg HY.out;omega))).mono ?_;rintro e w1 ⟨rfl,hb1⟩;replace M:=Lib.hid (M.out.below hb1);clear hb1;skip))
 ·
  exact HR.out _ _ ⟨zhw (by rw[HCE.out];rfl),M.out.2.1.1⟩
 ·
  exact HR.out _ _ ⟨zhw (by rw[HCE.out];rfl),M.out.2.1.1⟩
 ·
  exact HR.out _ _ ⟨zhw (by rw[HCE.out];rfl),M.out.2.1.1⟩
 ·
  exact HR.out _ _ ⟨zhw (by rw[HCE.out];rfl),M.out.2.1.1⟩
end
section
open Go.RowKit
section
variable {α:Type}{t e size bytes:Nat}{z:Value}{enc:α→List Value}
end
end
end Go.Proofs.YtjdpnadhgjohnaaGreatDoor
