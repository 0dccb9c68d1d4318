import Derived.Test.YtjdpnadhgjohnaaGreatDoorJN0
import Derived.Test.YtjdpnadhgjohnaaGreatDoorJN6
import Derived.Lib.AppendZeros
set_option linter.unusedSimpArgs false
set_option linter.unusedVariables false
set_option linter.unusedSectionVars false
namespace Go.Proofs.YtjdpnadhgjohnaaGreatDoor
section
open Go.RowKit
theorem zg8:TI 54 66 3 32 (.agg #[.int .i64 0, .int .i64 0, .string ByteArray.empty]):=TI.mk Tryz.underlying54 (by kernel_rfl) rfl xe
theorem oneM: ∀a:Stp, ∀u∈encM a,u.oneCell'=true:=by
 intro a u hu
 simp only[encM,List.mem_cons,List.not_mem_nil,or_false] at hu
 rcases hu with rfl|rfl|rfl<;>rfl
abbrev Loc.owM (lo hi:Nat)(v:Value)(l:List Stp):Loc:=Loc.ow 66 3 encM lo hi v l
theorem z32 (w:World)(k cap:Nat)(cs:Array Value)(hcs:cs.size=cap*3)(hm:cap≤maxLen):Own 66 3 encM (w.drew.alloc (.cells cs 66)) w.heap.size (w.heap.size+1) (.slice (some ⟨w.heap.size,0,none⟩) 0 cap) []:=by
 refine⟨⟨by simp, .inr ⟨w.heap.size,cap,cs,rfl,Nat.le_refl _,heap_alloc_new w.drew _,Nat.zero_le _,hm,hcs,by simp⟩⟩,fun j hj=>?_⟩
 simp[Value.ownBlock] at hj
 omega
theorem zx5 (z:Array Value)(n:Nat):(Builtin.zeroCells z n).size=n*z.size:=by
 unfold Builtin.zeroCells
 simp
set_option maxHeartbeats 1000000 in
theorem z0s (k:Nat)(w:World)(hk:k≤100000):
  Calls Tryz.prog 148 #[.slice none 0 0, .int .i64 k] w fun e w'=> ∃A c,e= .returned (.slice A 0 c)∧Own 66 3 encM w' w.heap.size w'.heap.size (.slice A 0 c) []∧Below w.heap.size w w':=by
 have hs1: ∀w:World,(Instr.slice 54 (.slice none 0 0) none (some (.int .i64 0)) none).run Tryz.prog w= .ok (.slice none 0 0) w:=fun w=>by
  obtain⟨i,ht,hi0,hz,hsize,hby,hzs,hsz⟩:=zg8
  simp[Instr.slice,run_underlying ht,Instr.sliceBounds,Instr.sliceBound,asIntOf,sizeOf,typeInfo,hi0]
 have hs2: ∀ (w:World) (a:Addr) (n c:Nat),(Instr.slice 54 (.slice (some a) n c) none (some (.int .i64 0)) none).run Tryz.prog w= .ok (.slice (some a) 0 c) w:=fun w a n c=>by
  obtain⟨i,ht,hi0,hz,hsize,hby,hzs,hsz⟩:=zg8
  simp[Instr.slice,run_underlying ht,Instr.sliceBounds,Instr.sliceBound,asIntOf,sizeOf,typeInfo,hi0,Addr.add]
 rcases Nat.eq_zero_or_pos k with rfl|hpos
 ·
  refine zak fun R hR=>?_
  have HR:=Lib.hid hR
  clear hR
  go_enter Tryz.func148,Tryz.ntmps148
  go_wp2_with fail
  exact HR.out _ _ ⟨none,0,rfl,Own.nil _ _ _,Below.refl _ _⟩
 ·
  have hkp:(0:Int)<k:=by omega
  obtain⟨i,ht,hi0,hz,hsize,hby,hzs,hsz⟩:=zg8
  have hrun:=fun w ty=>Lib.run_append_nil_zeros (P:=Tryz.prog) w 54 3 ty 66 i _ .i64 .i64 ht Tryz.underlying3 hi0 hz k hpos xa xa (by rw[hby];omega)
  have HRUN:=Lib.hid hrun
  clear hrun
  have hcap:=grownCap_ge w k 0 66
  have hcap2:=grownCap_le_maxLen w k 0 66 (by unfold maxLen;omega)
  have HO:=Lib.hid (z32 w k (grownCap w k 0 66) (Builtin.zeroCells (Value.agg #[.int .i64 0, .int .i64 0, .string ByteArray.empty]).cells k++Builtin.zeroCells (Value.agg #[.int .i64 0, .int .i64 0, .string ByteArray.empty]).cells (grownCap w k 0 66-k)) (by rw[Array.size_append,zx5,zx5,hzs];omega) hcap2)
  clear ht hi0 hz hsize hby hzs hsz
  refine zak fun R hR=>?_
  have HR:=Lib.hid hR
  clear hR
  go_enter Tryz.func148,Tryz.ntmps148
  go_wp2_with (at_builtin;refine Lib.wpList_append_run _ J _ _ _ _ J _ _ J J _ _ (HRUN.out _ _) ?_)
  refine HR.out _ _ ⟨_,_,rfl,?_,?_⟩
  ·
   have:=HO.out
   exact this.mono (Nat.le_refl _) xm
  ·
   exact((Below.refl _ _).drew).alloc xm _
end
section
open Go.RowKit
abbrev encQ (v:Value):List Value:=[v]
abbrev RdQ:=Rd 1 encQ
theorem RdQ.at1 {w:World}{lo hi:Nat}{A:Option Addr}{c:Nat}{l:List Value}(h:RdQ w lo hi (.slice A l.length c) l){k:Nat}(hk:k<l.length):
  ∃b off,A=some ⟨b,off,none⟩∧lo≤b∧b<hi∧C1 w b (off+k) (gti l k):=by
 obtain⟨b,off,hA,h1,h2,hc⟩:=Rd.at_ h (fun _=>rfl) (zbr hk)
 exact⟨b,off,hA,h1,h2,by have:=hc 0 _ J;rw[Nat.mul_one] at this;exact this⟩
def flat (ls:List (List Stp)):Nat→List Stp
 |0=>[]
 |k+1=>flat ls k++gti ls k
theorem zt0 (ls:List (List Stp)): ∀k,k≤ls.length→flat ls k=(ls.take k).flatten
 |0,_=>by simp[flat]
 |k+1,h=>by
  rw[flat,zt0 ls k xa,List.take_succ_eq_append_getElem xa,List.flatten_append]
  congr 1
  unfold gti
  rw[List.getElem?_eq_getElem xa]
  simp
theorem z0w (ls:List (List Stp))(k:Nat)(h:k≤ls.length):(flat ls k).length≤ls.flatten.length:=by
 rw[zt0 ls k h]
 conv=>rhs;rw[←List.take_append_drop k ls,List.flatten_append,List.length_append]
 omega
theorem zv4 (ls:List (List Stp)):flat ls ls.length=ls.flatten:=by rw[zt0 ls _ (Nat.le_refl _),List.take_length]
set_option maxHeartbeats 2000000 in
theorem zx1 (vs:List Value)(ls:List (List Stp))(v:Value)(lo hi lo2 hi2:Nat)(w:World)(hv:RdQ w lo hi v vs)(hlen:vs.length=ls.length)(hr: ∀k,k<ls.length→RdM w lo2 hi2 (gti vs k) (gti ls k))(hb:ls.flatten.length≤10000):
  Calls Tryz.prog 98 #[v] w fun e w'=> ∃A c,e= .returned (.slice A ls.flatten.length c)∧RdM w' w.heap.size w'.heap.size (.slice A ls.flatten.length c) ls.flatten∧Below w.heap.size w w':=by
 obtain⟨A,c,rfl,hc,hm⟩:=hv.form
 have HV:=Lib.hid hv
 have HRR:=Lib.hid hr
 have HB:=Lib.hid hb
 clear hv hr hb
 have HLE:=Lib.hid hlen
 rw[hlen] at hc hm
 clear hlen
 refine zak fun R hR=>?_
 have HR:=Lib.hid hR
 clear hR
 go_enter Tryz.func98,Tryz.ntmps98
 rw[HLE.out]
 go_wp2_with fail
 go_loop [11,3,5] (fun v11 v3 _=> ∃k:Nat,k≤ls.length∧v11= .int .i64 k∧v3= .int .i64 ((flat ls k).length:Nat)) (fun v11 _ _=>ls.length-(intOf v11).toNat)
 case atStart=>exact⟨0,by omega,rfl,rfl⟩
 case round=>
  obtain⟨k,hk,rfl,rfl⟩:=hrel
  by_cases hlt:k<ls.length
  ·
   have hv0:=HV.out
   obtain⟨b,off,rfl,_,_,hcell⟩:=RdQ.at1 hv0 (k:=k) (by rw[HLE.out];exact hlt)
   obtain⟨B,d,hg,_,hm2⟩:=(HRR.out k hlt).form
   rw[hg] at hcell
   have h1:=z0w ls (k+1) xa
   have h2:=HB.out
   have HF:Hid ((flat ls (k+1)).length=(flat ls k).length+(gti ls k).length):=Lib.hid (by rw[flat,List.length_append])
   rw[HF.out] at h1
   clear hg hv0
   generalize (flat ls k).length=x at*
   generalize (gti ls k).length=y at*
   have h3:ls.flatten.length≤10000:=h2
   go_wp2_with fail
   refine⟨⟨k+1,by omega,by go_num,by rw[HF.out];go_num⟩,by simp[intOf];omega⟩
  ·
   obtain rfl:k=ls.length:=by omega
   have hfl:(flat ls ls.length).length≤100000:=by rw[zv4];have:=HB.out;omega
   have M:Hid (Mem [Loc.bl w.heap.size w] w):=Lib.hid ⟨⟨Below.refl _ _,Nat.le_refl _⟩,True.intro⟩
   have HFN:=Lib.hid hfl
   go_wp2_with (go_at_call 148;refine(z0s _ _ HFN.out).mono ?_;rintro e w1 ⟨A1,c1,rfl,ho1,hb1⟩;replace M:Hid (Mem [Loc.owM w.heap.size w1.heap.size (.slice A1 0 c1) [],Loc.bl w.heap.size w] w1):=Lib.hid ⟨ho1,M.out.below hb1⟩;clear hb1 ho1)
   go_loopw [27,6,8] (fun v27 v6 _ wr=> ∃ (j:Nat) (B:Option Addr) (d hh:Nat),j≤ls.length∧v27= .int .i64 j∧v6= .slice B (flat ls j).length d∧hh≤wr.heap.size∧Hid (Mem [Loc.owM w.heap.size hh (.slice B (flat ls j).length d) (flat ls j),Loc.bl w.heap.size w] wr)) (fun v27 _ _ _=>ls.length-(intOf v27).toNat)
   case atStart=>exact⟨0,A1,c1,_,by omega,rfl,rfl,Nat.le_refl _,M⟩
   case round=>
    clear M
    obtain⟨j,B,d,hh,hj,rfl,rfl,hhs,M⟩:=hrel
    by_cases hltj:j<ls.length
    ·
     have hv0:=HV.out.after M.out.2.1.1
     obtain⟨b,off,rfl,_,_,hcell⟩:=RdQ.at1 hv0 (k:=j) (by rw[HLE.out];exact hltj)
     obtain⟨B2,d2,hg,_,hm2⟩:=(HRR.out j hltj).form
     have HX:=HRR.out j hltj
     rw[hg] at hcell HX
     have h1:=z0w ls (j+1) xa
     have h2:=HB.out
     have HF:Hid (flat ls (j+1)=flat ls j++gti ls j):=Lib.hid J
     rw[HF.out,List.length_append] at h1
     have hws:=M.out.2.1.2
     have HXX:=Lib.hid HX
     clear hg hv0 HX
     have h3:ls.flatten.length≤10000:=h2
     generalize flat ls j=cur at*
     generalize gti ls j=xs at*
     go_wp2_with (at_builtin;refine zcz J _ _ J zg8 (fun _=>rfl) oneM J J (M.out) (by(repeat' (first|exact True.intro|refine And.intro (fun k hk e=>?_) ?_))<;>(first|exact e|((try dsimp only[Loc.c1,Loc.c2,Loc.k1,Loc.k2,Loc.k3,Loc.k4,Loc.k6,Loc.fr,Loc.bl,Loc.own,Loc.sz,Loc.rd,Loc.rdI,Loc.rdS,Loc.rdM,Loc.rdT,Loc.ow,Loc.owI,Loc.owM] at hk e)<;>omega))) (HXX.out.after M.out.2.1.1) (by omega) (by omega) (by omega) ?_;intro A2 c2 w2 hM1 hs1 hch1;replace M:=Lib.hid hM1;clear hM1 hch1)
     have hM:=M.out
     have hl1:(flat ls (j+1)).length=cur.length+xs.length:=by rw[HF.out,List.length_append]
     rw[←HF.out, ←hl1] at hM
     refine⟨⟨j+1,A2,c2,_,by omega,by go_num,by rw[hl1],Nat.le_refl _,Lib.hid hM⟩,by simp[intOf];omega⟩
    ·
     obtain rfl:j=ls.length:=by omega
     have hfa:=zv4 ls
     have HFA:=Lib.hid hfa
     clear hfa
     go_wp2_with fail
     have hM:=M.out
     rw[HFA.out] at hM
     refine HR.out _ _ ⟨B,d,?_,hM.1.rd.mono (Nat.le_refl _) hhs,hM.2.1.1⟩
     rw[HFA.out]
     rfl
end
section
open Go.RowKit
def Dis (u v:Value):Prop:= ∀k,u.ownBlock=some k→v.ownBlock≠some k
theorem Dis.symm {u v:Value}(h:Dis u v):Dis v u:=fun k h1 h2=>h k h2 h1
theorem Dis.nil (v:Value):Dis (.slice none 0 0) v:=fun k h=>by cases h
abbrev OwnB (w:World)(lo:Nat)(v:Value)(l:List Stp):Prop:=w.ownsRow lo 66 3 v l.length (l.flatMap encM)
def Low (lo:Nat):List Loc→Prop
 |[]=>True
 |a::l=>(∀k,a.F k→k<lo)∧Low lo l
structure T3 (lo:Nat)(v1:Value)(l1:List Stp)(v2:Value)(l2:List Stp)(v3:Value)(l3:List Stp)(rest:List Loc)(w:World):Prop where
 o1:OwnB w lo v1 l1
 o2:OwnB w lo v2 l2
 o3:OwnB w lo v3 l3
 d12:Dis v1 v2
 d13:Dis v1 v3
 d23:Dis v2 v3
 low:Low lo rest
 s:lo≤w.heap.size
 r:Mem rest w
section
variable {lo:Nat}{v1 v2 v3:Value}{l1 l2 l3:List Stp}{rest:List Loc}{w W:World}
theorem T3.rot (h:T3 lo v1 l1 v2 l2 v3 l3 rest w):T3 lo v2 l2 v3 l3 v1 l1 rest w:=⟨h.o2,h.o3,h.o1,h.d23,h.d12.symm,h.d13.symm,h.low,h.s,h.r⟩
theorem T3.below (h:T3 lo v1 l1 v2 l2 v3 l3 rest w)(hb:Below w.heap.size w W):T3 lo v1 l1 v2 l2 v3 l3 rest W:=
 ⟨zm9 h.o1 hb,zm9 h.o2 hb,zm9 h.o3 hb,h.d12,h.d13,h.d23,h.low,Nat.le_trans h.s hb.size,h.r.below hb⟩
theorem T3.alloc (h:T3 lo v1 l1 v2 l2 v3 l3 rest w)(o:Obj):T3 lo v1 l1 v2 l2 v3 l3 rest (w.alloc o):=h.below ((Below.refl _ _).alloc (Nat.le_refl _) o)
theorem T3.drew (h:T3 lo v1 l1 v2 l2 v3 l3 rest w):T3 lo v1 l1 v2 l2 v3 l3 rest w.drew:=h.below ((Below.refl _ _).drew)
theorem T3.drewN (h:T3 lo v1 l1 v2 l2 v3 l3 rest w)(n:Nat):T3 lo v1 l1 v2 l2 v3 l3 rest (w.drewN n):=h.below (below_drewN (Below.refl _ _) n)
theorem zr6 {u:Value}{l:List Stp}(ho:OwnB w lo u l): ∀ {rest:List Loc},Low lo rest→zi1 (fun k=>u.ownBlock=some k) rest
 |[],_=>True.intro
 |a::rest,h=>⟨fun k hk he=>by have:=h.1 k hk;have:=(ho.lt k he).1;omega,zr6 ho h.2⟩
theorem OwnB.form (h:OwnB w lo v1 l1): ∃A c,v1= .slice A l1.length c:=by
 rcases h.2 with ⟨rfl,h2⟩|⟨g,cap,cur,hv,_⟩
 ·
  exact⟨none,0,by rw[h2]⟩
 ·
  exact⟨_,_,hv⟩
theorem OwnB.rd (h:OwnB w lo v1 l1):RdM w lo w.heap.size v1 l1:=Rd.of_own h
theorem zj1 (h:T3 lo v1 l1 v2 l2 v3 l3 rest w)(kd tr:Int)(ac:ByteArray)(ty:TypeId)(b:Nat)(hbb:w.heap.size=b)(hlen:l1.length≤100000):
  ∃A c w',(Builtin.append_ #[54,54] ty #[v1, .slice (some ⟨b,0,none⟩) 1 1]).run Tryz.prog (w.alloc (.cells #[.int .i64 kd, .int .i64 tr, .string ac] 66))= .ok (.slice A (l1++[(⟨kd,tr,ac⟩:Stp)]).length c) w'∧
   T3 lo (.slice A (l1++[(⟨kd,tr,ac⟩:Stp)]).length c) (l1++[(⟨kd,tr,ac⟩:Stp)]) v2 l2 v3 l3 rest w'∧w.heap.size≤w'.heap.size∧ ∀k,k<w.heap.size→v1.ownBlock≠some k→w'.heap[k]?=w.heap[k]?:=by
 subst hbb
 obtain⟨i,ht,hi0,hz,hsize,hby,hzs,hsz⟩:=zg8
 have ha:=h.alloc (.cells #[.int .i64 kd, .int .i64 tr, .string ac] 66)
 have hx:RdM (w.alloc (.cells #[.int .i64 kd, .int .i64 tr, .string ac] 66)) 0 (w.heap.size+1) (.slice (some ⟨w.heap.size,0,none⟩) 1 1) [(⟨kd,tr,ac⟩:Stp)]:=Rd.lit w 66 [(⟨kd,tr,ac⟩:Stp)] _ 1 J J xe (fun _=>rfl)
 obtain⟨b,off,hA,_,_,hc⟩:=RdC.cells hx xe
 injection hA with hA
 injection hA with e1 e2
 subst e1 e2
 obtain⟨v',w',hrun,h2,h3,_,h5⟩:=run_append_own_at (P:=Tryz.prog) _ lo 54 ty 66 i _ 3 32 ht hi0 hz hsize hby hzs hsz v1 l1.length (l1.flatMap encM) ha.o1 ⟨w.heap.size,0,none⟩ 1 1 ([(⟨kd,tr,ac⟩:Stp)].flatMap encM) rfl
  (fun j u hu=>by rw[zuo];exact hc j u hu) (fun u hu=>by obtain⟨a,_,ha⟩:=List.mem_flatMap.1 hu;exact oneM a u ha) (by unfold maxLen;omega) xa ha.s
 have hown:OwnB w' lo v' (l1++[(⟨kd,tr,ac⟩:Stp)]):=by
  unfold OwnB
  rw[List.length_append,List.flatMap_append]
  exact h2
 obtain⟨A,c,hv⟩:=hown.form
 have hd: ∀ {u:Value} {l:List Stp},Dis v1 u→OwnB (w.alloc (.cells #[.int .i64 kd, .int .i64 tr, .string ac] 66)) lo u l→Dis v' u:=by
  intro u l hd ho k hk he
  rcases h5 with h5|h5
  ·
   rw[h5] at hk;exact hd k hk he
  ·
   rw[h5] at hk
   injection hk with hk
   have:=(ho.lt k he).2
   omega
 have hk: ∀ {u:Value} {l:List Stp},Dis v1 u→OwnB (w.alloc (.cells #[.int .i64 kd, .int .i64 tr, .string ac] 66)) lo u l→OwnB w' lo u l:=by
  intro u l hd ho
  refine ho.kept h3 ?_
  cases hu:u.ownBlock with
  |none=>exact .inl rfl
  |some k=>exact .inr (fun he=>hd k he.symm hu)
 subst hv
 refine⟨A,c,w',hrun,⟨hown,hk ha.d12 ha.o2,hk ha.d13 ha.o3,hd ha.d12 ha.o2,hd ha.d13 ha.o3,ha.d23,ha.low,Nat.le_trans ha.s h3.size,ha.r.grown h3 (zr6 ha.o1 ha.low)⟩,?_,fun k hk hne=>?_⟩
 ·
  have:=h3.size
  simp at this
  omega
 ·
  have hb:Below w.heap.size w (w.alloc (.cells #[.int .i64 kd, .int .i64 tr, .string ac] 66)):=(Below.refl _ _).alloc (Nat.le_refl _) _
  exact(h3.block k (Nat.lt_of_lt_of_le hk hb.size) (fun he=>hne he.symm)).trans (hb.block k hk)
end
end
end Go.Proofs.YtjdpnadhgjohnaaGreatDoor
