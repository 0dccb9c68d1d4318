import Derived.Test.YtjdpnadhgjohnaaGreatDoorJN0
import Derived.Test.YtjdpnadhgjohnaaGreatDoorJN9
import Derived.StillTailTactics
set_option linter.unusedSimpArgs false
set_option linter.unusedVariables false
set_option linter.unusedSectionVars false
namespace Go.Proofs.YtjdpnadhgjohnaaGreatDoor
section
open Go.RowKit
theorem zo8 {n:Int}{l:List Int}(h:zcn n l=true): ∀ (j i:Nat),i<j→j<l.length→gti l i<gti l j
 |0,i,hij,_=>by omega
 | j+1,i,hij,hj=>by
  have hb: ¬badP n l (j+1):=fun hb=>by rw[zez hj hb] at h;cases h
  unfold badP at hb
  simp only[Nat.add_sub_cancel] at hb
  by_cases hji:i=j
  ·
   subst hji;omega
  ·
   have:=zo8 h j i xa xa
   omega
theorem zry {n:Int}{p:Int}{ps:List Int}(h:zcn n (p::ps)=true):zcn n ps=true:=by
 apply zhz
 intro k hk
 have hb: ¬badP n (p::ps) (k+1):=fun hb=>by rw[zez (by simp;omega) hb] at h;cases h
 unfold badP at hb⊢
 have e1:gti (p::ps) (k+1)=gti ps k:=by simp[gti]
 rw[e1] at hb
 rcases Nat.eq_zero_or_pos k with rfl|hk0
 ·
  omega
 ·
  obtain⟨j,rfl⟩: ∃j,k=j+1:=⟨k-1,by omega⟩
  have e2:gti (p::ps) (j+1)=gti ps j:=by simp[gti]
  simp only[Nat.add_sub_cancel] at hb⊢
  rw[e2] at hb
  omega
theorem zrz {n:Int}{p:Int}{ps:List Int}(h:zcn n (p::ps)=true):0≤p∧p<n∧ ∀q∈ps,q.toNat≠p.toNat:=by
 have h0:=zet h (k:=0) xm
 have e:gti (p::ps) 0=p:=by simp[gti]
 rw[e] at h0
 refine⟨h0.1,h0.2.1,fun q hq=>?_⟩
 obtain⟨k,hk,rfl⟩:=zz6 hq
 have:=zo8 h (k+1) 0 xa (by simp;omega)
 have e1:gti (p::ps) (k+1)=gti ps k:=by simp[gti]
 rw[e,e1] at this
 omega
theorem zob {n:Int}: ∀ {ps m:List Int},zcn n ps=true→(∀i,0≤gti m i)→(∀p∈ps,1≤gti m p.toNat)→ ∀i,0≤gti (decL ps m) i
 |[],m,_,h,_,i=>h i
 | p::ps,m,hp,h,h1,i=>by
  obtain⟨hp0,hp1,hpn⟩:=zrz hp
  refine zob (zry hp) (fun j=>?_) (fun q hq=>?_) i
  ·
   rw[gti_set]
   have:=h j
   have:=h1 p (List.mem_cons_self ..)
   split<;>omega
  ·
   rw[gti_set,if_neg (fun e=>hpn q hq e.1.symm)]
   exact h1 q (List.mem_cons_of_mem _ hq)
theorem znp: ∀ {ps m:List Int},(∀i,0≤gti m i)→ ∀i,0≤gti (incL ps m) i
 |[],m,h,i=>h i
 |p::ps,m,h,i=>by
  rw[incL]
  refine znp (fun j=>?_) i
  rw[gti_set]
  have:=h j
  have:=h p.toNat
  split<;>omega
theorem enB_at {t:Tr}{m:List Int}(h:enB t m=true){p:Int}(hp:p∈t.inn):gti m p.toNat≠0:=by
 unfold enB at h
 simp only[Bool.not_eq_true',List.any_eq_false,decide_eq_true_eq] at h
 exact h p hp
theorem zs1: ∀ {m:List Int},(∀i,0≤gti m i)→zkv m=!m.any fun y=>decide (100<y)
 |[],_=>rfl
 |x::m,h=>by
  have h0:0≤x:=by have:=h 0;simpa[gti] using this
  have:=zs1 (m:=m) (fun i=>by have:=h (i+1);simpa[gti] using this)
  simp only[zkv,List.any_cons]
  rw[this]
  grind
theorem zsf {n:Net}{m:List Int}{t:Tr}(hm:zdx n m=true)(ht:zcn n.places t.inn=true)(he:enB t m=true):
  zdx n (incL t.out (decL t.inn m))=!(incL t.out (decL t.inn m)).any fun y=>decide (100<y):=by
 have hnn: ∀i,0≤gti (incL t.out (decL t.inn m)) i:=znp (zob ht (fun i=>(zgw hm i).1) (fun p hp=>by
  have:=enB_at he hp
  have:=(zgw hm p.toNat).1
  omega))
 unfold zdx
 rw[if_neg (by rw[zqn,zq2];have:=zft hm;omega),zs1 hnn]
theorem zpo {n:Net}{m:List Int}{t:Int}(hm:zdd n m=true)(h:(zl2 n m t).2=0):zdd n (zl2 n m t).1=true:=by
 unfold zdd at hm⊢
 simp only[Bool.and_eq_true] at hm⊢
 refine⟨hm.1,?_⟩
 unfold zl2 at h⊢
 split
 ·
  rename_i h1;rw[if_pos h1] at h;simp at h
 ·
  rename_i h1
  rw[if_neg h1] at h
  split
  ·
   rename_i h2
   rw[if_pos h2] at h
   split
   ·
    rename_i h3;rw[if_pos h3] at h;simp at h
   ·
    rename_i h3
    have htr:=zjw hm.1 (gti_mem (l:=n.trans) (k:=t.toNat) xa)
    rw[zsf hm.2 htr.2.1 h2]
    simpa using h3
  ·
   rename_i h2;rw[if_neg h2] at h;simp at h
def zen (n:Net)(m:List Int)(t:Int):List Int × Int:=if zdd n m then zl2 n m t else([],1)
set_option maxHeartbeats 1000000 in
theorem zwq (n:Net)(m:List Int)(t:Int)(vt v:Value)(lo hi lo' hi':Nat)(w:World)(hv:RdT w lo hi vt n.trans)(hm:RdI w lo' hi' v m):
  Calls Tryz.prog 96 #[netV n vt,v, .int .i64 t] w (RetI w (zen n m t)):=by
 obtain⟨A,c,rfl,hc,hmm⟩:=hv.form
 obtain⟨A2,c2,rfl,hc2,hmm2⟩:=hm.form
 have HV:=Lib.hid hv
 have HW:=Lib.hid hm
 clear hv hm
 cases hvb:zdd n m<;>have HVB:=Lib.hid hvb<;>clear hvb
 all_goals
  refine zak fun R hR=>?_
  have HR:=Lib.hid hR
  clear hR
  go_enter Tryz.func96,Tryz.ntmps96
  have M:Hid (Mem [Loc.k4 w.heap.size (.int .i64 n.places) (.slice A n.trans.length c) (.int .i64 n.source) (.int .i64 n.sink),Loc.bl w.heap.size w] (w.alloc (.cells #[.int .i64 n.places, .slice A n.trans.length c, .int .i64 n.source, .int .i64 n.sink] 24))):=Lib.hid ⟨K4.new w _ _ _ _ _,⟨(Below.refl _ _).alloc (Nat.le_refl _) _,by simp⟩,True.intro⟩
  have hk4:=M.out.1
  go_wp2_with (first
   |(go_at_call 146;refine(zk5 HVB.out _ _ lo hi lo' hi' _ (HV.out.after M.out.2.1.1) (HW.out.after M.out.2.1.1)).mono ?_;rintro e w1 ⟨rfl,hb1⟩;replace M:=Lib.hid (M.out.below hb1);clear hb1;replace hk4:=M.out.1)
   |(go_at_call 147;refine(z36 n m t _ _ lo hi lo' hi' _ (HV.out.after M.out.2.1.1) (HW.out.after M.out.2.1.1) HVB.out).mono ?_;rintro e w2 ⟨A1,c1,rfl,hr1,hb1⟩;have HR1:=Lib.hid hr1;have hws:=M.out.2.1.2;replace M:=Lib.hid (M.out.below hb1);clear hb1 hr1))
 ·
  exact HR.out _ _ (RetI.nil (by rw[zen,HVB.out];rfl) M.out.2.1.1)
 ·
  exact HR.out _ _ (RetI.mk (by rw[zen,HVB.out];rfl) rfl HR1.out hws (Nat.le_refl _) M.out.2.1.1)
def canL (m:List Int):List Int→Bool
 |[]=>true
 |p::ps=>if gti m p.toNat<1 then false else canL m ps
theorem z13 {m:List Int}(hm: ∀i,0≤gti m i): ∀ps:List Int,canL m ps=!ps.any fun p=>decide (gti m p.toNat=0)
 |[]=>rfl
 |p::ps=>by
  have:=hm p.toNat
  rw[canL,z13 hm ps,List.any_cons]
  grind
set_option maxHeartbeats 1000000 in
theorem z8z (n:Net)(m:List Int)(t:Nat)(vt v:Value)(lo hi lo' hi':Nat)(w:World)(hv:RdT w lo hi vt n.trans)(hm:RdI w lo' hi' v m)(ht:t<n.trans.length)(hin: ∀k,k<(gti n.trans t).inn.length→0≤gti (gti n.trans t).inn k∧gti (gti n.trans t).inn k<m.length):
  Calls Tryz.prog 128 #[netV n vt,v, .int .i64 t] w fun e w'=>e= .returned (.bool (canL m (gti n.trans t).inn))∧Below w.heap.size w w':=by
 obtain⟨A,c,rfl,hc,hmm⟩:=hv.form
 obtain⟨A2,c2,rfl,hc2,hmm2⟩:=hm.form
 obtain⟨b,off,vi,vo,rfl,hbl,hbh,hcell,hri,hro⟩:=RdT.at3 hv ht
 obtain⟨Ai,ci,rfl,hci,hmi⟩:=hri.form
 have HV:=Lib.hid hv
 have HW:=Lib.hid hm
 have HRI:=Lib.hid hri
 have HN:=Lib.hid hin
 clear hv hm hri hro hin
 generalize gti n.trans t=x at*
 refine zak fun R hR=>?_
 have HR:=Lib.hid hR
 clear hR
 go_enter Tryz.func128,Tryz.ntmps128
 have M:Hid (Mem [Loc.k4 w.heap.size (.int .i64 n.places) (.slice (some ⟨b,off,none⟩) n.trans.length c) (.int .i64 n.source) (.int .i64 n.sink),Loc.bl w.heap.size w] (w.alloc (.cells #[.int .i64 n.places, .slice (some ⟨b,off,none⟩) n.trans.length c, .int .i64 n.source, .int .i64 n.sink] 24))):=Lib.hid ⟨K4.new w _ _ _ _ _,⟨(Below.refl _ _).alloc (Nat.le_refl _) _,by simp⟩,True.intro⟩
 have hk4:=M.out.1
 replace hcell:=C3.aft ((Below.refl w.heap.size w).alloc (Nat.le_refl _) (.cells #[.int .i64 n.places, .slice (some ⟨b,off,none⟩) n.trans.length c, .int .i64 n.source, .int .i64 n.sink] 24)) hcell
 go_wp2_with fail
 generalize w.alloc (.cells #[.int .i64 n.places, .slice (some ⟨b,off,none⟩) n.trans.length c, .int .i64 n.source, .int .i64 n.sink] 24)=W at*
 go_loop [7] (fun v7=> ∃k:Nat,k≤x.inn.length∧v7= .int .i64 k∧Hid (canL m (x.inn.drop k)=canL m x.inn)) (fun v7=>x.inn.length-(intOf v7).toNat)
 case atStart=>exact⟨0,by omega,rfl,Lib.hid J⟩
 case round=>
  obtain⟨k,hk,rfl,HI⟩:=hrel
  by_cases hlt:k<x.inn.length
  ·
   have hpr:=HN.out k hlt
   obtain⟨bb,oo,rfl,_,_,hce⟩:=RdI.at1 (HRI.out.after M.out.2.1.1) hlt
   have HD:=Lib.hid (zc2 hlt)
   generalize gti x.inn k=p at*
   obtain⟨kp,rfl⟩: ∃j:Nat,p=j:=⟨p.toNat,by omega⟩
   have hkp:kp<m.length:=by omega
   clear hpr
   obtain⟨b2,o2,rfl,_,_,hce2⟩:=RdI.at1 (HW.out.after M.out.2.1.1) hkp
   have HJ:Hid (canL m x.inn=if gti m kp<1 then false else canL m (x.inn.drop (k+1))):=Lib.hid (by rw[←HI.out,HD.out,canL,Int.toNat_natCast])
   generalize gti m kp=y at*
   go_wp2_with fail
   all_goals have hj:=HJ.out
   all_goals first
    |((with_reducible refine HR.out _ _ ⟨?_,?_⟩)<;>first|exact zbd (by clear HJ;go_light;grind)|exact M.out.2.1.1)
    |(refine⟨⟨k+1,by omega,by go_num,Lib.hid (by clear HJ;go_light;grind)⟩,by simp[intOf];omega⟩)
  ·
   obtain rfl:k=x.inn.length:=by omega
   have HE:Hid (canL m x.inn=true):=Lib.hid (by rw[←HI.out];simp[canL])
   clear HI
   go_wp2_with fail
   all_goals ((with_reducible refine HR.out _ _ ⟨?_,?_⟩)<;>first|exact zbd (by rw[HE.out])|exact M.out.2.1.1)
end
section
open Go.RowKit
theorem zjg {n:Net}{m:List Int}{b:Bool}(hb:zdx n m=b)(vt v:Value)(lo hi:Nat)(w:World)(hv:RdI w lo hi v m):
  Calls Tryz.prog 104 #[netV n vt,v] w fun e w'=>e= .returned (.bool b)∧Below w.heap.size w w':=hb▸zd2 n vt m v lo hi w hv
theorem Mem.lit0 {L:List Loc}{w:World}(hM:Mem L w):Mem (Loc.owI w.heap.size (w.heap.size+1) (.slice (some ⟨w.heap.size,0,none⟩) 0 0) []::L) (w.alloc (.cells #[] 3)):=
 ⟨Own.lit w 3 w.heap.size [] #[] 0 J J (Nat.le_refl _) (Nat.zero_le _) (fun _=>rfl),hM.alloc _⟩
theorem Mem.lit1 {L:List Loc}{w:World}(hM:Mem L w)(x:Int):Mem (Loc.owI w.heap.size (w.heap.size+1) (.slice (some ⟨w.heap.size,0,none⟩) 1 1) [x]::L) (w.alloc (.cells #[.int .i64 x] 3)):=
 ⟨Own.lit w 3 w.heap.size [x] #[.int .i64 x] 1 J J (Nat.le_refl _) xe (fun _=>rfl),hM.alloc _⟩
theorem Mem.app0 {w:World}{L:List Loc}{lo hi:Nat}{A:Option Addr}{c:Nat}{m:List Int}(h:Mem (Loc.owI lo hi (.slice A (([]:List Int).length+m.length) c) ([]++m)::L) w):Mem (Loc.owI lo hi (.slice A m.length c) m::L) w:=by
 simpa only[List.length_nil,Nat.zero_add,List.nil_append] using h
set_option maxRecDepth 100000 in
set_option maxHeartbeats 4000000 in
theorem zzc (n:Net)(m:List Int)(t:Int)(vt v:Value)(lo hi lo' hi':Nat)(w:World)(hv:RdT w lo hi vt n.trans)(hm:RdI w lo' hi' v m):
  Calls Tryz.prog 69 #[netV n vt,v, .int .i64 t] w (RetI w (zen n m t)):=by
 obtain⟨A,c,rfl,hc,hmm⟩:=hv.form
 obtain⟨A2,c2,rfl,hc2,hmm2⟩:=hm.form
 have HV:=Lib.hid hv
 have HW:=Lib.hid hm
 clear hv hm
 cases hvb:zb7 n with
 |false=>
  have HVB:=Lib.hid hvb
  clear hvb
  refine zak fun R hR=>?_
  have HR:=Lib.hid hR
  clear hR
  go_enter Tryz.func69,Tryz.ntmps69
  have M:Hid (Mem [Loc.k4 w.heap.size (.int .i64 n.places) (.slice A n.trans.length c) (.int .i64 n.source) (.int .i64 n.sink),Loc.bl w.heap.size w] (w.alloc (.cells #[.int .i64 n.places, .slice A n.trans.length c, .int .i64 n.source, .int .i64 n.sink] 24))):=Lib.hid ⟨K4.new w _ _ _ _ _,⟨(Below.refl _ _).alloc (Nat.le_refl _) _,by simp⟩,True.intro⟩
  have hk4:=M.out.1
  go_wp2_with (go_at_call 30;refine(zcs HVB.out _ lo hi _ (HV.out.after M.out.2.1.1)).mono ?_;rintro e w1 ⟨rfl,hb1⟩;replace M:=Lib.hid (M.out.below hb1);clear hb1;replace hk4:=M.out.1)
  exact HR.out _ _ (RetI.nil (by rw[zen,zdd,HVB.out];rfl) M.out.2.1.1)
 |true=>
 cases hmb:zdx n m with
 | false=>
  have HVB:=Lib.hid hvb
  have HMB:=Lib.hid hmb
  clear hvb hmb
  refine zak fun R hR=>?_
  have HR:=Lib.hid hR
  clear hR
  go_enter Tryz.func69,Tryz.ntmps69
  have M:Hid (Mem [Loc.k4 w.heap.size (.int .i64 n.places) (.slice A n.trans.length c) (.int .i64 n.source) (.int .i64 n.sink),Loc.bl w.heap.size w] (w.alloc (.cells #[.int .i64 n.places, .slice A n.trans.length c, .int .i64 n.source, .int .i64 n.sink] 24))):=Lib.hid ⟨K4.new w _ _ _ _ _,⟨(Below.refl _ _).alloc (Nat.le_refl _) _,by simp⟩,True.intro⟩
  have hk4:=M.out.1
  go_wp2_with (first
   |(go_at_call 30;refine(zcs HVB.out _ lo hi _ (HV.out.after M.out.2.1.1)).mono ?_;rintro e w1 ⟨rfl,hb1⟩;replace M:=Lib.hid (M.out.below hb1);clear hb1;replace hk4:=M.out.1)
   |(go_at_call 104;refine(zjg HMB.out _ _ lo' hi' _ (HW.out.after M.out.2.1.1)).mono ?_;rintro e w1 ⟨rfl,hb1⟩;replace M:=Lib.hid (M.out.below hb1);clear hb1;replace hk4:=M.out.1))
  exact HR.out _ _ (RetI.nil (by rw[zen,zdd,HVB.out,HMB.out];rfl) M.out.2.1.1)
 |true=>
 have HVB:=Lib.hid hvb
 have HMB:=Lib.hid hmb
 have hpl:=zbu hvb
 have hlen:=zft hmb
 have HFF:Hid (zen n m t=zl2 n m t):=Lib.hid (by rw[zen,zdd,hvb,hmb];rfl)
 obtain⟨np,hnp⟩: ∃k:Nat,n.places=k:=⟨n.places.toNat,by omega⟩
 have hml:m.length=np:=by omega
 have hnp1:1≤np:=by omega
 have hnp40:np≤40:=by omega
 have HNP:=Lib.hid hnp
 have HML:=Lib.hid hml
 clear hpl hlen hnp hml hvb hmb
 by_cases ht:t<0∨n.trans.length≤t
 ·
  have HT:=Lib.hid ht
  refine zak fun R hR=>?_
  have HR:=Lib.hid hR
  clear hR
  go_enter Tryz.func69,Tryz.ntmps69
  have M:Hid (Mem [Loc.k4 w.heap.size (.int .i64 n.places) (.slice A n.trans.length c) (.int .i64 n.source) (.int .i64 n.sink),Loc.bl w.heap.size w] (w.alloc (.cells #[.int .i64 n.places, .slice A n.trans.length c, .int .i64 n.source, .int .i64 n.sink] 24))):=Lib.hid ⟨K4.new w _ _ _ _ _,⟨(Below.refl _ _).alloc (Nat.le_refl _) _,by simp⟩,True.intro⟩
  have hk4:=M.out.1
  go_wp2_with (first
   |(go_at_call 30;refine(zcs HVB.out _ lo hi _ (HV.out.after M.out.2.1.1)).mono ?_;rintro e w1 ⟨rfl,hb1⟩;replace M:=Lib.hid (M.out.below hb1);clear hb1;replace hk4:=M.out.1)
   |(go_at_call 104;refine(zjg HMB.out _ _ lo' hi' _ (HW.out.after M.out.2.1.1)).mono ?_;rintro e w1 ⟨rfl,hb1⟩;replace M:=Lib.hid (M.out.below hb1);clear hb1;replace hk4:=M.out.1))
  all_goals first
   |exact HR.out _ _ (RetI.nil (by rw[HFF.out,zl2,if_pos HT.out]) M.out.2.1.1)
   |(exfalso;go_light;omega)
 ·
  have HT:=Lib.hid ht
  obtain⟨kt,rfl⟩: ∃k:Nat,t=k:=⟨t.toNat,by omega⟩
  have hlt:kt<n.trans.length:=by omega
  clear ht
  obtain⟨b,off,vi,vo,rfl,hbl,hbh,hcell,hri,hro⟩:=RdT.at3 HV.out hlt
  have HTR:=Lib.hid (zjw HVB.out (gti_mem hlt))
  obtain⟨Ai,ci,rfl,hci,hmi⟩:=hri.form
  obtain⟨Ao,co,rfl,hco,hmo⟩:=hro.form
  have HFE:Hid (zen n m kt=if enB (gti n.trans kt) m then
    if (incL (gti n.trans kt).out (decL (gti n.trans kt).inn m)).any (fun y=>decide (100<y)) then([],5)
    else(incL (gti n.trans kt).out (decL (gti n.trans kt).inn m),0)
   else([],12)):=Lib.hid (by rw[HFF.out,zl2,if_neg HT.out,Int.toNat_natCast])
  have HCAN:Hid (∀W,Below w.heap.size w W→Calls Tryz.prog 128 #[netV n (.slice (some ⟨b,off,none⟩) n.trans.length c), .slice A2 m.length c2, .int .i64 kt] W fun e w'=>e= .returned (.bool (enB (gti n.trans kt) m))∧Below W.heap.size W w'):=
   Lib.hid (fun W hW=>by
    have h:=z8z n m kt _ _ lo hi lo' hi' W (HV.out.after hW) (HW.out.after hW) hlt (fun k hk=>by
     have:=zet HTR.out.2.1 hk
     have:=HNP.out
     have:=HML.out
     omega)
    rw[z13 (fun i=>(zgw HMB.out i).1)] at h
    exact h)
  have HFM:Hid (enB (gti n.trans kt) m=true→zdx n (incL (gti n.trans kt).out (decL (gti n.trans kt).inn m))=!(incL (gti n.trans kt).out (decL (gti n.trans kt).inn m)).any fun y=>decide (100<y)):=Lib.hid (fun h=>zsf HMB.out HTR.out.2.1 h)
  generalize gti n.trans kt=x at*
  have HRI:=Lib.hid hri
  have HRO:=Lib.hid hro
  have hil:x.inn.length≤40:=by have:=zhd HTR.out.2.1;have:=HNP.out;omega
  have hol:x.out.length≤40:=by have:=zhd HTR.out.2.2;have:=HNP.out;omega
  have hx1:((kt:Int)<0)=False:=by simp
  have hx2:((n.trans.length:Int)≤(kt:Int))=False:=by simp;omega
  have HC:=Lib.hid hcell
  clear hri hro HT HFF hcell
  refine zak fun R hR=>?_
  have HR:=Lib.hid hR
  clear hR
  go_enter Tryz.func69,Tryz.ntmps69
  have M:Hid (Mem [Loc.k4 w.heap.size (.int .i64 n.places) (.slice (some ⟨b,off,none⟩) n.trans.length c) (.int .i64 n.source) (.int .i64 n.sink),Loc.bl w.heap.size w] (w.alloc (.cells #[.int .i64 n.places, .slice (some ⟨b,off,none⟩) n.trans.length c, .int .i64 n.source, .int .i64 n.sink] 24))):=Lib.hid ⟨K4.new w _ _ _ _ _,⟨(Below.refl _ _).alloc (Nat.le_refl _) _,by simp⟩,True.intro⟩
  have hk4:=M.out.1
  go_wp2_with (first
   |(go_at_call 30;refine(zcs HVB.out _ lo hi _ (HV.out.after M.out.2.1.1)).mono ?_;rintro e w1 ⟨rfl,hb1⟩;replace M:=Lib.hid (M.out.below hb1);clear hb1;replace hk4:=M.out.1)
   |(go_at_call 104;refine(zjg HMB.out _ _ lo' hi' _ (HW.out.after M.out.2.1.1)).mono ?_;rintro e w1 ⟨rfl,hb1⟩;replace M:=Lib.hid (M.out.below hb1);clear hb1;replace hk4:=M.out.1)
   |(go_at_call 128;refine(HCAN.out _ M.out.2.1.1).mono ?_;rintro e w3 ⟨rfl,hb1⟩;replace M:=Lib.hid (M.out.below hb1);clear hb1;replace hk4:=M.out.1;have hz3:=M.out.1.2.2.2.2)
   |(at_builtin;refine zcz J _ _ J zhm (fun _=>rfl) oneI J J (Mem.lit0 M.out) (by(repeat' (first|exact True.intro|refine And.intro (fun k hk e=>?_) ?_))<;>(first|exact e|((try dsimp only[Loc.c1,Loc.c2,Loc.k1,Loc.k2,Loc.k3,Loc.k4,Loc.k6,Loc.fr,Loc.bl,Loc.own,Loc.sz,Loc.rd,Loc.rdI,Loc.rdS,Loc.rdM,Loc.rdT,Loc.ow,Loc.owI] at hk e)<;>omega))) (HW.out.after (M.out.2.1.1.alloc M.out.2.1.2 _)) (by have:=HML.out;simp;omega) (by have:=HML.out;simp;omega) (by simp) ?_;intro A1 c1 w4 hM1 hs1 hch1;replace M:=Lib.hid (Mem.app0 hM1);clear hM1 hch1;(try simp only[World.size_alloc] at hs1)))
  ·
   exact HR.out _ _ (RetI.nil (by have hfe:=HFE.out;clear HFE;go_light;grind) M.out.2.1.1)
  ·
   have hEN:enB x m=true:=by go_light;grind
   have HEN:=Lib.hid hEN
   clear hEN
   obtain⟨g,cap,hA1,hgl,hgh,hgs⟩:=M.out.1.blk (by have:=HML.out;omega)
   injection hA1 with e1 _ e3
   subst e1 e3
   go_loopw [9] (fun v9 wr=> ∃ (k:Nat) (cur:List Int),k≤x.inn.length∧v9= .int .i64 k∧Hid (decL (x.inn.drop k) cur=decL x.inn m)∧Hid (Bnd (100+k) cur)∧Hid (cur.length=m.length)∧Hid (Mem [Loc.owI w3.heap.size w4.heap.size (.slice (some ⟨g,0,none⟩) m.length c1) cur,Loc.k4 w.heap.size (.int .i64 n.places) (.slice (some ⟨b,off,none⟩) n.trans.length c) (.int .i64 n.source) (.int .i64 n.sink),Loc.bl w.heap.size w,Loc.sz w4.heap.size] wr)) (fun v9 _=>x.inn.length-(intOf v9).toNat)
   case atStart=>exact⟨0,m,by omega,rfl,Lib.hid J,Lib.hid (fun i=>by have:=zgw HMB.out i;omega),Lib.hid J,Lib.hid ⟨M.out.1,M.out.2.1,M.out.2.2.1,Nat.le_refl _,True.intro⟩⟩
   case round=>
    obtain⟨k,cur,hk,rfl,HI,HBD,HCL,HM⟩:=hrel
    replace hk4:=HM.out.2.1
    have hcr:=C3.aft HM.out.2.2.1.1 HC.out
    by_cases hltk:k<x.inn.length
    ·
     obtain⟨bb,oo,rfl,_,_,hce⟩:=RdI.at1 (HRI.out.after HM.out.2.2.1.1) hltk
     have HD:=Lib.hid (zc2 hltk)
     have hpr:=zet HTR.out.2.1 hltk
     generalize gti x.inn k=p at*
     obtain⟨kp,rfl⟩: ∃j:Nat,p=j:=⟨p.toNat,by omega⟩
     have hkp:kp<m.length:=by have:=HNP.out;have:=HML.out;omega
     have hkc:kp<cur.length:=by rw[HCL.out];exact hkp
     have hat:=OwnI.at1 HM.out.1 hkc
     have hbd:=HBD.out kp
     have HO2:=Lib.hid (OwnI.set (HM.out.drew).1 kp (gti cur kp-1))
     clear hpr hkc
     go_wp2_with fail
     go_still_tail 24,(by kernel_rfl)
     change wpList _ _ _ _ _ wr.drew
     go_wp2_with fail
     have hA:Hid (decL (x.inn.drop (k+1)) (cur.set kp (gti cur kp-1))=decL x.inn m):=Lib.hid (by
      have h:=HI.out
      rw[HD.out,decL,Int.toNat_natCast] at h
      exact h)
     have hB:Hid (Bnd (100+((k+1:Nat):Int)) (cur.set kp (gti cur kp-1))):=Lib.hid (by
      have:=HBD.out.dec kp
      rw[show(100+((k+1:Nat):Int))=100+(k:Int)+1 by omega]
      exact this)
     have hC:Hid ((cur.set kp (gti cur kp-1)).length=m.length):=Lib.hid (by rw[List.length_set];exact HCL.out)
     have hk1:k+1≤x.inn.length:=by omega
     have hMr:=HM.out.drew.2.set (g:=g) (i:=kp) (u:= .int .i64 (gti cur kp-1)) (by(repeat' (first|exact True.intro|refine And.intro (fun k hk e=>?_) ?_))<;>(first|exact e|((try dsimp only[Loc.c1,Loc.c2,Loc.k1,Loc.k2,Loc.k3,Loc.k4,Loc.k6,Loc.fr,Loc.bl,Loc.own,Loc.sz,Loc.rd,Loc.rdI,Loc.rdS,Loc.rdM,Loc.rdT,Loc.ow,Loc.owI] at hk e)<;>omega)))
     go_roundw
     case rel=>(first|exact⟨k+1,cur.set kp (gti cur kp-1),hk1,rfl,hA,hB,hC,Lib.hid ⟨HO2.out,hMr⟩⟩|((repeat apply Exists.intro);exact⟨⟨k+1,cur.set kp (gti cur kp-1),hk1,rfl,hA,hB,hC,Lib.hid ⟨HO2.out,hMr⟩⟩,rfl⟩))
     case measure=>simp[intOf];omega
    ·
     obtain rfl:k=x.inn.length:=by omega
     have HE:Hid (cur=decL x.inn m):=Lib.hid (by have h:=HI.out;simpa[decL] using h)
     clear HI
     go_wp2_with fail
     go_loopw [10] (fun v10 wr=> ∃ (k:Nat) (cur:List Int),k≤x.out.length∧v10= .int .i64 k∧Hid (incL (x.out.drop k) cur=incL x.out (decL x.inn m))∧Hid (Bnd ((100+x.inn.length)+k) cur)∧Hid (cur.length=m.length)∧Hid (Mem [Loc.owI w3.heap.size w4.heap.size (.slice (some ⟨g,0,none⟩) m.length c1) cur,Loc.k4 w.heap.size (.int .i64 n.places) (.slice (some ⟨b,off,none⟩) n.trans.length c) (.int .i64 n.source) (.int .i64 n.sink),Loc.bl w.heap.size w,Loc.sz w4.heap.size] wr)) (fun v10 _=>x.out.length-(intOf v10).toNat)
     case atStart=>exact⟨0,cur,by omega,rfl,Lib.hid (by rw[HE.out];rfl),Lib.hid (by simpa using HBD.out),HCL,HM⟩
     case round=>
      clear HE HBD HCL HM hk4 hcr
      obtain⟨k,cur,hk,rfl,HI,HBD,HCL,HM⟩:=hrel
      have hk4:=HM.out.2.1
      have hcr:=C3.aft HM.out.2.2.1.1 HC.out
      by_cases hltk:k<x.out.length
      ·
       obtain⟨bb,oo,rfl,_,_,hce⟩:=RdI.at1 (HRO.out.after HM.out.2.2.1.1) hltk
       have HD:=Lib.hid (zc2 hltk)
       have hpr:=zet HTR.out.2.2 hltk
       generalize gti x.out k=p at*
       obtain⟨kp,rfl⟩: ∃j:Nat,p=j:=⟨p.toNat,by omega⟩
       have hkp:kp<m.length:=by have:=HNP.out;have:=HML.out;omega
       have hkc:kp<cur.length:=by rw[HCL.out];exact hkp
       have hat:=OwnI.at1 HM.out.1 hkc
       have hbd:=HBD.out kp
       have HO2:=Lib.hid (OwnI.set (HM.out.drew).1 kp (gti cur kp+1))
       clear hpr hkc
       go_wp2_with fail
       go_still_tail 24,(by kernel_rfl)
       change wpList _ _ _ _ _ wr.drew
       go_wp2_with fail
       have hA:Hid (incL (x.out.drop (k+1)) (cur.set kp (gti cur kp+1))=incL x.out (decL x.inn m)):=Lib.hid (by
        have h:=HI.out
        rw[HD.out,incL,Int.toNat_natCast] at h
        exact h)
       have hB:Hid (Bnd ((100+x.inn.length)+((k+1:Nat):Int)) (cur.set kp (gti cur kp+1))):=Lib.hid (by
        have:=HBD.out.inc kp
        rw[show((100+x.inn.length)+((k+1:Nat):Int))=(100+x.inn.length)+(k:Int)+1 by omega]
        exact this)
       have hC:Hid ((cur.set kp (gti cur kp+1)).length=m.length):=Lib.hid (by rw[List.length_set];exact HCL.out)
       have hk1:k+1≤x.out.length:=by omega
       have hMr:=HM.out.drew.2.set (g:=g) (i:=kp) (u:= .int .i64 (gti cur kp+1)) (by(repeat' (first|exact True.intro|refine And.intro (fun k hk e=>?_) ?_))<;>(first|exact e|((try dsimp only[Loc.c1,Loc.c2,Loc.k1,Loc.k2,Loc.k3,Loc.k4,Loc.k6,Loc.fr,Loc.bl,Loc.own,Loc.sz,Loc.rd,Loc.rdI,Loc.rdS,Loc.rdM,Loc.rdT,Loc.ow,Loc.owI] at hk e)<;>omega)))
       go_roundw
       case rel=>(first|exact⟨k+1,cur.set kp (gti cur kp+1),hk1,rfl,hA,hB,hC,Lib.hid ⟨HO2.out,hMr⟩⟩|((repeat apply Exists.intro);exact⟨⟨k+1,cur.set kp (gti cur kp+1),hk1,rfl,hA,hB,hC,Lib.hid ⟨HO2.out,hMr⟩⟩,rfl⟩))
       case measure=>simp[intOf];omega
      ·
       obtain rfl:k=x.out.length:=by omega
       have HE:Hid (cur=incL x.out (decL x.inn m)):=Lib.hid (by have h:=HI.out;simpa[incL] using h)
       clear HI
       have M:=HM
       clear HM
       go_wp2_with (go_at_call 104;refine(zd2 n _ cur _ w3.heap.size w4.heap.size _ M.out.1.rd).mono ?_;rintro e w1 ⟨rfl,hb1⟩;replace M:=Lib.hid (M.out.below hb1);clear hb1;skip)
       all_goals (have hfe:=HFE.out;have he:=HE.out;have hmg:=HFM.out HEN.out;rw[←he] at hfe hmg;rw[if_pos HEN.out] at hfe)
       all_goals first
        |exact HR.out _ _ (RetI.nil (by clear HFE HE HFM he;go_light;grind) M.out.2.2.1.1)
        |exact HR.out _ _ (RetI.mk (l:=cur) (by clear HFE HE HFM he;go_light;grind) HCL.out.symm M.out.1.rd xa M.out.2.2.2.1 M.out.2.2.1.1)
end
section
open Go.RowKit
structure Mvx where
 fr:Int
 tt:Int
 sym:Int
instance:Inhabited Mvx:=⟨⟨0,0,0⟩⟩
structure Spc where
 st:List (List Int)
 mv:List Mvx
 full:Bool
def zek (S:List (List Int))(m:List Int):Int:=zd8 (fun x=>decide (x=m)) S
def xstS (most:Int)(i:Nat)(s:Spc)(r:List Int × Int)(t:Int):Option Spc:=
 if r.2≠0∨(zek s.st r.1<0∧most≤s.st.length) then some ⟨s.st,s.mv,false⟩
 else if 20000≤s.mv.length then none
 else some ⟨if zek s.st r.1<0 then s.st++[r.1] else s.st,s.mv++[⟨i,if zek s.st r.1<0 then s.st.length else zek s.st r.1,t⟩],s.full⟩
def rowS (n:Net)(most:Int)(i:Nat)(x:List Int):List Int→Spc→Option Spc
 |[],s=>some s
 |t::ts,s=>(xstS most i s (zen n x t) t).bind (rowS n most i x ts)
theorem mem_gti' {α:Type}[Inhabited α]{l:List α}{x:α}(h:x∈l): ∃k,k<l.length∧gti l k=x:=by
 obtain⟨k,hk,rfl⟩:=List.getElem_of_mem h
 exact⟨k,hk,by unfold gti;rw[List.getElem?_eq_getElem hk];rfl⟩
theorem zg1 {S:List (List Int)}{m:List Int}:zek S m<0↔m ∉ S:=by
 have h:=zeh (fun x=>decide (x=m)) S
 unfold zek
 rw[Bool.eq_iff_iff,List.any_eq_true] at h
 simp only[decide_eq_true_eq] at h
 constructor
 ·
  intro hn hm
  have:=h.2 ⟨m,hm,rfl⟩
  omega
 ·
  intro hm
  by_cases h0:0≤zd8 (fun x=>decide (x=m)) S
  ·
   obtain⟨x,hx,rfl⟩:=h.1 h0
   exact absurd hx hm
  ·
   omega
theorem zsi {S:List (List Int)}{m:List Int}(h:0≤zek S m): ∃k:Nat,zek S m=k∧S[k]?=some m∧k<S.length:=by
 unfold zek zd8 at h⊢
 cases e:S.findIdx? (fun x=>decide (x=m)) with
 |none=>rw[e] at h;simp at h
 | some k=>
  refine⟨k,rfl,?_,?_⟩
  ·
   have:=List.findIdx?_eq_some_iff_getElem.1 e
   obtain⟨h1,h2,_⟩:=this
   rw[List.getElem?_eq_getElem h1]
   exact congrArg some (of_decide_eq_true h2)
  ·
   exact(List.findIdx?_eq_some_iff_getElem.1 e).1
theorem z4a {S:List (List Int)}{m:List Int}{k:Nat}(hk:S[k]?=some m)(hn: ∀j,j<k→S[j]?≠some m):zek S m=k:=
 zd3 hk (decide_eq_true J) (fun j a hj ha=>decide_eq_false (fun e=>hn j hj (by rw[ha,e])))
theorem zh5 {S:List (List Int)}{m:List Int}(h:m ∉ S):zek (S++[m]) m=S.length:=
 z4a xm (fun j hj e=>h (by rw[List.getElem?_append_left hj] at e;exact List.mem_of_getElem? e))
theorem zi5 {S:List (List Int)}{m x:List Int}(h:m∈S):zek (S++[x]) m=zek S m:=by
 obtain⟨k,h1,h2,h3⟩:=zsi (S:=S) (m:=m) (by by_cases h0:zek S m<0;exact absurd h (zg1.1 h0);omega)
 unfold zek zd8 at*
 rw[List.findIdx?_append]
 cases e:S.findIdx? (fun x=>decide (x=m)) with
 |none=>rw[e] at h1;simp at h1
 |some k=>rfl
theorem zx3 {n:Net}{m:List Int}{t:Int}(hm:zdd n m=true)(h:(zen n m t).2=0):zdd n (zen n m t).1=true:=by
 unfold zen at h⊢
 rw[if_pos hm] at h⊢
 exact zpo hm h
theorem znh {n:Net}{m:List Int}(h:zdd n m=true): ∀x∈m,0≤x∧x≤255:=by
 intro x hx
 unfold zdd at h
 simp only[Bool.and_eq_true] at h
 obtain⟨k,_,rfl⟩:=mem_gti' hx
 have:=zgw h.2 k
 omega
theorem zr5 {n:Net}{m:List Int}(h:zdd n m=true):1≤m.length∧m.length≤40∧(m.length:Int)=n.places:=by
 unfold zdd at h
 simp only[Bool.and_eq_true] at h
 have:=zft h.2
 have:=zbu h.1
 omega
structure SI (n:Net)(most:Int)(s:Spc):Prop where
 marks: ∀x∈s.st,zdd n x=true
 nd:s.st.Nodup
 ne:1≤s.st.length
 le:(s.st.length:Int)≤most
 mvs:s.mv.length≤20000
theorem SI.step {n:Net}{most:Int}{s s':Spc}{i:Nat}{x:List Int}{t:Int}(h:SI n most s)(hx:zdd n x=true)(he:xstS most i s (zen n x t) t=some s'):SI n most s':=by
 unfold xstS at he
 split at he
 ·
  cases he;exact⟨h.marks,h.nd,h.ne,h.le,h.mvs⟩
 ·
  rename_i h1
  split at he
  ·
   cases he
  ·
   rename_i h2
   cases he
   have h0:(zen n x t).2=0:=Classical.byContradiction fun hc=>h1 (.inl hc)
   by_cases hf:zek s.st (zen n x t).1<0
   ·
    simp only[if_pos hf]
    have hlt: ¬most≤s.st.length:=fun hc=>h1 (.inr ⟨hf,hc⟩)
    refine⟨fun y hy=>?_,?_,by simp,by simp;omega,by simp;omega⟩
    ·
     rcases List.mem_append.1 hy with hy|hy
     ·
      exact h.marks y hy
     ·
      simp at hy;subst hy;exact zx3 hx h0
    ·
     refine List.nodup_append.2 ⟨h.nd,by simp,fun a ha b hb e=>?_⟩
     simp at hb
     subst hb e
     exact zg1.1 hf ha
   ·
    simp only[if_neg hf]
    exact⟨h.marks,h.nd,h.ne,h.le,by simp;omega⟩
theorem SI.gti {n:Net}{most:Int}{s:Spc}(h:SI n most s){i:Nat}(hi:i<s.st.length):zdd n (gti s.st i)=true:=h.marks _ (gti_mem hi)
end
namespace Dl
open Go.RowKit
structure Gr where
 st:List (List Int)
 ed:List Edg
def idx (S:List (List Int))(x:List Int):Nat:=if zek S x<0 then S.length else(zek S x).toNat
def oneD (most:Int)(i:Nat)(r:List Int × Int)(g:Gr):Option Gr:=
 if zek g.st r.1<0∧most≤g.st.length then none
 else some ⟨if zek g.st r.1<0 then g.st++[r.1] else g.st,g.ed++[⟨i,idx g.st r.1,r.2⟩]⟩
section
variable {nx:List Int→List (List Int × Int)}{s0:List Int}{most:Int}{okS:List Int→Prop}
structure BI (nx:List Int→List (List Int × Int))(s0:List Int)(most:Int)(okS:List Int→Prop)(g:Gr):Prop where
 h0:g.st[0]?=some s0
 nd:g.st.Nodup
 le:(g.st.length:Int)≤most
 ok: ∀x∈g.st,okS x
 eok: ∀e∈g.ed,e.a<g.st.length∧e.b<g.st.length∧0≤e.c∧e.c≤1000∧(gti g.st e.b,e.c)∈nx (gti g.st e.a)
 rch: ∀j,j<g.st.length→ ∃d,d≤1000*(j:Int)∧Way g.ed j 0 d
structure NxOk (nx:List Int→List (List Int × Int))(okS:List Int→Prop):Prop where
 ok: ∀x,okS x→ ∀r∈nx x,okS r.1∧0≤r.2∧r.2≤1000
 len: ∀x,okS x→(nx x).length≤4000
theorem Way.mono {M M':List Edg}(h: ∀e∈M,e∈M'){t k:Nat}{d:Int}(w:Way M t k d):Way M' t k d:=by
 induction w with
 |nil=>exact .nil
 |cons e d he _ ih=>exact .cons e d (h e he) ih
theorem zty {S:List (List Int)}{x:List Int}(h:zek S x<0):idx S x=S.length:=by unfold idx;rw[if_pos h]
theorem zh4 {S:List (List Int)}{x:List Int}(h: ¬zek S x<0):S[idx S x]?=some x∧idx S x<S.length∧((idx S x:Nat):Int)=zek S x:=by
 obtain⟨k,h1,h2,h3⟩:=zsi (S:=S) (m:=x) xa
 have:idx S x=k:=by unfold idx;rw[if_neg h,h1];rfl
 rw[this];exact⟨h2,h3,h1.symm⟩
theorem zcj {α:Type}[Inhabited α]{L t:List α}{j:Nat}(h:j<L.length):gti (L++t) j=gti L j:=by unfold gti;rw[List.getElem?_append_left h]
theorem zef {α:Type}[Inhabited α]{L:List α}{x:α}:gti (L++[x]) L.length=x:=by unfold gti;simp
theorem zfq {α:Type}[Inhabited α]{L:List α}{x:α}{j:Nat}(h:L[j]?=some x):gti L j=x:=by unfold gti;rw[h];rfl
theorem BI.step {g g':Gr}{i:Nat}{r:List Int × Int}(hN:NxOk nx okS)(h:BI nx s0 most okS g)(hi:i<g.st.length)(hr:r∈nx (gti g.st i))(he:oneD most i r g=some g'):
  BI nx s0 most okS g'∧(∃T,g'.st=g.st++T)∧g'.ed=g.ed++[⟨i,idx g.st r.1,r.2⟩]∧g'.st[idx g.st r.1]?=some r.1:=by
 have hoi:=hN.ok _ (h.ok _ (gti_mem hi)) r hr
 unfold oneD at he
 split at he
 ·
  cases he
 ·
  rename_i hno
  cases he
  have hx0:gti g.st 0=s0:=zfq h.h0
  by_cases hf:zek g.st r.1<0
  ·
   simp only[if_pos hf]
   have hid:=zty hf
   rw[hid]
   have hlt: ¬most≤g.st.length:=fun hc=>hno ⟨hf,hc⟩
   have hnm:r.1 ∉ g.st:=zg1.1 hf
   refine⟨⟨?_,?_,by simp;omega,fun x hx=>?_,fun e hx=>?_,fun j hj=>?_⟩,⟨_,rfl⟩,trivial,by simp⟩
   ·
    show(g.st++[r.1])[0]?=_
    rw[List.getElem?_append_left xa];exact h.h0
   ·
    refine List.nodup_append.2 ⟨h.nd,by simp,fun a ha b hb e=>?_⟩
    simp at hb;subst hb e;exact hnm ha
   ·
    rcases List.mem_append.1 hx with hx|hx
    ·
     exact h.ok x hx
    ·
     simp at hx;subst hx;exact hoi.1
   ·
    have e1:(g.st++[r.1]).length=g.st.length+1:=by simp
    rcases List.mem_append.1 hx with hx|hx
    ·
     obtain⟨q1,q2,q3,q4,q5⟩:=h.eok e hx
     refine⟨by simp;omega,by simp;omega,q3,q4,?_⟩
     show(gti (g.st++[r.1]) e.b,e.c)∈nx (gti (g.st++[r.1]) e.a)
     rw[zcj q1,zcj q2];exact q5
    ·
     simp at hx;subst hx
     refine⟨by simp;omega,by simp,hoi.2.1,hoi.2.2,?_⟩
     show(gti (g.st++[r.1]) g.st.length,r.2)∈nx (gti (g.st++[r.1]) i)
     rw[zcj hi,zef];exact hr
   ·
    have hj2:j<g.st.length+1:=by simpa using hj
    by_cases hjn:j<g.st.length
    ·
     obtain⟨d,hd,hw⟩:=h.rch j hjn
     exact⟨d,hd,hw.mono (fun e he=>List.mem_append_left _ he)⟩
    ·
     have:j=g.st.length:=by omega
     subst this
     obtain⟨d,hd,hw⟩:=h.rch i hi
     have hw2:=hw.mono (M':=g.ed++[⟨i,g.st.length,r.2⟩]) (fun e he=>List.mem_append_left _ he)
     exact⟨d+r.2,by have:=hoi.2.2;omega,hw2.snoc (e:=⟨i,g.st.length,r.2⟩) xm J⟩
  ·
   simp only[if_neg hf]
   obtain⟨p1,p2,p3⟩:=zh4 hf
   refine⟨⟨h.h0,h.nd,h.le,h.ok,fun e hx=>?_,fun j hj=>?_⟩,⟨[],by simp⟩,trivial,p1⟩
   ·
    rcases List.mem_append.1 hx with hx|hx
    ·
     exact h.eok e hx
    ·
     simp at hx;subst hx
     refine⟨hi,p2,hoi.2.1,hoi.2.2,?_⟩
     show(gti g.st (idx g.st r.1),r.2)∈nx (gti g.st i)
     rw[zfq p1];exact hr
   ·
    obtain⟨d,hd,hw⟩:=h.rch j hj
    exact⟨d,hd,hw.mono (fun e he=>List.mem_append_left _ he)⟩
def Clo (nx:List Int→List (List Int × Int))(g:Gr)(i q:Nat):Prop:=
 ∀ (k:Nat) r,k<q→(nx (gti g.st i))[k]?=some r→ ∃j,g.st[j]?=some r.1∧(⟨i,j,r.2⟩:Edg)∈g.ed
theorem Clo.grow {g g':Gr}{i q:Nat}(hi:i<g.st.length)(h:Clo nx g i q)(hs: ∃T,g'.st=g.st++T)(he: ∃T,g'.ed=g.ed++T):Clo nx g' i q:=by
 obtain⟨T,hs⟩:=hs
 obtain⟨U,he⟩:=he
 intro k r hk hr
 rw[hs,zcj hi] at hr
 obtain⟨j,h1,h2⟩:=h k r hk hr
 exact⟨j,by rw[hs,List.getElem?_append_left (List.getElem?_eq_some_iff.1 h1).1];exact h1,by rw[he];exact List.mem_append_left _ h2⟩
end
end Dl
namespace Dl
open Go.RowKit
abbrev En:=Int × Int
instance:Inhabited En:=⟨(0,0)⟩
def ky (l:List En)(k:Nat):Int:=(gti l k).1
def swp (l:List En)(i j:Nat):List En:=(l.set i (gti l j)).set j (gti l i)
def upF:Nat→List En→Nat→List En
 |0,l,_=>l
 |f+1,l,j=>if j=0 then l else if ky l j<ky l ((j-1) / 2) then upF f (swp l ((j-1) / 2) j) ((j-1) / 2) else l
def upD (l:List En)(j:Nat):List En:=upF j l j
theorem zuz: ∀ (f g:Nat) (l:List En) (j:Nat),j≤f→j≤g→upF f l j=upF g l j
 |0,0,l,j,_,_=>rfl
 |0,g+1,l,j,h,_=>by
  have:j=0:=by omega
  subst this;rfl
 |f+1,0,l,j,_,h=>by
  have:j=0:=by omega
  subst this;rfl
 | f+1,g+1,l,j,h1,h2=>by
  unfold upF
  split
  ·
   rfl
  ·
   split
   ·
    exact zuz f g _ _ xa xa
   ·
    rfl
theorem zu0 (l:List En)(j:Nat):upD l j=if h:j=0 then l else if ky l j<ky l ((j-1) / 2) then upD (swp l ((j-1) / 2) j) ((j-1) / 2) else l:=by
 unfold upD
 cases j with
 |zero=>rfl
 |succ j=>
  rw[dif_neg xa]
  show(if j+1=0 then l else if ky l (j+1)<ky l ((j+1-1) / 2) then upF j (swp l ((j+1-1) / 2) (j+1)) ((j+1-1) / 2) else l)=_
  rw[if_neg xa,zuz j ((j+1-1) / 2) _ _ xa (Nat.le_refl _)]
def chD (l:List En)(n i:Nat):Nat:=if 2*i+2<n∧ky l (2*i+2)<ky l (2*i+1) then 2*i+2 else 2*i+1
theorem zl1 {l:List En}{n i:Nat}(h:2*i+1<n):i<chD l n i∧chD l n i<n∧(chD l n i-1) / 2=i:=by
 unfold chD;split<;>omega
def dnF:Nat→List En→Nat→Nat→List En
 |0,l,_,_=>l
 |f+1,l,n,i=>if 2*i+1<n then(if ky l (chD l n i)<ky l i then dnF f (swp l i (chD l n i)) n (chD l n i) else l) else l
def dnD (l:List En)(n i:Nat):List En:=dnF (n-i) l n i
theorem zwd: ∀ (f g:Nat) (l:List En) (n i:Nat),n-i≤f→n-i≤g→dnF f l n i=dnF g l n i
 |0,0,l,n,i,_,_=>rfl
 |0,g+1,l,n,i,h,_=>by unfold dnF;rw[if_neg xa]
 |f+1,0,l,n,i,_,h=>by unfold dnF;rw[if_neg xa]
 | f+1,g+1,l,n,i,h1,h2=>by
  unfold dnF
  split
  ·
   rename_i h3
   have:=zl1 (l:=l) h3
   split
   ·
    exact zwd f g _ _ _ xa xa
   ·
    rfl
  ·
   rfl
theorem zkq (l:List En)(n i:Nat):dnD l n i=if h:2*i+1<n then(if ky l (chD l n i)<ky l i then dnD (swp l i (chD l n i)) n (chD l n i) else l) else l:=by
 unfold dnD
 by_cases h:2*i+1<n
 ·
  rw[dif_pos h]
  obtain⟨f,hf⟩: ∃f,n-i=f+1:=⟨n-i-1,by omega⟩
  have:=zl1 (l:=l) h
  rw[hf]
  show(if 2*i+1<n then(if ky l (chD l n i)<ky l i then dnF f (swp l i (chD l n i)) n (chD l n i) else l) else l)=_
  rw[if_pos h,zwd f (n-chD l n i) _ _ _ xa (Nat.le_refl _)]
 ·
  rw[dif_neg h]
  cases n-i with
  |zero=>rfl
  |succ f=>show(if 2*i+1<n then _ else l)=l;rw[if_neg h]
theorem zd4 (l:List En)(i j:Nat):(swp l i j).length=l.length:=by unfold swp;simp
theorem gti_set (l:List En)(i k:Nat)(x:En)(hi:i<l.length):gti (l.set i x) k=if i=k then x else gti l k:=by
 unfold gti
 rw[List.getElem?_set]
 split
 ·
  rename_i h;subst h;first|rfl|(rw[if_pos hi];rfl)
 ·
  rfl
theorem zk8 {l:List En}{i j:Nat}(hi:i<l.length)(hj:j<l.length)(k:Nat):gti (swp l i j) k=if k=j then gti l i else if k=i then gti l j else gti l k:=by
 unfold swp
 rw[gti_set _ _ _ _ (by simpa using hj),gti_set _ _ _ _ hi]
 by_cases h:j=k
 ·
  subst h;simp
 ·
  by_cases h2:i=k
  ·
   subst h2;rw[if_neg h,if_pos J,if_neg (fun e=>h e.symm)]
  ·
   rw[if_neg h,if_neg h2,if_neg (fun e=>h e.symm),if_neg (fun e=>h2 e.symm)]
theorem zvt {l:List En}{i j:Nat}(hi:i<l.length)(hj:j<l.length)(k:Nat):ky (swp l i j) k=if k=j then ky l i else if k=i then ky l j else ky l k:=by
 unfold ky
 rw[zk8 hi hj]
 split
 ·
  rfl
 ·
  split<;>rfl
def Hp (l:List En)(n:Nat):Prop:= ∀k,1≤k→k<n→ky l ((k-1) / 2)≤ky l k
structure UpI (l:List En)(n j:Nat):Prop where
 a: ∀k,1≤k→k<n→k≠j→ky l ((k-1) / 2)≤ky l k
 b: ∀k,1≤k→k<n→(k-1) / 2=j→1≤j→ky l ((j-1) / 2)≤ky l k
theorem z2w {l:List En}{n j:Nat}(hn:n≤l.length)(hj:j<n)(h0:1≤j)(h:UpI l n j)(hlt:ky l j<ky l ((j-1) / 2)):UpI (swp l ((j-1) / 2) j) n ((j-1) / 2):=by
 obtain⟨i,hi⟩: ∃i,(j-1) / 2=i:=⟨_,rfl⟩
 rw[hi] at hlt⊢
 have hij:i<j:=by omega
 have hs:=zvt (l:=l) (i:=i) (j:=j) xa xa
 refine⟨fun k h1 h2 h3=>?_,fun k h1 h2 h3 h4=>?_⟩
 ·
  rw[hs,hs]
  by_cases hkj:k=j
  ·
   subst hkj
   rw[if_pos J,hi,if_neg xa,if_pos J]
   omega
  ·
   rw[if_neg hkj,if_neg h3]
   have ha:=h.a k h1 h2 hkj
   by_cases hpj:(k-1) / 2=j
   ·
    rw[if_pos hpj]
    have:=h.b k h1 h2 hpj h0
    rwa [hi] at this
   ·
    rw[if_neg hpj]
    by_cases hpi:(k-1) / 2=i
    ·
     rw[if_pos hpi];rw[hpi] at ha;omega
    ·
     rw[if_neg hpi];exact ha
 ·
  have hai:=h.a i h4 xa xa
  rw[hs,hs,if_neg (show(i-1) / 2≠j by omega),if_neg (show(i-1) / 2≠i by omega)]
  by_cases hkj:k=j
  ·
   rw[if_pos hkj];exact hai
  ·
   rw[if_neg hkj,if_neg (show k≠i by omega)]
   have ha:=h.a k h1 h2 hkj
   rw[h3] at ha
   omega
theorem upD_hp {l:List En}{n:Nat}(hn:n≤l.length): ∀j,j<n→UpI l n j→Hp (upD l j) n:=by
 intro j
 induction j using Nat.strongRecOn generalizing l with
 | _ j ih=>
  intro hj h
  rw[zu0]
  split
  ·
   rename_i h0
   exact fun k h1 h2=>h.a k h1 h2 xa
  ·
   rename_i h0
   split
   ·
    rename_i hlt
    exact ih ((j-1) / 2) xa (by rw[zd4];exact hn) xa (z2w hn hj xa h hlt)
   ·
    rename_i hlt
    intro k h1 h2
    by_cases hk:k=j
    ·
     subst hk;omega
    ·
     exact h.a k h1 h2 hk
def Mm (l:List En)(n:Nat)(e:En):Prop:= ∃k,k<n∧gti l k=e
theorem z5i {l:List En}{n i j:Nat}(hn:n≤l.length)(hi:i<n)(hj:j<n)(e:En):Mm (swp l i j) n e↔Mm l n e:=by
 have hs:=fun k=>zk8 (l:=l) (i:=i) (j:=j) xa xa k
 constructor
 ·
  rintro ⟨k,h1,h2⟩
  rw[hs] at h2
  by_cases h3:k=j
  ·
   rw[if_pos h3] at h2;exact⟨i,hi,h2⟩
  ·
   rw[if_neg h3] at h2
   by_cases h4:k=i
   ·
    rw[if_pos h4] at h2;exact⟨j,hj,h2⟩
   ·
    rw[if_neg h4] at h2;exact⟨k,h1,h2⟩
 ·
  rintro ⟨k,h1,h2⟩
  by_cases h3:k=j
  ·
   subst h3
   by_cases h4:i=k
   ·
    subst h4;exact⟨i,hi,by rw[hs,if_pos J];exact h2⟩
   ·
    exact⟨i,hi,by rw[hs,if_neg h4,if_pos J];exact h2⟩
  ·
   by_cases h4:k=i
   ·
    subst h4;exact⟨j,hj,by rw[hs,if_pos J];exact h2⟩
   ·
    exact⟨k,h1,by rw[hs,if_neg h3,if_neg h4];exact h2⟩
theorem z6k (l:List En)(j:Nat):(upD l j).length=l.length:=by
 induction j using Nat.strongRecOn generalizing l with
 | _ j ih=>
  rw[zu0]
  split
  ·
   rfl
  ·
   split
   ·
    rw[ih _ xa,zd4]
   ·
    rfl
theorem upD_mm {n:Nat}(e:En): ∀ (j:Nat) (l:List En),n≤l.length→j<n→(Mm (upD l j) n e↔Mm l n e):=by
 intro j
 induction j using Nat.strongRecOn with
 | _ j ih=>
  intro l hn hj
  rw[zu0]
  split
  ·
   exact Iff.rfl
  ·
   split
   ·
    rw[ih _ xa _ (by rw[zd4];exact hn) xa]
    exact z5i hn xa hj e
   ·
    exact Iff.rfl
theorem z8r (n:Nat): ∀ (m i:Nat) (l:List En),n-i≤m→(dnD l n i).length=l.length:=by
 intro m
 induction m with
 |zero=>intro i l h;rw[zkq,dif_neg xa]
 | succ m ih=>
  intro i l h
  rw[zkq]
  split
  ·
   rename_i h1
   have hc:=zl1 (l:=l) h1
   split
   ·
    rw[ih _ _ xa,zd4]
   ·
    rfl
  ·
   rfl
theorem dnD_ge {n:Nat}: ∀ (m i:Nat) (l:List En),n-i≤m→n≤l.length→ ∀k,n≤k→gti (dnD l n i) k=gti l k:=by
 intro m
 induction m with
 |zero=>intro i l h _ k _;rw[zkq,dif_neg xa]
 | succ m ih=>
  intro i l h hn k hk
  rw[zkq]
  split
  ·
   rename_i h1
   have hc:=zl1 (l:=l) h1
   split
   ·
    rw[ih _ _ xa (by rw[zd4];exact hn) k hk,zk8 xa xa,if_neg xa,if_neg xa]
   ·
    rfl
  ·
   rfl
theorem z58 {n:Nat}(e:En): ∀ (m i:Nat) (l:List En),n-i≤m→n≤l.length→(Mm (dnD l n i) n e↔Mm l n e):=by
 intro m
 induction m with
 |zero=>intro i l h _;rw[zkq,dif_neg xa]
 | succ m ih=>
  intro i l h hn
  rw[zkq]
  split
  ·
   rename_i h1
   have hc:=zl1 (l:=l) h1
   split
   ·
    rw[ih _ _ xa (by rw[zd4];exact hn)]
    exact z5i hn xa xa e
   ·
    exact Iff.rfl
  ·
   exact Iff.rfl
structure DnI (l:List En)(n i:Nat):Prop where
 a: ∀k,1≤k→k<n→(k-1) / 2≠i→ky l ((k-1) / 2)≤ky l k
 b: ∀k,1≤k→k<n→(k-1) / 2=i→1≤i→ky l ((i-1) / 2)≤ky l k
theorem z6b {l:List En}{n i:Nat}(h:2*i+1<n){k:Nat}(h1:1≤k)(h2:k<n)(h3:(k-1) / 2=i):ky l (chD l n i)≤ky l k:=by
 have hk:k=2*i+1∨k=2*i+2:=by omega
 unfold chD
 split
 ·
  rename_i h4
  rcases hk with rfl|rfl
  ·
   omega
  ·
   exact Int.le_refl _
 ·
  rename_i h4
  rcases hk with rfl|rfl
  ·
   exact Int.le_refl _
  ·
   rcases Decidable.not_and_iff_not_or_not.1 h4 with h5|h5<;>omega
theorem z4s {l:List En}{n i:Nat}(hn:n≤l.length)(h1:2*i+1<n)(h:DnI l n i)(hlt:ky l (chD l n i)<ky l i):DnI (swp l i (chD l n i)) n (chD l n i):=by
 have hle:=fun k a b c=>z6b (l:=l) (n:=n) (i:=i) h1 (k:=k) a b c
 obtain⟨c1,c2,c3⟩:=zl1 (l:=l) h1
 generalize chD l n i=j at hlt hle c1 c2 c3
 have hs:=zvt (l:=l) (i:=i) (j:=j) xa xa
 refine⟨fun k g1 g2 g3=>?_,fun k g1 g2 g3 g4=>?_⟩
 ·
  rw[hs,hs,if_neg g3]
  by_cases hp:(k-1) / 2=i
  ·
   rw[if_pos hp]
   by_cases hk:k=j
   ·
    rw[if_pos hk];omega
   ·
    rw[if_neg hk,if_neg (show k≠i by omega)]
    exact hle k g1 g2 hp
  ·
   rw[if_neg hp]
   have ha:=h.a k g1 g2 hp
   by_cases hk:k=i
   ·
    rw[if_neg (show k≠j by omega),if_pos hk]
    subst hk
    exact h.b j xa c2 c3 g1
   ·
    rw[if_neg (show k≠j by intro e;subst e;exact hp c3),if_neg hk]
    exact ha
 ·
  rw[hs,hs,c3,if_neg (show i≠j by omega),if_pos J,if_neg (show k≠j by omega),if_neg (show k≠i by omega)]
  have:=h.a k g1 g2 xa
  rwa [g3] at this
theorem dnD_hp {n:Nat}: ∀ (m i:Nat) (l:List En),n-i≤m→n≤l.length→DnI l n i→Hp (dnD l n i) n:=by
 intro m
 induction m with
 |zero=>
  intro i l h hn hI
  rw[zkq]
  rw[dif_neg xa]
  exact fun k h1 h2=>hI.a k h1 h2 xa
 | succ m ih=>
  intro i l h hn hI
  rw[zkq]
  split
  ·
   rename_i h1
   have hc:=zl1 (l:=l) h1
   split
   ·
    rename_i hlt
    exact ih _ _ xa (by rw[zd4];exact hn) (z4s hn h1 hI hlt)
   ·
    rename_i hlt
    intro k g1 g2
    by_cases hp:(k-1) / 2=i
    ·
     have:=z6b (l:=l) h1 g1 g2 hp
     rw[hp];omega
    ·
     exact hI.a k g1 g2 hp
  ·
   rename_i h1
   exact fun k g1 g2=>hI.a k g1 g2 xa
def zix (l:List En)(e:En):List En:=upD (l++[e]) l.length
def popD (l:List En):List En:=dnD (swp l 0 (l.length-1)) (l.length-1) 0
theorem zr3 {l:List En}{e:En}:e∈l↔Mm l l.length e:=by
 constructor
 ·
  intro h
  obtain⟨k,hk,rfl⟩:=List.mem_iff_getElem.1 h
  exact⟨k,hk,zfq (List.getElem?_eq_getElem hk)⟩
 ·
  rintro ⟨k,hk,rfl⟩;exact gti_mem hk
theorem zim (l:List En)(e:En):(zix l e).length=l.length+1:=by unfold zix;rw[z6k];simp
theorem zil {l:List En}{e x:En}:x∈zix l e↔x∈l∨x=e:=by
 have h:=upD_mm (n:=l.length+1) x l.length (l++[e]) xm xa
 rw[zr3,zim]
 unfold zix
 rw[h,show l.length+1=(l++[e]).length by simp, ←zr3]
 simp
theorem zv0 {l:List En}{e:En}{k:Nat}(h:k<l.length):gti (l++[e]) k=gti l k:=by unfold gti;rw[List.getElem?_append_left h]
theorem zzi {l:List En}{e:En}(h:Hp l l.length):Hp (zix l e) (zix l e).length:=by
 rw[zim]
 refine upD_hp xm _ xa ⟨fun k h1 h2 h3=>?_,fun k h1 h2 h3 h4=>by omega⟩
 have:=h k h1 xa
 unfold ky at this⊢
 rw[zv0 xa,zv0 xa]
 exact this
theorem zgo {l:List En}:(popD l).length=l.length:=by unfold popD;rw[z8r _ _ _ _ (Nat.le_refl _),zd4]
theorem z69 {l:List En}(h:0<l.length):gti (popD l) (l.length-1)=gti l 0:=by
 unfold popD
 rw[dnD_ge _ _ _ (Nat.le_refl _) (by rw[zd4];omega) _ (Nat.le_refl _),zk8 h xa,if_pos J]
theorem zmc {l:List En}{m k:Nat}(h:k<m):gti (l.take m) k=gti l k:=by unfold gti;rw[List.getElem?_take,if_pos h]
theorem zyh {l:List En}{m:Nat}(hm:m≤l.length){e:En}:e∈l.take m↔Mm l m e:=by
 rw[zr3,List.length_take,Nat.min_eq_left hm]
 constructor
 ·
  rintro ⟨k,h1,h2⟩;exact⟨k,h1,by rwa [zmc h1] at h2⟩
 ·
  rintro ⟨k,h1,h2⟩;exact⟨k,h1,by rwa [zmc h1]⟩
theorem zqd {l:List En}(h:0<l.length){e:En}(he:e∈l):e=gti l 0∨e∈(popD l).take (l.length-1):=by
 rw[zyh (by rw[zgo];omega)]
 unfold popD
 rw[z58 e _ _ _ (Nat.le_refl _) (by rw[zd4];omega)]
 have hs:=fun k=>zk8 (l:=l) (i:=0) (j:=l.length-1) h xa k
 obtain⟨k,h1,h2⟩:=zr3.1 he
 by_cases h0:k=0
 ·
  subst h0;exact .inl h2.symm
 ·
  right
  by_cases h3:k=l.length-1
  ·
   refine⟨0,by omega,?_⟩
   rw[hs,if_neg xa,if_pos J, ←h3];exact h2
  ·
   exact⟨k,by omega,by rw[hs,if_neg h3,if_neg h0];exact h2⟩
theorem zqc {l:List En}{e:En}(he:e∈(popD l).take (l.length-1)):e∈l:=by
 have:e∈popD l:=List.mem_of_mem_take he
 by_cases h:l.length=0
 ·
  have:l=[]:=List.eq_nil_of_length_eq_zero h
  subst this
  simp at he
 ·
  rw[zyh (by rw[zgo];omega)] at he
  unfold popD at he
  rw[z58 e _ _ _ (Nat.le_refl _) (by rw[zd4];omega)] at he
  obtain⟨k,h1,h2⟩:=he
  rw[zk8 xa xa,if_neg xa] at h2
  split at h2
  ·
   rw[←h2];exact gti_mem xa
  ·
   rw[←h2];exact gti_mem xa
theorem hp_min {l:List En}{n:Nat}(h:Hp l n): ∀k,k<n→ky l 0≤ky l k:=by
 intro k
 induction k using Nat.strongRecOn with
 | _ k ih=>
  intro hk
  by_cases h0:k=0
  ·
   subst h0;exact Int.le_refl _
  ·
   exact Int.le_trans (ih ((k-1) / 2) xa xa) (h k xa hk)
theorem z6n {l:List En}(h:Hp l l.length){e:En}(he:e∈l):(gti l 0).1≤e.1:=by
 obtain⟨k,h1,h2⟩:=zr3.1 he
 rw[←h2]
 exact hp_min h k h1
theorem z71 {l:List En}{m:Nat}(h:Hp l m)(hm:m≤l.length):Hp (l.take m) (l.take m).length:=by
 rw[List.length_take,Nat.min_eq_left hm]
 intro k h1 h2
 unfold ky
 rw[zmc xa,zmc h2]
 exact h k h1 h2
theorem zvh {l:List En}(h:Hp l l.length):Hp ((popD l).take (l.length-1)) ((popD l).take (l.length-1)).length:=by
 refine z71 ?_ (by rw[zgo];omega)
 by_cases h0:l.length=0
 ·
  intro k h1 h2;omega
 refine dnD_hp _ _ _ (Nat.le_refl _) (by rw[zd4];omega) ⟨fun k h1 h2 h3=>?_,fun k h1 h2 h3 h4=>by omega⟩
 rw[zvt xa xa,zvt xa xa,if_neg xa,if_neg xa,if_neg xa,if_neg xa]
 exact h k h1 xa
end Dl
namespace Dl
open Go.RowKit
structure Sr where
 st:List (List Int)
 co:List Int
 dn:List Bool
 fr:List Int
 mv:List Stp
def metE (S:Sr)(y:List Int)(c f:Int)(m:Stp):Sr:=
 if zek S.st y<0 then⟨S.st++[y],S.co++[c],S.dn++[false],S.fr++[f],S.mv++[m]⟩
 else if c<gti S.co (idx S.st y) then⟨S.st,S.co.set (idx S.st y) c,S.dn,S.fr.set (idx S.st y) f,S.mv.set (idx S.st y) m⟩ else S
def chpE (S:Sr)(y:List Int)(c:Int):Bool:=decide (zek S.st y<0)||decide (c<gti S.co (idx S.st y))
inductive Wk (nx:List Int→List (List Int × Int))(s0:List Int):List Int→Int→Prop
 |nil:Wk nx s0 s0 0
 |step (x:List Int) (a:Int) (e:List Int × Int) (h:Wk nx s0 x a) (he:e∈nx x):Wk nx s0 e.1 (a+e.2)
def Cl (S:Sr)(k:Nat)(e:List Int × Int):Prop:= ∃j,j<S.st.length∧gti S.st j=e.1∧gti S.co j≤gti S.co k+e.2
section
variable {nx:List Int→List (List Int × Int)}{s0:List Int}{okS:List Int→Prop}
structure DB (nx:List Int→List (List Int × Int))(s0:List Int)(okS:List Int→Prop)(S:Sr)(cx:Int):Prop where
 l1:S.co.length=S.st.length
 l2:S.dn.length=S.st.length
 l3:S.fr.length=S.st.length
 l4:S.mv.length=S.st.length
 nd:S.st.Nodup
 h0:0<S.st.length
 z0:gti S.st 0=s0
 c0:gti S.co 0≤0
 wk: ∀k,k<S.st.length→Wk nx s0 (gti S.st k) (gti S.co k)
 lo: ∀k,k<S.st.length→gti S.dn k=true→gti S.co k≤cx
 hi: ∀k,k<S.st.length→gti S.dn k=false→cx≤gti S.co k
 ok: ∀x∈S.st,okS x
structure DI (nx:List Int→List (List Int × Int))(s0:List Int)(okS:List Int→Prop)(S:Sr)(cx:Int):Prop extends DB nx s0 okS S cx where
 cl: ∀k,k<S.st.length→gti S.dn k=true→ ∀e∈nx (gti S.st k),Cl S k e
structure DR (nx:List Int→List (List Int × Int))(s0:List Int)(okS:List Int→Prop)(S:Sr)(cx:Int)(x:Nat)(pr:List (List Int × Int)):Prop extends DB nx s0 okS S cx where
 xl:x<S.st.length
 xd:gti S.dn x=true
 xc:gti S.co x=cx
 cl: ∀k,k<S.st.length→gti S.dn k=true→k≠x→ ∀e∈nx (gti S.st k),Cl S k e
 cx': ∀e∈pr,Cl S x e
structure Dn (S:Sr)(D:List (List Int)):Prop where
 nd:D.Nodup
 iff: ∀v,v∈D↔ ∃k,k<S.st.length∧gti S.dn k=true∧gti S.st k=v
theorem zhg (l:List Bool)(i k:Nat)(x:Bool)(hi:i<l.length):gti (l.set i x) k=if i=k then x else gti l k:=by
 unfold gti
 rw[List.getElem?_set]
 split
 ·
  rename_i h;subst h;first|rfl|(rw[if_pos hi];rfl)
 ·
  rfl
theorem zkd (l:List Int)(i k:Nat)(x:Int)(hi:i<l.length):gti (l.set i x) k=if i=k then x else gti l k:=by
 unfold gti
 rw[List.getElem?_set]
 split
 ·
  rename_i h;subst h;first|rfl|(rw[if_pos hi];rfl)
 ·
  rfl
structure Le (S T:Sr):Prop where
 len:S.st.length≤T.st.length
 st: ∀k,k<S.st.length→gti T.st k=gti S.st k
 co: ∀k,k<S.st.length→gti T.co k≤gti S.co k
 dn: ∀k,k<S.st.length→gti T.dn k=gti S.dn k
 dc: ∀k,k<S.st.length→gti S.dn k=true→gti T.co k=gti S.co k
theorem Cl.le {S T:Sr}{k:Nat}{e:List Int × Int}(h:Cl S k e)(hl:Le S T)(hk:k<S.st.length)(hd:gti S.dn k=true):Cl T k e:=by
 obtain⟨j,h1,h2,h3⟩:=h
 have:=hl.co j h1
 exact⟨j,by have:=hl.len;omega,by rw[hl.st j h1,h2],by rw[hl.dc k hk hd];omega⟩
theorem zz5 {S:Sr}{cx:Int}{x:Nat}{pr:List (List Int × Int)}(h:DR nx s0 okS S cx x pr){e:List Int × Int}(he:e∈nx (gti S.st x))(h0:0≤e.2)(hok:okS e.1)(f:Int)(m:Stp):
  DR nx s0 okS (metE S e.1 (cx+e.2) f m) cx x (pr++[e])∧Le S (metE S e.1 (cx+e.2) f m):=by
 have hwe:Wk nx s0 e.1 (cx+e.2):=by
  have:=Wk.step (gti S.st x) (gti S.co x) e (h.wk x h.xl) he
  rwa [h.xc] at this
 unfold metE
 split
 ·
  rename_i hf
  have hnm:=zg1.1 hf
  have gs: ∀k,k<S.st.length→gti (S.st++[e.1]) k=gti S.st k:=fun k hk=>zcj hk
  have gc: ∀k,k<S.st.length→gti (S.co++[cx+e.2]) k=gti S.co k:=fun k hk=>zcj (by rw[h.l1];exact hk)
  have gd: ∀k,k<S.st.length→gti (S.dn++[false]) k=gti S.dn k:=fun k hk=>zcj (by rw[h.l2];exact hk)
  have gs1:gti (S.st++[e.1]) S.st.length=e.1:=zef
  have gc1:gti (S.co++[cx+e.2]) S.st.length=cx+e.2:=by rw[←h.l1];exact zef
  have gd1:gti (S.dn++[false]) S.st.length=false:=by rw[←h.l2];exact zef
  have hle:Le S ⟨S.st++[e.1],S.co++[cx+e.2],S.dn++[false],S.fr++[f],S.mv++[m]⟩:=⟨by simp,gs,fun k hk=>by show gti (S.co++[cx+e.2]) k≤_;rw[gc k hk];exact Int.le_refl _,gd,fun k hk _=>gc k hk⟩
  have hcase: ∀k,k<(S.st++[e.1]).length→k<S.st.length∨k=S.st.length:=fun k hk=>by rw[List.length_append,List.length_singleton] at hk;omega
  refine⟨⟨⟨by simp[h.l1],by simp[h.l2],by simp[h.l3],by simp[h.l4],?_,by simp,?_,?_,fun k hk=>?_,fun k hk hd=>?_,fun k hk hd=>?_,fun y hy=>?_⟩,?_,?_,?_,fun k hk hd hx e' he'=>?_,fun e' he'=>?_⟩,hle⟩
  ·
   show(S.st++[e.1]).Nodup
   rw[List.nodup_append]
   exact⟨h.nd,by simp,fun a ha b hb=>by rintro rfl;simp at hb;subst hb;exact hnm ha⟩
  ·
   show gti (S.st++[e.1]) 0=s0
   rw[gs 0 h.h0];exact h.z0
  ·
   show gti (S.co++[cx+e.2]) 0≤0
   rw[gc 0 h.h0];exact h.c0
  ·
   show Wk nx s0 (gti (S.st++[e.1]) k) (gti (S.co++[cx+e.2]) k)
   rcases hcase k hk with h1|h1
   ·
    rw[gs k h1,gc k h1];exact h.wk k h1
   ·
    subst h1;rw[gs1,gc1];exact hwe
  ·
   show gti (S.co++[cx+e.2]) k≤cx
   replace hd:gti (S.dn++[false]) k=true:=hd
   rcases hcase k hk with h1|h1
   ·
    rw[gc k h1];rw[gd k h1] at hd;exact h.lo k h1 hd
   ·
    subst h1;rw[gd1] at hd;cases hd
  ·
   show cx≤gti (S.co++[cx+e.2]) k
   replace hd:gti (S.dn++[false]) k=false:=hd
   rcases hcase k hk with h1|h1
   ·
    rw[gc k h1];rw[gd k h1] at hd;exact h.hi k h1 hd
   ·
    subst h1;rw[gc1];omega
  ·
   rcases List.mem_append.1 hy with hy|hy
   ·
    exact h.ok y hy
   ·
    simp at hy;subst hy;exact hok
  ·
   show x<(S.st++[e.1]).length
   have:=h.xl;simp;omega
  ·
   show gti (S.dn++[false]) x=true
   rw[gd x h.xl];exact h.xd
  ·
   show gti (S.co++[cx+e.2]) x=cx
   rw[gc x h.xl];exact h.xc
  ·
   replace hd:gti (S.dn++[false]) k=true:=hd
   replace he':e'∈nx (gti (S.st++[e.1]) k):=he'
   rcases hcase k hk with h1|h1
   ·
    rw[gd k h1] at hd
    rw[gs k h1] at he'
    exact(h.cl k h1 hd hx e' he').le hle h1 hd
   ·
    subst h1;rw[gd1] at hd;cases hd
  ·
   rcases List.mem_append.1 he' with h1|h1
   ·
    exact(h.cx' e' h1).le hle h.xl h.xd
   ·
    simp at h1;subst h1
    refine⟨S.st.length,by simp,gs1,?_⟩
    show gti (S.co++[cx+e'.2]) S.st.length≤gti (S.co++[cx+e'.2]) x+e'.2
    rw[gc1,gc x h.xl,h.xc]
    exact Int.le_refl _
 ·
  rename_i hf
  obtain⟨p1,p2,p3⟩:=zh4 hf
  have hst:gti S.st (idx S.st e.1)=e.1:=zfq p1
  generalize idx S.st e.1=i at p1 p2 p3 hst
  split
  ·
   rename_i hlt
   have hni:gti S.dn i=false:=by
    cases hd:gti S.dn i with
    |false=>rfl
    |true=>have:=h.lo i p2 hd;omega
   have hix:i≠x:=fun e1=>by rw[e1,h.xd] at hni;cases hni
   have gc: ∀k,gti (S.co.set i (cx+e.2)) k=if i=k then cx+e.2 else gti S.co k:=fun k=>zkd _ _ _ _ (by rw[h.l1];exact p2)
   have hle:Le S ⟨S.st,S.co.set i (cx+e.2),S.dn,S.fr.set i f,S.mv.set i m⟩:=⟨Nat.le_refl _,fun _ _=>rfl,fun k hk=>by
    show gti (S.co.set i (cx+e.2)) k≤_
    rw[gc];split
    ·
     rename_i h1;subst h1;omega
    ·
     exact Int.le_refl _,fun _ _=>rfl,fun k hk hd=>by
    show gti (S.co.set i (cx+e.2)) k=_
    rw[gc,if_neg (by rintro rfl;rw[hni] at hd;cases hd)]⟩
   refine⟨⟨⟨by simp[h.l1],h.l2,by simp[h.l3],by simp[h.l4],h.nd,h.h0,h.z0,?_,fun k hk=>?_,fun k hk hd=>?_,fun k hk hd=>?_,h.ok⟩,h.xl,h.xd,?_,fun k hk hd hx e' he'=>(h.cl k hk hd hx e' he').le hle hk hd,fun e' he'=>?_⟩,hle⟩
   ·
    have h1:gti (S.co.set i (cx+e.2)) 0≤gti S.co 0:=hle.co 0 h.h0
    exact Int.le_trans h1 h.c0
   ·
    show Wk nx s0 (gti S.st k) (gti (S.co.set i (cx+e.2)) k)
    rw[gc];split
    ·
     rename_i h1;subst h1;rw[hst];exact hwe
    ·
     exact h.wk k hk
   ·
    show gti (S.co.set i (cx+e.2)) k≤cx
    rw[gc,if_neg (by rintro rfl;rw[hni] at hd;cases hd)]
    exact h.lo k hk hd
   ·
    show cx≤gti (S.co.set i (cx+e.2)) k
    rw[gc];split
    ·
     omega
    ·
     exact h.hi k hk hd
   ·
    show gti (S.co.set i (cx+e.2)) x=cx
    rw[gc,if_neg hix];exact h.xc
   ·
    rcases List.mem_append.1 he' with h1|h1
    ·
     exact(h.cx' e' h1).le hle h.xl h.xd
    ·
     simp at h1;subst h1
     refine⟨i,p2,hst,?_⟩
     show gti (S.co.set i (cx+e'.2)) i≤gti (S.co.set i (cx+e'.2)) x+e'.2
     rw[gc,if_pos J,gc,if_neg hix,h.xc]
     exact Int.le_refl _
  ·
   rename_i hlt
   refine⟨{h with cx':=fun e' he'=>?_},⟨Nat.le_refl _,fun _ _=>rfl,fun _ _=>Int.le_refl _,fun _ _=>rfl,fun _ _ _=>rfl⟩⟩
   rcases List.mem_append.1 he' with h1|h1
   ·
    exact h.cx' e' h1
   ·
    simp at h1;subst h1
    exact⟨i,p2,hst,by rw[h.xc];omega⟩
theorem z5x {S:Sr}{D:List (List Int)}(h:Dn S D)(hl:S.dn.length=S.st.length)(y:List Int)(c f:Int)(m:Stp):Dn (metE S y c f m) D:=by
 unfold metE
 split
 ·
  refine⟨h.nd,fun v=>?_⟩
  rw[h.iff]
  constructor
  ·
   rintro ⟨k,h1,h2,h3⟩
   exact⟨k,by show k<(S.st++[y]).length;simp;omega,by show gti (S.dn++[false]) k=true;rw[zcj xa];exact h2,by show gti (S.st++[y]) k=v;rw[zcj h1];exact h3⟩
  ·
   rintro ⟨k,h1,h2,h3⟩
   replace h1:k<(S.st++[y]).length:=h1
   replace h2:gti (S.dn++[false]) k=true:=h2
   replace h3:gti (S.st++[y]) k=v:=h3
   rw[List.length_append,List.length_singleton] at h1
   by_cases hk:k<S.st.length
   ·
    rw[zcj xa] at h2
    rw[zcj hk] at h3
    exact⟨k,hk,h2,h3⟩
   ·
    have:k=S.dn.length:=by omega
    rw[this,zef] at h2
    cases h2
 ·
  split
  ·
   exact⟨h.nd,h.iff⟩
  ·
   exact h
theorem znf {S:Sr}{cx:Int}(h:DI nx s0 okS S cx){x:Nat}(hx:x<S.st.length)(hd:gti S.dn x=false)(hm: ∀k,k<S.st.length→gti S.dn k=false→gti S.co x≤gti S.co k):
  DR nx s0 okS {S with dn:=S.dn.set x true} (gti S.co x) x []:=by
 have gd: ∀k,gti (S.dn.set x true) k=if x=k then true else gti S.dn k:=fun k=>zhg _ _ _ _ (by rw[h.l2];exact hx)
 have hcx:=h.hi x hx hd
 refine⟨⟨h.l1,by simp[h.l2],h.l3,h.l4,h.nd,h.h0,h.z0,h.c0,h.wk,fun k hk hdk=>?_,fun k hk hdk=>?_,h.ok⟩,hx,by show gti (S.dn.set x true) x=true;rw[gd,if_pos rfl],rfl,fun k hk hdk hkx e he=>?_,fun e he=>by cases he⟩
 ·
  replace hdk:gti (S.dn.set x true) k=true:=hdk
  rw[gd] at hdk
  split at hdk
  ·
   rename_i h1;subst h1;exact Int.le_refl _
  ·
   have:=h.lo k hk hdk;exact Int.le_trans this hcx
 ·
  replace hdk:gti (S.dn.set x true) k=false:=hdk
  rw[gd] at hdk
  split at hdk
  ·
   cases hdk
  ·
   exact hm k hk hdk
 ·
  replace hdk:gti (S.dn.set x true) k=true:=hdk
  rw[gd,if_neg (fun e=>hkx e.symm)] at hdk
  exact h.cl k hk hdk e he
theorem zng {S:Sr}{D:List (List Int)}(h:Dn S D)(hnd:S.st.Nodup)(hl:S.dn.length=S.st.length){x:Nat}(hx:x<S.st.length)(hd:gti S.dn x=false):Dn {S with dn:=S.dn.set x true} (gti S.st x::D):=by
 have gd: ∀k,gti (S.dn.set x true) k=if x=k then true else gti S.dn k:=fun k=>zhg _ _ _ _ (by rw[hl];exact hx)
 refine⟨List.nodup_cons.2 ⟨fun hm=>?_,h.nd⟩,fun v=>?_⟩
 ·
  obtain⟨k,h1,h2,h3⟩:=(h.iff _).1 hm
  have:k=x:=by
   have e1:=zbr h1
   have e2:=zbr hx
   rw[h3] at e1
   exact(List.getElem?_inj h1 hnd).1 (e1.trans e2.symm)
  rw[this,hd] at h2;cases h2
 ·
  rw[List.mem_cons,h.iff]
  constructor
  ·
   rintro (rfl|⟨k,h1,h2,h3⟩)
   ·
    exact⟨x,hx,by show gti (S.dn.set x true) x=true;rw[gd,if_pos J],rfl⟩
   ·
    exact⟨k,h1,by show gti (S.dn.set x true) k=true;rw[gd];split<;>first|rfl|exact h2,h3⟩
  ·
   rintro ⟨k,h1,h2,h3⟩
   replace h2:gti (S.dn.set x true) k=true:=h2
   rw[gd] at h2
   split at h2
   ·
    rename_i h4;subst h4;exact .inl h3.symm
   ·
    exact .inr ⟨k,h1,h2,h3⟩
theorem z57 {S:Sr}{cx:Int}{x:Nat}{pr:List (List Int × Int)}(h:DR nx s0 okS S cx x pr)(hp: ∀e∈nx (gti S.st x),e∈pr):DI nx s0 okS S cx:=
 ⟨h.toDB,fun k hk hd e he=>by
  by_cases hx:k=x
  ·
   subst hx;exact h.cx' e (hp e he)
  ·
   exact h.cl k hk hd hx e he⟩
theorem wk_low {S:Sr}{cx:Int}(h:DI nx s0 okS S cx){v:List Int}{a:Int}(hw:Wk nx s0 v a)(hnn: ∀x, ∀e∈nx x,okS x→0≤e.2∧okS e.1)(hs:okS s0):
  okS v∧((∃j,j<S.st.length∧gti S.st j=v∧gti S.co j≤a)∨ ∃u,u<S.st.length∧gti S.dn u=false∧gti S.co u≤a):=by
 induction hw with
 |nil=>exact⟨hs, .inl ⟨0,h.h0,h.z0,h.c0⟩⟩
 | step x a e hw he ih=>
  obtain⟨hok,ih⟩:=ih
  obtain⟨he0,heok⟩:=hnn x e he hok
  refine⟨heok,?_⟩
  rcases ih with ⟨j,h1,h2,h3⟩|⟨u,h1,h2,h3⟩
  ·
   cases hd:gti S.dn j with
   |true=>
    obtain⟨i,g1,g2,g3⟩:=h.cl j h1 hd e (by rw[h2];exact he)
    exact .inl ⟨i,g1,g2,by omega⟩
   |false=>exact .inr ⟨j,h1,hd,by omega⟩
  ·
   exact .inr ⟨u,h1,h2,by omega⟩
end
end Dl
namespace Dl
open Go.RowKit
theorem zzx {α:Type}[BEq α][LawfulBEq α]: ∀ {l m:List α},l.Nodup→l ⊆ m→l.length≤m.length
 |[],m,_,_=>Nat.zero_le _
 | a::l,m,h,hs=>by
  rw[List.nodup_cons] at h
  have ha:a∈m:=hs (List.mem_cons_self ..)
  have h1:l ⊆ m.erase a:=fun x hx=>by
   have hne:x≠a:=fun e=>h.1 (e▸hx)
   exact(List.mem_erase_of_ne hne).2 (hs (List.mem_cons_of_mem _ hx))
  have h2:=zzx h.2 h1
  rw[List.length_erase_of_mem ha] at h2
  have:=List.length_pos_of_mem ha
  simp only[List.length_cons]
  omega
section
variable {nx:List Int→List (List Int × Int)}{s0 goal:List Int}{most:Int}{okS:List Int→Prop}
structure OkS (nx:List Int→List (List Int × Int))(s0 goal:List Int)(most k:Int):Prop where
 wk:Wk nx s0 goal k
 le: ∀a,Wk nx s0 goal a→k≤a
 few: ∃D:List (List Int),(D.length:Int)≤most∧ ∀v a,Wk nx s0 v a→a≤k→v∈D
structure NoneS (nx:List Int→List (List Int × Int))(s0 goal:List Int)(most:Int):Prop where
 no: ∀a, ¬Wk nx s0 goal a
 few: ∃D:List (List Int),(D.length:Int)≤most∧ ∀v a,Wk nx s0 v a→v∈D
def LimS (nx:List Int→List (List Int × Int))(s0 goal:List Int)(most:Int):Prop:=
 ∃D:List (List Int),D.Nodup∧most<(D.length:Int)∧ ∀v∈D, ∃a,Wk nx s0 v a∧ ∀c,Wk nx s0 goal c→a≤c
inductive Out (nx:List Int→List (List Int × Int))(s0 goal:List Int)(most:Int)(eN eL:Int):Int→Int→Prop
 |ok (k:Int) (h:OkS nx s0 goal most k):Out nx s0 goal most eN eL k 0
 |none (h:NoneS nx s0 goal most):Out nx s0 goal most eN eL 0 eN
 |lim (h:LimS nx s0 goal most):Out nx s0 goal most eN eL 0 eL
theorem z3f {eN eL k e k' e':Int}(h:Out nx s0 goal most eN eL k e)(h':Out nx s0 goal most eN eL k' e'):k=k'∧e=e':=by
 have nl:NoneS nx s0 goal most→ ¬LimS nx s0 goal most:=by
  rintro ⟨h1,D,h2,h3⟩ ⟨E,g1,g2,g3⟩
  have:=zzx g1 (m:=D) (fun v hv=>by obtain⟨a,ha,_⟩:=g3 v hv;exact h3 v a ha)
  omega
 have ol: ∀k,OkS nx s0 goal most k→ ¬LimS nx s0 goal most:=by
  rintro k ⟨h1,h2,D,h3,h4⟩ ⟨E,g1,g2,g3⟩
  have:=zzx g1 (m:=D) (fun v hv=>by obtain⟨a,ha,hb⟩:=g3 v hv;exact h4 v a ha (hb k h1))
  omega
 cases h with
 |ok k h=>cases h' with
  |ok k' h'=>exact⟨Int.le_antisymm (h.le _ h'.wk) (h'.le _ h.wk),rfl⟩
  |none h'=>exact absurd h.wk (h'.no _)
  |lim h'=>exact absurd h' (ol _ h)
 |none h=>cases h' with
  |ok k' h'=>exact absurd h'.wk (h.no _)
  |none h'=>exact⟨rfl,rfl⟩
  |lim h'=>exact absurd h' (nl h)
 |lim h=>cases h' with
  |ok k' h'=>exact absurd h (ol _ h')
  |none h'=>exact absurd h (nl h')
  |lim h'=>exact⟨rfl,rfl⟩
def NN (nx:List Int→List (List Int × Int))(okS:List Int→Prop):Prop:= ∀x, ∀e∈nx x,okS x→0≤e.2∧okS e.1
theorem DI.low {S:Sr}{cx:Int}(h:DI nx s0 okS S cx)(hn:NN nx okS)(hs:okS s0){v:List Int}{a:Int}(hw:Wk nx s0 v a):
  (∃j,j<S.st.length∧gti S.st j=v∧gti S.co j≤a)∨ ∃u,u<S.st.length∧gti S.dn u=false∧gti S.co u≤a:=
 (wk_low h hw hn hs).2
theorem zzn {S:Sr}{cx:Int}{D:List (List Int)}(h:DI nx s0 okS S cx)(hn:NN nx okS)(hs:okS s0)(hD:Dn S D)(hl:(D.length:Int)≤most){e:Nat}(he:e<S.st.length)(hg:gti S.st e=goal)(hde:gti S.dn e=true)
  (hu: ∀u,u<S.st.length→gti S.dn u=false→gti S.co e<gti S.co u):OkS nx s0 goal most (gti S.co e):=by
 have hj: ∀ {v:List Int} {a:Int},Wk nx s0 v a→a≤gti S.co e→ ∃j,j<S.st.length∧gti S.st j=v∧gti S.co j≤a:=fun hw ha=>by
  rcases h.low hn hs hw with h1|⟨u,h1,h2,h3⟩
  ·
   exact h1
  ·
   have:=hu u h1 h2;omega
 refine⟨by rw[←hg];exact h.wk e he,fun a ha=>?_,D,hl,fun v a hw ha=>?_⟩
 ·
  by_cases hc:gti S.co e≤a
  ·
   exact hc
  ·
   obtain⟨j,h1,h2,h3⟩:=hj ha xa
   have:j=e:=by
    have e1:=zbr h1
    have e2:=zbr he
    rw[h2] at e1;rw[hg] at e2
    exact(List.getElem?_inj h1 h.nd).1 (e1.trans e2.symm)
   subst this
   exact absurd h3 hc
 ·
  obtain⟨j,h1,h2,h3⟩:=hj hw ha
  refine(hD.iff v).2 ⟨j,h1,?_,h2⟩
  cases hd:gti S.dn j with
  |true=>rfl
  |false=>have:=hu j h1 hd;omega
theorem zvj {S:Sr}{cx:Int}{D:List (List Int)}(h:DI nx s0 okS S cx)(hn:NN nx okS)(hs:okS s0)(hD:Dn S D)(hl:(D.length:Int)≤most)(hu: ∀u,u<S.st.length→gti S.dn u=true)(hg:goal ∉ S.st):NoneS nx s0 goal most:=by
 have hj: ∀ {v:List Int} {a:Int},Wk nx s0 v a→ ∃j,j<S.st.length∧gti S.st j=v:=fun hw=>by
  rcases h.low hn hs hw with ⟨j,h1,h2,_⟩|⟨u,h1,h2,h3⟩
  ·
   exact⟨j,h1,h2⟩
  ·
   rw[hu u h1] at h2;cases h2
 refine⟨fun a hw=>?_,D,hl,fun v a hw=>?_⟩
 ·
  obtain⟨j,h1,h2⟩:=hj hw
  exact hg (by rw[←h2];exact gti_mem h1)
 ·
  obtain⟨j,h1,h2⟩:=hj hw
  exact(hD.iff v).2 ⟨j,h1,hu j h1,h2⟩
theorem zzo {S:Sr}{cx:Int}{D:List (List Int)}(h:DI nx s0 okS S cx)(hn:NN nx okS)(hs:okS s0)(hD:Dn S D)(hl:most≤(D.length:Int)){x:Nat}(hx:x<S.st.length)(hd:gti S.dn x=false)(hm: ∀k,k<S.st.length→gti S.dn k=false→gti S.co x≤gti S.co k)
  (hf: ∀j,j<S.st.length→gti S.dn j=true→gti S.st j=goal→gti S.co x≤gti S.co j):LimS nx s0 goal most:=by
 have hD2:=zng hD h.nd h.l2 hx hd
 refine⟨_,hD2.nd,by simp only[List.length_cons];omega,fun v hv=>?_⟩
 have hv2: ∃k,k<S.st.length∧gti S.st k=v∧gti S.co k≤gti S.co x:=by
  rcases List.mem_cons.1 hv with rfl|hv
  ·
   exact⟨x,hx,rfl,Int.le_refl _⟩
  ·
   obtain⟨k,h1,h2,h3⟩:=(hD.iff v).1 hv
   exact⟨k,h1,h3,Int.le_trans (h.lo k h1 h2) (h.hi x hx hd)⟩
 obtain⟨k,h1,h2,h3⟩:=hv2
 refine⟨gti S.co k,by rw[←h2];exact h.wk k h1,fun c hc=>?_⟩
 rcases h.low hn hs hc with ⟨j,g1,g2,g3⟩|⟨u,g1,g2,g3⟩
 ·
  cases hdj:gti S.dn j with
  |true=>have:=hf j g1 hdj g2;omega
  |false=>have:=hm j g1 hdj;omega
 ·
  have:=hm u g1 g2;omega
end
end Dl
section
open Go.RowKit
def RetL (w:World)(l:List Int)(e:Ending)(w':World):Prop:=
 ∃A c,e= .returned (.slice A l.length c)∧RdI w' w.heap.size w'.heap.size (.slice A l.length c) l∧Below w.heap.size w w'
theorem RetL.mk {w w':World}{l:List Int}{n k:Nat}{A:Option Addr}(hn:n=l.length){lo hi:Nat}(hr:RdI w' lo hi (.slice A n k) l)(hlo:w.heap.size≤lo)(hhi:hi≤w'.heap.size)(hb:Below w.heap.size w w'):RetL w l (.returned (.slice A n k)) w':=by
 subst hn
 exact⟨A,k,rfl,hr.mono hlo hhi,hb⟩
def oneR (p:Int)(k:Nat):List Int:=(List.range k).map fun (i:Nat)=>if (i:Int)=p then 1 else 0
theorem zzv (p:Int)(k:Nat):oneR p (k+1)=oneR p k++[if (k:Int)=p then 1 else 0]:=by simp[oneR,List.range_succ]
theorem zvk (p:Int)(k:Nat):(oneR p k).length=k:=by simp[oneR]
theorem z7f {p:Int}{k:Nat}(h0:0≤p):oneR p k=oneL k p:=by
 obtain⟨q,rfl⟩:=Int.eq_ofNat_of_zero_le h0
 unfold oneR oneL
 apply List.ext_getElem?
 intro i
 rw[List.getElem?_set,Int.toNat_natCast]
 by_cases hi:i<k
 ·
  by_cases hq:q=i
  ·
   subst hq;simp[hi]
  ·
   have: ¬ (i:Int)=q:=by omega
   simp[hi,hq,this]
 ·
  by_cases hq:q=i
  ·
   subst hq;simp[hi]
  ·
   simp[hi,hq]
set_option maxHeartbeats 1000000 in
theorem z5r (n:Net)(p:Int)(np:Nat)(vt:Value)(w:World)(hnp:n.places=np)(h40:np≤40)(hp:0≤p):
  Calls Tryz.prog 126 #[netV n vt, .int .i64 p] w (RetL w (oneL np p)):=by
 have HNP:=Lib.hid hnp
 have HE:=Lib.hid (z7f (k:=np) hp)
 clear hnp
 refine zak fun R hR=>?_
 have HR:=Lib.hid hR
 clear hR
 go_enter Tryz.func126,Tryz.ntmps126
 have M:Hid (Mem [Loc.k4 w.heap.size (.int .i64 n.places) (vt) (.int .i64 n.source) (.int .i64 n.sink),Loc.bl w.heap.size w] (w.alloc (.cells #[.int .i64 n.places,vt, .int .i64 n.source, .int .i64 n.sink] 24))):=Lib.hid ⟨K4.new w _ _ _ _ _,⟨(Below.refl _ _).alloc (Nat.le_refl _) _,by simp⟩,True.intro⟩
 go_wp2_with fail
 go_loopw [6,5,7] (fun v6 v5 _ wr=> ∃ (k:Nat) (B:Option Addr) (d hh:Nat),k≤np∧v6= .int .i64 k∧v5= .slice B k d∧hh≤wr.heap.size∧Hid (Mem [Loc.owI (w.heap.size+1) hh (.slice B k d) (oneR p k),Loc.k4 w.heap.size (.int .i64 n.places) (vt) (.int .i64 n.source) (.int .i64 n.sink),Loc.bl w.heap.size w] wr)) (fun v6 _ _ _=>np-(intOf v6).toNat)
 case atStart=>exact⟨0,none,0,0,by omega,rfl,rfl,by omega,Lib.hid ⟨Own.nil _ _ _,M.out.1,M.out.2.1,True.intro⟩⟩
 case round=>
  clear M
  obtain⟨k,B,d,hh,hk,rfl,rfl,hhs,M⟩:=hrel
  have hk4:=M.out.2.1
  have hz:=M.out.2.1.2.2.2.2
  by_cases hlt:k<np
  ·
   have hi:(k:Int)<n.places:=by have:=HNP.out;omega
   have hol:=zvk p k
   have HOL:=Lib.hid hol
   clear hol
   have hsn: ∀x:Int,x=(if (k:Int)=p then 1 else 0)→Hid (oneR p k++[x]=oneR p (k+1)):=fun x hx=>Lib.hid (by rw[zzv,hx])
   have HSN:=Lib.hid hsn
   clear hsn
   go_wp2_with (at_builtin;refine zcz J _ _ J zhm (fun _=>rfl) oneI J J (M.out.alloc _) (by(repeat' (first|exact True.intro|refine And.intro (fun k hk e=>?_) ?_))<;>(first|exact e|((try dsimp only[Loc.c1,Loc.c2,Loc.k1,Loc.k2,Loc.k3,Loc.k4,Loc.k6,Loc.fr,Loc.bl,Loc.own,Loc.sz,Loc.rd,Loc.rdI,Loc.rdS,Loc.rdM,Loc.rdT,Loc.ow,Loc.owI] at hk e)<;>omega))) (RdI.lit1 _ _ _) (by have:=HOL.out;simp;omega) (by have:=HOL.out;simp;omega) (by simp;omega) ?_;intro A1 c1 w1 hM1 hs1 hch1;rw[HOL.out] at hM1;replace M:=Lib.hid hM1;clear hM1 hch1;(try simp only[World.size_alloc] at hs1))
   all_goals (refine⟨⟨k+1,A1,c1,_,by omega,by go_num,by simp[HOL.out],Nat.le_refl _,Lib.hid ?_⟩,by simp[intOf];omega⟩)
   all_goals
    have hM:=M.out
    rw[(HSN.out _ (by go_light;grind)).out] at hM
    simpa using hM
  ·
   obtain rfl:k=np:=by omega
   have hi: ¬ (k:Int)<n.places:=by have:=HNP.out;omega
   go_wp2_with fail
   exact HR.out _ _ (RetL.mk (by rw[←HE.out,zvk]) (HE.out▸M.out.1.rd) xa hhs M.out.2.2.1.1)
set_option maxHeartbeats 400000 in
theorem zru (n:Net)(np:Nat)(vt:Value)(w:World)(hnp:n.places=np)(h40:np≤40)(hp:0≤n.source):
  Calls Tryz.prog 66 #[netV n vt] w (RetL w (oneL np n.source)):=by
 have HC:=Lib.hid (fun W=>z5r n n.source np vt W hnp h40 hp)
 clear hnp hp
 refine zak fun R hR=>?_
 have HR:=Lib.hid hR
 clear hR
 go_enter Tryz.func66,Tryz.ntmps66
 have M:Hid (Mem [Loc.k4 w.heap.size (.int .i64 n.places) (vt) (.int .i64 n.source) (.int .i64 n.sink),Loc.bl w.heap.size w] (w.alloc (.cells #[.int .i64 n.places,vt, .int .i64 n.source, .int .i64 n.sink] 24))):=Lib.hid ⟨K4.new w _ _ _ _ _,⟨(Below.refl _ _).alloc (Nat.le_refl _) _,by simp⟩,True.intro⟩
 go_wp2_with (go_at_call 126;refine(HC.out _).mono ?_;rintro e w1 ⟨A1,c1,rfl,hr1,hb1⟩;have HR1:=Lib.hid hr1;replace M:=Lib.hid (M.out.below hb1);clear hb1 hr1)
 exact HR.out _ _ ⟨_,_,rfl,(HR1.out.mono xm (Nat.le_refl _)),M.out.2.1.1⟩
set_option maxHeartbeats 400000 in
theorem zw2 (n:Net)(np:Nat)(vt:Value)(w:World)(hnp:n.places=np)(h40:np≤40)(hp:0≤n.sink):
  Calls Tryz.prog 125 #[netV n vt] w (RetL w (oneL np n.sink)):=by
 have HC:=Lib.hid (fun W=>z5r n n.sink np vt W hnp h40 hp)
 clear hnp hp
 refine zak fun R hR=>?_
 have HR:=Lib.hid hR
 clear hR
 go_enter Tryz.func125,Tryz.ntmps125
 have M:Hid (Mem [Loc.k4 w.heap.size (.int .i64 n.places) (vt) (.int .i64 n.source) (.int .i64 n.sink),Loc.bl w.heap.size w] (w.alloc (.cells #[.int .i64 n.places,vt, .int .i64 n.source, .int .i64 n.sink] 24))):=Lib.hid ⟨K4.new w _ _ _ _ _,⟨(Below.refl _ _).alloc (Nat.le_refl _) _,by simp⟩,True.intro⟩
 go_wp2_with (go_at_call 126;refine(HC.out _).mono ?_;rintro e w1 ⟨A1,c1,rfl,hr1,hb1⟩;have HR1:=Lib.hid hr1;replace M:=Lib.hid (M.out.below hb1);clear hb1 hr1)
 exact HR.out _ _ ⟨_,_,rfl,(HR1.out.mono xm (Nat.le_refl _)),M.out.2.1.1⟩
def eqLs {α:Type}[DecidableEq α]:List α→List α→Bool
 |[],[]=>true
 |x::a,y::b=>if x=y then eqLs a b else false
 |_,_=>false
theorem zqu {α:Type}[DecidableEq α]: ∀a b:List α,eqLs a b=decide (a=b)
 |[],[]=>rfl
 |[],_::_=>by simp[eqLs]
 |_::_,[]=>by simp[eqLs]
 |x::a,y::b=>by
  rw[eqLs,zqu a b]
  by_cases h:x=y<;>simp[h]
theorem zv6 {α:Type}[DecidableEq α]{a b:List α}(h:a.length≠b.length):decide (a=b)=false:=by
 simp
 intro e
 exact h (by rw[e])
set_option maxHeartbeats 1000000 in
theorem zmv (a b:List Int)(lo hi lo2 hi2:Nat)(v1 v2:Value)(w:World)(h1:RdI w lo hi v1 a)(h2:RdI w lo2 hi2 v2 b):
  Calls Tryz.prog 64 #[v1,v2] w fun e w'=>e= .returned (.bool (decide (a=b)))∧Below w.heap.size w w':=by
 obtain⟨A1,c1,rfl,hc1,hm1⟩:=h1.form
 obtain⟨A2,c2,rfl,hc2,hm2⟩:=h2.form
 have H1:=Lib.hid h1
 have H2:=Lib.hid h2
 clear h1 h2
 refine zak fun R hR=>?_
 have HR:=Lib.hid hR
 clear hR
 go_enter Tryz.func64,Tryz.ntmps64
 by_cases hl:a.length=b.length
 ·
  have hl':(a.length:Int)=b.length:=by omega
  have HL:=Lib.hid hl
  clear hl
  go_wp2_with fail
  go_loopw [5] (fun v5 wr=> ∃ (k q:Nat),k≤a.length∧v5= .int .i64 k∧wr=w.drewN q∧Hid (decide (a=b)=eqLs (a.drop k) (b.drop k))) (fun v5 _=>a.length-(intOf v5).toNat)
  case atStart=>exact⟨0,0,by omega,rfl,rfl,Lib.hid (by rw[←zqu];rfl)⟩
  case round=>
   obtain⟨k,q,hk,rfl,rfl,HI⟩:=hrel
   by_cases hlt:k<a.length
   ·
    have hkd:decide ((k:Int)<(a.length:Int))=true:=by simp;omega
    have hkb:(k:Int)<(a.length:Int):=by omega
    have hkc:(k:Int)<(b.length:Int):=by omega
    obtain⟨b1,o1,rfl,_,_,f1⟩:=RdI.at1 H1.out hlt
    obtain⟨b2,o2,rfl,_,_,f2⟩:=RdI.at1 H2.out (k:=k) (by have:=HL.out;omega)
    have HJ:Hid (decide (a=b)=if gti a k=gti b k then eqLs (a.drop (k+1)) (b.drop (k+1)) else false):=Lib.hid (by rw[HI.out,zc2 hlt,zc2 (l:=b) (k:=k) (by have:=HL.out;omega),eqLs])
    generalize gti a k=x at*
    generalize gti b k=y at*
    go_wp2
    go_quiet (fail)
    go_wp2
    all_goals have hj:=HJ.out
    ·
     refine HR.out _ _ ⟨zbd ?_,below_drewN (below_drewN (Below.refl _ _) _) _⟩
     clear HJ HI;go_light;grind
    all_goals first
     |(refine⟨⟨k+1,q+nq,by omega,by go_num,by first|rfl|rw[World.drewN_drewN],Lib.hid (by clear HJ HI;go_light;grind)⟩,by simp[intOf];omega⟩)
   ·
    have hkd:decide ((k:Int)<(a.length:Int))=false:=by simp;omega
    have HE:Hid (decide (a=b)=true):=Lib.hid (by rw[HI.out,List.drop_eq_nil_of_le xa,List.drop_eq_nil_of_le (by have:=HL.out;omega)];rfl)
    clear HI
    go_wp2
    exact HR.out _ _ ⟨zbd HE.out.symm,below_drewN (Below.refl _ _) _⟩
 ·
  have hl': ¬ (a.length:Int)=b.length:=by omega
  have HL:=Lib.hid hl
  clear hl
  go_wp2_with fail
  exact HR.out _ _ ⟨zbd (zv6 HL.out).symm,Below.refl _ _⟩
set_option maxHeartbeats 1000000 in
theorem zpu (a b:List Int)(lo hi lo2 hi2:Nat)(v1 v2:Value)(w:World)(h1:RdI w lo hi v1 a)(h2:RdI w lo2 hi2 v2 b):
  Calls Tryz.prog 74 #[v1,v2] w fun e w'=>e= .returned (.bool (decide (a=b)))∧Below w.heap.size w w':=by
 obtain⟨A1,c1,rfl,hc1,hm1⟩:=h1.form
 obtain⟨A2,c2,rfl,hc2,hm2⟩:=h2.form
 have H1:=Lib.hid h1
 have H2:=Lib.hid h2
 clear h1 h2
 refine zak fun R hR=>?_
 have HR:=Lib.hid hR
 clear hR
 go_enter Tryz.func74,Tryz.ntmps74
 by_cases hl:a.length=b.length
 ·
  have hl':(a.length:Int)=b.length:=by omega
  have HL:=Lib.hid hl
  clear hl
  go_wp2_with fail
  go_loopw [13,5] (fun v13 _ wr=> ∃ (k q:Nat),k≤a.length∧v13= .int .i64 k∧wr=w.drewN q∧Hid (decide (a=b)=eqLs (a.drop k) (b.drop k))) (fun v13 _ _=>a.length-(intOf v13).toNat)
  case atStart=>exact⟨0,0,by omega,rfl,rfl,Lib.hid (by rw[←zqu];rfl)⟩
  case round=>
   obtain⟨k,q,hk,rfl,rfl,HI⟩:=hrel
   by_cases hlt:k<a.length
   ·
    have hkd:decide ((k:Int)<(a.length:Int))=true:=by simp;omega
    have hkb:(k:Int)<(a.length:Int):=by omega
    have hkc:(k:Int)<(b.length:Int):=by omega
    obtain⟨b1,o1,rfl,_,_,f1⟩:=RdI.at1 H1.out hlt
    obtain⟨b2,o2,rfl,_,_,f2⟩:=RdI.at1 H2.out (k:=k) (by have:=HL.out;omega)
    have HJ:Hid (decide (a=b)=if gti a k=gti b k then eqLs (a.drop (k+1)) (b.drop (k+1)) else false):=Lib.hid (by rw[HI.out,zc2 hlt,zc2 (l:=b) (k:=k) (by have:=HL.out;omega),eqLs])
    generalize gti a k=x at*
    generalize gti b k=y at*
    go_wp2
    go_quiet (fail)
    go_wp2
    all_goals have hj:=HJ.out
    ·
     refine HR.out _ _ ⟨zbd ?_,below_drewN (below_drewN (Below.refl _ _) _) _⟩
     clear HJ HI;go_light;grind
    all_goals first
     |(refine⟨⟨k+1,q+nq,by omega,by go_num,by first|rfl|rw[World.drewN_drewN],Lib.hid (by clear HJ HI;go_light;grind)⟩,by simp[intOf];omega⟩)
   ·
    have hkd:decide ((k:Int)<(a.length:Int))=false:=by simp;omega
    have HE:Hid (decide (a=b)=true):=Lib.hid (by rw[HI.out,List.drop_eq_nil_of_le xa,List.drop_eq_nil_of_le (by have:=HL.out;omega)];rfl)
    clear HI
    go_wp2
    exact HR.out _ _ ⟨zbd HE.out.symm,below_drewN (Below.refl _ _) _⟩
 ·
  have hl': ¬ (a.length:Int)=b.length:=by omega
  have HL:=Lib.hid hl
  clear hl
  go_wp2_with fail
  exact HR.out _ _ ⟨zbd (zv6 HL.out).symm,Below.refl _ _⟩
set_option maxHeartbeats 400000 in
theorem zgu (p:Int)(m:List Int)(lo hi:Nat)(v:Value)(w:World)(hv:RdI w lo hi v m)(hl:m.length≤1000000):
  Calls Tryz.prog 65 #[.int .i64 p,v] w (RetL w (p::m)):=by
 obtain⟨A1,c1,rfl,hc1,hm1⟩:=hv.form
 have HV:=Lib.hid hv
 have HL:=Lib.hid hl
 clear hv hl
 have M:Hid (Mem [Loc.bl w.heap.size w] w):=Lib.hid ⟨⟨Below.refl _ _,Nat.le_refl _⟩,True.intro⟩
 refine zak fun R hR=>?_
 have HR:=Lib.hid hR
 clear hR
 go_enter Tryz.func65,Tryz.ntmps65
 go_wp2_with (at_builtin;refine zcz J _ _ J zhm (fun _=>rfl) oneI J J (Mem.lit1 M.out p) (by(repeat' (first|exact True.intro|refine And.intro (fun k hk e=>?_) ?_))<;>(first|exact e|((try dsimp only[Loc.c1,Loc.c2,Loc.k1,Loc.k2,Loc.k3,Loc.k4,Loc.k6,Loc.fr,Loc.bl,Loc.own,Loc.sz,Loc.rd,Loc.rdI,Loc.rdS,Loc.rdM,Loc.rdT,Loc.ow,Loc.owI] at hk e)<;>omega))) (HV.out.after (M.out.1.1.alloc M.out.1.2 _)) (by have:=HL.out;simp;omega) (by have:=HL.out;simp;omega) (by simp) ?_;intro A1 c1 w1 hM1 hs1 hch1;replace M:=Lib.hid hM1;clear hM1 hch1)
 exact HR.out _ _ (RetL.mk (by simp;omega) M.out.1.rd (Nat.le_refl _) (Nat.le_refl _) M.out.2.1.1)
end
section
open Go.RowKit
theorem zro {t e size bytes:Nat}{z:Value}(ti:TI t e size bytes z)(w:World)(A:Option Addr)(n c k:Nat)(hk:k≤n):
  (Instr.slice t (.slice A n c) (some (.int .i64 (k:Int))) none none).run Tryz.prog w= .ok (.slice (if c=k then A else A.map (·.add (k*size))) (n-k) (c-k)) w:=by
 obtain⟨i,ht,hi0,hz,hsize,hby,hzs,hsz⟩:=ti
 simp[Instr.slice,run_underlying ht,Instr.sliceBounds,Instr.sliceBound,asIntOf,sizeOf,typeInfo,hi0,hsize,hk]
theorem Rd.dropped {α:Type}{size:Nat}{enc:α→List Value}{w:World}{lo hi:Nat}{A:Option Addr}{c:Nat}{l:List α}(h:Rd size enc w lo hi (.slice A l.length c) l)(he: ∀a,(enc a).length=size)(k:Nat)(hk:k≤l.length)(hc:l.length≤c):
  Rd size enc w lo hi (.slice (if c=k then A else A.map (·.add (k*size))) (l.drop k).length (c-k)) (l.drop k):=by
 have hlen:=h.form
 obtain⟨A',c',e,_,h63⟩:=hlen
 refine⟨zde he _,_,_,rfl,by simp;omega,by simp[maxLen];omega,fun hn=>?_⟩
 obtain⟨b,off,rfl,h1,h2,hcell⟩:=RdC.cells h (by simp at hn;omega)
 have hck: ¬c=k:=by simp at hn;omega
 refine⟨b,off+k*size,by rw[if_neg hck];simp[zuo],h1,h2,fun j u hu=>?_⟩
 have:=hcell (k*size+j) u (by
  have hsplit:l.flatMap enc=(l.take k).flatMap enc++(l.drop k).flatMap enc:=by rw[←List.flatMap_append,List.take_append_drop]
  have hlt:(l.take k).length=k:=by simp;omega
  rw[hsplit,List.getElem?_append_right (by rw[zde he,hlt];omega),zde he,hlt]
  simpa using hu)
 rw[Nat.add_assoc]
 exact this
theorem RdI.tail1 {w:World}{lo hi:Nat}{A:Option Addr}{c:Nat}{l:List Int}(h:RdI w lo hi (.slice A l.length c) l)(hl:1≤l.length)(hc:l.length≤c):
  ∃A' c',(∀W:World,(Instr.slice 38 (.slice A l.length c) (some (.int .i64 1)) none none).run Tryz.prog W= .ok (.slice A' (l.drop 1).length c') W)∧RdI w lo hi (.slice A' (l.drop 1).length c') (l.drop 1):=by
 refine⟨_,_,fun W=>?_,Rd.dropped h (fun _=>rfl) 1 hl hc⟩
 have:=zro zhm W A l.length c 1 hl
 rw[List.length_drop]
 exact this
theorem toList_inj {x a:ByteArray}:x.toList=a.toList↔x=a:=by
 rw[ByteArray.toList_eq,ByteArray.toList_eq]
 constructor
 ·
  intro h
  exact ByteArray.ext (Array.toList_inj.1 h)
 ·
  intro h;rw[h]
theorem zo0 (x a:ByteArray):(x.toList==a.toList)=decide (x=a):=by
 rw[Bool.eq_iff_iff];simp[toList_inj]
theorem zoz (x a:ByteArray):decide (x.toList=a.toList)=decide (x=a):=by simp[toList_inj]
def atB (w:List ByteArray)(k:Int)(a:ByteArray):Bool:=decide (k<w.length) && decide (gti w k.toNat=a)
set_option maxHeartbeats 400000 in
theorem z18 (l:List ByteArray)(k:Int)(a:ByteArray)(lo hi:Nat)(v:Value)(w:World)(hv:RdS w lo hi v l)(hk:0≤k):
  Calls Tryz.prog 97 #[v, .int .i64 k, .string a] w fun e w'=>e= .returned (.bool (atB l k a))∧Below w.heap.size w w':=by
 obtain⟨A,c,rfl,hc,hm⟩:=hv.form
 obtain⟨j,rfl⟩: ∃j:Nat,k=j:=⟨k.toNat,by omega⟩
 by_cases hlt:j<l.length
 ·
  obtain⟨b,off,rfl,_,_,hcell⟩:=RdS.at1 hv hlt
  have HV:=Lib.hid hv
  clear hv hk
  have hlt':(j:Int)<l.length:=by omega
  have HE:Hid (atB l j a=decide (gti l j=a)):=Lib.hid (by simp[atB,hlt])
  generalize gti l j=x at*
  refine zak fun R hR=>?_
  have HR:=Lib.hid hR
  clear hR
  go_enter Tryz.func97,Tryz.ntmps97
  go_wp2_with fail
  all_goals (refine HR.out _ _ ⟨zbd ?_,Below.refl _ _⟩<;>(first|exact HE.out.symm|(rw[HE.out];go_light;first|rfl|exact zo0 _ _|exact zoz _ _|grind [toList_inj])))
 ·
  have hlt': ¬ (j:Int)<l.length:=by omega
  have HE:Hid (atB l j a=false):=Lib.hid (by simp[atB,hlt])
  clear hv hk
  refine zak fun R hR=>?_
  have HR:=Lib.hid hR
  clear hR
  go_enter Tryz.func97,Tryz.ntmps97
  go_wp2_with fail
  all_goals (refine HR.out _ _ ⟨zbd ?_,Below.refl _ _⟩<;>(first|exact HE.out.symm|(rw[HE.out];go_light;first|rfl|exact zo0 _ _|exact zoz _ _|grind [toList_inj])))
def allN:List ByteArray→Bool
 |[]=>true
 |a::l=>if zf9 a then allN l else false
theorem z2e: ∀l,allN l=l.all zf9
 |[]=>rfl
 |a::l=>by rw[allN,z2e l,List.all_cons];cases zf9 a<;>rfl
set_option maxHeartbeats 1000000 in
theorem zzz (l:List ByteArray)(lo hi:Nat)(v:Value)(w:World)(hv:RdS w lo hi v l):
  Calls Tryz.prog 124 #[v] w fun e w'=>e= .returned (.bool (allN l))∧Below w.heap.size w w':=by
 obtain⟨A,c,rfl,hc,hm⟩:=hv.form
 have HV:=Lib.hid hv
 clear hv
 have M:Hid (Mem [Loc.bl w.heap.size w] w):=Lib.hid ⟨⟨Below.refl _ _,Nat.le_refl _⟩,True.intro⟩
 refine zak fun R hR=>?_
 have HR:=Lib.hid hR
 clear hR
 go_enter Tryz.func124,Tryz.ntmps124
 go_wp2_with fail
 go_loopw [3] (fun v3 wr=> ∃k:Nat,k≤l.length∧v3= .int .i64 k∧Hid (allN l=allN (l.drop k))∧Hid (Mem [Loc.bl w.heap.size w] wr)) (fun v3 _=>l.length-(intOf v3).toNat)
 case atStart=>exact⟨0,by omega,rfl,Lib.hid J,M⟩
 case round=>
  clear M
  obtain⟨k,hk,rfl,HI,M⟩:=hrel
  by_cases hlt:k<l.length
  ·
   obtain⟨b,off,rfl,_,_,hcell⟩:=RdS.at1 (HV.out.after M.out.1.1) hlt
   have HJ:Hid (allN l=if zf9 (gti l k) then allN (l.drop (k+1)) else false):=Lib.hid (by rw[HI.out,zc2 hlt,allN])
   generalize gti l k=x at*
   go_wp2_with (go_at_call 68;refine(zf3 _ _).mono ?_;rintro e w1 ⟨rfl,hb1⟩;replace M:=Lib.hid (M.out.below hb1);clear hb1;skip)
   all_goals have hj:=HJ.out
   all_goals first
    |((with_reducible refine HR.out _ _ ⟨?_,?_⟩)<;>first|exact zbd (by clear HJ HI;go_light;grind)|exact M.out.1.1)
    |(refine⟨⟨k+1,by omega,by go_num,Lib.hid (by clear HJ HI;go_light;grind),M⟩,by simp[intOf];omega⟩)
  ·
   obtain rfl:k=l.length:=by omega
   have HE:Hid (allN l=true):=Lib.hid (by rw[HI.out];simp[allN])
   clear HI
   go_wp2_with fail
   all_goals ((with_reducible refine HR.out _ _ ⟨?_,?_⟩)<;>first|exact zbd (by rw[HE.out])|exact M.out.1.1)
set_option maxHeartbeats 400000 in
theorem zm2 (l:List ByteArray)(lo hi:Nat)(v:Value)(w:World)(hv:RdS w lo hi v l):
  Calls Tryz.prog 62 #[v] w fun e w'=>e= .returned (.bool (zd0 l))∧Below w.heap.size w w':=by
 obtain⟨A,c,rfl,hc,hm⟩:=hv.form
 have HV:=Lib.hid hv
 clear hv
 have HE:Hid (zd0 l=(decide ((l.length:Int)≤200) && allN l)):=Lib.hid (by rw[zd0,z2e];congr 1;simp;omega)
 have M:Hid (Mem [Loc.bl w.heap.size w] w):=Lib.hid ⟨⟨Below.refl _ _,Nat.le_refl _⟩,True.intro⟩
 refine zak fun R hR=>?_
 have HR:=Lib.hid hR
 clear hR
 go_enter Tryz.func62,Tryz.ntmps62
 go_wp2_with (go_at_call 124;refine(zzz l lo hi _ _ (HV.out.after M.out.1.1)).mono ?_;rintro e w1 ⟨rfl,hb1⟩;replace M:=Lib.hid (M.out.below hb1);clear hb1;skip)
 all_goals ((with_reducible refine HR.out _ _ ⟨?_,?_⟩)<;>first|exact zbd (by rw[HE.out];go_light;grind)|exact M.out.1.1)
theorem zgy {l:List ByteArray}{b:Bool}(hb:zd0 l=b)(lo hi:Nat)(v:Value)(w:World)(hv:RdS w lo hi v l):
  Calls Tryz.prog 130 #[v] w fun e w'=>e= .returned (.bool b)∧Below w.heap.size w w':=hb▸zpl l lo hi v w hv
theorem zdn {l:List ByteArray}{b:Bool}(hb:zd0 l=b)(lo hi:Nat)(v:Value)(w:World)(hv:RdS w lo hi v l):
  Calls Tryz.prog 62 #[v] w fun e w'=>e= .returned (.bool b)∧Below w.heap.size w w':=hb▸zm2 l lo hi v w hv
def zb0 (n:Net)(w:List ByteArray):List Int × Int:=if zb7 n && zd0 w then(0::oneL n.places.toNat n.source,0) else([],1)
def endE (n:Net)(w:List ByteArray):List Int × Int:=if zb7 n && zd0 w then(w.length::oneL n.places.toNat n.sink,0) else([],1)
theorem zgc (k:Nat)(p:Int):(oneL k p).length=k:=by simp[oneL]
theorem znb {n:Net}(h:zb7 n=true)(p:Int):oneE n p=(oneL n.places.toNat p,0):=by rw[oneE,h];rfl
theorem zpa {n:Net}(h:zb7 n=false)(p:Int):oneE n p=([],1):=by rw[oneE,h];rfl
theorem RetI.of {w:World}{r r':List Int × Int}{e:Ending}{w':World}(h:RetI w r e w')(hr:r=r'):RetI w r' e w':=hr▸h
set_option maxHeartbeats 1000000 in
theorem zs3 (n:Net)(l:List ByteArray)(vt v:Value)(lo hi lo' hi':Nat)(w:World)(hv:RdT w lo hi vt n.trans)(hw:RdS w lo' hi' v l):
  Calls Tryz.prog 70 #[netV n vt,v] w (RetI w (zb0 n l)):=by
 obtain⟨A,c,rfl,hc,hmm⟩:=hv.form
 obtain⟨A2,c2,rfl,hc2,hmm2⟩:=hw.form
 have HV:=Lib.hid hv
 have HW:=Lib.hid hw
 clear hv hw
 cases hvb:zb7 n with
 | false=>
  have HVB:=Lib.hid hvb
  have HO:=Lib.hid (zpa hvb n.source)
  clear hvb
  refine zak fun R hR=>?_
  have HR:=Lib.hid hR
  clear hR
  go_enter Tryz.func70,Tryz.ntmps70
  have M:Hid (Mem [Loc.k4 w.heap.size (.int .i64 n.places) (.slice A n.trans.length c) (.int .i64 n.source) (.int .i64 n.sink),Loc.bl w.heap.size w] (w.alloc (.cells #[.int .i64 n.places, .slice A n.trans.length c, .int .i64 n.source, .int .i64 n.sink] 24))):=Lib.hid ⟨K4.new w _ _ _ _ _,⟨(Below.refl _ _).alloc (Nat.le_refl _) _,by simp⟩,True.intro⟩
  have hk4:=M.out.1
  go_wp2_with (first
   |(go_at_call 129;refine(zjn n _ lo hi _ (HV.out.after M.out.2.1.1)).mono ?_;rintro e w1 hret;replace hret:=hret.of HO.out;obtain⟨A1,c1,rfl,hr1,hb1⟩:=hret;replace M:=Lib.hid (M.out.below hb1);replace hk4:=M.out.1;clear hb1 hr1))
  exact HR.out _ _ (RetI.nil (by rw[zb0,HVB.out];rfl) M.out.2.1.1)
 | true=>
  have HVB:=Lib.hid hvb
  have HO:=Lib.hid (znb hvb n.source)
  have hpl:=zbu hvb
  have HPL:=Lib.hid hpl
  clear hvb hpl
  cases hwb:zd0 l with
  | false=>
   have HWB:=Lib.hid hwb
   clear hwb
   refine zak fun R hR=>?_
   have HR:=Lib.hid hR
   clear hR
   go_enter Tryz.func70,Tryz.ntmps70
   have M:Hid (Mem [Loc.k4 w.heap.size (.int .i64 n.places) (.slice A n.trans.length c) (.int .i64 n.source) (.int .i64 n.sink),Loc.bl w.heap.size w] (w.alloc (.cells #[.int .i64 n.places, .slice A n.trans.length c, .int .i64 n.source, .int .i64 n.sink] 24))):=Lib.hid ⟨K4.new w _ _ _ _ _,⟨(Below.refl _ _).alloc (Nat.le_refl _) _,by simp⟩,True.intro⟩
   have hk4:=M.out.1
   go_wp2_with (first
    |(go_at_call 129;refine(zjn n _ lo hi _ (HV.out.after M.out.2.1.1)).mono ?_;rintro e w1 hret;replace hret:=hret.of HO.out;obtain⟨A1,c1,rfl,hr1,hb1⟩:=hret;replace M:=Lib.hid (M.out.below hb1);replace hk4:=M.out.1;clear hb1 hr1)
    |(go_at_call 130;refine(zgy HWB.out lo' hi' _ _ (HW.out.after M.out.2.1.1)).mono ?_;rintro e w1 ⟨rfl,hb1⟩;replace M:=Lib.hid (M.out.below hb1);clear hb1;skip))
   exact HR.out _ _ (RetI.nil (by rw[zb0,HVB.out,HWB.out];rfl) M.out.2.1.1)
  | true=>
   have HWB:=Lib.hid hwb
   clear hwb
   refine zak fun R hR=>?_
   have HR:=Lib.hid hR
   clear hR
   go_enter Tryz.func70,Tryz.ntmps70
   have M:Hid (Mem [Loc.k4 w.heap.size (.int .i64 n.places) (.slice A n.trans.length c) (.int .i64 n.source) (.int .i64 n.sink),Loc.bl w.heap.size w] (w.alloc (.cells #[.int .i64 n.places, .slice A n.trans.length c, .int .i64 n.source, .int .i64 n.sink] 24))):=Lib.hid ⟨K4.new w _ _ _ _ _,⟨(Below.refl _ _).alloc (Nat.le_refl _) _,by simp⟩,True.intro⟩
   have hk4:=M.out.1
   go_wp2_with (first
    |(go_at_call 129;refine(zjn n _ lo hi _ (HV.out.after M.out.2.1.1)).mono ?_;rintro e w1 hret;replace hret:=hret.of HO.out;obtain⟨A1,c1,rfl,hr1,hb1⟩:=hret;have HR1:=Lib.hid hr1;have hz1:=M.out.2.1.2;replace M:=Lib.hid (Mem.cons (a:=Loc.rdI _ _ _ _) hr1 (M.out.below hb1));replace hk4:=M.out.2.1;clear hb1 hr1)
    |(go_at_call 130;refine(zgy HWB.out lo' hi' _ _ (HW.out.after M.out.2.2.1.1)).mono ?_;rintro e w1 ⟨rfl,hb1⟩;replace M:=Lib.hid (M.out.below hb1);clear hb1;have hz2:=M.out.2.2.1.2)
    |(at_builtin;refine zcz J _ _ J zhm (fun _=>rfl) oneI J J (Mem.lit1 M.out.2.2 0) (by(repeat' (first|exact True.intro|refine And.intro (fun k hk e=>?_) ?_))<;>(first|exact e|((try dsimp only[Loc.c1,Loc.c2,Loc.k1,Loc.k2,Loc.k3,Loc.k4,Loc.k6,Loc.fr,Loc.bl,Loc.own,Loc.sz,Loc.rd,Loc.rdI,Loc.rdS,Loc.rdM,Loc.rdT,Loc.ow,Loc.owI] at hk e)<;>omega))) (M.out.1.after ((Below.refl _ _).alloc (Nat.le_refl _) _)) (by have:=HPL.out;simp[zgc];omega) (by have:=HPL.out;simp[zgc];omega) (by simp) ?_;intro A1 c1 w9 hM1 hs1 hch1;replace M:=Lib.hid hM1;clear hM1 hch1))
   exact HR.out _ _ (RetI.mk (l:=0::oneL n.places.toNat n.source) (by rw[zb0,HVB.out,HWB.out];rfl) (by simp;omega) M.out.1.rd hz2 (Nat.le_refl _) M.out.2.1.1)
set_option maxHeartbeats 1000000 in
theorem z2n (n:Net)(l:List ByteArray)(vt v:Value)(lo hi lo' hi':Nat)(w:World)(hv:RdT w lo hi vt n.trans)(hw:RdS w lo' hi' v l):
  Calls Tryz.prog 71 #[netV n vt,v] w (RetI w (endE n l)):=by
 obtain⟨A,c,rfl,hc,hmm⟩:=hv.form
 obtain⟨A2,c2,rfl,hc2,hmm2⟩:=hw.form
 have HV:=Lib.hid hv
 have HW:=Lib.hid hw
 clear hv hw
 cases hvb:zb7 n with
 | false=>
  have HVB:=Lib.hid hvb
  have HO:=Lib.hid (zpa hvb n.sink)
  clear hvb
  refine zak fun R hR=>?_
  have HR:=Lib.hid hR
  clear hR
  go_enter Tryz.func71,Tryz.ntmps71
  have M:Hid (Mem [Loc.k4 w.heap.size (.int .i64 n.places) (.slice A n.trans.length c) (.int .i64 n.source) (.int .i64 n.sink),Loc.bl w.heap.size w] (w.alloc (.cells #[.int .i64 n.places, .slice A n.trans.length c, .int .i64 n.source, .int .i64 n.sink] 24))):=Lib.hid ⟨K4.new w _ _ _ _ _,⟨(Below.refl _ _).alloc (Nat.le_refl _) _,by simp⟩,True.intro⟩
  have hk4:=M.out.1
  go_wp2_with (first
   |(go_at_call 46;refine(zkh n _ lo hi _ (HV.out.after M.out.2.1.1)).mono ?_;rintro e w1 hret;replace hret:=hret.of HO.out;obtain⟨A1,c1,rfl,hr1,hb1⟩:=hret;replace M:=Lib.hid (M.out.below hb1);replace hk4:=M.out.1;clear hb1 hr1))
  exact HR.out _ _ (RetI.nil (by rw[endE,HVB.out];rfl) M.out.2.1.1)
 | true=>
  have HVB:=Lib.hid hvb
  have HO:=Lib.hid (znb hvb n.sink)
  have hpl:=zbu hvb
  have HPL:=Lib.hid hpl
  clear hvb hpl
  cases hwb:zd0 l with
  | false=>
   have HWB:=Lib.hid hwb
   clear hwb
   refine zak fun R hR=>?_
   have HR:=Lib.hid hR
   clear hR
   go_enter Tryz.func71,Tryz.ntmps71
   have M:Hid (Mem [Loc.k4 w.heap.size (.int .i64 n.places) (.slice A n.trans.length c) (.int .i64 n.source) (.int .i64 n.sink),Loc.bl w.heap.size w] (w.alloc (.cells #[.int .i64 n.places, .slice A n.trans.length c, .int .i64 n.source, .int .i64 n.sink] 24))):=Lib.hid ⟨K4.new w _ _ _ _ _,⟨(Below.refl _ _).alloc (Nat.le_refl _) _,by simp⟩,True.intro⟩
   have hk4:=M.out.1
   go_wp2_with (first
    |(go_at_call 46;refine(zkh n _ lo hi _ (HV.out.after M.out.2.1.1)).mono ?_;rintro e w1 hret;replace hret:=hret.of HO.out;obtain⟨A1,c1,rfl,hr1,hb1⟩:=hret;replace M:=Lib.hid (M.out.below hb1);replace hk4:=M.out.1;clear hb1 hr1)
    |(go_at_call 130;refine(zgy HWB.out lo' hi' _ _ (HW.out.after M.out.2.1.1)).mono ?_;rintro e w1 ⟨rfl,hb1⟩;replace M:=Lib.hid (M.out.below hb1);clear hb1;skip))
   exact HR.out _ _ (RetI.nil (by rw[endE,HVB.out,HWB.out];rfl) M.out.2.1.1)
  | true=>
   have HWB:=Lib.hid hwb
   clear hwb
   refine zak fun R hR=>?_
   have HR:=Lib.hid hR
   clear hR
   go_enter Tryz.func71,Tryz.ntmps71
   have M:Hid (Mem [Loc.k4 w.heap.size (.int .i64 n.places) (.slice A n.trans.length c) (.int .i64 n.source) (.int .i64 n.sink),Loc.bl w.heap.size w] (w.alloc (.cells #[.int .i64 n.places, .slice A n.trans.length c, .int .i64 n.source, .int .i64 n.sink] 24))):=Lib.hid ⟨K4.new w _ _ _ _ _,⟨(Below.refl _ _).alloc (Nat.le_refl _) _,by simp⟩,True.intro⟩
   have hk4:=M.out.1
   go_wp2_with (first
    |(go_at_call 46;refine(zkh n _ lo hi _ (HV.out.after M.out.2.1.1)).mono ?_;rintro e w1 hret;replace hret:=hret.of HO.out;obtain⟨A1,c1,rfl,hr1,hb1⟩:=hret;have HR1:=Lib.hid hr1;have hz1:=M.out.2.1.2;replace M:=Lib.hid (Mem.cons (a:=Loc.rdI _ _ _ _) hr1 (M.out.below hb1));replace hk4:=M.out.2.1;clear hb1 hr1)
    |(go_at_call 130;refine(zgy HWB.out lo' hi' _ _ (HW.out.after M.out.2.2.1.1)).mono ?_;rintro e w1 ⟨rfl,hb1⟩;replace M:=Lib.hid (M.out.below hb1);clear hb1;have hz2:=M.out.2.2.1.2)
    |(at_builtin;refine zcz J _ _ J zhm (fun _=>rfl) oneI J J (Mem.lit1 M.out.2.2 (l.length:Int)) (by(repeat' (first|exact True.intro|refine And.intro (fun k hk e=>?_) ?_))<;>(first|exact e|((try dsimp only[Loc.c1,Loc.c2,Loc.k1,Loc.k2,Loc.k3,Loc.k4,Loc.k6,Loc.fr,Loc.bl,Loc.own,Loc.sz,Loc.rd,Loc.rdI,Loc.rdS,Loc.rdM,Loc.rdT,Loc.ow,Loc.owI] at hk e)<;>omega))) (M.out.1.after ((Below.refl _ _).alloc (Nat.le_refl _) _)) (by have:=HPL.out;simp[zgc];omega) (by have:=HPL.out;simp[zgc];omega) (by simp) ?_;intro A1 c1 w9 hM1 hs1 hch1;replace M:=Lib.hid hM1;clear hM1 hch1))
   exact HR.out _ _ (RetI.mk (l:=(l.length:Int)::oneL n.places.toNat n.sink) (by rw[endE,HVB.out,HWB.out];rfl) (by simp;omega) M.out.1.rd hz2 (Nat.le_refl _) M.out.2.1.1)
set_option maxHeartbeats 1000000 in
theorem zo6 (n:Net)(l:List ByteArray)(vt v:Value)(lo hi lo' hi':Nat)(w:World)(hv:RdT w lo hi vt n.trans)(hw:RdS w lo' hi' v l):
  Calls Tryz.prog 24 #[netV n vt,v] w (RetI w (zb0 n l)):=by
 obtain⟨A,c,rfl,hc,hmm⟩:=hv.form
 obtain⟨A2,c2,rfl,hc2,hmm2⟩:=hw.form
 have HV:=Lib.hid hv
 have HW:=Lib.hid hw
 clear hv hw
 cases hvb:zb7 n with
 |false=>
  have HVB:=Lib.hid hvb
  clear hvb
  refine zak fun R hR=>?_
  have HR:=Lib.hid hR
  clear hR
  go_enter Tryz.func24,Tryz.ntmps24
  have M:Hid (Mem [Loc.k4 w.heap.size (.int .i64 n.places) (.slice A n.trans.length c) (.int .i64 n.source) (.int .i64 n.sink),Loc.bl w.heap.size w] (w.alloc (.cells #[.int .i64 n.places, .slice A n.trans.length c, .int .i64 n.source, .int .i64 n.sink] 24))):=Lib.hid ⟨K4.new w _ _ _ _ _,⟨(Below.refl _ _).alloc (Nat.le_refl _) _,by simp⟩,True.intro⟩
  have hk4:=M.out.1
  go_wp2_with (go_at_call 30;refine(zcs HVB.out _ lo hi _ (HV.out.after M.out.2.1.1)).mono ?_;rintro e w1 ⟨rfl,hb1⟩;replace M:=Lib.hid (M.out.below hb1);clear hb1;replace hk4:=M.out.1)
  exact HR.out _ _ (RetI.nil (by rw[zb0,HVB.out];rfl) M.out.2.1.1)
 | true=>
  have HVB:=Lib.hid hvb
  have hpl:=zbu hvb
  have HPL:=Lib.hid hpl
  have HIN:=Lib.hid (fun W=>zru n n.places.toNat (.slice A n.trans.length c) W xa xa (zg5 hvb).1.1)
  clear hvb hpl
  cases hwb:zd0 l with
  | false=>
   have HWB:=Lib.hid hwb
   clear hwb
   refine zak fun R hR=>?_
   have HR:=Lib.hid hR
   clear hR
   go_enter Tryz.func24,Tryz.ntmps24
   have M:Hid (Mem [Loc.k4 w.heap.size (.int .i64 n.places) (.slice A n.trans.length c) (.int .i64 n.source) (.int .i64 n.sink),Loc.bl w.heap.size w] (w.alloc (.cells #[.int .i64 n.places, .slice A n.trans.length c, .int .i64 n.source, .int .i64 n.sink] 24))):=Lib.hid ⟨K4.new w _ _ _ _ _,⟨(Below.refl _ _).alloc (Nat.le_refl _) _,by simp⟩,True.intro⟩
   have hk4:=M.out.1
   go_wp2_with (first
    |(go_at_call 30;refine(zcs HVB.out _ lo hi _ (HV.out.after M.out.2.1.1)).mono ?_;rintro e w1 ⟨rfl,hb1⟩;replace M:=Lib.hid (M.out.below hb1);clear hb1;replace hk4:=M.out.1)
    |(go_at_call 62;refine(zdn HWB.out lo' hi' _ _ (HW.out.after M.out.2.1.1)).mono ?_;rintro e w1 ⟨rfl,hb1⟩;replace M:=Lib.hid (M.out.below hb1);clear hb1;replace hk4:=M.out.1))
   exact HR.out _ _ (RetI.nil (by rw[zb0,HVB.out,HWB.out];rfl) M.out.2.1.1)
  | true=>
   have HWB:=Lib.hid hwb
   clear hwb
   refine zak fun R hR=>?_
   have HR:=Lib.hid hR
   clear hR
   go_enter Tryz.func24,Tryz.ntmps24
   have M:Hid (Mem [Loc.k4 w.heap.size (.int .i64 n.places) (.slice A n.trans.length c) (.int .i64 n.source) (.int .i64 n.sink),Loc.bl w.heap.size w] (w.alloc (.cells #[.int .i64 n.places, .slice A n.trans.length c, .int .i64 n.source, .int .i64 n.sink] 24))):=Lib.hid ⟨K4.new w _ _ _ _ _,⟨(Below.refl _ _).alloc (Nat.le_refl _) _,by simp⟩,True.intro⟩
   have hk4:=M.out.1
   go_wp2_with (first
    |(go_at_call 30;refine(zcs HVB.out _ lo hi _ (HV.out.after M.out.2.1.1)).mono ?_;rintro e w1 ⟨rfl,hb1⟩;replace M:=Lib.hid (M.out.below hb1);clear hb1;replace hk4:=M.out.1)
    |(go_at_call 62;refine(zdn HWB.out lo' hi' _ _ (HW.out.after M.out.2.1.1)).mono ?_;rintro e w1 ⟨rfl,hb1⟩;replace M:=Lib.hid (M.out.below hb1);clear hb1;replace hk4:=M.out.1)
    |(go_at_call 66;refine(HIN.out _).mono ?_;rintro e w5 ⟨A5,c5,rfl,hr5,hb5⟩;have HR5:=Lib.hid hr5;replace M:=Lib.hid (M.out.below hb5);have hz5:=M.out.2.1.2;clear hb5 hr5)
    |(go_at_call 65;refine(zgu _ _ _ _ _ _ HR5.out (by have:=HPL.out;rw[zgc];omega)).mono ?_;rintro e w6 ⟨A6,c6,rfl,hr6,hb6⟩;have HR6:=Lib.hid hr6;replace M:=Lib.hid (M.out.below hb6);clear hb6 hr6))
   exact HR.out _ _ (RetI.mk (l:=0::oneL n.places.toNat n.source) (by rw[zb0,HVB.out,HWB.out];rfl) rfl HR6.out hz5 (Nat.le_refl _) M.out.2.1.1)
set_option maxHeartbeats 1000000 in
theorem zvg (n:Net)(l:List ByteArray)(vt v:Value)(lo hi lo' hi':Nat)(w:World)(hv:RdT w lo hi vt n.trans)(hw:RdS w lo' hi' v l):
  Calls Tryz.prog 63 #[netV n vt,v] w (RetI w (endE n l)):=by
 obtain⟨A,c,rfl,hc,hmm⟩:=hv.form
 obtain⟨A2,c2,rfl,hc2,hmm2⟩:=hw.form
 have HV:=Lib.hid hv
 have HW:=Lib.hid hw
 clear hv hw
 cases hvb:zb7 n with
 |false=>
  have HVB:=Lib.hid hvb
  clear hvb
  refine zak fun R hR=>?_
  have HR:=Lib.hid hR
  clear hR
  go_enter Tryz.func63,Tryz.ntmps63
  have M:Hid (Mem [Loc.k4 w.heap.size (.int .i64 n.places) (.slice A n.trans.length c) (.int .i64 n.source) (.int .i64 n.sink),Loc.bl w.heap.size w] (w.alloc (.cells #[.int .i64 n.places, .slice A n.trans.length c, .int .i64 n.source, .int .i64 n.sink] 24))):=Lib.hid ⟨K4.new w _ _ _ _ _,⟨(Below.refl _ _).alloc (Nat.le_refl _) _,by simp⟩,True.intro⟩
  have hk4:=M.out.1
  go_wp2_with (go_at_call 30;refine(zcs HVB.out _ lo hi _ (HV.out.after M.out.2.1.1)).mono ?_;rintro e w1 ⟨rfl,hb1⟩;replace M:=Lib.hid (M.out.below hb1);clear hb1;replace hk4:=M.out.1)
  exact HR.out _ _ (RetI.nil (by rw[endE,HVB.out];rfl) M.out.2.1.1)
 | true=>
  have HVB:=Lib.hid hvb
  have hpl:=zbu hvb
  have HPL:=Lib.hid hpl
  have HIN:=Lib.hid (fun W=>zw2 n n.places.toNat (.slice A n.trans.length c) W xa xa (zg5 hvb).2.1)
  clear hvb hpl
  cases hwb:zd0 l with
  | false=>
   have HWB:=Lib.hid hwb
   clear hwb
   refine zak fun R hR=>?_
   have HR:=Lib.hid hR
   clear hR
   go_enter Tryz.func63,Tryz.ntmps63
   have M:Hid (Mem [Loc.k4 w.heap.size (.int .i64 n.places) (.slice A n.trans.length c) (.int .i64 n.source) (.int .i64 n.sink),Loc.bl w.heap.size w] (w.alloc (.cells #[.int .i64 n.places, .slice A n.trans.length c, .int .i64 n.source, .int .i64 n.sink] 24))):=Lib.hid ⟨K4.new w _ _ _ _ _,⟨(Below.refl _ _).alloc (Nat.le_refl _) _,by simp⟩,True.intro⟩
   have hk4:=M.out.1
   go_wp2_with (first
    |(go_at_call 30;refine(zcs HVB.out _ lo hi _ (HV.out.after M.out.2.1.1)).mono ?_;rintro e w1 ⟨rfl,hb1⟩;replace M:=Lib.hid (M.out.below hb1);clear hb1;replace hk4:=M.out.1)
    |(go_at_call 62;refine(zdn HWB.out lo' hi' _ _ (HW.out.after M.out.2.1.1)).mono ?_;rintro e w1 ⟨rfl,hb1⟩;replace M:=Lib.hid (M.out.below hb1);clear hb1;replace hk4:=M.out.1))
   exact HR.out _ _ (RetI.nil (by rw[endE,HVB.out,HWB.out];rfl) M.out.2.1.1)
  | true=>
   have HWB:=Lib.hid hwb
   clear hwb
   refine zak fun R hR=>?_
   have HR:=Lib.hid hR
   clear hR
   go_enter Tryz.func63,Tryz.ntmps63
   have M:Hid (Mem [Loc.k4 w.heap.size (.int .i64 n.places) (.slice A n.trans.length c) (.int .i64 n.source) (.int .i64 n.sink),Loc.bl w.heap.size w] (w.alloc (.cells #[.int .i64 n.places, .slice A n.trans.length c, .int .i64 n.source, .int .i64 n.sink] 24))):=Lib.hid ⟨K4.new w _ _ _ _ _,⟨(Below.refl _ _).alloc (Nat.le_refl _) _,by simp⟩,True.intro⟩
   have hk4:=M.out.1
   go_wp2_with (first
    |(go_at_call 30;refine(zcs HVB.out _ lo hi _ (HV.out.after M.out.2.1.1)).mono ?_;rintro e w1 ⟨rfl,hb1⟩;replace M:=Lib.hid (M.out.below hb1);clear hb1;replace hk4:=M.out.1)
    |(go_at_call 62;refine(zdn HWB.out lo' hi' _ _ (HW.out.after M.out.2.1.1)).mono ?_;rintro e w1 ⟨rfl,hb1⟩;replace M:=Lib.hid (M.out.below hb1);clear hb1;replace hk4:=M.out.1)
    |(go_at_call 125;refine(HIN.out _).mono ?_;rintro e w5 ⟨A5,c5,rfl,hr5,hb5⟩;have HR5:=Lib.hid hr5;replace M:=Lib.hid (M.out.below hb5);have hz5:=M.out.2.1.2;clear hb5 hr5)
    |(go_at_call 65;refine(zgu _ _ _ _ _ _ HR5.out (by have:=HPL.out;rw[zgc];omega)).mono ?_;rintro e w6 ⟨A6,c6,rfl,hr6,hb6⟩;have HR6:=Lib.hid hr6;replace M:=Lib.hid (M.out.below hb6);clear hb6 hr6))
   exact HR.out _ _ (RetI.mk (l:=(l.length:Int)::oneL n.places.toNat n.sink) (by rw[endE,HVB.out,HWB.out];rfl) rfl HR6.out hz5 (Nat.le_refl _) M.out.2.1.1)
end
end Go.Proofs.YtjdpnadhgjohnaaGreatDoor
