import Derived.Test.YtjdpnadhgjohnaaGreatDoorJN0
import Derived.Test.YtjdpnadhgjohnaaGreatDoorJN8
import Derived.Test.YtjdpnadhgjohnaaGreatDoorJN11
import Derived.Test.YtjdpnadhgjohnaaGreatDoorJN10
import Derived.Test.YtjdpnadhgjohnaaGreatDoorJN6
import Derived.Test.YtjdpnadhgjohnaaGreatDoorJN1
set_option linter.unusedSimpArgs false
set_option linter.unusedVariables false
set_option linter.unusedSectionVars false
namespace Go.Proofs.YtjdpnadhgjohnaaGreatDoor
section
open Go.RowKit
def RetM (w:World)(r:List Stp × Int)(e:Ending)(w':World):Prop:=
 ∃A c,e= .returned (.tuple #[.slice A r.1.length c, .int .i64 r.2])∧RdM w' w.heap.size w'.heap.size (.slice A r.1.length c) r.1∧Below w.heap.size w w'
theorem RetM.nil {w w':World}{r:List Stp × Int}{c:Int}(h:r=([],c))(hb:Below w.heap.size w w'):RetM w r (.returned (.tuple #[.slice none 0 0, .int .i64 c])) w':=by
 subst h
 exact⟨none,0,rfl,Rd.nil _ _ _,hb⟩
theorem RetM.mk {w w':World}{r:List Stp × Int}{l:List Stp}{n k:Nat}{A:Option Addr}{c:Int}(h:r=(l,c))(hn:n=l.length){lo hi:Nat}(hr:RdM w' lo hi (.slice A n k) l)(hlo:w.heap.size≤lo)(hhi:hi≤w'.heap.size)(hb:Below w.heap.size w w'):RetM w r (.returned (.tuple #[.slice A n k, .int .i64 c])) w':=by
 subst h hn
 exact⟨A,k,rfl,hr.mono hlo hhi,hb⟩
def zqq (n:Net)(m:List Int)(k:Nat):Bool:=decide ((zen n m k).2=0)
def zu7 (n:Net)(w:List ByteArray)(p:Int)(m:List Int)(k:Nat):List Stp:=if zqq n m k && (!(gti n.trans k).label.toList.isEmpty && atB w p (gti n.trans k).label) then [⟨1,k,(gti n.trans k).label⟩] else []
def zqh (n:Net)(m:List Int)(k:Nat):List Stp:=if zqq n m k then(if (gti n.trans k).label.toList.isEmpty then [⟨4,k,ByteArray.empty⟩] else [⟨3,k,(gti n.trans k).label⟩]) else []
def zdv (n:Net)(w:List ByteArray)(p:Int)(m:List Int):Nat→List Stp
 |0=>[]
 |k+1=>zdv n w p m k++zu7 n w p m k
def zcu (n:Net)(m:List Int):Nat→List Stp
 |0=>[]
 |k+1=>zcu n m k++zqh n m k
def zf2 (w:List ByteArray)(p:Int):List Stp:=if p<w.length then [⟨2, -1,gti w p.toNat⟩] else []
theorem zie (n:Net)(w:List ByteArray)(p:Int)(m:List Int): ∀k,(zdv n w p m k).length≤k
 |0=>by simp[zdv]
 |k+1=>by
  have:=zie n w p m k
  have:(zu7 n w p m k).length≤1:=by unfold zu7;split<;>simp
  simp only[zdv,List.length_append]
  omega
theorem zhf (n:Net)(m:List Int): ∀k,(zcu n m k).length≤k
 |0=>by simp[zcu]
 |k+1=>by
  have:=zhf n m k
  have:(zqh n m k).length≤1:=by unfold zqh;split;(split<;>simp);simp
  simp only[zcu,List.length_append]
  omega
theorem znj (w:List ByteArray)(p:Int):(zf2 w p).length≤1:=by unfold zf2;split<;>simp
def zb8 (n:Net)(w:List ByteArray)(s:List Int):List Stp:=zdv n w (gti s 0) (s.drop 1) n.trans.length++(zf2 w (gti s 0)++zcu n (s.drop 1) n.trans.length)
def zhq (n:Net)(w:List ByteArray)(s:List Int):List Stp × Int:=if zb1 n w s then(zb8 n w s,0) else([],1)
theorem at_is {l:List ByteArray}{k:Int}{a:ByteArray}{z:Bool}(hz:atB l k a=z)(lo hi:Nat)(v:Value)(w:World)(hv:RdS w lo hi v l)(hk:0≤k):
  Calls Tryz.prog 97 #[v, .int .i64 k, .string a] w fun e w'=>e= .returned (.bool z)∧Below w.heap.size w w':=hz▸z18 l k a lo hi v w hv hk
theorem zth (w:World)(lo:Nat):OwnB w lo (.slice none 0 0) []:=⟨by simp, .inl ⟨rfl,rfl⟩⟩
structure T3C (lo:Nat)(v1:Value)(l1:List Stp)(v2:Value)(l2:List Stp)(v3:Value)(l3:List Stp)(rest:List Loc)(g:Nat)(x y z:Value)(b off:Nat)(u:Value)(w:World):Prop where
 t:T3 lo v1 l1 v2 l2 v3 l3 rest w
 k:K3 w g x y z
 c:C1 w b off u
theorem T3C.below {lo:Nat}{v1 v2 v3:Value}{l1 l2 l3:List Stp}{rest:List Loc}{g:Nat}{x y z:Value}{b off:Nat}{u:Value}{w W:World}(h:T3C lo v1 l1 v2 l2 v3 l3 rest g x y z b off u w)(hb:Below w.heap.size w W):T3C lo v1 l1 v2 l2 v3 l3 rest g x y z b off u W:=
 ⟨h.t.below hb,K3.aft hb h.k,C1.aft hb h.c⟩
theorem z8v {W:World}{lo:Nat}{v1 v2 v3:Value}{l1 l2 l3:List Stp}{rest:List Loc}(h:T3 lo v1 l1 v2 l2 v3 l3 rest W)(t:TypeId)(hb:l1.length+(l2.length+l3.length)≤10000):
  Calls Tryz.prog 98 #[.slice (some ⟨W.heap.size,0,none⟩) 3 3] (W.alloc (.cells #[v1,v2,v3] t)) fun e w'=> ∃A c,e= .returned (.slice A (l1++(l2++l3)).length c)∧RdM w' (W.heap.size+1) w'.heap.size (.slice A (l1++(l2++l3)).length c) (l1++(l2++l3))∧Below (W.alloc (.cells #[v1,v2,v3] t)).heap.size (W.alloc (.cells #[v1,v2,v3] t)) w':=by
 have hr: ∀k,k<[l1,l2,l3].length→RdM (W.alloc (.cells #[v1,v2,v3] t)) lo W.heap.size (gti [v1,v2,v3] k) (gti [l1,l2,l3] k):=by
  intro k hk
  have hba:Below W.heap.size W (W.alloc (.cells #[v1,v2,v3] t)):=(Below.refl _ _).alloc (Nat.le_refl _) _
  match k,hk with
  |0,_=>exact h.o1.rd.after hba
  |1,_=>exact h.o2.rd.after hba
  |2,_=>exact h.o3.rd.after hba
  |k+3,hk=>exact absurd hk xm
 have h1:=zx1 [v1,v2,v3] [l1,l2,l3] _ 0 _ lo W.heap.size _ (Rd.lit (enc:=encQ) W t [v1,v2,v3] _ 3 J J (by simp[maxLen]) (fun _=>rfl)) J hr (by simp;omega)
 have e:[l1,l2,l3].flatten=l1++(l2++l3):=by simp
 rw[e] at h1
 refine h1.mono ?_
 rintro e w' ⟨A,c,rfl,h2,h3⟩
 exact⟨A,c,rfl,h2.mono xm (Nat.le_refl _),h3⟩
set_option maxRecDepth 100000 in
set_option maxHeartbeats 4000000 in
theorem z2m (n:Net)(l:List ByteArray)(s:List Int)(vt v vs:Value)(lo hi lo' hi' lo2 hi2:Nat)(w:World)(hv:RdT w lo hi vt n.trans)(hw:RdS w lo' hi' v l)(hs:RdI w lo2 hi2 vs s):
  Calls Tryz.prog 43 #[netV n vt,v,vs] w (RetM w (zhq n l s)):=by
 obtain⟨A,c,rfl,hc,hmm⟩:=hv.form
 obtain⟨A2,c2,rfl,hc2,hmm2⟩:=hw.form
 obtain⟨A3,c3,rfl,hc3,hmm3⟩:=hs.form
 have HV:=Lib.hid hv
 have HW:=Lib.hid hw
 have HS:=Lib.hid hs
 clear hv hw
 cases hz:zb1 n l s with
 |false=>
  have HZ:=Lib.hid hz
  clear hz hs
  refine zak fun R hR=>?_
  have HR:=Lib.hid hR
  clear hR
  go_enter Tryz.func43,Tryz.ntmps43
  have M:Hid (Mem [Loc.k4 w.heap.size (.int .i64 n.places) (.slice A n.trans.length c) (.int .i64 n.source) (.int .i64 n.sink),Loc.bl w.heap.size w] (w.alloc (.cells #[.int .i64 n.places, .slice A n.trans.length c, .int .i64 n.source, .int .i64 n.sink] 24))):=Lib.hid ⟨K4.new w _ _ _ _ _,⟨(Below.refl _ _).alloc (Nat.le_refl _) _,by simp⟩,True.intro⟩
  have hk4:=M.out.1
  go_wp2_with (go_at_call 95;refine(zk6 HZ.out _ _ _ lo hi lo' hi' lo2 hi2 _ (HV.out.after M.out.2.1.1) (HW.out.after M.out.2.1.1) (HS.out.after M.out.2.1.1)).mono ?_;rintro e w1 ⟨rfl,hb1⟩;replace M:=Lib.hid (M.out.below hb1);clear hb1;replace hk4:=M.out.1)
  exact HR.out _ _ (RetM.nil (by rw[zhq,HZ.out];rfl) M.out.2.1.1)
 | true =>
  have HZ:=Lib.hid hz
  obtain⟨h1,h2,h3,h4,h5⟩:=zda hz
  have hval:n.trans.length≤60:=by
   have:=(zdb.1 hz).2.2.2.2
   unfold zdd at this
   simp only[Bool.and_eq_true] at this
   exact(zbu this.1).2.2
  have HME:Hid (zhq n l s=(zdv n l (gti s 0) (s.drop 1) n.trans.length++(zf2 l (gti s 0)++zcu n (s.drop 1) n.trans.length),0)):=Lib.hid (by rw[zhq,hz];rfl)
  clear hz
  obtain⟨b,off,rfl,_,_,hcell⟩:=RdI.at1 hs (k:=0) xa
  obtain⟨At,ct,hsl,ht⟩:=RdI.tail1 hs h1 hc3
  obtain⟨tl,htl⟩: ∃tl,s.drop 1=tl:=⟨_,rfl⟩
  rw[htl] at hsl ht HME
  have HT:=Lib.hid ht
  have hs0:(0:Int)<(s.length:Int):=by omega
  have hs2: ¬s=[]:=by intro e;rw[e] at h1;simp at h1
  have hs3:0<s.length:=h1
  clear hs ht htl
  simp only[Nat.add_zero] at hcell
  have HC:=Lib.hid hcell
  clear hcell
  generalize gti s 0=p at*
  obtain⟨kp,rfl⟩: ∃k:Nat,p=k:=⟨p.toNat,by omega⟩
  refine zak fun R hR=>?_
  have HR:=Lib.hid hR
  clear hR
  go_enter Tryz.func43,Tryz.ntmps43
  have M:Hid (Mem [Loc.k4 w.heap.size (.int .i64 n.places) (.slice A n.trans.length c) (.int .i64 n.source) (.int .i64 n.sink),Loc.bl w.heap.size w] (w.alloc (.cells #[.int .i64 n.places, .slice A n.trans.length c, .int .i64 n.source, .int .i64 n.sink] 24))):=Lib.hid ⟨K4.new w _ _ _ _ _,⟨(Below.refl _ _).alloc (Nat.le_refl _) _,by simp⟩,True.intro⟩
  have hk4:=M.out.1
  have hcell:=C1.aft M.out.2.1.1 HC.out
  have hT0: ∀W,Mem [Loc.k4 w.heap.size (.int .i64 n.places) (.slice A n.trans.length c) (.int .i64 n.source) (.int .i64 n.sink),Loc.bl w.heap.size w] W→T3 (w.heap.size+1) (.slice none 0 0) [] (.slice none 0 0) [] (.slice none 0 0) [] [Loc.k4 w.heap.size (.int .i64 n.places) (.slice A n.trans.length c) (.int .i64 n.source) (.int .i64 n.sink),Loc.bl w.heap.size w] W:=fun W h=>
   ⟨zth _ _,zth _ _,zth _ _,Dis.nil _,Dis.nil _,Dis.nil _,⟨fun k hk=>by dsimp only at hk;omega,fun k hk=>by dsimp only at hk;omega,True.intro⟩,by have:=h.1.2.2.2.2;omega,h⟩
  have HT0:=Lib.hid hT0
  clear hT0
  go_upto_if 25 with (go_at_call 95;refine(zk6 HZ.out _ _ _ lo hi lo' hi' lo2 hi2 _ (HV.out.after M.out.2.1.1) (HW.out.after M.out.2.1.1) (HS.out.after M.out.2.1.1)).mono ?_;rintro e w1 ⟨rfl,hb1⟩;replace M:=Lib.hid (M.out.below hb1);clear hb1;replace hk4:=M.out.1;replace hcell:=C1.aft M.out.2.1.1 HC.out)
  go_cut [9] (fun v9 wx=> ∃A9 c9,v9= .slice A9 (zf2 l kp).length c9∧Hid (T3 (w.heap.size+1) (.slice none 0 0) [] (.slice A9 (zf2 l kp).length c9) (zf2 l kp) (.slice none 0 0) [] [Loc.k4 w.heap.size (.int .i64 n.places) (.slice A n.trans.length c) (.int .i64 n.source) (.int .i64 n.sink),Loc.bl w.heap.size w] wx))
  case first=>
   have T:=Lib.hid (HT0.out _ M.out)
   by_cases hp:kp<l.length
   ·
    have hpi:(kp:Int)<l.length:=by omega
    obtain⟨b5,off5,rfl,_,_,hce5⟩:=RdS.at1 (HW.out.after M.out.2.1.1) hp
    have HLG:Hid (zf2 l kp=[]++[⟨2, -1,gti l kp⟩]):=Lib.hid (by unfold zf2;rw[if_pos hpi];simp)
    generalize gti l kp=x5 at*
    go_wp2_with (at_builtin;obtain⟨A9,c9,w9,hrun,hT,hs9⟩:=zj1 T.out.rot 2 (-1) x5 54 _ rfl xm;refine Lib.wpList_append_run _ rfl _ _ _ _ rfl _ _ rfl rfl _ _ hrun ?_;replace T:=Lib.hid hT;clear hrun hT)
    go_meet
    rw[HLG.out]
    exact⟨A9,c9,rfl,Lib.hid T.out.rot.rot⟩
   ·
    have hpi: ¬ (kp:Int)<l.length:=by omega
    have HLG:Hid (zf2 l kp=[]):=Lib.hid (by unfold zf2;rw[if_neg hpi])
    go_wp2_with fail
    go_meet
    rw[HLG.out]
    exact⟨none,0,rfl,T⟩
  case rest =>
   clear M hk4 hcell
   obtain⟨A9,c9,rfl,T⟩:=hcut
   have hk4:=T.out.r.1
   have hll:=znj l kp
   have HME2:=HME
   generalize zf2 l kp=lg at*
   go_wp2_with fail
   go_loopw [39,8,10,11,12,13,14] (fun v39 v8 v10 _ _ _ _ wr=> ∃ (k:Nat) (A8:Option Addr) (c8:Nat) (A10:Option Addr) (c10:Nat),k≤n.trans.length∧v39= .int .i64 k∧v8= .slice A8 (zdv n l kp tl k).length c8∧v10= .slice A10 (zcu n tl k).length c10∧Hid (T3 (w.heap.size+1) (.slice A8 (zdv n l kp tl k).length c8) (zdv n l kp tl k) (.slice A9 lg.length c9) lg (.slice A10 (zcu n tl k).length c10) (zcu n tl k) [Loc.k4 w.heap.size (.int .i64 n.places) (.slice A n.trans.length c) (.int .i64 n.source) (.int .i64 n.sink),Loc.bl w.heap.size w] wr)) (fun v39 _ _ _ _ _ _ _=>n.trans.length-(intOf v39).toNat)
   case atStart=>exact⟨0,none,0,none,0,by omega,rfl,rfl,rfl,T⟩
   case round=>
    clear T hk4
    obtain⟨k,A8,c8,A10,c10,hk,rfl,rfl,rfl,T⟩:=hrel
    have hk4:=T.out.r.1
    by_cases hlt:k<n.trans.length
    ·
     obtain⟨b4,off4,vi,vo,rfl,_,_,hct,hri,hro⟩:=RdT.at3 (HV.out.after T.out.r.2.1.1) hlt
     have HSY:Hid (zdv n l kp tl (k+1)=zdv n l kp tl k++if zqq n tl k && (!(gti n.trans k).label.toList.isEmpty && atB l kp (gti n.trans k).label) then [⟨1,k,(gti n.trans k).label⟩] else []):=Lib.hid J
     have HMO:Hid (zcu n tl (k+1)=zcu n tl k++if zqq n tl k then(if (gti n.trans k).label.toList.isEmpty then [⟨4,k,ByteArray.empty⟩] else [⟨3,k,(gti n.trans k).label⟩]) else []):=Lib.hid J
     have hsl8:=zie n l kp tl k
     have hml10:=zhf n tl k
     generalize zdv n l kp tl k=sy at*
     generalize zcu n tl k=mo at*
     have HFE:=Lib.hid (fun (W:World) (h:Below w.heap.size w W)=>zwq n tl k _ _ lo hi lo2 hi2 W (HV.out.after h) (HT.out.after h))
     have HFI:Hid (zqq n tl k=decide ((zen n tl k).2=0)):=Lib.hid J
     obtain⟨⟨fl,fe⟩,hfe⟩: ∃r,zen n tl k=r:=⟨_,rfl⟩
     rw[hfe] at HFE HFI
     dsimp only at HFI
     clear hfe
     generalize gti n.trans k=x at*
     obtain⟨Ai,ci,rfl,hci,hmi⟩:=hri.form
     obtain⟨Ao,co,rfl,hco,hmo⟩:=hro.form
     clear hri hro
     have HB8:=Lib.hid (fun k (h:(Value.slice A8 sy.length c8).ownBlock=some k)=>(T.out.o1.lt k h).2)
     replace T:=Lib.hid (T.out.alloc (.cells #[.string x.label, .slice Ai x.inn.length ci, .slice Ao x.out.length co] 76))
     replace hk4:=T.out.r.1
     have hkt:=K3.new wr (.string x.label) (.slice Ai x.inn.length ci) (.slice Ao x.out.length co) 76
     by_cases he0:fe=0
     ·
      subst he0
      rw[HFI.out] at HSY HMO
      simp only[decide_true,Bool.true_and,if_true] at HSY HMO
      obtain⟨ze,hze⟩: ∃z,x.label.toList.isEmpty=z:=⟨_,rfl⟩
      rw[hze] at HSY HMO
      go_wp2_with fail
      go_region_held3 (fun W=>K4 W w.heap.size (.int .i64 n.places) (.slice (some ⟨b4,off4,none⟩) n.trans.length c) (.int .i64 n.source) (.int .i64 n.sink)) (exact hk4) (first
       |(go_at_call 96;refine(HFE.out _ (by first|exact T.out.r.2.1.1|exact T.out.drew.r.2.1.1)).mono ?_;rintro e w6 ⟨A6,c6,rfl,hr6,hb6⟩;replace hkt:=K3.aft (by first|exact hb6|exact(Below.refl _ _).drew.trans hb6) hkt;replace T:=Lib.hid (T3.below (by first|exact T.out|exact T.out.drew) hb6);dsimp only;replace hk4:=T.out.r.1;clear hb6 hr6))
      all_goals
       cases ze with
       | true=>
        simp only[Bool.not_true,Bool.false_and,Bool.false_eq_true,if_false,if_true,List.append_nil] at HSY HMO
        go_wp2_with (at_builtin;obtain⟨A1,c1,w7,hrun,hT,hs9⟩:=zj1 T.out.rot.rot 4 k ByteArray.empty 54 _ rfl xa;refine Lib.wpList_append_run _ rfl (.tmp 57) (.tmp 60) _ _ rfl _ _ rfl rfl _ _ hrun ?_;replace T:=Lib.hid hT.rot;clear hrun hT)
        have hk1:k+1≤n.trans.length:=by omega
        have hT:Hid (T3 (w.heap.size+1) (.slice A8 (zdv n l kp tl (k+1)).length c8) (zdv n l kp tl (k+1)) (.slice A9 lg.length c9) lg (.slice A1 (zcu n tl (k+1)).length c1) (zcu n tl (k+1)) [Loc.k4 w.heap.size (.int .i64 n.places) (.slice (some ⟨b4,off4,none⟩) n.trans.length c) (.int .i64 n.source) (.int .i64 n.sink),Loc.bl w.heap.size w] _):=Lib.hid (by rw[HSY.out,HMO.out];exact T.out)
        have e8:Value.slice A8 sy.length c8= .slice A8 (zdv n l kp tl (k+1)).length c8:=by rw[HSY.out]
        have e10:Value.slice A1 (mo.length+1) c1= .slice A1 (zcu n tl (k+1)).length c1:=by rw[HMO.out,List.length_append];rfl
        have hki:Value.int .i64 ((k:Int)+1)= .int .i64 ((k+1:Nat):Int):=by go_num
        first
         |exact⟨⟨k+1,A8,c8,A1,c1,hk1,hki,e8,e10,hT⟩,by simp[intOf];omega⟩
         |
          (go_roundw
           case rel=>(first|exact⟨k+1,A8,c8,A1,c1,hk1,hki,e8,e10,hT⟩|((repeat apply Exists.intro);exact⟨⟨k+1,A8,c8,A1,c1,hk1,hki,e8,e10,hT⟩,rfl⟩))
           case measure=>simp[intOf];omega)
       | false=>
        obtain⟨za,hza⟩: ∃z,atB l kp x.label=z:=⟨_,rfl⟩
        have HZA:=Lib.hid hza
        rw[hza] at HSY
        clear hza
        have hcell:=C1.aft T.out.r.2.1.1 HC.out
        simp only[Bool.not_false,Bool.true_and,Bool.false_eq_true,if_false] at HSY HMO
        go_wp2_with fail
        refine zdo (C:=(T3C (w.heap.size+1) (.slice A8 sy.length c8) sy (.slice A9 lg.length c9) lg (.slice A10 mo.length c10) mo [Loc.k4 w.heap.size (.int .i64 n.places) (.slice (some ⟨b4,off4,none⟩) n.trans.length c) (.int .i64 n.source) (.int .i64 n.sink),Loc.bl w.heap.size w] wr.heap.size (.string x.label) (.slice Ai x.inn.length ci) (.slice Ao x.out.length co) b off (.int .i64 kp))) (by kernel_rfl) (by kernel_rfl) (by exact⟨T.out.drew,hkt,hcell⟩) ?_
        repeat (first
         |(refine BigFrame.wpQuiet_skip (by rfl) ?_;simp only[Act.put,List.setIfInBounds_toArray,List.set_cons_zero,List.set_cons_succ])
         |(refine BigFrame.wpQuiet_want (by rfl) (fun K hK=>?_);refine BigFrame.quiet_move _ J (hK _ ?_);clear hK K;simp only[Act.put,Act.eval,List.setIfInBounds_toArray,List.set_cons_zero,List.set_cons_succ,List.getD_toArray,List.getD_cons_zero,List.getD_cons_succ])
         |(refine BigFrame.wpQuiet_want (by rfl) (fun K hK=>?_);refine BigFrame.quiet_assign _ J (hK _ ?_);clear hK K;simp only[Act.put,Act.eval,List.setIfInBounds_toArray,List.set_cons_zero,List.set_cons_succ,List.getD_toArray,List.getD_cons_zero,List.getD_cons_succ])
         |(refine BigFrame.wpQuiet_want (by rfl) (fun K hK=>?_);refine zgb (v:=?_) (fun W hW=>?_) (hK _ ?_);rotate_left;((have hq1:=hW.k;have hq2:=hW.c);go_simp;try (with_reducible rfl));clear hK K;simp only[Act.put,List.setIfInBounds_toArray,List.set_cons_zero,List.set_cons_succ])
         |(refine BigFrame.wpQuiet_want (by rfl) (fun K hK=>?_);go_simp;apply Exists.intro;refine⟨fun W hW=>?_,hK _ ?_⟩;(exact(at_is HZA.out lo' hi' _ _ (HW.out.after hW.t.r.2.1.1) xa).mono (fun e w' h=>⟨h.1,hW.below h.2⟩));clear hK K;try simp only[Act.put,List.setIfInBounds_toArray,List.set_cons_zero,List.set_cons_succ])
         |fail)
        refine wpQuiet_nil ?_
        intro W hW
        clear hkt hcell
        replace T:=Lib.hid hW.t
        have hkt:=hW.k
        cases za with
        | true=>
         simp only[if_true] at HSY
         have tok1:True:=trivial
         go_wp2_with (first|(at_builtin;have _t:=tok1;obtain⟨A0,c0,w8,hrun,hT,hs8,hbk⟩:=zj1 T.out 1 k x.label 54 _ rfl (by omega);refine Lib.wpList_append_run _ rfl (.tmp 69) (.tmp 74) _ _ rfl _ _ rfl rfl _ _ hrun ?_;replace hkt:=K3.of_block hkt (hbk _ hkt.2.2.2 (fun he=>by have:=HB8.out _ he;omega)) hs8;replace T:=Lib.hid hT;clear hrun hT hbk hs8 tok1)|(at_builtin;obtain⟨A1,c1,w7,hrun,hT,hs9⟩:=zj1 T.out.rot.rot 3 k x.label 54 _ rfl (by omega);refine Lib.wpList_append_run _ rfl (.tmp 76) (.tmp 81) _ _ rfl _ _ rfl rfl _ _ hrun ?_;replace T:=Lib.hid hT.rot;clear hrun hT))
         have hk1:k+1≤n.trans.length:=by omega
         have hT:Hid (T3 (w.heap.size+1) (.slice A0 (zdv n l kp tl (k+1)).length c0) (zdv n l kp tl (k+1)) (.slice A9 lg.length c9) lg (.slice A1 (zcu n tl (k+1)).length c1) (zcu n tl (k+1)) [Loc.k4 w.heap.size (.int .i64 n.places) (.slice (some ⟨b4,off4,none⟩) n.trans.length c) (.int .i64 n.source) (.int .i64 n.sink),Loc.bl w.heap.size w] _):=Lib.hid (by rw[HSY.out,HMO.out];exact T.out)
         have e8:Value.slice A0 (sy.length+1) c0= .slice A0 (zdv n l kp tl (k+1)).length c0:=by rw[HSY.out,List.length_append];rfl
         have e10:Value.slice A1 (mo.length+1) c1= .slice A1 (zcu n tl (k+1)).length c1:=by rw[HMO.out,List.length_append];rfl
         have hki:Value.int .i64 ((k:Int)+1)= .int .i64 ((k+1:Nat):Int):=by go_num
         first
          |exact⟨⟨k+1,A0,c0,A1,c1,hk1,hki,e8,e10,hT⟩,by simp[intOf];omega⟩
          |
           (go_roundw
            case rel=>(first|exact⟨k+1,A0,c0,A1,c1,hk1,hki,e8,e10,hT⟩|((repeat apply Exists.intro);exact⟨⟨k+1,A0,c0,A1,c1,hk1,hki,e8,e10,hT⟩,rfl⟩))
            case measure=>simp[intOf];omega)
        | false=>
         simp only[Bool.false_eq_true,if_false,List.append_nil] at HSY
         go_wp2_with (at_builtin;obtain⟨A1,c1,w7,hrun,hT,hs9⟩:=zj1 T.out.rot.rot 3 k x.label 54 _ rfl xa;refine Lib.wpList_append_run _ rfl (.tmp 76) (.tmp 81) _ _ rfl _ _ rfl rfl _ _ hrun ?_;replace T:=Lib.hid hT.rot;clear hrun hT)
         have hk1:k+1≤n.trans.length:=by omega
         have hT:Hid (T3 (w.heap.size+1) (.slice A8 (zdv n l kp tl (k+1)).length c8) (zdv n l kp tl (k+1)) (.slice A9 lg.length c9) lg (.slice A1 (zcu n tl (k+1)).length c1) (zcu n tl (k+1)) [Loc.k4 w.heap.size (.int .i64 n.places) (.slice (some ⟨b4,off4,none⟩) n.trans.length c) (.int .i64 n.source) (.int .i64 n.sink),Loc.bl w.heap.size w] _):=Lib.hid (by rw[HSY.out,HMO.out];exact T.out)
         have e8:Value.slice A8 sy.length c8= .slice A8 (zdv n l kp tl (k+1)).length c8:=by rw[HSY.out]
         have e10:Value.slice A1 (mo.length+1) c1= .slice A1 (zcu n tl (k+1)).length c1:=by rw[HMO.out,List.length_append];rfl
         have hki:Value.int .i64 ((k:Int)+1)= .int .i64 ((k+1:Nat):Int):=by go_num
         first
          |exact⟨⟨k+1,A8,c8,A1,c1,hk1,hki,e8,e10,hT⟩,by simp[intOf];omega⟩
          |
           (go_roundw
            case rel=>(first|exact⟨k+1,A8,c8,A1,c1,hk1,hki,e8,e10,hT⟩|((repeat apply Exists.intro);exact⟨⟨k+1,A8,c8,A1,c1,hk1,hki,e8,e10,hT⟩,rfl⟩))
            case measure=>simp[intOf];omega)
     ·
      rw[HFI.out,decide_eq_false he0] at HSY HMO
      simp only[Bool.false_and,Bool.false_eq_true,if_false,List.append_nil] at HSY HMO
      have be0:(fe !=0)=true:=by simpa using he0
      go_wp2_with fail
      go_region_held3 (fun W=>K4 W w.heap.size (.int .i64 n.places) (.slice (some ⟨b4,off4,none⟩) n.trans.length c) (.int .i64 n.source) (.int .i64 n.sink)) (exact hk4) (first
       |(go_at_call 96;refine(HFE.out _ (by first|exact T.out.r.2.1.1|exact T.out.drew.r.2.1.1)).mono ?_;rintro e w6 ⟨A6,c6,rfl,hr6,hb6⟩;replace hkt:=K3.aft (by first|exact hb6|exact(Below.refl _ _).drew.trans hb6) hkt;replace T:=Lib.hid (T3.below (by first|exact T.out|exact T.out.drew) hb6);dsimp only;replace hk4:=T.out.r.1;clear hb6 hr6))
      all_goals
       go_wp2_with fail
       have hk1:k+1≤n.trans.length:=by omega
       have hT:Hid (T3 (w.heap.size+1) (.slice A8 (zdv n l kp tl (k+1)).length c8) (zdv n l kp tl (k+1)) (.slice A9 lg.length c9) lg (.slice A10 (zcu n tl (k+1)).length c10) (zcu n tl (k+1)) [Loc.k4 w.heap.size (.int .i64 n.places) (.slice (some ⟨b4,off4,none⟩) n.trans.length c) (.int .i64 n.source) (.int .i64 n.sink),Loc.bl w.heap.size w] _):=Lib.hid (by rw[HSY.out,HMO.out];exact T.out)
       have e8:Value.slice A8 sy.length c8= .slice A8 (zdv n l kp tl (k+1)).length c8:=by rw[HSY.out]
       have e10:Value.slice A10 mo.length c10= .slice A10 (zcu n tl (k+1)).length c10:=by rw[HMO.out]
       have hki:Value.int .i64 ((k:Int)+1)= .int .i64 ((k+1:Nat):Int):=by go_num
       first
        |exact⟨⟨k+1,A8,c8,A10,c10,hk1,hki,e8,e10,hT⟩,by simp[intOf];omega⟩
        |
         (go_roundw
          case rel=>(first|exact⟨k+1,A8,c8,A10,c10,hk1,hki,e8,e10,hT⟩|((repeat apply Exists.intro);exact⟨⟨k+1,A8,c8,A10,c10,hk1,hki,e8,e10,hT⟩,rfl⟩))
          case measure=>simp[intOf];omega)
    ·
     obtain rfl:k=n.trans.length:=by omega
     have hsl8:=zie n l kp tl n.trans.length
     have hml10:=zhf n tl n.trans.length
     generalize zdv n l kp tl n.trans.length=sy at*
     generalize zcu n tl n.trans.length=mo at*
     have hT1:=T.out.s
     go_wp2_with (go_at_call 98;refine(z8v T.out _ xa).mono ?_;rintro e w9 ⟨A1,c1,rfl,hr9,hb9⟩;have HR9:=Lib.hid hr9;replace T:=Lib.hid ((T.out.alloc _).below hb9);clear hb9 hr9)
     exact HR.out _ _ (RetM.mk (lo:=wr.heap.size+1) HME.out xm (by have:=HR9.out;simpa only[List.length_append] using this) xa (Nat.le_refl _) T.out.r.2.1.1)
end
section
open Go.RowKit
def allA (n:Net):Nat→List Stp
 |0=>[]
 |k+1=>allA n k++[⟨1,k,(gti n.trans k).label⟩]
def allB (n:Net):Nat→List Stp
 |0=>[]
 |k+1=>allB n k++[⟨if (gti n.trans k).label.toList.isEmpty then 4 else 3,k,(gti n.trans k).label⟩]
theorem zml (n:Net): ∀k,(allA n k).length=k
 |0=>rfl
 |k+1=>by simp[allA,zml n k]
theorem zwl (n:Net): ∀k,(allB n k).length=k
 |0=>rfl
 |k+1=>by simp[allB,zwl n k]
def zeo (n:Net)(w:List ByteArray)(s:List Int)(al:List Stp):Nat→List Stp
 |0=>[]
 |k+1=>zeo n w s al k++if (zbk n w s (gti al k)).2=0 then [gti al k] else []
theorem zpq (n:Net)(w:List ByteArray)(s:List Int)(al:List Stp): ∀k,(zeo n w s al k).length≤k
 |0=>by simp[zeo]
 |k+1=>by
  have:=zpq n w s al k
  have:(if (zbk n w s (gti al k)).2=0 then [gti al k] else []).length≤1:=by split<;>simp
  simp only[zeo,List.length_append]
  omega
def rAll (n:Net)(w:List ByteArray)(p:Int):List Stp:=allA n n.trans.length++zf2 w p++allB n n.trans.length
theorem RdM.lit1E (W:World)(kd tr:Int)(ac:ByteArray)(t:TypeId)(b:Nat)(hb:W.heap.size=b):RdM (W.alloc (.cells #[.int .i64 kd, .int .i64 tr, .string ac] t)) 0 (W.heap.size+1) (.slice (some ⟨b,0,none⟩) 1 1) [⟨kd,tr,ac⟩]:=by
 subst hb
 exact Rd.lit W t [⟨kd,tr,ac⟩] _ 1 J J xe (fun _=>rfl)
theorem zj7 {w:World}{lo hi:Nat}{A:Option Addr}{c m:Nat}{l l':List Stp}{L:List Loc}(h:Mem (Loc.owM lo hi (.slice A m c) l::L) w)(hl:l=l')(hm:m=l'.length):Mem (Loc.owM lo hi (.slice A l'.length c) l'::L) w:=by
 subst hl hm
 exact h
set_option maxRecDepth 100000 in
set_option maxHeartbeats 8000000 in
theorem zw0 (n:Net)(l:List ByteArray)(s:List Int)(vt v vs:Value)(lo hi lo' hi' lo2 hi2:Nat)(w:World)(hv:RdT w lo hi vt n.trans)(hw:RdS w lo' hi' v l)(hs:RdI w lo2 hi2 vs s)(hz:zb1 n l s=true):
  Calls Tryz.prog 94 #[netV n vt,v,vs] w fun e w'=> ∃A c,e= .returned (.slice A (zeo n l s (rAll n l (gti s 0)) (rAll n l (gti s 0)).length).length c)∧RdM w' w.heap.size w'.heap.size (.slice A (zeo n l s (rAll n l (gti s 0)) (rAll n l (gti s 0)).length).length c) (zeo n l s (rAll n l (gti s 0)) (rAll n l (gti s 0)).length)∧Below w.heap.size w w':=by
 obtain⟨A,c,rfl,hc,hmm⟩:=hv.form
 obtain⟨A2,c2,rfl,hc2,hmm2⟩:=hw.form
 obtain⟨A3,c3,rfl,hc3,hmm3⟩:=hs.form
 have HV:=Lib.hid hv
 have HW:=Lib.hid hw
 have HS:=Lib.hid hs
 clear hv hw
 obtain⟨h1,h2,h3,h4,h5⟩:=zda hz
 have hval:n.trans.length≤60:=by
  have:=(zdb.1 hz).2.2.2.2
  unfold zdd at this
  simp only[Bool.and_eq_true] at this
  exact(zbu this.1).2.2
 clear hz
 obtain⟨b,off,rfl,_,_,hcell⟩:=RdI.at1 hs (k:=0) xa
 have hs0:(0:Int)<(s.length:Int):=by omega
 have hs2: ¬s=[]:=by intro e;rw[e] at h1;simp at h1
 have hs3:0<s.length:=h1
 clear hs
 simp only[Nat.add_zero] at hcell
 have HC:=Lib.hid hcell
 clear hcell
 have HAP:=Lib.hid (fun (m:Stp) (W:World) (h:Below w.heap.size w W)=>zk0 n l s m _ _ _ lo hi lo' hi' lo2 hi2 W (HV.out.after h) (HW.out.after h) (HS.out.after h))
 generalize gti s 0=p at*
 obtain⟨kp,rfl⟩: ∃k:Nat,p=k:=⟨p.toNat,by omega⟩
 refine zak fun R hR=>?_
 have HR:=Lib.hid hR
 clear hR
 go_enter Tryz.func94,Tryz.ntmps94
 have M:Hid (Mem [Loc.k4 w.heap.size (.int .i64 n.places) (.slice A n.trans.length c) (.int .i64 n.source) (.int .i64 n.sink),Loc.bl w.heap.size w] (w.alloc (.cells #[.int .i64 n.places, .slice A n.trans.length c, .int .i64 n.source, .int .i64 n.sink] 24))):=Lib.hid ⟨K4.new w _ _ _ _ _,⟨(Below.refl _ _).alloc (Nat.le_refl _) _,by simp⟩,True.intro⟩
 have hk4:=M.out.1
 have hcell:=C1.aft M.out.2.1.1 HC.out
 go_wp2_with fail
 go_loopw [9,7] (fun v9 v7 wr=> ∃ (k:Nat) (B:Option Addr) (d hh:Nat),k≤n.trans.length∧v9= .int .i64 k∧v7= .slice B (allA n k).length d∧hh≤wr.heap.size∧Hid (Mem [Loc.owM (w.heap.size+1) hh (.slice B (allA n k).length d) (allA n k),Loc.k4 w.heap.size (.int .i64 n.places) (.slice A n.trans.length c) (.int .i64 n.source) (.int .i64 n.sink),Loc.bl w.heap.size w] wr)) (fun v9 _ _=>n.trans.length-(intOf v9).toNat)
 case atStart=>exact⟨0,none,0,0,by omega,rfl,rfl,by omega,Lib.hid ⟨Own.nil _ _ _,M.out.1,M.out.2.1,True.intro⟩⟩
 case round =>
  clear M hk4 hcell
  obtain⟨k,B,d,hh,hk,rfl,rfl,hhs,M⟩:=hrel
  have hk4:=M.out.2.1
  have hz0:=M.out.2.1.2.2.2.2
  by_cases hlt:k<n.trans.length
  ·
   obtain⟨b4,off4,vi,vo,rfl,_,_,hct,hri,hro⟩:=RdT.at3 (HV.out.after M.out.2.2.1.1) hlt
   have HA:Hid (allA n k++[⟨1,k,(gti n.trans k).label⟩]=allA n (k+1)):=Lib.hid J
   have hal:=zml n k
   have HAL:=Lib.hid hal
   have HAL1:=Lib.hid (zml n (k+1))
   have hll:(allA n k).length≤60:=by omega
   clear hal
   generalize allA n k=al at*
   generalize gti n.trans k=x at*
   go_wp2_with (at_builtin;refine zcz J _ _ J zg8 (fun _=>rfl) oneM J J (M.out.alloc _) (by(repeat' (first|exact True.intro|refine And.intro (fun k hk e=>?_) ?_))<;>(first|exact e|((try dsimp only[Loc.c1,Loc.c2,Loc.k1,Loc.k2,Loc.k3,Loc.k4,Loc.k6,Loc.fr,Loc.bl,Loc.own,Loc.sz,Loc.rd,Loc.rdI,Loc.rdS,Loc.rdM,Loc.rdT,Loc.ow,Loc.owI,Loc.owM] at hk e)<;>omega))) (RdM.lit1E _ _ _ _ _ _ J) (by first|omega|(simp;done)|(simp;omega)) (by first|omega|(simp;done)|(simp;omega)) (by first|omega|(simp;done)|(simp;omega)) ?_;intro A1 c1 w1 hM1 hs1 hch1;replace M:=Lib.hid hM1;clear hM1 hch1)
   exact⟨⟨k+1,A1,c1,w1.heap.size,by omega,by go_num,by first|(rw[HAL1.out,HAL.out];done)|(rw[HAL1.out,HAL.out];rfl),Nat.le_refl _,Lib.hid (zj7 M.out HA.out (by first|(rw[HAL1.out,HAL.out];done)|(rw[HAL1.out,HAL.out];rfl)))⟩,by simp[intOf];omega⟩
  ·
   obtain rfl:k=n.trans.length:=by omega
   have hal:=zml n n.trans.length
   have hcell:=C1.aft M.out.2.2.1.1 HC.out
   have hll:(allA n n.trans.length).length≤60:=by omega
   have HAL:=Lib.hid hal
   clear hal
   have HRA:Hid (rAll n l kp=(allA n n.trans.length++zf2 l kp)++allB n n.trans.length):=Lib.hid J
   generalize allA n n.trans.length=al at*
   go_upto_if 40 with (fail)
   go_cut [7] (fun v7 wx=> ∃ (B:Option Addr) (d hh:Nat),v7= .slice B (al++zf2 l kp).length d∧hh≤wx.heap.size∧Hid (Mem [Loc.owM (w.heap.size+1) hh (.slice B (al++zf2 l kp).length d) (al++zf2 l kp),Loc.k4 w.heap.size (.int .i64 n.places) (.slice A n.trans.length c) (.int .i64 n.source) (.int .i64 n.sink),Loc.bl w.heap.size w] wx))
   case first=>
    by_cases hp:kp<l.length
    ·
     have hpi:(kp:Int)<l.length:=by omega
     obtain⟨b5,off5,rfl,_,_,hce5⟩:=RdS.at1 (HW.out.after M.out.2.2.1.1) hp
     have HLG:Hid (zf2 l kp=[⟨2, -1,gti l kp⟩]):=Lib.hid (by unfold zf2;rw[if_pos hpi];simp)
     generalize gti l kp=x5 at*
     go_wp2_with (at_builtin;refine zcz J _ _ J zg8 (fun _=>rfl) oneM J J (M.out.alloc _) (by(repeat' (first|exact True.intro|refine And.intro (fun k hk e=>?_) ?_))<;>(first|exact e|((try dsimp only[Loc.c1,Loc.c2,Loc.k1,Loc.k2,Loc.k3,Loc.k4,Loc.k6,Loc.fr,Loc.bl,Loc.own,Loc.sz,Loc.rd,Loc.rdI,Loc.rdS,Loc.rdM,Loc.rdT,Loc.ow,Loc.owI,Loc.owM] at hk e)<;>omega))) (RdM.lit1E _ _ _ _ _ _ J) (by first|omega|(simp;done)|(simp;omega)) (by first|omega|(simp;done)|(simp;omega)) (by first|omega|(simp;done)|(simp;omega)) ?_;intro A1 c1 w1 hM1 hs1 hch1;replace M:=Lib.hid hM1;clear hM1 hch1)
     go_meet
     rw[HLG.out]
     exact⟨A1,c1,w1.heap.size,by rw[List.length_append];rfl,Nat.le_refl _,Lib.hid (zj7 M.out J (by rw[List.length_append]))⟩
    ·
     have hpi: ¬ (kp:Int)<l.length:=by omega
     have HLG:Hid (zf2 l kp=[]):=Lib.hid (by unfold zf2;rw[if_neg hpi])
     go_wp2_with fail
     go_meet
     rw[HLG.out,List.append_nil]
     exact⟨B,d,hh,rfl,hhs,M⟩
   case rest =>
    have hlo:=znj l kp
    generalize zf2 l kp=lg at*
    clear M hk4 hcell hz0 hhs
    obtain⟨B,d,hh,rfl,hhs,M⟩:=hcut
    have hk4:=M.out.2.1
    have ha0:(al++lg).length≤61:=by rw[List.length_append];omega
    generalize al++lg=a0 at*
    go_wp2_with fail
    go_loopw [10,7,11] (fun v10 v7 _ wr=> ∃ (k:Nat) (B:Option Addr) (d hh:Nat),k≤n.trans.length∧v10= .int .i64 k∧v7= .slice B (a0++allB n k).length d∧hh≤wr.heap.size∧Hid (Mem [Loc.owM (w.heap.size+1) hh (.slice B (a0++allB n k).length d) (a0++allB n k),Loc.k4 w.heap.size (.int .i64 n.places) (.slice A n.trans.length c) (.int .i64 n.source) (.int .i64 n.sink),Loc.bl w.heap.size w] wr)) (fun v10 _ _ _=>n.trans.length-(intOf v10).toNat)
    case atStart=>exact⟨0,B,d,hh,by omega,rfl,by simp[allB],hhs,by simpa[allB] using M⟩
    case round=>
     clear M hk4 hhs
     obtain⟨k,B,d,hh,hk,rfl,rfl,hhs,M⟩:=hrel
     have hk4:=M.out.2.1
     have hz0:=M.out.2.1.2.2.2.2
     have hbl:=zwl n k
     have hcl:(a0++allB n k).length≤121:=by rw[List.length_append];omega
     by_cases hlt:k<n.trans.length
     ·
      obtain⟨b4,off4,vi,vo,rfl,_,_,hct,hri,hro⟩:=RdT.at3 (HV.out.after M.out.2.2.1.1) hlt
      have HA:Hid ((a0++allB n k)++[⟨if (gti n.trans k).label.toList.isEmpty then 4 else 3,k,(gti n.trans k).label⟩]=a0++allB n (k+1)):=Lib.hid (by rw[allB,List.append_assoc])
      generalize a0++allB n k=al2 at*
      generalize gti n.trans k=x at*
      have HAL:Hid ((a0++allB n (k+1)).length=al2.length+1):=Lib.hid (by rw[←HA.out,List.length_append];rfl)
      obtain⟨ze,hze⟩: ∃z,x.label.toList.isEmpty=z:=⟨_,rfl⟩
      rw[hze] at HA
      cases ze
      all_goals
       simp only[Bool.false_eq_true,if_false,if_true] at HA
       go_wp2_with (at_builtin;refine zcz J _ _ J zg8 (fun _=>rfl) oneM J J ((M.out.alloc _).alloc _) (by(repeat' (first|exact True.intro|refine And.intro (fun k hk e=>?_) ?_))<;>(first|exact e|((try dsimp only[Loc.c1,Loc.c2,Loc.k1,Loc.k2,Loc.k3,Loc.k4,Loc.k6,Loc.fr,Loc.bl,Loc.own,Loc.sz,Loc.rd,Loc.rdI,Loc.rdS,Loc.rdM,Loc.rdT,Loc.ow,Loc.owI,Loc.owM] at hk e)<;>omega))) (RdM.lit1E _ _ _ _ _ _ (by first|rfl|simp)) (by first|omega|(simp;done)|(simp;omega)) (by first|omega|(simp;done)|(simp;omega)) (by first|omega|(simp;done)|(simp;omega)) ?_;intro A1 c1 w1 hM1 hs1 hch1;replace M:=Lib.hid hM1;clear hM1 hch1)
       exact⟨⟨k+1,A1,c1,w1.heap.size,by omega,by go_num,by first|(rw[HAL.out];done)|(rw[HAL.out];rfl),Nat.le_refl _,Lib.hid (zj7 M.out HA.out (by first|(rw[HAL.out];done)|(rw[HAL.out];rfl)))⟩,by simp[intOf];omega⟩
     ·
      obtain rfl:k=n.trans.length:=by omega
      rw[←HRA.out] at M hcl
      have hra:=HRA.out
      generalize rAll n l kp=ra at*
      rw[←hra]
      clear HRA hra hbl
      obtain⟨N3,hN3⟩: ∃N,N=wr.heap.size:=⟨_,rfl⟩
      have M3:Hid (Mem [Loc.rdM (w.heap.size+1) N3 (.slice B ra.length d) ra,Loc.k4 w.heap.size (.int .i64 n.places) (.slice A n.trans.length c) (.int .i64 n.source) (.int .i64 n.sink),Loc.bl w.heap.size w,Loc.sz N3] wr):=Lib.hid ⟨M.out.1.rd.mono (Nat.le_refl _) xa,M.out.2.1,M.out.2.2.1,by rw[hN3];exact Nat.le_refl _,True.intro⟩
      have hNz:w.heap.size<N3:=by omega
      clear M hhs hN3
      go_wp2_with fail
      go_loopw [13,12,14,15] (fun v13 v12 _ _ wr=> ∃ (k:Nat) (B2:Option Addr) (d2 hh2:Nat),k≤ra.length∧v13= .int .i64 k∧v12= .slice B2 (zeo n l s ra k).length d2∧hh2≤wr.heap.size∧Hid (Mem [Loc.owM N3 hh2 (.slice B2 (zeo n l s ra k).length d2) (zeo n l s ra k),Loc.rdM (w.heap.size+1) N3 (.slice B ra.length d) ra,Loc.k4 w.heap.size (.int .i64 n.places) (.slice A n.trans.length c) (.int .i64 n.source) (.int .i64 n.sink),Loc.bl w.heap.size w,Loc.sz N3] wr)) (fun v13 _ _ _ _=>ra.length-(intOf v13).toNat)
      case atStart=>exact⟨0,none,0,0,by omega,rfl,rfl,by omega,Lib.hid ⟨Own.nil _ _ _,M3.out⟩⟩
      case round=>
       clear M3 hk4 hz0
       obtain⟨k,B2,d2,hh2,hk,rfl,rfl,hhs,M⟩:=hrel
       have hk4:=M.out.2.2.1
       have hz0:=M.out.2.2.1.2.2.2.2
       have hzn:=M.out.2.2.2.2.1
       by_cases hlt:k<ra.length
       ·
        obtain⟨b6,off6,rfl,_,_,hc6⟩:=RdM.at3 M.out.2.1 hlt
        have HF:Hid (zeo n l s ra k++(if (zbk n l s (gti ra k)).2=0 then [gti ra k] else [])=zeo n l s ra (k+1)):=Lib.hid J
        have hfl:=zpq n l s ra k
        have hfl2:(zeo n l s ra k).length≤121:=by omega
        have HAPk:=Lib.hid (HAP.out (gti ra k))
        obtain⟨⟨fl,fe⟩,hfe⟩: ∃r,zbk n l s (gti ra k)=r:=⟨_,rfl⟩
        rw[hfe] at HF HAPk
        dsimp only at HF
        clear hfe
        generalize zeo n l s ra k=fk at*
        generalize gti ra k=x at*
        obtain⟨kd,tr,ac⟩:=x
        simp only at hc6
        have hkb:(k:Int)<ra.length:=by omega
        have hkd:decide ((k:Int)<(ra.length:Int))=true:=by simp;omega
        have hk0:(0:Int)≤k:=by omega
        have HC6:=Lib.hid hc6
        by_cases he0:fe=0
        ·
         subst he0
         rw[if_pos J] at HF
         have HFL:Hid ((zeo n l s ra (k+1)).length=fk.length+1):=Lib.hid (by rw[←HF.out,List.length_append];rfl)
         go_wp2_with fail
         go_region_held3 (fun W=>K4 W w.heap.size (.int .i64 n.places) (.slice A n.trans.length c) (.int .i64 n.source) (.int .i64 n.sink)∧C3 W b6 (off6+k*3) (.int .i64 kd) (.int .i64 tr) (.string ac)) (exact⟨hk4,hc6⟩) (first
          |(go_at_call 28;refine(HAPk.out _ (by first|exact M.out.2.2.2.1.1|exact M.out.drew.2.2.2.1.1)).mono ?_;rintro e w9 ⟨A9,c9,rfl,hr9,hb9⟩;have hz9:wr.heap.size≤w9.heap.size:=hb9.size;replace hc6:=C3.aft (by first|exact hb9|exact(Below.refl _ _).drew.trans hb9) hc6;replace M:=Lib.hid (Mem.below (by first|exact M.out|exact M.out.drew) hb9);clear hb9 hr9;dsimp only;replace hk4:=M.out.2.2.1;replace hzn:=M.out.2.2.2.2.1;replace hz0:=M.out.2.2.1.2.2.2.2))
         all_goals
          go_wp2_with (at_builtin;refine zcz J _ _ J zg8 (fun _=>rfl) oneM J J (M.out.alloc _) (by(repeat' (first|exact True.intro|refine And.intro (fun k hk e=>?_) ?_))<;>(first|exact e|((try dsimp only[Loc.c1,Loc.c2,Loc.k1,Loc.k2,Loc.k3,Loc.k4,Loc.k6,Loc.fr,Loc.bl,Loc.own,Loc.sz,Loc.rd,Loc.rdI,Loc.rdS,Loc.rdM,Loc.rdT,Loc.ow,Loc.owI,Loc.owM] at hk e)<;>omega))) (RdM.lit1E _ _ _ _ _ _ (by first|rfl|simp)) (by first|omega|(simp;done)|(simp;omega)) (by first|omega|(simp;done)|(simp;omega)) (by first|omega|(simp;done)|(simp;omega)) ?_;intro A1 c1 w1 hM1 hs1 hch1;replace M:=Lib.hid hM1;clear hM1 hch1)
          have hk1:k+1≤ra.length:=by omega
          have e12:Value.slice A1 (fk.length+1) c1= .slice A1 (zeo n l s ra (k+1)).length c1:=by rw[HFL.out]
          have hki:Value.int .i64 ((k:Int)+1)= .int .i64 ((k+1:Nat):Int):=by go_num
          have hT:=Lib.hid (zj7 M.out HF.out (by rw[HFL.out];rfl))
          first
           |exact⟨⟨k+1,A1,c1,w1.heap.size,hk1,hki,e12,Nat.le_refl _,hT⟩,by simp[intOf];omega⟩
           |
            (go_roundw
             case rel=>(first|exact⟨k+1,A1,c1,w1.heap.size,hk1,hki,e12,Nat.le_refl _,hT⟩|((repeat apply Exists.intro);exact⟨⟨k+1,A1,c1,w1.heap.size,hk1,hki,e12,Nat.le_refl _,hT⟩,rfl⟩))
             case measure=>simp[intOf];omega)
        ·
         rw[if_neg he0,List.append_nil] at HF
         have be0:(fe==0)=false:=by simpa using he0
         go_wp2_with fail
         go_region_held3 (fun W=>K4 W w.heap.size (.int .i64 n.places) (.slice A n.trans.length c) (.int .i64 n.source) (.int .i64 n.sink)∧C3 W b6 (off6+k*3) (.int .i64 kd) (.int .i64 tr) (.string ac)) (exact⟨hk4,hc6⟩) (first
          |(go_at_call 28;refine(HAPk.out _ (by first|exact M.out.2.2.2.1.1|exact M.out.drew.2.2.2.1.1)).mono ?_;rintro e w9 ⟨A9,c9,rfl,hr9,hb9⟩;have hz9:wr.heap.size≤w9.heap.size:=hb9.size;replace hc6:=C3.aft (by first|exact hb9|exact(Below.refl _ _).drew.trans hb9) hc6;replace M:=Lib.hid (Mem.below (by first|exact M.out|exact M.out.drew) hb9);clear hb9 hr9;dsimp only;replace hk4:=M.out.2.2.1;replace hzn:=M.out.2.2.2.2.1;replace hz0:=M.out.2.2.1.2.2.2.2))
         all_goals
          go_wp2_with fail
          have hk1:k+1≤ra.length:=by omega
          have e12:Value.slice B2 fk.length d2= .slice B2 (zeo n l s ra (k+1)).length d2:=by rw[←HF.out]
          have hki:Value.int .i64 ((k:Int)+1)= .int .i64 ((k+1:Nat):Int):=by go_num
          have hT:=Lib.hid (zj7 M.out HF.out (by rw[HF.out]))
          have hhn:hh2≤w9.heap.size:=by omega
          first
           |exact⟨⟨k+1,B2,d2,hh2,hk1,hki,e12,hhn,hT⟩,by simp[intOf];omega⟩
           |
            (go_roundw
             case rel=>(first|exact⟨k+1,B2,d2,hh2,hk1,hki,e12,hhn,hT⟩|((repeat apply Exists.intro);exact⟨⟨k+1,B2,d2,hh2,hk1,hki,e12,hhn,hT⟩,rfl⟩))
             case measure=>simp[intOf];omega)
       ·
        obtain rfl:k=ra.length:=by omega
        go_wp2_with fail
        exact HR.out _ _ ⟨B2,d2,rfl,M.out.1.rd.mono xa hhs,M.out.2.2.2.1.1⟩
end
section
open Go.RowKit
def canB (n:Net)(w:List ByteArray)(s:List Int)(m:Stp):Bool:=decide ((zbk n w s m).2=0)
theorem znv (n:Net)(w:List ByteArray)(s:List Int)(al:List Stp): ∀k,k≤al.length→zeo n w s al k=(al.take k).filter (canB n w s)
 |0,_=>by simp[zeo]
 | k+1,h=>by
  have:al.take (k+1)=al.take k++[gti al k]:=by
   rw[List.take_succ_eq_append_getElem xa]
   unfold gti
   rw[List.getElem?_eq_getElem xa]
   rfl
  rw[zeo,znv n w s al k xa,this,List.filter_append]
  congr 1
  unfold canB
  by_cases hc:(zbk n w s (gti al k)).2=0<;>simp[hc]
theorem z4k {s:ByteArray}(h:s.toList.isEmpty=true):s=ByteArray.empty:=by
 by_cases he:s=ByteArray.empty
 ·
  exact he
 ·
  rw[zxg he] at h;cases h
section
variable {n:Net}{w:List ByteArray}{s:List Int}(hz:zb1 n w s=true)
include hz
theorem z12 {m:Stp}(hk:zfl m.kind=true):canB n w s m=decide ((zdt n w s m).2=0):=by
 unfold canB zbk
 rw[hz,hk]
 rfl
theorem z40 {k:Nat}(hk:k<n.trans.length):canB n w s ⟨1,k,(gti n.trans k).label⟩=(zqq n (s.drop 1) k && (!(gti n.trans k).label.toList.isEmpty && atB w (gti s 0) (gti n.trans k).label)):=by
 rw[z12 hz (by rfl)]
 unfold zdt zqq
 simp only[Int.toNat_natCast]
 generalize List.drop 1 s=tl
 rw[if_neg xe,if_neg xa]
 cases he:(gti n.trans k).label.toList.isEmpty<;>cases ha:atB w (gti s 0) (gti n.trans k).label<;>by_cases hf:(zen n tl k).2=0<;>simp[hf]
theorem z11 {k:Nat}(hk:k<n.trans.length):canB n w s ⟨if (gti n.trans k).label.toList.isEmpty then 4 else 3,k,(gti n.trans k).label⟩=zqq n (s.drop 1) k:=by
 rw[z12 hz (by split<;>rfl)]
 unfold zdt zqq
 simp only[Int.toNat_natCast]
 generalize List.drop 1 s=tl
 cases he:(gti n.trans k).label.toList.isEmpty
 ·
  simp only[Bool.false_eq_true,if_false]
  rw[if_neg xe,if_neg xa]
  by_cases hf:(zen n tl k).2=0<;>simp[hf]
 ·
  simp only[if_true]
  rw[if_neg xe,if_neg xa]
  by_cases hf:(zen n tl k).2=0<;>simp[hf]
theorem z8y (hp:gti s 0<w.length):canB n w s ⟨2, -1,gti w (gti s 0).toNat⟩=true:=by
 obtain⟨h1,h2,h3,h4,h5⟩:=zdb.1 hz
 rw[z12 hz (by rfl)]
 unfold zdt
 have hn:zf9 (gti w (gti s 0).toNat)=true:=by
  unfold zd0 at h1
  simp only[Bool.and_eq_true,List.all_eq_true] at h1
  exact h1.2 _ (gti_mem xa)
 have ha:atB w (gti s 0) (gti w (gti s 0).toNat)=true:=by unfold atB;simp[hp]
 simp[hn,ha]
theorem zsj: ∀k,k≤n.trans.length→(allA n k).filter (canB n w s)=zdv n w (gti s 0) (s.drop 1) k
 |0,_=>rfl
 |k+1,h=>by
  rw[allA,zdv,List.filter_append,zsj k xa]
  congr 1
  unfold zu7
  rw[←z40 hz xa]
  cases hc:canB n w s ⟨1,k,(gti n.trans k).label⟩<;>simp[hc]
theorem zpp: ∀k,k≤n.trans.length→(allB n k).filter (canB n w s)=zcu n (s.drop 1) k
 |0,_=>rfl
 | k+1,h=>by
  rw[allB,zcu,List.filter_append,zpp k xa]
  congr 1
  unfold zqh
  have hm:=z11 hz (k:=k) xa
  rw[←hm]
  cases he:(gti n.trans k).label.toList.isEmpty
  ·
   rw[he] at hm
   simp only[Bool.false_eq_true,if_false] at hm⊢
   cases hc:canB n w s ⟨3,k,(gti n.trans k).label⟩<;>simp[hc]
  ·
   rw[he] at hm
   simp only[if_true] at hm⊢
   rw[z4k he]
   cases hc:canB n w s ⟨4,k,ByteArray.empty⟩<;>simp[hc]
theorem zpd:zeo n w s (rAll n w (gti s 0)) (rAll n w (gti s 0)).length=zb8 n w s:=by
 rw[znv n w s _ _ (Nat.le_refl _),List.take_length]
 unfold rAll zb8
 rw[List.filter_append,List.filter_append,zsj hz _ (Nat.le_refl _),zpp hz _ (Nat.le_refl _),List.append_assoc]
 congr 2
 unfold zf2
 split
 ·
  rename_i hp
  simp[z8y hz hp]
 ·
  rfl
end
end
namespace Dl
open Go.RowKit
def nxD (n:Net)(w:List ByteArray)(c:Cst)(s:List Int):List (List Int × Int):=(zb8 n w s).map fun m=>((zbk n w s m).1,zbf c m.kind)
def okS (n:Net)(w:List ByteArray)(s:List Int):Prop:=zb1 n w s=true
theorem okS.valid {n:Net}{w:List ByteArray}{s:List Int}(h:okS n w s):zb7 n=true∧zd0 w=true:=by
 obtain⟨h1,_,_,_,h5⟩:=zdb.1 h
 unfold zdd at h5
 simp only[Bool.and_eq_true] at h5
 exact⟨h5.1,h1⟩
theorem okS.len {n:Net}{w:List ByteArray}{s:List Int}(h:okS n w s):1≤s.length∧s.length≤41∧(s.length:Int)=n.places+1:=by
 obtain⟨_,h2,_,_,h5⟩:=zdb.1 h
 have:=zr5 h5
 rw[List.length_drop] at this
 omega
theorem okS.small {n:Net}{w:List ByteArray}{s:List Int}(h:okS n w s): ∀x∈s,0≤x∧x≤255:=by
 obtain⟨h1,h2,h3,h4,h5⟩:=zdb.1 h
 have h6:=(zda h).2.2.2.2
 intro x hx
 match s,h2,hx,h3,h4,h5 with
 | a::t,_,hx,h3,h4,h5=>
  have e0:gti (a::t) 0=a:=rfl
  rw[e0] at h3 h4
  rcases List.mem_cons.1 hx with rfl|hx
  ·
   omega
  ·
   exact znh h5 x hx
theorem okS.ne {n:Net}{w:List ByteArray}{s:List Int}(h:okS n w s):s≠[]:=fun e=>by have:=h.len;rw[e] at this;simp at this
theorem zka {n:Net}{w:List ByteArray}{s:List Int}{m:Stp}(h:okS n w s)(hm:m∈zb8 n w s):(zbk n w s m).2=0∧zfl m.kind=true∧okS n w (zbk n w s m).1:=by
 rw[←zpd h,znv n w s _ _ (Nat.le_refl _),List.take_length] at hm
 have h1:=(List.mem_filter.1 hm).2
 have h2:(zbk n w s m).2=0:=by unfold canB at h1;exact of_decide_eq_true h1
 have h3:zfl m.kind=true:=by
  cases hk:zfl m.kind with
  |true=>rfl
  |false=>unfold zbk at h2;rw[hk] at h2;simp at h2
 refine⟨h2,h3,?_⟩
 rw[zol h h3] at h2⊢
 exact zjt h h2
theorem zh3 {n:Net}{w:List ByteArray}{s:List Int}(h:okS n w s):(zb8 n w s).length≤200:=by
 have h1:=zbu h.valid.1
 have h2:=zie n w (gti s 0) (s.drop 1) n.trans.length
 have h3:=zhf n (s.drop 1) n.trans.length
 have h4:=znj w (gti s 0)
 unfold zb8
 simp only[List.length_append]
 omega
theorem zr0 {n:Net}{w:List ByteArray}{c:Cst}(hc:vcB c=true):NxOk (nxD n w c) (okS n w):=by
 refine⟨fun x hx r hr=>?_,fun x hx=>?_⟩
 ·
  obtain⟨m,hm,rfl⟩:=List.mem_map.1 hr
  exact⟨(zka hx hm).2.2,zin hc m.kind⟩
 ·
  unfold nxD;rw[List.length_map];have:=zh3 hx;omega
theorem z5t {n:Net}{w:List ByteArray}(h1:zb7 n=true)(h2:zd0 w=true)(p:Int)(q:Int)(hq:0≤q∧q≤w.length):okS n w (q::oneL n.places.toNat p):=by
 refine zdb.2 ⟨h2,by simp,hq.1,hq.2,?_⟩
 show zdd n (oneL n.places.toNat p)=true
 unfold zdd
 rw[h1,zna p (zbu h1).1];rfl
theorem zhb {n:Net}{w:List ByteArray}(h:(zb0 n w).2=0):zb7 n=true∧zd0 w=true∧zb0 n w=((0:Int)::oneL n.places.toNat n.source,0)∧endE n w=((w.length:Int)::oneL n.places.toNat n.sink,0)∧okS n w (zb0 n w).1∧okS n w (endE n w).1:=by
 unfold zb0 at h⊢
 unfold endE
 cases h1:zb7 n with
 |false=>rw[h1] at h;simp at h
 | true=>
  cases h2:zd0 w with
  |false=>rw[h1,h2] at h;simp at h
  |true=>
   have e:(true && true)=true:=rfl
   rw[if_pos e,if_pos e]
   exact⟨rfl,rfl,rfl,rfl,z5t h1 h2 _ _ ⟨by omega,by omega⟩,z5t h1 h2 _ _ ⟨by omega,by omega⟩⟩
theorem z4u {c:Cst}{m:Stp}(hc:vcB c=true)(hk:zfl m.kind=true):zi0 c [m]=(zbf c m.kind,0):=by
 have hf:fineB [m]=true:=by simp[fineB,hk]
 have hg:gti [m] 0=m:=rfl
 unfold zi0
 rw[hc,hf]
 show(zcr c [m] 1,(0:Int))=_
 unfold zcr zcr
 rw[hg,Int.zero_add]
end Dl
namespace Dl
open Go.RowKit
def zSr:Sr:=⟨[],[],[],[],[]⟩
section
variable (n:Net)(w:List ByteArray)(c:Cst)(most:Int)
def rlxP (x:Nat)(cx:Int):List Stp→Sr × List En→Sr × List En
 |[],s=>s
 | m::l,s=>rlxP x cx l (metE s.1 (zbk n w (gti s.1.st x) m).1 (cx+zbf c m.kind) x m,
   if chpE s.1 (zbk n w (gti s.1.st x) m).1 (cx+zbf c m.kind) then zix s.2 (cx+zbf c m.kind,(idx s.1.st (zbk n w (gti s.1.st x) m).1:Int)) else s.2)
def runP (goal:List Int):Nat→Sr→List En→Int→Int→Sr × Int × Int
 |0,S,q,fd,nr=>(S,0,99)
 | f+1,S,q,fd,nr=>
  if q.length=0 then(if fd<0 then(zSr,0,10) else(S,fd,0))
  else if gti S.dn (gti q 0).2.toNat=true then runP goal f S ((popD q).take (q.length-1)) fd nr
  else if 0≤fd∧gti S.co fd.toNat<(gti q 0).1 then(S,fd,0)
  else if most<nr+1 then(zSr,0,13)
  else runP goal f (rlxP n w c (gti q 0).2.toNat (gti q 0).1 (zb8 n w (gti S.st (gti q 0).2.toNat)) ({S with dn:=S.dn.set (gti q 0).2.toNat true},(popD q).take (q.length-1))).1
   (rlxP n w c (gti q 0).2.toNat (gti q 0).1 (zb8 n w (gti S.st (gti q 0).2.toNat)) ({S with dn:=S.dn.set (gti q 0).2.toNat true},(popD q).take (q.length-1))).2
   (if gti S.st (gti q 0).2.toNat=goal then(gti q 0).2 else fd) (nr+1)
end
section
variable {n:Net}{w:List ByteArray}{c:Cst}{most:Int}{s0 goal:List Int}
structure QI (S:Sr)(q:List En)(b:Int):Prop where
 hp:Hp q q.length
 en: ∀e∈q,0≤e.2∧e.2.toNat<S.st.length∧gti S.co e.2.toNat≤e.1∧0≤e.1∧e.1≤b
 cv: ∀k,k<S.st.length→gti S.dn k=false→(gti S.co k,(k:Int))∈q
 cb: ∀k,k<S.st.length→0≤gti S.co k∧gti S.co k≤b
theorem QI.mono {S:Sr}{q:List En}{b b':Int}(h:QI S q b)(hb:b≤b'):QI S q b':=
 ⟨h.hp,fun e he=>by have:=h.en e he;exact⟨this.1,this.2.1,this.2.2.1,this.2.2.2.1,by omega⟩,h.cv,fun k hk=>by have:=h.cb k hk;omega⟩
theorem z5w {S:Sr}{q:List En}{cx b:Int}{x:Nat}{pr:List (List Int × Int)}{nx:List Int→List (List Int × Int)}{okS:List Int→Prop}(h:DR nx s0 okS S cx x pr)(hq:QI S q b){e:List Int × Int}(h0:0≤e.2)(hb:cx+e.2≤b)(hx0:0≤cx)(f:Int)(m:Stp):
  QI (metE S e.1 (cx+e.2) f m) (if chpE S e.1 (cx+e.2) then zix q (cx+e.2,(idx S.st e.1:Int)) else q) b∧
   (if chpE S e.1 (cx+e.2) then zix q (cx+e.2,(idx S.st e.1:Int)) else q).length≤q.length+1∧(metE S e.1 (cx+e.2) f m).st.length≤S.st.length+1:=by
 unfold metE chpE
 by_cases hf:zek S.st e.1<0
 ·
  rw[if_pos hf,decide_eq_true hf,Bool.true_or,if_pos J,zty hf]
  have gc: ∀k,k<S.st.length→gti (S.co++[cx+e.2]) k=gti S.co k:=fun k hk=>zcj (by rw[h.l1];exact hk)
  have gd: ∀k,k<S.st.length→gti (S.dn++[false]) k=gti S.dn k:=fun k hk=>zcj (by rw[h.l2];exact hk)
  have gc1:gti (S.co++[cx+e.2]) S.st.length=cx+e.2:=by rw[←h.l1];exact zef
  have hcase: ∀k,k<(S.st++[e.1]).length→k<S.st.length∨k=S.st.length:=fun k hk=>by rw[List.length_append,List.length_singleton] at hk;omega
  refine⟨⟨zzi hq.hp,fun y hy=>?_,fun k hk hd=>?_,fun k hk=>?_⟩,by rw[zim];exact Nat.le_refl _,by simp⟩
  ·
   show 0≤y.2∧y.2.toNat<(S.st++[e.1]).length∧gti (S.co++[cx+e.2]) y.2.toNat≤y.1∧0≤y.1∧y.1≤b
   rw[List.length_append,List.length_singleton]
   rcases zil.1 hy with hy|rfl
   ·
    have:=hq.en y hy
    rw[gc _ this.2.1]
    exact⟨this.1,by omega,this.2.2⟩
   ·
    refine⟨by show(0:Int)≤(S.st.length:Int);omega,by show((S.st.length:Int)).toNat<_;omega,?_,by show(0:Int)≤cx+e.2;omega,hb⟩
    show gti (S.co++[cx+e.2]) ((S.st.length:Int)).toNat≤cx+e.2
    rw[Int.toNat_natCast,gc1];exact Int.le_refl _
  ·
   replace hd:gti (S.dn++[false]) k=false:=hd
   show(gti (S.co++[cx+e.2]) k,(k:Int))∈_
   rcases hcase k hk with h1|h1
   ·
    rw[gd k h1] at hd
    rw[gc k h1]
    exact zil.2 (.inl (hq.cv k h1 hd))
   ·
    subst h1;rw[gc1];exact zil.2 (.inr rfl)
  ·
   show 0≤gti (S.co++[cx+e.2]) k∧gti (S.co++[cx+e.2]) k≤b
   rcases hcase k hk with h1|h1
   ·
    rw[gc k h1];exact hq.cb k h1
   ·
    subst h1;rw[gc1];omega
 ·
  obtain⟨p1,p2,p3⟩:=zh4 hf
  rw[if_neg hf,decide_eq_false hf,Bool.false_or]
  generalize idx S.st e.1=i at p1 p2 p3
  by_cases hlt:cx+e.2<gti S.co i
  ·
   rw[if_pos hlt,decide_eq_true hlt,if_pos J]
   have gc: ∀k,gti (S.co.set i (cx+e.2)) k=if i=k then cx+e.2 else gti S.co k:=fun k=>zkd _ _ _ _ (by rw[h.l1];exact p2)
   refine⟨⟨zzi hq.hp,fun y hy=>?_,fun k hk hd=>?_,fun k hk=>?_⟩,by rw[zim];exact Nat.le_refl _,Nat.le_succ _⟩
   ·
    show 0≤y.2∧y.2.toNat<S.st.length∧gti (S.co.set i (cx+e.2)) y.2.toNat≤y.1∧0≤y.1∧y.1≤b
    rw[gc]
    rcases zil.1 hy with hy|rfl
    ·
     have:=hq.en y hy
     refine⟨this.1,this.2.1,?_,this.2.2.2⟩
     split
     ·
      rename_i h1;rw[←h1] at this;omega
     ·
      exact this.2.2.1
    ·
     exact⟨by show(0:Int)≤(i:Int);omega,by show((i:Int)).toNat<_;omega,by show(if i=((i:Int)).toNat then _ else _)≤cx+e.2;rw[if_pos xa];exact Int.le_refl _,by show(0:Int)≤cx+e.2;omega,hb⟩
   ·
    show(gti (S.co.set i (cx+e.2)) k,(k:Int))∈_
    rw[gc]
    split
    ·
     rename_i h1;subst h1;exact zil.2 (.inr rfl)
    ·
     exact zil.2 (.inl (hq.cv k hk hd))
   ·
    show 0≤gti (S.co.set i (cx+e.2)) k∧gti (S.co.set i (cx+e.2)) k≤b
    rw[gc]
    split
    ·
     omega
    ·
     exact hq.cb k hk
  ·
   rw[if_neg hlt,decide_eq_false hlt,if_neg xe]
   exact⟨hq,Nat.le_succ _,Nat.le_succ _⟩
theorem ztk {s:List Int}{m:Stp}(h:m∈zb8 n w s):((zbk n w s m).1,zbf c m.kind)∈nxD n w c s:=by unfold nxD;exact List.mem_map.2 ⟨m,h,rfl⟩
theorem zyt (hc:vcB c=true){x:Nat}{cx b:Int}(hx0:0≤cx)(hb:cx+1000≤b){D:List (List Int)}: ∀ (l:List Stp) (S:Sr) (q:List En) (pr:List (List Int × Int)),(∀m∈l,m∈zb8 n w (gti S.st x))→DR (nxD n w c) s0 (okS n w) S cx x pr→QI S q b→Dn S D→
  let r:=rlxP n w c x cx l (S,q)
  DR (nxD n w c) s0 (okS n w) r.1 cx x (pr++l.map fun m=>((zbk n w (gti S.st x) m).1,zbf c m.kind))∧QI r.1 r.2 b∧Dn r.1 D∧Le S r.1∧r.2.length≤q.length+l.length∧r.1.st.length≤S.st.length+l.length
 |[],S,q,pr,_,h,hq,hD=>⟨by show DR _ _ _ S cx x _;rw[List.map_nil,List.append_nil];exact h,hq,hD,⟨Nat.le_refl _,fun _ _=>rfl,fun _ _=>Int.le_refl _,fun _ _=>rfl,fun _ _ _=>rfl⟩,Nat.le_refl _,Nat.le_refl _⟩
 | m::l,S,q,pr,hm,h,hq,hD=>by
  have hmm:=hm m xm
  have hok:=h.ok _ (gti_mem h.xl)
  have hnx:=ztk (c:=c) hmm
  obtain⟨k1,k2,k3⟩:=(zr0 hc).ok _ hok _ hnx
  obtain⟨g1,g2⟩:=zz5 h hnx k2 k1 (x:Int) m
  obtain⟨g3,g4,g5⟩:=z5w h hq (e:=((zbk n w (gti S.st x) m).1,zbf c m.kind)) (b:=b) k2 (by show cx+zbf c m.kind≤b;have:zbf c m.kind≤1000:=k3;omega) hx0 (x:Int) m
  have g6:=z5x hD h.l2 (zbk n w (gti S.st x) m).1 (cx+zbf c m.kind) (x:Int) m
  have hsx:=g2.st x h.xl
  replace g1:DR (nxD n w c) s0 (okS n w) (metE S (zbk n w (gti S.st x) m).1 (cx+zbf c m.kind) x m) cx x (pr++[((zbk n w (gti S.st x) m).1,zbf c m.kind)]):=g1
  show DR _ _ _ (rlxP n w c x cx l (metE S (zbk n w (gti S.st x) m).1 (cx+zbf c m.kind) x m,if chpE S (zbk n w (gti S.st x) m).1 (cx+zbf c m.kind) then zix q (cx+zbf c m.kind,(idx S.st (zbk n w (gti S.st x) m).1:Int)) else q)).1 _ _ _∧_
  have ih:=zyt hc hx0 hb l _ _ _ (fun y hy=>by show y∈zb8 n w (gti (metE S (zbk n w (gti S.st x) m).1 (cx+zbf c m.kind) x m).st x);rw[hsx];exact hm y (by simp[hy])) g1 g3 g6
  obtain⟨i1,i2,i3,i4,i5,i6⟩:=ih
  rw[hsx] at i1
  dsimp only at g4 g5 i5 i6 i1
  refine⟨by rw[List.map_cons,List.append_cons];exact i1,i2,i3,⟨Nat.le_trans g2.len i4.len,fun k hk=>(i4.st k (Nat.lt_of_lt_of_le hk g2.len)).trans (g2.st k hk),fun k hk=>Int.le_trans (i4.co k (Nat.lt_of_lt_of_le hk g2.len)) (g2.co k hk),fun k hk=>(i4.dn k (Nat.lt_of_lt_of_le hk g2.len)).trans (g2.dn k hk),fun k hk hd=>(i4.dc k (Nat.lt_of_lt_of_le hk g2.len) ((g2.dn k hk).trans hd)).trans (g2.dc k hk hd)⟩,?_,?_⟩
  ·
   refine Nat.le_trans i5 ?_;simp only[List.length_cons];omega
  ·
   refine Nat.le_trans i6 ?_;simp only[List.length_cons];omega
structure PI (n:Net)(w:List ByteArray)(c:Cst)(s0 goal:List Int)(most:Int)(S:Sr)(q:List En)(fd nr:Int):Prop where
 di: ∃cx,DI (nxD n w c) s0 (okS n w) S cx
 qi:QI S q (1000*nr)
 dn: ∃D,Dn S D∧(D.length:Int)=nr
 nm:0≤nr∧nr≤most
 fd:(fd= -1∧ ∀k,k<S.st.length→gti S.dn k=true→gti S.st k≠goal)∨(0≤fd∧fd.toNat<S.st.length∧gti S.dn fd.toNat=true∧gti S.st fd.toNat=goal)
 ql:(q.length:Int)≤200*nr+1
 sl:(S.st.length:Int)≤200*nr+1
theorem PI.skip {S:Sr}{q:List En}{fd nr:Int}(h:PI n w c s0 goal most S q fd nr)(hq:0<q.length)(hd:gti S.dn (gti q 0).2.toNat=true):PI n w c s0 goal most S ((popD q).take (q.length-1)) fd nr:=by
 refine⟨h.di,⟨zvh h.qi.hp,fun e he=>h.qi.en e (zqc he),fun k hk hdk=>?_,h.qi.cb⟩,h.dn,h.nm,h.fd,?_,h.sl⟩
 ·
  rcases zqd hq (h.qi.cv k hk hdk) with h1|h1
  ·
   rw[←h1] at hd
   replace hd:gti S.dn ((k:Int)).toNat=true:=hd
   rw[Int.toNat_natCast,hdk] at hd;cases hd
  ·
   exact h1
 ·
  rw[List.length_take];have:=h.ql;omega
structure TopI (S:Sr)(q:List En):Prop where
 lt:(gti q 0).2.toNat<S.st.length
 nn:0≤(gti q 0).2
 co:gti S.co (gti q 0).2.toNat=(gti q 0).1
 mn: ∀k,k<S.st.length→gti S.dn k=false→(gti q 0).1≤gti S.co k
theorem PI.top {S:Sr}{q:List En}{fd nr:Int}(h:PI n w c s0 goal most S q fd nr)(hq:0<q.length)(hd:gti S.dn (gti q 0).2.toNat=false):TopI S q:=by
 obtain⟨e1,e2,e3,e4,e5⟩:=h.qi.en _ (gti_mem hq)
 have hm: ∀k,k<S.st.length→gti S.dn k=false→(gti q 0).1≤gti S.co k:=fun k hk hdk=>z6n h.qi.hp (h.qi.cv k hk hdk)
 exact⟨e2,e1,Int.le_antisymm e3 (hm _ e2 hd),hm⟩
theorem PI.take (hc:vcB c=true){S:Sr}{q:List En}{fd nr:Int}(h:PI n w c s0 goal most S q fd nr)(hq:0<q.length)(hd:gti S.dn (gti q 0).2.toNat=false)(hn:nr+1≤most):
  let x:=(gti q 0).2.toNat
  let r:=rlxP n w c x (gti q 0).1 (zb8 n w (gti S.st x)) ({S with dn:=S.dn.set x true},(popD q).take (q.length-1))
  PI n w c s0 goal most r.1 r.2 (if gti S.st x=goal then(gti q 0).2 else fd) (nr+1)∧r.2.length+1≤q.length+200:=by
 intro x r
 have ht:=h.top hq hd
 obtain⟨cx,hdi⟩:=h.di
 obtain⟨D,hD,hDl⟩:=h.dn
 obtain⟨t1,t2,t3,t4⟩:=ht
 have hx:x<S.st.length:=t1
 have hdr:=znf hdi hx hd (fun k hk hdk=>by rw[show gti S.co x=(gti q 0).1 from t3];exact t4 k hk hdk)
 rw[show gti S.co x=(gti q 0).1 from t3] at hdr
 have gd: ∀k,gti (S.dn.set x true) k=if x=k then true else gti S.dn k:=fun k=>zhg _ _ _ _ (by rw[hdi.l2];exact hx)
 have hD2:=zng hD hdi.nd hdi.l2 hx hd
 have hen:=h.qi.en _ (gti_mem hq)
 have hq2:QI {S with dn:=S.dn.set x true} ((popD q).take (q.length-1)) (1000*(nr+1)):=by
  refine QI.mono (b:=1000*nr) ⟨zvh h.qi.hp,fun e he=>h.qi.en e (zqc he),fun k hk hdk=>?_,h.qi.cb⟩ xa
  replace hdk:gti (S.dn.set x true) k=false:=hdk
  rw[gd] at hdk
  split at hdk
  ·
   cases hdk
  ·
   rename_i hxk
   rcases zqd hq (h.qi.cv k hk hdk) with h1|h1
   ·
    exact absurd (show x=k by show(gti q 0).2.toNat=k;rw[←h1];exact Int.toNat_natCast k) hxk
   ·
    exact h1
 have hml:=zh3 (hdi.ok _ (gti_mem hx))
 obtain⟨r1,r2,r3,r4,r5,r6⟩:=zyt hc (s0:=s0) (b:=1000*(nr+1)) hen.2.2.2.1 xa (zb8 n w (gti S.st x)) {S with dn:=S.dn.set x true} _ [] (fun m hm=>hm) hdr hq2 hD2
 have hst:=fun k (hk:k<S.st.length)=>r4.st k hk
 have hdn:=fun k (hk:k<S.st.length)=>r4.dn k hk
 have hrl:r.2.length≤q.length-1+200:=by
  have h1:r.2.length≤((popD q).take (q.length-1)).length+(zb8 n w (gti S.st x)).length:=r5
  rw[List.length_take] at h1
  omega
 refine⟨⟨⟨_,z57 r1 (fun e he=>?_)⟩,r2,⟨_,r3,by rw[List.length_cons];omega⟩,by have:=h.nm;omega,?_,?_,?_⟩,by omega⟩
 ·
  rw[hst x hx] at he
  rw[List.nil_append]
  exact he
 ·
  split
  ·
   rename_i hg
   right
   refine⟨t2,Nat.lt_of_lt_of_le hx r4.len,?_,?_⟩
   ·
    rw[hdn x hx];show gti (S.dn.set x true) x=true;rw[gd,if_pos J]
   ·
    rw[hst x hx];exact hg
  ·
   rename_i hg
   rcases h.fd with ⟨f1,f2⟩|⟨f1,f2,f3,f4⟩
   ·
    left
    refine⟨f1,fun k hk hdk=>?_⟩
    by_cases hks:k<S.st.length
    ·
     rw[hdn k hks] at hdk
     replace hdk:gti (S.dn.set x true) k=true:=hdk
     rw[gd] at hdk
     rw[hst k hks]
     split at hdk
     ·
      rename_i hxk;subst hxk;exact hg
     ·
      exact f2 k hks hdk
    ·
     intro hgk
     obtain⟨j,j1,j2,j3⟩:=(r3.iff (gti r.1.st k)).1 ((r3.iff _).2 ⟨k,hk,hdk,rfl⟩)
     have hjk:j=k:=by
      have e1:=zbr j1
      have e2:=zbr hk
      rw[j3] at e1
      exact(List.getElem?_inj j1 r1.nd).1 (e1.trans e2.symm)
     have hm:=(r3.iff _).2 ⟨k,hk,hdk,rfl⟩
     obtain⟨i,i1,i2,i3⟩:=(hD2.iff _).1 hm
     have hik:i=k:=by
      have e1:=zbr (show i<r.1.st.length from Nat.lt_of_lt_of_le i1 r4.len)
      have e2:=zbr hk
      have e3:gti r.1.st i=gti r.1.st k:=(hst i i1).trans i3
      rw[e3] at e1
      exact(List.getElem?_inj (Nat.lt_of_lt_of_le i1 r4.len) r1.nd).1 (e1.trans e2.symm)
     subst hik
     exact hks i1
   ·
    right
    refine⟨f1,Nat.lt_of_lt_of_le f2 r4.len,?_,?_⟩
    ·
     rw[hdn _ f2];show gti (S.dn.set x true) _=true;rw[gd];split<;>first|rfl|exact f3
    ·
     rw[hst _ f2];exact f4
 ·
  have:=h.ql
  omega
 ·
  have:=h.sl
  have h1:(r.1.st.length:Int)≤S.st.length+(zb8 n w (gti S.st x)).length:=by exact_mod_cast r6
  show(r.1.st.length:Int)≤_
  omega
def zhj (r:Sr × Int × Int):Int:=if r.2.2=0 then gti r.1.co r.2.1.toNat else 0
theorem ztc (hc:vcB c=true)(hs:okS n w s0): ∀ (f:Nat) (S:Sr) (q:List En) (fd nr:Int),PI n w c s0 goal most S q fd nr→(most-nr)*1000+q.length<f→
  Out (nxD n w c) s0 goal most 10 13 (zhj (runP n w c most goal f S q fd nr)) (runP n w c most goal f S q fd nr).2.2
 |0,S,q,fd,nr,h,hf=>by have:=h.nm;omega
 | f + 1,S,q,fd,nr,h,hf=>by
  have hNN:NN (nxD n w c) (okS n w):=fun x e he hx=>by obtain⟨a,b,_⟩:=(zr0 hc).ok x hx e he;exact⟨b,a⟩
  obtain⟨cx,hdi⟩:=h.di
  obtain⟨D,hD,hDl⟩:=h.dn
  have hDm:(D.length:Int)≤most:=by have:=h.nm;omega
  unfold runP
  by_cases h0:q.length=0
  ·
   rw[if_pos h0]
   have hall: ∀u,u<S.st.length→gti S.dn u=true:=fun u hu=>by
    cases hd:gti S.dn u with
    |true=>rfl
    |false=>
     have:=h.qi.cv u hu hd
     rw[List.eq_nil_of_length_eq_zero h0] at this
     cases this
   by_cases hfd:fd<0
   ·
    rw[if_pos hfd]
    refine .none (zvj hdi hNN hs hD hDm hall fun hg=>?_)
    rcases h.fd with ⟨_,f2⟩|⟨f1,_⟩
    ·
     obtain⟨k,hk,hkg⟩:=List.mem_iff_getElem.1 hg
     exact f2 k hk (hall k hk) (zfq (by rw[List.getElem?_eq_getElem hk,hkg]))
    ·
     omega
   ·
    rw[if_neg hfd]
    rcases h.fd with ⟨f1,_⟩|⟨f1,f2,f3,f4⟩
    ·
     omega
    ·
     exact .ok _ (zzn hdi hNN hs hD hDm f2 f4 f3 (fun u hu hd=>by rw[hall u hu] at hd;cases hd))
  ·
   rw[if_neg h0]
   have hq:0<q.length:=by omega
   have hlt:((popD q).take (q.length-1)).length=q.length-1:=by rw[List.length_take,zgo];omega
   cases hd:gti S.dn (gti q 0).2.toNat with
   |true=>
    rw[if_pos J]
    exact ztc hc hs f _ _ _ _ (h.skip hq hd) (by rw[hlt];omega)
   | false=>
    rw[if_neg xe]
    obtain⟨t1,t2,t3,t4⟩:=h.top hq hd
    by_cases hb:0≤fd∧gti S.co fd.toNat<(gti q 0).1
    ·
     rw[if_pos hb]
     rcases h.fd with ⟨f1,_⟩|⟨f1,f2,f3,f4⟩
     ·
      omega
     ·
      exact .ok _ (zzn hdi hNN hs hD hDm f2 f4 f3 (fun u hu hdu=>Int.lt_of_lt_of_le hb.2 (t4 u hu hdu)))
    ·
     rw[if_neg hb]
     by_cases hl:most<nr+1
     ·
      rw[if_pos hl]
      refine .lim (zzo hdi hNN hs hD xa t1 hd (fun k hk hdk=>by rw[t3];exact t4 k hk hdk) fun j hj hdj hgj=>?_)
      rcases h.fd with ⟨_,f2⟩|⟨f1,f2,f3,f4⟩
      ·
       exact absurd hgj (f2 j hj hdj)
      ·
       have hjf:j=fd.toNat:=by
        have e1:=zbr hj
        have e2:=zbr f2
        rw[hgj] at e1;rw[f4] at e2
        exact(List.getElem?_inj hj hdi.nd).1 (e1.trans e2.symm)
       rw[hjf,t3]
       omega
     ·
      rw[if_neg hl]
      have hT:=h.take hc hq hd xa
      refine ztc hc hs f _ _ _ _ hT.1 ?_
      have h1:=hT.2
      have h2:=h.nm
      omega
end
end Dl
namespace Dl
open Go.RowKit
def bstR (S:Sr):Nat→Int
 |0=> -1
 |i+1=>if gti S.dn i=false∧(bstR S i<0∨gti S.co i<gti S.co (bstR S i).toNat) then(i:Int) else bstR S i
theorem zof (S:Sr): ∀k,(bstR S k= -1∧ ∀i,i<k→gti S.dn i=true)∨(0≤bstR S k∧(bstR S k).toNat<k∧gti S.dn (bstR S k).toNat=false∧ ∀i,i<k→gti S.dn i=false→gti S.co (bstR S k).toNat≤gti S.co i)
 |0=> .inl ⟨rfl,fun i h=>by omega⟩
 | k +1=>by
  unfold bstR
  have ih:=zof S k
  generalize bstR S k=b at ih
  by_cases h:gti S.dn k=false∧(b<0∨gti S.co k<gti S.co b.toNat)
  ·
   rw[if_pos h]
   right
   refine⟨by omega,by omega,by rw[Int.toNat_natCast];exact h.1,fun i hi hd=>?_⟩
   rw[Int.toNat_natCast]
   by_cases hik:i=k
   ·
    subst hik;exact Int.le_refl _
   ·
    rcases ih with ⟨b1,b2⟩|⟨b1,b2,b3,b4⟩
    ·
     rw[b2 i xa] at hd;cases hd
    ·
     have:=b4 i xa hd
     rcases h.2 with h1|h1<;>omega
  ·
   rw[if_neg h]
   have hk:gti S.dn k=false→0≤b∧gti S.co b.toNat≤gti S.co k:=fun hd=>by
    have h2: ¬ (b<0∨gti S.co k<gti S.co b.toNat):=fun h3=>h ⟨hd,h3⟩
    omega
   rcases ih with ⟨b1,b2⟩|⟨b1,b2,b3,b4⟩
   ·
    left
    refine⟨b1,fun i hi=>?_⟩
    by_cases hik:i=k
    ·
     subst hik
     cases hd:gti S.dn i with
     |true=>rfl
     |false=>have:=hk hd;omega
    ·
     exact b2 i xa
   ·
    right
    refine⟨b1,by omega,b3,fun i hi hd=>?_⟩
    by_cases hik:i=k
    ·
     subst hik;exact(hk hd).2
    ·
     exact b4 i xa hd
section
variable (n:Net)(w:List ByteArray)(c:Cst)(most:Int)
def rlxR (x:Nat)(cx:Int):List Stp→Sr→Sr
 |[],S=>S
 |m::l,S=>rlxR x cx l (metE S (zbk n w (gti S.st x) m).1 (cx+zbf c m.kind) x m)
def refR (goal:List Int):Nat→Sr→Int→Int→Sr × Int × Int
 |0,S,en,nr=>(S,0,99)
 | f+1,S,en,nr=>
  if bstR S S.st.length<0∨(0≤en∧gti S.co en.toNat<gti S.co (bstR S S.st.length).toNat) then(if en<0 then(zSr,0,10) else(S,en,0))
  else if most<nr+1 then(zSr,0,13)
  else refR goal f (rlxR n w c (bstR S S.st.length).toNat (gti S.co (bstR S S.st.length).toNat) (zb8 n w (gti S.st (bstR S S.st.length).toNat)) {S with dn:=S.dn.set (bstR S S.st.length).toNat true})
   (if gti S.st (bstR S S.st.length).toNat=goal then bstR S S.st.length else en) (nr+1)
end
section
variable {n:Net}{w:List ByteArray}{c:Cst}{most:Int}{s0 goal:List Int}
def Cb (S:Sr)(b:Int):Prop:= ∀k,k<S.st.length→0≤gti S.co k∧gti S.co k≤b
theorem met_cb {S:Sr}{cx b:Int}{x:Nat}{pr:List (List Int × Int)}{nx:List Int→List (List Int × Int)}{okS:List Int→Prop}(h:DR nx s0 okS S cx x pr)(hq:Cb S b){y:List Int}{cy:Int}(h0:0≤cy)(hb:cy≤b)(f:Int)(m:Stp):
  Cb (metE S y cy f m) b∧(metE S y cy f m).st.length≤S.st.length+1:=by
 unfold metE
 split
 ·
  refine⟨fun k hk=>?_,by simp⟩
  show 0≤gti (S.co++[cy]) k∧gti (S.co++[cy]) k≤b
  replace hk:k<(S.st++[y]).length:=hk
  rw[List.length_append,List.length_singleton] at hk
  by_cases h1:k<S.st.length
  ·
   rw[zcj (by rw[h.l1];exact h1)];exact hq k h1
  ·
   have:k=S.co.length:=by have:=h.l1;omega
   rw[this,zef];omega
 ·
  rename_i hf
  obtain⟨p1,p2,p3⟩:=zh4 hf
  split
  ·
   refine⟨fun k hk=>?_,Nat.le_succ _⟩
   show 0≤gti (S.co.set (idx S.st y) cy) k∧gti (S.co.set (idx S.st y) cy) k≤b
   rw[zkd _ _ _ _ (by rw[h.l1];exact p2)]
   split
   ·
    omega
   ·
    exact hq k hk
  ·
   exact⟨hq,Nat.le_succ _⟩
theorem ztd (hc:vcB c=true){x:Nat}{cx b:Int}(hx0:0≤cx)(hb:cx+1000≤b){D:List (List Int)}: ∀ (l:List Stp) (S:Sr) (pr:List (List Int × Int)),(∀m∈l,m∈zb8 n w (gti S.st x))→DR (nxD n w c) s0 (okS n w) S cx x pr→Cb S b→Dn S D→
  DR (nxD n w c) s0 (okS n w) (rlxR n w c x cx l S) cx x (pr++l.map fun m=>((zbk n w (gti S.st x) m).1,zbf c m.kind))∧Cb (rlxR n w c x cx l S) b∧Dn (rlxR n w c x cx l S) D∧Le S (rlxR n w c x cx l S)∧(rlxR n w c x cx l S).st.length≤S.st.length+l.length
 |[],S,pr,_,h,hq,hD=>⟨by rw[List.map_nil,List.append_nil];exact h,hq,hD,⟨Nat.le_refl _,fun _ _=>rfl,fun _ _=>Int.le_refl _,fun _ _=>rfl,fun _ _ _=>rfl⟩,Nat.le_refl _⟩
 |m::l,S,pr,hm,h,hq,hD=>by
  have hmm:=hm m xm
  have hok:=h.ok _ (gti_mem h.xl)
  have hnx:=ztk (c:=c) hmm
  obtain⟨k1,k2,k3⟩:=(zr0 hc).ok _ hok _ hnx
  dsimp only at k1 k2 k3
  obtain⟨g1,g2⟩:=zz5 h hnx k2 k1 (x:Int) m
  obtain⟨g3,g5⟩:=met_cb h hq (y:=(zbk n w (gti S.st x) m).1) (cy:=cx+zbf c m.kind) (b:=b) xa xa (x:Int) m
  have g6:=z5x hD h.l2 (zbk n w (gti S.st x) m).1 (cx+zbf c m.kind) (x:Int) m
  have hsx:=g2.st x h.xl
  replace g1:DR (nxD n w c) s0 (okS n w) (metE S (zbk n w (gti S.st x) m).1 (cx+zbf c m.kind) x m) cx x (pr++[((zbk n w (gti S.st x) m).1,zbf c m.kind)]):=g1
  unfold rlxR
  have ih:=ztd hc hx0 hb l _ _ (fun y hy=>by rw[hsx];exact hm y (by simp[hy])) g1 g3 g6
  obtain⟨i1,i2,i3,i4,i6⟩:=ih
  rw[hsx] at i1
  refine⟨by rw[List.map_cons,List.append_cons];exact i1,i2,i3,⟨Nat.le_trans g2.len i4.len,fun k hk=>(i4.st k (Nat.lt_of_lt_of_le hk g2.len)).trans (g2.st k hk),fun k hk=>Int.le_trans (i4.co k (Nat.lt_of_lt_of_le hk g2.len)) (g2.co k hk),fun k hk=>(i4.dn k (Nat.lt_of_lt_of_le hk g2.len)).trans (g2.dn k hk),fun k hk hd=>(i4.dc k (Nat.lt_of_lt_of_le hk g2.len) ((g2.dn k hk).trans hd)).trans (g2.dc k hk hd)⟩,?_⟩
  refine Nat.le_trans i6 ?_;simp only[List.length_cons];omega
structure RI (n:Net)(w:List ByteArray)(c:Cst)(s0 goal:List Int)(most:Int)(S:Sr)(en nr:Int):Prop where
 di: ∃cx,DI (nxD n w c) s0 (okS n w) S cx
 cb:Cb S (1000*nr)
 dn: ∃D,Dn S D∧(D.length:Int)=nr
 nm:0≤nr∧nr≤most
 fd:(en= -1∧ ∀k,k<S.st.length→gti S.dn k=true→gti S.st k≠goal)∨(0≤en∧en.toNat<S.st.length∧gti S.dn en.toNat=true∧gti S.st en.toNat=goal)
 sl:(S.st.length:Int)≤200*nr+1
theorem RI.take (hc:vcB c=true){S:Sr}{en nr b:Int}(h:RI n w c s0 goal most S en nr)(hb0:0≤b)(hx:b.toNat<S.st.length)(hd:gti S.dn b.toNat=false)(hm: ∀k,k<S.st.length→gti S.dn k=false→gti S.co b.toNat≤gti S.co k)(hn:nr+1≤most):
  RI n w c s0 goal most (rlxR n w c b.toNat (gti S.co b.toNat) (zb8 n w (gti S.st b.toNat)) {S with dn:=S.dn.set b.toNat true}) (if gti S.st b.toNat=goal then b else en) (nr+1):=by
 obtain⟨x,hxe⟩: ∃x,b.toNat=x:=⟨_,rfl⟩
 rw[hxe] at hx hd hm⊢
 obtain⟨cx,hdi⟩:=h.di
 obtain⟨D,hD,hDl⟩:=h.dn
 have hdr:=znf hdi hx hd hm
 have gd: ∀k,gti (S.dn.set x true) k=if x=k then true else gti S.dn k:=fun k=>zhg _ _ _ _ (by rw[hdi.l2];exact hx)
 have hD2:=zng hD hdi.nd hdi.l2 hx hd
 have hcb:=h.cb x hx
 have hml:=zh3 (hdi.ok _ (gti_mem hx))
 obtain⟨r1,r2,r3,r4,r6⟩:=ztd hc (s0:=s0) (b:=1000*(nr+1)) hcb.1 xa (zb8 n w (gti S.st x)) {S with dn:=S.dn.set x true} [] (fun m hm=>hm) hdr (fun k hk=>by have:=h.cb k hk;exact⟨this.1,by show gti S.co k≤_;omega⟩) hD2
 have hst:=fun k (hk:k<S.st.length)=>r4.st k hk
 have hdn:=fun k (hk:k<S.st.length)=>r4.dn k hk
 generalize rlxR n w c x (gti S.co x) (zb8 n w (gti S.st x)) {S with dn:=S.dn.set x true}=T at r1 r2 r3 r4 r6 hst hdn
 refine⟨⟨_,z57 r1 (fun e he=>?_)⟩,r2,⟨_,r3,by rw[List.length_cons];omega⟩,by have:=h.nm;omega,?_,?_⟩
 ·
  rw[hst x hx] at he
  rw[List.nil_append]
  exact he
 ·
  split
  ·
   rename_i hg
   right
   rw[hxe]
   refine⟨hb0,Nat.lt_of_lt_of_le hx r4.len,?_,?_⟩
   ·
    rw[hdn x hx];show gti (S.dn.set x true) x=true;rw[gd,if_pos J]
   ·
    rw[hst x hx];exact hg
  ·
   rename_i hg
   rcases h.fd with ⟨f1,f2⟩|⟨f1,f2,f3,f4⟩
   ·
    left
    refine⟨f1,fun k hk hdk=>?_⟩
    by_cases hks:k<S.st.length
    ·
     rw[hdn k hks] at hdk
     replace hdk:gti (S.dn.set x true) k=true:=hdk
     rw[gd] at hdk
     rw[hst k hks]
     split at hdk
     ·
      rename_i hxk;subst hxk;exact hg
     ·
      exact f2 k hks hdk
    ·
     have hmm:=(r3.iff _).2 ⟨k,hk,hdk,rfl⟩
     obtain⟨i,i1,i2,i3⟩:=(hD2.iff _).1 hmm
     have hik:i=k:=by
      have e1:=zbr (show i<T.st.length from Nat.lt_of_lt_of_le i1 r4.len)
      have e2:=zbr hk
      have e3:gti T.st i=gti T.st k:=(hst i i1).trans i3
      rw[e3] at e1
      exact(List.getElem?_inj (Nat.lt_of_lt_of_le i1 r4.len) r1.nd).1 (e1.trans e2.symm)
     subst hik
     exact absurd i1 hks
   ·
    right
    refine⟨f1,Nat.lt_of_lt_of_le f2 r4.len,?_,?_⟩
    ·
     rw[hdn _ f2];show gti (S.dn.set x true) _=true;rw[gd];split<;>first|rfl|exact f3
    ·
     rw[hst _ f2];exact f4
 ·
  have:=h.sl
  have h1:(T.st.length:Int)≤S.st.length+(zb8 n w (gti S.st x)).length:=by exact_mod_cast r6
  omega
theorem zy3 (hc:vcB c=true)(hs:okS n w s0): ∀ (f:Nat) (S:Sr) (en nr:Int),RI n w c s0 goal most S en nr→most-nr<f→
  Out (nxD n w c) s0 goal most 10 13 (zhj (refR n w c most goal f S en nr)) (refR n w c most goal f S en nr).2.2
 |0,S,en,nr,h,hf=>by have:=h.nm;omega
 | f + 1,S,en,nr,h,hf=>by
  have hNN:NN (nxD n w c) (okS n w):=fun x e he hx=>by obtain⟨a,b,_⟩:=(zr0 hc).ok x hx e he;exact⟨b,a⟩
  obtain⟨cx,hdi⟩:=h.di
  obtain⟨D,hD,hDl⟩:=h.dn
  have hDm:(D.length:Int)≤most:=by have:=h.nm;omega
  unfold refR
  have hb:=zof S S.st.length
  generalize bstR S S.st.length=b at hb
  by_cases hq:b<0∨(0≤en∧gti S.co en.toNat<gti S.co b.toNat)
  ·
   rw[if_pos hq]
   by_cases hfd:en<0
   ·
    rw[if_pos hfd]
    rcases hb with ⟨b1,b2⟩|⟨b1,b2,b3,b4⟩
    ·
     refine .none (zvj hdi hNN hs hD hDm b2 fun hg=>?_)
     rcases h.fd with ⟨_,f2⟩|⟨f1,_⟩
     ·
      obtain⟨k,hk,hkg⟩:=List.mem_iff_getElem.1 hg
      exact f2 k hk (b2 k hk) (zfq (by rw[List.getElem?_eq_getElem hk,hkg]))
     ·
      omega
    ·
     omega
   ·
    rw[if_neg hfd]
    rcases h.fd with ⟨f1,_⟩|⟨f1,f2,f3,f4⟩
    ·
     omega
    ·
     refine .ok _ (zzn hdi hNN hs hD hDm f2 f4 f3 (fun u hu hd=>?_))
     rcases hb with ⟨b1,b2⟩|⟨b1,b2,b3,b4⟩
     ·
      rw[b2 u hu] at hd;cases hd
     ·
      rcases hq with hq|hq
      ·
       omega
      ·
       exact Int.lt_of_lt_of_le hq.2 (b4 u hu hd)
  ·
   rw[if_neg hq]
   rcases hb with ⟨b1,b2⟩|⟨b1,b2,b3,b4⟩
   ·
    omega
   ·
    by_cases hl:most<nr+1
    ·
     rw[if_pos hl]
     refine .lim (zzo hdi hNN hs hD xa b2 b3 b4 fun j hj hdj hgj=>?_)
     rcases h.fd with ⟨_,f2⟩|⟨f1,f2,f3,f4⟩
     ·
      exact absurd hgj (f2 j hj hdj)
     ·
      have hjf:j=en.toNat:=by
       have e1:=zbr hj
       have e2:=zbr f2
       rw[hgj] at e1;rw[f4] at e2
       exact(List.getElem?_inj hj hdi.nd).1 (e1.trans e2.symm)
      rw[hjf]
      omega
    ·
     rw[if_neg hl]
     exact zy3 hc hs f _ _ _ (h.take hc b1 b2 b3 b4 xa) xa
def iniS (s0:List Int):Sr:=⟨[s0],[0],[false],[-1],[⟨0,0,ByteArray.empty⟩]⟩
theorem z55 (s0:List Int)(hs:okS n w s0):DI (nxD n w c) s0 (okS n w) (iniS s0) 0:=by
 have one: ∀k,k<(iniS s0).st.length→k=0:=fun k hk=>by simp[iniS] at hk;exact hk
 refine⟨⟨rfl,rfl,rfl,rfl,by simp[iniS],by simp[iniS],rfl,by show(0:Int)≤0;decide,fun k hk=>?_,fun k hk hd=>?_,fun k hk hd=>?_,fun x hx=>?_⟩,fun k hk hd=>?_⟩
 ·
  rw[one k hk];exact .nil
 ·
  rw[one k hk] at hd;cases hd
 ·
  rw[one k hk];show(0:Int)≤0;decide
 ·
  simp[iniS] at hx;subst hx;exact hs
 ·
  rw[one k hk] at hd;cases hd
theorem z54 (s0:List Int):Dn (iniS s0) []:=⟨List.nodup_nil,fun v=>⟨fun h=>(by cases h),fun ⟨k,h1,h2,_⟩=>by
 have:k=0:=by simp[iniS] at h1;exact h1
 subst this;cases h2⟩⟩
theorem z0p (hs:okS n w s0)(hm:1≤most):PI n w c s0 goal most (iniS s0) [(0,0)] (-1) 0:=by
 have one: ∀k,k<(iniS s0).st.length→k=0:=fun k hk=>by simp[iniS] at hk;exact hk
 refine⟨⟨0,z55 s0 hs⟩,⟨fun k h1 h2=>by simp at h2;omega,fun e he=>?_,fun k hk hd=>?_,fun k hk=>?_⟩,⟨[],z54 s0,rfl⟩,by omega, .inl ⟨rfl,fun k hk hd=>?_⟩,by simp,by simp[iniS]⟩
 ·
  simp at he;subst he;exact⟨by decide,by simp[iniS],by show(0:Int)≤0;decide,by decide,by decide⟩
 ·
  rw[one k hk];simp[iniS,gti]
 ·
  rw[one k hk];show(0:Int)≤0∧(0:Int)≤1000*0;decide
 ·
  rw[one k hk] at hd;cases hd
theorem z0o (hs:okS n w s0)(hm:1≤most):RI n w c s0 goal most (iniS s0) (-1) 0:=by
 have one: ∀k,k<(iniS s0).st.length→k=0:=fun k hk=>by simp[iniS] at hk;exact hk
 refine⟨⟨0,z55 s0 hs⟩,fun k hk=>?_,⟨[],z54 s0,rfl⟩,by omega, .inl ⟨rfl,fun k hk hd=>?_⟩,by simp[iniS]⟩
 ·
  rw[one k hk];show(0:Int)≤0∧(0:Int)≤1000*0;decide
 ·
  rw[one k hk] at hd;cases hd
def srP (n:Net)(w:List ByteArray)(c:Cst)(most:Int):Sr × Int × Int:=runP n w c most (endE n w).1 (most.toNat*1000+3) (iniS (zb0 n w).1) [(0,0)] (-1) 0
def srR (n:Net)(w:List ByteArray)(c:Cst)(most:Int):Sr × Int × Int:=refR n w c most (endE n w).1 (most.toNat+1) (iniS (zb0 n w).1) (-1) 0
theorem z6v (hc:vcB c=true)(hs2:(zb0 n w).2=0)(hm:1≤most):zhj (srP n w c most)=zhj (srR n w c most)∧(srP n w c most).2.2=(srR n w c most).2.2:=by
 have hs:=(zhb hs2).2.2.2.2.1
 have h1:=ztc (goal:=(endE n w).1) hc hs (most.toNat*1000+3) _ _ _ _ (z0p hs hm) (by simp;omega)
 have h2:=zy3 (goal:=(endE n w).1) hc hs (most.toNat+1) _ _ _ (z0o hs hm) xa
 exact z3f h1 h2
end
end Dl
namespace Dl
open Go.RowKit
def ChO (fr:List Int):List Nat→Prop
 |[]=>True
 |k::O=>(k=0∨(gti fr k).toNat∈O)∧ChO fr O
theorem ChO.congr {fr fr':List Int}: ∀ {O:List Nat},(∀k∈O,gti fr' k=gti fr k)→ChO fr O→ChO fr' O
 |[],_,_=>trivial
 |k::O,h,h1=>⟨by rw[h k xm];exact h1.1,h1.2.congr (fun j hj=>h j (by simp[hj]))⟩
structure PA (n:Net)(w:List ByteArray)(c:Cst)(S:Sr)(O:List Nat):Prop where
 f0:gti S.fr 0= -1
 od: ∀k,k∈O↔k<S.st.length∧gti S.dn k=true
 pth: ∀k,k<S.st.length→k≠0→0≤gti S.fr k∧(gti S.fr k).toNat∈O∧gti S.mv k∈zb8 n w (gti S.st (gti S.fr k).toNat)∧(zbk n w (gti S.st (gti S.fr k).toNat) (gti S.mv k)).1=gti S.st k∧gti S.co k=gti S.co (gti S.fr k).toNat+zbf c (gti S.mv k).kind
 ch:ChO S.fr O
theorem z31 (l:List Stp)(i k:Nat)(x:Stp)(hi:i<l.length):gti (l.set i x) k=if i=k then x else gti l k:=by
 unfold gti
 rw[List.getElem?_set]
 split
 ·
  rename_i h;subst h;first|rfl|(rw[if_pos hi];rfl)
 ·
  rfl
section
variable {n:Net}{w:List ByteArray}{c:Cst}{most:Int}{s0 goal:List Int}{nx:List Int→List (List Int × Int)}{okS:List Int→Prop}
theorem met_pa {S:Sr}{cx:Int}{x:Nat}{pr:List (List Int × Int)}{O:List Nat}(h:DR nx s0 okS S cx x pr)(hp:PA n w c S O)(hc0:0≤cx){m:Stp}(hm:m∈zb8 n w (gti S.st x))(hk:0≤zbf c m.kind)(hz:0≤gti S.co 0):
  PA n w c (metE S (zbk n w (gti S.st x) m).1 (cx+zbf c m.kind) x m) O:=by
 have hxO:x∈O:=(hp.od x).2 ⟨h.xl,h.xd⟩
 unfold metE
 split
 ·
  rename_i hf
  have gs: ∀k,k<S.st.length→gti (S.st++[(zbk n w (gti S.st x) m).1]) k=gti S.st k:=fun k hk=>zcj hk
  have gc: ∀k,k<S.st.length→gti (S.co++[cx+zbf c m.kind]) k=gti S.co k:=fun k hk=>zcj (by rw[h.l1];exact hk)
  have gd: ∀k,k<S.st.length→gti (S.dn++[false]) k=gti S.dn k:=fun k hk=>zcj (by rw[h.l2];exact hk)
  have gf: ∀k,k<S.st.length→gti (S.fr++[(x:Int)]) k=gti S.fr k:=fun k hk=>zcj (by rw[h.l3];exact hk)
  have gm: ∀k,k<S.st.length→gti (S.mv++[m]) k=gti S.mv k:=fun k hk=>zcj (by rw[h.l4];exact hk)
  have gs1:gti (S.st++[(zbk n w (gti S.st x) m).1]) S.st.length=(zbk n w (gti S.st x) m).1:=zef
  have gc1:gti (S.co++[cx+zbf c m.kind]) S.st.length=cx+zbf c m.kind:=by rw[←h.l1];exact zef
  have gd1:gti (S.dn++[false]) S.st.length=false:=by rw[←h.l2];exact zef
  have gf1:gti (S.fr++[(x:Int)]) S.st.length=(x:Int):=by rw[←h.l3];exact zef
  have gm1:gti (S.mv++[m]) S.st.length=m:=by rw[←h.l4];exact zef
  refine⟨by show gti (S.fr++[(x:Int)]) 0= -1;rw[gf 0 h.h0];exact hp.f0,fun k=>?_,fun k hk h0=>?_,hp.ch.congr (fun k hk=>gf k ((hp.od k).1 hk).1)⟩
  ·
   rw[hp.od]
   show _↔k<(S.st++[(zbk n w (gti S.st x) m).1]).length∧gti (S.dn++[false]) k=true
   rw[List.length_append,List.length_singleton]
   constructor
   ·
    rintro ⟨h1,h2⟩;exact⟨by omega,by rw[gd k h1];exact h2⟩
   ·
    rintro ⟨h1,h2⟩
    by_cases h3:k<S.st.length
    ·
     rw[gd k h3] at h2;exact⟨h3,h2⟩
    ·
     have:k=S.st.length:=by omega
     subst this;rw[gd1] at h2;cases h2
  ·
   replace hk:k<(S.st++[(zbk n w (gti S.st x) m).1]).length:=hk
   rw[List.length_append,List.length_singleton] at hk
   show 0≤gti (S.fr++[(x:Int)]) k∧(gti (S.fr++[(x:Int)]) k).toNat∈O∧gti (S.mv++[m]) k∈zb8 n w (gti (S.st++[(zbk n w (gti S.st x) m).1]) (gti (S.fr++[(x:Int)]) k).toNat)∧(zbk n w (gti (S.st++[(zbk n w (gti S.st x) m).1]) (gti (S.fr++[(x:Int)]) k).toNat) (gti (S.mv++[m]) k)).1=gti (S.st++[(zbk n w (gti S.st x) m).1]) k∧gti (S.co++[cx+zbf c m.kind]) k=gti (S.co++[cx+zbf c m.kind]) (gti (S.fr++[(x:Int)]) k).toNat+zbf c (gti (S.mv++[m]) k).kind
   by_cases h3:k<S.st.length
   ·
    obtain⟨a1,a2,a3,a4,a5⟩:=hp.pth k h3 h0
    have a6:=((hp.od _).1 a2).1
    rw[gf k h3,gm k h3,gs k h3,gc k h3,gs _ a6,gc _ a6]
    exact⟨a1,a2,a3,a4,a5⟩
   ·
    have:k=S.st.length:=by omega
    subst this
    rw[gf1,gm1,gs1,gc1,Int.toNat_natCast,gs x h.xl,gc x h.xl,h.xc]
    exact⟨by omega,hxO,hm,rfl,rfl⟩
 ·
  rename_i hf
  obtain⟨p1,p2,p3⟩:=zh4 hf
  have hst:gti S.st (idx S.st (zbk n w (gti S.st x) m).1)=(zbk n w (gti S.st x) m).1:=zfq p1
  generalize idx S.st (zbk n w (gti S.st x) m).1=i at p1 p2 p3 hst
  split
  ·
   rename_i hlt
   have hni:gti S.dn i=false:=by
    cases hd:gti S.dn i with
    |false=>rfl
    |true=>have:=h.lo i p2 hd;omega
   have hiO:i ∉ O:=fun h1=>by rw[((hp.od i).1 h1).2] at hni;cases hni
   have hi0:i≠0:=fun e=>by subst e;have:=h.c0;omega
   have hix:i≠x:=fun e=>hiO (e▸hxO)
   have gc: ∀k,gti (S.co.set i (cx+zbf c m.kind)) k=if i=k then cx+zbf c m.kind else gti S.co k:=fun k=>zkd _ _ _ _ (by rw[h.l1];exact p2)
   have gf: ∀k,gti (S.fr.set i (x:Int)) k=if i=k then(x:Int) else gti S.fr k:=fun k=>zkd _ _ _ _ (by rw[h.l3];exact p2)
   have gm: ∀k,gti (S.mv.set i m) k=if i=k then m else gti S.mv k:=fun k=>z31 _ _ _ _ (by rw[h.l4];exact p2)
   refine⟨by show gti (S.fr.set i (x:Int)) 0= -1;rw[gf,if_neg hi0];exact hp.f0,hp.od,fun k hk h0=>?_,hp.ch.congr (fun k hk=>by rw[gf];exact if_neg (fun e:i=k=>hiO (e▸hk)))⟩
   show 0≤gti (S.fr.set i (x:Int)) k∧(gti (S.fr.set i (x:Int)) k).toNat∈O∧gti (S.mv.set i m) k∈zb8 n w (gti S.st (gti (S.fr.set i (x:Int)) k).toNat)∧(zbk n w (gti S.st (gti (S.fr.set i (x:Int)) k).toNat) (gti (S.mv.set i m) k)).1=gti S.st k∧gti (S.co.set i (cx+zbf c m.kind)) k=gti (S.co.set i (cx+zbf c m.kind)) (gti (S.fr.set i (x:Int)) k).toNat+zbf c (gti (S.mv.set i m) k).kind
   by_cases hki:i=k
   ·
    subst hki
    rw[gf,if_pos J,gm,if_pos J,gc,if_pos J,Int.toNat_natCast,gc,if_neg hix,h.xc,hst]
    exact⟨by omega,hxO,hm,rfl,rfl⟩
   ·
    obtain⟨a1,a2,a3,a4,a5⟩:=hp.pth k hk h0
    rw[gf,if_neg hki,gm,if_neg hki,gc,if_neg hki,gc,if_neg (fun e=>hiO (by rw[e];exact a2))]
    exact⟨a1,a2,a3,a4,a5⟩
  ·
   exact hp
theorem z7r {S:Sr}{O:List Nat}(hp:PA n w c S O)(hl:S.dn.length=S.st.length){x:Nat}(hx:x<S.st.length):PA n w c {S with dn:=S.dn.set x true} (x::O):=by
 have gd: ∀k,gti (S.dn.set x true) k=if x=k then true else gti S.dn k:=fun k=>zhg _ _ _ _ (by rw[hl];exact hx)
 refine⟨hp.f0,fun k=>?_,fun k hk h0=>?_,⟨?_,hp.ch⟩⟩
 ·
  show _↔k<S.st.length∧gti (S.dn.set x true) k=true
  rw[List.mem_cons,hp.od,gd]
  constructor
  ·
   rintro (rfl|⟨h1,h2⟩)
   ·
    exact⟨hx,by rw[if_pos J]⟩
   ·
    exact⟨h1,by split<;>first|rfl|exact h2⟩
  ·
   rintro ⟨h1,h2⟩
   by_cases h3:x=k
   ·
    exact .inl h3.symm
   ·
    rw[if_neg h3] at h2;exact .inr ⟨h1,h2⟩
 ·
  obtain⟨a1,a2,a3⟩:=hp.pth k hk h0
  exact⟨a1,by simp[a2],a3⟩
 ·
  by_cases h0:x=0
  ·
   exact .inl h0
  ·
   exact .inr (hp.pth x hx h0).2.1
def wayB (S:Sr):Nat→Nat→List Stp
 |0,_=>[]
 |f+1,k=>if gti S.fr k<0 then [] else wayB S f (gti S.fr k).toNat++[gti S.mv k]
inductive Wy (n:Net)(w:List ByteArray)(c:Cst):List Int→List Stp→List Int→Int→Prop
 |nil (s:List Int):Wy n w c s [] s 0
 |snoc (s:List Int) (l:List Stp) (s':List Int) (a:Int) (m:Stp) (h:Wy n w c s l s' a) (hm:m∈zb8 n w s'):Wy n w c s (l++[m]) (zbk n w s' m).1 (a+zbf c m.kind)
theorem zx7 {S:Sr}{O:List Nat}(hp:PA n w c S O)(h0:gti S.st 0=s0)(hc:gti S.co 0=0): ∀ (O':List Nat),(∀k∈O',k∈O)→ChO S.fr O'→ ∀ (f k:Nat),k∈O'→O'.length≤f→Wy n w c s0 (wayB S f k) (gti S.st k) (gti S.co k)∧(wayB S f k).length<O'.length
 |[],_,_,f,k,hk,_=>by cases hk
 | j ::O',hs,hch,f,k,hk,hf=>by
  rcases List.mem_cons.1 hk with rfl|hk
  ·
   cases f with
   |zero=>simp at hf
   | succ f=>
    unfold wayB
    by_cases hk0:k=0
    ·
     subst hk0
     rw[if_pos (by rw[hp.f0];decide),h0,hc]
     exact⟨.nil _,by simp⟩
    ·
     obtain⟨a1,a2,a3,a4,a5⟩:=hp.pth k ((hp.od k).1 (hs k xm)).1 hk0
     rw[if_neg xa]
     have hm:(gti S.fr k).toNat∈O':=hch.1.resolve_left hk0
     obtain⟨i1,i2⟩:=zx7 hp h0 hc O' (fun x hx=>hs x (by simp[hx])) hch.2 f _ hm (by simp only[List.length_cons] at hf;omega)
     refine⟨?_,by simp only[List.length_append,List.length_cons,List.length_nil];omega⟩
     have:=Wy.snoc _ _ _ _ _ i1 a3
     rw[a4, ←a5] at this
     exact this
  ·
   obtain⟨i1,i2⟩:=zx7 hp h0 hc O' (fun x hx=>hs x (by simp[hx])) hch.2 f k hk (by simp only[List.length_cons] at hf;omega)
   exact⟨i1,by simp only[List.length_cons];omega⟩
end
end Dl
namespace Dl
open Go.RowKit
section
variable {n:Net}{w:List ByteArray}{c:Cst}{most:Int}{s0 goal:List Int}
theorem z5m (hc:vcB c=true){x:Nat}{cx b:Int}(hx0:0≤cx)(hb:cx+1000≤b){O:List Nat}: ∀ (l:List Stp) (S:Sr) (q:List En) (pr:List (List Int × Int)),(∀m∈l,m∈zb8 n w (gti S.st x))→DR (nxD n w c) s0 (okS n w) S cx x pr→QI S q b→PA n w c S O→
  PA n w c (rlxP n w c x cx l (S,q)).1 O
 |[],S,q,pr,_,h,hq,hp=>hp
 |m::l,S,q,pr,hm,h,hq,hp=>by
  have hmm:=hm m xm
  have hok:=h.ok _ (gti_mem h.xl)
  have hnx:=ztk (c:=c) hmm
  obtain⟨k1,k2,k3⟩:=(zr0 hc).ok _ hok _ hnx
  obtain⟨g1,g2⟩:=zz5 h hnx k2 k1 (x:Int) m
  obtain⟨g3,_,_⟩:=z5w h hq (e:=((zbk n w (gti S.st x) m).1,zbf c m.kind)) (b:=b) k2 (by show cx+zbf c m.kind≤b;have:zbf c m.kind≤1000:=k3;omega) hx0 (x:Int) m
  have g4:=met_pa h hp hx0 hmm k2 (hq.cb 0 h.h0).1
  have hsx:=g2.st x h.xl
  show PA n w c (rlxP n w c x cx l (metE S (zbk n w (gti S.st x) m).1 (cx+zbf c m.kind) x m,if chpE S (zbk n w (gti S.st x) m).1 (cx+zbf c m.kind) then zix q (cx+zbf c m.kind,(idx S.st (zbk n w (gti S.st x) m).1:Int)) else q)).1 O
  exact z5m hc hx0 hb l _ _ _ (fun y hy=>by show y∈zb8 n w (gti (metE S (zbk n w (gti S.st x) m).1 (cx+zbf c m.kind) x m).st x);rw[hsx];exact hm y (by simp[hy])) g1 g3 g4
structure Fnd (n:Net)(w:List ByteArray)(c:Cst)(s0 goal:List Int)(most:Int)(S:Sr)(e:Int):Prop where
 e0:0≤e
 el:e.toNat<S.st.length
 g:gti S.st e.toNat=goal
 way: ∃O:List Nat,(O.length:Int)≤most∧PA n w c S O∧e.toNat∈O
 z:gti S.st 0=s0∧gti S.co 0=0
 l1:S.co.length=S.st.length
 l3:S.fr.length=S.st.length
 l4:S.mv.length=S.st.length
 sl:(S.st.length:Int)≤200*most+1
 cb: ∀k,k<S.st.length→0≤gti S.co k∧gti S.co k≤1000*most
theorem ztb (hc:vcB c=true): ∀ (f:Nat) (S:Sr) (q:List En) (fd nr:Int) (O:List Nat),PI n w c s0 goal most S q fd nr→PA n w c S O→(O.length:Int)=nr→(most-nr)*1000+q.length<f→
  (runP n w c most goal f S q fd nr).2.2=0→Fnd n w c s0 goal most (runP n w c most goal f S q fd nr).1 (runP n w c most goal f S q fd nr).2.1
 |0,S,q,fd,nr,O,h,_,_,hf,_=>by have:=h.nm;omega
 | f + 1,S,q,fd,nr,O,h,hp,hO,hf,h0=>by
  obtain⟨cx,hdi⟩:=h.di
  have hfnd: ¬fd<0→Fnd n w c s0 goal most S fd:=fun hfd=>by
   rcases h.fd with ⟨f1,_⟩|⟨f1,f2,f3,f4⟩
   ·
    omega
   ·
    refine⟨f1,f2,f4,⟨O,by have:=h.nm;omega,hp,(hp.od _).2 ⟨f2,f3⟩⟩,⟨hdi.z0,Int.le_antisymm hdi.c0 (h.qi.cb 0 hdi.h0).1⟩,hdi.l1,hdi.l3,hdi.l4,by have:=h.sl;have:=h.nm;omega,fun k hk=>by have:=h.qi.cb k hk;have:=h.nm;omega⟩
  unfold runP at h0⊢
  by_cases hq0:q.length=0
  ·
   rw[if_pos hq0] at h0⊢
   by_cases hfd:fd<0
   ·
    rw[if_pos hfd] at h0;cases h0
   ·
    rw[if_neg hfd];exact hfnd hfd
  ·
   rw[if_neg hq0] at h0⊢
   have hq:0<q.length:=by omega
   have hlt:((popD q).take (q.length-1)).length=q.length-1:=by rw[List.length_take,zgo];omega
   cases hd:gti S.dn (gti q 0).2.toNat with
   |true=>
    rw[hd,if_pos J] at h0
    rw[if_pos J]
    exact ztb hc f _ _ _ _ O (h.skip hq hd) hp hO (by rw[hlt];omega) h0
   | false=>
    rw[hd,if_neg xe] at h0
    rw[if_neg xe]
    obtain⟨t1,t2,t3,t4⟩:=h.top hq hd
    by_cases hb:0≤fd∧gti S.co fd.toNat<(gti q 0).1
    ·
     rw[if_pos hb];exact hfnd xa
    ·
     rw[if_neg hb] at h0⊢
     by_cases hl:most<nr+1
     ·
      rw[if_pos hl] at h0;cases h0
     ·
      rw[if_neg hl] at h0⊢
      have hT:=h.take hc hq hd xa
      have hx:(gti q 0).2.toNat<S.st.length:=t1
      have hdr:=znf hdi hx hd (fun k hk hdk=>by rw[t3];exact t4 k hk hdk)
      rw[t3] at hdr
      have hen:=h.qi.en _ (gti_mem hq)
      have gd: ∀k,gti (S.dn.set (gti q 0).2.toNat true) k=if (gti q 0).2.toNat=k then true else gti S.dn k:=fun k=>zhg _ _ _ _ (by rw[hdi.l2];exact hx)
      have hq2:QI {S with dn:=S.dn.set (gti q 0).2.toNat true} ((popD q).take (q.length-1)) (1000*(nr+1)):=by
       refine QI.mono (b:=1000*nr) ⟨zvh h.qi.hp,fun e he=>h.qi.en e (zqc he),fun k hk hdk=>?_,h.qi.cb⟩ xa
       replace hdk:gti (S.dn.set (gti q 0).2.toNat true) k=false:=hdk
       rw[gd] at hdk
       split at hdk
       ·
        cases hdk
       ·
        rename_i hxk
        rcases zqd hq (h.qi.cv k hk hdk) with h1|h1
        ·
         exact absurd (show(gti q 0).2.toNat=k by rw[←h1];exact Int.toNat_natCast k) hxk
        ·
         exact h1
      have hpa:=z5m hc (s0:=s0) (b:=1000*(nr+1)) hen.2.2.2.1 xa (zb8 n w (gti S.st (gti q 0).2.toNat)) {S with dn:=S.dn.set (gti q 0).2.toNat true} _ [] (fun m hm=>hm) hdr hq2 (z7r hp hdi.l2 hx)
      exact ztb hc f _ _ _ _ _ hT.1 hpa (by rw[List.length_cons];omega) (by have:=hT.2;have:=h.nm;omega) h0
theorem ini_pa (hs:okS n w s0):PA n w c (iniS s0) []:=by
 have one: ∀k,k<(iniS s0).st.length→k=0:=fun k hk=>by simp[iniS] at hk;exact hk
 exact⟨rfl,fun k=>⟨fun h=>(by cases h),fun ⟨h1,h2⟩=>by rw[one k h1] at h2;cases h2⟩,fun k hk h0=>absurd (one k hk) h0,trivial⟩
theorem zp6 (hc:vcB c=true)(hs2:(zb0 n w).2=0)(hm:1≤most)(h0:(srP n w c most).2.2=0):Fnd n w c (zb0 n w).1 (endE n w).1 most (srP n w c most).1 (srP n w c most).2.1:=by
 have hs:=(zhb hs2).2.2.2.2.1
 exact ztb (goal:=(endE n w).1) hc (most.toNat*1000+3) _ _ _ _ [] (z0p hs hm) (ini_pa hs) rfl (by simp;omega) h0
def alnP (n:Net)(w:List ByteArray)(c:Cst)(most:Int):List Stp:=wayB (srP n w c most).1 (most.toNat+1) (srP n w c most).2.1.toNat
theorem z6f (hc:vcB c=true)(hs2:(zb0 n w).2=0)(hm:1≤most)(h0:(srP n w c most).2.2=0):
  Wy n w c (zb0 n w).1 (alnP n w c most) (endE n w).1 (zhj (srP n w c most))∧((alnP n w c most).length:Int)≤most:=by
 have h:=zp6 hc hs2 hm h0
 obtain⟨O,h1,h2,h3⟩:=h.way
 have h4:=zx7 h2 h.z.1 h.z.2 O (fun _ h=>h) h2.ch (most.toNat+1) _ h3 xa
 rw[h.g] at h4
 refine⟨?_,?_⟩
 ·
  unfold zhj;rw[if_pos h0];exact h4.1
 ·
  have:=h4.2
  unfold alnP
  omega
end
end Dl
namespace Dl
open Go.RowKit
section
variable {n:Net}{w:List ByteArray}{c:Cst}{most:Int}{s0 goal:List Int}
structure JI (n:Net)(w:List ByteArray)(c:Cst)(s0:List Int)(x:Nat)(cx:Int)(xs:List Int)(b:Int)(A B:Nat)(S:Sr)(q:List En)(k:Nat):Prop where
 dr: ∃pr,DR (nxD n w c) s0 (okS n w) S cx x pr
 qi:QI S q b
 dn: ∃D,Dn S D
 hx:gti S.st x=xs
 ql:q.length≤A+k
 sl:S.st.length≤B+k
theorem JI.step (hc:vcB c=true){x:Nat}{cx b:Int}{xs:List Int}{A B:Nat}{S:Sr}{q:List En}{k:Nat}(h:JI n w c s0 x cx xs b A B S q k)(hk:k<(zb8 n w xs).length)(hx0:0≤cx)(hb:cx+1000≤b){m:Stp}(hm:gti (zb8 n w xs) k=m){y:List Int}(hy:(zbk n w xs m).1=y):
  JI n w c s0 x cx xs b A B (metE S y (cx+zbf c m.kind) x m) (if chpE S y (cx+zbf c m.kind) then zix q (cx+zbf c m.kind,(idx S.st y:Int)) else q) (k+1):=by
 obtain⟨⟨pr,hdr⟩,hq,⟨D,hD⟩,hx,hql,hsl⟩:=h
 have hmm:m∈zb8 n w (gti S.st x):=by rw[hx, ←hm];exact gti_mem hk
 obtain⟨r1,r2,r3,r4,r5,r6⟩:=zyt hc hx0 hb [m] S q pr (fun z hz=>by rw[List.mem_singleton.1 hz];exact hmm) hdr hq hD
 have hst:=r4.st x hdr.xl
 subst hx
 subst hy
 exact⟨⟨_,r1⟩,r2,⟨D,r3⟩,hst,Nat.le_trans (show _≤q.length+1 from r5) xa,Nat.le_trans (show _≤S.st.length+1 from r6) xa⟩
theorem PI.mark {S:Sr}{q:List En}{fd nr:Int}(h:PI n w c s0 goal most S q fd nr)(hq:0<q.length){cx:Int}{x:Nat}(he:gti q 0=(cx,(x:Int)))(hd:gti S.dn x=false):
  JI n w c s0 x cx (gti S.st x) (1000*(nr+1)) (q.length-1) S.st.length {S with dn:=S.dn.set x true} ((popD q).take (q.length-1)) 0∧0≤cx∧cx+1000≤1000*(nr+1):=by
 have ht:=h.top hq (by rw[he];exact hd)
 obtain⟨cx1,hdi⟩:=h.di
 obtain⟨D,hD,hDl⟩:=h.dn
 obtain⟨t1,t2,t3,t4⟩:=ht
 have hen:=h.qi.en _ (gti_mem hq)
 rw[he] at t1 t2 t3 t4 hen
 replace t1:x<S.st.length:=t1
 replace t3:gti S.co x=cx:=t3
 replace t4: ∀k,k<S.st.length→gti S.dn k=false→cx≤gti S.co k:=t4
 have hdr:=znf hdi t1 hd (fun k hk hdk=>by rw[t3];exact t4 k hk hdk)
 rw[t3] at hdr
 have gd: ∀k,gti (S.dn.set x true) k=if x=k then true else gti S.dn k:=fun k=>zhg _ _ _ _ (by rw[hdi.l2];exact t1)
 have hD2:=zng hD hdi.nd hdi.l2 t1 hd
 have hq2:QI {S with dn:=S.dn.set x true} ((popD q).take (q.length-1)) (1000*(nr+1)):=by
  refine QI.mono (b:=1000*nr) ⟨zvh h.qi.hp,fun e he=>h.qi.en e (zqc he),fun k hk hdk=>?_,h.qi.cb⟩ xa
  replace hdk:gti (S.dn.set x true) k=false:=hdk
  rw[gd] at hdk
  split at hdk
  ·
   cases hdk
  ·
   rename_i hxk
   rcases zqd hq (h.qi.cv k hk hdk) with h1|h1
   ·
    rw[he] at h1
    exact absurd (show x=k by have:=congrArg Prod.snd h1;dsimp only at this;omega) hxk
   ·
    exact h1
 have e1:0≤cx:=hen.2.2.2.1
 have e2:cx≤1000*nr:=hen.2.2.2.2
 exact⟨⟨⟨_,hdr⟩,hq2,⟨_,hD2⟩,rfl,by rw[List.length_take];omega,Nat.le_refl _⟩,e1,by omega⟩
theorem ok_len {S:Sr}{q:List En}{fd nr:Int}(h:PI n w c s0 goal most S q fd nr)(hm:most≤2000):q.length≤400001∧S.st.length≤400001:=by
 have:=h.ql
 have:=h.sl
 have:=h.nm
 omega
end
end Dl
namespace Dl
open Go.RowKit
section
variable {n:Net}{w:List ByteArray}{c:Cst}{most:Int}{s0 goal:List Int}
structure JR (n:Net)(w:List ByteArray)(c:Cst)(s0:List Int)(x:Nat)(cx:Int)(xs:List Int)(b:Int)(B:Nat)(S:Sr)(k:Nat):Prop where
 dr: ∃pr,DR (nxD n w c) s0 (okS n w) S cx x pr
 cb:Cb S b
 dn: ∃D,Dn S D
 hx:gti S.st x=xs
 sl:S.st.length≤B+k
theorem JR.step (hc:vcB c=true){x:Nat}{cx b:Int}{xs:List Int}{B:Nat}{S:Sr}{k:Nat}(h:JR n w c s0 x cx xs b B S k)(hk:k<(zb8 n w xs).length)(hx0:0≤cx)(hb:cx+1000≤b){m:Stp}(hm:gti (zb8 n w xs) k=m){y:List Int}(hy:(zbk n w xs m).1=y):
  JR n w c s0 x cx xs b B (metE S y (cx+zbf c m.kind) x m) (k+1):=by
 obtain⟨⟨pr,hdr⟩,hq,⟨D,hD⟩,hx,hsl⟩:=h
 have hmm:m∈zb8 n w (gti S.st x):=by rw[hx, ←hm];exact gti_mem hk
 obtain⟨r1,r2,r3,r4,r5⟩:=ztd hc hx0 hb [m] S pr (fun z hz=>by rw[List.mem_singleton.1 hz];exact hmm) hdr hq hD
 have hst:=r4.st x hdr.xl
 subst hx
 subst hy
 exact⟨⟨_,r1⟩,r2,⟨D,r3⟩,hst,Nat.le_trans (show _≤S.st.length+1 from r5) xa⟩
theorem RI.mark {S:Sr}{en nr:Int}(h:RI n w c s0 goal most S en nr){x:Nat}(hx:x<S.st.length)(hd:gti S.dn x=false)(hm: ∀k,k<S.st.length→gti S.dn k=false→gti S.co x≤gti S.co k):
  JR n w c s0 x (gti S.co x) (gti S.st x) (1000*(nr+1)) S.st.length {S with dn:=S.dn.set x true} 0∧0≤gti S.co x∧gti S.co x+1000≤1000*(nr+1):=by
 obtain⟨cx1,hdi⟩:=h.di
 obtain⟨D,hD,hDl⟩:=h.dn
 have hdr:=znf hdi hx hd hm
 have hD2:=zng hD hdi.nd hdi.l2 hx hd
 have hc:=h.cb x hx
 exact⟨⟨⟨_,hdr⟩,fun k hk=>by have:=h.cb k hk;exact⟨this.1,by show gti S.co k≤_;omega⟩,⟨_,hD2⟩,rfl,Nat.le_refl _⟩,hc.1,by omega⟩
theorem ri_len {S:Sr}{en nr:Int}(h:RI n w c s0 goal most S en nr)(hm:most≤2000):S.st.length≤400001:=by
 have:=h.sl
 have:=h.nm
 omega
theorem z64 {f:Nat}{S:Sr}{en nr:Int}{x:Nat}(hb:bstR S S.st.length=x)(hst: ¬ ((x:Int)<0∨(0≤en∧gti S.co en.toNat<gti S.co x)))(hl: ¬most<nr+1):
  refR n w c most goal (f+1) S en nr=refR n w c most goal f (rlxR n w c x (gti S.co x) (zb8 n w (gti S.st x)) {S with dn:=S.dn.set x true}) (if gti S.st x=goal then(x:Int) else en) (nr+1):=by
 conv=>lhs;unfold refR
 rw[hb]
 exact(if_neg hst).trans (if_neg hl)
theorem RI.takeN (hc:vcB c=true){S:Sr}{en nr:Int}{x:Nat}(h:RI n w c s0 goal most S en nr)(hx:x<S.st.length)(hd:gti S.dn x=false)(hm: ∀k,k<S.st.length→gti S.dn k=false→gti S.co x≤gti S.co k)(hn:nr+1≤most):
  RI n w c s0 goal most (rlxR n w c x (gti S.co x) (zb8 n w (gti S.st x)) {S with dn:=S.dn.set x true}) (if gti S.st x=goal then(x:Int) else en) (nr+1):=
 h.take (b:=(x:Int)) hc xa hx hd hm hn
end
end Dl
section
open Go.RowKit
end
section
open Go.RowKit
section
variable {n:Net}{w:List ByteArray}{s:List Int}(hz:zb1 n w s=true)
include hz
end
end
section
open Go.RowKit
section
variable {n:Net}{w:List ByteArray}{s:List Int}(hz:zb1 n w s=true){acts:List ByteArray}(hn:acts.Nodup)(hw: ∀i,i<w.length→gti w i∈acts)
include hz hn hw
end
section
variable {n:Net}{w:List ByteArray}{s:List Int}(hz:zb1 n w s=true){acts:List ByteArray}(hn:acts.Nodup)(hl: ∀i,i<n.trans.length→(gti n.trans i).label∈acts)(hw: ∀i,i<w.length→gti w i∈acts)
include hz hn hl
include hw
end
end
section
open Go.RowKit
theorem zmz {n:Net}{w:List ByteArray}{x:Stp}: ∀ {l:List Stp} {s t:List Int},runA n w s l=some t→(zdt n w t x).2=0→runA n w s (l++[x])=some (zdt n w t x).1
 |[],s,t,h,ha=>by
  simp only[runA,Option.some.injEq] at h
  subst h
  simp only[List.nil_append,runA,if_pos ha]
 | m::ms,s,t,h,ha=>by
  rw[runA] at h
  split at h
  ·
   rename_i h0
   rw[List.cons_append,runA,if_pos h0]
   exact zmz h ha
  ·
   cases h
theorem zpy {c:Cst}(l:List Stp)(x:Stp): ∀k,k≤l.length→zcr c (l++[x]) k=zcr c l k
 |0,_=>rfl
 |k+1,h=>by
  rw[zcr,zcr,zpy l x k xa]
  congr 3
  unfold gti
  rw[List.getElem?_append_left xa]
theorem zoc {c:Cst}(l:List Stp)(x:Stp):zcr c (l++[x]) (l++[x]).length=zcr c l l.length+zbf c x.kind:=by
 rw[List.length_append,List.length_singleton,zcr,zpy l x _ (Nat.le_refl _)]
 congr 3
 unfold gti
 simp
structure BI (n:Net)(w:List ByteArray)(c:Cst)(p:Int)(m:List Int)(l:List Stp)(k:Int):Prop where
 run:runA n w (zfx n) l=some (p::m)
 mark:zdd n m=true
 kinds: ∀x∈l,zfl x.kind=true
 cost:zcr c l l.length=k
theorem BI.start {n:Net}{w:List ByteArray}{c:Cst}(hv:zb7 n=true):BI n w c 0 (oneL n.places.toNat n.source) [] 0:=by
 refine⟨rfl,?_,(fun x hx=>absurd hx xm),rfl⟩
 rw[zdd,hv,zna _ (zbu hv).1]
 rfl
theorem BI.add {n:Net}{w:List ByteArray}{c:Cst}{p q:Int}{m m':List Int}{l:List Stp}{k:Int}{x:Stp}(h:BI n w c p m l k)(hk:zfl x.kind=true)(ha:zdt n w (p::m) x=(q::m',0))(hm:zdd n m'=true):
  BI n w c q m' (l++[x]) (k+zbf c x.kind):=by
 refine⟨?_,hm,?_,?_⟩
 ·
  rw[zmz h.run (by rw[ha]),ha]
 ·
  intro y hy
  rcases List.mem_append.1 hy with hy|hy
  ·
   exact h.kinds y hy
  ·
   rw[List.mem_singleton.1 hy];exact hk
 ·
  rw[zoc,h.cost]
theorem z6g {w:List ByteArray}(h:zd0 w=true){k:Nat}(hk:k<w.length):zf9 (gti w k)=true:=by
 unfold zd0 at h
 simp only[Bool.and_eq_true,List.all_eq_true] at h
 exact h.2 _ (gti_mem hk)
theorem BI.log {n:Net}{w:List ByteArray}{c:Cst}{p:Nat}{m:List Int}{l:List Stp}{k:Int}(h:BI n w c p m l k)(hw:zd0 w=true)(hp:p<w.length):
  BI n w c ((p+1:Nat):Int) m (l++[⟨2, -1,gti w p⟩]) (k+c.log):=by
 have:=h.add (x:=⟨2, -1,gti w p⟩) (q:=((p+1:Nat):Int)) (m':=m) rfl ?_ h.mark
 ·
  exact this
 ·
  unfold zdt
  have ha:atB w (gti ((p:Int)::m) 0) (gti w p)=true:=by
   rw[zgz,atB]
   simp[hp]
  rw[if_pos J,if_neg xm,if_neg (by rw[z6g hw hp];simp),if_neg (by rw[ha];simp),zgz]
  simp
end
namespace Dl
open Go.RowKit
section
variable {n:Net}{w:List ByteArray}{c:Cst}{most:Int}
theorem z2r {s s':List Int}{l:List Stp}{a:Int}(h:Wy n w c s l s' a)(hs:okS n w s):okS n w s'∧runA n w s l=some s'∧zcr c l l.length=a∧ ∀m∈l,zfl m.kind=true:=by
 induction h with
 |nil=>exact⟨hs,rfl,rfl,fun m hm=>by cases hm⟩
 | snoc l s' a m h hm ih=>
  obtain⟨i1,i2,i3,i4⟩:=ih
  obtain⟨m1,m2,m3⟩:=zka i1 hm
  have e:=zol i1 m2
  refine⟨m3,?_,by rw[zoc,i3],fun x hx=>?_⟩
  ·
   rw[e] at m1⊢
   exact zmz i2 m1
  ·
   rcases List.mem_append.1 hx with hx|hx
   ·
    exact i4 x hx
   ·
    simp at hx;subst hx;exact m2
theorem z2d (hc:vcB c=true)(hs2:(zb0 n w).2=0)(hm:1≤most∧most≤2000)(h0:(srP n w c most).2.2=0):zgi n w c (alnP n w c most) (zhj (srP n w c most))=true:=by
 obtain⟨h1,h2⟩:=z6f hc hs2 hm.1 h0
 obtain⟨s1,s2,s3,s4,s5,s6⟩:=zhb hs2
 obtain⟨r1,r2,r3,r4⟩:=z2r h1 s5
 unfold zgi
 have hst:zfx n=(zb0 n w).1:=by rw[s3];rfl
 have hen:(endE n w).1=endS n w:=by rw[s4];rfl
 have hf:fineB (alnP n w c most)=true:=by
  unfold fineB
  simp only[Bool.and_eq_true,List.all_eq_true,decide_eq_true_eq]
  exact⟨by omega,r4⟩
 rw[s1,s2,hc,hf,hst,r2,hen,decide_eq_true r3]
 show(true && true && (true && true) && true && decide (endS n w=endS n w))=true
 rw[decide_eq_true J];rfl
end
end Dl
end Go.Proofs.YtjdpnadhgjohnaaGreatDoor
