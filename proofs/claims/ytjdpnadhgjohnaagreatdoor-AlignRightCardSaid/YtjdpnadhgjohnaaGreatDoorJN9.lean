import Derived.Test.YtjdpnadhgjohnaaGreatDoorJN0
import Derived.Test.YtjdpnadhgjohnaaGreatDoorJN6
import Derived.Lib.SliceRun
set_option linter.unusedSimpArgs false
set_option linter.unusedVariables false
set_option linter.unusedSectionVars false
namespace Go.Proofs.YtjdpnadhgjohnaaGreatDoor
section
open Go.RowKit
set_option maxRecDepth 100000 in
set_option maxHeartbeats 1000000 in
theorem z1z (l:List Int)(v:Value)(lo hi:Nat)(w:World)(hv:RdI w lo hi v l)(hl:l.length≤1000000):
  Calls Tryz.prog 183 #[v] w fun e w'=> ∃A c,e= .returned (.slice A l.length c)∧OwnI w' w.heap.size w'.heap.size (.slice A l.length c) l∧Below w.heap.size w w':=by
 have hq: ∀ (w:World) (a:Option Addr) (n c n' c':Nat),(binOp .eql 38 (.slice a n c) (.slice none n' c')).run Tryz.prog w= .ok (.bool a.isNone) w:=fun w a n c n' c'=>Lib.run_eql_slice_nil w _ _ a n c n' c' Tryz.underlying38
 obtain⟨A,c,rfl,hc,hm⟩:=hv.form
 have HV:=Lib.hid hv
 have HL:=Lib.hid hl
 clear hl
 rcases A with _|ad
 ·
  have hnil:l=[]:=by
   rcases Nat.eq_zero_or_pos l.length with h0|h0
   ·
    exact List.eq_nil_of_length_eq_zero h0
   ·
    obtain⟨b,off,h,_⟩:=RdC.cells hv h0
    cases h
  clear hv
  subst hnil
  refine zak fun R hR=>?_
  have HR:=Lib.hid hR
  clear hR
  go_enter Tryz.func183,Tryz.ntmps183
  go_wp2_with fail
  exact HR.out _ _ ⟨none,0,rfl,Own.nil _ _ _,Below.refl _ _⟩
 ·
  clear hv
  refine zak fun R hR=>?_
  have HR:=Lib.hid hR
  clear hR
  go_enter Tryz.func183,Tryz.ntmps183
  have M:Hid (Mem [Loc.owI w.heap.size (w.heap.size+1) (.slice (some ⟨w.heap.size,0,none⟩) 0 0) [],Loc.bl w.heap.size w] (w.alloc (.cells #[] 3))):=Lib.hid ⟨Own.lit w 3 w.heap.size [] #[] 0 J J (Nat.le_refl _) (Nat.zero_le _) (fun _=>rfl),⟨(Below.refl _ _).alloc (Nat.le_refl _) _,by simp⟩,True.intro⟩
  go_wp2_with (at_builtin;refine zcz J _ _ J zhm (fun _=>rfl) oneI J J (M.out) (by(repeat' (first|exact True.intro|refine And.intro (fun k hk e=>?_) ?_))<;>(first|exact e|((try dsimp only[Loc.c1,Loc.c2,Loc.k1,Loc.k2,Loc.k3,Loc.k4,Loc.k6,Loc.fr,Loc.bl,Loc.own,Loc.sz,Loc.rd,Loc.rdI,Loc.rdS,Loc.rdM,Loc.rdT,Loc.ow,Loc.owI] at hk e)<;>omega))) (HV.out.after ((Below.refl _ _).alloc (Nat.le_refl _) _)) (by have:=HL.out;simp;omega) (by have:=HL.out;simp;omega) (by simp) ?_;intro A1 c1 w1 hM1 hs1 hch1;replace M:=Lib.hid hM1;clear hM1 hch1)
  refine HR.out _ _ ⟨A1,c1,?_,?_,M.out.2.1.1⟩
  ·
   simp
  ·
   have:=M.out.1
   simp only[List.length_nil,Nat.zero_add,List.nil_append] at this
   exact this
def maxI:Int→List Int→Int
 |x,[]=>x
 |x,y::l=>maxI (max x y) l
theorem zz8 (b:Int): ∀ (l:List Int) (x:Int),decide (b<maxI x l)=(x::l).any fun y=>decide (b<y)
 |[],x=>by simp[maxI]<;>rfl
 |y::l,x=>by
  rw[maxI,zz8 b l]
  simp only[List.any_cons]
  grind
set_option maxHeartbeats 1000000 in
theorem z7p (x:Int)(l:List Int)(v:Value)(lo hi:Nat)(w:World)(hv:RdI w lo hi v (x::l)):
  Calls Tryz.prog 191 #[v] w fun e w'=>e= .returned (.int .i64 (maxI x l))∧Below w.heap.size w w':=by
 have hx0:=hv
 obtain⟨A,c,rfl,hc,hm⟩:=hv.form
 obtain⟨b,off,rfl,_,_,hcell0⟩:=RdI.at1 hv (k:=0) xm
 have HV:=Lib.hid hv
 simp only[gti,List.getElem?_cons_zero,Option.getD_some,Nat.add_zero] at hcell0
 simp only[List.length_cons] at hc hm
 clear hv hx0
 refine zak fun R hR=>?_
 have HR:=Lib.hid hR
 clear hR
 go_enter Tryz.func191,Tryz.ntmps191
 go_wp2_with fail
 go_loop [3,4] (fun v3 v4=> ∃ (k:Nat) (y:Int),k≤l.length∧v3= .int .i64 y∧v4= .int .i64 (k+1:Nat)∧Hid (maxI y (l.drop k)=maxI x l)) (fun _ v4=>l.length+1-(intOf v4).toNat)
 case atStart=>exact⟨0,x,by omega,rfl,rfl,Lib.hid J⟩
 case round=>
  obtain⟨k,y,hk,rfl,rfl,HI⟩:=hrel
  by_cases hlt:k<l.length
  ·
   obtain⟨_,_,e,_,_,hcell⟩:=RdI.at1 HV.out (k:=k+1) (by simp;omega)
   injection e with e
   injection e with e1 e2
   subst e1 e2
   have HD:=Lib.hid (zc2 hlt)
   have e3:gti (x::l) (k+1)=gti l k:=by simp[gti]
   rw[e3] at hcell
   clear e3
   generalize gti l k=z at*
   go_wp2_with fail
   refine⟨⟨k+1,_,by omega,rfl,by go_num,Lib.hid ?_⟩,by simp[intOf];omega⟩
   have h:=HI.out
   rw[HD.out,maxI] at h
   rw[←h]
   try (congr 1;omega)
  ·
   obtain rfl:k=l.length:=by omega
   have HE:=HI.out
   simp only[List.drop_length,maxI] at HE
   have HE:=Lib.hid HE
   go_wp2_with fail
   exact HR.out _ _ ⟨zfj (by first|exact HE.out|rfl),Below.refl _ _⟩
def enB (t:Tr)(m:List Int):Bool:=!t.inn.any fun p=>decide (gti m p.toNat=0)
theorem zsm:Ent 230:=zdf Tryz.func230 (by kernel_rfl) rfl
set_option maxHeartbeats 400000 in
theorem zsn (m:List Int)(v:Value)(lo hi g:Nat)(p:Int)(w:World)(hg:C1 w g 0 v)(hv:RdI w lo hi v m)(h0:0≤p)(h1:p<m.length):
  Calls Tryz.prog 230 #[.int .i64 p, .pointer (some ⟨g,0,none⟩)] w fun e w'=>e= .returned (.bool (decide (gti m p.toNat=0)))∧Below w.heap.size w w':=by
 obtain⟨k,rfl⟩: ∃k:Nat,p=k:=⟨p.toNat,by omega⟩
 have hlt:k<m.length:=by omega
 clear h0 h1
 obtain⟨A,c,rfl,hc,hm⟩:=hv.form
 obtain⟨b,off,rfl,_,_,hcell⟩:=RdI.at1 hv hlt
 have HV:=Lib.hid hv
 clear hv
 simp only[Int.toNat_natCast]
 refine zak fun R hR=>?_
 have HR:=Lib.hid hR
 clear hR
 go_enter Tryz.func230,Tryz.ntmps230
 go_wp2_with fail
 all_goals (refine HR.out _ _ ⟨zbd ?_,Below.refl _ _⟩<;>(go_light;grind))
abbrev trV (t:Tr)(vi vo:Value):Value:= .agg #[.string t.label,vi,vo]
set_option maxRecDepth 100000 in
set_option maxHeartbeats 400000 in
theorem zn2 (t:Tr)(vi vo:Value)(m:List Int)(v:Value)(lo hi lo' hi':Nat)(w:World)(hi1:RdI w lo hi vi t.inn)(hv:RdI w lo' hi' v m)(hin: ∀p∈t.inn,0≤p∧p<m.length):
  Calls Tryz.prog 188 #[trV t vi vo,v] w fun e w'=>e= .returned (.bool (enB t m))∧Below w.heap.size w w':=by
 obtain⟨A,c,rfl,hc,hm⟩:=hv.form
 obtain⟨A2,c2,rfl,hc2,hm2⟩:=hi1.form
 have HV:=Lib.hid hv
 have HI:=Lib.hid hi1
 have HN:=Lib.hid hin
 clear hv hi1 hin
 have HC:Hid (∀W,Mem [Loc.c1 (w.heap.size+1) 0 (.slice A m.length c),Loc.bl w.heap.size w] W→Calls Tryz.prog 189 #[.slice A2 t.inn.length c2, .func (.func 230) #[] #[.pointer (some ⟨w.heap.size+1,0,none⟩)]] W fun e w'=>e= .returned (.bool (t.inn.any fun p=>decide (gti m p.toNat=0)))∧Below W.heap.size W w'):=
  Lib.hid (fun W hM=>zjc 230 zsm #[.pointer (some ⟨w.heap.size+1,0,none⟩)] (fun p=>decide (gti m p.toNat=0)) t.inn lo hi _ W (HI.out.after hM.2.1.1) (fun a ha W' hW'=>zsn m _ lo' hi' _ a W' (hM.below hW').1 ((HV.out.after hM.2.1.1).after hW') (HN.out a ha).1 (HN.out a ha).2))
 refine zak fun R hR=>?_
 have HR:=Lib.hid hR
 clear hR
 go_enter Tryz.func188,Tryz.ntmps188
 have M:Hid (Mem [Loc.c1 (w.heap.size+1) 0 (.slice A m.length c),Loc.bl w.heap.size w] ((w.alloc (Obj.cells #[Value.string t.label,Value.slice A2 t.inn.length c2,vo] 76)).alloc (Obj.cells #[Value.slice A m.length c] 38))):=Lib.hid ⟨by simp[C1,go_sem],⟨((Below.refl _ _).alloc (Nat.le_refl _) _).alloc xm _,by simp;omega⟩,True.intro⟩
 go_wp2_with (go_at_call 189;refine(HC.out _ M.out).mono ?_;rintro e w1 ⟨rfl,hb1⟩;replace M:=Lib.hid (M.out.below hb1);clear hb1;skip)
 exact HR.out _ _ ⟨rfl,M.out.2.1.1⟩
theorem zet {n:Int}{l:List Int}(h:zcn n l=true){k:Nat}(hk:k<l.length):0≤gti l k∧gti l k<n∧(k:Int)≤gti l k:=by
 have hall: ∀j,j<l.length→ ¬badP n l j:=by
  intro j hj hb
  rw[zez hj hb] at h
  cases h
 have h1:=hall k hk
 unfold badP at h1
 refine⟨by omega,by omega,?_⟩
 induction k with
 |zero=>omega
 |succ k ih=>
  have h2:=hall k xa
  unfold badP at h2
  have:=ih xa h2
  simp only[Nat.add_sub_cancel] at h1
  omega
theorem zhd {n:Int}{l:List Int}(h:zcn n l=true):(l.length:Int)≤n∨l.length=0:=by
 rcases Nat.eq_zero_or_pos l.length with h0|h0
 ·
  exact .inr h0
 ·
  have:=zet h (k:=l.length-1) xa
  omega
theorem zz6 {α:Type}[Inhabited α]{l:List α}{a:α}(h:a∈l): ∃k,k<l.length∧gti l k=a:=by
 obtain⟨k,hk,rfl⟩:=List.mem_iff_getElem.1 h
 exact⟨k,hk,by unfold gti;rw[List.getElem?_eq_getElem hk];rfl⟩
theorem zm8 {n:Int}{l:List Int}(h:zcn n l=true){p:Int}(hp:p∈l):0≤p∧p<n:=by
 obtain⟨k,hk,rfl⟩:=zz6 hp
 have:=zet h hk
 exact⟨this.1,this.2.1⟩
theorem zri {n:Net}: ∀ {l:List Tr},zhu n l=true→ ∀t∈l,trB n.places t=true
 |[],_,t,ht=>by cases ht
 | x::l,h,t,ht=>by
  simp only[zhu] at h
  split at h
  ·
   rcases List.mem_cons.1 ht with rfl|ht
   ·
    assumption
   ·
    exact zri h t ht
  ·
   cases h
theorem zjw {n:Net}(h:zb7 n=true){t:Tr}(ht:t∈n.trans):(t.label.toList.isEmpty||zf9 t.label)=true∧zcn n.places t.inn=true∧zcn n.places t.out=true:=by
 unfold zb7 at h
 split at h
 ·
  cases h
 ·
  have:=zri h t ht
  unfold trB at this
  simp only[Bool.and_eq_true] at this
  exact⟨this.1.1,this.1.2,this.2⟩
theorem gti_mem {α:Type}[Inhabited α]{l:List α}{k:Nat}(h:k<l.length):gti l k∈l:=List.mem_of_getElem? (zbr h)
theorem zft {n:Net}{m:List Int}(h:zdx n m=true):(m.length:Int)=n.places:=by
 unfold zdx at h
 split at h
 ·
  cases h
 ·
  omega
theorem zwn: ∀ {m:List Int},zkv m=true→ ∀k,0≤gti m k∧gti m k≤100
 |[],_,k=>by simp[gti]
 | x::m,h,k=>by
  simp only[zkv] at h
  split at h
  ·
   cases h
  ·
   cases k with
   |zero=>simp[gti];omega
   |succ k=>
    have:=zwn h k
    simpa[gti] using this
theorem zgw {n:Net}{m:List Int}(h:zdx n m=true)(k:Nat):0≤gti m k∧gti m k≤100:=by
 unfold zdx at h
 split at h
 ·
  cases h
 ·
  exact zwn h k
def zge (m:List Int):Nat→List Tr→List Int
 |_,[]=>[]
 |i,t::ts=>if enB t m then(i:Int)::zge m (i+1) ts else zge m (i+1) ts
def zkl (n:Net)(m:List Int):List Int × Int:=if zdd n m then(zge m 0 n.trans,0) else([],1)
theorem zk5 {n:Net}{m:List Int}{b:Bool}(hb:zdd n m=b)(vt v:Value)(lo hi lo' hi':Nat)(w:World)(hv:RdT w lo hi vt n.trans)(hm:RdI w lo' hi' v m):
  Calls Tryz.prog 146 #[netV n vt,v] w fun e w'=>e= .returned (.bool b)∧Below w.heap.size w w':=hb▸ztn n m vt v lo hi lo' hi' w hv hm
set_option maxHeartbeats 1000000 in
theorem zus (n:Net)(m:List Int)(vt v:Value)(lo hi lo' hi':Nat)(w:World)(hv:RdT w lo hi vt n.trans)(hm:RdI w lo' hi' v m):
  Calls Tryz.prog 145 #[netV n vt,v] w (RetI w (zkl n m)):=by
 obtain⟨A,c,rfl,hc,hmm⟩:=hv.form
 obtain⟨A2,c2,rfl,hc2,hmm2⟩:=hm.form
 have HV:=Lib.hid hv
 have HW:=Lib.hid hm
 clear hv hm
 cases hvb:zdd n m
 ·
  have HVB:=Lib.hid hvb
  clear hvb
  refine zak fun R hR=>?_
  have HR:=Lib.hid hR
  clear hR
  go_enter Tryz.func145,Tryz.ntmps145
  have M:Hid (Mem [Loc.k4 w.heap.size (.int .i64 n.places) (.slice A n.trans.length c) (.int .i64 n.source) (.int .i64 n.sink),Loc.bl w.heap.size w] (w.alloc (.cells #[.int .i64 n.places, .slice A n.trans.length c, .int .i64 n.source, .int .i64 n.sink] 24))):=Lib.hid ⟨K4.new w _ _ _ _ _,⟨(Below.refl _ _).alloc (Nat.le_refl _) _,by simp⟩,True.intro⟩
  have hk4:=M.out.1
  go_wp2_with (go_at_call 146;refine(zk5 HVB.out _ _ lo hi lo' hi' _ (HV.out.after M.out.2.1.1) (HW.out.after M.out.2.1.1)).mono ?_;rintro e w1 ⟨rfl,hb1⟩;replace M:=Lib.hid (M.out.below hb1);clear hb1;replace hk4:=M.out.1)
  exact HR.out _ _ (RetI.nil (by rw[zkl,HVB.out];rfl) M.out.2.1.1)
 ·
  have HVB:=Lib.hid hvb
  have hval:zb7 n=true:=by unfold zdd at hvb;simp at hvb;exact hvb.1
  have HMK:Hid (zdx n m=true):=Lib.hid (by unfold zdd at hvb;simp at hvb;exact hvb.2)
  have HVAL:=Lib.hid hval
  have hpl:=(zbu hval).2.2
  clear hvb hval
  refine zak fun R hR=>?_
  have HR:=Lib.hid hR
  clear hR
  go_enter Tryz.func145,Tryz.ntmps145
  have M:Hid (Mem [Loc.k4 w.heap.size (.int .i64 n.places) (.slice A n.trans.length c) (.int .i64 n.source) (.int .i64 n.sink),Loc.bl w.heap.size w] (w.alloc (.cells #[.int .i64 n.places, .slice A n.trans.length c, .int .i64 n.source, .int .i64 n.sink] 24))):=Lib.hid ⟨K4.new w _ _ _ _ _,⟨(Below.refl _ _).alloc (Nat.le_refl _) _,by simp⟩,True.intro⟩
  have hk4:=M.out.1
  go_wp2_with (go_at_call 146;refine(zk5 HVB.out _ _ lo hi lo' hi' _ (HV.out.after M.out.2.1.1) (HW.out.after M.out.2.1.1)).mono ?_;rintro e w1 ⟨rfl,hb1⟩;replace M:=Lib.hid (M.out.below hb1);clear hb1;replace hk4:=M.out.1)
  go_loopw [16,6,7,8] (fun v16 v6 _ _ wr=> ∃ (k:Nat) (out:List Int) (B:Option Addr) (d hh:Nat),k≤n.trans.length∧v16= .int .i64 k∧v6= .slice B out.length d∧out.length≤k∧Hid (out++zge m k (n.trans.drop k)=zge m 0 n.trans)∧hh≤wr.heap.size∧Hid (Mem [Loc.owI w1.heap.size hh (.slice B out.length d) out,Loc.k4 w.heap.size (.int .i64 n.places) (.slice A n.trans.length c) (.int .i64 n.source) (.int .i64 n.sink),Loc.bl w.heap.size w,Loc.sz w1.heap.size] wr)) (fun v16 _ _ _ _=>n.trans.length-(intOf v16).toNat)
  case atStart=>exact⟨0,[],none,0,0,by omega,rfl,rfl,by simp,Lib.hid xm,by omega,Lib.hid ⟨Own.nil _ _ _,M.out.1,M.out.2.1,Nat.le_refl _,True.intro⟩⟩
  case round=>
   have hws:=M.out.2.1.2
   have hwk:=M.out.1.2.2.2.2
   clear M hk4
   obtain⟨k,out,B,d,hh,hk,rfl,rfl,hol,HI,hhs,HM⟩:=hrel
   have hk4:=HM.out.2.1
   by_cases hlt:k<n.trans.length
   ·
    obtain⟨b,off,vi,vo,rfl,_,_,hcell,hri,hro⟩:=RdT.at3 (HV.out.after HM.out.2.2.1.1) hlt
    have HD:=Lib.hid (zc2 hlt)
    have HTR:=Lib.hid (zjw HVAL.out (gti_mem hlt))
    obtain⟨Ai,ci,rfl,hci,hmi⟩:=hri.form
    obtain⟨Ao,co,rfl,hco,hmo⟩:=hro.form
    generalize gti n.trans k=t at*
    have M:Hid (Mem [Loc.owI w1.heap.size hh (.slice B out.length d) out,Loc.k4 w.heap.size (.int .i64 n.places) (.slice (some ⟨b,off,none⟩) n.trans.length c) (.int .i64 n.source) (.int .i64 n.sink),Loc.bl w.heap.size w,Loc.sz w1.heap.size,Loc.k3 wr.heap.size (.string t.label) (.slice Ai t.inn.length ci) (.slice Ao t.out.length co)] (wr.alloc (.cells #[.string t.label, .slice Ai t.inn.length ci, .slice Ao t.out.length co] 76))):=
     Lib.hid ⟨(HM.out.alloc _).1,(HM.out.alloc _).2.1,(HM.out.alloc _).2.2.1,(HM.out.alloc _).2.2.2.1,K3.new wr _ _ _ _,True.intro⟩
    have HRI:=Lib.hid (hri.after ((Below.refl _ _).alloc (Nat.le_refl _) (.cells #[.string t.label, .slice Ai t.inn.length ci, .slice Ao t.out.length co] 76)))
    clear HM hri hro
    replace hk4:=M.out.2.1
    have hk3:=M.out.2.2.2.2.1
    have hwz:=M.out.2.2.2.1
    go_wp2_with (first
     |(go_at_call 188;refine(zn2 t _ _ m _ lo hi lo' hi' _ HRI.out (HW.out.after M.out.2.2.1.1) (fun p hp=>by have:=zm8 HTR.out.2.1 hp;have:=zft HMK.out;omega)).mono ?_;rintro e w1 ⟨rfl,hb1⟩;replace M:=Lib.hid (M.out.below hb1);clear hb1;replace hk4:=M.out.2.1;replace hk3:=M.out.2.2.2.2.1)
     |(at_builtin;refine zcz J _ _ J zhm (fun _=>rfl) oneI J J (M.out.alloc _) (by(repeat' (first|exact True.intro|refine And.intro (fun k hk e=>?_) ?_))<;>(first|exact e|((try dsimp only[Loc.c1,Loc.c2,Loc.k1,Loc.k2,Loc.k3,Loc.k4,Loc.k6,Loc.fr,Loc.bl,Loc.own,Loc.sz,Loc.rd,Loc.rdI,Loc.rdS,Loc.rdM,Loc.rdT,Loc.ow,Loc.owI] at hk e)<;>omega))) (RdI.lit1 _ _ _) (by simp;omega) (by simp;omega) ((M.out.alloc _).2.2.2.1) ?_;intro A1 c1 w1 hM1 hs1 hch1;replace M:=Lib.hid hM1;clear hM1 hch1;(try simp only[World.size_alloc] at hs1);skip))
    all_goals have h:=HI.out
    all_goals rw[HD.out,zge] at h
    ·
     refine⟨⟨k+1,out++[(k:Int)],A1,c1,_,by omega,by go_num,by simp,by simp;omega,Lib.hid (by go_light;grind),Nat.le_refl _,Lib.hid ⟨by simpa using M.out.1,M.out.2.1,M.out.2.2.1,M.out.2.2.2.1,True.intro⟩⟩,by simp[intOf];omega⟩
    ·
     have hsz:=(M.out.2.2.2.2.1).2.2.2
     exact⟨⟨k+1,out,B,d,hh,by omega,by go_num,by simp,by omega,Lib.hid (by go_light;grind),by omega,Lib.hid ⟨M.out.1,M.out.2.1,M.out.2.2.1,M.out.2.2.2.1,True.intro⟩⟩,by simp[intOf];omega⟩
   ·
    obtain rfl:k=n.trans.length:=by omega
    have HE:Hid (out=zge m 0 n.trans):=Lib.hid (by have h:=HI.out;simpa[zge] using h)
    go_wp2_with fail
    exact HR.out _ _ (RetI.mk (l:=out) (by rw[zkl,HVB.out,if_pos J,HE.out]) J HM.out.1.rd hws hhs HM.out.2.2.1.1)
def decL:List Int→List Int→List Int
 |[],m=>m
 |p::ps,m=>decL ps (m.set p.toNat (gti m p.toNat-1))
def incL:List Int→List Int→List Int
 |[],m=>m
 |p::ps,m=>incL ps (m.set p.toNat (gti m p.toNat+1))
theorem zq2: ∀ps m,(decL ps m).length=m.length
 |[],m=>rfl
 |p::ps,m=>by rw[decL,zq2 ps,List.length_set]
theorem zqn: ∀ps m,(incL ps m).length=m.length
 |[],m=>rfl
 |p::ps,m=>by rw[incL,zqn ps,List.length_set]
def zl2 (n:Net)(m:List Int)(t:Int):List Int × Int:=
 if t<0∨n.trans.length≤t then([],2) else
 if enB (gti n.trans t.toNat) m then
  if (incL (gti n.trans t.toNat).out (decL (gti n.trans t.toNat).inn m)).any (fun y=>decide (100<y)) then([],5)
  else(incL (gti n.trans t.toNat).out (decL (gti n.trans t.toNat).inn m),0)
 else([],12)
def Bnd (B:Int)(l:List Int):Prop:= ∀i, -B≤gti l i∧gti l i≤B
theorem gti_set (l:List Int)(i j:Nat)(x:Int):gti (l.set i x) j=if i=j∧j<l.length then x else gti l j:=by
 unfold gti
 rw[List.getElem?_set]
 by_cases h:i=j
 ·
  subst h
  by_cases h2:i<l.length
  ·
   simp[h2]
  ·
   simp[h2]
 ·
  simp[h]
theorem Bnd.dec {B:Int}{l:List Int}(h:Bnd B l)(i:Nat):Bnd (B+1) (l.set i (gti l i-1)):=fun j=>by
 rw[gti_set]
 have:=h i
 have:=h j
 split<;>omega
theorem Bnd.inc {B:Int}{l:List Int}(h:Bnd B l)(i:Nat):Bnd (B+1) (l.set i (gti l i+1)):=fun j=>by
 rw[gti_set]
 have:=h i
 have:=h j
 split<;>omega
theorem C3.aft {w W:World}{b o:Nat}{x y z:Value}(hb:Below w.heap.size w W)(h:C3 w b o x y z):C3 W b o x y z:=by
 have hbs:=World.block_lt_of_cell? _ _ h.1
 exact⟨(hb.cell (p:=⟨b,o,none⟩) hbs).trans h.1,(hb.cell (p:=⟨b,o+1,none⟩) hbs).trans h.2.1,(hb.cell (p:=⟨b,o+2,none⟩) hbs).trans h.2.2⟩
def maxL (l:List Int):Int:=maxI (gti l 0) l.tail
theorem z7q (b:Int){l:List Int}(h:0<l.length):decide (b<maxL l)=l.any fun y=>decide (b<y):=by
 cases l with
 |nil=>simp at h
 |cons x l=>exact zz8 b l x
theorem z3n (l:List Int)(v:Value)(lo hi:Nat)(w:World)(hv:RdI w lo hi v l)(hl:0<l.length):
  Calls Tryz.prog 191 #[v] w fun e w'=>e= .returned (.int .i64 (maxL l))∧Below w.heap.size w w':=by
 cases l with
 |nil=>simp at hl
 |cons x l=>exact z7p x l v lo hi w hv
set_option maxRecDepth 100000 in
set_option maxHeartbeats 2000000 in
theorem z36 (n:Net)(m:List Int)(t:Int)(vt v:Value)(lo hi lo' hi':Nat)(w:World)(hv:RdT w lo hi vt n.trans)(hm:RdI w lo' hi' v m)(hmk:zdd n m=true):
  Calls Tryz.prog 147 #[netV n vt,v, .int .i64 t] w (RetI w (zl2 n m t)):=by
 obtain⟨A,c,rfl,hc,hmm⟩:=hv.form
 obtain⟨A2,c2,rfl,hc2,hmm2⟩:=hm.form
 have HV:=Lib.hid hv
 have HW:=Lib.hid hm
 have hval:zb7 n=true:=by unfold zdd at hmk;simp at hmk;exact hmk.1
 have hmk2:zdx n m=true:=by unfold zdd at hmk;simp at hmk;exact hmk.2
 have HVAL:=Lib.hid hval
 have HMK:=Lib.hid hmk2
 have hpl:=zbu hval
 have hlen:=zft hmk2
 obtain⟨np,hnp⟩: ∃k:Nat,n.places=k:=⟨n.places.toNat,by omega⟩
 have hml:m.length=np:=by omega
 have hnp1:1≤np:=by omega
 have hnp40:np≤40:=by omega
 have HNP:=Lib.hid hnp
 have HML:=Lib.hid hml
 clear hv hm hmk hval hmk2 hpl hlen hnp hml
 by_cases ht:t<0∨n.trans.length≤t
 ·
  have HT:=Lib.hid ht
  refine zak fun R hR=>?_
  have HR:=Lib.hid hR
  clear hR
  go_enter Tryz.func147,Tryz.ntmps147
  have M:Hid (Mem [Loc.k4 w.heap.size (.int .i64 n.places) (.slice A n.trans.length c) (.int .i64 n.source) (.int .i64 n.sink),Loc.bl w.heap.size w] (w.alloc (.cells #[.int .i64 n.places, .slice A n.trans.length c, .int .i64 n.source, .int .i64 n.sink] 24))):=Lib.hid ⟨K4.new w _ _ _ _ _,⟨(Below.refl _ _).alloc (Nat.le_refl _) _,by simp⟩,True.intro⟩
  have hk4:=M.out.1
  go_wp2_with fail
  all_goals first
   |exact HR.out _ _ (RetI.nil (by rw[zl2,if_pos HT.out]) M.out.2.1.1)
   |(exfalso;go_light;omega)
 ·
  have HT:=Lib.hid ht
  obtain⟨kt,rfl⟩: ∃k:Nat,t=k:=⟨t.toNat,by omega⟩
  have hlt:kt<n.trans.length:=by omega
  clear ht
  obtain⟨b,off,vi,vo,rfl,hbl,hbh,hcell,hri,hro⟩:=RdT.at3 HV.out hlt
  have HTR:=Lib.hid (zjw HVAL.out (gti_mem hlt))
  obtain⟨Ai,ci,rfl,hci,hmi⟩:=hri.form
  obtain⟨Ao,co,rfl,hco,hmo⟩:=hro.form
  have HFE:Hid (zl2 n m kt=if enB (gti n.trans kt) m then
    if (incL (gti n.trans kt).out (decL (gti n.trans kt).inn m)).any (fun y=>decide (100<y)) then([],5)
    else(incL (gti n.trans kt).out (decL (gti n.trans kt).inn m),0)
   else([],12)):=Lib.hid (by rw[zl2,if_neg HT.out,Int.toNat_natCast])
  generalize gti n.trans kt=x at*
  have HRI:=Lib.hid hri
  have HRO:=Lib.hid hro
  have hil:x.inn.length≤40:=by have:=zhd HTR.out.2.1;have:=HNP.out;omega
  have hol:x.out.length≤40:=by have:=zhd HTR.out.2.2;have:=HNP.out;omega
  have hx1:((kt:Int)<0)=False:=by simp
  have hx2:((n.trans.length:Int)≤(kt:Int))=False:=by simp;omega
  clear hri hro HT
  refine zak fun R hR=>?_
  have HR:=Lib.hid hR
  clear hR
  go_enter Tryz.func147,Tryz.ntmps147
  have hcell':C3 (w.alloc (.cells #[.int .i64 n.places, .slice (some ⟨b,off,none⟩) n.trans.length c, .int .i64 n.source, .int .i64 n.sink] 24)) b (off+kt*3) (.string x.label) (.slice Ai x.inn.length ci) (.slice Ao x.out.length co):=C3.aft ((Below.refl w.heap.size w).alloc (Nat.le_refl _) _) hcell
  have M:Hid (Mem [Loc.k4 w.heap.size (.int .i64 n.places) (.slice (some ⟨b,off,none⟩) n.trans.length c) (.int .i64 n.source) (.int .i64 n.sink),Loc.bl w.heap.size w,Loc.k3 (w.heap.size+1) (.string x.label) (.slice Ai x.inn.length ci) (.slice Ao x.out.length co)] ((w.alloc (.cells #[.int .i64 n.places, .slice (some ⟨b,off,none⟩) n.trans.length c, .int .i64 n.source, .int .i64 n.sink] 24)).alloc (.cells #[.string x.label, .slice Ai x.inn.length ci, .slice Ao x.out.length co] 76))):=
   Lib.hid ⟨K4.aft ((Below.refl _ _).alloc (Nat.le_refl _) _) (K4.new w _ _ _ _ _),⟨((Below.refl _ _).alloc (Nat.le_refl _) _).alloc xm _,by simp;omega⟩,by have:=K3.new (w.alloc (.cells #[.int .i64 n.places, .slice (some ⟨b,off,none⟩) n.trans.length c, .int .i64 n.source, .int .i64 n.sink] 24)) (.string x.label) (.slice Ai x.inn.length ci) (.slice Ao x.out.length co) 76;rw[World.size_alloc] at this;exact this,True.intro⟩
  have hk4:=K4.new w (.int .i64 n.places) (.slice (some ⟨b,off,none⟩) n.trans.length c) (.int .i64 n.source) (.int .i64 n.sink) 24
  have hk3:=M.out.2.2.1
  clear hcell
  go_wp2_with (first
   |(go_at_call 188;refine(zn2 x _ _ m _ lo hi lo' hi' _ (HRI.out.after M.out.2.1.1) (HW.out.after M.out.2.1.1) (fun p hp=>by have:=zm8 HTR.out.2.1 hp;have:=HNP.out;have:=HML.out;omega)).mono ?_;rintro e w1 ⟨rfl,hb1⟩;replace M:=Lib.hid (M.out.below hb1);clear hb1;replace hk4:=M.out.1;replace hk3:=M.out.2.2.1)
   |(go_at_call 183;refine(z1z m _ lo' hi' _ (HW.out.after M.out.2.1.1) (by have:=HML.out;omega)).mono ?_;rintro e w2 ⟨A1,c1,rfl,ho1,hb1⟩;have HO:=Lib.hid ho1;have hsz2:=hb1.size;have hsz1:=M.out.2.2.1.2.2.2;replace M:=Lib.hid (M.out.below hb1);clear hb1 ho1;replace hk4:=M.out.1;replace hk3:=M.out.2.2.1))
  ·
   exact HR.out _ _ (RetI.nil (by have hfe:=HFE.out;clear HFE;go_light;grind) M.out.2.1.1)
  ·
   obtain⟨g,cap,hA1,hgl,hgh,hgs⟩:=HO.out.blk (by have:=HML.out;omega)
   injection hA1 with e1 _ e3
   subst e1 e3
   go_loopw [37,11] (fun v37 _ wr=> ∃ (k:Nat) (cur:List Int),k≤x.inn.length∧v37= .int .i64 k∧Hid (decL (x.inn.drop k) cur=decL x.inn m)∧Hid (Bnd (100+k) cur)∧Hid (cur.length=m.length)∧Hid (Mem [Loc.owI w1.heap.size w2.heap.size (.slice (some ⟨g,0,none⟩) m.length c1) cur,Loc.k4 w.heap.size (.int .i64 n.places) (.slice (some ⟨b,off,none⟩) n.trans.length c) (.int .i64 n.source) (.int .i64 n.sink),Loc.bl w.heap.size w,Loc.k3 (w.heap.size+1) (.string x.label) (.slice Ai x.inn.length ci) (.slice Ao x.out.length co),Loc.sz w2.heap.size] wr)) (fun v37 _ _=>x.inn.length-(intOf v37).toNat)
   case atStart=>exact⟨0,m,by omega,rfl,Lib.hid J,Lib.hid (fun i=>by have:=zgw HMK.out i;omega),Lib.hid J,Lib.hid ⟨HO.out,M.out.1,M.out.2.1,M.out.2.2.1,Nat.le_refl _,True.intro⟩⟩
   case round=>
    obtain⟨k,cur,hk,rfl,HI,HBD,HCL,HM⟩:=hrel
    by_cases hltk:k<x.inn.length
    ·
     obtain⟨bb,oo,rfl,_,_,hce⟩:=RdI.at1 (HRI.out.after HM.out.2.2.1.1) hltk
     have HD:=Lib.hid (zc2 hltk)
     have hpr:=zet HTR.out.2.1 hltk
     generalize gti x.inn k=p at*
     obtain⟨kp,rfl⟩: ∃j:Nat,p=j:=⟨p.toNat,by omega⟩
     have hkp:kp<m.length:=by have:=HNP.out;have:=HML.out;omega
     have hkc:kp<cur.length:=by rw[HCL.out];exact hkp
     have hat:=OwnI.at1 HM.out.1 hkc
     have hbd:=HBD.out kp
     have HO2:=Lib.hid (OwnI.set HM.out.1 kp (gti cur kp-1))
     clear hpr hkc
     go_wp2_with fail
     refine⟨⟨k+1,cur.set kp (gti cur kp-1),by omega,by go_num,Lib.hid ?_,Lib.hid ?_,Lib.hid (by rw[List.length_set];exact HCL.out),Lib.hid ⟨HO2.out,HM.out.2.set (by(repeat' (first|exact True.intro|refine And.intro (fun k hk e=>?_) ?_))<;>(first|exact e|((try dsimp only[Loc.c1,Loc.c2,Loc.k1,Loc.k2,Loc.k3,Loc.k4,Loc.k6,Loc.fr,Loc.bl,Loc.own,Loc.sz,Loc.rd,Loc.rdI,Loc.rdS,Loc.rdM,Loc.rdT,Loc.ow,Loc.owI] at hk e)<;>omega)))⟩⟩,by simp[intOf];omega⟩
     ·
      have h:=HI.out
      rw[HD.out,decL,Int.toNat_natCast] at h
      exact h
     ·
      have:=HBD.out.dec kp
      rw[show(100+((k+1:Nat):Int))=100+(k:Int)+1 by omega]
      exact this
    ·
     obtain rfl:k=x.inn.length:=by omega
     have HE:Hid (cur=decL x.inn m):=Lib.hid (by have h:=HI.out;simpa[decL] using h)
     have HE0:=HE
     have hk3':=HM.out.2.2.2.1
     clear HI hk3 hk4
     go_wp2_with fail
     clear HE
     go_loopw [51,13] (fun v51 _ wr=> ∃ (k:Nat) (cur:List Int),k≤x.out.length∧v51= .int .i64 k∧Hid (incL (x.out.drop k) cur=incL x.out (decL x.inn m))∧Hid (Bnd ((100+x.inn.length)+k) cur)∧Hid (cur.length=m.length)∧Hid (Mem [Loc.owI w1.heap.size w2.heap.size (.slice (some ⟨g,0,none⟩) m.length c1) cur,Loc.k4 w.heap.size (.int .i64 n.places) (.slice (some ⟨b,off,none⟩) n.trans.length c) (.int .i64 n.source) (.int .i64 n.sink),Loc.bl w.heap.size w,Loc.k3 (w.heap.size+1) (.string x.label) (.slice Ai x.inn.length ci) (.slice Ao x.out.length co),Loc.sz w2.heap.size] wr)) (fun v51 _ _=>x.out.length-(intOf v51).toNat)
     case atStart=>exact⟨0,cur,by omega,rfl,Lib.hid (by rw[HE0.out];rfl),Lib.hid (by simpa using HBD.out),HCL,HM⟩
     case round=>
      clear HE0 HBD HCL HM
      obtain⟨k,cur,hk,rfl,HI,HBD,HCL,HM⟩:=hrel
      by_cases hltk:k<x.out.length
      ·
       obtain⟨bb,oo,rfl,_,_,hce⟩:=RdI.at1 (HRO.out.after HM.out.2.2.1.1) hltk
       have HD:=Lib.hid (zc2 hltk)
       have hpr:=zet HTR.out.2.2 hltk
       generalize gti x.out k=p at*
       obtain⟨kp,rfl⟩: ∃j:Nat,p=j:=⟨p.toNat,by omega⟩
       have hkp:kp<m.length:=by have:=HNP.out;have:=HML.out;omega
       have hkc:kp<cur.length:=by rw[HCL.out];exact hkp
       have hat:=OwnI.at1 HM.out.1 hkc
       have hbd:=HBD.out kp
       have HO2:=Lib.hid (OwnI.set HM.out.1 kp (gti cur kp+1))
       clear hpr hkc
       go_wp2_with fail
       refine⟨⟨k+1,cur.set kp (gti cur kp+1),by omega,by go_num,Lib.hid ?_,Lib.hid ?_,Lib.hid (by rw[List.length_set];exact HCL.out),Lib.hid ⟨HO2.out,HM.out.2.set (by(repeat' (first|exact True.intro|refine And.intro (fun k hk e=>?_) ?_))<;>(first|exact e|((try dsimp only[Loc.c1,Loc.c2,Loc.k1,Loc.k2,Loc.k3,Loc.k4,Loc.k6,Loc.fr,Loc.bl,Loc.own,Loc.sz,Loc.rd,Loc.rdI,Loc.rdS,Loc.rdM,Loc.rdT,Loc.ow,Loc.owI] at hk e)<;>omega)))⟩⟩,by simp[intOf];omega⟩
       ·
        have h:=HI.out
        rw[HD.out,incL,Int.toNat_natCast] at h
        exact h
       ·
        have:=HBD.out.inc kp
        rw[show((100+x.inn.length)+((k+1:Nat):Int))=(100+x.inn.length)+(k:Int)+1 by omega]
        exact this
      ·
       obtain rfl:k=x.out.length:=by omega
       have HE:Hid (cur=incL x.out (decL x.inn m)):=Lib.hid (by have h:=HI.out;simpa[incL] using h)
       clear HI
       have hcp:0<cur.length:=by rw[HCL.out,HML.out];omega
       have HMG:=Lib.hid (z7q 100 hcp)
       have M:=HM
       clear HM
       go_wp2_with (go_at_call 191;refine(z3n cur _ w1.heap.size w2.heap.size _ M.out.1.rd hcp).mono ?_;rintro e w1 ⟨rfl,hb1⟩;replace M:=Lib.hid (M.out.below hb1);clear hb1;skip)
       all_goals (have hfe:=HFE.out;have he:=HE.out;have hmg:=HMG.out;rw[←he, ←hmg] at hfe)
       ·
        exact HR.out _ _ (RetI.nil (by clear HFE HE HMG he hmg;go_light;grind) M.out.2.2.1.1)
       ·
        exact HR.out _ _ (RetI.mk (l:=cur) (by clear HFE HE HMG he hmg;go_light;grind) HCL.out.symm M.out.1.rd xa M.out.2.2.2.2.1 M.out.2.2.1.1)
end
namespace Dl
open Go.RowKit
structure Edg where
 a:Nat
 b:Nat
 c:Int
instance:Inhabited Edg:=⟨⟨0,0,0⟩⟩
def EOk (n:Nat)(M:List Edg):Prop:= ∀e∈M,e.a<n∧e.b<n∧0≤e.c
structure FOk (n:Nat)(M:List Edg)(B:Int)(t:Nat)(W:Nat→Int→Prop)(far:List Int):Prop where
 len:far.length=n
 nn: ∀x∈far,0≤x
 le: ∀k,k<n→gti far k≤B
 way: ∀k,k<n→gti far k=B∨W k (gti far k)
 tt:gti far t=0
variable {n:Nat}{M:List Edg}{B:Int}{t:Nat}{W:Nat→Int→Prop}{far:List Int}
inductive Way (M:List Edg)(t:Nat):Nat→Int→Prop
 |nil:Way M t t 0
 |cons (e:Edg) (d:Int) (he:e∈M) (h:Way M t e.b d):Way M t e.a (d+e.c)
theorem Way.le (hfix: ∀e∈M,gti far e.a≤gti far e.b+e.c)(ht:gti far t=0){k:Nat}{d:Int}(h:Way M t k d):gti far k≤d:=by
 induction h with
 |nil=>omega
 |cons e d he _ ih=>have:=hfix e he;omega
theorem Way.nn (hE:EOk n M){k:Nat}{d:Int}(h:Way M t k d):0≤d:=by
 induction h with
 |nil=>omega
 |cons e d he _ ih=>have:=(hE e he).2.2;omega
theorem Way.snoc {k:Nat}{d:Int}(h:Way M t k d){e:Edg}(he:e∈M)(hb:e.a=t):Way M e.b k (d+e.c):=by
 induction h with
 |nil=>subst hb;exact .cons e 0 he .nil
 |cons e1 d1 h1 _ ih=>
  have:=Way.cons e1 _ h1 ih
  rwa [show d1+e.c+e1.c=d1+e1.c+e.c by omega] at this
end Dl
end Go.Proofs.YtjdpnadhgjohnaaGreatDoor
