import Derived.Test.YtjdpnadhgjohnaaGreatDoorJN0
import Derived.Test.YtjdpnadhgjohnaaGreatDoorProg
import Derived.WalkKit
import Derived.WalkSpells
import Derived.WalkLawsBesides
import Derived.Deep.QuietTactic
import Derived.BigQuiet
import Derived.Lib.Hide
import Derived.Deep.RegionHeld3
import Derived.Deep.LoopGhost
import Derived.Deep.DeepCutAuto
import Derived.Test.YtjdpnadhgjohnaaGreatDoorJN1
set_option linter.unusedSimpArgs false
set_option linter.unusedVariables false
set_option linter.unusedSectionVars false
namespace Go.Proofs.YtjdpnadhgjohnaaGreatDoor
section
open Go.RowKit
theorem zfj {k:IntKind}{a b:Int}(h:a=b):Ending.returned (.int k a)= .returned (.int k b):=by rw[h]
theorem zak {P:Program}{f:FuncId}{args:Array Value}{w:World}{Post:Ending→World→Prop}
  (h: ∀R:Ending→World→Prop,(∀e w',Post e w'→R e w')→Calls P f args w R):Calls P f args w Post:=h Post fun _ _ h=>h
def Ent (f:FuncId):Prop:= ∀args w,(callFunc f args).run Tryz.prog w= .ok (.enter f args) w
theorem zdf {f:FuncId}{fn:Func}{c:Code}(hf:Tryz.prog.funcs[f]?=some fn)(hname:(fn.name== "runtime.NumGoroutine")=false)(hb:fn.body=some c):Ent f:=fun args w=>by
 have h1:fn.name≠ "runtime.NumGoroutine" :=by simpa using hname
 simp[callFunc,hf,h1,hb]
def Ext (w w':World):Prop:=Below w.heap.size w w'
theorem Ext.refl (w:World):Ext w w:=Below.refl _ _
theorem Ext.trans {a b c:World}(h:Ext a b)(k:Ext b c):Ext a c:=Below.trans h (Below.mono k (Below.size h))
def B2 (w:World)(g:Nat)(x y:Value):Prop:=
 w.cell? ⟨g,0,none⟩=some x∧w.cell? ⟨g,1,none⟩=some y∧w.frozen? ⟨g,0,none⟩=false∧w.frozen? ⟨g,1,none⟩=false∧g<w.heap.size
theorem B2.after {B:Nat}{W w1:World}{g:Nat}{x y:Value}(hb:Below B W w1)(h:B2 W g x y)(hg:g<B):B2 w1 g x y:=
 ⟨(hb.cell hg).trans h.1,(hb.cell hg).trans h.2.1,(hb.frozen hg).trans h.2.2.1,(hb.frozen hg).trans h.2.2.2.1,Nat.lt_of_lt_of_le h.2.2.2.2 hb.size⟩
theorem B2.drewN {W:World}{g:Nat}{x y:Value}(h:B2 W g x y)(n:Nat):B2 (W.drewN n) g x y:=h
theorem B2.drew {W:World}{g:Nat}{x y:Value}(h:B2 W g x y):B2 W.drew g x y:=h
theorem B2.set {W:World}{g:Nat}{x y:Value}(h:B2 W g x y)(u v:Value):B2 ((W.setCell ⟨g,0,none⟩ u).setCell ⟨g,1,none⟩ v) g u v:=by
 obtain⟨h1,h2,h3,h4,h5⟩:=h
 exact⟨by simp[go_sem,h1],by simp[go_sem,h2],by simp[go_sem,h3],by simp[go_sem,h4],by simpa using h5⟩
theorem zfi {W:World}{g g' o:Nat}{v x y:Value}(h:W.cell? ⟨g,o,none⟩=some v)(hne:g≠g'):((W.setCell ⟨g',0,none⟩ x).setCell ⟨g',1,none⟩ y).cell? ⟨g,o,none⟩=some v:=by
 rw[World.cell?_setCell_other _ _ _ _ (fun e=>hne (congrArg Addr.block e).symm),World.cell?_setCell_other _ _ _ _ (fun e=>hne (congrArg Addr.block e).symm)]
 exact h
def B1 (w:World)(g:Nat)(x:Value):Prop:=
 w.cell? ⟨g,0,none⟩=some x∧w.frozen? ⟨g,0,none⟩=false∧g<w.heap.size
theorem B1.after {B:Nat}{W w1:World}{g:Nat}{x:Value}(hb:Below B W w1)(h:B1 W g x)(hg:g<B):B1 w1 g x:=
 ⟨(hb.cell hg).trans h.1,(hb.frozen hg).trans h.2.1,Nat.lt_of_lt_of_le h.2.2 hb.size⟩
theorem B1.drewN {W:World}{g:Nat}{x:Value}(h:B1 W g x)(n:Nat):B1 (W.drewN n) g x:=h
theorem B1.lt {w:World}{g:Nat}{x:Value}(h:B1 w g x):g<w.heap.size:=h.2.2
theorem B2.lt {w:World}{g:Nat}{x y:Value}(h:B2 w g x y):g<w.heap.size:=h.2.2.2.2
structure Off (c N:Nat)(w W:World):Prop where
 os:W.os=w.os
 tape:W.tape=w.tape
 output:W.output=w.output
 size:w.heap.size≤W.heap.size
 block: ∀k,k<N→k≠c→W.heap[k]?=w.heap[k]?
theorem Off.refl (c N:Nat)(w:World):Off c N w w:=⟨rfl,rfl,rfl,Nat.le_refl _,fun _ _ _=>rfl⟩
theorem Off.trans {c N:Nat}{a b d:World}(h:Off c N a b)(k:Off c N b d):Off c N a d:=
 ⟨k.os.trans h.os,k.tape.trans h.tape,k.output.trans h.output,Nat.le_trans h.size k.size,fun i hi hc=>(k.block i hi hc).trans (h.block i hi hc)⟩
theorem Off.mono {c N N':Nat}{w W:World}(h:Off c N w W)(hN:N'≤N):Off c N' w W:=⟨h.os,h.tape,h.output,h.size,fun k hk hc=>h.block k (Nat.lt_of_lt_of_le hk hN) hc⟩
theorem Off.of_below {c N:Nat}{w W:World}(h:Below N w W):Off c N w W:=⟨h.os,h.tape,h.output,h.size,fun k hk _=>h.block k hk⟩
theorem Off.step {c N N':Nat}{w W W':World}(h:Off c N w W)(k:Off c N' W W')(hN:N≤N'):Off c N w W':=h.trans (k.mono hN)
theorem Off.stepB {c N N':Nat}{w W W':World}(h:Off c N w W)(k:Below N' W W')(hN:N≤N'):Off c N w W':=h.trans (Off.of_below (k.mono hN))
theorem Off.drew {c N:Nat}{w W:World}(h:Off c N w W):Off c N w W.drew:=⟨h.os,h.tape,h.output,h.size,h.block⟩
theorem Off.drewN {c N:Nat}{w W:World}(h:Off c N w W)(n:Nat):Off c N w (W.drewN n):=⟨h.os,h.tape,h.output,h.size,h.block⟩
theorem Off.alloc {c N:Nat}{w W:World}(h:Off c N w W)(hN:N≤W.heap.size)(o:Obj):Off c N w (W.alloc o):=h.stepB ((Below.refl N W).alloc hN o) (Nat.le_refl _)
theorem Off.setCell {c N:Nat}{w W:World}(h:Off c N w W){p:Addr}(hp:N≤p.block∨p.block=c)(u:Value):Off c N w (W.setCell p u):=
 h.trans ⟨rfl,rfl,rfl,by simp[World.setCell],fun k hk hc=>Below.heap_setCell _ _ _ _ xa⟩
theorem Off.cell {c N:Nat}{w W:World}(h:Off c N w W){p:Addr}(hp:p.block<N)(hc:p.block≠c):W.cell? p=w.cell? p:=World.cell?_of_block (w:=w) (h.block p.block hp hc)
theorem Off.frozen {c N:Nat}{w W:World}(h:Off c N w W){p:Addr}(hp:p.block<N)(hc:p.block≠c):W.frozen? p=w.frozen? p:=World.frozen?_of_block (w:=w) (h.block p.block hp hc)
theorem Off.grownBy {c:Nat}{w W:World}(h:Off c w.heap.size w W):w.grownBy W (some c):=⟨h.os,h.tape,h.output,h.size,fun k hk hne=>h.block k hk (fun e=>hne (by rw[e]))⟩
theorem B2.off {c N:Nat}{W w1:World}{g:Nat}{x y:Value}(hb:Off c N W w1)(h:B2 W g x y)(hg:g<N)(hc:g≠c):B2 w1 g x y:=
 ⟨(hb.cell hg hc).trans h.1,(hb.cell hg hc).trans h.2.1,(hb.frozen hg hc).trans h.2.2.1,(hb.frozen hg hc).trans h.2.2.2.1,Nat.lt_of_lt_of_le h.2.2.2.2 hb.size⟩
theorem B1.off {c N:Nat}{W w1:World}{g:Nat}{x:Value}(hb:Off c N W w1)(h:B1 W g x)(hg:g<N)(hc:g≠c):B1 w1 g x:=
 ⟨(hb.cell hg hc).trans h.1,(hb.frozen hg hc).trans h.2.1,Nat.lt_of_lt_of_le h.2.2 hb.size⟩
theorem B1.set {W:World}{g:Nat}{x:Value}(h:B1 W g x)(u:Value):B1 (W.setCell ⟨g,0,none⟩ u) g u:=by
 obtain⟨h1,h2,h3⟩:=h
 exact⟨by simp[go_sem,h1],by simp[go_sem,h2],by simpa using h3⟩
theorem B1.alloc {W:World}{g:Nat}{x:Value}(h:B1 W g x)(o:Obj):B1 (W.alloc o) g x:=
 B1.after ((Below.refl W.heap.size W).alloc (Nat.le_refl _) o) h h.lt
theorem Below.step {B B':Nat}{w W w1:World}(h:Below B w W)(hb:Below B' W w1)(hB:B≤B'):Below B w w1:=h.trans (hb.mono hB)
end
section
open Go.RowKit
section
variable {P:Program}{pre:List Oper}{last:Oper}{Q:Exit→Act→World→Prop}{S:World→Prop}
theorem znq {i:Nat}(hi:i<pre.length):(pre++[last]).toArray[i]?=pre.toArray[i]?:=by simp[List.getElem?_append_left hi]
theorem zqo:(pre++[last]).toArray[pre.length]?=some last:=by simp
theorem zs4 {tmps:Array Value}{j:Nat}(hj:j<pre.length):yielded (pre++[last]).toArray tmps j=yielded pre.toArray tmps j:=by
 unfold yielded
 rw[znq hj]
def zjy (P:Program)(pre:List Oper)(last:Oper)(Q:Exit→Act→World→Prop):Exit→Act→World→Prop:=
 Exit.then (fun a w=>wpList P (pre++[last]).toArray Q [last] a w) Q
theorem zya {o:Oper}{a:Act}{K:Act→World→Prop}{r:Result Next}{N:Act→World→Prop}(h:o.upon P a K (Exit.then N Q) r):o.upon P a K Q r:=by
 cases r with
 | ok n w=>
  cases n<;>simp only[Oper.upon] at h⊢ <;>
   first
    |exact h
    |exact Calls.mono h (fun e w'' he=>by cases e<;>exact he)
 |halt x w=>cases x<;>simp only[Oper.upon] at h⊢ <;>exact h
end
end
section
open Go.RowKit
set_option maxHeartbeats 400000 in
theorem z0t (a b:Int)(w:World)(ha:0≤a)(hb:0≤b)(ha':a≤9223372036854775807)(hb':b≤9223372036854775807):
  Calls Tryz.prog 171 #[.int .i64 a, .int .i64 b] w fun e w'=>e= .returned (.int .i64 (Int.gcd a b))∧ ∃n,w'=w.drewN n:=by
 go_enter Tryz.func171,Tryz.ntmps171
 go_wp2
 go_loopw [0,1] (fun x y wr=> ∃p q:Int,0≤p∧0≤q∧p≤9223372036854775807∧q≤9223372036854775807∧x= .int .i64 p∧y= .int .i64 q∧Int.gcd p q=Int.gcd a b∧ ∃n,wr=w.drewN n) (fun _ y _=>(intOf y).toNat)
 case atStart=>exact⟨a,b,ha,hb,ha',hb',rfl,rfl,rfl,0,rfl⟩
 case round=>
  obtain⟨p,q,hp,hq,hp',hq',rfl,rfl,hg,n,rfl⟩:=hrel
  have HG:=Lib.hid hg
  clear hg
  by_cases h0:q=0
  ·
   subst h0
   go_wp2
   go_ret
   refine⟨?_,n,rfl⟩
   rw[←HG.out]
   simp[Int.natAbs_of_nonneg hp]
  ·
   have hne:(q !=0)=true:=by simpa using h0
   have hne2:(q==0)=false:=by simpa using h0
   go_wp2
   go_quiet (fail)
   go_wp2
   have h1:=Int.emod_nonneg p h0
   have h2:=Int.emod_lt_of_pos p (show 0<q by omega)
   go_roundw
   case rel=>exact⟨q,p % q,hq,h1,hq',by omega,rfl,rfl,(z34 p q).trans HG.out,n+nq,by rw[World.drewN_drewN]⟩
   case measure=>simp only[intOf];omega
set_option maxHeartbeats 400000 in
theorem zll (a:Int)(w:World)(h1: -4611686018427387904≤a)(h2:a≤4611686018427387904):
  Calls Tryz.prog 240 #[.int .i64 a] w fun e w'=>e= .returned (.int .u64 (a.natAbs:Int))∧w=w':=by
 by_cases h:a<0
 ·
  go_enter Tryz.func240,Tryz.ntmps240
  go_wp2
  go_ret
  exact⟨by simp[IntKind.wrap_u64];omega,rfl⟩
 ·
  go_enter Tryz.func240,Tryz.ntmps240
  go_wp2
  go_ret
  exact⟨by simp;omega,rfl⟩
theorem fit_nf (neg:Bool)(num den:Nat)(hd:0<den):nf (if neg then -(num:Int) else num) den=⟨if neg then -((num / Nat.gcd num den:Nat):Int) else((num / Nat.gcd num den:Nat):Int),((den / Nat.gcd num den:Nat):Int)⟩:=by
 have hs:Int.sign (den:Int)=1:=Int.sign_eq_one_of_pos xa
 cases neg
 ·
  simp[nf,hs,Int.gcd]
 ·
  simp only[nf,hs,Int.gcd,if_true,Int.natAbs_neg,Int.natAbs_natCast,Int.one_mul]
  congr 1
  exact Int.neg_ediv_of_dvd (by rw[Int.natCast_dvd_natCast];exact Nat.gcd_dvd_left ..)
theorem z7o (neg:Bool)(num den x y:Nat)(hd:0<den)(hx:num / Nat.gcd num den=x)(hy:den / Nat.gcd num den=y):
  mkF (if neg then -(num:Int) else num) den=if x≤1073741824∧y≤1073741824 then some ⟨if neg then -(x:Int) else x,y⟩ else none:=by
 unfold mkF
 rw[fit_nf neg num den hd,hx,hy]
 by_cases h:x≤1073741824∧y≤1073741824
 ·
  rw[if_pos h,if_pos]
  simp only[Fr.fits,decide_eq_true_eq]
  cases neg<;>simp<;>omega
 ·
  rw[if_neg h,if_neg]
  simp only[Fr.fits,decide_eq_true_eq]
  cases neg<;>simp<;>omega
set_option maxHeartbeats 1000000 in
theorem z76 (neg:Bool)(num den:Nat)(w:World)(hd:0<den)(h1:num≤9223372036854775808)(h2:den≤9223372036854775808):
  Calls Tryz.prog 239 #[.bool neg, .int .u64 num, .int .u64 den] w fun e w'=>e= .returned (.tuple #[.agg #[.int .i64 (FE.of (mkF (if neg then -(num:Int) else num) den)).n, .int .i64 (FE.of (mkF (if neg then -(num:Int) else num) den)).d], .int .i64 (FE.of (mkF (if neg then -(num:Int) else num) den)).e])∧Below w.heap.size w w':=by
 refine zak fun R hR=>?_
 have HR:=Lib.hid hR
 clear hR
 go_enter Tryz.func239,Tryz.ntmps239
 go_wp2
 go_loopw [8,9] (fun x y wr=> ∃p q:Nat,p≤9223372036854775808∧q≤9223372036854775808∧x= .int .u64 p∧y= .int .u64 q∧Nat.gcd p q=Nat.gcd num den∧ ∃n,wr=(w.alloc (.cells #[.int .i64 0, .int .i64 0] 102)).drewN n) (fun _ y _=>(intOf y).toNat)
 case atStart=>exact⟨num,den,h1,h2,rfl,rfl,rfl,0,rfl⟩
 case round=>
  obtain⟨p,q,hp',hq',rfl,rfl,hg,n,rfl⟩:=hrel
  by_cases h0:q=0
  ·
   subst h0
   simp only[Nat.gcd_zero_right] at hg
   have hp0:0<p:=by rw[hg];exact Nat.gcd_pos_of_pos_right _ hd
   obtain⟨x,hx⟩: ∃x,num / p=x:=⟨_,rfl⟩
   obtain⟨y,hy⟩: ∃y,den / p=y:=⟨_,rfl⟩
   have hx1:x≤9223372036854775808:=by have:=Nat.div_le_self num p;omega
   have hy1:y≤9223372036854775808:=by have:=Nat.div_le_self den p;omega
   have HF:=Lib.hid (z7o neg num den x y hd (by rw[←hg];exact hx) (by rw[←hg];exact hy))
   have wx:IntKind.u64.wrap ((num:Int) / (p:Int))=(x:Int):=by rw[IntKind.wrap_u64, ←Int.natCast_ediv,hx];omega
   have wy:IntKind.u64.wrap ((den:Int) / (p:Int))=(y:Int):=by rw[IntKind.wrap_u64, ←Int.natCast_ediv,hy];omega
   have hne:(((p:Nat):Int)==0)=false:=by simp;omega
   clear hg hx hy
   go_wp2
   go_quiet (fail)
   clear wx wy
   by_cases hbx:(1073741824:Int)<x
   ·
    go_wp2
    refine bodyPost_ret (v:= .tuple #[.agg #[.int .i64 0, .int .i64 0], .int .i64 6]) (by simp[results,Tryz.results239,go_sem]) J (HR.out _ _ ⟨?_,?_⟩)
    ·
     rw[HF.out,if_neg xa];rfl
    ·
     (repeat (first|exact Below.refl _ _|assumption|refine Below.setCell ?_ (by first|omega|(simp;done)|(simp;omega)) _|refine Below.alloc ?_ (by first|omega|(simp;done)|(simp;omega)) _|refine Below.drew ?_|refine below_drewN ?_ _))
   ·
    by_cases hby:(1073741824:Int)<y
    ·
     have hbx':decide ((1073741824:Int)<x)=false:=by simpa using hbx
     go_wp2
     refine bodyPost_ret (v:= .tuple #[.agg #[.int .i64 0, .int .i64 0], .int .i64 6]) (by simp[results,Tryz.results239,go_sem]) J (HR.out _ _ ⟨?_,?_⟩)
     ·
      rw[HF.out,if_neg xa];rfl
     ·
      (repeat (first|exact Below.refl _ _|assumption|refine Below.setCell ?_ (by first|omega|(simp;done)|(simp;omega)) _|refine Below.alloc ?_ (by first|omega|(simp;done)|(simp;omega)) _|refine Below.drew ?_|refine below_drewN ?_ _))
    ·
     have hbx':decide ((1073741824:Int)<x)=false:=by simpa using hbx
     have hby':decide ((1073741824:Int)<y)=false:=by simpa using hby
     cases neg
     ·
      go_wp2
      refine bodyPost_ret (v:= .tuple #[.agg #[.int .i64 x, .int .i64 y], .int .i64 0]) (by simp[results,Tryz.results239,go_sem]) J (HR.out _ _ ⟨?_,?_⟩)
      ·
       rw[HF.out,if_pos xa];rfl
      ·
       (repeat (first|exact Below.refl _ _|assumption|refine Below.setCell ?_ (by first|omega|(simp;done)|(simp;omega)) _|refine Below.alloc ?_ (by first|omega|(simp;done)|(simp;omega)) _|refine Below.drew ?_|refine below_drewN ?_ _))
     ·
      go_wp2
      refine bodyPost_ret (v:= .tuple #[.agg #[.int .i64 (-x), .int .i64 y], .int .i64 0]) (by simp[results,Tryz.results239,go_sem]) J (HR.out _ _ ⟨?_,?_⟩)
      ·
       rw[HF.out,if_pos xa];rfl
      ·
       (repeat (first|exact Below.refl _ _|assumption|refine Below.setCell ?_ (by first|omega|(simp;done)|(simp;omega)) _|refine Below.alloc ?_ (by first|omega|(simp;done)|(simp;omega)) _|refine Below.drew ?_|refine below_drewN ?_ _))
  ·
   have HG:=Lib.hid hg
   clear hg
   have hne:(((q:Nat):Int) !=0)=true:=by simp;omega
   have hne2:(((q:Nat):Int)==0)=false:=by simp;omega
   go_wp2
   go_quiet (fail)
   go_wp2
   have hlt:p % q<q:=Nat.mod_lt _ xa
   go_roundw
   case rel=>exact⟨q,p % q,hq',by omega,rfl,by rw[Int.natCast_emod],by rw[←HG.out,Nat.gcd_comm q, ←Nat.gcd_rec,Nat.gcd_comm],n+nq,by rw[World.drewN_drewN]⟩
   case measure=>simp only[intOf];omega
end
section
open Go.RowKit
end
section
open Go.RowKit
end
end Go.Proofs.YtjdpnadhgjohnaaGreatDoor
