import Derived.Test.YtjdpnadhgjohnaaGreatDoorJN0
import Derived.Test.YtjdpnadhgjohnaaGreatDoorJN10
import Derived.Test.YtjdpnadhgjohnaaGreatDoorJN5
import Derived.Test.YtjdpnadhgjohnaaGreatDoorJN6
set_option linter.unusedSimpArgs false
set_option linter.unusedVariables false
set_option linter.unusedSectionVars false
namespace Go.Proofs.YtjdpnadhgjohnaaGreatDoor
section
open Go.RowKit
theorem C1.aft {w W:World}{b o:Nat}{x:Value}(hb:Below w.heap.size w W)(h:C1 w b o x):C1 W b o x:=(hb.cell (p:=⟨b,o,none⟩) (World.block_lt_of_cell? _ _ h)).trans h
def zb1 (n:Net)(w:List ByteArray)(s:List Int):Bool:=zd0 w && decide (1≤s.length) && decide (0≤gti s 0) && decide (gti s 0≤w.length) && zdd n (s.drop 1)
theorem zdb {n:Net}{w:List ByteArray}{s:List Int}:zb1 n w s=true↔zd0 w=true∧1≤s.length∧0≤gti s 0∧gti s 0≤w.length∧zdd n (s.drop 1)=true:=by
 simp[zb1,and_assoc]
theorem zqv (n:Net)(m:List Int):(zkl n m).2=if zdd n m then 0 else 1:=by
 unfold zkl;split<;>rfl
set_option maxRecDepth 100000 in
set_option maxHeartbeats 2000000 in
theorem ztu (n:Net)(l:List ByteArray)(s:List Int)(vt v vs:Value)(lo hi lo' hi' lo2 hi2:Nat)(w:World)(hv:RdT w lo hi vt n.trans)(hw:RdS w lo' hi' v l)(hs:RdI w lo2 hi2 vs s):
  Calls Tryz.prog 95 #[netV n vt,v,vs] w fun e w'=>e= .returned (.bool (zb1 n l s))∧Below w.heap.size w w':=by
 obtain⟨A,c,rfl,hc,hmm⟩:=hv.form
 obtain⟨A2,c2,rfl,hc2,hmm2⟩:=hw.form
 obtain⟨A3,c3,rfl,hc3,hmm3⟩:=hs.form
 have HV:=Lib.hid hv
 have HW:=Lib.hid hw
 have HS:=Lib.hid hs
 clear hv hw
 by_cases h1:1≤s.length
 ·
  obtain⟨b,off,rfl,_,_,hcell⟩:=RdI.at1 hs (k:=0) xa
  obtain⟨At,ct,hsl,ht⟩:=RdI.tail1 hs h1 hc3
  obtain⟨tl,htl⟩: ∃tl,s.drop 1=tl:=⟨_,rfl⟩
  rw[htl] at hsl ht
  have HTL:=Lib.hid htl
  clear htl
  have HT:=Lib.hid ht
  have hne:((s.length:Int)==0)=false:=by rw[beq_eq_false_iff_ne];omega
  clear hs ht
  simp only[Nat.add_zero] at hcell
  have HC:=Lib.hid hcell
  clear hcell
  cases hwb:zd0 l
  ·
   have HE:Hid (zb1 n l s=false):=Lib.hid (by simp[zb1,hwb])
   have HWB:=Lib.hid hwb
   clear hwb
   refine zak fun R hR=>?_
   have HR:=Lib.hid hR
   clear hR
   go_enter Tryz.func95,Tryz.ntmps95
   have M:Hid (Mem [Loc.k4 w.heap.size (.int .i64 n.places) (.slice A n.trans.length c) (.int .i64 n.source) (.int .i64 n.sink),Loc.bl w.heap.size w] (w.alloc (.cells #[.int .i64 n.places, .slice A n.trans.length c, .int .i64 n.source, .int .i64 n.sink] 24))):=Lib.hid ⟨K4.new w _ _ _ _ _,⟨(Below.refl _ _).alloc (Nat.le_refl _) _,by simp⟩,True.intro⟩
   have hk4:=M.out.1
   go_wp2_with (go_at_call 130;refine(zgy HWB.out lo' hi' _ _ (HW.out.after M.out.2.1.1)).mono ?_;rintro e w1 ⟨rfl,hb1⟩;replace M:=Lib.hid (M.out.below hb1);clear hb1;skip)
   exact HR.out _ _ ⟨zbd HE.out.symm,M.out.2.1.1⟩
  ·
   have HWB:=Lib.hid hwb
   have HE:Hid (zb1 n l s=(decide (0≤gti s 0) && decide (gti s 0≤l.length) && zdd n tl)):=Lib.hid (by rw[←HTL.out];simp[zb1,hwb,h1])
   clear hwb
   generalize gti s 0=p at*
   refine zak fun R hR=>?_
   have HR:=Lib.hid hR
   clear hR
   go_enter Tryz.func95,Tryz.ntmps95
   have M:Hid (Mem [Loc.k4 w.heap.size (.int .i64 n.places) (.slice A n.trans.length c) (.int .i64 n.source) (.int .i64 n.sink),Loc.bl w.heap.size w] (w.alloc (.cells #[.int .i64 n.places, .slice A n.trans.length c, .int .i64 n.source, .int .i64 n.sink] 24))):=Lib.hid ⟨K4.new w _ _ _ _ _,⟨(Below.refl _ _).alloc (Nat.le_refl _) _,by simp⟩,True.intro⟩
   have hk4:=M.out.1
   have hcell:=C1.aft M.out.2.1.1 HC.out
   go_wp2_with (go_at_call 130;refine(zgy HWB.out lo' hi' _ _ (HW.out.after M.out.2.1.1)).mono ?_;rintro e w1 ⟨rfl,hb1⟩;replace M:=Lib.hid (M.out.below hb1);clear hb1;replace hk4:=M.out.1;replace hcell:=C1.aft M.out.2.1.1 HC.out)
   all_goals (try (first|(refine HR.out _ _ ⟨zbd ?_,M.out.2.1.1⟩;rw[HE.out];clear HE;go_light;grind)))
   cases hmb:zdd n tl
   all_goals
    have HMB:=Lib.hid hmb
    have HCD:=Lib.hid (zqv n tl)
    rw[hmb] at HCD
    simp only[if_true,Bool.false_eq_true,if_false] at HCD
    clear hmb
    go_region_held3 (fun W=>K4 W w.heap.size (.int .i64 n.places) (.slice A n.trans.length c) (.int .i64 n.source) (.int .i64 n.sink)) (exact hk4) (first|(go_at_call 145;refine(zus n tl _ _ lo hi lo2 hi2 _ (HV.out.after (by first|exact M.out.2.1.1|exact M.out.drew.2.1.1)) (HT.out.after (by first|exact M.out.2.1.1|exact M.out.drew.2.1.1))).mono ?_;rintro e w6 ⟨A6,c6,rfl,hr6,hb6⟩;rw[HCD.out];replace M:=Lib.hid (Mem.below (by first|exact M.out|exact M.out.drew) hb6);replace hk4:=M.out.1;clear hb6 hr6))
    all_goals
     go_wp2_with fail
     refine HR.out _ _ ⟨zbd ?_,M.out.2.1.1⟩
     rw[HE.out,HMB.out]
     clear HE
     go_light
     grind
 ·
  have h0:s=[]:=List.eq_nil_of_length_eq_zero xa
  subst h0
  have HE:Hid (zb1 n l []=false):=Lib.hid (by simp[zb1])
  clear hs
  refine zak fun R hR=>?_
  have HR:=Lib.hid hR
  clear hR
  go_enter Tryz.func95,Tryz.ntmps95
  have M:Hid (Mem [Loc.k4 w.heap.size (.int .i64 n.places) (.slice A n.trans.length c) (.int .i64 n.source) (.int .i64 n.sink),Loc.bl w.heap.size w] (w.alloc (.cells #[.int .i64 n.places, .slice A n.trans.length c, .int .i64 n.source, .int .i64 n.sink] 24))):=Lib.hid ⟨K4.new w _ _ _ _ _,⟨(Below.refl _ _).alloc (Nat.le_refl _) _,by simp⟩,True.intro⟩
  have hk4:=M.out.1
  go_wp2_with (go_at_call 130;refine(zpl l lo' hi' _ _ (HW.out.after M.out.2.1.1)).mono ?_;rintro e w1 ⟨rfl,hb1⟩;replace M:=Lib.hid (M.out.below hb1);clear hb1;skip)
  all_goals exact HR.out _ _ ⟨zbd HE.out.symm,M.out.2.1.1⟩
theorem zto {n:Net}{s:List Int}(hp:1≤n.places)(h: ¬ (s.length:Int)=n.places+1):(decide (1≤s.length) && zdx n (s.drop 1))=false:=by
 by_cases h1:1≤s.length
 ·
  rw[zdx,if_pos (by simp;omega)]
  simp
 ·
  simp[h1]
theorem zwu {n:Net}{w:List ByteArray}{s:List Int}(hp:1≤n.places)(h: ¬ (s.length:Int)=n.places+1):zb1 n w s=false:=by
 have:=zto hp h
 unfold zb1 zdd
 grind
set_option maxRecDepth 100000 in
set_option maxHeartbeats 4000000 in
theorem zrt (n:Net)(l:List ByteArray)(s:List Int)(vt v vs:Value)(lo hi lo' hi' lo2 hi2:Nat)(w:World)(hv:RdT w lo hi vt n.trans)(hw:RdS w lo' hi' v l)(hs:RdI w lo2 hi2 vs s):
  Calls Tryz.prog 51 #[netV n vt,v,vs] w fun e w'=>e= .returned (.bool (zb1 n l s))∧Below w.heap.size w w':=by
 obtain⟨A,c,rfl,hc,hmm⟩:=hv.form
 obtain⟨A2,c2,rfl,hc2,hmm2⟩:=hw.form
 obtain⟨A3,c3,rfl,hc3,hmm3⟩:=hs.form
 have HV:=Lib.hid hv
 have HW:=Lib.hid hw
 clear hv hw
 have tl:List Int:=[]
 have HT:Hid (RdI w lo2 hi2 (.slice none 0 0) ([]:List Int)):=Lib.hid (Rd.nil _ _ _)
 cases hvb:zb7 n with
 | false=>
  have HVB:=Lib.hid hvb
  have HE:Hid (zb1 n l s=false):=Lib.hid (by simp[zb1,zdd,hvb])
  have HWB:Hid (zd0 l=zd0 l):=Lib.hid J
  clear hvb hs
  refine zak fun R hR=>?_
  have HR:=Lib.hid hR
  clear hR
  go_enter Tryz.func51,Tryz.ntmps51
  have M:Hid (Mem [Loc.k4 w.heap.size (.int .i64 n.places) (.slice A n.trans.length c) (.int .i64 n.source) (.int .i64 n.sink),Loc.bl w.heap.size w] (w.alloc (.cells #[.int .i64 n.places, .slice A n.trans.length c, .int .i64 n.source, .int .i64 n.sink] 24))):=Lib.hid ⟨K4.new w _ _ _ _ _,⟨(Below.refl _ _).alloc (Nat.le_refl _) _,by simp⟩,True.intro⟩
  have hk4:=M.out.1
  go_wp2_with fail
  refine zdo (C:=(Mem [Loc.k4 w.heap.size (.int .i64 n.places) (.slice A n.trans.length c) (.int .i64 n.source) (.int .i64 n.sink),Loc.bl w.heap.size w])) (by kernel_rfl) (by kernel_rfl) (by exact M.out.drew) ?_
  repeat (first
   |(refine BigFrame.wpQuiet_skip (by rfl) ?_;simp only[Act.put,List.setIfInBounds_toArray,List.set_cons_zero,List.set_cons_succ])
   |(refine BigFrame.wpQuiet_want (by rfl) (fun K hK=>?_);refine BigFrame.quiet_move _ J (hK _ ?_);clear hK K;simp only[Act.put,Act.eval,List.setIfInBounds_toArray,List.set_cons_zero,List.set_cons_succ,List.getD_toArray,List.getD_cons_zero,List.getD_cons_succ])
   |(refine BigFrame.wpQuiet_want (by rfl) (fun K hK=>?_);refine BigFrame.quiet_assign _ J (hK _ ?_);clear hK K;simp only[Act.put,Act.eval,List.setIfInBounds_toArray,List.set_cons_zero,List.set_cons_succ,List.getD_toArray,List.getD_cons_zero,List.getD_cons_succ])
   |(refine BigFrame.wpQuiet_want (by rfl) (fun K hK=>?_);refine zgb (v:=?_) (fun W hW=>?_) (hK _ ?_);rotate_left;((have hq1:=hW.1;dsimp only[Loc.k4] at hq1);go_simp;try (with_reducible rfl));clear hK K;simp only[Act.put,List.setIfInBounds_toArray,List.set_cons_zero,List.set_cons_succ])
   |(refine BigFrame.wpQuiet_want (by rfl) (fun K hK=>?_);go_simp;apply Exists.intro;refine⟨fun W hW=>?_,hK _ ?_⟩;(first
    |exact(zcs HVB.out _ lo hi _ (HV.out.after hW.2.1.1)).mono (fun e w' h=>⟨h.1,hW.below h.2⟩)
    |exact(zdn HWB.out lo' hi' _ _ (HW.out.after hW.2.1.1)).mono (fun e w' h=>⟨h.1,hW.below h.2⟩)
    |exact(zd2 n _ tl _ lo2 hi2 _ (HT.out.after hW.2.1.1)).mono (fun e w' h=>⟨h.1,hW.below h.2⟩));clear hK K;try simp only[Act.put,List.setIfInBounds_toArray,List.set_cons_zero,List.set_cons_succ])
   |fail)
  refine wpQuiet_nil ?_
  intro W hW
  go_wp2_with fail
  refine HR.out _ _ ⟨zbd ?_,hW.2.1.1⟩
  first|exact HE.out.symm|(rw[HE.out];rfl)
 |true=>
 have hpl:=zbu hvb
 have hwr:IntKind.i64.wrap (n.places+1)=n.places+1:=IntWalk.i64_in _ xa
 have HVB:=Lib.hid hvb
 clear hvb
 cases hwb:zd0 l with
 | false=>
  have HE:Hid (zb1 n l s=false):=Lib.hid (by simp[zb1,hwb])
  have HWB:=Lib.hid hwb
  clear hwb hs
  refine zak fun R hR=>?_
  have HR:=Lib.hid hR
  clear hR
  go_enter Tryz.func51,Tryz.ntmps51
  have M:Hid (Mem [Loc.k4 w.heap.size (.int .i64 n.places) (.slice A n.trans.length c) (.int .i64 n.source) (.int .i64 n.sink),Loc.bl w.heap.size w] (w.alloc (.cells #[.int .i64 n.places, .slice A n.trans.length c, .int .i64 n.source, .int .i64 n.sink] 24))):=Lib.hid ⟨K4.new w _ _ _ _ _,⟨(Below.refl _ _).alloc (Nat.le_refl _) _,by simp⟩,True.intro⟩
  have hk4:=M.out.1
  go_wp2_with fail
  refine zdo (C:=(Mem [Loc.k4 w.heap.size (.int .i64 n.places) (.slice A n.trans.length c) (.int .i64 n.source) (.int .i64 n.sink),Loc.bl w.heap.size w])) (by kernel_rfl) (by kernel_rfl) (by exact M.out.drew) ?_
  repeat (first
   |(refine BigFrame.wpQuiet_skip (by rfl) ?_;simp only[Act.put,List.setIfInBounds_toArray,List.set_cons_zero,List.set_cons_succ])
   |(refine BigFrame.wpQuiet_want (by rfl) (fun K hK=>?_);refine BigFrame.quiet_move _ J (hK _ ?_);clear hK K;simp only[Act.put,Act.eval,List.setIfInBounds_toArray,List.set_cons_zero,List.set_cons_succ,List.getD_toArray,List.getD_cons_zero,List.getD_cons_succ])
   |(refine BigFrame.wpQuiet_want (by rfl) (fun K hK=>?_);refine BigFrame.quiet_assign _ J (hK _ ?_);clear hK K;simp only[Act.put,Act.eval,List.setIfInBounds_toArray,List.set_cons_zero,List.set_cons_succ,List.getD_toArray,List.getD_cons_zero,List.getD_cons_succ])
   |(refine BigFrame.wpQuiet_want (by rfl) (fun K hK=>?_);refine zgb (v:=?_) (fun W hW=>?_) (hK _ ?_);rotate_left;((have hq1:=hW.1;dsimp only[Loc.k4] at hq1);go_simp;try (with_reducible rfl));clear hK K;simp only[Act.put,List.setIfInBounds_toArray,List.set_cons_zero,List.set_cons_succ])
   |(refine BigFrame.wpQuiet_want (by rfl) (fun K hK=>?_);go_simp;apply Exists.intro;refine⟨fun W hW=>?_,hK _ ?_⟩;(first
    |exact(zcs HVB.out _ lo hi _ (HV.out.after hW.2.1.1)).mono (fun e w' h=>⟨h.1,hW.below h.2⟩)
    |exact(zdn HWB.out lo' hi' _ _ (HW.out.after hW.2.1.1)).mono (fun e w' h=>⟨h.1,hW.below h.2⟩)
    |exact(zd2 n _ tl _ lo2 hi2 _ (HT.out.after hW.2.1.1)).mono (fun e w' h=>⟨h.1,hW.below h.2⟩));clear hK K;try simp only[Act.put,List.setIfInBounds_toArray,List.set_cons_zero,List.set_cons_succ])
   |fail)
  refine wpQuiet_nil ?_
  intro W hW
  go_wp2_with fail
  refine HR.out _ _ ⟨zbd ?_,hW.2.1.1⟩
  first|exact HE.out.symm|(rw[HE.out];rfl)
 |true=>
 have HWB:=Lib.hid hwb
 by_cases h1:(s.length:Int)=n.places+1
 ·
  have h1':1≤s.length:=by omega
  have hs0:(0:Int)<(s.length:Int):=by omega
  have hs2: ¬s=[]:=by intro e;rw[e] at h1';simp at h1'
  have hs3:0<s.length:=h1'
  have b1:((s.length:Int)==n.places+1)=true:=by rw[beq_iff_eq];exact h1
  obtain⟨b,off,rfl,_,_,hcell⟩:=RdI.at1 hs (k:=0) xa
  obtain⟨At,ct,hsl,ht⟩:=RdI.tail1 hs h1' hc3
  clear tl HT
  obtain⟨tl,htl⟩: ∃tl,s.drop 1=tl:=⟨_,rfl⟩
  rw[htl] at hsl ht
  have HE:Hid (zb1 n l s=(decide (0≤gti s 0) && decide (gti s 0≤l.length) && zdx n tl)):=Lib.hid (by rw[←htl];simp[zb1,hwb,h1',zdd,HVB.out])
  have HTL:=Lib.hid htl
  clear htl
  have HT:=Lib.hid ht
  clear hs ht hwb
  simp only[Nat.add_zero] at hcell
  have HC:=Lib.hid hcell
  clear hcell
  generalize gti s 0=p at*
  have H1:=Lib.hid h1
  clear h1
  by_cases g1:0≤p
  ·
   have b2:=decide_eq_true g1
   by_cases g2:p≤l.length
   ·
    have b3:=decide_eq_true g2
    replace HE:Hid (zb1 n l s=zdx n tl):=Lib.hid (by rw[HE.out,b2,b3];rfl)
    refine zak fun R hR=>?_
    have HR:=Lib.hid hR
    clear hR
    go_enter Tryz.func51,Tryz.ntmps51
    have M:Hid (Mem [Loc.k4 w.heap.size (.int .i64 n.places) (.slice (A) n.trans.length c) (.int .i64 n.source) (.int .i64 n.sink),Loc.bl w.heap.size w] (w.alloc (.cells #[.int .i64 n.places, .slice (A) n.trans.length c, .int .i64 n.source, .int .i64 n.sink] 24))):=Lib.hid ⟨K4.new w _ _ _ _ _,⟨(Below.refl _ _).alloc (Nat.le_refl _) _,by simp⟩,True.intro⟩
    have hk4:=M.out.1
    have hcell:=C1.aft M.out.2.1.1 HC.out
    go_wp2_with fail
    refine zdo (C:=(Mem [Loc.k4 w.heap.size (.int .i64 n.places) (.slice A n.trans.length c) (.int .i64 n.source) (.int .i64 n.sink),Loc.bl w.heap.size w,Loc.c1 b off (.int .i64 p)])) (by kernel_rfl) (by kernel_rfl) (by exact Mem.drew (l:=[_,_,Loc.c1 _ _ _]) ⟨M.out.1,M.out.2.1,hcell,True.intro⟩) ?_
    repeat (first
     |(refine BigFrame.wpQuiet_skip (by rfl) ?_;simp only[Act.put,List.setIfInBounds_toArray,List.set_cons_zero,List.set_cons_succ])
     |(refine BigFrame.wpQuiet_want (by rfl) (fun K hK=>?_);refine BigFrame.quiet_move _ J (hK _ ?_);clear hK K;simp only[Act.put,Act.eval,List.setIfInBounds_toArray,List.set_cons_zero,List.set_cons_succ,List.getD_toArray,List.getD_cons_zero,List.getD_cons_succ])
     |(refine BigFrame.wpQuiet_want (by rfl) (fun K hK=>?_);refine BigFrame.quiet_assign _ J (hK _ ?_);clear hK K;simp only[Act.put,Act.eval,List.setIfInBounds_toArray,List.set_cons_zero,List.set_cons_succ,List.getD_toArray,List.getD_cons_zero,List.getD_cons_succ])
     |(refine BigFrame.wpQuiet_want (by rfl) (fun K hK=>?_);refine zgb (v:=?_) (fun W hW=>?_) (hK _ ?_);rotate_left;((have hq1:=hW.1;have hq2:=hW.2.2.1;dsimp only[Loc.k4,Loc.c1] at hq1 hq2);go_simp;try (with_reducible rfl));clear hK K;simp only[Act.put,List.setIfInBounds_toArray,List.set_cons_zero,List.set_cons_succ])
     |(refine BigFrame.wpQuiet_want (by rfl) (fun K hK=>?_);go_simp;apply Exists.intro;refine⟨fun W hW=>?_,hK _ ?_⟩;(first
      |exact(zcs HVB.out _ lo hi _ (HV.out.after hW.2.1.1)).mono (fun e w' h=>⟨h.1,hW.below h.2⟩)
      |exact(zdn HWB.out lo' hi' _ _ (HW.out.after hW.2.1.1)).mono (fun e w' h=>⟨h.1,hW.below h.2⟩)
      |exact(zd2 n _ tl _ lo2 hi2 _ (HT.out.after hW.2.1.1)).mono (fun e w' h=>⟨h.1,hW.below h.2⟩));clear hK K;try simp only[Act.put,List.setIfInBounds_toArray,List.set_cons_zero,List.set_cons_succ])
     |fail)
    refine wpQuiet_nil ?_
    intro W hW
    go_wp2_with fail
    refine HR.out _ _ ⟨zbd ?_,hW.2.1.1⟩
    first|exact HE.out.symm|(rw[HE.out];rfl)
   ·
    have b3:=decide_eq_false g2
    replace HE:Hid (zb1 n l s=false):=Lib.hid (by rw[HE.out,b2,b3];rfl)
    refine zak fun R hR=>?_
    have HR:=Lib.hid hR
    clear hR
    go_enter Tryz.func51,Tryz.ntmps51
    have M:Hid (Mem [Loc.k4 w.heap.size (.int .i64 n.places) (.slice (A) n.trans.length c) (.int .i64 n.source) (.int .i64 n.sink),Loc.bl w.heap.size w] (w.alloc (.cells #[.int .i64 n.places, .slice (A) n.trans.length c, .int .i64 n.source, .int .i64 n.sink] 24))):=Lib.hid ⟨K4.new w _ _ _ _ _,⟨(Below.refl _ _).alloc (Nat.le_refl _) _,by simp⟩,True.intro⟩
    have hk4:=M.out.1
    have hcell:=C1.aft M.out.2.1.1 HC.out
    go_wp2_with fail
    refine zdo (C:=(Mem [Loc.k4 w.heap.size (.int .i64 n.places) (.slice A n.trans.length c) (.int .i64 n.source) (.int .i64 n.sink),Loc.bl w.heap.size w,Loc.c1 b off (.int .i64 p)])) (by kernel_rfl) (by kernel_rfl) (by exact Mem.drew (l:=[_,_,Loc.c1 _ _ _]) ⟨M.out.1,M.out.2.1,hcell,True.intro⟩) ?_
    repeat (first
     |(refine BigFrame.wpQuiet_skip (by rfl) ?_;simp only[Act.put,List.setIfInBounds_toArray,List.set_cons_zero,List.set_cons_succ])
     |(refine BigFrame.wpQuiet_want (by rfl) (fun K hK=>?_);refine BigFrame.quiet_move _ J (hK _ ?_);clear hK K;simp only[Act.put,Act.eval,List.setIfInBounds_toArray,List.set_cons_zero,List.set_cons_succ,List.getD_toArray,List.getD_cons_zero,List.getD_cons_succ])
     |(refine BigFrame.wpQuiet_want (by rfl) (fun K hK=>?_);refine BigFrame.quiet_assign _ J (hK _ ?_);clear hK K;simp only[Act.put,Act.eval,List.setIfInBounds_toArray,List.set_cons_zero,List.set_cons_succ,List.getD_toArray,List.getD_cons_zero,List.getD_cons_succ])
     |(refine BigFrame.wpQuiet_want (by rfl) (fun K hK=>?_);refine zgb (v:=?_) (fun W hW=>?_) (hK _ ?_);rotate_left;((have hq1:=hW.1;have hq2:=hW.2.2.1;dsimp only[Loc.k4,Loc.c1] at hq1 hq2);go_simp;try (with_reducible rfl));clear hK K;simp only[Act.put,List.setIfInBounds_toArray,List.set_cons_zero,List.set_cons_succ])
     |(refine BigFrame.wpQuiet_want (by rfl) (fun K hK=>?_);go_simp;apply Exists.intro;refine⟨fun W hW=>?_,hK _ ?_⟩;(first
      |exact(zcs HVB.out _ lo hi _ (HV.out.after hW.2.1.1)).mono (fun e w' h=>⟨h.1,hW.below h.2⟩)
      |exact(zdn HWB.out lo' hi' _ _ (HW.out.after hW.2.1.1)).mono (fun e w' h=>⟨h.1,hW.below h.2⟩)
      |exact(zd2 n _ tl _ lo2 hi2 _ (HT.out.after hW.2.1.1)).mono (fun e w' h=>⟨h.1,hW.below h.2⟩));clear hK K;try simp only[Act.put,List.setIfInBounds_toArray,List.set_cons_zero,List.set_cons_succ])
     |fail)
    refine wpQuiet_nil ?_
    intro W hW
    go_wp2_with fail
    refine HR.out _ _ ⟨zbd ?_,hW.2.1.1⟩
    first|exact HE.out.symm|(rw[HE.out];rfl)
  ·
   have b2:=decide_eq_false g1
   replace HE:Hid (zb1 n l s=false):=Lib.hid (by rw[HE.out,b2];rfl)
   refine zak fun R hR=>?_
   have HR:=Lib.hid hR
   clear hR
   go_enter Tryz.func51,Tryz.ntmps51
   have M:Hid (Mem [Loc.k4 w.heap.size (.int .i64 n.places) (.slice (A) n.trans.length c) (.int .i64 n.source) (.int .i64 n.sink),Loc.bl w.heap.size w] (w.alloc (.cells #[.int .i64 n.places, .slice (A) n.trans.length c, .int .i64 n.source, .int .i64 n.sink] 24))):=Lib.hid ⟨K4.new w _ _ _ _ _,⟨(Below.refl _ _).alloc (Nat.le_refl _) _,by simp⟩,True.intro⟩
   have hk4:=M.out.1
   have hcell:=C1.aft M.out.2.1.1 HC.out
   go_wp2_with fail
   refine zdo (C:=(Mem [Loc.k4 w.heap.size (.int .i64 n.places) (.slice A n.trans.length c) (.int .i64 n.source) (.int .i64 n.sink),Loc.bl w.heap.size w,Loc.c1 b off (.int .i64 p)])) (by kernel_rfl) (by kernel_rfl) (by exact Mem.drew (l:=[_,_,Loc.c1 _ _ _]) ⟨M.out.1,M.out.2.1,hcell,True.intro⟩) ?_
   repeat (first
    |(refine BigFrame.wpQuiet_skip (by rfl) ?_;simp only[Act.put,List.setIfInBounds_toArray,List.set_cons_zero,List.set_cons_succ])
    |(refine BigFrame.wpQuiet_want (by rfl) (fun K hK=>?_);refine BigFrame.quiet_move _ J (hK _ ?_);clear hK K;simp only[Act.put,Act.eval,List.setIfInBounds_toArray,List.set_cons_zero,List.set_cons_succ,List.getD_toArray,List.getD_cons_zero,List.getD_cons_succ])
    |(refine BigFrame.wpQuiet_want (by rfl) (fun K hK=>?_);refine BigFrame.quiet_assign _ J (hK _ ?_);clear hK K;simp only[Act.put,Act.eval,List.setIfInBounds_toArray,List.set_cons_zero,List.set_cons_succ,List.getD_toArray,List.getD_cons_zero,List.getD_cons_succ])
    |(refine BigFrame.wpQuiet_want (by rfl) (fun K hK=>?_);refine zgb (v:=?_) (fun W hW=>?_) (hK _ ?_);rotate_left;((have hq1:=hW.1;have hq2:=hW.2.2.1;dsimp only[Loc.k4,Loc.c1] at hq1 hq2);go_simp;try (with_reducible rfl));clear hK K;simp only[Act.put,List.setIfInBounds_toArray,List.set_cons_zero,List.set_cons_succ])
    |(refine BigFrame.wpQuiet_want (by rfl) (fun K hK=>?_);go_simp;apply Exists.intro;refine⟨fun W hW=>?_,hK _ ?_⟩;(first
     |exact(zcs HVB.out _ lo hi _ (HV.out.after hW.2.1.1)).mono (fun e w' h=>⟨h.1,hW.below h.2⟩)
     |exact(zdn HWB.out lo' hi' _ _ (HW.out.after hW.2.1.1)).mono (fun e w' h=>⟨h.1,hW.below h.2⟩)
     |exact(zd2 n _ tl _ lo2 hi2 _ (HT.out.after hW.2.1.1)).mono (fun e w' h=>⟨h.1,hW.below h.2⟩));clear hK K;try simp only[Act.put,List.setIfInBounds_toArray,List.set_cons_zero,List.set_cons_succ])
    |fail)
   refine wpQuiet_nil ?_
   intro W hW
   go_wp2_with fail
   refine HR.out _ _ ⟨zbd ?_,hW.2.1.1⟩
   first|exact HE.out.symm|(rw[HE.out];rfl)
 ·
  have b1:((s.length:Int)==n.places+1)=false:=by rw[beq_eq_false_iff_ne];exact h1
  have HE:Hid (zb1 n l s=false):=Lib.hid (zwu hpl.1 h1)
  clear hwb hs h1
  refine zak fun R hR=>?_
  have HR:=Lib.hid hR
  clear hR
  go_enter Tryz.func51,Tryz.ntmps51
  have M:Hid (Mem [Loc.k4 w.heap.size (.int .i64 n.places) (.slice A n.trans.length c) (.int .i64 n.source) (.int .i64 n.sink),Loc.bl w.heap.size w] (w.alloc (.cells #[.int .i64 n.places, .slice A n.trans.length c, .int .i64 n.source, .int .i64 n.sink] 24))):=Lib.hid ⟨K4.new w _ _ _ _ _,⟨(Below.refl _ _).alloc (Nat.le_refl _) _,by simp⟩,True.intro⟩
  have hk4:=M.out.1
  go_wp2_with fail
  refine zdo (C:=(Mem [Loc.k4 w.heap.size (.int .i64 n.places) (.slice A n.trans.length c) (.int .i64 n.source) (.int .i64 n.sink),Loc.bl w.heap.size w])) (by kernel_rfl) (by kernel_rfl) (by exact M.out.drew) ?_
  repeat (first
   |(refine BigFrame.wpQuiet_skip (by rfl) ?_;simp only[Act.put,List.setIfInBounds_toArray,List.set_cons_zero,List.set_cons_succ])
   |(refine BigFrame.wpQuiet_want (by rfl) (fun K hK=>?_);refine BigFrame.quiet_move _ J (hK _ ?_);clear hK K;simp only[Act.put,Act.eval,List.setIfInBounds_toArray,List.set_cons_zero,List.set_cons_succ,List.getD_toArray,List.getD_cons_zero,List.getD_cons_succ])
   |(refine BigFrame.wpQuiet_want (by rfl) (fun K hK=>?_);refine BigFrame.quiet_assign _ J (hK _ ?_);clear hK K;simp only[Act.put,Act.eval,List.setIfInBounds_toArray,List.set_cons_zero,List.set_cons_succ,List.getD_toArray,List.getD_cons_zero,List.getD_cons_succ])
   |(refine BigFrame.wpQuiet_want (by rfl) (fun K hK=>?_);refine zgb (v:=?_) (fun W hW=>?_) (hK _ ?_);rotate_left;((have hq1:=hW.1;dsimp only[Loc.k4] at hq1);go_simp;try (with_reducible rfl));clear hK K;simp only[Act.put,List.setIfInBounds_toArray,List.set_cons_zero,List.set_cons_succ])
   |(refine BigFrame.wpQuiet_want (by rfl) (fun K hK=>?_);go_simp;apply Exists.intro;refine⟨fun W hW=>?_,hK _ ?_⟩;(first
    |exact(zcs HVB.out _ lo hi _ (HV.out.after hW.2.1.1)).mono (fun e w' h=>⟨h.1,hW.below h.2⟩)
    |exact(zdn HWB.out lo' hi' _ _ (HW.out.after hW.2.1.1)).mono (fun e w' h=>⟨h.1,hW.below h.2⟩)
    |exact(zd2 n _ tl _ lo2 hi2 _ (HT.out.after hW.2.1.1)).mono (fun e w' h=>⟨h.1,hW.below h.2⟩));clear hK K;try simp only[Act.put,List.setIfInBounds_toArray,List.set_cons_zero,List.set_cons_succ])
   |fail)
  refine wpQuiet_nil ?_
  intro W hW
  go_wp2_with fail
  refine HR.out _ _ ⟨zbd ?_,hW.2.1.1⟩
  first|exact HE.out.symm|(rw[HE.out];rfl)
end
section
open Go.RowKit
def zdt (n:Net)(w:List ByteArray)(s:List Int)(m:Stp):List Int × Int:=
 if m.kind=2 then
  if m.trans≠ -1 then([],2) else if zf9 m.act=false then([],8) else if atB w (gti s 0) m.act=false then([],10) else((gti s 0+1)::s.drop 1,0)
 else if m.trans<0∨(n.trans.length:Int)≤m.trans then([],2)
 else if m.act≠(gti n.trans m.trans.toNat).label∨(gti n.trans m.trans.toNat).label.toList.isEmpty≠decide (m.kind=4) then([],8)
 else if m.kind=1∧atB w (gti s 0) m.act=false then([],10)
 else if (zen n (s.drop 1) m.trans).2≠0 then([],(zen n (s.drop 1) m.trans).2)
 else((if m.kind=1 then gti s 0+1 else gti s 0)::(zen n (s.drop 1) m.trans).1,0)
abbrev stpV (m:Stp):Value:= .agg #[.int .i64 m.kind, .int .i64 m.trans, .string m.act]
theorem zsg {n:Net}{m:List Int}{t:Int}:(zen n m t).1.length≤m.length:=by
 unfold zen zl2
 split
 ·
  split
  ·
   simp
  ·
   split
   ·
    split
    ·
     simp
    ·
     simp[zqn,zq2]
   ·
    simp
 ·
  simp
set_option maxRecDepth 100000 in
set_option maxHeartbeats 4000000 in
theorem zs0 (n:Net)(l:List ByteArray)(s:List Int)(m:Stp)(vt v vs:Value)(lo hi lo' hi' lo2 hi2:Nat)(w:World)(hv:RdT w lo hi vt n.trans)(hw:RdS w lo' hi' v l)(hs:RdI w lo2 hi2 vs s)
  (h1:1≤s.length) (h2:s.length≤1000) (h3:0≤gti s 0) (h4:gti s 0≤l.length) (h5:l.length≤1000):
  Calls Tryz.prog 73 #[netV n vt,v,vs,stpV m] w (RetI w (zdt n l s m)):=by
 obtain⟨A,c,rfl,hc,hmm⟩:=hv.form
 obtain⟨A2,c2,rfl,hc2,hmm2⟩:=hw.form
 obtain⟨A3,c3,rfl,hc3,hmm3⟩:=hs.form
 have HV:=Lib.hid hv
 have HW:=Lib.hid hw
 have HS:=Lib.hid hs
 clear hv hw
 obtain⟨b,off,rfl,_,_,hcell⟩:=RdI.at1 hs (k:=0) xa
 obtain⟨At,ct,hsl,ht⟩:=RdI.tail1 hs h1 hc3
 obtain⟨tl,htl⟩: ∃tl,s.drop 1=tl:=⟨_,rfl⟩
 have htl2:tl.length≤1000:=by rw[←htl];simp;omega
 rw[htl] at hsl ht
 have HAE:=Lib.hid (show zdt n l s m=_ from by unfold zdt;rfl)
 rw[htl] at HAE
 have HT:=Lib.hid ht
 have hs0:(0:Int)<(s.length:Int):=by omega
 have hs2: ¬s=[]:=by intro e;rw[e] at h1;simp at h1
 have hs3:0<s.length:=h1
 clear hs ht htl
 simp only[Nat.add_zero] at hcell
 have HC:=Lib.hid hcell
 clear hcell
 generalize gti s 0=p at*
 obtain⟨kd,tr,ac⟩:=m
 simp only at HAE
 have hM: ∀ (w0:World),Mem [Loc.k3 (w0.heap.size+1) (.int .i64 kd) (.int .i64 tr) (.string ac),Loc.k4 w0.heap.size (.int .i64 n.places) (.slice A n.trans.length c) (.int .i64 n.source) (.int .i64 n.sink),Loc.bl w0.heap.size w0] ((w0.alloc (.cells #[.int .i64 n.places, .slice A n.trans.length c, .int .i64 n.source, .int .i64 n.sink] 24)).alloc (.cells #[.int .i64 kd, .int .i64 tr, .string ac] 66)):=fun w0=>
  ⟨by have:=K3.new (w0.alloc (.cells #[.int .i64 n.places, .slice A n.trans.length c, .int .i64 n.source, .int .i64 n.sink] 24)) (.int .i64 kd) (.int .i64 tr) (.string ac) 66;rw[World.size_alloc] at this;exact this,K4.aft ((Below.refl _ _).alloc (Nat.le_refl _) _) (K4.new w0 _ _ _ _ _),⟨((Below.refl _ _).alloc (Nat.le_refl _) _).alloc xm _,by simp;omega⟩,True.intro⟩
 by_cases hk2:kd=2
 ·
  subst hk2
  refine zak fun R hR=>?_
  have HR:=Lib.hid hR
  clear hR
  go_enter Tryz.func73,Tryz.ntmps73
  have M:=Lib.hid (hM w)
  clear hM
  have hk3:=M.out.1
  have hcell:=C1.aft M.out.2.2.1.1 HC.out
  go_wp2_with fail
  go_quiet (fail)
  replace M:=Lib.hid (M.out.drewN nq)
  replace hk3:=M.out.1
  generalize World.drewN _ nq=W at*
  go_wp2_with (first
   |(go_at_call 78;refine(zk7 _ _).mono ?_;rintro e w1 ⟨rfl,hb1⟩;replace M:=Lib.hid (M.out.below hb1);clear hb1;replace hk3:=M.out.1)
   |(go_at_call 97;refine(z18 l p _ lo' hi' _ _ (HW.out.after M.out.2.2.1.1) h3).mono ?_;rintro e w1 ⟨rfl,hb1⟩;replace M:=Lib.hid (M.out.below hb1);clear hb1;replace hk3:=M.out.1;have hz1:=M.out.1.2.2.2;have hz0:=M.out.2.1.2.2.2.2)
   |(at_builtin;refine zcz J _ _ J zhm (fun _=>rfl) oneI J J (Mem.lit1 M.out (p+1)) (by(repeat' (first|exact True.intro|refine And.intro (fun k hk e=>?_) ?_))<;>(first|exact e|((try dsimp only[Loc.c1,Loc.c2,Loc.k1,Loc.k2,Loc.k3,Loc.k4,Loc.k6,Loc.fr,Loc.bl,Loc.own,Loc.sz,Loc.rd,Loc.rdI,Loc.rdS,Loc.rdM,Loc.rdT,Loc.ow,Loc.owI] at hk e)<;>omega))) (HT.out.after (M.out.2.2.1.1.alloc M.out.2.2.1.2 _)) (by simp;omega) (by simp;omega) (by simp) ?_;intro A9 c9 w9 hM1 hs1 hch1;replace M:=Lib.hid hM1;clear hM1 hch1))
  all_goals have hae:=HAE.out
  all_goals clear HAE
  all_goals first
   |exact HR.out _ _ (RetI.nil (by rw[hae];clear hae;go_light;grind) M.out.2.2.1.1)
   |exact HR.out _ _ (RetI.mk (l:=(p+1)::tl) (by rw[hae];clear hae;go_light;grind) (by simp;omega) M.out.1.rd xa (Nat.le_refl _) M.out.2.2.2.1.1)
 ·
  by_cases ht:tr<0∨n.trans.length≤tr
  ·
   have HTT:=Lib.hid ht
   have HK2:=Lib.hid hk2
   have hk2':(kd==2)=false:=by simpa using hk2
   refine zak fun R hR=>?_
   have HR:=Lib.hid hR
   clear hR
   go_enter Tryz.func73,Tryz.ntmps73
   have M:=Lib.hid (hM w)
   clear hM
   have hk3:=M.out.1
   have hk4:=M.out.2.1
   have hcell:=C1.aft M.out.2.2.1.1 HC.out
   go_wp2_with fail
   go_quiet (fail)
   replace M:=Lib.hid (M.out.drewN nq)
   replace hk3:=M.out.1
   replace hk4:=M.out.2.1
   generalize World.drewN _ nq=W at*
   go_wp2_with fail
   all_goals have hae:=HAE.out
   all_goals rw[if_neg HK2.out,if_pos HTT.out] at hae
   all_goals first
    |exact HR.out _ _ (RetI.nil hae M.out.2.2.1.1)
    |(exfalso;go_light;omega)
  ·
   have HTT:=Lib.hid ht
   have HK2:=Lib.hid hk2
   have hk2':(kd==2)=false:=by simpa using hk2
   obtain⟨kt,rfl⟩: ∃k:Nat,tr=k:=⟨tr.toNat,by omega⟩
   have hlt:kt<n.trans.length:=by omega
   clear ht
   obtain⟨b4,off4,vi,vo,rfl,hbl,hbh,hcl,hri,hro⟩:=RdT.at3 HV.out hlt
   have HCL:=Lib.hid hcl
   have hx1:((kt:Int)<0)=False:=by simp
   have hx2:((n.trans.length:Int)≤(kt:Int))=False:=by simp;omega
   have HFL:=Lib.hid (zsg (n:=n) (m:=tl) (t:=kt))
   rw[if_neg HK2.out,if_neg HTT.out,Int.toNat_natCast] at HAE
   generalize gti n.trans kt=x at*
   clear hri hro hcl
   have HFE:=Lib.hid (fun (W:World) (h:Below w.heap.size w W)=>zwq n tl kt _ _ lo hi lo2 hi2 W (HV.out.after h) (HT.out.after h))
   obtain⟨⟨fl,fe⟩,hfe⟩: ∃r,zen n tl kt=r:=⟨_,rfl⟩
   rw[hfe] at HAE HFE HFL
   simp only at HAE HFL
   clear hfe
   refine zak fun R hR=>?_
   have HR:=Lib.hid hR
   clear hR
   go_enter Tryz.func73,Tryz.ntmps73
   have M:=Lib.hid (hM w)
   clear hM
   have hk3:=M.out.1
   have hk4:=M.out.2.1
   have hcell:=C1.aft M.out.2.2.1.1 HC.out
   go_wp2_with fail
   go_quiet (fail)
   replace M:=Lib.hid (M.out.drewN nq)
   replace hk3:=M.out.1
   replace hk4:=M.out.2.1
   generalize World.drewN _ nq=W at*
   have hcr:=C3.aft M.out.2.2.1.1 HCL.out
   go_wp2_with (first
    |(go_at_call 97;refine(z18 l p _ lo' hi' _ _ (HW.out.after M.out.2.2.1.1) h3).mono ?_;rintro e w1 ⟨rfl,hb1⟩;replace M:=Lib.hid (M.out.below hb1);clear hb1;replace hk3:=M.out.1;replace hk4:=M.out.2.1)
    |(go_at_call 96;refine(HFE.out _ M.out.2.2.1.1).mono ?_;rintro e w6 ⟨A6,c6,rfl,hr6,hb6⟩;have hz0:=M.out.2.1.2.2.2.2;have hz1:=M.out.1.2.2.2;have hz6:=hb6.size;replace M:=Lib.hid (M.out.below hb6);have HR6:=Lib.hid hr6;dsimp only at HR6⊢;clear hb6 hr6)
    |(at_builtin;refine zcz J _ _ J zhm (fun _=>rfl) oneI J J (Mem.lit1 M.out _) (by(repeat' (first|exact True.intro|refine And.intro (fun k hk e=>?_) ?_))<;>(first|exact e|((try dsimp only[Loc.c1,Loc.c2,Loc.k1,Loc.k2,Loc.k3,Loc.k4,Loc.k6,Loc.fr,Loc.bl,Loc.own,Loc.sz,Loc.rd,Loc.rdI,Loc.rdS,Loc.rdM,Loc.rdT,Loc.ow,Loc.owI] at hk e)<;>omega))) (HR6.out.after ((Below.refl _ _).alloc (Nat.le_refl _) _)) (by have:=HFL.out;simp;omega) (by have:=HFL.out;simp;omega) (by simp) ?_;intro A9 c9 w9 hM1 hs1 hch1;replace M:=Lib.hid hM1;clear hM1 hch1))
   all_goals have hae:=HAE.out
   all_goals clear HAE
   all_goals have hinj:= @toList_inj ac x.label
   all_goals first
    |exact HR.out _ _ (RetI.nil (by rw[hae];clear hae;go_light;grind) M.out.2.2.1.1)
    |exact HR.out _ _ (RetI.mk (by rw[hae];clear hae;go_light;grind) (by simp;omega) M.out.1.rd xa (Nat.le_refl _) M.out.2.2.2.1.1)
end
section
open Go.RowKit
def zbk (n:Net)(w:List ByteArray)(s:List Int)(m:Stp):List Int × Int:=if zb1 n w s && zfl m.kind then zdt n w s m else([],1)
theorem zk6 {n:Net}{l:List ByteArray}{s:List Int}{z:Bool}(hz:zb1 n l s=z)(vt v vs:Value)(lo hi lo' hi' lo2 hi2:Nat)(w:World)(hv:RdT w lo hi vt n.trans)(hw:RdS w lo' hi' v l)(hs:RdI w lo2 hi2 vs s):
  Calls Tryz.prog 95 #[netV n vt,v,vs] w fun e w'=>e= .returned (.bool z)∧Below w.heap.size w w':=hz▸ztu n l s vt v vs lo hi lo' hi' lo2 hi2 w hv hw hs
theorem zc6 {n:Net}{l:List ByteArray}{s:List Int}{z:Bool}(hz:zb1 n l s=z)(vt v vs:Value)(lo hi lo' hi' lo2 hi2:Nat)(w:World)(hv:RdT w lo hi vt n.trans)(hw:RdS w lo' hi' v l)(hs:RdI w lo2 hi2 vs s):
  Calls Tryz.prog 51 #[netV n vt,v,vs] w fun e w'=>e= .returned (.bool z)∧Below w.heap.size w w':=hz▸zrt n l s vt v vs lo hi lo' hi' lo2 hi2 w hv hw hs
theorem z70 {k:Int}{z:Bool}(hz:zfl k=z)(w:World):Calls Tryz.prog 143 #[.int .i64 k] w fun e w'=>e= .returned (.bool z)∧Below w.heap.size w w':=hz▸zvu k w
theorem zda {n:Net}{l:List ByteArray}{s:List Int}(h:zb1 n l s=true):1≤s.length∧s.length≤1000∧0≤gti s 0∧gti s 0≤l.length∧l.length≤200:=by
 obtain⟨h1,h2,h3,h4,h5⟩:=zdb.1 h
 unfold zdd at h5
 simp only[Bool.and_eq_true] at h5
 have h6:=zft h5.2
 have h7:=zbu h5.1
 unfold zd0 at h1
 simp only[Bool.and_eq_true,decide_eq_true_eq] at h1
 simp at h6
 omega
theorem stepM (kd tr:Int)(ac:ByteArray)(n:Net)(vt:Value)(w0:World):Mem [Loc.k3 (w0.heap.size+1) (.int .i64 kd) (.int .i64 tr) (.string ac),Loc.k4 w0.heap.size (.int .i64 n.places) (vt) (.int .i64 n.source) (.int .i64 n.sink),Loc.bl w0.heap.size w0] ((w0.alloc (.cells #[.int .i64 n.places,vt, .int .i64 n.source, .int .i64 n.sink] 24)).alloc (.cells #[.int .i64 kd, .int .i64 tr, .string ac] 66)):=
 ⟨by have:=K3.new (w0.alloc (.cells #[.int .i64 n.places,vt, .int .i64 n.source, .int .i64 n.sink] 24)) (.int .i64 kd) (.int .i64 tr) (.string ac) 66;rw[World.size_alloc] at this;exact this,K4.aft ((Below.refl _ _).alloc (Nat.le_refl _) _) (K4.new w0 _ _ _ _ _),⟨((Below.refl _ _).alloc (Nat.le_refl _) _).alloc xm _,by simp;omega⟩,True.intro⟩
set_option maxHeartbeats 1000000 in
theorem z2p (n:Net)(l:List ByteArray)(s:List Int)(m:Stp)(vt v vs:Value)(lo hi lo' hi' lo2 hi2:Nat)(w:World)(hv:RdT w lo hi vt n.trans)(hw:RdS w lo' hi' v l)(hs:RdI w lo2 hi2 vs s):
  Calls Tryz.prog 90 #[netV n vt,v,vs,stpV m] w (RetI w (zbk n l s m)):=by
 obtain⟨A,c,rfl,hc,hmm⟩:=hv.form
 obtain⟨A2,c2,rfl,hc2,hmm2⟩:=hw.form
 obtain⟨A3,c3,rfl,hc3,hmm3⟩:=hs.form
 have HV:=Lib.hid hv
 have HW:=Lib.hid hw
 have HS:=Lib.hid hs
 clear hv hw hs
 obtain⟨z,hz⟩: ∃z,zb1 n l s=z:=⟨_,rfl⟩
 obtain⟨y,hy⟩: ∃y,zfl m.kind=y:=⟨_,rfl⟩
 have HZ:=Lib.hid hz
 have HY:=Lib.hid hy
 have HAE:Hid (zbk n l s m=if z && y then zdt n l s m else([],1)):=Lib.hid (by rw[zbk,hz,hy])
 clear hz hy
 have hM:=stepM m.kind m.trans m.act n (.slice A n.trans.length c)
 cases z<;>cases y
 all_goals
  refine zak fun R hR=>?_
  have HR:=Lib.hid hR
  clear hR
  go_enter Tryz.func90,Tryz.ntmps90
  have M:=Lib.hid (hM w)
  have hk3:=M.out.1
  have hk4:=M.out.2.1
  go_wp2_with (first
   |(go_at_call 95;refine(zk6 HZ.out _ _ _ lo hi lo' hi' lo2 hi2 _ (HV.out.after M.out.2.2.1.1) (HW.out.after M.out.2.2.1.1) (HS.out.after M.out.2.2.1.1)).mono ?_;rintro e w1 ⟨rfl,hb1⟩;replace M:=Lib.hid (M.out.below hb1);clear hb1;replace hk3:=M.out.1;replace hk4:=M.out.2.1)
   |(go_at_call 143;refine(z70 HY.out _).mono ?_;rintro e w1 ⟨rfl,hb1⟩;replace M:=Lib.hid (M.out.below hb1);clear hb1;replace hk3:=M.out.1;replace hk4:=M.out.2.1)
   |(go_at_call 73;refine(zs0 n l s m _ _ _ lo hi lo' hi' lo2 hi2 _ (HV.out.after M.out.2.2.1.1) (HW.out.after M.out.2.2.1.1) (HS.out.after M.out.2.2.1.1) (zda HZ.out).1 (zda HZ.out).2.1 (zda HZ.out).2.2.1 (zda HZ.out).2.2.2.1 (by have:=(zda HZ.out).2.2.2.2;omega)).mono ?_;rintro e w7 ⟨A7,c7,rfl,hr7,hb7⟩;have HR7:=Lib.hid hr7;have hz7:=M.out.2.2.1.2;replace M:=Lib.hid (M.out.below hb7);clear hb7 hr7))
 ·
  exact HR.out _ _ (RetI.nil (by rw[HAE.out];rfl) M.out.2.2.1.1)
 ·
  exact HR.out _ _ (RetI.nil (by rw[HAE.out];rfl) M.out.2.2.1.1)
 ·
  exact HR.out _ _ (RetI.nil (by rw[HAE.out];rfl) M.out.2.2.1.1)
 ·
  exact HR.out _ _ (RetI.mk (by rw[HAE.out];rfl) rfl HR7.out hz7 (Nat.le_refl _) M.out.2.2.1.1)
set_option maxRecDepth 100000 in
set_option maxHeartbeats 8000000 in
theorem zk0 (n:Net)(l:List ByteArray)(s:List Int)(m:Stp)(vt v vs:Value)(lo hi lo' hi' lo2 hi2:Nat)(w:World)(hv:RdT w lo hi vt n.trans)(hw:RdS w lo' hi' v l)(hs:RdI w lo2 hi2 vs s):
  Calls Tryz.prog 28 #[netV n vt,v,vs,stpV m] w (RetI w (zbk n l s m)):=by
 obtain⟨A,c,rfl,hc,hmm⟩:=hv.form
 obtain⟨A2,c2,rfl,hc2,hmm2⟩:=hw.form
 obtain⟨A3,c3,rfl,hc3,hmm3⟩:=hs.form
 have HV:=Lib.hid hv
 have HW:=Lib.hid hw
 have HS:=Lib.hid hs
 clear hv hw
 obtain⟨z,hz⟩: ∃z,zb1 n l s=z:=⟨_,rfl⟩
 have HZ:=Lib.hid hz
 obtain⟨kd,tr,ac⟩:=m
 have hM:=stepM kd tr ac n (.slice A n.trans.length c)
 by_cases hbad:z=false∨zfl kd=false
 ·
  have HAE:Hid (zbk n l s ⟨kd,tr,ac⟩=([],1)):=Lib.hid (by rw[zbk,hz];rcases hbad with h|h<;>simp[h])
  have HBAD:=Lib.hid hbad
  clear hz hs hbad
  cases z
  ·
   refine zak fun R hR=>?_
   have HR:=Lib.hid hR
   clear hR
   go_enter Tryz.func28,Tryz.ntmps28
   have M:=Lib.hid (hM w)
   have hk3:=M.out.1
   have hk4:=M.out.2.1
   go_wp2_with (go_at_call 51;refine(zc6 HZ.out _ _ _ lo hi lo' hi' lo2 hi2 _ (HV.out.after M.out.2.2.1.1) (HW.out.after M.out.2.2.1.1) (HS.out.after M.out.2.2.1.1)).mono ?_;rintro e w1 ⟨rfl,hb1⟩;replace M:=Lib.hid (M.out.below hb1);clear hb1;replace hk3:=M.out.1;replace hk4:=M.out.2.1)
   exact HR.out _ _ (RetI.nil HAE.out M.out.2.2.1.1)
  ·
   have hkb: ¬ (1≤kd∧kd≤4):=by
    rcases HBAD.out with h|h
    ·
     cases h
    ·
     unfold zfl at h;simp at h;omega
   by_cases h1:kd<1
   ·
    have b1:(decide (kd<1))=true:=decide_eq_true h1
    refine zak fun R hR=>?_
    have HR:=Lib.hid hR
    clear hR
    go_enter Tryz.func28,Tryz.ntmps28
    have M:=Lib.hid (hM w)
    have hk3:=M.out.1
    have hk4:=M.out.2.1
    go_wp2_with (go_at_call 51;refine(zc6 HZ.out _ _ _ lo hi lo' hi' lo2 hi2 _ (HV.out.after M.out.2.2.1.1) (HW.out.after M.out.2.2.1.1) (HS.out.after M.out.2.2.1.1)).mono ?_;rintro e w1 ⟨rfl,hb1⟩;replace M:=Lib.hid (M.out.below hb1);clear hb1;replace hk3:=M.out.1;replace hk4:=M.out.2.1)
    exact HR.out _ _ (RetI.nil HAE.out M.out.2.2.1.1)
   ·
    have b1:(decide (kd<1))=false:=decide_eq_false h1
    have h2:4<kd:=by omega
    have b2:(decide (4<kd))=true:=decide_eq_true h2
    clear hkb
    refine zak fun R hR=>?_
    have HR:=Lib.hid hR
    clear hR
    go_enter Tryz.func28,Tryz.ntmps28
    have M:=Lib.hid (hM w)
    have hk3:=M.out.1
    have hk4:=M.out.2.1
    go_wp2_with (go_at_call 51;refine(zc6 HZ.out _ _ _ lo hi lo' hi' lo2 hi2 _ (HV.out.after M.out.2.2.1.1) (HW.out.after M.out.2.2.1.1) (HS.out.after M.out.2.2.1.1)).mono ?_;rintro e w1 ⟨rfl,hb1⟩;replace M:=Lib.hid (M.out.below hb1);clear hb1;replace hk3:=M.out.1;replace hk4:=M.out.2.1)
    exact HR.out _ _ (RetI.nil HAE.out M.out.2.2.1.1)
 ·
  have hz1:z=true:=by cases z<;>simp_all
  have hkk:zfl kd=true:=by cases h:zfl kd<;>simp_all
  subst hz1
  have hkb:1≤kd∧kd≤4:=by unfold zfl at hkk;simp at hkk;exact hkk
  obtain⟨h1,h2,h3,h4,h5⟩:=zda hz
  have HAA:Hid (zbk n l s ⟨kd,tr,ac⟩=zdt n l s ⟨kd,tr,ac⟩):=Lib.hid (by rw[zbk,hz,hkk];rfl)
  clear hbad hz hkk
  obtain⟨b,off,rfl,_,_,hcell⟩:=RdI.at1 hs (k:=0) xa
  obtain⟨At,ct,hsl,ht⟩:=RdI.tail1 hs h1 hc3
  obtain⟨tl,htl⟩: ∃tl,s.drop 1=tl:=⟨_,rfl⟩
  have htl2:tl.length≤1000:=by rw[←htl];simp;omega
  rw[htl] at hsl ht
  have hae0:=(show zdt n l s ⟨kd,tr,ac⟩=_ from by unfold zdt;rfl)
  have HAE:=Lib.hid (HAA.out.trans hae0)
  clear hae0
  rw[htl] at HAE
  have HT:=Lib.hid ht
  have hs0:(0:Int)<(s.length:Int):=by omega
  have hs2: ¬s=[]:=by intro e;rw[e] at h1;simp at h1
  have hs3:0<s.length:=h1
  clear hs ht htl HAA
  simp only[Nat.add_zero] at hcell
  have HC:=Lib.hid hcell
  clear hcell
  generalize gti s 0=p at*
  simp only at HAE
  obtain⟨kp,rfl⟩: ∃k:Nat,p=k:=⟨p.toNat,by omega⟩
  by_cases hk2:kd=2
  ·
   subst hk2
   by_cases htr:tr= -1
   ·
    subst htr
    cases hna:zf9 ac with
    | false=>
     have HNA:=Lib.hid hna
     clear hna
     refine zak fun R hR=>?_
     have HR:=Lib.hid hR
     clear hR
     go_enter Tryz.func28,Tryz.ntmps28
     have M:=Lib.hid (hM w)
     have hk3:=M.out.1
     have hk4:=M.out.2.1
     have hcell:=C1.aft M.out.2.2.1.1 HC.out
     go_wp2_with (first
      |(go_at_call 51;refine(zc6 HZ.out _ _ _ lo hi lo' hi' lo2 hi2 _ (HV.out.after M.out.2.2.1.1) (HW.out.after M.out.2.2.1.1) (HS.out.after M.out.2.2.1.1)).mono ?_;rintro e w1 ⟨rfl,hb1⟩;replace M:=Lib.hid (M.out.below hb1);clear hb1;replace hk3:=M.out.1;replace hk4:=M.out.2.1;replace hcell:=C1.aft M.out.2.2.1.1 HC.out)
      |(go_at_call 68;refine(zf3 _ _).mono ?_;rintro e w1 ⟨rfl,hb1⟩;replace M:=Lib.hid (M.out.below hb1);clear hb1;rw[HNA.out];replace hk3:=M.out.1))
     exact HR.out _ _ (RetI.nil (by rw[HAE.out];simp[HNA.out]) M.out.2.2.1.1)
    | true=>
     have HNA:=Lib.hid hna
     clear hna
     by_cases hp:kp<l.length
     ·
      obtain⟨b5,off5,rfl,_,_,hce5⟩:=RdS.at1 HW.out hp
      have HC5:=Lib.hid hce5
      have HAT:Hid (atB l kp ac=decide (gti l kp=ac)):=Lib.hid (by simp[atB,hp])
      generalize gti l kp=x5 at*
      have bp:((kp:Int)==(l.length:Int))=false:=by rw[beq_eq_false_iff_ne];omega
      have hpi:(kp:Int)<l.length:=by omega
      clear hce5
      refine zak fun R hR=>?_
      have HR:=Lib.hid hR
      clear hR
      go_enter Tryz.func28,Tryz.ntmps28
      have M:=Lib.hid (hM w)
      have hk3:=M.out.1
      have hk4:=M.out.2.1
      have hcell:=C1.aft M.out.2.2.1.1 HC.out
      have hce5:=C1.aft M.out.2.2.1.1 HC5.out
      go_wp2_with (first
       |(go_at_call 51;refine(zc6 HZ.out _ _ _ lo hi lo' hi' lo2 hi2 _ (HV.out.after M.out.2.2.1.1) (HW.out.after M.out.2.2.1.1) (HS.out.after M.out.2.2.1.1)).mono ?_;rintro e w1 ⟨rfl,hb1⟩;replace M:=Lib.hid (M.out.below hb1);clear hb1;replace hk3:=M.out.1;replace hk4:=M.out.2.1;replace hcell:=C1.aft M.out.2.2.1.1 HC.out;replace hce5:=C1.aft M.out.2.2.1.1 HC5.out)
       |(go_at_call 68;refine(zf3 _ _).mono ?_;rintro e w1 ⟨rfl,hb1⟩;replace M:=Lib.hid (M.out.below hb1);clear hb1;rw[HNA.out];replace hk3:=M.out.1;replace hce5:=C1.aft M.out.2.2.1.1 HC5.out))
      go_quiet (fail)
      replace M:=Lib.hid (M.out.drewN nq)
      replace hk3:=M.out.1
      generalize World.drewN _ nq=W at*
      have hzM:=M.out.2.2.1.2
      go_wp2_with (go_at_call 65;refine(zgu _ tl lo2 hi2 _ _ (HT.out.after M.out.2.2.1.1) xa).mono ?_;rintro e w7 ⟨A7,c7,rfl,hr7,hb7⟩;have HR7:=Lib.hid hr7;replace M:=Lib.hid (M.out.below hb7);clear hb7 hr7)
      all_goals have hae:=HAE.out
      all_goals have hinj:= @toList_inj x5 ac
      all_goals rw[HAT.out,HNA.out] at hae
      all_goals clear HAE
      all_goals first
       |exact HR.out _ _ (RetI.nil (by rw[hae];clear hae;go_light;grind) M.out.2.2.1.1)
       |exact HR.out _ _ (RetI.mk (by rw[hae];clear hae;go_light;grind) rfl HR7.out xa (Nat.le_refl _) M.out.2.2.1.1)
     ·
      obtain rfl:kp=l.length:=by omega
      have HAT:Hid (atB l l.length ac=false):=Lib.hid (by simp[atB])
      refine zak fun R hR=>?_
      have HR:=Lib.hid hR
      clear hR
      go_enter Tryz.func28,Tryz.ntmps28
      have M:=Lib.hid (hM w)
      have hk3:=M.out.1
      have hk4:=M.out.2.1
      have hcell:=C1.aft M.out.2.2.1.1 HC.out
      go_wp2_with (first
       |(go_at_call 51;refine(zc6 HZ.out _ _ _ lo hi lo' hi' lo2 hi2 _ (HV.out.after M.out.2.2.1.1) (HW.out.after M.out.2.2.1.1) (HS.out.after M.out.2.2.1.1)).mono ?_;rintro e w1 ⟨rfl,hb1⟩;replace M:=Lib.hid (M.out.below hb1);clear hb1;replace hk3:=M.out.1;replace hk4:=M.out.2.1;replace hcell:=C1.aft M.out.2.2.1.1 HC.out)
       |(go_at_call 68;refine(zf3 _ _).mono ?_;rintro e w1 ⟨rfl,hb1⟩;replace M:=Lib.hid (M.out.below hb1);clear hb1;rw[HNA.out];replace hk3:=M.out.1))
      go_quiet (fail)
      replace M:=Lib.hid (M.out.drewN nq)
      generalize World.drewN _ nq=W at*
      go_wp2_with fail
      exact HR.out _ _ (RetI.nil (by rw[HAE.out,HAT.out,HNA.out];rfl) M.out.2.2.1.1)
   ·
    have btr:(tr != -1)=true:=by simpa using htr
    refine zak fun R hR=>?_
    have HR:=Lib.hid hR
    clear hR
    go_enter Tryz.func28,Tryz.ntmps28
    have M:=Lib.hid (hM w)
    have hk3:=M.out.1
    have hk4:=M.out.2.1
    have hcell:=C1.aft M.out.2.2.1.1 HC.out
    go_wp2_with (go_at_call 51;refine(zc6 HZ.out _ _ _ lo hi lo' hi' lo2 hi2 _ (HV.out.after M.out.2.2.1.1) (HW.out.after M.out.2.2.1.1) (HS.out.after M.out.2.2.1.1)).mono ?_;rintro e w1 ⟨rfl,hb1⟩;replace M:=Lib.hid (M.out.below hb1);clear hb1;replace hk3:=M.out.1;replace hk4:=M.out.2.1;replace hcell:=C1.aft M.out.2.2.1.1 HC.out)
    exact HR.out _ _ (RetI.nil (by rw[HAE.out];simp;intro h;exact absurd h (by go_light;omega)) M.out.2.2.1.1)
  ·
   have HK2:=Lib.hid hk2
   have hk2':(kd==2)=false:=by simpa using hk2
   by_cases ht:tr<0∨n.trans.length≤tr
   ·
    have HTT:=Lib.hid ht
    refine zak fun R hR=>?_
    have HR:=Lib.hid hR
    clear hR
    go_enter Tryz.func28,Tryz.ntmps28
    have M:=Lib.hid (hM w)
    have hk3:=M.out.1
    have hk4:=M.out.2.1
    have hcell:=C1.aft M.out.2.2.1.1 HC.out
    go_wp2_with (go_at_call 51;refine(zc6 HZ.out _ _ _ lo hi lo' hi' lo2 hi2 _ (HV.out.after M.out.2.2.1.1) (HW.out.after M.out.2.2.1.1) (HS.out.after M.out.2.2.1.1)).mono ?_;rintro e w1 ⟨rfl,hb1⟩;replace M:=Lib.hid (M.out.below hb1);clear hb1;replace hk3:=M.out.1;replace hk4:=M.out.2.1;replace hcell:=C1.aft M.out.2.2.1.1 HC.out)
    all_goals have hae:=HAE.out
    all_goals rw[if_neg HK2.out,if_pos HTT.out] at hae
    all_goals first
     |exact HR.out _ _ (RetI.nil hae M.out.2.2.1.1)
     |(exfalso;go_light;omega)
   ·
    have HTT:=Lib.hid ht
    obtain⟨kt,rfl⟩: ∃k:Nat,tr=k:=⟨tr.toNat,by omega⟩
    have hlt:kt<n.trans.length:=by omega
    clear ht
    obtain⟨b4,off4,vi,vo,rfl,hbl,hbh,hcl,hri,hro⟩:=RdT.at3 HV.out hlt
    have HCL:=Lib.hid hcl
    have hx1:((kt:Int)<0)=False:=by simp
    have hx2:((n.trans.length:Int)≤(kt:Int))=False:=by simp;omega
    have HFL:=Lib.hid (zsg (n:=n) (m:=tl) (t:=kt))
    rw[if_neg HK2.out,if_neg HTT.out,Int.toNat_natCast] at HAE
    generalize gti n.trans kt=x at*
    clear hri hro hcl
    have HFE:=Lib.hid (fun (W:World) (h:Below w.heap.size w W)=>zzc n tl kt _ _ lo hi lo2 hi2 W (HV.out.after h) (HT.out.after h))
    obtain⟨⟨fl,fe⟩,hfe⟩: ∃r,zen n tl kt=r:=⟨_,rfl⟩
    rw[hfe] at HAE HFE HFL
    simp only at HAE HFL
    clear hfe
    by_cases hlab:ac≠x.label∨x.label.toList.isEmpty≠decide (kd=4)
    ·
     have HLAB:=Lib.hid hlab
     rw[if_pos hlab] at HAE
     have hinj:= @toList_inj ac x.label
     have HIN:=Lib.hid hinj
     clear hlab hinj
     refine zak fun R hR=>?_
     have HR:=Lib.hid hR
     clear hR
     go_enter Tryz.func28,Tryz.ntmps28
     have M:=Lib.hid (hM w)
     have hk3:=M.out.1
     have hk4:=M.out.2.1
     have hcell:=C1.aft M.out.2.2.1.1 HC.out
     have hcr:=C3.aft M.out.2.2.1.1 HCL.out
     go_wp2_with (go_at_call 51;refine(zc6 HZ.out _ _ _ lo hi lo' hi' lo2 hi2 _ (HV.out.after M.out.2.2.1.1) (HW.out.after M.out.2.2.1.1) (HS.out.after M.out.2.2.1.1)).mono ?_;rintro e w1 ⟨rfl,hb1⟩;replace M:=Lib.hid (M.out.below hb1);clear hb1;replace hk3:=M.out.1;replace hk4:=M.out.2.1;replace hcell:=C1.aft M.out.2.2.1.1 HC.out;replace hcr:=C3.aft M.out.2.2.1.1 HCL.out)
     all_goals first
      |exact HR.out _ _ (RetI.nil HAE.out M.out.2.2.1.1)
      |(exfalso;have hl:=HLAB.out;have hi:=HIN.out;clear HAE HLAB HIN;go_light;grind)
    ·
     rw[if_neg hlab] at HAE
     have hac:ac=x.label:=by
      by_cases h:ac=x.label
      ·
       exact h
      ·
       exact absurd (Or.inl h) hlab
     have hem:x.label.toList.isEmpty=decide (kd=4):=by
      by_cases h:x.label.toList.isEmpty=decide (kd=4)
      ·
       exact h
      ·
       exact absurd (Or.inr h) hlab
     subst hac
     have HEM:=Lib.hid hem
     have hem4:(x.label.toList.isEmpty !=(kd==4))=false:=by rw[hem];by_cases h:kd=4<;>simp[h]
     have hem5: ¬ (x.label.toList.isEmpty=!(kd==4)):=by rw[hem];cases h:(kd==4)<;>simp_all
     clear hlab hem
     generalize hac:x.label=ac at*
     clear hac
     by_cases hk1:kd=1
     ·
      subst hk1
      by_cases hp:kp<l.length
      ·
       obtain⟨b5,off5,rfl,_,_,hce5⟩:=RdS.at1 HW.out hp
       have HC5:=Lib.hid hce5
       have HAT:Hid (atB l kp ac=decide (gti l kp=ac)):=Lib.hid (by simp[atB,hp])
       generalize gti l kp=x5 at*
       have bp:((kp:Int)==(l.length:Int))=false:=by rw[beq_eq_false_iff_ne];omega
       have hpi:(kp:Int)<l.length:=by omega
       clear hce5
       have hinj:= @toList_inj x5 ac
       rw[HAT.out] at HAE
       have HIN:=Lib.hid hinj
       clear hinj
       refine zak fun R hR=>?_
       have HR:=Lib.hid hR
       clear hR
       go_enter Tryz.func28,Tryz.ntmps28
       have M:=Lib.hid (hM w)
       have hk3:=M.out.1
       have hk4:=M.out.2.1
       have hcell:=C1.aft M.out.2.2.1.1 HC.out
       have hce5:=C1.aft M.out.2.2.1.1 HC5.out
       have hcr:=C3.aft M.out.2.2.1.1 HCL.out
       go_wp2_with (go_at_call 51;refine(zc6 HZ.out _ _ _ lo hi lo' hi' lo2 hi2 _ (HV.out.after M.out.2.2.1.1) (HW.out.after M.out.2.2.1.1) (HS.out.after M.out.2.2.1.1)).mono ?_;rintro e w1 ⟨rfl,hb1⟩;replace M:=Lib.hid (M.out.below hb1);clear hb1;replace hk3:=M.out.1;replace hk4:=M.out.2.1;replace hcell:=C1.aft M.out.2.2.1.1 HC.out;replace hcr:=C3.aft M.out.2.2.1.1 HCL.out;replace hce5:=C1.aft M.out.2.2.1.1 HC5.out)
       try (exfalso;have hl:=HEM.out;clear HAE HEM HIN;go_light;(first|(clear hem4 hem5;grind)|grind);done)
       go_quiet (fail)
       replace M:=Lib.hid (M.out.drewN nq)
       replace hk3:=M.out.1
       replace hk4:=M.out.2.1
       generalize World.drewN _ nq=W at*
       have hzM:=M.out.2.2.1.2
       go_wp2_with fail
       ·
        exact HR.out _ _ (RetI.nil (by have hae:=HAE.out;have hi:=HIN.out;rw[hae];clear hae HAE HIN;go_light;grind) M.out.2.2.1.1)
       have hi:=HIN.out
       replace HAE:Hid (zbk n l s ⟨1,kt,ac⟩=if fe≠0 then([],fe) else((kp+1:Int)::fl,0)):=Lib.hid (by have hae:=HAE.out;rw[hae];clear hae HAE HIN;go_light;grind)
       clear hi
       go_region_held3 (fun W=>K4 W w.heap.size (.int .i64 n.places) (.slice (some ⟨b4,off4,none⟩) n.trans.length c) (.int .i64 n.source) (.int .i64 n.sink)∧K3 W (w.heap.size+1) (.int .i64 1) (.int .i64 kt) (.string ac)) (exact⟨hk4,hk3⟩) (first
        |(go_at_call 69;refine(HFE.out _ (by first|exact M.out.2.2.1.1|exact M.out.drew.2.2.1.1)).mono ?_;rintro e w6 ⟨A6,c6,rfl,hr6,hb6⟩;have hz0:=M.out.2.1.2.2.2.2;have hz1:=M.out.1.2.2.2;have hz6:=hb6.size;replace M:=Lib.hid (Mem.below (by first|exact M.out|exact M.out.drew) hb6);have HR6:=Lib.hid hr6;dsimp only at HR6⊢;replace hk3:=M.out.1;replace hk4:=M.out.2.1;clear hb6 hr6))
       all_goals
        go_wp2_with (go_at_call 65;refine(zgu _ _ _ _ _ _ HR6.out (by have:=HFL.out;omega)).mono ?_;rintro e w7 ⟨A7,c7,rfl,hr7,hb7⟩;have HR7:=Lib.hid hr7;replace M:=Lib.hid (M.out.below hb7);clear hb7 hr7)
        all_goals have hae:=HAE.out
        all_goals clear HAE
        all_goals first
         |exact HR.out _ _ (RetI.nil (by rw[hae];clear hae;go_light;grind) M.out.2.2.1.1)
         |exact HR.out _ _ (RetI.mk (by rw[hae];clear hae;go_light;grind) rfl HR7.out xa (Nat.le_refl _) M.out.2.2.1.1)
      ·
       obtain rfl:kp=l.length:=by omega
       have HAT:Hid (atB l l.length ac=false):=Lib.hid (by simp[atB])
       rw[HAT.out] at HAE
       refine zak fun R hR=>?_
       have HR:=Lib.hid hR
       clear hR
       go_enter Tryz.func28,Tryz.ntmps28
       have M:=Lib.hid (hM w)
       have hk3:=M.out.1
       have hk4:=M.out.2.1
       have hcell:=C1.aft M.out.2.2.1.1 HC.out
       have hcr:=C3.aft M.out.2.2.1.1 HCL.out
       go_wp2_with (go_at_call 51;refine(zc6 HZ.out _ _ _ lo hi lo' hi' lo2 hi2 _ (HV.out.after M.out.2.2.1.1) (HW.out.after M.out.2.2.1.1) (HS.out.after M.out.2.2.1.1)).mono ?_;rintro e w1 ⟨rfl,hb1⟩;replace M:=Lib.hid (M.out.below hb1);clear hb1;replace hk3:=M.out.1;replace hk4:=M.out.2.1;replace hcell:=C1.aft M.out.2.2.1.1 HC.out;replace hcr:=C3.aft M.out.2.2.1.1 HCL.out)
       try (exfalso;have hl:=HEM.out;clear HAE HEM;go_light;(first|(clear hem4 hem5;grind)|grind);done)
       go_quiet (fail)
       replace M:=Lib.hid (M.out.drewN nq)
       replace hk3:=M.out.1
       replace hk4:=M.out.2.1
       generalize World.drewN _ nq=W at*
       have hzM:=M.out.2.2.1.2
       go_wp2_with fail
       exact HR.out _ _ (RetI.nil (by rw[HAE.out];simp) M.out.2.2.1.1)
     ·
      have bk1:(kd==1)=false:=by simpa using hk1
      replace HAE:Hid (zbk n l s ⟨kd,kt,ac⟩=if fe≠0 then([],fe) else((kp:Int)::fl,0)):=Lib.hid (by have hae:=HAE.out;rw[hae];simp[hk1])
      refine zak fun R hR=>?_
      have HR:=Lib.hid hR
      clear hR
      go_enter Tryz.func28,Tryz.ntmps28
      have M:=Lib.hid (hM w)
      have hk3:=M.out.1
      have hk4:=M.out.2.1
      have hcell:=C1.aft M.out.2.2.1.1 HC.out
      have hcr:=C3.aft M.out.2.2.1.1 HCL.out
      go_wp2_with (go_at_call 51;refine(zc6 HZ.out _ _ _ lo hi lo' hi' lo2 hi2 _ (HV.out.after M.out.2.2.1.1) (HW.out.after M.out.2.2.1.1) (HS.out.after M.out.2.2.1.1)).mono ?_;rintro e w1 ⟨rfl,hb1⟩;replace M:=Lib.hid (M.out.below hb1);clear hb1;replace hk3:=M.out.1;replace hk4:=M.out.2.1;replace hcell:=C1.aft M.out.2.2.1.1 HC.out;replace hcr:=C3.aft M.out.2.2.1.1 HCL.out)
      all_goals (try (exfalso;have hl:=HEM.out;clear HAE HEM;go_light;(first|(clear hem4 hem5;grind)|grind);done))
      go_quiet (fail)
      replace M:=Lib.hid (M.out.drewN nq)
      replace hk3:=M.out.1
      replace hk4:=M.out.2.1
      generalize World.drewN _ nq=W at*
      have hzM:=M.out.2.2.1.2
      go_wp2_with fail
      go_region_held3 (fun W=>K4 W w.heap.size (.int .i64 n.places) (.slice (some ⟨b4,off4,none⟩) n.trans.length c) (.int .i64 n.source) (.int .i64 n.sink)∧K3 W (w.heap.size+1) (.int .i64 kd) (.int .i64 kt) (.string ac)) (exact⟨hk4,hk3⟩) (first
       |(go_at_call 69;refine(HFE.out _ (by first|exact M.out.2.2.1.1|exact M.out.drew.2.2.1.1)).mono ?_;rintro e w6 ⟨A6,c6,rfl,hr6,hb6⟩;have hz0:=M.out.2.1.2.2.2.2;have hz1:=M.out.1.2.2.2;have hz6:=hb6.size;replace M:=Lib.hid (Mem.below (by first|exact M.out|exact M.out.drew) hb6);have HR6:=Lib.hid hr6;dsimp only at HR6⊢;replace hk3:=M.out.1;replace hk4:=M.out.2.1;clear hb6 hr6))
      all_goals
       go_wp2_with (go_at_call 65;refine(zgu _ _ _ _ _ _ HR6.out (by have:=HFL.out;omega)).mono ?_;rintro e w7 ⟨A7,c7,rfl,hr7,hb7⟩;have HR7:=Lib.hid hr7;replace M:=Lib.hid (M.out.below hb7);clear hb7 hr7)
       all_goals have hae:=HAE.out
       all_goals clear HAE
       all_goals first
        |exact HR.out _ _ (RetI.nil (by rw[hae];clear hae;go_light;grind) M.out.2.2.1.1)
        |exact HR.out _ _ (RetI.mk (by rw[hae];clear hae;go_light;grind) rfl HR7.out xa (Nat.le_refl _) M.out.2.2.1.1)
end
section
open Go.RowKit
theorem zur {n:Net}{m:List Int}{t:Int}(h:(zen n m t).2=0):zdd n (zen n m t).1=true:=by
 unfold zen at h⊢
 split
 ·
  rename_i hm;rw[if_pos hm] at h;exact zpo hm h
 ·
  rename_i hm;rw[if_neg hm] at h;simp at h
theorem zgz {α:Type}[Inhabited α](x:α)(l:List α):gti (x::l) 0=x:=by simp[gti]
theorem z30 {α:Type}[Inhabited α](x:α)(l:List α)(k:Nat):gti (x::l) (k+1)=gti l k:=by simp[gti]
theorem zjt {n:Net}{w:List ByteArray}{s:List Int}{m:Stp}(hs:zb1 n w s=true)(h:(zdt n w s m).2=0):zb1 n w (zdt n w s m).1=true:=by
 obtain⟨h1,h2,h3,h4,h5⟩:=zdb.1 hs
 rw[zdb]
 have hat: ∀a, ¬atB w (gti s 0) a=false→gti s 0+1≤w.length:=by
  intro a ha
  unfold atB at ha
  simp at ha
  omega
 refine⟨h1,?_⟩
 unfold zdt at h⊢
 by_cases c1:m.kind=2
 ·
  rw[if_pos c1] at h⊢
  by_cases c2:m.trans≠ -1
  ·
   rw[if_pos c2] at h;simp at h
  rw[if_neg c2] at h⊢
  by_cases c3:zf9 m.act=false
  ·
   rw[if_pos c3] at h;simp at h
  rw[if_neg c3] at h⊢
  by_cases c4:atB w (gti s 0) m.act=false
  ·
   rw[if_pos c4] at h;simp at h
  rw[if_neg c4] at h⊢
  have:=hat _ c4
  simp only[zgz,List.length_cons,List.drop_succ_cons,List.drop_zero]
  exact⟨by omega,by omega,this,h5⟩
 ·
  rw[if_neg c1] at h⊢
  by_cases c2:m.trans<0∨(n.trans.length:Int)≤m.trans
  ·
   rw[if_pos c2] at h;simp at h
  rw[if_neg c2] at h⊢
  by_cases c3:m.act≠(gti n.trans m.trans.toNat).label∨(gti n.trans m.trans.toNat).label.toList.isEmpty≠decide (m.kind=4)
  ·
   rw[if_pos c3] at h;simp at h
  rw[if_neg c3] at h⊢
  by_cases c4:m.kind=1∧atB w (gti s 0) m.act=false
  ·
   rw[if_pos c4] at h;simp at h
  rw[if_neg c4] at h⊢
  by_cases c5:(zen n (s.drop 1) m.trans).2≠0
  ·
   rw[if_pos c5] at h;exact absurd h c5
  rw[if_neg c5] at h⊢
  simp only[zgz,List.length_cons,List.drop_succ_cons,List.drop_zero]
  refine⟨by omega,by split<;>omega,?_,zur (by simpa using c5)⟩
  split
  ·
   rename_i hk
   exact hat _ (fun hf=>c4 ⟨hk,hf⟩)
  ·
   exact h4
theorem zwm: ∀ {m:List Int},(∀k,k<m.length→0≤gti m k∧gti m k≤100)→zkv m=true
 |[],_=>rfl
 |x::m,h=>by
  have h0:=h 0 xm
  rw[zgz] at h0
  rw[zkv,if_neg xa]
  exact zwm (fun k hk=>by have:=h (k+1) (by simp;omega);rwa [z30] at this)
theorem zna {n:Net}(p:Int)(h:1≤n.places):zdx n (oneL n.places.toNat p)=true:=by
 rw[zdx,if_neg (by rw[zgc];omega)]
 refine zwm (fun k hk=>?_)
 unfold oneL
 rw[gti_set]
 split
 ·
  omega
 ·
  unfold gti
  rw[List.getElem?_replicate]
  split<;>simp
def zfx (n:Net):List Int:=0::oneL n.places.toNat n.source
def endS (n:Net)(w:List ByteArray):List Int:=(w.length:Int)::oneL n.places.toNat n.sink
theorem zms {n:Net}{w:List ByteArray}(h1:zb7 n=true)(h2:zd0 w=true):zb1 n w (zfx n)=true:=by
 rw[zdb]
 unfold zfx
 simp only[zgz,List.length_cons,List.drop_succ_cons,List.drop_zero]
 refine⟨h2,by omega,by omega,by omega,?_⟩
 rw[zdd,h1,zna _ (zbu h1).1]
 rfl
def runA (n:Net)(w:List ByteArray):List Int→List Stp→Option (List Int)
 |s,[]=>some s
 |s,m::ms=>if (zdt n w s m).2=0 then runA n w (zdt n w s m).1 ms else none
def endB (n:Net)(w:List ByteArray):Option (List Int)→Bool
 |some s=>decide (s=endS n w)
 |none=>false
def zgi (n:Net)(w:List ByteArray)(c:Cst)(l:List Stp)(k:Int):Bool:=
 zb7 n && zd0 w && (vcB c && fineB l) && decide (zcr c l l.length=k) && endB n w (runA n w (zfx n) l)
theorem zxl {l:List Stp}(h:fineB l=true){k:Nat}(hk:k<l.length):zfl (gti l k).kind=true:=by
 unfold fineB at h
 simp only[Bool.and_eq_true,List.all_eq_true] at h
 exact h.2 _ (gti_mem hk)
theorem zol {n:Net}{w:List ByteArray}{s:List Int}{m:Stp}(hs:zb1 n w s=true)(hk:zfl m.kind=true):zbk n w s m=zdt n w s m:=by
 rw[zbk,hs,hk];rfl
end
section
open Go.RowKit
abbrev Loc.c3 (b o:Nat)(x y z:Value):Loc:=⟨fun w=>C3 w b o x y z,fun k=>k=b,fun h hd hp=>
 have hb:=h.block b (World.block_lt_of_cell? _ _ hp.1) (hd b J)
 ⟨(World.cell?_of_block hb).trans hp.1,(World.cell?_of_block hb).trans hp.2.1,(World.cell?_of_block hb).trans hp.2.2⟩⟩
set_option maxRecDepth 100000 in
set_option maxHeartbeats 2000000 in
theorem zzd (c:Cst)(l:List Stp)(lo hi:Nat)(v:Value)(w:World)(hv:RdM w lo hi v l):
  Calls Tryz.prog 61 #[cstV c,v] w fun e w'=>e= .returned (.tuple #[.int .i64 (zi0 c l).1, .int .i64 (zi0 c l).2])∧Below w.heap.size w w':=by
 have HV:=Lib.hid hv
 obtain⟨A,cc,rfl,hc,hm⟩:=hv.form
 clear hv
 obtain⟨z,hz⟩: ∃z,vcB c=z:=⟨_,rfl⟩
 obtain⟨y,hy⟩: ∃y,fineB l=y:=⟨_,rfl⟩
 have HZ:=Lib.hid hz
 have HY:=Lib.hid hy
 have HCE:Hid (zi0 c l=if z && y then(zcr c l l.length,0) else(0,1)):=Lib.hid (by rw[zi0,hz,hy])
 clear hz hy
 have M:Hid (Mem [Loc.k3 w.heap.size (.int .i64 c.log) (.int .i64 c.model) (.int .i64 c.silent),Loc.bl w.heap.size w] (w.alloc (.cells #[.int .i64 c.log, .int .i64 c.model, .int .i64 c.silent] 27))):=Lib.hid ⟨K3.new w _ _ _ _,⟨(Below.refl _ _).alloc (Nat.le_refl _) _,by simp⟩,True.intro⟩
 cases z<;>cases y
 all_goals
  refine zak fun R hR=>?_
  have HR:=Lib.hid hR
  clear hR
  go_enter Tryz.func61,Tryz.ntmps61
  have hk3:=M.out.1
  go_wp2_with (first
   |(go_at_call 31;refine(zoo HZ.out _).mono ?_;rintro e w1 ⟨rfl,hb1⟩;replace M:=Lib.hid (M.out.below hb1);clear hb1;replace hk3:=M.out.1)
   |(go_at_call 123;refine(z67 HY.out lo hi _ _ (HV.out.after M.out.2.1.1)).mono ?_;rintro e w1 ⟨rfl,hb1⟩;replace M:=Lib.hid (M.out.below hb1);clear hb1;replace hk3:=M.out.1))
 ·
  exact HR.out _ _ ⟨zhw (by rw[HCE.out];rfl),M.out.2.1.1⟩
 ·
  exact HR.out _ _ ⟨zhw (by rw[HCE.out];rfl),M.out.2.1.1⟩
 ·
  exact HR.out _ _ ⟨zhw (by rw[HCE.out];rfl),M.out.2.1.1⟩
 have h4:=zkg HY.out
 go_loopw [7,6] (fun v7 v6 wr=> ∃k:Nat,k≤l.length∧v7= .int .i64 k∧v6= .int .i64 (zcr c l k)∧Hid (Mem [Loc.k3 w.heap.size (.int .i64 c.log) (.int .i64 c.model) (.int .i64 c.silent),Loc.bl w.heap.size w] wr)) (fun v7 _ _=>l.length-(intOf v7).toNat)
 case atStart=>exact⟨0,by omega,rfl,rfl,M⟩
 case round=>
  clear M hk3
  obtain⟨k,hk,rfl,rfl,M⟩:=hrel
  have hk3:=M.out.1
  by_cases hlt:k<l.length
  ·
   obtain⟨b,off,rfl,_,_,hcell⟩:=RdM.at3 (HV.out.after M.out.2.1.1) hlt
   have h1:=zod HZ.out l k
   have h2:=zin HZ.out (gti l k).kind
   have hwr:IntKind.i64.wrap (zcr c l k+zbf c (gti l k).kind)=zcr c l k+zbf c (gti l k).kind:=IntWalk.i64_in _ xa
   have HCA:Hid (zcr c l k+zbf c (gti l k).kind=zcr c l (k+1)):=Lib.hid J
   have hkb:(k:Int)<l.length:=by omega
   have hkd:decide ((k:Int)<(l.length:Int))=true:=by simp;omega
   have hk0:(0:Int)≤k:=by omega
   generalize gti l k=x at*
   obtain⟨kd,tr,ac⟩:=x
   simp only at hcell hwr HCA h2
   generalize zcr c l k=s at*
   go_wp2_with fail
   refine zdo (C:=(Mem [Loc.k3 w.heap.size (.int .i64 c.log) (.int .i64 c.model) (.int .i64 c.silent),Loc.c3 b (off+k*3) (.int .i64 kd) (.int .i64 tr) (.string ac),Loc.bl w.heap.size w])) (by kernel_rfl) (by kernel_rfl) (by exact Mem.drew (l:=[_,Loc.c3 _ _ _ _ _,_]) ⟨M.out.1,hcell,M.out.2⟩) ?_
   repeat (first
    |(refine BigFrame.wpQuiet_skip (by rfl) ?_;simp only[Act.put,List.setIfInBounds_toArray,List.set_cons_zero,List.set_cons_succ])
    |(refine BigFrame.wpQuiet_want (by rfl) (fun K hK=>?_);refine BigFrame.quiet_move _ J (hK _ ?_);clear hK K;simp only[Act.put,Act.eval,List.setIfInBounds_toArray,List.set_cons_zero,List.set_cons_succ,List.getD_toArray,List.getD_cons_zero,List.getD_cons_succ])
    |(refine BigFrame.wpQuiet_want (by rfl) (fun K hK=>?_);refine BigFrame.quiet_assign _ J (hK _ ?_);clear hK K;simp only[Act.put,Act.eval,List.setIfInBounds_toArray,List.set_cons_zero,List.set_cons_succ,List.getD_toArray,List.getD_cons_zero,List.getD_cons_succ])
    |(refine BigFrame.wpQuiet_want (by rfl) (fun K hK=>?_);refine zgb (v:=?_) (fun W hW=>?_) (hK _ ?_);rotate_left;((have hq1:=hW.1;have hq2:=hW.2.1;dsimp only[Loc.k3,Loc.c3] at hq1 hq2);go_simp;try (with_reducible rfl));clear hK K;simp only[Act.put,List.setIfInBounds_toArray,List.set_cons_zero,List.set_cons_succ])
    |(refine BigFrame.wpQuiet_want (by rfl) (fun K hK=>?_);go_simp;apply Exists.intro;refine⟨fun W hW=>?_,hK _ ?_⟩;(exact(zy9 c ⟨kd,tr,ac⟩ _).mono (fun e w' h=>⟨h.1,hW.below h.2⟩));clear hK K;try simp only[Act.put,List.setIfInBounds_toArray,List.set_cons_zero,List.set_cons_succ])
    |fail)
   refine wpQuiet_nil ?_
   intro W hW
   go_wp2_with fail
   have hk1:k+1≤l.length:=by omega
   have hM1:Hid (Mem [Loc.k3 w.heap.size (.int .i64 c.log) (.int .i64 c.model) (.int .i64 c.silent),Loc.bl w.heap.size w] W):=Lib.hid ⟨hW.1,hW.2.2⟩
   have hca:=HCA.out
   go_roundw
   case rel=>(first|exact⟨k+1,hk1,rfl,by rw[←hca],hM1⟩|((repeat apply Exists.intro);exact⟨⟨k+1,hk1,rfl,by rw[←hca],hM1⟩,rfl⟩))
   case measure=>simp[intOf];omega
  ·
   obtain rfl:k=l.length:=by omega
   go_wp2_with fail
   exact HR.out _ _ ⟨zhw (by rw[HCE.out];rfl),M.out.2.1.1⟩
end
section
open Go.RowKit
abbrev algV (vs:Value)(k:Int):Value:= .agg #[vs, .int .i64 k]
abbrev chkL (w0:World)(n:Net)(vt:Value)(c:Cst)(vs:Value)(k:Int):List Loc:=[Loc.k4 w0.heap.size (.int .i64 n.places) (vt) (.int .i64 n.source) (.int .i64 n.sink),Loc.k3 (w0.heap.size+1) (.int .i64 c.log) (.int .i64 c.model) (.int .i64 c.silent),Loc.c1 (w0.heap.size+2) 0 vs,Loc.c1 (w0.heap.size+2) 1 (.int .i64 k),Loc.bl w0.heap.size w0]
theorem chkM (w0:World)(n:Net)(vt:Value)(c:Cst)(vs:Value)(k:Int):Mem (chkL w0 n vt c vs k) (((w0.alloc (.cells #[.int .i64 n.places,vt, .int .i64 n.source, .int .i64 n.sink] 24)).alloc (.cells #[.int .i64 c.log, .int .i64 c.model, .int .i64 c.silent] 27)).alloc (.cells #[vs, .int .i64 k] 56)):=by
 have h1:Mem [Loc.k4 w0.heap.size (.int .i64 n.places) (vt) (.int .i64 n.source) (.int .i64 n.sink),Loc.bl w0.heap.size w0] (w0.alloc (.cells #[.int .i64 n.places,vt, .int .i64 n.source, .int .i64 n.sink] 24)):=⟨K4.new w0 _ _ _ _ _,⟨(Below.refl _ _).alloc (Nat.le_refl _) _,by simp⟩,True.intro⟩
 have h2:Mem [Loc.k3 (w0.heap.size+1) (.int .i64 c.log) (.int .i64 c.model) (.int .i64 c.silent),Loc.k4 w0.heap.size (.int .i64 n.places) (vt) (.int .i64 n.source) (.int .i64 n.sink),Loc.bl w0.heap.size w0] ((w0.alloc (.cells #[.int .i64 n.places,vt, .int .i64 n.source, .int .i64 n.sink] 24)).alloc (.cells #[.int .i64 c.log, .int .i64 c.model, .int .i64 c.silent] 27)):=⟨by have:=K3.new (w0.alloc (.cells #[.int .i64 n.places,vt, .int .i64 n.source, .int .i64 n.sink] 24)) (.int .i64 c.log) (.int .i64 c.model) (.int .i64 c.silent) 27;rw[World.size_alloc] at this;exact this,h1.alloc _⟩
 have h3:=h2.alloc (.cells #[vs, .int .i64 k] 56)
 exact⟨h3.2.1,h3.1,by simp[C1,go_sem],by simp[C1,go_sem],h3.2.2.1,True.intro⟩
set_option maxRecDepth 100000 in
set_option maxHeartbeats 4000000 in
theorem z2o (n:Net)(l:List ByteArray)(c:Cst)(sl:List Stp)(k:Int)(vt v vs:Value)(lo hi lo' hi' lo2 hi2:Nat)(w:World)(hv:RdT w lo hi vt n.trans)(hw:RdS w lo' hi' v l)(hs:RdM w lo2 hi2 vs sl):
  Calls Tryz.prog 29 #[netV n vt,v,cstV c,algV vs k] w fun e w'=>e= .returned (.bool (zgi n l c sl k))∧Below w.heap.size w w':=by
 obtain⟨A,ca,rfl,hc,hmm⟩:=hv.form
 obtain⟨A2,c2,rfl,hc2,hmm2⟩:=hw.form
 obtain⟨A3,c3,rfl,hc3,hmm3⟩:=hs.form
 have HV:=Lib.hid hv
 have HW:=Lib.hid hw
 have HS:=Lib.hid hs
 clear hv hw hs
 have hM:=chkM w n (.slice A n.trans.length ca) c (.slice A3 sl.length c3) k
 obtain⟨z,hz⟩: ∃z,(zb7 n && zd0 l)=z:=⟨_,rfl⟩
 obtain⟨y,hy⟩: ∃y,(vcB c && fineB sl)=y:=⟨_,rfl⟩
 have HZ:=Lib.hid hz
 have HY:=Lib.hid hy
 have HCB:Hid (zgi n l c sl k=(z && y && decide (zcr c sl sl.length=k) && endB n l (runA n l (zfx n) sl))):=Lib.hid (by rw[zgi,hz,hy])
 have HCE:Hid (zi0 c sl=if y then(zcr c sl sl.length,0) else(0,1)):=Lib.hid (by rw[zi0,hy])
 have HSE:Hid (zb0 n l=if z then(zfx n,0) else([],1)):=Lib.hid (by rw[zb0,hz];rfl)
 have HEE:Hid (endE n l=if z then(endS n l,0) else([],1)):=Lib.hid (by rw[endE,hz];rfl)
 clear hz hy
 have HC:=Lib.hid (fun (W:World) (h:Below w.heap.size w W)=>zwr c sl lo2 hi2 _ W (HS.out.after h))
 have HST:=Lib.hid (fun (W:World) (h:Below w.heap.size w W)=>zs3 n l _ _ lo hi lo' hi' W (HV.out.after h) (HW.out.after h))
 have HEN:=Lib.hid (fun (W:World) (h:Below w.heap.size w W)=>z2n n l _ _ lo hi lo' hi' W (HV.out.after h) (HW.out.after h))
 rw[HCE.out] at HC
 rw[HSE.out] at HST
 rw[HEE.out] at HEN
 clear HCE HSE HEE
 by_cases hzy:z=false∨y=false
 ·
  cases z<;>cases y
  case true.true=>simp at hzy
  all_goals
   simp only[Bool.false_eq_true,if_false,if_true] at HC HST HEN
   replace HCB:Hid (zgi n l c sl k=false):=Lib.hid (by rw[HCB.out];rfl)
   clear hzy
   refine zak fun R hR=>?_
   have HR:=Lib.hid hR
   clear hR
   go_enter Tryz.func29,Tryz.ntmps29
   have M:=Lib.hid hM
   clear hM
   have hk4:=M.out.1
   have hk3:=M.out.2.1
   have hc0:=M.out.2.2.1
   have hc1:=M.out.2.2.2.1
   go_wp2_with (first
    |(go_at_call 70;refine(HST.out _ M.out.2.2.2.2.1.1).mono ?_;rintro e w6 ⟨A6,c6,rfl,hr6,hb6⟩;replace M:=Lib.hid (M.out.below hb6);clear hb6 hr6;dsimp only;replace hk4:=M.out.1;replace hk3:=M.out.2.1;replace hc0:=M.out.2.2.1;replace hc1:=M.out.2.2.2.1)
    |(go_at_call 71;refine(HEN.out _ M.out.2.2.2.2.1.1).mono ?_;rintro e w7 ⟨A7,c7,rfl,hr7,hb7⟩;replace M:=Lib.hid (M.out.below hb7);clear hb7 hr7;dsimp only;replace hk4:=M.out.1;replace hk3:=M.out.2.1;replace hc0:=M.out.2.2.1;replace hc1:=M.out.2.2.2.1)
    |(go_at_call 72;refine(HC.out _ M.out.2.2.2.2.1.1).mono ?_;rintro e w1 ⟨rfl,hb1⟩;replace M:=Lib.hid (M.out.below hb1);clear hb1;replace hk4:=M.out.1;replace hk3:=M.out.2.1;replace hc0:=M.out.2.2.1;replace hc1:=M.out.2.2.2.1))
   exact HR.out _ _ ⟨zbd HCB.out.symm,M.out.2.2.2.2.1.1⟩
 ·
  obtain rfl:z=true:=by cases z<;>simp_all
  obtain rfl:y=true:=by cases y<;>simp_all
  clear hzy
  have hvw:zb7 n=true∧zd0 l=true:=by have:=HZ.out;simpa using this
  have hvf:vcB c=true∧fineB sl=true:=by have:=HY.out;simpa using this
  have HVW:=Lib.hid hvw
  have HVF:=Lib.hid hvf
  clear hvw hvf
  simp only[if_true,Bool.true_and] at HC HST HEN HCB
  by_cases hcost:zcr c sl sl.length=k
  ·
   rw[decide_eq_true hcost,Bool.true_and] at HCB
   have hsl:=zkg HVF.out.2
   have HCO:=Lib.hid hcost
   rw[hcost] at HC
   clear hcost
   refine zak fun R hR=>?_
   have HR:=Lib.hid hR
   clear hR
   go_enter Tryz.func29,Tryz.ntmps29
   have M:=Lib.hid hM
   clear hM
   have hk4:=M.out.1
   have hk3:=M.out.2.1
   have hc0:=M.out.2.2.1
   have hc1:=M.out.2.2.2.1
   go_wp2_with (first
    |(go_at_call 70;refine(HST.out _ M.out.2.2.2.2.1.1).mono ?_;rintro e w6 ⟨A6,c6,rfl,hr6,hb6⟩;have HR6:=Lib.hid hr6;replace M:=Lib.hid (M.out.below hb6);clear hb6 hr6;dsimp only at HR6⊢;replace hk4:=M.out.1;replace hk3:=M.out.2.1;replace hc0:=M.out.2.2.1;replace hc1:=M.out.2.2.2.1)
    |(go_at_call 71;refine(HEN.out _ M.out.2.2.2.2.1.1).mono ?_;rintro e w7 ⟨A7,c7,rfl,hr7,hb7⟩;have HR7:=Lib.hid hr7;replace HR6:=Lib.hid (HR6.out.after hb7);replace M:=Lib.hid (M.out.below hb7);clear hb7 hr7;dsimp only at HR7⊢;replace hk4:=M.out.1;replace hk3:=M.out.2.1;replace hc0:=M.out.2.2.1;replace hc1:=M.out.2.2.2.1)
    |(go_at_call 72;refine(HC.out _ M.out.2.2.2.2.1.1).mono ?_;rintro e w8 ⟨rfl,hb8⟩;replace HR6:=Lib.hid (HR6.out.after hb8);replace HR7:=Lib.hid (HR7.out.after hb8);replace M:=Lib.hid (M.out.below hb8);clear hb8;dsimp only;replace hk4:=M.out.1;replace hk3:=M.out.2.1;replace hc0:=M.out.2.2.1;replace hc1:=M.out.2.2.2.1))
   go_loopw [57,9,16,17,18] (fun v57 v9 _ _ _ wr=> ∃ (j:Nat) (s:List Int) (B:Option Addr) (d lh hh:Nat),j≤sl.length∧v57= .int .i64 j∧v9= .slice B s.length d∧Hid (zb1 n l s=true)∧Hid (runA n l (zfx n) sl=runA n l s (sl.drop j))∧Hid (Mem (Loc.rdI lh hh (.slice B s.length d) s::Loc.rdI w6.heap.size w7.heap.size (.slice A7 (endS n l).length c7) (endS n l)::chkL w n (.slice A n.trans.length ca) c (.slice A3 sl.length c3) k) wr)) (fun v57 _ _ _ _ _=>sl.length-(intOf v57).toNat)
   case atStart=>exact⟨0,zfx n,A6,c6,_,_,by omega,rfl,rfl,Lib.hid (zms HVW.out.1 HVW.out.2),Lib.hid J,Lib.hid ⟨HR6.out,HR7.out,M.out⟩⟩
   case round=>
    clear M hk4 hk3 hc0 hc1 HR6 HR7
    obtain⟨j,s,B,d,lh,hh,hj,rfl,rfl,HSB,HI,M⟩:=hrel
    have hk4:=M.out.2.2.1
    by_cases hlt:j<sl.length
    ·
     obtain⟨b,off,rfl,_,_,hcell⟩:=RdM.at3 (HS.out.after M.out.2.2.2.2.2.2.1.1) hlt
     have hf:=zda HSB.out
     have HJ:Hid (runA n l (zfx n) sl=if (zdt n l s (gti sl j)).2=0 then runA n l (zdt n l s (gti sl j)).1 (sl.drop (j+1)) else none):=Lib.hid (by rw[HI.out,zc2 hlt,runA])
     have HAS:=Lib.hid (zjt (m:=gti sl j) HSB.out)
     have HAP:=Lib.hid (fun (W:World) (h:Below w.heap.size w W) (hr:RdI W lh hh (.slice B s.length d) s)=>zs0 n l s (gti sl j) _ _ _ lo hi lo' hi' lh hh W (HV.out.after h) (HW.out.after h) hr hf.1 hf.2.1 hf.2.2.1 hf.2.2.2.1 xa)
     obtain⟨⟨fl,fe⟩,hfe⟩: ∃r,zdt n l s (gti sl j)=r:=⟨_,rfl⟩
     rw[hfe] at HJ HAS HAP
     simp only at HJ HAS
     clear hfe hf
     generalize gti sl j=x at*
     obtain⟨kd,tr,ac⟩:=x
     simp only at hcell
     replace M:Hid (Mem (Loc.k3 wr.heap.size (.int .i64 kd) (.int .i64 tr) (.string ac)::Loc.rdI lh hh (.slice B s.length d) s::Loc.rdI w6.heap.size w7.heap.size (.slice A7 (endS n l).length c7) (endS n l)::chkL w n (.slice A n.trans.length ca) c (.slice (some ⟨b,off,none⟩) sl.length c3) k) (wr.alloc (.cells #[.int .i64 kd, .int .i64 tr, .string ac] 66))):=Lib.hid ⟨K3.new wr _ _ _ _,M.out.alloc _⟩
     have hk3:=M.out.1
     replace hk4:=M.out.2.2.2.1
     by_cases he0:fe=0
     ·
      subst he0
      rw[if_pos J] at HJ
      go_wp2_with (go_at_call 73;refine(HAP.out _ M.out.2.2.2.2.2.2.2.1.1 M.out.2.1).mono ?_;rintro e w9 ⟨A9,c9,rfl,hr9,hb9⟩;have HR9:=Lib.hid hr9;replace M:=Lib.hid (M.out.below hb9);clear hb9 hr9;dsimp only at HR9⊢;replace hk4:=M.out.2.2.2.1)
      exact⟨⟨j+1,fl,A9,c9,_,_,by omega,by go_num,rfl,Lib.hid (HAS.out (by first|rfl|trivial)),HJ,Lib.hid ⟨HR9.out,M.out.2.2⟩⟩,by simp[intOf];omega⟩
     ·
      rw[if_neg he0] at HJ
      have be0:(fe !=0)=true:=by simpa using he0
      go_wp2_with (go_at_call 73;refine(HAP.out _ M.out.2.2.2.2.2.2.2.1.1 M.out.2.1).mono ?_;rintro e w9 ⟨A9,c9,rfl,hr9,hb9⟩;have HR9:=Lib.hid hr9;replace M:=Lib.hid (M.out.below hb9);clear hb9 hr9;dsimp only at HR9⊢;replace hk4:=M.out.2.2.2.1)
      exact HR.out _ _ ⟨zbd (by rw[HCB.out,HJ.out];rfl),M.out.2.2.2.2.2.2.2.1.1⟩
    ·
     obtain rfl:j=sl.length:=by omega
     have HE:Hid (zgi n l c sl k=decide (s=endS n l)):=Lib.hid (by rw[HCB.out,HI.out];simp[runA,endB])
     clear HI
     go_wp2_with (go_at_call 74;refine(zpu _ _ _ _ _ _ _ _ _ M.out.1 M.out.2.1).mono ?_;rintro e w1 ⟨rfl,hb1⟩;replace M:=Lib.hid (M.out.below hb1);clear hb1;skip)
     exact HR.out _ _ ⟨zbd HE.out.symm,M.out.2.2.2.2.2.2.1.1⟩
  ·
   rw[decide_eq_false hcost,Bool.false_and] at HCB
   have HCO:=Lib.hid hcost
   generalize zcr c sl sl.length=q at*
   have bq:(q !=k)=true:=by simpa using hcost
   clear hcost
   refine zak fun R hR=>?_
   have HR:=Lib.hid hR
   clear hR
   go_enter Tryz.func29,Tryz.ntmps29
   have M:=Lib.hid hM
   clear hM
   have hk4:=M.out.1
   have hk3:=M.out.2.1
   have hc0:=M.out.2.2.1
   have hc1:=M.out.2.2.2.1
   go_wp2_with (first
    |(go_at_call 70;refine(HST.out _ M.out.2.2.2.2.1.1).mono ?_;rintro e w6 ⟨A6,c6,rfl,hr6,hb6⟩;replace M:=Lib.hid (M.out.below hb6);clear hb6 hr6;dsimp only;replace hk4:=M.out.1;replace hk3:=M.out.2.1;replace hc0:=M.out.2.2.1;replace hc1:=M.out.2.2.2.1)
    |(go_at_call 71;refine(HEN.out _ M.out.2.2.2.2.1.1).mono ?_;rintro e w7 ⟨A7,c7,rfl,hr7,hb7⟩;replace M:=Lib.hid (M.out.below hb7);clear hb7 hr7;dsimp only;replace hk4:=M.out.1;replace hk3:=M.out.2.1;replace hc0:=M.out.2.2.1;replace hc1:=M.out.2.2.2.1)
    |(go_at_call 72;refine(HC.out _ M.out.2.2.2.2.1.1).mono ?_;rintro e w1 ⟨rfl,hb1⟩;replace M:=Lib.hid (M.out.below hb1);clear hb1;replace hk4:=M.out.1;replace hk3:=M.out.2.1;replace hc0:=M.out.2.2.1;replace hc1:=M.out.2.2.2.1))
   exact HR.out _ _ ⟨zbd HCB.out.symm,M.out.2.2.2.2.1.1⟩
end
section
open Go.RowKit
set_option maxRecDepth 100000 in
set_option maxHeartbeats 4000000 in
theorem zw3 (n:Net)(l:List ByteArray)(c:Cst)(sl:List Stp)(k:Int)(vt v vs:Value)(lo hi lo' hi' lo2 hi2:Nat)(w:World)(hv:RdT w lo hi vt n.trans)(hw:RdS w lo' hi' v l)(hs:RdM w lo2 hi2 vs sl):
  Calls Tryz.prog 23 #[netV n vt,v,cstV c,algV vs k] w fun e w'=>e= .returned (.bool (zgi n l c sl k))∧Below w.heap.size w w':=by
 obtain⟨A,ca,rfl,hc,hmm⟩:=hv.form
 obtain⟨A2,c2,rfl,hc2,hmm2⟩:=hw.form
 obtain⟨A3,c3,rfl,hc3,hmm3⟩:=hs.form
 have HV:=Lib.hid hv
 have HW:=Lib.hid hw
 have HS:=Lib.hid hs
 clear hv hw hs
 have hM:=chkM w n (.slice A n.trans.length ca) c (.slice A3 sl.length c3) k
 obtain⟨z1,hz1⟩: ∃z,zb7 n=z:=⟨_,rfl⟩
 obtain⟨z2,hz2⟩: ∃z,zd0 l=z:=⟨_,rfl⟩
 obtain⟨y,hy⟩: ∃y,(vcB c && fineB sl)=y:=⟨_,rfl⟩
 have HZ1:=Lib.hid hz1
 have HZ2:=Lib.hid hz2
 have HY:=Lib.hid hy
 have HCB:Hid (zgi n l c sl k=(z1 && z2 && y && decide (zcr c sl sl.length=k) && endB n l (runA n l (zfx n) sl))):=Lib.hid (by rw[zgi,hz1,hz2,hy])
 have HCE:Hid (zi0 c sl=if y then(zcr c sl sl.length,0) else(0,1)):=Lib.hid (by rw[zi0,hy])
 have HSE:Hid (zb0 n l=if z1 && z2 then(zfx n,0) else([],1)):=Lib.hid (by rw[zb0,hz1,hz2];rfl)
 have HEE:Hid (endE n l=if z1 && z2 then(endS n l,0) else([],1)):=Lib.hid (by rw[endE,hz1,hz2];rfl)
 clear hz1 hz2 hy
 have HC:=Lib.hid (fun (W:World) (h:Below w.heap.size w W)=>zzd c sl lo2 hi2 _ W (HS.out.after h))
 have HST:=Lib.hid (fun (W:World) (h:Below w.heap.size w W)=>zo6 n l _ _ lo hi lo' hi' W (HV.out.after h) (HW.out.after h))
 have HEN:=Lib.hid (fun (W:World) (h:Below w.heap.size w W)=>zvg n l _ _ lo hi lo' hi' W (HV.out.after h) (HW.out.after h))
 rw[HCE.out] at HC
 rw[HSE.out] at HST
 rw[HEE.out] at HEN
 clear HCE HSE HEE
 by_cases hbad:z1=false∨z2=false∨y=false∨zcr c sl sl.length≠k
 ·
  replace HCB:Hid (zgi n l c sl k=false):=Lib.hid (by rw[HCB.out];rcases hbad with h|h|h|h<;>simp[h])
  have hq:y=true→z1=true→z2=true→(zcr c sl sl.length !=k)=true:=by
   intro h1 h2 h3
   rcases hbad with h|h|h|h
   ·
    rw[h] at h2;cases h2
   ·
    rw[h] at h3;cases h3
   ·
    rw[h] at h1;cases h1
   ·
    simpa using h
  clear hbad
  generalize zcr c sl sl.length=q at*
  cases y<;>cases z1<;>cases z2
  all_goals
   simp only[Bool.false_eq_true,if_false,if_true] at HC
   try (have hq':=hq J J J)
   clear hq
   clear HST HEN
   refine zak fun R hR=>?_
   have HR:=Lib.hid hR
   clear hR
   go_enter Tryz.func23,Tryz.ntmps23
   have M:=Lib.hid hM
   clear hM
   have hk4:=M.out.1
   have hk3:=M.out.2.1
   have hc0:=M.out.2.2.1
   have hc1:=M.out.2.2.2.1
   go_wp2_with (first
    |(go_at_call 61;refine(HC.out _ M.out.2.2.2.2.1.1).mono ?_;rintro e w1 ⟨rfl,hb1⟩;replace M:=Lib.hid (M.out.below hb1);clear hb1;replace hk4:=M.out.1;replace hk3:=M.out.2.1;replace hc0:=M.out.2.2.1;replace hc1:=M.out.2.2.2.1)
    |(go_at_call 30;refine(zcs HZ1.out _ lo hi _ (HV.out.after M.out.2.2.2.2.1.1)).mono ?_;rintro e w1 ⟨rfl,hb1⟩;replace M:=Lib.hid (M.out.below hb1);clear hb1;replace hk4:=M.out.1;replace hk3:=M.out.2.1;replace hc0:=M.out.2.2.1;replace hc1:=M.out.2.2.2.1)
    |(go_at_call 62;refine(zdn HZ2.out lo' hi' _ _ (HW.out.after M.out.2.2.2.2.1.1)).mono ?_;rintro e w1 ⟨rfl,hb1⟩;replace M:=Lib.hid (M.out.below hb1);clear hb1;replace hk4:=M.out.1;replace hk3:=M.out.2.1;replace hc0:=M.out.2.2.1;replace hc1:=M.out.2.2.2.1))
   exact HR.out _ _ ⟨zbd HCB.out.symm,M.out.2.2.2.2.1.1⟩
 ·
  obtain rfl:z1=true:=by cases z1<;>simp_all
  obtain rfl:z2=true:=by cases z2<;>simp_all
  obtain rfl:y=true:=by cases y<;>simp_all
  have hcost:zcr c sl sl.length=k:=by
   by_cases h:zcr c sl sl.length=k
   ·
    exact h
   ·
    exact absurd (Or.inr (Or.inr (Or.inr h))) hbad
  clear hbad
  have hvf:vcB c=true∧fineB sl=true:=by have:=HY.out;simpa using this
  have HVF:=Lib.hid hvf
  clear hvf
  simp only[if_true,Bool.true_and,Bool.and_true] at HC HST HEN HCB
  rw[decide_eq_true hcost,Bool.true_and] at HCB
  have hsl:=zkg HVF.out.2
  rw[hcost] at HC
  clear hcost
  refine zak fun R hR=>?_
  have HR:=Lib.hid hR
  clear hR
  go_enter Tryz.func23,Tryz.ntmps23
  have M:=Lib.hid hM
  clear hM
  have hk4:=M.out.1
  have hk3:=M.out.2.1
  have hc0:=M.out.2.2.1
  have hc1:=M.out.2.2.2.1
  go_wp2_with (first
   |(go_at_call 61;refine(HC.out _ M.out.2.2.2.2.1.1).mono ?_;rintro e w1 ⟨rfl,hb1⟩;replace M:=Lib.hid (M.out.below hb1);clear hb1;replace hk4:=M.out.1;replace hk3:=M.out.2.1;replace hc0:=M.out.2.2.1;replace hc1:=M.out.2.2.2.1)
   |(go_at_call 30;refine(zcs HZ1.out _ lo hi _ (HV.out.after M.out.2.2.2.2.1.1)).mono ?_;rintro e w1 ⟨rfl,hb1⟩;replace M:=Lib.hid (M.out.below hb1);clear hb1;replace hk4:=M.out.1;replace hk3:=M.out.2.1;replace hc0:=M.out.2.2.1;replace hc1:=M.out.2.2.2.1)
   |(go_at_call 62;refine(zdn HZ2.out lo' hi' _ _ (HW.out.after M.out.2.2.2.2.1.1)).mono ?_;rintro e w1 ⟨rfl,hb1⟩;replace M:=Lib.hid (M.out.below hb1);clear hb1;replace hk4:=M.out.1;replace hk3:=M.out.2.1;replace hc0:=M.out.2.2.1;replace hc1:=M.out.2.2.2.1)
   |(go_at_call 24;refine(HST.out _ M.out.2.2.2.2.1.1).mono ?_;rintro e w6 ⟨A6,c6,rfl,hr6,hb6⟩;have HR6:=Lib.hid hr6;replace M:=Lib.hid (M.out.below hb6);clear hb6 hr6;dsimp only at HR6⊢;replace hk4:=M.out.1;replace hk3:=M.out.2.1;replace hc0:=M.out.2.2.1;replace hc1:=M.out.2.2.2.1))
  go_loopw [13,11,14,15] (fun v13 v11 _ _ wr=> ∃ (j:Nat) (s:List Int) (B:Option Addr) (d lh hh:Nat),j≤sl.length∧v13= .int .i64 j∧v11= .slice B s.length d∧Hid (zb1 n l s=true)∧Hid (runA n l (zfx n) sl=runA n l s (sl.drop j))∧Hid (Mem (Loc.rdI lh hh (.slice B s.length d) s::chkL w n (.slice A n.trans.length ca) c (.slice A3 sl.length c3) k) wr)) (fun v13 _ _ _ _=>sl.length-(intOf v13).toNat)
  case atStart=>exact⟨0,zfx n,A6,c6,_,_,by omega,rfl,rfl,Lib.hid (zms HZ1.out HZ2.out),Lib.hid J,Lib.hid ⟨HR6.out,M.out⟩⟩
  case round=>
   clear M hk4 hk3 hc0 hc1 HR6
   obtain⟨j,s,B,d,lh,hh,hj,rfl,rfl,HSB,HI,M⟩:=hrel
   have hk4:=M.out.2.1
   have hc0:=M.out.2.2.2.1
   by_cases hlt:j<sl.length
   ·
    obtain⟨b,off,rfl,_,_,hcell⟩:=RdM.at3 (HS.out.after M.out.2.2.2.2.2.1.1) hlt
    have HJ:Hid (runA n l (zfx n) sl=if (zdt n l s (gti sl j)).2=0 then runA n l (zdt n l s (gti sl j)).1 (sl.drop (j+1)) else none):=Lib.hid (by rw[HI.out,zc2 hlt,runA])
    have HAS:=Lib.hid (zjt (m:=gti sl j) HSB.out)
    have HAP:=Lib.hid (fun (W:World) (h:Below w.heap.size w W) (hr:RdI W lh hh (.slice B s.length d) s)=>zk0 n l s (gti sl j) _ _ _ lo hi lo' hi' lh hh W (HV.out.after h) (HW.out.after h) hr)
    rw[zol HSB.out (zxl HVF.out.2 hlt)] at HAP
    obtain⟨⟨fl,fe⟩,hfe⟩: ∃r,zdt n l s (gti sl j)=r:=⟨_,rfl⟩
    rw[hfe] at HJ HAS HAP
    simp only at HJ HAS
    clear hfe
    generalize gti sl j=x at*
    obtain⟨kd,tr,ac⟩:=x
    simp only at hcell
    replace M:Hid (Mem (Loc.c3 b (off+j*3) (.int .i64 kd) (.int .i64 tr) (.string ac)::Loc.rdI lh hh (.slice B s.length d) s::chkL w n (.slice A n.trans.length ca) c (.slice (some ⟨b,off,none⟩) sl.length c3) k) wr):=Lib.hid ⟨hcell,M.out⟩
    replace hk4:=M.out.2.2.1
    replace hc0:=M.out.2.2.2.2.1
    have hjb:(j:Int)<sl.length:=by omega
    have hjd:decide ((j:Int)<(sl.length:Int))=true:=by simp;omega
    have hj0:(0:Int)≤j:=by omega
    by_cases he0:fe=0
    ·
     subst he0
     rw[if_pos J] at HJ
     go_wp2_with fail
     go_region_held3 (fun W=>K4 W w.heap.size (.int .i64 n.places) (.slice A n.trans.length ca) (.int .i64 n.source) (.int .i64 n.sink)∧C1 W (w.heap.size+2) 0 (.slice (some ⟨b,off,none⟩) sl.length c3)∧C3 W b (off+j*3) (.int .i64 kd) (.int .i64 tr) (.string ac)) (exact⟨hk4,hc0,M.out.1⟩) (first
      |(go_at_call 28;refine(HAP.out _ (by first|exact M.out.2.2.2.2.2.2.1.1|exact M.out.drew.2.2.2.2.2.2.1.1) (by first|exact M.out.2.1|exact M.out.drew.2.1)).mono ?_;rintro e w9 ⟨A9,c9,rfl,hr9,hb9⟩;have HR9:=Lib.hid hr9;replace M:=Lib.hid (Mem.below (by first|exact M.out|exact M.out.drew) hb9);clear hb9 hr9;dsimp only at HR9⊢;replace hk4:=M.out.2.2.1;replace hc0:=M.out.2.2.2.2.1))
     all_goals
      go_wp2_with fail
      have hj1:j+1≤sl.length:=by omega
      have hsb:Hid (zb1 n l fl=true):=Lib.hid (HAS.out (by first|rfl|trivial))
      have hm:Hid (Mem (Loc.rdI _ _ (.slice A9 fl.length c9) fl::chkL w n (.slice A n.trans.length ca) c (.slice (some ⟨b,off,none⟩) sl.length c3) k) w9):=Lib.hid ⟨HR9.out,M.out.2.2⟩
      first
       |exact⟨⟨j+1,fl,A9,c9,_,_,hj1,rfl,rfl,hsb,HJ,hm⟩,by simp[intOf];omega⟩
       |
        (go_roundw
         case rel=>(first|exact⟨j+1,fl,A9,c9,_,_,hj1,rfl,rfl,hsb,HJ,hm⟩|((repeat apply Exists.intro);exact⟨⟨j+1,fl,A9,c9,_,_,hj1,rfl,rfl,hsb,HJ,hm⟩,rfl⟩))
         case measure=>simp[intOf];omega)
    ·
     rw[if_neg he0] at HJ
     have be0:(fe !=0)=true:=by simpa using he0
     go_wp2_with fail
     go_region_held3 (fun W=>K4 W w.heap.size (.int .i64 n.places) (.slice A n.trans.length ca) (.int .i64 n.source) (.int .i64 n.sink)∧C1 W (w.heap.size+2) 0 (.slice (some ⟨b,off,none⟩) sl.length c3)∧C3 W b (off+j*3) (.int .i64 kd) (.int .i64 tr) (.string ac)) (exact⟨hk4,hc0,M.out.1⟩) (first
      |(go_at_call 28;refine(HAP.out _ (by first|exact M.out.2.2.2.2.2.2.1.1|exact M.out.drew.2.2.2.2.2.2.1.1) (by first|exact M.out.2.1|exact M.out.drew.2.1)).mono ?_;rintro e w9 ⟨A9,c9,rfl,hr9,hb9⟩;have HR9:=Lib.hid hr9;replace M:=Lib.hid (Mem.below (by first|exact M.out|exact M.out.drew) hb9);clear hb9 hr9;dsimp only at HR9⊢;replace hk4:=M.out.2.2.1;replace hc0:=M.out.2.2.2.2.1))
     all_goals
      go_wp2_with fail
      exact HR.out _ _ ⟨zbd (by rw[HCB.out,HJ.out];rfl),M.out.2.2.2.2.2.2.1.1⟩
   ·
    obtain rfl:j=sl.length:=by omega
    have HE:Hid (zgi n l c sl k=decide (s=endS n l)):=Lib.hid (by rw[HCB.out,HI.out];simp[runA,endB])
    clear HI
    go_wp2_with (first
     |(go_at_call 63;refine(HEN.out _ M.out.2.2.2.2.2.1.1).mono ?_;rintro e w7 ⟨A7,c7,rfl,hr7,hb7⟩;have HR7:=Lib.hid hr7;replace M:=Lib.hid (M.out.below hb7);clear hb7 hr7;dsimp only at HR7⊢)
     |(go_at_call 64;refine(zmv _ _ _ _ _ _ _ _ _ M.out.1 HR7.out).mono ?_;rintro e w1 ⟨rfl,hb1⟩;replace M:=Lib.hid (M.out.below hb1);clear hb1;skip))
    exact HR.out _ _ ⟨zbd HE.out.symm,M.out.2.2.2.2.2.1.1⟩
end
end Go.Proofs.YtjdpnadhgjohnaaGreatDoor
