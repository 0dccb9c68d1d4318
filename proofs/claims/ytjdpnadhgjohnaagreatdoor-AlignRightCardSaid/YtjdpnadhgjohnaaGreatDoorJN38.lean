import Derived.Test.YtjdpnadhgjohnaaGreatDoorJN0
import Derived.Test.YtjdpnadhgjohnaaGreatDoorJN28
import Derived.Test.YtjdpnadhgjohnaaGreatDoorJN2
import Derived.Lib.Slices
import Derived.Lib.Hide
import Derived.Laws.IdiomStrings
import Derived.OwnWalk
import Derived.BigCall
set_option linter.unusedSimpArgs false
set_option linter.unusedVariables false
set_option linter.unusedSectionVars false
section
namespace Go.Proofs.YtjdpnadhgjohnaaGreatDoor
open Go.RowKit
set_option maxHeartbeats 6400000 in
set_option maxRecDepth 100000 in
theorem z49 (m:List Int)(lo hi:Nat)(v:Value)(w:World)(hv:RdI w lo hi v m)(hm: ∀x∈m,0≤x∧x≤255)(hl:m.length≤1000)(hne:m≠[])(ht:Aw.TabP w)(htb:Aw.TabB w.heap.size):
  Calls Tryz.prog 141 #[v] w fun e w'=>e= .returned (.string ⟨(keyD m).toArray⟩)∧Below w.heap.size w w':=by
 obtain⟨i0,ht0,hi,hz0,hz1,hz2,hz3,hz4⟩:=z6p
 obtain⟨A,c,rfl,hc,hmm⟩:=hv.form
 have HV:=Lib.hid hv
 have HM:=Lib.hid hm
 have HT:Hid (Lib.TabBelow Tryz.prog w.heap.size w "internal/strconv.uint64pow10" .u64 Lib.pow10Tab):=Lib.hid (Lib.tabBelow_of_tabIs (tab_is ht))
 clear hv hm ht htb
 have HB0:Hid (w.ownsRow w.heap.size 5 1 (.slice none 0 0) (keyD (m.take 0)).length (Lib.byteCells (keyD (m.take 0)))):=Lib.hid (World.ownsRow_nil _ _ _ _)
 have HE:Hid (Below w.heap.size w w):=Lib.hid (Below.refl _ _)
 refine zak fun R hR=>?_
 have HR:=Lib.hid hR
 clear hR
 go_enter Tryz.func141,Tryz.ntmps141
 go_wp2_with fail
 go_loopw [8,5,3] (fun v8 _ v3 wr=> ∃k:Nat,k≤m.length∧v8= .int .i64 k∧Hid (wr.ownsRow w.heap.size 5 1 v3 (keyD (m.take k)).length (Lib.byteCells (keyD (m.take k))))∧Hid (Below w.heap.size w wr)) (fun v8 _ _ _=>m.length-(intOf v8).toNat)
 case atStart=>exact⟨0,Nat.zero_le _,rfl,HB0,HE⟩
 case round=>
  clear HB0 HE
  obtain⟨k,hk,rfl,HB,HE⟩:=hrel
  by_cases hlt:k<m.length
  ·
   obtain⟨b,off,rfl,_,_,hcell⟩:=RdI.at1 (HV.out.after HE.out) hlt
   obtain⟨h0,h1⟩:=HM.out _ (List.mem_of_getElem? (zbr hlt))
   obtain⟨x,hx⟩: ∃x,gti m k=x:=⟨_,rfl⟩
   have HGX:=Lib.hid hx
   rw[hx] at hcell h0 h1
   clear hx
   have HLN:Hid ((keyD (m.take k)).length≤4*m.length):=Lib.hid (Nat.le_trans (zvx (fun y hy=>HM.out y (List.mem_of_mem_take hy))) (by rw[List.length_take];omega))
   have HLX:Hid ((Lib.itoa x).length≤3):=Lib.hid (by rw[zql h0];exact zug 2 x.toNat xa)
   have HS:Hid (Lib.byteCells (keyD (m.take k))++Lib.byteCells (Lib.itoa x)++[Value.int .u8 32]=Lib.byteCells (keyD (m.take (k+1)))):=Lib.hid (by
    rw[List.take_add_one,zbr hlt]
    simp only[Option.toList]
    rw[zsa,HGX.out]
    simp only[Lib.byteCells,List.map_append,List.append_assoc]
    rfl)
   have HSN:Hid ((keyD (m.take k)).length+(Lib.itoa x).length+1=(keyD (m.take (k+1))).length):=Lib.hid (by
    rw[List.take_add_one,zbr hlt]
    simp only[Option.toList]
    rw[zsa,HGX.out]
    simp only[List.length_append,List.length_cons,List.length_nil]
    omega)
   go_wp2_with (go_at_call 187;refine(Any.strconv_AppendInt_10 Tryz.laysLM176 w.heap.size _ x xa xa _ _ wr HB.out HE.out.size (by have:=HLN.out;omega) (HT.out.on HE.out)).mono ?_;rintro e w1 ⟨v1,rfl,hown1,hnx1, -⟩;refine Hid.out ?_)
   refine Lib.hid ?_
   have HE1:=Lib.hid (HE.out.trans (hnx1.mono (Nat.le_refl _)))
   go_wp2_with (at_builtin;refine wpList_append_own _ rfl _ _ 194 rfl w.heap.size 5 i0 (.int .u8 0) 1 1 Tryz.underlying194 hi hz0 hz1 hz2 rfl xe _ _ _ rfl (hown1.alloc _) ⟨w1.heap.size,0,none⟩ 1 1 [Value.int .u8 32] rfl rfl (by intro j u' hj;match j,hj with|0,hj=>simp at hj;subst hj;simp[Addr.add]) (by intro u' hu';simp at hu';subst hu';rfl) (by have h1:=HLN.out;have h2:=HLX.out;unfold maxLen;omega) (by have h1:=HLN.out;have h2:=HLX.out;omega) (by have:=HE1.out.size;simp;omega) ?_)
   intro v2 w2 hown2 hgrow _
   have HE2:=Lib.hid ((HE1.out.alloc (by have:=HE1.out.size;omega) _).grown hgrow (by have:=HE1.out.size;simp;omega) (fun k hk=>(hown1.lt k hk).1))
   rw[←List.append_assoc,HS.out,HSN.out] at hown2
   have HB2:=Lib.hid hown2
   clear hown2 hgrow hown1 hnx1
   go_wp2_with fail
   exact⟨⟨k+1,by omega,by go_num,HB2,HE2⟩,by simp[intOf];omega⟩
  ·
   obtain rfl:k=m.length:=by omega
   rw[List.take_length] at HB
   have hpos:0<(keyD m).length:=by
    match m,hne with
    |a::t,_=>simp[keyD];omega
   obtain⟨l,hl⟩: ∃l,l=keyD m:=⟨_,rfl⟩
   rw[←hl] at HB hpos
   have HL:=Lib.hid hl
   clear hl
   have hown:=HB.out
   rcases hown.2 with ⟨-,h0⟩|⟨g,cap,cur,rfl, -, -, -, -, -, -⟩
   ·
    omega
   ·
    have hcv:=run_convert_bytes_back (P:=Tryz.prog) wr 194 9 5 ⟨g,0,none⟩ cap l Tryz.underlying194 Tryz.underlying5 Tryz.underlying9 (fun j hj=>hown.cells (g:=g) rfl j _ (by simp[Lib.byteCells,hj]))
    go_wp2_with fail
    have hl:=HL.out
    subst hl
    exact HR.out _ _ ⟨rfl,HE.out⟩
end Go.Proofs.YtjdpnadhgjohnaaGreatDoor
end
