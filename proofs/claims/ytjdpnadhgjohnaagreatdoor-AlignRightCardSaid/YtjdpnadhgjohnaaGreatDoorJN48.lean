import Derived.Test.YtjdpnadhgjohnaaGreatDoorJN0
import Derived.Test.YtjdpnadhgjohnaaGreatDoorJN45
import Derived.Test.YtjdpnadhgjohnaaGreatDoorJN46
set_option linter.unusedSimpArgs false
set_option linter.unusedVariables false
set_option linter.unusedSectionVars false
section
namespace Go.Proofs.YtjdpnadhgjohnaaGreatDoor
open Go.ChangeShapes Go.WideShapes Go.ChangeAt Go.RowKit
set_option maxRecDepth 100000 in
theorem zlj (os:Os)(started:os.Started)(H:Type)(enc:TypeId × Value→H):
  ReturnsInHanded {} Tryz.checked os 7 .any (fun w args=>(Rows.alignRightSpec.pre enc Tryz.prog Tryz.f7 Rows.alignRightRow.domain false w args∧laidMetH Tryz.prog Rows.alignRightRow.laid w)∧sizedMet enc Tryz.prog Tryz.f7 (OpenSpec.ofChange Rows.alignRightSpec) false w args) (Rows.alignRightSpec.post enc Tryz.prog Tryz.f7 false true false false):=by
 refine returnsInHanded_of_change_and (C:=Tryz.checked) (X:=fun w _=>laidMetH Tryz.prog Rows.alignRightRow.laid w) (fun _ _ _ hh h=>h.of_heap hh) zvi started (by kernel_rfl) Tryz.func7
  (ChangeSpec.witness_shaped (enc:=enc) (C:=Tryz.checked) (os:=os) (X:=fun w _=>laidMetH Tryz.prog Rows.alignRightRow.laid w) false (World.laidAll Tryz.prog os Rows.alignRightRow.laid) #[.agg #[.int .i64 0, .slice none 0 0, .int .i64 0, .int .i64 0], .slice none 0 0, .agg #[.int .i64 0, .int .i64 0, .int .i64 0], .int .i64 0] 8 (World.laidAll_os _ _ _)
   (World.shaped_of_ZipB (by kernel_rfl) (by kernel_rfl)) (by kernel_rfl) (by kernel_rfl) (by kernel_rfl)
   (by rw[MakeChecks.laidMetH_plain _ _ _ (by kernel_rfl)];exact laidMet_laidAll _ (by kernel_rfl) (by kernel_rfl))) ?_
 intro W base args ds gs before hval0 hW hcnd _ hL _
 have hval: ∀ (j:Nat) t v,Tryz.f7.params[j]?=some t→args[j]?=some v→Value.okWide Tryz.prog W .any base t v:=hval0
 have hW':=hW
 obtain⟨p,q,hA0,hV,rfl,hfz,hnd⟩:=hW
 have hA:DataW.TrodAll enc Tryz.prog W 0 (fun _=>true) true Tryz.f7.params.toList args.toList ds p:=hA0
 rw[Tryz.params7] at hA hval
 obtain⟨v0,v1,v2,v3,d0,d1,d2,d3,p0,p1,p2,p3,rfl,rfl,rfl,h0,h1,h2,h3⟩:=trodAll_four hA
 obtain⟨rfl,rfl⟩:=trodVars_none hV
 obtain⟨x0,hx0⟩:=Aw.open_net (hval 0 24 v0 rfl rfl) h0
 obtain⟨x1,hx1⟩:=Aw.open_strs (hval 1 25 v1 rfl rfl) h1
 obtain⟨x2,hx2⟩:=Aw.open_costs (hval 2 27 v2 rfl rfl) h2
 obtain⟨x3,hx3⟩:=Aw.open_int (hval 3 3 v3 rfl rfl) h3
 simp only[List.append_nil] at hW'
 refine(Aw.pure_lawT (Aw.alignRight_pf (P:=Tryz.prog) x0 x1 x2 x3) W (Aw.tab_of_laid hL) #[v0,v1,v2,v3] rfl (fun j v x hv hx=>?_)).mono fun e W' ⟨he,hb⟩=>?_
 ·
  match j,hv,hx with
  |0,hv,hx=>simp at hv hx;subst hv hx;exact hx0
  |1,hv,hx=>simp at hv hx;subst hv hx;exact hx1
  |2,hv,hx=>simp at hv hx;subst hv hx;exact hx2
  |3,hv,hx=>simp at hv hx;subst hv hx;exact hx3
  |j+4,hv,hx=>simp at hv
 subst he
 have hp: ∀x∈p0++p1++p2++p3,x.block<W.heap.size:=fun x hx=>hW'.lt x (by simpa using hx)
 have hg:=trodAll_mk4 (Below.trod zgd (by kernel_rfl) (of_decide_eq_true (by kernel_rfl)) h0 hb (fun x hx=>hp x (by simp[hx]))) (Below.trod zgd (by kernel_rfl) (of_decide_eq_true (by kernel_rfl)) h1 hb (fun x hx=>hp x (by simp[hx]))) (Below.trod zgd (by kernel_rfl) (of_decide_eq_true (by kernel_rfl)) h2 hb (fun x hx=>hp x (by simp[hx]))) (Below.trod zgd (by kernel_rfl) (of_decide_eq_true (by kernel_rfl)) h3 hb (fun x hx=>hp x (by simp[hx])))
 simp only[←List.append_assoc] at hg
 exact⟨_,rfl,zvs (t:=4) hW' (by kernel_rfl) Tryz.underlying4 ⟨rfl,rfl,rfl⟩ rfl hg hb⟩
theorem zl3:Rows.AlignRightSaid:=
 OpenClaim.holds_of_wide 7 Tryz.f7 J J J J J J J ⟨rfl,rfl,rfl,rfl,rfl⟩ rfl J J J J (by kernel_rfl) Tryz.func7 (by kernel_rfl)
  (of_decide_eq_true (by kernel_rfl)) (by unfold Func.isWrapper;first|(rw[if_pos (by decide+kernel)];kernel_rfl)|(rw[if_neg (by decide+kernel)];exact⟨rfl,rfl⟩))
  (fun os started H enc _=>zlj os started H enc)
theorem alignRight_card : Rows.AlignRightCardSaid :=
 Claim7.holds_tied_plain_at .later [] [.data, .data, .data] true (true, "0ca2a406d433915e56fbc399d684e1da769e80074a34d1c2c09528d73bd80781") true zl3 (fun _ h=>by cases h) (by kernel_rfl) (fun _ h=>by cases h) alignRight_row_tie rfl ⟨rfl,rfl⟩ (by kernel_rfl) rfl
  (fun f fn hf hfn=>by
   obtain rfl:f=7:=Option.some.inj ((show Tryz.prog.funcNamed "casebook/casebooklaw43.AlignRight" =some 7 by kernel_rfl).symm.trans hf)|>.symm
   obtain rfl:fn=Tryz.f7:=(Option.some.inj (Tryz.func7.symm.trans hfn)).symm
   exact⟨by kernel_rfl,fun j t ht=>by
    rw[Tryz.params7] at ht
    have hm:t∈[24,25,27,3]:=by simpa using Array.mem_of_getElem? ht
    have hall:([24,25,27,3].all fun u=>!Tryz.prog.wantsStandIn u)=true:=by kernel_rfl
    exact(show Tryz.prog.wantsStandIn t=false by simpa using List.all_eq_true.1 hall t hm)⟩) (by kernel_rfl)
#print axioms alignRight_card
end Go.Proofs.YtjdpnadhgjohnaaGreatDoor
end
