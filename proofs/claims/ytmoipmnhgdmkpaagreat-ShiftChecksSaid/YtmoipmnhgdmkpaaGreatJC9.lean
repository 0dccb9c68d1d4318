/-
  Texts joined: ShE, SxB. Conditions: none.
-/
import Derived.Test.YtmoipmnhgdmkpaaGreatJC7
import Derived.Test.YtmoipmnhgdmkpaaGreatJC8
import Derived.Test.YtmoipmnhgdmkpaaGreatJC4
import Derived.Test.YtmoipmnhgdmkpaaGreatJC5
section
namespace Go.Proofs.YtmoipmnhgdmkpaaGreat.Aw
set_option linter.unusedSimpArgs false
set_option linter.unusedVariables false
set_option linter.unusedSectionVars false
open Go.RowKit Go.Proofs
variable {P : Program} [IsP P]

theorem cloneI_call (l : List Int) (h1 : 1 ≤ l.length) (h2 : l.length ≤ 12) (σ : List Ob) : CallE P 39 [eL eI l] σ (.own σ.length 1 l.length) (σ ++ [.row 1 (l.map eI)]) := by
  have hnn : NonNil (eL eI l) := by
    cases l with
    | nil => simp at h1
    | cons a t => exact .sl _ _
  have hlm : (l.map eI).length = l.length := by simp
  refine callE_fn (by rw [IsP.eq (P := P)]; exact Tryz.func39) rfl rfl (Nat.le_of_ble_eq_true rfl) ?_
  refine ew_seq ?_
  refine ew_region ?_
  refine zdk rfl rfl (zaa rfl) (mv_s (.inr rfl) rfl) ?_
  refine eops_nil ?_
  refine zar ?_
  refine ew_seq ?_
  refine ew_seq ?_
  refine ew_region ?_
  refine zdk rfl rfl (zaa rfl) (zbg (.inl rfl) rfl) ?_
  refine zdk rfl rfl (zaa rfl) (does_eqnil rfl ts22 rfl hnn rfl (.inl ⟨rfl, rfl⟩)) ?_
  refine eops_nil ?_
  refine zar ?_
  refine ew_false rfl ?_
  refine ew_skip ?_
  refine zar ?_
  refine ew_seq ?_
  refine ew_region ?_
  refine zdk rfl rfl (zaa rfl) (does_lit0 rfl rfl ts22 ti3) ?_
  refine zdk rfl rfl (zaa rfl) (zbg (.inl rfl) rfl) ?_
  refine zdk rfl rfl (zaa rfl) (zb1 (l := l.map eI) rfl ts22 ti3 rfl (by decide) rfl (.inl rfl) rfl (.sl _ (by intro e he; simp at he; obtain ⟨_, _, rfl⟩ := he; rfl)) (by unfold maxLen; simp; omega) (by simp; omega)) ?_
  refine zdk rfl rfl (zaa rfl) (za6 (.inr rfl) rfl) ?_
  refine eops_nil ?_
  refine zar ?_
  refine ew_ret ?_
  refine ⟨.inr rfl, rfl, _, .cons _ _ _ _ (.tmp _ _ rfl) .nil, ?_⟩
  rw [hlm]; rfl
def eBx (lo hi : List Int) : AV := .agg [eL eI lo, eL eI hi]
theorem nm_row {l : List Int} (q : Nat → Prop) : ObNm q (.row 1 (l.map eI)) := fun c hc => by
  obtain ⟨_, _, rfl⟩ := List.mem_map.1 hc; exact .s _
theorem post_cc {N : Nat} {F : Frm} {σ : List Ob} {ad ad2 : Nat} {ty ty2 : TypeId} {id sz k n bt id2 sz2 k2 n2 bt2 : Nat} {z z2 : Option Value} {ob ob2 : Ob} {cs cs2 : List AV} {e1 e2 r1 r2 : AV} {e : Exit} (he : e = .normal ∨ e = .ret) (ha : tyAgg P ty = some true) (hi : zb3 P ty = some (z, n, bt)) (hp : F.get ad = .ptr id sz k 0) (hs : σ[id]? = some ob) (ho : rowOf ob = some (sz, cs)) (hk : cs[k]? = some e1) (hn : e1.cells.length = n)
    (ha2 : tyAgg P ty2 = some true) (hi2 : zb3 P ty2 = some (z2, n2, bt2)) (hp2 : F.get ad2 = .ptr id2 sz2 k2 0) (hs2 : σ[id2]? = some ob2) (ho2 : rowOf ob2 = some (sz2, cs2)) (hk2 : cs2[k2]? = some e2) (hn2 : e2.cells.length = n2) (hr1 : Fini σ (.agg e1.cells) r1) (hr2 : Fini σ (.agg e2.cells) r2) : APost P [.cell ad ty, .cell ad2 ty2] (.tup [r1, r2]) e F σ :=
  ⟨he, [.agg e1.cells, .agg e2.cells], .cons _ _ _ _ (.cells ad ty id sz k n bt z ob cs e1 ha hi hp hs ho hk hn) (.cons _ _ _ _ (.cells ad2 ty2 id2 sz2 k2 n2 bt2 z2 ob2 cs2 e2 ha2 hi2 hp2 hs2 ho2 hk2 hn2) .nil), .tup _ _ rfl (zdm.cons hr1 (zdm.cons hr2 zdm.nil)).2⟩
theorem post_c1 {N : Nat} {F : Frm} {σ : List Ob} {ad : Nat} {ty : TypeId} {id sz k n bt : Nat} {z : Option Value} {ob : Ob} {cs : List AV} {e1 r1 : AV} {e : Exit} (he : e = .normal ∨ e = .ret) (ha : tyAgg P ty = some true) (hi : zb3 P ty = some (z, n, bt)) (hp : F.get ad = .ptr id sz k 0) (hs : σ[id]? = some ob) (ho : rowOf ob = some (sz, cs)) (hk : cs[k]? = some e1) (hn : e1.cells.length = n) (hr1 : Fini σ (.agg e1.cells) r1) : APost P [.cell ad ty] r1 e F σ :=
  ⟨he, [.agg e1.cells], .cons _ _ _ _ (.cells ad ty id sz k n bt z ob cs e1 ha hi hp hs ho hk hn) .nil, hr1⟩
def setI (l : List Int) (k : Nat) (x : Int) : List Int := l.set k x
theorem map_set (l : List Int) (k : Nat) (x : Int) : (l.map eI).set k (eI x) = (setI l k x).map eI := by
  unfold setI; rw [List.map_set]
set_option maxHeartbeats 2000000 in
theorem halves_pf (lo hi : List Int) (k : Nat) (t : Int) (h1 : k < lo.length) (h2 : hi.length = lo.length) (h3 : lo.length ≤ 12) (h4 : -1000 ≤ t) (h5 : t ≤ 1000) : Pure P 32 [eBx lo hi, eI k, eI t] (.tup [eBx lo (setI hi k t), eBx (setI lo k (t + 1)) hi]) := by
  have hlm : (lo.map eI).length = lo.length := by simp
  have hhm : (hi.map eI).length = hi.length := by simp
  refine zc4 (by rw [IsP.eq (P := P)]; exact Tryz.func32) rfl rfl rfl rfl rfl (by repeat' (first | exact Lo.s _ | exact zaj | refine zae ?_ ?_ | refine zak ?_ | refine Lo.cells ?_ | refine Lo.agg _ ?_ | refine Lo.ref _ ?_ | refine Lo.tup _ ?_ | refine Lo.fn _ _ ?_ | refine Lo.sl _ ?_ | intro _)) (by repeat' (first | exact Lo.s _ | exact zaj | refine zae ?_ ?_ | refine zak ?_ | refine Lo.cells ?_ | refine Lo.agg _ ?_ | refine Lo.ref _ ?_ | refine Lo.tup _ ?_ | refine Lo.fn _ _ ?_ | refine Lo.sl _ ?_ | intro _)) (by simp only [argF]; rfl) ?_
  repeat (first | refine zag ?_ | refine zar ?_ | refine zad ?_ | refine zas ?_ | refine zac ?_)
  refine zaf ?_
  refine zab rfl rfl (zaa rfl) (zcv rfl rfl rfl rfl) ?_
  refine zbq (zcd (id := 0) rfl) (zbq (zcy (d := 3) rfl rfl rfl) ?_)
  refine zab rfl rfl (zaa rfl) (zbr rfl ti51 rfl rfl) ?_
  refine zab rfl rfl (zaa rfl) (zbr rfl ti51 rfl rfl) ?_
  refine zan ?_
  repeat (first | refine zag ?_ | refine zar ?_ | refine zad ?_ | refine zas ?_ | refine zac ?_)
  refine zch hmix ?_
  refine adraw_lastT rfl (by kernel_rfl) ?_
  simp only [List.dropLast]
  refine adraw_px rfl ?_
  refine px_lo rfl rfl (zaa rfl) (fun _ => zai rfl tf51_0 (by decide) rfl) (by repeat' (first | exact Lo.s _ | exact zaj | refine zae ?_ ?_ | refine zak ?_ | refine Lo.cells ?_ | refine Lo.agg _ ?_ | refine Lo.ref _ ?_ | refine Lo.tup _ ?_ | refine Lo.fn _ _ ?_ | refine Lo.sl _ ?_ | intro _)) ?_
  refine px_lo rfl rfl (zaa rfl) (fun _ => zam rfl ta22 rfl) (by repeat' (first | exact Lo.s _ | exact zaj | refine zae ?_ ?_ | refine zak ?_ | refine Lo.cells ?_ | refine Lo.agg _ ?_ | refine Lo.ref _ ?_ | refine Lo.tup _ ?_ | refine Lo.fn _ _ ?_ | refine Lo.sl _ ?_ | intro _)) ?_
  refine px_psh (x := fun n => .own n 1 lo.length) rfl rfl (zaa rfl) (fun σ => does_callE rfl rfl (cloneI_call lo (by omega) (by omega) σ) rfl) (fun m h => .own _ _) nm_row rfl ?_
  refine px_lo rfl rfl (zaa rfl) (fun _ => zai rfl tf51_1 (by decide) rfl) (by repeat' (first | exact Lo.s _ | exact zaj | refine zae ?_ ?_ | refine zak ?_ | refine Lo.cells ?_ | refine Lo.agg _ ?_ | refine Lo.ref _ ?_ | refine Lo.tup _ ?_ | refine Lo.fn _ _ ?_ | refine Lo.sl _ ?_ | intro _)) ?_
  refine px_lo rfl rfl (zaa rfl) (fun _ => zam rfl ta22 rfl) (by repeat' (first | exact Lo.s _ | exact zaj | refine zae ?_ ?_ | refine zak ?_ | refine Lo.cells ?_ | refine Lo.agg _ ?_ | refine Lo.ref _ ?_ | refine Lo.tup _ ?_ | refine Lo.fn _ _ ?_ | refine Lo.sl _ ?_ | intro _)) ?_
  refine px_psh (x := fun n => .own n 1 hi.length) rfl rfl (zaa rfl) (fun σ => does_callE rfl rfl (cloneI_call hi (by omega) (by omega) σ) rfl) (fun m h => .own _ _) nm_row rfl ?_
  refine px_nm rfl rfl (zaa rfl) (fun _ => zb7 rfl ti51 tp51 rfl rfl) ?_
  refine px_psh (x := fun n => .ptr n 2 0 0) rfl rfl (zaa rfl) (fun σ => zbr rfl ti51 rfl rfl) (fun m h => .ptr _ _ _) (fun q c hc => by simp at hc; subst hc; exact .agg _ (by intro c hc; simp [AV.cells] at hc; subst hc; exact .s _)) rfl ?_
  refine px_nil (by kernel_rfl) ?_
  refine zar ?_
  refine zb0 rfl (zaa rfl) (zbd rfl ti51 rfl rfl rfl rfl rfl rfl (by decide) (by decide)) ?_
  refine zan ?_
  repeat (first | refine zag ?_ | refine zar ?_ | refine zad ?_ | refine zas ?_ | refine zac ?_)
  refine zch hmix ?_
  refine adraw_lastT rfl (by kernel_rfl) ?_
  simp only [List.dropLast]
  refine adraw_px rfl ?_
  refine px_lo rfl rfl (zaa rfl) (fun _ => zai rfl tf51_0 (by decide) rfl) (by repeat' (first | exact Lo.s _ | exact zaj | refine zae ?_ ?_ | refine zak ?_ | refine Lo.cells ?_ | refine Lo.agg _ ?_ | refine Lo.ref _ ?_ | refine Lo.tup _ ?_ | refine Lo.fn _ _ ?_ | refine Lo.sl _ ?_ | intro _)) ?_
  refine px_lo rfl rfl (zaa rfl) (fun _ => zam rfl ta22 rfl) (by repeat' (first | exact Lo.s _ | exact zaj | refine zae ?_ ?_ | refine zak ?_ | refine Lo.cells ?_ | refine Lo.agg _ ?_ | refine Lo.ref _ ?_ | refine Lo.tup _ ?_ | refine Lo.fn _ _ ?_ | refine Lo.sl _ ?_ | intro _)) ?_
  refine px_psh (x := fun n => .own n 1 lo.length) rfl rfl (zaa rfl) (fun σ => does_callE rfl rfl (cloneI_call lo (by omega) (by omega) σ) rfl) (fun m h => .own _ _) nm_row rfl ?_
  refine px_lo rfl rfl (zaa rfl) (fun _ => zai rfl tf51_1 (by decide) rfl) (by repeat' (first | exact Lo.s _ | exact zaj | refine zae ?_ ?_ | refine zak ?_ | refine Lo.cells ?_ | refine Lo.agg _ ?_ | refine Lo.ref _ ?_ | refine Lo.tup _ ?_ | refine Lo.fn _ _ ?_ | refine Lo.sl _ ?_ | intro _)) ?_
  refine px_lo rfl rfl (zaa rfl) (fun _ => zam rfl ta22 rfl) (by repeat' (first | exact Lo.s _ | exact zaj | refine zae ?_ ?_ | refine zak ?_ | refine Lo.cells ?_ | refine Lo.agg _ ?_ | refine Lo.ref _ ?_ | refine Lo.tup _ ?_ | refine Lo.fn _ _ ?_ | refine Lo.sl _ ?_ | intro _)) ?_
  refine px_psh (x := fun n => .own n 1 hi.length) rfl rfl (zaa rfl) (fun σ => does_callE rfl rfl (cloneI_call hi (by omega) (by omega) σ) rfl) (fun m h => .own _ _) nm_row rfl ?_
  refine px_nm rfl rfl (zaa rfl) (fun _ => zb7 rfl ti51 tp51 rfl rfl) ?_
  refine px_psh (x := fun n => .ptr n 2 0 0) rfl rfl (zaa rfl) (fun σ => zbr rfl ti51 rfl rfl) (fun m h => .ptr _ _ _) (fun q c hc => by simp at hc; subst hc; exact .agg _ (by intro c hc; simp [AV.cells] at hc; subst hc; exact .s _)) rfl ?_
  refine px_nil (by kernel_rfl) ?_
  refine zar ?_
  refine zb0 rfl (zaa rfl) (zbd rfl ti51 rfl rfl rfl rfl rfl rfl (by decide) (by decide)) ?_
  refine zan ?_
  repeat (first | refine zag ?_ | refine zar ?_ | refine zad ?_ | refine zas ?_ | refine zac ?_)
  have e1 : eL eI (setI hi k t) = .sl ((hi.map eI).set k (eI t)) := by rw [map_set]; rfl
  have e2 : eL eI (setI lo k (t + 1)) = .sl ((lo.map eI).set k (eI (t + 1))) := by rw [map_set]; rfl
  have g1 : (hi.map eI)[k]? = some (eI (gti hi k)) := zb5 (by omega)
  have g2 : (lo.map eI)[k]? = some (eI (gti lo k)) := zb5 (by omega)
  all_goals refine zch hmix ?_
  all_goals refine zda ?_
  all_goals (first | refine zao rfl rfl (zaa rfl) (fun _ => (zal rfl tf51_1 (by decide) rfl)) ?_ | refine zao rfl rfl (zaa rfl) (fun _ => (zai rfl tf51_1 (by decide) rfl)) ?_)
  all_goals (first | refine zao rfl rfl (zaa rfl) (fun _ => (zam rfl ta22 rfl)) ?_ | refine zbz rfl rfl (zaa rfl) (zc9 rfl ta22 rfl rfl rfl rfl rfl) ?_)
  all_goals refine zao rfl rfl (zaa rfl) (fun _ => (mv_s (.inl rfl) rfl)) ?_
  all_goals (first | refine zao rfl rfl (zaa rfl) (fun _ => (zal rfl tf51_0 (by decide) rfl)) ?_ | refine zao rfl rfl (zaa rfl) (fun _ => (zai rfl tf51_0 (by decide) rfl)) ?_)
  all_goals (first | refine zao rfl rfl (zaa rfl) (fun _ => (zam rfl ta22 rfl)) ?_ | refine zbz rfl rfl (zaa rfl) (zc9 rfl ta22 rfl rfl rfl rfl rfl) ?_)
  all_goals refine zao rfl rfl (zaa rfl) (fun _ => (mv_s (.inl rfl) rfl)) ?_
  all_goals refine zao rfl rfl (zaa rfl) (fun _ => (mv_s (.inl rfl) rfl)) ?_
  all_goals refine zao rfl rfl (zaa rfl) (fun _ => (mv_s (.inl rfl) rfl)) ?_
  all_goals refine zao rfl rfl (zaa rfl) (fun _ => (zb2 rfl rfl rfl (IntWalk.i64_in _ (by omega)))) ?_
  all_goals (first | refine zao rfl rfl (zaa rfl) (fun _ => (za1 rfl ts22 ti3 rfl rfl rfl (by omega) rfl)) ?_ | refine zao rfl rfl (zaa rfl) (fun _ => (zay rfl ts22 ti3 rfl rfl rfl (by omega))) ?_)
  all_goals refine ex_eff0 rfl (zaa rfl) (zbd rfl ti3 rfl rfl rfl g1 rfl rfl (by decide) (by decide)) (fun _ h => zcq h) ?_
  all_goals (first | refine zao rfl rfl (zaa rfl) (fun _ => (za1 rfl ts22 ti3 rfl rfl rfl h1 rfl)) ?_ | refine zao rfl rfl (zaa rfl) (fun _ => (zay rfl ts22 ti3 rfl rfl rfl h1)) ?_)
  all_goals refine ex_eff0 rfl (zaa rfl) (zbd rfl ti3 rfl rfl rfl g2 rfl rfl (by decide) (by decide)) (fun _ h => zcq h) ?_
  all_goals refine ex_nil (by kernel_rfl) ?_
  all_goals (repeat (first | refine zag ?_ | refine zar ?_ | refine zad ?_ | refine zas ?_ | refine zac ?_))
  all_goals refine zch hmix ?_
  all_goals refine zda ?_
  all_goals (first | refine zao rfl rfl (zaa rfl) (fun _ => (za0 rfl ta51 ti51 rfl rfl)) ?_ | refine zbz rfl rfl (zaa rfl) (zce rfl ta51 ti51 rfl rfl rfl rfl rfl) ?_ | refine zao rfl rfl (zaa rfl) (fun _ => (zaz rfl ta51 ti51 rfl (Nat.le_of_ble_eq_true rfl))) ?_ | refine zbz rfl rfl (zaa rfl) (zcn rfl ta51 ti51 rfl rfl rfl rfl (Nat.le_of_ble_eq_true rfl)) ?_)
  all_goals (first | refine zao rfl rfl (zaa rfl) (fun _ => (za0 rfl ta51 ti51 rfl rfl)) ?_ | refine zbz rfl rfl (zaa rfl) (zce rfl ta51 ti51 rfl rfl rfl rfl rfl) ?_ | refine zao rfl rfl (zaa rfl) (fun _ => (zaz rfl ta51 ti51 rfl (Nat.le_of_ble_eq_true rfl))) ?_ | refine zbz rfl rfl (zaa rfl) (zcn rfl ta51 ti51 rfl rfl rfl rfl (Nat.le_of_ble_eq_true rfl)) ?_)
  all_goals refine ex_eff0 rfl (zaa rfl) (zbd rfl ti51 rfl rfl rfl rfl rfl rfl (by decide) (by decide)) (fun _ h => zcq h) ?_
  all_goals refine ex_eff0 rfl (zaa rfl) (zbd rfl ti51 rfl rfl rfl rfl rfl rfl (by decide) (by decide)) (fun _ h => zcq h) ?_
  all_goals refine ex_nil (by kernel_rfl) ?_
  all_goals (repeat (first | refine zag ?_ | refine zar ?_ | refine zad ?_ | refine zas ?_ | refine zac ?_))
  (refine zbs ?_; repeat (first | refine zb8 ?_ | refine zb9 ?_))
  refine post_cc (N := 0) (.inr rfl) ta51 ti51 rfl rfl rfl rfl rfl ta51 ti51 rfl rfl rfl rfl rfl ?_ ?_
  · exact .agg _ _ rfl (zdm.cons (.own _ _ _ _ _ rfl rfl (by simp)) (zdm.cons (by rw [e1]; exact .own _ _ _ _ _ rfl rfl (by simp)) zdm.nil)).2
  · exact .agg _ _ rfl (zdm.cons (by rw [e2]; exact .own _ _ _ _ _ rfl rfl (by simp)) (zdm.cons (.own _ _ _ _ _ rfl rfl (by simp)) zdm.nil)).2
end Go.Proofs.YtmoipmnhgdmkpaaGreat.Aw
end
section
namespace Go.Proofs.YtmoipmnhgdmkpaaGreat.Aw
set_option linter.unusedSimpArgs false
set_option linter.unusedVariables false
open Go.RowKit Go.Proofs
variable {P : Program} [IsP P]

theorem fvalid1_pf (a : Fr) : Pure P 79 [eF a] (eB (!a.okB)) := by
  refine zc4 (by rw [IsP.eq (P := P)]; exact Tryz.func79) rfl rfl rfl rfl rfl (by repeat' (first | exact Lo.s _ | exact zaj | refine zae ?_ ?_ | refine zak ?_ | refine Lo.cells ?_ | refine Lo.agg _ ?_ | refine Lo.ref _ ?_ | refine Lo.tup _ ?_ | refine Lo.fn _ _ ?_ | refine Lo.sl _ ?_ | intro _)) (by repeat' (first | exact Lo.s _ | exact zaj | refine zae ?_ ?_ | refine zak ?_ | refine Lo.cells ?_ | refine Lo.agg _ ?_ | refine Lo.ref _ ?_ | refine Lo.tup _ ?_ | refine Lo.fn _ _ ?_ | refine Lo.sl _ ?_ | intro _)) (by simp only [argF]; rfl) ?_
  repeat (first | refine zag ?_ | refine zar ?_ | refine zad ?_ | refine zas ?_ | refine zac ?_)
  refine zaf ?_
  refine zab rfl rfl (zaa rfl) (zcv rfl rfl rfl rfl) ?_
  refine zbq (zcd (id := 0) rfl) (zbq (zcy (d := 1) rfl rfl rfl) ?_)
  refine zab rfl rfl (zaa rfl) (mv_s (.inr rfl) rfl) ?_
  refine zan ?_
  repeat (first | refine zag ?_ | refine zar ?_ | refine zad ?_ | refine zas ?_ | refine zac ?_)
  refine zaf ?_
  first | refine zab rfl rfl (zaa rfl) (za0 rfl ta41 ti41 rfl rfl) ?_ | refine zab rfl rfl (zaa rfl) (za9 rfl ta41 ti41 rfl rfl rfl rfl rfl) ?_ | refine zab rfl rfl (zaa rfl) (zaz rfl ta41 ti41 rfl (Nat.le_of_ble_eq_true rfl)) ?_ | refine zab rfl rfl (zaa rfl) (zba rfl ta41 ti41 rfl rfl rfl rfl (Nat.le_of_ble_eq_true rfl)) ?_
  refine zab rfl rfl (zaa rfl) (za5 rfl rfl (fValid_pf _) (zau rfl zbj)) ?_
  first | refine zab rfl rfl (zaa rfl) (zcf rfl rfl) ?_ | refine zab rfl rfl (zaa rfl) (zcj rfl rfl) ?_
  refine zab rfl rfl (zaa rfl) (mv_s (.inr rfl) rfl) ?_
  refine zan ?_
  repeat (first | refine zag ?_ | refine zar ?_ | refine zad ?_ | refine zas ?_ | refine zac ?_)
  (refine zbs ?_; repeat (first | refine zb8 ?_ | refine zb9 ?_))
  exact zcm (.inr rfl) rfl (congrArg eB (by simp [Fr.okB]))
theorem fvalid_pf (l : List Fr) : Pure P 63 [eL eF l] (eB (l.all Fr.okB)) := by
  have hc := containsFF_pf (P := P) 79 [] (fun a => !a.okB) l lo_F (.fn _ _ (by simp)) (fun a _ => fvalid1_pf a)
  refine zc4 (by rw [IsP.eq (P := P)]; exact Tryz.func63) rfl rfl rfl rfl rfl (by repeat' (first | exact Lo.s _ | exact zaj | refine zae ?_ ?_ | refine zak ?_ | refine Lo.cells ?_ | refine Lo.agg _ ?_ | refine Lo.ref _ ?_ | refine Lo.tup _ ?_ | refine Lo.fn _ _ ?_ | refine Lo.sl _ ?_ | intro _)) (by repeat' (first | exact Lo.s _ | exact zaj | refine zae ?_ ?_ | refine zak ?_ | refine Lo.cells ?_ | refine Lo.agg _ ?_ | refine Lo.ref _ ?_ | refine Lo.tup _ ?_ | refine Lo.fn _ _ ?_ | refine Lo.sl _ ?_ | intro _)) (by simp only [argF]; rfl) ?_
  repeat (first | refine zag ?_ | refine zar ?_ | refine zad ?_ | refine zas ?_ | refine zac ?_)
  refine zaf ?_
  refine zab rfl rfl (zaa rfl) (mv_s (.inr rfl) rfl) ?_
  refine zan ?_
  repeat (first | refine zag ?_ | refine zar ?_ | refine zad ?_ | refine zas ?_ | refine zac ?_)
  refine zaf ?_
  first | refine zab rfl rfl (zaa rfl) (za6 (.inl rfl) rfl) ?_ | refine zab rfl rfl (zaa rfl) (zbg (.inl rfl) rfl) ?_ | refine zab rfl rfl (zaa rfl) (mv_s (.inl rfl) rfl) ?_ | refine zab rfl rfl (zaa rfl) (za7 (.inl rfl) rfl) ?_
  refine zab rfl rfl (zaa rfl) (za5 rfl rfl (by assumption) (zau rfl (zau rfl zbj))) ?_
  first | refine zab rfl rfl (zaa rfl) (zcf rfl rfl) ?_ | refine zab rfl rfl (zaa rfl) (zcj rfl rfl) ?_
  refine zab rfl rfl (zaa rfl) (mv_s (.inr rfl) rfl) ?_
  refine zan ?_
  repeat (first | refine zag ?_ | refine zar ?_ | refine zad ?_ | refine zas ?_ | refine zac ?_)
  (refine zbs ?_; repeat (first | refine zb8 ?_ | refine zb9 ?_))
  exact zcm (.inr rfl) rfl (congrArg eB (all_okB l).symm)
/-- the sum goes on -/
def dotG : Fr → List Fr → List Fr → FE
  | acc, a :: ta, b :: tb => if (mulE a b).e ≠ 0 then FE.err (mulE a b).e else if (addE acc ⟨(mulE a b).n, (mulE a b).d⟩).e ≠ 0 then FE.err (addE acc ⟨(mulE a b).n, (mulE a b).d⟩).e else dotG ⟨(addE acc ⟨(mulE a b).n, (mulE a b).d⟩).n, (addE acc ⟨(mulE a b).n, (mulE a b).d⟩).d⟩ ta tb
  | acc, _, _ => ⟨acc.n, acc.d, 0⟩
def dotE (a b : List Fr) : FE := if ¬ (a.all Fr.okB = true ∧ b.all Fr.okB = true) then FE.err 1 else if 1000 < a.length ∨ 1000 < b.length then FE.err 5 else if a.length ≠ b.length then FE.err 29 else dotG (Fr.of 0) a b
theorem dotG_step {acc : Fr} {a b : List Fr} {k : Nat} (h1 : k < a.length) (h2 : k < b.length) : dotG acc (a.drop k) (b.drop k) = if (mulE (gti a k) (gti b k)).e ≠ 0 then FE.err (mulE (gti a k) (gti b k)).e else if (addE acc ⟨(mulE (gti a k) (gti b k)).n, (mulE (gti a k) (gti b k)).d⟩).e ≠ 0 then FE.err (addE acc ⟨(mulE (gti a k) (gti b k)).n, (mulE (gti a k) (gti b k)).d⟩).e else dotG ⟨(addE acc ⟨(mulE (gti a k) (gti b k)).n, (mulE (gti a k) (gti b k)).d⟩).n, (addE acc ⟨(mulE (gti a k) (gti b k)).n, (mulE (gti a k) (gti b k)).d⟩).d⟩ (a.drop (k + 1)) (b.drop (k + 1)) := by
  have e1 : a.drop k = gti a k :: a.drop (k + 1) := by
    rw [List.drop_eq_getElem_cons h1]
    have := zdj h1
    rw [List.getElem?_eq_getElem h1] at this
    rw [Option.some.inj this]
  have e2 : b.drop k = gti b k :: b.drop (k + 1) := by
    rw [List.drop_eq_getElem_cons h2]
    have := zdj h2
    rw [List.getElem?_eq_getElem h2] at this
    rw [Option.some.inj this]
  rw [e1, e2, dotG]
theorem dotG_end {acc : Fr} {a b : List Fr} {k : Nat} (h : k = a.length) : dotG acc (a.drop k) (b.drop k) = ⟨acc.n, acc.d, 0⟩ := by
  subst h
  rw [List.drop_length, dotG]
  intro a ta b tb h; cases h
theorem dotE_arg {a b : List Fr} (h : ¬ (a.all Fr.okB = true ∧ b.all Fr.okB = true)) : dotE a b = ⟨0, 0, 1⟩ := if_pos h
theorem dotE_full {a b : List Fr} (h1 : a.all Fr.okB = true) (h2 : b.all Fr.okB = true) (h : 1000 < a.length ∨ 1000 < b.length) : dotE a b = ⟨0, 0, 5⟩ := by unfold dotE; rw [if_neg (fun h => h ⟨h1, h2⟩), if_pos h]; rfl
theorem dotE_size {a b : List Fr} (h1 : a.all Fr.okB = true) (h2 : b.all Fr.okB = true) (h3 : ¬ (1000 < a.length ∨ 1000 < b.length)) (h : a.length ≠ b.length) : dotE a b = ⟨0, 0, 29⟩ := by unfold dotE; rw [if_neg (fun h => h ⟨h1, h2⟩), if_neg h3, if_pos h]; rfl
theorem dotE_go {a b : List Fr} (h1 : a.all Fr.okB = true) (h2 : b.all Fr.okB = true) (h3 : ¬ (1000 < a.length ∨ 1000 < b.length)) (h : a.length = b.length) : dotE a b = dotG (Fr.of 0) (a.drop 0) (b.drop 0) := by unfold dotE; rw [if_neg (fun h => h ⟨h1, h2⟩), if_neg h3, if_neg (fun h' => h' h)]; rfl
set_option maxHeartbeats 1000000 in
theorem rDot_pf (a b : List Fr) : Pure P 50 [eL eF a, eL eF b] (eFE (dotE a b)) := by
  refine zc4 (by rw [IsP.eq (P := P)]; exact Tryz.func50) rfl rfl rfl rfl rfl (by repeat' (first | exact Lo.s _ | exact zaj | refine zae ?_ ?_ | refine zak ?_ | refine Lo.cells ?_ | refine Lo.agg _ ?_ | refine Lo.ref _ ?_ | refine Lo.tup _ ?_ | refine Lo.fn _ _ ?_ | refine Lo.sl _ ?_ | intro _)) (by repeat' (first | exact Lo.s _ | exact zaj | refine zae ?_ ?_ | refine zak ?_ | refine Lo.cells ?_ | refine Lo.agg _ ?_ | refine Lo.ref _ ?_ | refine Lo.tup _ ?_ | refine Lo.fn _ _ ?_ | refine Lo.sl _ ?_ | intro _)) (by simp only [argF]; rfl) ?_
  repeat (first | refine zag ?_ | refine zar ?_ | refine zad ?_ | refine zas ?_ | refine zac ?_)
  refine zc5 (d := 0) rfl (fun hm1 => ?_)
  refine zc5 (d := 1) rfl (fun hm2 => ?_)
  unfold maxLen at hm1 hm2
  refine zaf ?_
  refine zab rfl rfl (zaa rfl) (zbr rfl ti41 rfl rfl) ?_
  refine zab rfl rfl (zaa rfl) (mv_s (.inr rfl) rfl) ?_
  refine zan ?_
  repeat (first | refine zag ?_ | refine zar ?_ | refine zad ?_ | refine zas ?_ | refine zac ?_)
  all_goals refine zaf ?_
  all_goals (first | refine zab rfl rfl (zaa rfl) (za6 (.inl rfl) rfl) ?_ | refine zab rfl rfl (zaa rfl) (zbg (.inl rfl) rfl) ?_ | refine zab rfl rfl (zaa rfl) (mv_s (.inl rfl) rfl) ?_ | refine zab rfl rfl (zaa rfl) (za7 (.inl rfl) rfl) ?_)
  all_goals (first | refine zbh rfl rfl (zaa rfl) (za5 rfl rfl (rValidAll_pf _) (zau rfl zbj)) (fun h11 => ?_) (fun h11 => ?_) | refine zbi rfl rfl (zaa rfl) (za5 rfl rfl (rValidAll_pf _) (zau rfl zbj)) (fun h11 => ?_) (fun h11 => ?_))
  all_goals (first | refine zab rfl rfl (zaa rfl) (zcf rfl rfl) ?_ | refine zab rfl rfl (zaa rfl) (zcj rfl rfl) ?_)
  all_goals refine zab rfl rfl (zaa rfl) (mv_s (.inl rfl) rfl) ?_
  all_goals (first | refine zab rfl rfl (zah rfl rfl rfl) (za6 (.inl rfl) rfl) ?_ | refine zab rfl rfl (zah rfl rfl rfl) (zbg (.inl rfl) rfl) ?_ | refine zab rfl rfl (zah rfl rfl rfl) (mv_s (.inl rfl) rfl) ?_ | refine zab rfl rfl (zah rfl rfl rfl) (za7 (.inl rfl) rfl) ?_ | refine zaq rfl rfl (zax rfl rfl rfl) ?_ | refine zaq rfl rfl (zav rfl rfl rfl) ?_)
  all_goals (first | refine zbh rfl rfl (zah rfl rfl rfl) (za5 rfl rfl (rValidAll_pf _) (zau rfl zbj)) (fun h15 => ?_) (fun h15 => ?_) | refine zbi rfl rfl (zah rfl rfl rfl) (za5 rfl rfl (rValidAll_pf _) (zau rfl zbj)) (fun h15 => ?_) (fun h15 => ?_) | refine zaq rfl rfl (zax rfl rfl rfl) ?_ | refine zaq rfl rfl (zav rfl rfl rfl) ?_)
  all_goals (first | refine zab rfl rfl (zah rfl rfl rfl) (zcf rfl rfl) ?_ | refine zab rfl rfl (zah rfl rfl rfl) (zcj rfl rfl) ?_ | refine zaq rfl rfl (zax rfl rfl rfl) ?_ | refine zaq rfl rfl (zav rfl rfl rfl) ?_)
  all_goals (first | refine zab rfl rfl (zaa rfl) (zbx rfl rfl rfl) ?_ | refine zab rfl rfl (zaa rfl) (zby rfl rfl rfl) ?_ | refine zab rfl rfl (zaa rfl) (zbk rfl rfl rfl) ?_ | refine zab rfl rfl (zaa rfl) (zbl rfl rfl rfl) ?_)
  all_goals refine zan ?_
  all_goals (repeat (first | refine zag ?_ | refine zar ?_ | refine zad ?_ | refine zas ?_ | refine zac ?_))
  all_goals (first | refine zbp rfl ?_ | refine zbm rfl ?_)
  all_goals (repeat (first | refine zag ?_ | refine zar ?_ | refine zad ?_ | refine zas ?_ | refine zac ?_))
  · skip
    all_goals refine zaf ?_
    all_goals (first | refine zab rfl rfl (zaa rfl) (za6 (.inl rfl) rfl) ?_ | refine zab rfl rfl (zaa rfl) (zbg (.inl rfl) rfl) ?_ | refine zab rfl rfl (zaa rfl) (mv_s (.inl rfl) rfl) ?_ | refine zab rfl rfl (zaa rfl) (za7 (.inl rfl) rfl) ?_)
    all_goals (first | refine zab rfl rfl (zaa rfl) (za4 rfl ts27 rfl) ?_ | refine zab rfl rfl (zaa rfl) (za8 rfl ts27 rfl) ?_ | refine zab rfl rfl (zaa rfl) (za2 rfl ts27 rfl) ?_ | refine zab rfl rfl (zaa rfl) (zbc rfl ts27 rfl) ?_ | refine zab rfl rfl (zaa rfl) (za3 rfl ts27 rfl) ?_)
    all_goals (first | refine zbh rfl rfl (zaa rfl) (zbw rfl rfl rfl) (fun h21 => ?_) (fun h21 => ?_) | refine zbi rfl rfl (zaa rfl) (zbw rfl rfl rfl) (fun h21 => ?_) (fun h21 => ?_))
    all_goals refine zab rfl rfl (zaa rfl) (mv_s (.inl rfl) rfl) ?_
    all_goals (first | refine zab rfl rfl (zah rfl rfl rfl) (za6 (.inl rfl) rfl) ?_ | refine zab rfl rfl (zah rfl rfl rfl) (zbg (.inl rfl) rfl) ?_ | refine zab rfl rfl (zah rfl rfl rfl) (mv_s (.inl rfl) rfl) ?_ | refine zab rfl rfl (zah rfl rfl rfl) (za7 (.inl rfl) rfl) ?_ | refine zaq rfl rfl (zax rfl rfl rfl) ?_ | refine zaq rfl rfl (zav rfl rfl rfl) ?_)
    all_goals (first | refine zab rfl rfl (zah rfl rfl rfl) (za4 rfl ts27 rfl) ?_ | refine zab rfl rfl (zah rfl rfl rfl) (za8 rfl ts27 rfl) ?_ | refine zab rfl rfl (zah rfl rfl rfl) (za2 rfl ts27 rfl) ?_ | refine zab rfl rfl (zah rfl rfl rfl) (zbc rfl ts27 rfl) ?_ | refine zab rfl rfl (zah rfl rfl rfl) (za3 rfl ts27 rfl) ?_ | refine zaq rfl rfl (zax rfl rfl rfl) ?_ | refine zaq rfl rfl (zav rfl rfl rfl) ?_)
    all_goals (first | refine zbh rfl rfl (zah rfl rfl rfl) (zbw rfl rfl rfl) (fun h25 => ?_) (fun h25 => ?_) | refine zbi rfl rfl (zah rfl rfl rfl) (zbw rfl rfl rfl) (fun h25 => ?_) (fun h25 => ?_) | refine zaq rfl rfl (zax rfl rfl rfl) ?_ | refine zaq rfl rfl (zav rfl rfl rfl) ?_)
    all_goals (first | refine zab rfl rfl (zaa rfl) (zbx rfl rfl rfl) ?_ | refine zab rfl rfl (zaa rfl) (zby rfl rfl rfl) ?_ | refine zab rfl rfl (zaa rfl) (zbk rfl rfl rfl) ?_ | refine zab rfl rfl (zaa rfl) (zbl rfl rfl rfl) ?_)
    all_goals refine zan ?_
    all_goals (repeat (first | refine zag ?_ | refine zar ?_ | refine zad ?_ | refine zas ?_ | refine zac ?_))
    all_goals (first | refine zbp rfl ?_ | refine zbm rfl ?_)
    all_goals (repeat (first | refine zag ?_ | refine zar ?_ | refine zad ?_ | refine zas ?_ | refine zac ?_))
    rotate_left 2
    · have h3 : ¬ (1000 < a.length ∨ 1000 < b.length) := by omega
      all_goals refine zaf ?_
      all_goals (first | refine zab rfl rfl (zaa rfl) (za6 (.inl rfl) rfl) ?_ | refine zab rfl rfl (zaa rfl) (zbg (.inl rfl) rfl) ?_ | refine zab rfl rfl (zaa rfl) (mv_s (.inl rfl) rfl) ?_ | refine zab rfl rfl (zaa rfl) (za7 (.inl rfl) rfl) ?_)
      all_goals (first | refine zab rfl rfl (zaa rfl) (za4 rfl ts27 rfl) ?_ | refine zab rfl rfl (zaa rfl) (za8 rfl ts27 rfl) ?_ | refine zab rfl rfl (zaa rfl) (za2 rfl ts27 rfl) ?_ | refine zab rfl rfl (zaa rfl) (zbc rfl ts27 rfl) ?_ | refine zab rfl rfl (zaa rfl) (za3 rfl ts27 rfl) ?_)
      all_goals (first | refine zab rfl rfl (zaa rfl) (za6 (.inl rfl) rfl) ?_ | refine zab rfl rfl (zaa rfl) (zbg (.inl rfl) rfl) ?_ | refine zab rfl rfl (zaa rfl) (mv_s (.inl rfl) rfl) ?_ | refine zab rfl rfl (zaa rfl) (za7 (.inl rfl) rfl) ?_)
      all_goals (first | refine zab rfl rfl (zaa rfl) (za4 rfl ts27 rfl) ?_ | refine zab rfl rfl (zaa rfl) (za8 rfl ts27 rfl) ?_ | refine zab rfl rfl (zaa rfl) (za2 rfl ts27 rfl) ?_ | refine zab rfl rfl (zaa rfl) (zbc rfl ts27 rfl) ?_ | refine zab rfl rfl (zaa rfl) (za3 rfl ts27 rfl) ?_)
      all_goals (first | refine zbh rfl rfl (zaa rfl) (zbv rfl rfl rfl) (fun h32 => ?_) (fun h32 => ?_) | refine zbi rfl rfl (zaa rfl) (zbv rfl rfl rfl) (fun h32 => ?_) (fun h32 => ?_))
      all_goals refine zan ?_
      all_goals (repeat (first | refine zag ?_ | refine zar ?_ | refine zad ?_ | refine zas ?_ | refine zac ?_))
      all_goals (first | refine zbp rfl ?_ | refine zbm rfl ?_)
      all_goals (repeat (first | refine zag ?_ | refine zar ?_ | refine zad ?_ | refine zas ?_ | refine zac ?_))
      · skip
        refine zaf ?_
        refine zab rfl rfl (zaa rfl) (zb7 rfl ti41 tp41 rfl rfl) ?_
        refine zb0 rfl (zaa rfl) (zbd rfl ti41 rfl rfl rfl rfl rfl rfl (by decide) (by decide)) ?_
        refine zab rfl rfl (zaa rfl) (mv_s (.inr rfl) rfl) ?_
        refine zan ?_
        repeat (first | refine zag ?_ | refine zar ?_ | refine zad ?_ | refine zas ?_ | refine zac ?_)
        (refine zbs ?_; repeat (first | refine zb8 ?_ | refine zb9 ?_))
        exact zc6 (.inr rfl) ta41 ti41 rfl rfl rfl rfl rfl rfl (by rw [dotE_size h11 h15 h3 (by omega)]; rfl)
      · have hl : a.length = b.length := by omega
        have HI := dotE_go h11 h15 h3 hl
        refine zaf ?_
        refine zab rfl rfl (zaa rfl) (za5 rfl rfl (rOf_pf _) (zau rfl zbj)) ?_
        refine zab rfl rfl (zaa rfl) (zbr rfl ti41 rfl rfl) ?_
        refine zb0 rfl (zaa rfl) (zbd rfl ti41 rfl rfl rfl rfl rfl rfl (by decide) (by decide)) ?_
        refine zan ?_
        repeat (first | refine zag ?_ | refine zar ?_ | refine zad ?_ | refine zas ?_ | refine zac ?_)
        refine zaf ?_
        refine zab rfl rfl (zaa rfl) (mv_s (.inr rfl) rfl) ?_
        refine zan ?_
        repeat (first | refine zag ?_ | refine zar ?_ | refine zad ?_ | refine zas ?_ | refine zac ?_)
        refine zcc (S := Fr × Nat) (fun s => [(0, eL eF a), (1, eL eF b), (4, .ptr 0 2 0 0), (6, .ptr 1 2 0 0), (7, eI s.2)]) (fun s => [.row 2 [.agg [eI 0, eI 0]], .row 2 [eF s.1]]) (fun s => s.2 ≤ a.length ∧ dotE a b = dotG s.1 (a.drop s.2) (b.drop s.2)) (fun s => a.length - s.2) (Fr.of 0, 0) (zck [0, 1] (by decide) ⟨⟨_, rfl, .rowE (by repeat' (first | exact Lo.s _ | exact zaj | exact zbn | refine zae ?_ ?_ | refine zbe ?_ ?_ | refine zak ?_ | refine zbo ?_ | refine Lo.cells ?_ | refine Lo.agg _ ?_ | refine Lo.sl _ ?_ | intro _)) rfl⟩, ⟨_, rfl, .rowE (by repeat' (first | exact Lo.s _ | exact zaj | exact zbn | refine zae ?_ ?_ | refine zbe ?_ ?_ | refine zak ?_ | refine zbo ?_ | refine Lo.cells ?_ | refine Lo.agg _ ?_ | refine Lo.sl _ ?_ | intro _)) rfl⟩, trivial⟩ ⟨.lo _ (by repeat' (first | exact Lo.s _ | exact zaj | refine zae ?_ ?_ | refine zak ?_ | refine Lo.cells ?_ | refine Lo.agg _ ?_ | refine Lo.ref _ ?_ | refine Lo.tup _ ?_ | refine Lo.fn _ _ ?_ | refine Lo.sl _ ?_ | intro _)), .lo _ (by repeat' (first | exact Lo.s _ | exact zaj | refine zae ?_ ?_ | refine zak ?_ | refine Lo.cells ?_ | refine Lo.agg _ ?_ | refine Lo.ref _ ?_ | refine Lo.tup _ ?_ | refine Lo.fn _ _ ?_ | refine Lo.sl _ ?_ | intro _)), .ptr 0 0 2 0 0 rfl, .ptr 1 1 2 0 0 rfl, .lo _ (by repeat' (first | exact Lo.s _ | exact zaj | refine zae ?_ ?_ | refine zak ?_ | refine Lo.cells ?_ | refine Lo.agg _ ?_ | refine Lo.ref _ ?_ | refine Lo.tup _ ?_ | refine Lo.fn _ _ ?_ | refine Lo.sl _ ?_ | intro _)), trivial⟩) ⟨Nat.zero_le _, HI⟩ (fun s hk => ?_)
        obtain ⟨acc, k⟩ := s
        obtain ⟨hk, HI⟩ := hk
        dsimp only at hk HI ⊢
        repeat (first | refine zag ?_ | refine zar ?_ | refine zad ?_ | refine zas ?_ | refine zac ?_)
        all_goals refine zaf ?_
        all_goals refine zab rfl rfl (zaa rfl) (mv_s (.inl rfl) rfl) ?_
        all_goals (first | refine zab rfl rfl (zaa rfl) (za6 (.inl rfl) rfl) ?_ | refine zab rfl rfl (zaa rfl) (zbg (.inl rfl) rfl) ?_ | refine zab rfl rfl (zaa rfl) (mv_s (.inl rfl) rfl) ?_ | refine zab rfl rfl (zaa rfl) (za7 (.inl rfl) rfl) ?_)
        all_goals (first | refine zab rfl rfl (zaa rfl) (za4 rfl ts27 rfl) ?_ | refine zab rfl rfl (zaa rfl) (za8 rfl ts27 rfl) ?_ | refine zab rfl rfl (zaa rfl) (za2 rfl ts27 rfl) ?_ | refine zab rfl rfl (zaa rfl) (zbc rfl ts27 rfl) ?_ | refine zab rfl rfl (zaa rfl) (za3 rfl ts27 rfl) ?_)
        all_goals (first | refine zbh rfl rfl (zaa rfl) (zbb rfl rfl rfl) (fun h38 => ?_) (fun h38 => ?_) | refine zbi rfl rfl (zaa rfl) (zbb rfl rfl rfl) (fun h38 => ?_) (fun h38 => ?_))
        all_goals refine zan ?_
        all_goals (repeat (first | refine zag ?_ | refine zar ?_ | refine zad ?_ | refine zas ?_ | refine zac ?_))
        all_goals (first | refine zbp rfl ?_ | refine zbm rfl ?_)
        all_goals (repeat (first | refine zag ?_ | refine zar ?_ | refine zad ?_ | refine zas ?_ | refine zac ?_))
        · have h1 : k < a.length := by omega
          have h2 : k < b.length := by omega
          rw [dotG_step h1 h2] at HI
          generalize hx : mulE (gti a k) (gti b k) = x at HI
          have hmul := rMul_pf (P := P) (gti a k) (gti b k)
          rw [hx] at hmul
          all_goals refine zch hmix ?_
          all_goals refine zda ?_
          all_goals (first | refine zao rfl rfl (zaa rfl) (fun _ => (za6 (.inl rfl) rfl)) ?_ | refine zao rfl rfl (zaa rfl) (fun _ => (zbg (.inl rfl) rfl)) ?_ | refine zao rfl rfl (zaa rfl) (fun _ => (mv_s (.inl rfl) rfl)) ?_ | refine zao rfl rfl (zaa rfl) (fun _ => (za7 (.inl rfl) rfl)) ?_)
          all_goals refine zao rfl rfl (zaa rfl) (fun _ => (mv_s (.inl rfl) rfl)) ?_
          all_goals (first | refine zao rfl rfl (zaa rfl) (fun _ => (za1 rfl ts27 ti41 rfl rfl rfl (zb5 (by omega)) rfl)) ?_ | refine zao rfl rfl (zaa rfl) (fun _ => (zay rfl ts27 ti41 rfl rfl rfl (by omega))) ?_)
          all_goals (first | refine zao rfl rfl (zaa rfl) (fun _ => (za0 rfl ta41 ti41 rfl rfl)) ?_ | refine zbz rfl rfl (zaa rfl) (zce rfl ta41 ti41 rfl rfl rfl rfl rfl) ?_ | refine zao rfl rfl (zaa rfl) (fun _ => (zaz rfl ta41 ti41 rfl (Nat.le_of_ble_eq_true rfl))) ?_ | refine zbz rfl rfl (zaa rfl) (zcn rfl ta41 ti41 rfl rfl rfl rfl (Nat.le_of_ble_eq_true rfl)) ?_)
          all_goals (first | refine zao rfl rfl (zaa rfl) (fun _ => (za6 (.inl rfl) rfl)) ?_ | refine zao rfl rfl (zaa rfl) (fun _ => (zbg (.inl rfl) rfl)) ?_ | refine zao rfl rfl (zaa rfl) (fun _ => (mv_s (.inl rfl) rfl)) ?_ | refine zao rfl rfl (zaa rfl) (fun _ => (za7 (.inl rfl) rfl)) ?_)
          all_goals refine zao rfl rfl (zaa rfl) (fun _ => (mv_s (.inl rfl) rfl)) ?_
          all_goals (first | refine zao rfl rfl (zaa rfl) (fun _ => (za1 rfl ts27 ti41 rfl rfl rfl (zb5 (by omega)) rfl)) ?_ | refine zao rfl rfl (zaa rfl) (fun _ => (zay rfl ts27 ti41 rfl rfl rfl (by omega))) ?_)
          all_goals (first | refine zao rfl rfl (zaa rfl) (fun _ => (za0 rfl ta41 ti41 rfl rfl)) ?_ | refine zbz rfl rfl (zaa rfl) (zce rfl ta41 ti41 rfl rfl rfl rfl rfl) ?_ | refine zao rfl rfl (zaa rfl) (fun _ => (zaz rfl ta41 ti41 rfl (Nat.le_of_ble_eq_true rfl))) ?_ | refine zbz rfl rfl (zaa rfl) (zcn rfl ta41 ti41 rfl rfl rfl rfl (Nat.le_of_ble_eq_true rfl)) ?_)
          all_goals refine zao rfl rfl (zaa rfl) (fun _ => (za5 rfl rfl (hmul) (zau rfl (zau rfl zbj)))) ?_
          all_goals (first | refine zao rfl rfl (zaa rfl) (fun _ => (mv_tup (.inl rfl) rfl)) ?_ | refine zao rfl rfl (zaa rfl) (fun _ => (mv_s (.inl rfl) rfl)) ?_)
          all_goals refine zao rfl rfl (zaa rfl) (fun _ => (zbf rfl rfl rfl)) ?_
          all_goals refine zao rfl rfl (zaa rfl) (fun _ => (zbf rfl rfl rfl)) ?_
          all_goals refine ex_eff rfl rfl (zaa rfl) (zbr rfl ti41 rfl rfl) (fun _ h => zc7 h) ?_
          all_goals refine ex_eff0 rfl (zaa rfl) (zbd rfl ti41 rfl rfl rfl rfl rfl rfl (by decide) (by decide)) (fun _ h => zcq h) ?_
          all_goals refine zao rfl rfl (zaa rfl) (fun _ => (mv_s (.inr rfl) rfl)) ?_
          all_goals refine ex_nil (by kernel_rfl) ?_
          all_goals (repeat (first | refine zag ?_ | refine zar ?_ | refine zad ?_ | refine zas ?_ | refine zac ?_))
          all_goals refine zaf ?_
          all_goals refine zab rfl rfl (zaa rfl) (mv_s (.inl rfl) rfl) ?_
          all_goals (first | refine zbh rfl rfl (zaa rfl) (zcr rfl rfl rfl) (fun h54 => ?_) (fun h54 => ?_) | refine zbi rfl rfl (zaa rfl) (zcr rfl rfl rfl) (fun h54 => ?_) (fun h54 => ?_))
          all_goals refine zan ?_
          all_goals (repeat (first | refine zag ?_ | refine zar ?_ | refine zad ?_ | refine zas ?_ | refine zac ?_))
          all_goals (first | refine zbp rfl ?_ | refine zbm rfl ?_)
          all_goals (repeat (first | refine zag ?_ | refine zar ?_ | refine zad ?_ | refine zas ?_ | refine zac ?_))
          · rw [if_neg (by omega)] at HI
            generalize hy : addE acc ⟨x.n, x.d⟩ = y at HI
            have hadd := rAdd_pf (P := P) acc ⟨x.n, x.d⟩
            rw [hy] at hadd
            refine zaf ?_
            first | refine zab rfl rfl (zaa rfl) (za0 rfl ta41 ti41 rfl rfl) ?_ | refine zab rfl rfl (zaa rfl) (za9 rfl ta41 ti41 rfl rfl rfl rfl rfl) ?_ | refine zab rfl rfl (zaa rfl) (zaz rfl ta41 ti41 rfl (Nat.le_of_ble_eq_true rfl)) ?_ | refine zab rfl rfl (zaa rfl) (zba rfl ta41 ti41 rfl rfl rfl rfl (Nat.le_of_ble_eq_true rfl)) ?_
            first | refine zab rfl rfl (zaa rfl) (za0 rfl ta41 ti41 rfl rfl) ?_ | refine zab rfl rfl (zaa rfl) (za9 rfl ta41 ti41 rfl rfl rfl rfl rfl) ?_ | refine zab rfl rfl (zaa rfl) (zaz rfl ta41 ti41 rfl (Nat.le_of_ble_eq_true rfl)) ?_ | refine zab rfl rfl (zaa rfl) (zba rfl ta41 ti41 rfl rfl rfl rfl (Nat.le_of_ble_eq_true rfl)) ?_
            refine zab rfl rfl (zaa rfl) (za5 rfl rfl (hadd) (zau rfl (zau rfl zbj))) ?_
            first | refine zab rfl rfl (zaa rfl) (mv_tup (.inl rfl) rfl) ?_ | refine zab rfl rfl (zaa rfl) (mv_s (.inl rfl) rfl) ?_
            refine zab rfl rfl (zaa rfl) (zbf rfl rfl rfl) ?_
            refine zab rfl rfl (zaa rfl) (zbf rfl rfl rfl) ?_
            refine zb0 rfl (zaa rfl) (zbd rfl ti41 rfl rfl rfl rfl rfl rfl (by decide) (by decide)) ?_
            refine zab rfl rfl (zaa rfl) (mv_s (.inr rfl) rfl) ?_
            refine zan ?_
            repeat (first | refine zag ?_ | refine zar ?_ | refine zad ?_ | refine zas ?_ | refine zac ?_)
            all_goals refine zaf ?_
            all_goals refine zab rfl rfl (zaa rfl) (mv_s (.inl rfl) rfl) ?_
            all_goals (first | refine zbh rfl rfl (zaa rfl) (zbv rfl rfl rfl) (fun h62 => ?_) (fun h62 => ?_) | refine zbi rfl rfl (zaa rfl) (zbv rfl rfl rfl) (fun h62 => ?_) (fun h62 => ?_))
            all_goals refine zan ?_
            all_goals (repeat (first | refine zag ?_ | refine zar ?_ | refine zad ?_ | refine zas ?_ | refine zac ?_))
            all_goals (first | refine zbp rfl ?_ | refine zbm rfl ?_)
            all_goals (repeat (first | refine zag ?_ | refine zar ?_ | refine zad ?_ | refine zas ?_ | refine zac ?_))
            · rw [if_pos (by omega)] at HI
              refine zaf ?_
              refine zab rfl rfl (zaa rfl) (zb7 rfl ti41 tp41 rfl rfl) ?_
              refine zab rfl rfl (zaa rfl) (mv_s (.inl rfl) rfl) ?_
              refine zb0 rfl (zaa rfl) (zbd rfl ti41 rfl rfl rfl rfl rfl rfl (by decide) (by decide)) ?_
              refine zab rfl rfl (zaa rfl) (mv_s (.inr rfl) rfl) ?_
              refine zan ?_
              repeat (first | refine zag ?_ | refine zar ?_ | refine zad ?_ | refine zas ?_ | refine zac ?_)
              (refine zbs ?_; repeat (first | refine zb8 ?_ | refine zb9 ?_))
              exact zc6 (.inr rfl) ta41 ti41 rfl rfl rfl rfl rfl rfl (by rw [HI]; rfl)
            · rw [if_neg (by omega)] at HI
              refine zaf ?_
              first | refine zab rfl rfl (zaa rfl) (za0 rfl ta41 ti41 rfl rfl) ?_ | refine zab rfl rfl (zaa rfl) (za9 rfl ta41 ti41 rfl rfl rfl rfl rfl) ?_ | refine zab rfl rfl (zaa rfl) (zaz rfl ta41 ti41 rfl (Nat.le_of_ble_eq_true rfl)) ?_ | refine zab rfl rfl (zaa rfl) (zba rfl ta41 ti41 rfl rfl rfl rfl (Nat.le_of_ble_eq_true rfl)) ?_
              refine zb0 rfl (zaa rfl) (zbd rfl ti41 rfl rfl rfl rfl rfl rfl (by decide) (by decide)) ?_
              refine zan ?_
              repeat (first | refine zag ?_ | refine zar ?_ | refine zad ?_ | refine zas ?_ | refine zac ?_)
              refine zaf ?_
              refine zab rfl rfl (zaa rfl) (mv_s (.inl rfl) rfl) ?_
              refine zab rfl rfl (zaa rfl) (zb2 rfl rfl rfl (IntWalk.i64_in _ (by omega))) ?_
              refine zab rfl rfl (zaa rfl) (mv_s (.inr rfl) rfl) ?_
              refine zan ?_
              repeat (first | refine zag ?_ | refine zar ?_ | refine zad ?_ | refine zas ?_ | refine zac ?_)
              exact ⟨(⟨y.n, y.d⟩, k + 1), ⟨by dsimp only; omega, HI⟩, by dsimp only; omega, zck [0, 1] (by decide) ⟨⟨_, rfl, .rowE (by repeat' (first | exact Lo.s _ | exact zaj | exact zbn | refine zae ?_ ?_ | refine zbe ?_ ?_ | refine zak ?_ | refine zbo ?_ | refine Lo.cells ?_ | refine Lo.agg _ ?_ | refine Lo.sl _ ?_ | intro _)) rfl⟩, ⟨_, rfl, .rowE (by repeat' (first | exact Lo.s _ | exact zaj | exact zbn | refine zae ?_ ?_ | refine zbe ?_ ?_ | refine zak ?_ | refine zbo ?_ | refine Lo.cells ?_ | refine Lo.agg _ ?_ | refine Lo.sl _ ?_ | intro _)) rfl⟩, trivial⟩ ⟨.lo _ (by repeat' (first | exact Lo.s _ | exact zaj | refine zae ?_ ?_ | refine zak ?_ | refine Lo.cells ?_ | refine Lo.agg _ ?_ | refine Lo.ref _ ?_ | refine Lo.tup _ ?_ | refine Lo.fn _ _ ?_ | refine Lo.sl _ ?_ | intro _)), .lo _ (by repeat' (first | exact Lo.s _ | exact zaj | refine zae ?_ ?_ | refine zak ?_ | refine Lo.cells ?_ | refine Lo.agg _ ?_ | refine Lo.ref _ ?_ | refine Lo.tup _ ?_ | refine Lo.fn _ _ ?_ | refine Lo.sl _ ?_ | intro _)), .ptr 0 0 2 0 0 rfl, .ptr 1 1 2 0 0 rfl, .lo _ (by repeat' (first | exact Lo.s _ | exact zaj | refine zae ?_ ?_ | refine zak ?_ | refine Lo.cells ?_ | refine Lo.agg _ ?_ | refine Lo.ref _ ?_ | refine Lo.tup _ ?_ | refine Lo.fn _ _ ?_ | refine Lo.sl _ ?_ | intro _)), trivial⟩⟩
          · rw [if_pos (by omega)] at HI
            refine zaf ?_
            refine zab rfl rfl (zaa rfl) (mv_s (.inl rfl) rfl) ?_
            refine zab rfl rfl (zaa rfl) (dec_t (by omega) (zbv rfl rfl rfl)) ?_
            refine zan ?_
            repeat (first | refine zag ?_ | refine zar ?_ | refine zad ?_ | refine zas ?_ | refine zac ?_)
            refine zbp rfl ?_
            repeat (first | refine zag ?_ | refine zar ?_ | refine zad ?_ | refine zas ?_ | refine zac ?_)
            refine zaf ?_
            refine zab rfl rfl (zaa rfl) (zb7 rfl ti41 tp41 rfl rfl) ?_
            refine zab rfl rfl (zaa rfl) (mv_s (.inl rfl) rfl) ?_
            refine zb0 rfl (zaa rfl) (zbd rfl ti41 rfl rfl rfl rfl rfl rfl (by decide) (by decide)) ?_
            refine zab rfl rfl (zaa rfl) (mv_s (.inr rfl) rfl) ?_
            refine zan ?_
            repeat (first | refine zag ?_ | refine zar ?_ | refine zad ?_ | refine zas ?_ | refine zac ?_)
            (refine zbs ?_; repeat (first | refine zb8 ?_ | refine zb9 ?_))
            exact zc6 (.inr rfl) ta41 ti41 rfl rfl rfl rfl rfl rfl (by rw [HI]; rfl)
        · rw [dotG_end (by omega)] at HI
          (refine zcl ?_; repeat (first | refine ath_x ?_ | refine zci ?_ | refine zcb rfl ?_ | refine zas ?_ | refine zar ?_ | refine zag ?_ | refine zad ?_ | refine zac ?_))
          refine zaf ?_
          first | refine zab rfl rfl (zaa rfl) (za0 rfl ta41 ti41 rfl rfl) ?_ | refine zab rfl rfl (zaa rfl) (za9 rfl ta41 ti41 rfl rfl rfl rfl rfl) ?_ | refine zab rfl rfl (zaa rfl) (zaz rfl ta41 ti41 rfl (Nat.le_of_ble_eq_true rfl)) ?_ | refine zab rfl rfl (zaa rfl) (zba rfl ta41 ti41 rfl rfl rfl rfl (Nat.le_of_ble_eq_true rfl)) ?_
          refine zb0 rfl (zaa rfl) (zbd rfl ti41 rfl rfl rfl rfl rfl rfl (by decide) (by decide)) ?_
          refine zab rfl rfl (zaa rfl) (mv_s (.inr rfl) rfl) ?_
          refine zan ?_
          repeat (first | refine zag ?_ | refine zar ?_ | refine zad ?_ | refine zas ?_ | refine zac ?_)
          (refine zbs ?_; repeat (first | refine zb8 ?_ | refine zb9 ?_))
          exact zc6 (.inr rfl) ta41 ti41 rfl rfl rfl rfl rfl rfl (by rw [HI]; rfl)
    all_goals (refine zaf ?_)
    all_goals (refine zab rfl rfl (zaa rfl) (zb7 rfl ti41 tp41 rfl rfl) ?_)
    all_goals (refine zb0 rfl (zaa rfl) (zbd rfl ti41 rfl rfl rfl rfl rfl rfl (by decide) (by decide)) ?_)
    all_goals (refine zab rfl rfl (zaa rfl) (mv_s (.inr rfl) rfl) ?_)
    all_goals (refine zan ?_)
    all_goals (repeat (first | refine zag ?_ | refine zar ?_ | refine zad ?_ | refine zas ?_ | refine zac ?_))
    all_goals (refine zbs ?_; repeat (first | refine zb8 ?_ | refine zb9 ?_))
    all_goals exact zc6 (.inr rfl) ta41 ti41 rfl rfl rfl rfl rfl rfl (by rw [dotE_full h11 h15 (by omega)]; rfl)
  all_goals (refine zaf ?_)
  all_goals (refine zab rfl rfl (zaa rfl) (zb7 rfl ti41 tp41 rfl rfl) ?_)
  all_goals (refine zb0 rfl (zaa rfl) (zbd rfl ti41 rfl rfl rfl rfl rfl rfl (by decide) (by decide)) ?_)
  all_goals (refine zab rfl rfl (zaa rfl) (mv_s (.inr rfl) rfl) ?_)
  all_goals (refine zan ?_)
  all_goals (repeat (first | refine zag ?_ | refine zar ?_ | refine zad ?_ | refine zas ?_ | refine zac ?_))
  all_goals (refine zbs ?_; repeat (first | refine zb8 ?_ | refine zb9 ?_))
  all_goals exact zc6 (.inr rfl) ta41 ti41 rfl rfl rfl rfl rfl rfl (by rw [dotE_arg (by rintro ⟨q1, q2⟩; first | exact Bool.noConfusion (q1.symm.trans h11) | exact Bool.noConfusion (q2.symm.trans h15))]; rfl)
set_option maxHeartbeats 1000000 in
theorem fDot_pf (a b : List Fr) : Pure P 60 [eL eF a, eL eF b] (eFE (dotE a b)) := by
  refine zc4 (by rw [IsP.eq (P := P)]; exact Tryz.func60) rfl rfl rfl rfl rfl (by repeat' (first | exact Lo.s _ | exact zaj | refine zae ?_ ?_ | refine zak ?_ | refine Lo.cells ?_ | refine Lo.agg _ ?_ | refine Lo.ref _ ?_ | refine Lo.tup _ ?_ | refine Lo.fn _ _ ?_ | refine Lo.sl _ ?_ | intro _)) (by repeat' (first | exact Lo.s _ | exact zaj | refine zae ?_ ?_ | refine zak ?_ | refine Lo.cells ?_ | refine Lo.agg _ ?_ | refine Lo.ref _ ?_ | refine Lo.tup _ ?_ | refine Lo.fn _ _ ?_ | refine Lo.sl _ ?_ | intro _)) (by simp only [argF]; rfl) ?_
  repeat (first | refine zag ?_ | refine zar ?_ | refine zad ?_ | refine zas ?_ | refine zac ?_)
  refine zc5 (d := 0) rfl (fun hm1 => ?_)
  refine zc5 (d := 1) rfl (fun hm2 => ?_)
  unfold maxLen at hm1 hm2
  refine zaf ?_
  refine zab rfl rfl (zaa rfl) (zbr rfl ti41 rfl rfl) ?_
  refine zab rfl rfl (zaa rfl) (mv_s (.inr rfl) rfl) ?_
  refine zan ?_
  repeat (first | refine zag ?_ | refine zar ?_ | refine zad ?_ | refine zas ?_ | refine zac ?_)
  all_goals refine zaf ?_
  all_goals (first | refine zab rfl rfl (zaa rfl) (za6 (.inl rfl) rfl) ?_ | refine zab rfl rfl (zaa rfl) (zbg (.inl rfl) rfl) ?_ | refine zab rfl rfl (zaa rfl) (mv_s (.inl rfl) rfl) ?_ | refine zab rfl rfl (zaa rfl) (za7 (.inl rfl) rfl) ?_)
  all_goals (first | refine zbh rfl rfl (zaa rfl) (za5 rfl rfl (fvalid_pf _) (zau rfl zbj)) (fun h12 => ?_) (fun h12 => ?_) | refine zbi rfl rfl (zaa rfl) (za5 rfl rfl (fvalid_pf _) (zau rfl zbj)) (fun h12 => ?_) (fun h12 => ?_))
  all_goals (first | refine zab rfl rfl (zaa rfl) (zcf rfl rfl) ?_ | refine zab rfl rfl (zaa rfl) (zcj rfl rfl) ?_)
  all_goals refine zab rfl rfl (zaa rfl) (mv_s (.inl rfl) rfl) ?_
  all_goals (first | refine zab rfl rfl (zah rfl rfl rfl) (za6 (.inl rfl) rfl) ?_ | refine zab rfl rfl (zah rfl rfl rfl) (zbg (.inl rfl) rfl) ?_ | refine zab rfl rfl (zah rfl rfl rfl) (mv_s (.inl rfl) rfl) ?_ | refine zab rfl rfl (zah rfl rfl rfl) (za7 (.inl rfl) rfl) ?_ | refine zaq rfl rfl (zax rfl rfl rfl) ?_ | refine zaq rfl rfl (zav rfl rfl rfl) ?_)
  all_goals (first | refine zbh rfl rfl (zah rfl rfl rfl) (za5 rfl rfl (fvalid_pf _) (zau rfl zbj)) (fun h16 => ?_) (fun h16 => ?_) | refine zbi rfl rfl (zah rfl rfl rfl) (za5 rfl rfl (fvalid_pf _) (zau rfl zbj)) (fun h16 => ?_) (fun h16 => ?_) | refine zaq rfl rfl (zax rfl rfl rfl) ?_ | refine zaq rfl rfl (zav rfl rfl rfl) ?_)
  all_goals (first | refine zab rfl rfl (zah rfl rfl rfl) (zcf rfl rfl) ?_ | refine zab rfl rfl (zah rfl rfl rfl) (zcj rfl rfl) ?_ | refine zaq rfl rfl (zax rfl rfl rfl) ?_ | refine zaq rfl rfl (zav rfl rfl rfl) ?_)
  all_goals (first | refine zab rfl rfl (zaa rfl) (zbx rfl rfl rfl) ?_ | refine zab rfl rfl (zaa rfl) (zby rfl rfl rfl) ?_ | refine zab rfl rfl (zaa rfl) (zbk rfl rfl rfl) ?_ | refine zab rfl rfl (zaa rfl) (zbl rfl rfl rfl) ?_)
  all_goals refine zab rfl rfl (zaa rfl) (mv_s (.inr rfl) rfl) ?_
  all_goals refine zan ?_
  all_goals (repeat (first | refine zag ?_ | refine zar ?_ | refine zad ?_ | refine zas ?_ | refine zac ?_))
  all_goals (first | refine zbp rfl ?_ | refine zbm rfl ?_)
  all_goals (repeat (first | refine zag ?_ | refine zar ?_ | refine zad ?_ | refine zas ?_ | refine zac ?_))
  · skip
    all_goals refine zaf ?_
    all_goals (first | refine zab rfl rfl (zaa rfl) (za6 (.inl rfl) rfl) ?_ | refine zab rfl rfl (zaa rfl) (zbg (.inl rfl) rfl) ?_ | refine zab rfl rfl (zaa rfl) (mv_s (.inl rfl) rfl) ?_ | refine zab rfl rfl (zaa rfl) (za7 (.inl rfl) rfl) ?_)
    all_goals (first | refine zab rfl rfl (zaa rfl) (za4 rfl ts27 rfl) ?_ | refine zab rfl rfl (zaa rfl) (za8 rfl ts27 rfl) ?_ | refine zab rfl rfl (zaa rfl) (za2 rfl ts27 rfl) ?_ | refine zab rfl rfl (zaa rfl) (zbc rfl ts27 rfl) ?_ | refine zab rfl rfl (zaa rfl) (za3 rfl ts27 rfl) ?_)
    all_goals (first | refine zbh rfl rfl (zaa rfl) (zbw rfl rfl rfl) (fun h23 => ?_) (fun h23 => ?_) | refine zbi rfl rfl (zaa rfl) (zbw rfl rfl rfl) (fun h23 => ?_) (fun h23 => ?_))
    all_goals refine zab rfl rfl (zaa rfl) (mv_s (.inl rfl) rfl) ?_
    all_goals (first | refine zab rfl rfl (zah rfl rfl rfl) (za6 (.inl rfl) rfl) ?_ | refine zab rfl rfl (zah rfl rfl rfl) (zbg (.inl rfl) rfl) ?_ | refine zab rfl rfl (zah rfl rfl rfl) (mv_s (.inl rfl) rfl) ?_ | refine zab rfl rfl (zah rfl rfl rfl) (za7 (.inl rfl) rfl) ?_ | refine zaq rfl rfl (zax rfl rfl rfl) ?_ | refine zaq rfl rfl (zav rfl rfl rfl) ?_)
    all_goals (first | refine zab rfl rfl (zah rfl rfl rfl) (za4 rfl ts27 rfl) ?_ | refine zab rfl rfl (zah rfl rfl rfl) (za8 rfl ts27 rfl) ?_ | refine zab rfl rfl (zah rfl rfl rfl) (za2 rfl ts27 rfl) ?_ | refine zab rfl rfl (zah rfl rfl rfl) (zbc rfl ts27 rfl) ?_ | refine zab rfl rfl (zah rfl rfl rfl) (za3 rfl ts27 rfl) ?_ | refine zaq rfl rfl (zax rfl rfl rfl) ?_ | refine zaq rfl rfl (zav rfl rfl rfl) ?_)
    all_goals (first | refine zbh rfl rfl (zah rfl rfl rfl) (zbw rfl rfl rfl) (fun h27 => ?_) (fun h27 => ?_) | refine zbi rfl rfl (zah rfl rfl rfl) (zbw rfl rfl rfl) (fun h27 => ?_) (fun h27 => ?_) | refine zaq rfl rfl (zax rfl rfl rfl) ?_ | refine zaq rfl rfl (zav rfl rfl rfl) ?_)
    all_goals (first | refine zab rfl rfl (zaa rfl) (zbx rfl rfl rfl) ?_ | refine zab rfl rfl (zaa rfl) (zby rfl rfl rfl) ?_ | refine zab rfl rfl (zaa rfl) (zbk rfl rfl rfl) ?_ | refine zab rfl rfl (zaa rfl) (zbl rfl rfl rfl) ?_)
    all_goals refine zab rfl rfl (zaa rfl) (mv_s (.inr rfl) rfl) ?_
    all_goals refine zan ?_
    all_goals (repeat (first | refine zag ?_ | refine zar ?_ | refine zad ?_ | refine zas ?_ | refine zac ?_))
    all_goals (first | refine zbp rfl ?_ | refine zbm rfl ?_)
    all_goals (repeat (first | refine zag ?_ | refine zar ?_ | refine zad ?_ | refine zas ?_ | refine zac ?_))
    rotate_left 2
    · have h3 : ¬ (1000 < a.length ∨ 1000 < b.length) := by omega
      all_goals refine zaf ?_
      all_goals (first | refine zab rfl rfl (zaa rfl) (za6 (.inl rfl) rfl) ?_ | refine zab rfl rfl (zaa rfl) (zbg (.inl rfl) rfl) ?_ | refine zab rfl rfl (zaa rfl) (mv_s (.inl rfl) rfl) ?_ | refine zab rfl rfl (zaa rfl) (za7 (.inl rfl) rfl) ?_)
      all_goals (first | refine zab rfl rfl (zaa rfl) (za4 rfl ts27 rfl) ?_ | refine zab rfl rfl (zaa rfl) (za8 rfl ts27 rfl) ?_ | refine zab rfl rfl (zaa rfl) (za2 rfl ts27 rfl) ?_ | refine zab rfl rfl (zaa rfl) (zbc rfl ts27 rfl) ?_ | refine zab rfl rfl (zaa rfl) (za3 rfl ts27 rfl) ?_)
      all_goals (first | refine zab rfl rfl (zaa rfl) (za6 (.inl rfl) rfl) ?_ | refine zab rfl rfl (zaa rfl) (zbg (.inl rfl) rfl) ?_ | refine zab rfl rfl (zaa rfl) (mv_s (.inl rfl) rfl) ?_ | refine zab rfl rfl (zaa rfl) (za7 (.inl rfl) rfl) ?_)
      all_goals (first | refine zab rfl rfl (zaa rfl) (za4 rfl ts27 rfl) ?_ | refine zab rfl rfl (zaa rfl) (za8 rfl ts27 rfl) ?_ | refine zab rfl rfl (zaa rfl) (za2 rfl ts27 rfl) ?_ | refine zab rfl rfl (zaa rfl) (zbc rfl ts27 rfl) ?_ | refine zab rfl rfl (zaa rfl) (za3 rfl ts27 rfl) ?_)
      all_goals (first | refine zbh rfl rfl (zaa rfl) (zbv rfl rfl rfl) (fun h35 => ?_) (fun h35 => ?_) | refine zbi rfl rfl (zaa rfl) (zbv rfl rfl rfl) (fun h35 => ?_) (fun h35 => ?_))
      all_goals refine zab rfl rfl (zaa rfl) (mv_s (.inr rfl) rfl) ?_
      all_goals refine zan ?_
      all_goals (repeat (first | refine zag ?_ | refine zar ?_ | refine zad ?_ | refine zas ?_ | refine zac ?_))
      all_goals (first | refine zbp rfl ?_ | refine zbm rfl ?_)
      all_goals (repeat (first | refine zag ?_ | refine zar ?_ | refine zad ?_ | refine zas ?_ | refine zac ?_))
      · skip
        refine zaf ?_
        refine zab rfl rfl (zaa rfl) (zb7 rfl ti41 tp41 rfl rfl) ?_
        refine zb0 rfl (zaa rfl) (zbd rfl ti41 rfl rfl rfl rfl rfl rfl (by decide) (by decide)) ?_
        refine zab rfl rfl (zaa rfl) (mv_s (.inr rfl) rfl) ?_
        refine zan ?_
        repeat (first | refine zag ?_ | refine zar ?_ | refine zad ?_ | refine zas ?_ | refine zac ?_)
        (refine zbs ?_; repeat (first | refine zb8 ?_ | refine zb9 ?_))
        exact zc6 (.inr rfl) ta41 ti41 rfl rfl rfl rfl rfl rfl (by rw [dotE_size h12 h16 h3 (by omega)]; rfl)
      · have hl : a.length = b.length := by omega
        have HI := dotE_go h12 h16 h3 hl
        refine zaf ?_
        refine zab rfl rfl (zaa rfl) (zb7 rfl ti41 tp41 rfl rfl) ?_
        refine zab rfl rfl (zaa rfl) (zbr rfl ti41 rfl rfl) ?_
        refine zb0 rfl (zaa rfl) (zbd rfl ti41 rfl rfl rfl rfl rfl rfl (by decide) (by decide)) ?_
        refine zan ?_
        repeat (first | refine zag ?_ | refine zar ?_ | refine zad ?_ | refine zas ?_ | refine zac ?_)
        refine zaf ?_
        first | refine zab rfl rfl (zaa rfl) (za6 (.inl rfl) rfl) ?_ | refine zab rfl rfl (zaa rfl) (zbg (.inl rfl) rfl) ?_ | refine zab rfl rfl (zaa rfl) (mv_s (.inl rfl) rfl) ?_ | refine zab rfl rfl (zaa rfl) (za7 (.inl rfl) rfl) ?_
        first | refine zab rfl rfl (zaa rfl) (za4 rfl ts27 rfl) ?_ | refine zab rfl rfl (zaa rfl) (za8 rfl ts27 rfl) ?_ | refine zab rfl rfl (zaa rfl) (za2 rfl ts27 rfl) ?_ | refine zab rfl rfl (zaa rfl) (zbc rfl ts27 rfl) ?_ | refine zab rfl rfl (zaa rfl) (za3 rfl ts27 rfl) ?_
        refine zab rfl rfl (zaa rfl) (mv_s (.inl rfl) rfl) ?_
        refine zan ?_
        repeat (first | refine zag ?_ | refine zar ?_ | refine zad ?_ | refine zas ?_ | refine zac ?_)
        refine zcc (S := Fr × Nat) (fun s => [(0, eL eF a), (1, eL eF b), (4, .ptr 0 2 0 0), (6, .ptr 1 2 0 0), (39, eI a.length), (40, eI s.2)]) (fun s => [.row 2 [.agg [eI 0, eI 0]], .row 2 [eF s.1]]) (fun s => s.2 ≤ a.length ∧ dotE a b = dotG s.1 (a.drop s.2) (b.drop s.2)) (fun s => a.length - s.2) (Fr.of 0, 0) (zck [0, 1] (by decide) ⟨⟨_, rfl, .rowE (by repeat' (first | exact Lo.s _ | exact zaj | exact zbn | refine zae ?_ ?_ | refine zbe ?_ ?_ | refine zak ?_ | refine zbo ?_ | refine Lo.cells ?_ | refine Lo.agg _ ?_ | refine Lo.sl _ ?_ | intro _)) rfl⟩, ⟨_, rfl, .rowE (by repeat' (first | exact Lo.s _ | exact zaj | exact zbn | refine zae ?_ ?_ | refine zbe ?_ ?_ | refine zak ?_ | refine zbo ?_ | refine Lo.cells ?_ | refine Lo.agg _ ?_ | refine Lo.sl _ ?_ | intro _)) rfl⟩, trivial⟩ ⟨.lo _ (by repeat' (first | exact Lo.s _ | exact zaj | refine zae ?_ ?_ | refine zak ?_ | refine Lo.cells ?_ | refine Lo.agg _ ?_ | refine Lo.ref _ ?_ | refine Lo.tup _ ?_ | refine Lo.fn _ _ ?_ | refine Lo.sl _ ?_ | intro _)), .lo _ (by repeat' (first | exact Lo.s _ | exact zaj | refine zae ?_ ?_ | refine zak ?_ | refine Lo.cells ?_ | refine Lo.agg _ ?_ | refine Lo.ref _ ?_ | refine Lo.tup _ ?_ | refine Lo.fn _ _ ?_ | refine Lo.sl _ ?_ | intro _)), .ptr 0 0 2 0 0 rfl, .ptr 1 1 2 0 0 rfl, .lo _ (by repeat' (first | exact Lo.s _ | exact zaj | refine zae ?_ ?_ | refine zak ?_ | refine Lo.cells ?_ | refine Lo.agg _ ?_ | refine Lo.ref _ ?_ | refine Lo.tup _ ?_ | refine Lo.fn _ _ ?_ | refine Lo.sl _ ?_ | intro _)), .lo _ (by repeat' (first | exact Lo.s _ | exact zaj | refine zae ?_ ?_ | refine zak ?_ | refine Lo.cells ?_ | refine Lo.agg _ ?_ | refine Lo.ref _ ?_ | refine Lo.tup _ ?_ | refine Lo.fn _ _ ?_ | refine Lo.sl _ ?_ | intro _)), trivial⟩) ⟨Nat.zero_le _, HI⟩ (fun s hk => ?_)
        obtain ⟨acc, k⟩ := s
        obtain ⟨hk, HI⟩ := hk
        dsimp only at hk HI ⊢
        repeat (first | refine zag ?_ | refine zar ?_ | refine zad ?_ | refine zas ?_ | refine zac ?_)
        all_goals refine zaf ?_
        all_goals (first | refine zbh rfl rfl (zaa rfl) (zbb rfl rfl rfl) (fun h41 => ?_) (fun h41 => ?_) | refine zbi rfl rfl (zaa rfl) (zbb rfl rfl rfl) (fun h41 => ?_) (fun h41 => ?_))
        all_goals refine zan ?_
        all_goals (repeat (first | refine zag ?_ | refine zar ?_ | refine zad ?_ | refine zas ?_ | refine zac ?_))
        all_goals (first | refine zbp rfl ?_ | refine zbm rfl ?_)
        all_goals (repeat (first | refine zag ?_ | refine zar ?_ | refine zad ?_ | refine zas ?_ | refine zac ?_))
        · have h1 : k < a.length := by omega
          have h2 : k < b.length := by omega
          rw [dotG_step h1 h2] at HI
          generalize hx : mulE (gti a k) (gti b k) = x at HI
          have hmul := fMul_pf (P := P) (gti a k) (gti b k)
          rw [hx] at hmul
          refine zaf ?_
          refine zab rfl rfl (zaa rfl) (mv_s (.inl rfl) rfl) ?_
          refine zab rfl rfl (zaa rfl) (mv_s (.inr rfl) rfl) ?_
          refine zan ?_
          repeat (first | refine zag ?_ | refine zar ?_ | refine zad ?_ | refine zas ?_ | refine zac ?_)
          all_goals refine zch hmix ?_
          all_goals refine zda ?_
          all_goals (first | refine zao rfl rfl (zaa rfl) (fun _ => (za6 (.inl rfl) rfl)) ?_ | refine zao rfl rfl (zaa rfl) (fun _ => (zbg (.inl rfl) rfl)) ?_ | refine zao rfl rfl (zaa rfl) (fun _ => (mv_s (.inl rfl) rfl)) ?_ | refine zao rfl rfl (zaa rfl) (fun _ => (za7 (.inl rfl) rfl)) ?_)
          all_goals refine zao rfl rfl (zaa rfl) (fun _ => (mv_s (.inl rfl) rfl)) ?_
          all_goals (first | refine zao rfl rfl (zaa rfl) (fun _ => (za1 rfl ts27 ti41 rfl rfl rfl (zb5 (by omega)) rfl)) ?_ | refine zao rfl rfl (zaa rfl) (fun _ => (zay rfl ts27 ti41 rfl rfl rfl (by omega))) ?_)
          all_goals (first | refine zao rfl rfl (zaa rfl) (fun _ => (za0 rfl ta41 ti41 rfl rfl)) ?_ | refine zbz rfl rfl (zaa rfl) (zce rfl ta41 ti41 rfl rfl rfl rfl rfl) ?_ | refine zao rfl rfl (zaa rfl) (fun _ => (zaz rfl ta41 ti41 rfl (Nat.le_of_ble_eq_true rfl))) ?_ | refine zbz rfl rfl (zaa rfl) (zcn rfl ta41 ti41 rfl rfl rfl rfl (Nat.le_of_ble_eq_true rfl)) ?_)
          all_goals (first | refine zao rfl rfl (zaa rfl) (fun _ => (za6 (.inl rfl) rfl)) ?_ | refine zao rfl rfl (zaa rfl) (fun _ => (zbg (.inl rfl) rfl)) ?_ | refine zao rfl rfl (zaa rfl) (fun _ => (mv_s (.inl rfl) rfl)) ?_ | refine zao rfl rfl (zaa rfl) (fun _ => (za7 (.inl rfl) rfl)) ?_)
          all_goals refine zao rfl rfl (zaa rfl) (fun _ => (mv_s (.inl rfl) rfl)) ?_
          all_goals (first | refine zao rfl rfl (zaa rfl) (fun _ => (za1 rfl ts27 ti41 rfl rfl rfl (zb5 (by omega)) rfl)) ?_ | refine zao rfl rfl (zaa rfl) (fun _ => (zay rfl ts27 ti41 rfl rfl rfl (by omega))) ?_)
          all_goals (first | refine zao rfl rfl (zaa rfl) (fun _ => (za0 rfl ta41 ti41 rfl rfl)) ?_ | refine zbz rfl rfl (zaa rfl) (zce rfl ta41 ti41 rfl rfl rfl rfl rfl) ?_ | refine zao rfl rfl (zaa rfl) (fun _ => (zaz rfl ta41 ti41 rfl (Nat.le_of_ble_eq_true rfl))) ?_ | refine zbz rfl rfl (zaa rfl) (zcn rfl ta41 ti41 rfl rfl rfl rfl (Nat.le_of_ble_eq_true rfl)) ?_)
          all_goals refine zao rfl rfl (zaa rfl) (fun _ => (za5 rfl rfl (hmul) (zau rfl (zau rfl zbj)))) ?_
          all_goals (first | refine zao rfl rfl (zaa rfl) (fun _ => (mv_tup (.inl rfl) rfl)) ?_ | refine zao rfl rfl (zaa rfl) (fun _ => (mv_s (.inl rfl) rfl)) ?_)
          all_goals refine zao rfl rfl (zaa rfl) (fun _ => (zbf rfl rfl rfl)) ?_
          all_goals refine zao rfl rfl (zaa rfl) (fun _ => (zbf rfl rfl rfl)) ?_
          all_goals refine ex_eff rfl rfl (zaa rfl) (zbr rfl ti41 rfl rfl) (fun _ h => zc7 h) ?_
          all_goals refine ex_eff0 rfl (zaa rfl) (zbd rfl ti41 rfl rfl rfl rfl rfl rfl (by decide) (by decide)) (fun _ h => zcq h) ?_
          all_goals refine zao rfl rfl (zaa rfl) (fun _ => (mv_s (.inr rfl) rfl)) ?_
          all_goals refine ex_nil (by kernel_rfl) ?_
          all_goals (repeat (first | refine zag ?_ | refine zar ?_ | refine zad ?_ | refine zas ?_ | refine zac ?_))
          all_goals refine zaf ?_
          all_goals refine zab rfl rfl (zaa rfl) (mv_s (.inl rfl) rfl) ?_
          all_goals (first | refine zbh rfl rfl (zaa rfl) (zbv rfl rfl rfl) (fun h56 => ?_) (fun h56 => ?_) | refine zbi rfl rfl (zaa rfl) (zbv rfl rfl rfl) (fun h56 => ?_) (fun h56 => ?_))
          all_goals refine zan ?_
          all_goals (repeat (first | refine zag ?_ | refine zar ?_ | refine zad ?_ | refine zas ?_ | refine zac ?_))
          all_goals (first | refine zbp rfl ?_ | refine zbm rfl ?_)
          all_goals (repeat (first | refine zag ?_ | refine zar ?_ | refine zad ?_ | refine zas ?_ | refine zac ?_))
          · rw [if_pos (by omega)] at HI
            refine zaf ?_
            refine zab rfl rfl (zaa rfl) (zb7 rfl ti41 tp41 rfl rfl) ?_
            refine zab rfl rfl (zaa rfl) (mv_s (.inl rfl) rfl) ?_
            refine zb0 rfl (zaa rfl) (zbd rfl ti41 rfl rfl rfl rfl rfl rfl (by decide) (by decide)) ?_
            refine zab rfl rfl (zaa rfl) (mv_s (.inr rfl) rfl) ?_
            refine zan ?_
            repeat (first | refine zag ?_ | refine zar ?_ | refine zad ?_ | refine zas ?_ | refine zac ?_)
            (refine zbs ?_; repeat (first | refine zb8 ?_ | refine zb9 ?_))
            exact zc6 (.inr rfl) ta41 ti41 rfl rfl rfl rfl rfl rfl (by rw [HI]; rfl)
          · rw [if_neg (by omega)] at HI
            generalize hy : addE acc ⟨x.n, x.d⟩ = y at HI
            have hadd := fAdd_pf (P := P) acc ⟨x.n, x.d⟩
            rw [hy] at hadd
            refine zaf ?_
            first | refine zab rfl rfl (zaa rfl) (za0 rfl ta41 ti41 rfl rfl) ?_ | refine zab rfl rfl (zaa rfl) (za9 rfl ta41 ti41 rfl rfl rfl rfl rfl) ?_ | refine zab rfl rfl (zaa rfl) (zaz rfl ta41 ti41 rfl (Nat.le_of_ble_eq_true rfl)) ?_ | refine zab rfl rfl (zaa rfl) (zba rfl ta41 ti41 rfl rfl rfl rfl (Nat.le_of_ble_eq_true rfl)) ?_
            first | refine zab rfl rfl (zaa rfl) (za0 rfl ta41 ti41 rfl rfl) ?_ | refine zab rfl rfl (zaa rfl) (za9 rfl ta41 ti41 rfl rfl rfl rfl rfl) ?_ | refine zab rfl rfl (zaa rfl) (zaz rfl ta41 ti41 rfl (Nat.le_of_ble_eq_true rfl)) ?_ | refine zab rfl rfl (zaa rfl) (zba rfl ta41 ti41 rfl rfl rfl rfl (Nat.le_of_ble_eq_true rfl)) ?_
            refine zab rfl rfl (zaa rfl) (za5 rfl rfl (hadd) (zau rfl (zau rfl zbj))) ?_
            first | refine zab rfl rfl (zaa rfl) (mv_tup (.inl rfl) rfl) ?_ | refine zab rfl rfl (zaa rfl) (mv_s (.inl rfl) rfl) ?_
            refine zab rfl rfl (zaa rfl) (zbf rfl rfl rfl) ?_
            refine zab rfl rfl (zaa rfl) (zbf rfl rfl rfl) ?_
            refine zb0 rfl (zaa rfl) (zbd rfl ti41 rfl rfl rfl rfl rfl rfl (by decide) (by decide)) ?_
            refine zab rfl rfl (zaa rfl) (mv_s (.inr rfl) rfl) ?_
            refine zan ?_
            repeat (first | refine zag ?_ | refine zar ?_ | refine zad ?_ | refine zas ?_ | refine zac ?_)
            all_goals refine zaf ?_
            all_goals refine zab rfl rfl (zaa rfl) (mv_s (.inl rfl) rfl) ?_
            all_goals (first | refine zbh rfl rfl (zaa rfl) (zbv rfl rfl rfl) (fun h66 => ?_) (fun h66 => ?_) | refine zbi rfl rfl (zaa rfl) (zbv rfl rfl rfl) (fun h66 => ?_) (fun h66 => ?_))
            all_goals refine zan ?_
            all_goals (repeat (first | refine zag ?_ | refine zar ?_ | refine zad ?_ | refine zas ?_ | refine zac ?_))
            all_goals (first | refine zbp rfl ?_ | refine zbm rfl ?_)
            all_goals (repeat (first | refine zag ?_ | refine zar ?_ | refine zad ?_ | refine zas ?_ | refine zac ?_))
            · rw [if_pos (by omega)] at HI
              refine zaf ?_
              refine zab rfl rfl (zaa rfl) (zb7 rfl ti41 tp41 rfl rfl) ?_
              refine zab rfl rfl (zaa rfl) (mv_s (.inl rfl) rfl) ?_
              refine zb0 rfl (zaa rfl) (zbd rfl ti41 rfl rfl rfl rfl rfl rfl (by decide) (by decide)) ?_
              refine zab rfl rfl (zaa rfl) (mv_s (.inr rfl) rfl) ?_
              refine zan ?_
              repeat (first | refine zag ?_ | refine zar ?_ | refine zad ?_ | refine zas ?_ | refine zac ?_)
              (refine zbs ?_; repeat (first | refine zb8 ?_ | refine zb9 ?_))
              exact zc6 (.inr rfl) ta41 ti41 rfl rfl rfl rfl rfl rfl (by rw [HI]; rfl)
            · rw [if_neg (by omega)] at HI
              refine zaf ?_
              refine zab rfl rfl (zaa rfl) (zb2 rfl rfl rfl (IntWalk.i64_in _ (by omega))) ?_
              refine zab rfl rfl (zaa rfl) (mv_s (.inl rfl) rfl) ?_
              refine zan ?_
              repeat (first | refine zag ?_ | refine zar ?_ | refine zad ?_ | refine zas ?_ | refine zac ?_)
              exact ⟨(⟨y.n, y.d⟩, k + 1), ⟨by dsimp only; omega, HI⟩, by dsimp only; omega, zck [0, 1] (by decide) ⟨⟨_, rfl, .rowE (by repeat' (first | exact Lo.s _ | exact zaj | exact zbn | refine zae ?_ ?_ | refine zbe ?_ ?_ | refine zak ?_ | refine zbo ?_ | refine Lo.cells ?_ | refine Lo.agg _ ?_ | refine Lo.sl _ ?_ | intro _)) rfl⟩, ⟨_, rfl, .rowE (by repeat' (first | exact Lo.s _ | exact zaj | exact zbn | refine zae ?_ ?_ | refine zbe ?_ ?_ | refine zak ?_ | refine zbo ?_ | refine Lo.cells ?_ | refine Lo.agg _ ?_ | refine Lo.sl _ ?_ | intro _)) rfl⟩, trivial⟩ ⟨.lo _ (by repeat' (first | exact Lo.s _ | exact zaj | refine zae ?_ ?_ | refine zak ?_ | refine Lo.cells ?_ | refine Lo.agg _ ?_ | refine Lo.ref _ ?_ | refine Lo.tup _ ?_ | refine Lo.fn _ _ ?_ | refine Lo.sl _ ?_ | intro _)), .lo _ (by repeat' (first | exact Lo.s _ | exact zaj | refine zae ?_ ?_ | refine zak ?_ | refine Lo.cells ?_ | refine Lo.agg _ ?_ | refine Lo.ref _ ?_ | refine Lo.tup _ ?_ | refine Lo.fn _ _ ?_ | refine Lo.sl _ ?_ | intro _)), .ptr 0 0 2 0 0 rfl, .ptr 1 1 2 0 0 rfl, .lo _ (by repeat' (first | exact Lo.s _ | exact zaj | refine zae ?_ ?_ | refine zak ?_ | refine Lo.cells ?_ | refine Lo.agg _ ?_ | refine Lo.ref _ ?_ | refine Lo.tup _ ?_ | refine Lo.fn _ _ ?_ | refine Lo.sl _ ?_ | intro _)), .lo _ (by repeat' (first | exact Lo.s _ | exact zaj | refine zae ?_ ?_ | refine zak ?_ | refine Lo.cells ?_ | refine Lo.agg _ ?_ | refine Lo.ref _ ?_ | refine Lo.tup _ ?_ | refine Lo.fn _ _ ?_ | refine Lo.sl _ ?_ | intro _)), trivial⟩⟩
        · rw [dotG_end (by omega)] at HI
          (refine zcl ?_; repeat (first | refine ath_x ?_ | refine zci ?_ | refine zcb rfl ?_ | refine zas ?_ | refine zar ?_ | refine zag ?_ | refine zad ?_ | refine zac ?_))
          refine zaf ?_
          first | refine zab rfl rfl (zaa rfl) (za0 rfl ta41 ti41 rfl rfl) ?_ | refine zab rfl rfl (zaa rfl) (za9 rfl ta41 ti41 rfl rfl rfl rfl rfl) ?_ | refine zab rfl rfl (zaa rfl) (zaz rfl ta41 ti41 rfl (Nat.le_of_ble_eq_true rfl)) ?_ | refine zab rfl rfl (zaa rfl) (zba rfl ta41 ti41 rfl rfl rfl rfl (Nat.le_of_ble_eq_true rfl)) ?_
          refine zb0 rfl (zaa rfl) (zbd rfl ti41 rfl rfl rfl rfl rfl rfl (by decide) (by decide)) ?_
          refine zab rfl rfl (zaa rfl) (mv_s (.inr rfl) rfl) ?_
          refine zan ?_
          repeat (first | refine zag ?_ | refine zar ?_ | refine zad ?_ | refine zas ?_ | refine zac ?_)
          (refine zbs ?_; repeat (first | refine zb8 ?_ | refine zb9 ?_))
          exact zc6 (.inr rfl) ta41 ti41 rfl rfl rfl rfl rfl rfl (by rw [HI]; rfl)
    all_goals (refine zaf ?_)
    all_goals (refine zab rfl rfl (zaa rfl) (zb7 rfl ti41 tp41 rfl rfl) ?_)
    all_goals (refine zb0 rfl (zaa rfl) (zbd rfl ti41 rfl rfl rfl rfl rfl rfl (by decide) (by decide)) ?_)
    all_goals (refine zab rfl rfl (zaa rfl) (mv_s (.inr rfl) rfl) ?_)
    all_goals (refine zan ?_)
    all_goals (repeat (first | refine zag ?_ | refine zar ?_ | refine zad ?_ | refine zas ?_ | refine zac ?_))
    all_goals (refine zbs ?_; repeat (first | refine zb8 ?_ | refine zb9 ?_))
    all_goals exact zc6 (.inr rfl) ta41 ti41 rfl rfl rfl rfl rfl rfl (by rw [dotE_full h12 h16 (by omega)]; rfl)
  all_goals (refine zaf ?_)
  all_goals (refine zab rfl rfl (zaa rfl) (zb7 rfl ti41 tp41 rfl rfl) ?_)
  all_goals (refine zb0 rfl (zaa rfl) (zbd rfl ti41 rfl rfl rfl rfl rfl rfl (by decide) (by decide)) ?_)
  all_goals (refine zab rfl rfl (zaa rfl) (mv_s (.inr rfl) rfl) ?_)
  all_goals (refine zan ?_)
  all_goals (repeat (first | refine zag ?_ | refine zar ?_ | refine zad ?_ | refine zas ?_ | refine zac ?_))
  all_goals (refine zbs ?_; repeat (first | refine zb8 ?_ | refine zb9 ?_))
  all_goals exact zc6 (.inr rfl) ta41 ti41 rfl rfl rfl rfl rfl rfl (by rw [dotE_arg (by rintro ⟨q1, q2⟩; first | exact Bool.noConfusion (q1.symm.trans h12) | exact Bool.noConfusion (q2.symm.trans h16))]; rfl)
end Go.Proofs.YtmoipmnhgdmkpaaGreat.Aw
end
