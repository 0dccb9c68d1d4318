/-
  Walks of casebook/queue: leave. Conditions: none.
-/
import Derived.Test.YthlgkomhnhkooaaQueue3
import Derived.Test.YthlgkomhnhkooaaFrac4
namespace Go.Proofs.Ythlgkomhnhkooaa
set_option linter.unusedSimpArgs false
set_option linter.unusedVariables false
open Go.RowKit

theorem ent_sub : Ent 22 := ent_of Try.func22 (by kernel_rfl) rfl
theorem ent_add : Ent 57 := ent_of Try.func57 (by kernel_rfl) rfl
theorem ent_mul : Ent 23 := ent_of Try.func23 (by kernel_rfl) rfl
theorem ent_div : Ent 54 := ent_of Try.func54 (by kernel_rfl) rfl
theorem info_frac : (Try.prog.info? 23).map (fun i => (i.zero, i.size, i.bytes)) = some (some (.agg #[.int .i64 0, .int .i64 0]), 2, 16) := by kernel_rfl
theorem info_fracs : (Try.prog.info? 27).map (fun i => (i.zero, i.size, i.bytes)) = some (some (.slice none 0 0), 1, 24) := by kernel_rfl

def OI (cb sb qb lo N : Nat) (w : World) (ar se st : Fr) (sv cp J : Nat) (rowsV : Value) (W : World) : Prop :=
  ∃ x us ll, K1 W cb (.int .i64 x) ∧ K2 W sb (.int .i64 st.n) (.int .i64 st.d) ∧ K6 W qb (.int .i64 ar.n) (.int .i64 ar.d) (.int .i64 se.n) (.int .i64 se.d) (.int .i64 sv) (.int .i64 cp) ∧ Off cb N w W ∧
    W.ownsRow lo 27 1 rowsV J us ∧ All2 W lo W.heap.size us ll ∧ lo ≤ W.heap.size ∧ LvR se sv st J ll x

set_option maxRecDepth 100000 in
set_option maxHeartbeats 8000000 in
theorem leave_any (ar se : Fr) (sv cp : Nat) (cb : Nat) (w : World) (hc : K1 w cb (.int .i64 0)) (hse : se.ok) (hsv : 1 ≤ sv ∧ sv ≤ 8) :
    Calls Try.prog 76 #[.pointer (some ⟨cb, 0, none⟩), .agg #[.int .i64 ar.n, .int .i64 ar.d, .int .i64 se.n, .int .i64 se.d, .int .i64 sv, .int .i64 cp]] w fun e w' =>
      ∃ v ll x, e = .returned v ∧ K1 w' cb (.int .i64 x) ∧ Off cb w.heap.size w w' ∧ RdFF w' w.heap.size w'.heap.size v ll ∧ LvE se sv ll x := by
  refine calls_cps fun R hR => ?_
  have HR := Lib.hid hR
  clear hR
  have lt0 : cb < w.heap.size + 1 := by omega
  go_enter Try.func76, Try.ntmps76
  go_upto_region 1 with (fail)
  have q0 := K6.new w (.int .i64 ar.n) (.int .i64 ar.d) (.int .i64 se.n) (.int .i64 se.d) (.int .i64 sv) (.int .i64 cp) 25
  have c0 := K1.alloc hc (.cells #[.int .i64 ar.n, .int .i64 ar.d, .int .i64 se.n, .int .i64 se.d, .int .i64 sv, .int .i64 cp] 25)
  have o0 : Off cb w.heap.size w (w.alloc (.cells #[.int .i64 ar.n, .int .i64 ar.d, .int .i64 se.n, .int .i64 se.d, .int .i64 sv, .int .i64 cp] 25)) := (Off.refl _ _ _).alloc (Nat.le_refl _) _
  have HX := Lib.hid (do_of (fsub oneF se))
  rw [← subE_ok oneF_ok hse] at HX
  obtain ⟨st, hst⟩ : ∃ st, doR 0 (subE oneF se) = st := ⟨_, rfl⟩
  obtain ⟨x0, hx0⟩ : ∃ x0, doX 0 (subE oneF se) = x0 := ⟨_, rfl⟩
  rw [hst, hx0] at HX
  have HST := Lib.hid hst
  have HX0 := Lib.hid hx0
  clear hst hx0
  go_cut [5] (fun s5 wx => ∃ sb : Nat, s5 = .pointer (some ⟨sb, 0, none⟩) ∧ w.heap.size < sb ∧ sb < wx.heap.size ∧ K2 wx sb (.int .i64 st.n) (.int .i64 st.d) ∧ K1 wx cb (.int .i64 x0) ∧ K6 wx w.heap.size (.int .i64 ar.n) (.int .i64 ar.d) (.int .i64 se.n) (.int .i64 se.d) (.int .i64 sv) (.int .i64 cp) ∧ Off cb w.heap.size w wx)
  case first =>
    go_region_held3 (fun W => K6 W w.heap.size (.int .i64 ar.n) (.int .i64 ar.d) (.int .i64 se.n) (.int .i64 se.d) (.int .i64 sv) (.int .i64 cp)) (first | exact q0 | exact K6.alloc q0 _ | exact K6.far2 q0 (by omega) _ _) (first | (go_at_call 53; refine (whole_any 1 _).mono ?_; rintro e w1 ⟨rfl, hb1⟩; replace q0 := K6.aft hb1 (by first | exact q0 | exact K6.alloc q0 _); replace c0 := K1.aft hb1 (by first | exact c0 | exact K1.alloc c0 _); (first | have s0 := K2.aft hb1 (K2.new1d w _ (.int .i64 0) (.int .i64 0) 23) | skip); replace o0 := Off.stepB (by first | exact o0.drew | exact (o0.alloc (by simp) _).drew) hb1 (by first | omega | (simp; done) | (simp; omega)); have hz1 := hb1.size; (try simp at hz1); clear hb1) | (go_at_call 52; refine (do_k 22 ent_sub (subE oneF se) oneF se (fun W => sub_any oneF se W) cb 0 _ (by first | exact c0 | exact K1.alloc c0 _)).mono ?_; rintro e w2 ⟨rfl, hc2, ho2⟩; rw [HST.out]; rw [HX0.out] at hc2; replace q0 := K6.oft ho2 (by first | exact q0 | exact K6.alloc q0 _) (by omega); (first | replace s0 := K2.oft ho2 s0 (by omega) | have s0 := K2.oft ho2 (K2.new _ (.int .i64 0) (.int .i64 0) 23) (by omega) | skip); replace o0 := Off.step (by first | exact o0 | exact o0.alloc (by omega) _) ho2 (by first | omega | (simp; done) | (simp; omega)); have hz2 := ho2.size; (try simp at hz2); clear ho2))
    · go_wp2_with fail
      go_meet
      exact ⟨w2.heap.size, rfl, by omega, by simp, K2.new _ _ _ _, K1.alloc hc2 _, K6.alloc q0 _, o0.alloc (by omega) _⟩
    · go_wp2_with fail
      go_meet
      exact ⟨w1.heap.size, rfl, by omega, by simp; omega, K2.set s0 _ _, K1.far2 hc2 (by omega) _ _, K6.far2 q0 (by omega) _ _, (o0.setCell (Or.inl (by show _ ≤ w1.heap.size; omega)) _).setCell (Or.inl (by show _ ≤ w1.heap.size; omega)) _⟩
    · go_wp2_with fail
      go_meet
      exact ⟨w.heap.size + 1, rfl, by omega, by simp; omega, K2.set s0 _ _, K1.far2 hc2 (by omega) _ _, K6.far2 q0 (by omega) _ _, (o0.setCell (Or.inl (by show _ ≤ w.heap.size + 1; omega)) _).setCell (Or.inl (by show _ ≤ w.heap.size + 1; omega)) _⟩
  case rest =>
    obtain ⟨sb, rfl, hsb1, hsb2, s1, c1, q1, o1⟩ := hcut
    clear q0 c0 o0 lt0
    have hcb := hc.2.2
    clear hc
    go_wp2_with fail
    refine (whole_any 1 _).mono ?_
    rintro e w1 ⟨rfl, hb1⟩
    replace s1 := K2.aft hb1 s1
    replace c1 := K1.aft hb1 c1
    replace q1 := K6.aft hb1 q1
    replace o1 := o1.stepB hb1 (by omega)
    have hz := hb1.size
    have hs2 : sb < w1.heap.size := by omega
    clear hb1 hsb2 hz
    go_wp2
    go_loopw [6, 7] (fun v6 v7 wr => ∃ J : Nat, 1 ≤ J ∧ J ≤ sv + 1 ∧ v7 = .int .i64 J ∧ OI cb sb w.heap.size (sb + 1) w.heap.size w ar se st sv cp J v6 wr) (fun _ v7 _ => sv + 1 - (intOf v7).toNat)
    case atStart =>
      have e1 := own_lit w1 #[.int .i64 1, .int .i64 1] 23 (sb + 1) 2 1 rfl (by simp [maxLen]) (by omega)
      have e2 := own_lit (w1.alloc (.cells #[.int .i64 1, .int .i64 1] 23)) #[.slice (some ⟨w1.heap.size, 0, none⟩) 1 1] 27 (sb + 1) 1 1 rfl (by simp [maxLen]) (by simp; omega)
      refine ⟨1, by omega, by omega, rfl, x0, [.slice (some ⟨w1.heap.size, 0, none⟩) 1 1], [[oneF]], K1.alloc (K1.alloc c1 _) _, K2.alloc (K2.alloc s1 _) _, K6.alloc (K6.alloc q1 _) _, (o1.alloc (by omega) _).alloc (by simp; omega) _, by simpa using e2, ?_, by simp; omega, ?_⟩
      · refine ⟨rfl, fun i u l h1 h2 => ?_⟩
        match i, h1, h2 with
        | 0, h1, h2 =>
          simp at h1 h2
          subst h1 h2
          exact ((RdG.of_own e1).after ((Below.refl _ _).alloc (Nat.le_refl _) _)).mono (Nat.le_refl _) (by simp)
        | i + 1, h1, h2 => simp at h1
      · refine ⟨fun i l hi => ?_, ?_⟩
        · match i, hi with
          | 0, hi => simp at hi; subst hi; rfl
          | i + 1, hi => simp at hi
        · rcases HX.out with ⟨h1, h2⟩ | ⟨h1, h2⟩
          · exact .inl ⟨h1, h2, rfl⟩
          · exact .inr ⟨h1, by unfold leaveQ; rw [h2]; rfl⟩
    case round =>
      obtain ⟨J, hJ1, hJ2, rfl, x, us, ll, c2, s2, q2, o2, hrows, hal, hlo, hR⟩ := hrel
      have HLV := Lib.hid hR
      have HAL := Lib.hid hal
      clear hR hal c1 s1 q1 o1
      obtain ⟨J', rfl⟩ : ∃ J', J = J' + 1 := ⟨J - 1, by omega⟩
      obtain ⟨g, cap, rfl, hgb, hgs⟩ := hrows.form (by omega)
      have HROWS := Lib.hid hrows
      have hul : us.length = J' + 1 := by have := hrows.1; omega
      obtain ⟨bv, hbv⟩ : ∃ bv, us[J']? = some bv := ⟨_, List.getElem?_eq_getElem (by omega)⟩
      obtain ⟨before, hbe⟩ : ∃ l, ll[J']? = some l := ⟨_, List.getElem?_eq_getElem (by have := HAL.out.1; omega)⟩
      have hcell := own_cell hrows hbv
      have hbf := HAL.out.2 J' bv before hbv hbe
      obtain ⟨bA, bc, rfl, hbc, hbl⟩ := hbf.form
      have HBF := Lib.hid hbf
      have HBV := Lib.hid hbv
      have HBE := Lib.hid hbe
      clear hrows hbf hbv hbe
      by_cases hJ : J' + 1 ≤ sv
      · have hJi : decide (((J' : Nat) : Int) + 1 ≤ (sv : Int)) = true := by simp; omega
        have hbl2 : before.length = J' + 1 := HLV.out.1 J' before HBE.out
        have HBL := Lib.hid hbl2
        clear hbl2
        go_wp2
        have L0 : LI cb sb w.heap.size wr.heap.size (sb + 1) (wr.heap.size + 1) w.heap.size w ar se st sv cp (J' + 1) (.slice (some ⟨g, 0, none⟩) (J' + 1) cap) (.slice bA before.length bc) us ll before 0 (.slice none 0 0) [] (wr.alloc (.cells #[.slice bA before.length bc] 27)) x :=
          { c := K1.alloc c2 _, s := K2.alloc s2 _, q := K6.alloc q2 _, b := K1.new _ _ _, bf := (HBF.out.after ((Below.refl _ _).alloc (Nat.le_refl _) _)).mono (Nat.le_refl _) (by simp), of := o2.alloc (by omega) _, rows := HROWS.out.alloc _, al := (HAL.out.off (Off.of_below ((Below.refl _ _).alloc (Nat.le_refl _) _)) (c := cb) (by omega)).mono (by simp), row := World.ownsRow_nil _ _ _ _, hs := by simp, lt := ⟨by omega, by omega, by omega, by omega, by omega, by omega, by omega, by omega, by omega⟩ }
        have HL0 := Lib.hid L0
        clear L0
        obtain ⟨wo, rfl⟩ : ∃ wo : World, wo = wr := ⟨_, rfl⟩
        go_loopw [10, 11] (fun v10 v11 wr => ∃ (k : Nat) (x : Int) (row : List Fr), k ≤ J' + 2 ∧ v11 = .int .i64 k ∧ LI cb sb w.heap.size wo.heap.size (sb + 1) (wo.heap.size + 1) w.heap.size w ar se st sv cp (J' + 1) (.slice (some ⟨g, 0, none⟩) (J' + 1) cap) (.slice bA before.length bc) us ll before k v10 row wr x ∧ LvI se sv st (J' + 1) ll before k row x) (fun _ v11 _ => J' + 2 - (intOf v11).toNat)
        case atStart =>
          refine ⟨0, x, [], by omega, rfl, HL0.out, rfl, ?_⟩
          rcases HLV.out.2 with ⟨h1, h2, h3⟩ | h1
          · exact .inl ⟨h1, h2, h3, rfl⟩
          · exact .inr h1
        case round =>
          clear c2 s2 q2 o2 hcell HL0 HBF HAL HROWS
          obtain ⟨k, x, row, hk, rfl, hL, hI⟩ := hrel
          have HI := Lib.hid hI
          clear hI
          by_cases hk2 : k ≤ J' + 1
          · have hki : decide ((k : Int) ≤ (J' : Int) + 1) = true := by simp; omega
            have wk : IntKind.i64.wrap ((k : Int) - 1) = (k : Int) - 1 := by rw [IntKind.wrap_i64]; omega
            have L := hL.drew
            clear hL
            obtain ⟨i0, hi0, hz0, hz1, hz2⟩ := info_parts info_frac
            go_upto_region 12 with (fail)
            go_region_held3 (fun W => K2 W sb (.int .i64 st.n) (.int .i64 st.d) ∧ K6 W w.heap.size (.int .i64 ar.n) (.int .i64 ar.d) (.int .i64 se.n) (.int .i64 se.d) (.int .i64 sv) (.int .i64 cp)) (first | exact ⟨L.s, L.q⟩ | exact ⟨K2.alloc L.s _, K6.alloc L.q _⟩) (first | (go_at_call 83; refine (at_any _ wo.heap.size (sb + 1) (wo.heap.size + 1) (.slice bA before.length bc) before _ (by exact L.b) (by exact L.bf)).mono ?_; rintro e w5 ⟨rfl, hb5⟩; replace L := L.below hb5; clear hb5) | (go_at_call 52; ((with_reducible refine (do_k 23 ent_mul (mulE _ _) _ _ (fun W => mul_any _ _ W) cb _ _ (by exact L.c)).mono ?_); rintro e w5 ⟨rfl, hc5, ho5⟩; replace L := L.off ho5 hc5; clear ho5 hc5)) | (go_at_call 52; refine (do_k 57 ent_add (addE _ _) _ _ (fun W => add_any _ _ W) cb _ _ (by exact L.c)).mono ?_; rintro e w5 ⟨rfl, hc5, ho5⟩; replace L := L.off ho5 hc5; clear ho5 hc5) | (refine step_append_lies _ (by rfl) _ _ _ (by rfl) (wo.heap.size + 1) 23 i0 _ 2 16 Try.underlying27 hi0 hz0 hz1 hz2 rfl (by omega) _ k (flat row) (by rfl) (L.row.alloc _) ⟨w5.heap.size, 0, none⟩ 1 1 [_, _] (by rfl) (by rfl) (World.news_of_block (heap_alloc_new w5 _)) (by simp [Value.oneCell']) (by omega) (by unfold maxLen; omega) (by omega) (by have := L.hs; simp; omega) (w5.heap.size + 1) (by simp) ?_; intro gg cap2 w6 hown6 hgrow6 hat6 hlt6; replace L := (L.below ((Below.refl _ _).alloc (Nat.le_refl _) _)).grown (row' := row ++ [cellR (at0 before k) (at0 before ((k : Int) - 1)) st se x]) hgrow6 (by rw [flat_append]; exact hown6)))
            have HLL := Lib.hid L
            clear L hown6 hgrow6 hat6 hlt6
            go_wp2
            go_roundw
            case rel =>
              have hrel : ∃ (k' : Nat) (x' : Int) (row' : List Fr), k' ≤ J' + 2 ∧ Value.int .i64 ((k : Int) + 1) = .int .i64 k' ∧ LI cb sb w.heap.size wo.heap.size (sb + 1) (wo.heap.size + 1) w.heap.size w ar se st sv cp (J' + 1) (.slice (some ⟨g, 0, none⟩) (J' + 1) cap) (.slice bA before.length bc) us ll before k' (Value.slice (some { block := gg, off := 0 }) (k + 1) cap2) row' w6 x' ∧ LvI se sv st (J' + 1) ll before k' row' x' := ⟨k + 1, _, _, by omega, by go_num, HLL.out, HI.out.step hse HBE.out hk2 hJ⟩
              first | exact hrel | ((repeat apply Exists.intro); exact ⟨hrel, rfl⟩)
            case measure => simp [intOf]; omega
          · have hke : k = J' + 2 := by omega
            subst hke
            have hki : decide (((J' + 2 : Nat) : Int) ≤ (J' : Int) + 1) = false := by first | (simp; done) | (simp; omega)
            obtain ⟨g2, cap2, rfl, hg2, hgs2⟩ := hL.row.form (by omega)
            obtain ⟨i1, hi1, hy0, hy1, hy2⟩ := info_parts info_fracs
            have L := hL
            clear hL
            go_wp2_with (at_builtin; refine wpList_append_lies _ rfl _ _ 40 rfl (sb + 1) 27 i1 _ 1 24 Try.underlying40 hi1 hy0 hy1 hy2 rfl (by omega) _ (J' + 1) us rfl (L.rows.alloc _) ⟨wr.heap.size, 0, none⟩ 1 1 [_] rfl rfl (World.news_of_block (heap_alloc_new wr _)) (by simp [Value.oneCell']) (by omega) (by unfold maxLen; omega) (by omega) (by have := L.hs; simp; omega) (wr.heap.size + 1) (by simp) ?_; intro g3 cap3 w6 hown6 hgrow6 hat6 hlt6)
            refine ⟨⟨J' + 2, by omega, by omega, by go_num, ?_⟩, by simp [intOf]; omega⟩
            have L1 := L.below ((Below.refl _ wr).alloc (Nat.le_refl _) (.cells #[.slice (some ⟨g2, 0, none⟩) (J' + 2) cap2] 27))
            have hgr : ∀ k, Value.ownBlock (.slice (some ⟨g, 0, none⟩) (J' + 1) cap) = some k → sb + 1 ≤ k := fun k hk => (L1.rows.lt k hk).1
            have hl := L1.lt
            have hrow : RdF (wr.alloc (.cells #[.slice (some ⟨g2, 0, none⟩) (J' + 2) cap2] 27)) (sb + 1) w6.heap.size (.slice (some ⟨g2, 0, none⟩) (J' + 2) cap2) row := by
              have e := RdG.of_own L1.row
              unfold RdF
              rw [HI.out.1]
              exact e.mono (by omega) hgrow6.size
            exact ⟨x, _, _, K1.grown L1.c hgrow6 (fun g e => by have := hgr g e; omega), K2.grown L1.s hgrow6 (fun g e => by have := hgr g e; omega), K6.grown L1.q hgrow6 (fun g e => by have := hgr g e; omega), L1.of.grown hgrow6 (by have := L1.hs; omega) (fun g e => by have := hgr g e; omega), hown6, ((L1.al.mono (Nat.le_trans L1.hs hgrow6.size)).snoc hrow).grownT hgrow6 L1.rows (by decide), by have := L1.hs; have := hgrow6.size; omega, HI.out.done HLV.out.1 (by rw [← L1.al.1]; exact hul) HBE.out⟩
      · have hJe : J' = sv := by omega
        have hwf := HLV.out
        go_wp2
        refine HR.out _ _ ⟨_, ll, x, rfl, c2, o2, ⟨us, ?_, ⟨HAL.out.1, fun i u l a b => RdG.mono (HAL.out.2 i u l a b) (by omega) (Nat.le_refl _)⟩⟩, ?_⟩
        · rw [show ll.length = J' + 1 from by rw [← HAL.out.1]; exact hul]
          exact (RdG.of_own HROWS.out).mono (by omega) (Nat.le_refl _)
        · subst hJe
          exact hwf.done (by rw [← HAL.out.1]; exact hul)

end Go.Proofs.Ythlgkomhnhkooaa
