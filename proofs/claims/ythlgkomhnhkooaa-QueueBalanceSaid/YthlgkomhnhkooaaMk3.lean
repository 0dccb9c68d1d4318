/-
  Walks of casebook/markov: column, IsStationary, for chains and distributions that are right. Conditions: as each theorem says.
-/
import Derived.Test.YthlgkomhnhkooaaMk2
import Derived.Test.YthlgkomhnhkooaaQueue4
namespace Go.Proofs.Ythlgkomhnhkooaa
set_option linter.unusedSimpArgs false
set_option linter.unusedVariables false
open Go.RowKit

def colS (rows : List (List Fr)) (j : Nat) : List Fr := rows.map fun l => gt l j
theorem colS_take (rows : List (List Fr)) (j k : Nat) (h : k < rows.length) : (colS rows j).take (k + 1) = (colS rows j).take k ++ [gt (rw' rows k) j] := by
  have e : (colS rows j)[k]? = some (gt (rw' rows k) j) := by
    unfold colS
    rw [List.getElem?_map, rw_get h]
    rfl
  rw [List.take_add_one, e]
  rfl

set_option maxHeartbeats 2000000 in
theorem column_ok (rows : List (List Fr)) (j lo hi : Nat) (v : Value) (w : World) (hv : RdFF w lo hi v rows) (hh : hi ≤ w.heap.size) (hj : ∀ l ∈ rows, j < l.length) (hl : rows.length ≤ 1000) :
    Calls Try.prog 69 #[.agg #[v], .int .i64 j] w fun e w' => ∃ u, e = .returned u ∧ RdF w' w.heap.size w'.heap.size u (colS rows j) ∧ Below w.heap.size w w' := by
  obtain ⟨A, c, rfl, hlc, hm⟩ := hv.form
  have HJ := Lib.hid hj
  have b0 : Below w.heap.size w (w.alloc (.cells #[.slice A rows.length c] 42)) := (Below.refl _ _).alloc (Nat.le_refl _) _
  have M0 : Mem [Loc.rdFF lo hi (.slice A rows.length c) rows, Loc.bl w.heap.size w] (w.alloc (.cells #[.slice A rows.length c] 42)) := ⟨hv.after b0, ⟨b0, b0.size⟩, True.intro⟩
  have HM0 := Lib.hid M0
  clear hv hj b0 M0
  refine calls_cps fun R hR => ?_
  have HR := Lib.hid hR
  clear hR
  go_enter Try.func69, Try.ntmps69
  go_wp2
  go_loopw [5, 11] (fun v5 v11 wr => ∃ k : Nat, k ≤ rows.length ∧ v11 = .int .i64 k ∧ wr.ownsRow w.heap.size 23 2 v5 k (flat ((colS rows j).take k)) ∧ Mem [Loc.rdFF lo hi (.slice A rows.length c) rows, Loc.bl w.heap.size w] wr) (fun _ v11 _ => rows.length - (intOf v11).toNat)
  case atStart => exact ⟨0, by omega, rfl, World.ownsRow_nil _ _ _ _, HM0.out⟩
  case round =>
    clear HM0
    obtain ⟨k, hk, rfl, hown, M⟩ := hrel
    have HO := Lib.hid hown
    clear hown
    by_cases hlt : k < rows.length
    · have hkd : decide ((k : Int) < (rows.length : Int)) = true := by simp; omega
      have hkb : (k : Int) < (rows.length : Int) := by omega
      obtain ⟨b1, o1, u1, rfl, _, f1, g1⟩ := RdFF.at_ M.1 (rw_get hlt)
      obtain ⟨B1, d1, rfl, _, _⟩ := g1.form
      have hjl : j < (rw' rows k).length := HJ.out _ (List.mem_of_getElem? (rw_get hlt))
      have hjb : (j : Int) < ((rw' rows k).length : Int) := by omega
      obtain ⟨b2, o2, rfl, _, _, f2, f3⟩ := g1.at2 (gt_get hjl)
      have HT := Lib.hid (colS_take rows j k hlt)
      obtain ⟨i0, hi0, hz0, hz1', hz2'⟩ := info_parts info_frac
      generalize gt (rw' rows k) j = a at *
      have hzw : w.heap.size ≤ wr.heap.size := M.2.1.2
      have M1 := M.alloc (.cells #[.int .i64 a.n, .int .i64 a.d] 23)
      have ho1 := HO.out.alloc (.cells #[.int .i64 a.n, .int .i64 a.d] 23)
      clear g1 M
      go_wp2_with (at_builtin; refine wpList_append_lies _ rfl _ _ 27 rfl w.heap.size 23 i0 _ 2 16 Try.underlying27 hi0 hz0 hz1' hz2' rfl (by omega) _ k (flat ((colS rows j).take k)) rfl ho1 ⟨wr.heap.size, 0, none⟩ 1 1 [_, _] rfl rfl (World.news_of_block (heap_alloc_new wr _)) (by simp [Value.oneCell']) (by omega) (by unfold maxLen; omega) (by omega) (by simp; omega) (wr.heap.size + 1) (by simp) ?_; intro g3 cap3 w6 hown6 hgrow6 hat6 hlt6; replace M1 := Mem.grownO M1 hgrow6 ho1 (by (repeat' (first | exact True.intro | refine And.intro (fun k hk e => ?_) ?_)) <;> (first | exact e | ((try dsimp only [Loc.c1, Loc.c2, Loc.k1, Loc.k2, Loc.k6, Loc.rdF, Loc.rdFF, Loc.all2, Loc.fr, Loc.bl, Loc.own, Loc.sz] at hk e) <;> omega))); have HO6 : Hid (w6.ownsRow w.heap.size 23 2 (.slice (some ⟨g3, 0, none⟩) (k + 1) cap3) (k + 1) (flat ((colS rows j).take (k + 1)))) := Lib.hid (by rw [HT.out, flat_append]; exact hown6); clear hown6 hgrow6 hat6 hlt6 ho1)
      go_roundw
      case rel => exact ⟨k + 1, by omega, by go_num, HO6.out, M1⟩
      case measure => first | (simp [intOf]; done) | (simp [intOf]; omega)
    · have hkd : decide ((k : Int) < (rows.length : Int)) = false := by simp; omega
      obtain rfl : k = rows.length := by omega
      have HM := Lib.hid M
      clear M
      go_wp2_with fail
      refine HR.out _ _ ⟨_, rfl, ?_, HM.out.2.1.1⟩
      have e : (colS rows j).take rows.length = colS rows j := List.take_of_length_le (by unfold colS; simp)
      have := RdG.of_own HO.out
      rw [e] at this
      unfold RdF
      rw [show (colS rows j).length = rows.length by unfold colS; simp]
      exact this

theorem colS_nn {rows : List (List Fr)} (h : ∀ l ∈ rows, ∀ a ∈ l, nn a) (j : Nat) : ∀ a ∈ colS rows j, nn a := by
  intro a ha
  unfold colS at ha
  obtain ⟨l, hl, rfl⟩ := List.mem_map.1 ha
  exact gt_nn (h l hl) j

set_option maxRecDepth 100000 in
set_option maxHeartbeats 4000000 in
theorem isStationary_ok (rows : List (List Fr)) (p : List Fr) (lo hi lo2 hi2 : Nat) (v v2 : Value) (w : World) (hv : RdFF w lo hi v rows) (hv2 : RdF w lo2 hi2 v2 p) (hh : hi ≤ w.heap.size ∧ hi2 ≤ w.heap.size) (hc : ChainOk rows) (hp : DistOk p rows.length)
    (hst : ∀ (j : Nat) (a : Fr), j < p.length → dotS p (colS rows j) p.length = some a → a = gt p j) :
    Calls Try.prog 37 #[.agg #[v], v2] w fun e w' => ∃ (x : Bool) (z : Int), e = .returned (.tuple #[.bool x, .int .i64 z]) ∧ Below w.heap.size w w' ∧ ((x = true ∧ z = 0) ∨ (x = false ∧ z = 6)) := by
  obtain ⟨A, c, rfl, hlc, hm⟩ := hv.form
  obtain ⟨A2, c2, rfl, hlc2, hm2⟩ := hv2.form
  have HC := Lib.hid hc
  have HP := Lib.hid hp
  have HST := Lib.hid hst
  have hpl : rows.length ≤ p.length ∧ p.length ≤ rows.length := by rw [hp.1]; omega
  have hr20 := hc.2.1
  have b0 : Below w.heap.size w (w.alloc (.cells #[.slice A rows.length c] 42)) := (Below.refl _ _).alloc (Nat.le_refl _) _
  have M0 : Mem [Loc.k1 w.heap.size (.slice A rows.length c), Loc.rdFF lo hi (.slice A rows.length c) rows, Loc.rdF lo2 hi2 (.slice A2 p.length c2) p, Loc.bl w.heap.size w] (w.alloc (.cells #[.slice A rows.length c] 42)) := ⟨K1.new _ _ _, hv.after b0, RdG.after hv2 b0, ⟨b0, b0.size⟩, True.intro⟩
  clear hv hv2 hc hp hst b0
  have c0 := M0.1
  refine calls_cps fun R hR => ?_
  have HR := Lib.hid hR
  clear hR
  go_enter Try.func37, Try.ntmps37
  go_wp2_with fail
  refine (mvalid_ok rows lo hi _ _ M0.2.1 (by simp; omega) HC.out).mono ?_
  rintro e w1 ⟨rfl, hb1⟩
  replace M0 := M0.below hb1
  have hz1 := hb1.size
  simp at hz1
  clear hb1 c0
  have c0 := M0.1
  go_wp2_with fail
  refine (distribution_ok p rows.length lo2 hi2 _ _ M0.2.2.1 (by omega) HP.out).mono ?_
  rintro e w2 ⟨rfl, hb2⟩
  replace M0 := M0.below hb2
  have hz2 := hb2.size
  clear hb2 c0
  have HM0 := Lib.hid M0
  clear M0
  go_wp2
  go_loopw [22] (fun v22 wr => ∃ j : Nat, j ≤ p.length ∧ v22 = .int .i64 j ∧ w2.heap.size ≤ wr.heap.size ∧ Mem [Loc.k1 w.heap.size (.slice A rows.length c), Loc.rdFF lo hi (.slice A rows.length c) rows, Loc.rdF lo2 hi2 (.slice A2 p.length c2) p, Loc.bl w.heap.size w] wr) (fun v22 _ => p.length - (intOf v22).toNat)
  case atStart => exact ⟨0, by omega, rfl, Nat.le_refl _, HM0.out⟩
  case round =>
    clear HM0
    obtain ⟨j, hj, rfl, hzr, M⟩ := hrel
    by_cases hlt : j < p.length
    · have hjd : decide ((j : Int) < (p.length : Int)) = true := by simp; omega
      have hjb : (j : Int) < (p.length : Int) := by omega
      have c1 := M.1
      go_wp2_with fail
      refine (column_ok rows j lo hi _ _ M.2.1 (by omega) (fun l hl => by rw [(HC.out.2.2 l hl).1]; omega) (by omega)).mono ?_
      rintro e w3 ⟨u, rfl, rf3, hb3⟩
      have hz3 := hb3.size
      replace M := M.below hb3
      clear hb3 c1
      have hcl : (colS rows j).length = p.length := by unfold colS; simp; omega
      have hpo := HP.out.2.2.1
      have hco := colS_nn (fun l hl => (HC.out.2.2 l hl).2.2.1) j
      obtain ⟨o, ho⟩ : ∃ o, dotS p (colS rows j) p.length = o := ⟨_, rfl⟩
      have HO := Lib.hid ho
      have HS := Lib.hid (HST.out j · hlt)
      have HDO := Lib.hid (Dot_ok p (colS rows j) lo2 hi2 wr.heap.size w3.heap.size _ u w3 M.2.2.1 rf3 (nn_all hpo) (nn_all hco) hcl.symm (by omega) ⟨by omega, Nat.le_refl _⟩)
      clear hcl hpo hco ho rf3
      go_wp2_with fail
      refine HDO.out.mono ?_
      rintro e w4 ⟨rfl, hb4⟩
      rw [HO.out]
      replace M := M.below hb4
      have hz4 := hb4.size
      clear hb4 HDO
      cases o with
      | none =>
        have hof : FE.of none = ⟨0, 0, 6⟩ := rfl
        rw [hof]
        clear hof
        have HM := Lib.hid M
        clear M
        go_wp2_with fail
        exact HR.out _ _ ⟨false, 6, rfl, HM.out.2.2.2.1.1.alloc HM.out.2.2.2.1.2 _, .inr ⟨rfl, rfl⟩⟩
      | some a =>
        have hof : FE.of (some a) = ⟨a.n, a.d, 0⟩ := rfl
        rw [hof]
        clear hof
        have hag : a = gt p j := HS.out a HO.out
        subst hag
        obtain ⟨b2, off2, hA2, lo4, hi4, f3, f4⟩ := RdF.at2 M.2.2.1 (gt_get hlt)
        subst hA2
        have t7 := K2.new w4 (.int .i64 (gt p j).n) (.int .i64 (gt p j).d) 23
        have S : Mem [Loc.c2 b2 (off2 + j * 2) (.int .i64 (gt p j).n) (.int .i64 (gt p j).d)] w4 := ⟨⟨f3, f4⟩, True.intro⟩
        replace S := S.alloc (.cells #[.int .i64 (gt p j).n, .int .i64 (gt p j).d] 23)
        have f34 := S.1
        replace M := M.alloc (.cells #[.int .i64 (gt p j).n, .int .i64 (gt p j).d] 23)
        have HM := Lib.hid M
        clear f3 f4 M S
        generalize gt p j = x at *
        go_wp2_with fail
        go_quiet (fail)
        go_wp2_with fail
        go_roundw
        case rel =>
          refine ⟨j + 1, by omega, by go_num, ?_, HM.out.drewN _⟩
          have : w2.heap.size ≤ (w4.alloc (.cells #[.int .i64 x.n, .int .i64 x.d] 23)).heap.size := by simp; omega
          exact this
        case measure => first | (simp [intOf]; done) | (simp [intOf]; omega)
    · have hjd : decide ((j : Int) < (p.length : Int)) = false := by simp; omega
      have HM := Lib.hid M
      clear M
      go_wp2_with fail
      exact HR.out _ _ ⟨true, 0, rfl, HM.out.2.2.2.1.1, .inl ⟨rfl, rfl⟩⟩

end Go.Proofs.Ythlgkomhnhkooaa
