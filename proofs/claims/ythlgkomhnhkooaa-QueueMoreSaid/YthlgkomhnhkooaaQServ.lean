/-
  Walks of casebook/queue's and casebookref52's Servers. Conditions: none.
-/
import Derived.Test.YthlgkomhnhkooaaQueue13
import Derived.Test.YthlgkomhnhkooaaQRef8
namespace Go.Proofs.Ythlgkomhnhkooaa
set_option linter.unusedSimpArgs false
set_option linter.unusedVariables false
open Go.RowKit

/-- the number of servers, and the error: r numbers are left to be tried, k is the next one -/
def servS (ar se : Fr) (cp : Nat) (loss : Fr) : Nat → Nat → Int × Int
  | 0, _ => (0, 10)
  | r + 1, k => match lossQ ar se k cp with
    | none => (0, 6)
    | some x => if cmpN x loss ≤ 0 then ((k : Int), 0) else servS ar se cp loss r (k + 1)
def servA (ar se : Fr) (sv cp : Int) (loss : Fr) : Int × Int := if qokB ar se sv cp && loss.okB then servS ar se cp.toNat loss (min cp.toNat 8) 1 else (0, 1)
theorem servS_step {ar se loss : Fr} {cp r k : Nat} {x : Fr} (h : lossQ ar se k cp = some x) : servS ar se cp loss (r + 1) k = if cmpN x loss ≤ 0 then ((k : Int), 0) else servS ar se cp loss r (k + 1) := by
  show (match lossQ ar se k cp with | none => _ | some x => _) = _
  rw [h]
theorem servS_none {ar se loss : Fr} {cp r k : Nat} (h : lossQ ar se k cp = none) : servS ar se cp loss (r + 1) k = (0, 6) := by
  show (match lossQ ar se k cp with | none => _ | some x => _) = _
  rw [h]
theorem QOk.with {ar se : Fr} {sv cp k : Nat} (h : QOk ar se sv cp) (h1 : 1 ≤ k) (h2 : k ≤ 8) (h3 : k ≤ cp) : QOk ar se k cp := ⟨h.oa, h.os, h.a1, h.a2, h.s1, h.s2, h1, h2, h3, h.c2⟩
theorem meanA_ok {o : Nat → Nat → Option Fr} {ar se : Fr} {s c : Nat} (hq : QOk ar se s c) : meanA o ar se s c = FE.of (o s c) :=
  (meanA_of (P := fun s' c' => s' = s ∧ c' = c) (.inr ⟨s, c, rfl, rfl, hq, rfl, rfl⟩) (fun s' c' _ h => by rw [h.1, h.2])).symm

/-- a queue in a variable of the call's own whose number of servers is written -/
abbrev K6w (w : World) (g : Nat) (a b c d e f : Value) : Prop := K6 w g a b c d e f ∧ w.frozen? ⟨g, 4, none⟩ = false
theorem K6w.of_block {W W' : World} {g : Nat} {a b c d e f : Value} (h : K6w W g a b c d e f) (he : W'.heap[g]? = W.heap[g]?) (hs : W.heap.size ≤ W'.heap.size) : K6w W' g a b c d e f :=
  ⟨K6.of_block h.1 he hs, (World.frozen?_of_block (w := W) he).trans h.2⟩
theorem K6w.aft {W w1 : World} {g : Nat} {a b c d e f : Value} (hb : Below W.heap.size W w1) (h : K6w W g a b c d e f) : K6w w1 g a b c d e f := K6w.of_block h (hb.block g h.1.2.2.2.2.2.2) hb.size
theorem K6w.alloc {W : World} {g : Nat} {a b c d e f : Value} (h : K6w W g a b c d e f) (o : Obj) : K6w (W.alloc o) g a b c d e f := K6w.aft ((Below.refl W.heap.size W).alloc (Nat.le_refl _) o) h
theorem K6w.new (W : World) (a b c d e f : Value) (t : TypeId) : K6w (W.alloc (.cells #[a, b, c, d, e, f] t)) W.heap.size a b c d e f := by simp [K6w, K6, go_sem]
theorem K6w.set {W : World} {g : Nat} {a b c d e f : Value} (h : K6w W g a b c d e f) (u : Value) : K6w (W.setCell ⟨g, 4, none⟩ u) g a b c d u f := by
  obtain ⟨⟨h1, h2, h3, h4, h5, h6, h7⟩, h8⟩ := h
  exact ⟨⟨by simp [go_sem, h1], by simp [go_sem, h2], by simp [go_sem, h3], by simp [go_sem, h4], by simp [go_sem, h5], by simp [go_sem, h6], by simpa using h7⟩, by simp [go_sem, h8]⟩

set_option maxRecDepth 100000 in
set_option maxHeartbeats 8000000 in
theorem Servers_any (ar se : Fr) (sv cp : Int) (loss : Fr) (w : World) :
    Calls Try.prog 29 #[.agg #[.int .i64 ar.n, .int .i64 ar.d, .int .i64 se.n, .int .i64 se.d, .int .i64 sv, .int .i64 cp], .agg #[.int .i64 (loss).n, .int .i64 (loss).d]] w fun e w' => e = .returned (.tuple #[.int .i64 (servA ar se sv cp loss).1, .int .i64 (servA ar se sv cp loss).2]) ∧ Below w.heap.size w w' := by
  refine calls_cps fun R hR => ?_
  have HR := Lib.hid hR
  clear hR
  go_enter Try.func29, Try.ntmps29
  go_wp2_with fail
  have q0 := K6w.alloc (K6w.new w (.int .i64 ar.n) (.int .i64 ar.d) (.int .i64 se.n) (.int .i64 se.d) (.int .i64 sv) (.int .i64 cp) 25) (.cells #[.int .i64 loss.n, .int .i64 loss.d] 23)
  have l0 := K2.new (w.alloc (.cells #[.int .i64 ar.n, .int .i64 ar.d, .int .i64 se.n, .int .i64 se.d, .int .i64 sv, .int .i64 cp] 25)) (.int .i64 loss.n) (.int .i64 loss.d) 23
  simp only [World.size_alloc] at l0
  have M0 : Mem [Loc.k2 (w.heap.size + 1) (.int .i64 loss.n) (.int .i64 loss.d), Loc.bl w.heap.size w] _ := ⟨l0, ⟨((Below.refl _ w).alloc (Nat.le_refl _) (.cells #[.int .i64 ar.n, .int .i64 ar.d, .int .i64 se.n, .int .i64 se.d, .int .i64 sv, .int .i64 cp] 25)).alloc (by simp) _, by simp; omega⟩, True.intro⟩
  refine (qvalid_any ar se sv cp _).mono ?_
  rintro e w1 ⟨rfl, hb1⟩
  replace M0 := M0.below hb1
  replace q0 := K6w.aft hb1 q0
  clear hb1 l0
  cases hv : qokB ar se sv cp with
  | false =>
    have HA : Hid (servA ar se sv cp loss = (0, 1)) := Lib.hid (by unfold servA; rw [hv]; rfl)
    have HB := Lib.hid M0.2.1.1
    clear M0 hv
    go_wp2_with fail
    exact HR.out _ _ ⟨by rw [HA.out]; rfl, HB.out⟩
  | true =>
    obtain ⟨s, c, rfl, rfl, hq⟩ := QOk.of_qokB hv
    have l1 := M0.1
    have HV := Lib.hid hv
    clear hv
    go_wp2_with fail
    refine (fracValid_any loss _).mono ?_
    rintro e w2 ⟨rfl, hb2⟩
    replace M0 := M0.below hb2
    replace q0 := K6w.aft hb2 q0
    clear hb2 l1
    cases hl : loss.okB with
    | false =>
      have HA : Hid (servA ar se s c loss = (0, 1)) := Lib.hid (by unfold servA; rw [hl, HV.out]; rfl)
      have HB := Lib.hid M0.2.1.1
      clear M0 hl
      go_wp2_with fail
      exact HR.out _ _ ⟨by rw [HA.out]; rfl, HB.out⟩
    | true =>
      have HA : Hid (servA ar se s c loss = servS ar se c loss (min c 8) 1) := Lib.hid (by unfold servA; rw [hl, HV.out]; simp)
      have hlo : loss.ok := (Fr.okB_iff _).1 hl
      clear hl
      have hc1 := hq.c1
      have hc2 := hq.c2
      have hv1 := hq.v1
      obtain ⟨L, hL⟩ : ∃ L, min c 8 = L := ⟨_, rfl⟩
      rw [hL] at HA
      have hL1 : L ≤ c ∧ L ≤ 8 := by omega
      have hL2 : c ≤ L ∨ 8 ≤ L := by omega
      clear hL
      go_wp2
      go_loopw [6] (fun v6 wr => ∃ (k : Nat) (sx : Int), 1 ≤ k ∧ k ≤ L + 1 ∧ v6 = .int .i64 k ∧ K6w wr w.heap.size (.int .i64 ar.n) (.int .i64 ar.d) (.int .i64 se.n) (.int .i64 se.d) (.int .i64 sx) (.int .i64 c) ∧ Mem [Loc.k2 (w.heap.size + 1) (.int .i64 loss.n) (.int .i64 loss.d), Loc.bl w.heap.size w] wr ∧ servS ar se c loss L 1 = servS ar se c loss (L + 1 - k) k) (fun v6 _ => L + 1 - (intOf v6).toNat)
      case atStart => exact ⟨1, s, by omega, by omega, rfl, q0, M0, rfl⟩
      case round =>
        clear q0 M0
        obtain ⟨k, sx, hk1, hk2, rfl, q1, M, hI⟩ := hrel
        have HI := Lib.hid hI
        clear hI
        by_cases hkL : k ≤ L
        · have hkq := hq.with (k := k) hk1 (by omega) (by omega)
          obtain ⟨o, ho⟩ : ∃ o, lossQ ar se k c = o := ⟨_, rfl⟩
          have HO := Lib.hid ho
          have HG := Lib.hid (fun x (h : o = some x) => lossQ_good hkq (ho.trans h))
          have HE : Hid (meanA (lossQ ar se) ar se k c = FE.of o) := Lib.hid (by rw [meanA_ok hkq, ho])
          clear ho hkq
          have hzq := q1.1.2.2.2.2.2.2
          by_cases hc8 : (c : Int) ≤ 8
          all_goals
            have hkc : (k : Int) ≤ (c : Int) := by omega
            have hk8 : (k : Int) ≤ 8 := by omega
            go_wp2_with fail
            have q2 := K6w.set q1 (.int .i64 k)
            have M2 := M.set (g := w.heap.size) (i := 4) (u := .int .i64 k) (by (repeat' (first | exact True.intro | refine And.intro (fun k hk e => ?_) ?_)) <;> (first | exact e | ((try dsimp only [Loc.c1, Loc.c2, Loc.k1, Loc.k2, Loc.k6, Loc.rdF, Loc.rdFF, Loc.all2, Loc.fr, Loc.bl, Loc.own, Loc.sz] at hk e) <;> omega)))
            refine (LossA_any ar se k c _).mono ?_
            rintro e w4 ⟨rfl, hb4⟩
            rw [HE.out]
            replace q2 := K6w.alloc (K6w.aft hb4 q2) (.cells #[.int .i64 (FE.of o).n, .int .i64 (FE.of o).d] 23)
            replace M2 := (M2.below hb4).alloc (.cells #[.int .i64 (FE.of o).n, .int .i64 (FE.of o).d] 23)
            clear hb4 M
            cases o with
            | none =>
              have HF : Hid (servS ar se c loss L 1 = (0, 6)) := Lib.hid (by rw [HI.out, show L + 1 - k = (L - k) + 1 by omega]; exact servS_none HO.out)
              have HB := Lib.hid M2.2.1.1
              clear M2
              have hof : FE.of none = ⟨0, 0, 6⟩ := rfl
              rw [hof]
              clear hof
              go_wp2_with fail
              exact HR.out _ _ ⟨by first | (rw [HA.out, HF.out]; done) | (rw [HA.out, HF.out]; rfl), HB.out⟩
            | some x =>
              replace M2 : Mem [Loc.k2 (w.heap.size + 1) (.int .i64 loss.n) (.int .i64 loss.d), Loc.bl w.heap.size w] (w4.alloc (.cells #[.int .i64 x.n, .int .i64 x.d] 23)) := M2
              replace q2 : K6w (w4.alloc (.cells #[.int .i64 x.n, .int .i64 x.d] 23)) w.heap.size (.int .i64 ar.n) (.int .i64 ar.d) (.int .i64 se.n) (.int .i64 se.d) (.int .i64 k) (.int .i64 c) := q2
              have hof : FE.of (some x) = ⟨x.n, x.d, 0⟩ := rfl
              rw [hof]
              clear hof
              have x1 := K2.new w4 (.int .i64 x.n) (.int .i64 x.d) 23
              have l1 := M2.1
              have hxo := (HG.out x rfl).1.1
              have HC : Hid ((x.okB && loss.okB) = true) := Lib.hid (by rw [Fr.okB_of hxo, Fr.okB_of hlo]; rfl)
              have HF : Hid (servS ar se c loss L 1 = if cmpN x loss ≤ 0 then ((k : Int), 0) else servS ar se c loss (L + 1 - (k + 1)) (k + 1)) := Lib.hid (by rw [HI.out, show L + 1 - k = (L - k) + 1 by omega, servS_step HO.out, show L + 1 - (k + 1) = L - k by omega])
              clear hxo
              go_wp2_with fail
              refine (cmp_any x loss _).mono ?_
              rintro e w5 ⟨rfl, hb5⟩
              rw [if_pos HC.out, if_pos HC.out]
              have HM5 := Lib.hid (M2.below hb5)
              have HQ5 := Lib.hid (K6w.aft hb5 q2)
              generalize hcm : cmpN x loss = cm at *
              clear hb5 M2 q2 x1 l1 hcm
              by_cases hcm0 : cm ≤ 0
              · have HF2 := Lib.hid (HF.out.trans (if_pos hcm0))
                go_wp2_with fail
                exact HR.out _ _ ⟨by first | (rw [HA.out, HF2.out]; done) | (rw [HA.out, HF2.out]; rfl), HM5.out.2.1.1⟩
              · have HF2 := Lib.hid (HF.out.trans (if_neg hcm0))
                go_wp2_with fail
                go_roundw
                case rel =>
                  have hrel : ∃ (k' : Nat) (sx' : Int), 1 ≤ k' ∧ k' ≤ L + 1 ∧ Value.int .i64 ((k : Int) + 1) = .int .i64 k' ∧ K6w w5 w.heap.size (.int .i64 ar.n) (.int .i64 ar.d) (.int .i64 se.n) (.int .i64 se.d) (.int .i64 sx') (.int .i64 c) ∧ Mem [Loc.k2 (w.heap.size + 1) (.int .i64 loss.n) (.int .i64 loss.d), Loc.bl w.heap.size w] w5 ∧ servS ar se c loss L 1 = servS ar se c loss (L + 1 - k') k' := ⟨k + 1, k, by omega, by omega, by go_num, HQ5.out, HM5.out, HF2.out⟩
                  first | exact hrel | ((repeat apply Exists.intro); exact ⟨hrel, rfl⟩)
                case measure => first | (simp [intOf]; done) | (simp [intOf]; omega)
        · obtain rfl : k = L + 1 := by omega
          have HF : Hid (servS ar se c loss L 1 = (0, 10)) := Lib.hid (by rw [HI.out, show L + 1 - (L + 1) = 0 by omega]; rfl)
          have HB := Lib.hid M.2.1.1
          clear M
          by_cases hc8 : (c : Int) ≤ 8
          all_goals
            go_wp2_with fail
            exact HR.out _ _ ⟨by first | (rw [HA.out, HF.out]; done) | (rw [HA.out, HF.out]; rfl), HB.out⟩

set_option maxRecDepth 100000 in
set_option maxHeartbeats 8000000 in
theorem rServers_any (ar se : Fr) (sv cp : Int) (loss : Fr) (w : World) :
    Calls Try.prog 30 #[.agg #[.int .i64 ar.n, .int .i64 ar.d, .int .i64 se.n, .int .i64 se.d, .int .i64 sv, .int .i64 cp], .agg #[.int .i64 (loss).n, .int .i64 (loss).d]] w fun e w' => e = .returned (.tuple #[.int .i64 (servA ar se sv cp loss).1, .int .i64 (servA ar se sv cp loss).2]) ∧ Below w.heap.size w w' := by
  refine calls_cps fun R hR => ?_
  have HR := Lib.hid hR
  clear hR
  go_enter Try.func30, Try.ntmps30
  go_wp2_with fail
  have q0 := K6w.alloc (K6w.new w (.int .i64 ar.n) (.int .i64 ar.d) (.int .i64 se.n) (.int .i64 se.d) (.int .i64 sv) (.int .i64 cp) 25) (.cells #[.int .i64 loss.n, .int .i64 loss.d] 23)
  have l0 := K2.new (w.alloc (.cells #[.int .i64 ar.n, .int .i64 ar.d, .int .i64 se.n, .int .i64 se.d, .int .i64 sv, .int .i64 cp] 25)) (.int .i64 loss.n) (.int .i64 loss.d) 23
  simp only [World.size_alloc] at l0
  have M0 : Mem [Loc.k2 (w.heap.size + 1) (.int .i64 loss.n) (.int .i64 loss.d), Loc.bl w.heap.size w] _ := ⟨l0, ⟨((Below.refl _ w).alloc (Nat.le_refl _) (.cells #[.int .i64 ar.n, .int .i64 ar.d, .int .i64 se.n, .int .i64 se.d, .int .i64 sv, .int .i64 cp] 25)).alloc (by simp) _, by simp; omega⟩, True.intro⟩
  refine (rqvalid_any ar se sv cp _).mono ?_
  rintro e w1 ⟨rfl, hb1⟩
  replace M0 := M0.below hb1
  replace q0 := K6w.aft hb1 q0
  clear hb1 l0
  cases hv : qokB ar se sv cp with
  | false =>
    have HA : Hid (servA ar se sv cp loss = (0, 1)) := Lib.hid (by unfold servA; rw [hv]; rfl)
    have HB := Lib.hid M0.2.1.1
    clear M0 hv
    go_wp2_with fail
    exact HR.out _ _ ⟨by rw [HA.out]; rfl, HB.out⟩
  | true =>
    obtain ⟨s, c, rfl, rfl, hq⟩ := QOk.of_qokB hv
    have l1 := M0.1
    have HV := Lib.hid hv
    clear hv
    go_wp2_with fail
    refine (rvalid_any loss _).mono ?_
    rintro e w2 ⟨rfl, hb2⟩
    replace M0 := M0.below hb2
    replace q0 := K6w.aft hb2 q0
    clear hb2 l1
    cases hl : loss.okB with
    | false =>
      have HA : Hid (servA ar se s c loss = (0, 1)) := Lib.hid (by unfold servA; rw [hl, HV.out]; rfl)
      have HB := Lib.hid M0.2.1.1
      clear M0 hl
      go_wp2_with fail
      exact HR.out _ _ ⟨by rw [HA.out]; rfl, HB.out⟩
    | true =>
      have HA : Hid (servA ar se s c loss = servS ar se c loss (min c 8) 1) := Lib.hid (by unfold servA; rw [hl, HV.out]; simp)
      have hlo : loss.ok := (Fr.okB_iff _).1 hl
      clear hl
      have hc1 := hq.c1
      have hc2 := hq.c2
      have hv1 := hq.v1
      obtain ⟨L, hL⟩ : ∃ L, min c 8 = L := ⟨_, rfl⟩
      rw [hL] at HA
      have hL1 : L ≤ c ∧ L ≤ 8 := by omega
      have hL2 : c ≤ L ∨ 8 ≤ L := by omega
      clear hL
      go_wp2
      go_loopw [6] (fun v6 wr => ∃ (k : Nat) (sx : Int), 1 ≤ k ∧ k ≤ L + 1 ∧ v6 = .int .i64 k ∧ K6w wr w.heap.size (.int .i64 ar.n) (.int .i64 ar.d) (.int .i64 se.n) (.int .i64 se.d) (.int .i64 sx) (.int .i64 c) ∧ Mem [Loc.k2 (w.heap.size + 1) (.int .i64 loss.n) (.int .i64 loss.d), Loc.bl w.heap.size w] wr ∧ servS ar se c loss L 1 = servS ar se c loss (L + 1 - k) k) (fun v6 _ => L + 1 - (intOf v6).toNat)
      case atStart => exact ⟨1, s, by omega, by omega, rfl, q0, M0, rfl⟩
      case round =>
        clear q0 M0
        obtain ⟨k, sx, hk1, hk2, rfl, q1, M, hI⟩ := hrel
        have HI := Lib.hid hI
        clear hI
        by_cases hkL : k ≤ L
        · have hkq := hq.with (k := k) hk1 (by omega) (by omega)
          obtain ⟨o, ho⟩ : ∃ o, lossQ ar se k c = o := ⟨_, rfl⟩
          have HO := Lib.hid ho
          have HG := Lib.hid (fun x (h : o = some x) => lossQ_good hkq (ho.trans h))
          have HKQ := Lib.hid hkq
          clear ho hkq
          have hzq := q1.1.2.2.2.2.2.2
          have hkc : (k : Int) ≤ (c : Int) := by omega
          have hk8 : (k : Int) ≤ 8 := by omega
          go_wp2_with fail
          have q2 := K6w.set q1 (.int .i64 k)
          have M2 := M.set (g := w.heap.size) (i := 4) (u := .int .i64 k) (by (repeat' (first | exact True.intro | refine And.intro (fun k hk e => ?_) ?_)) <;> (first | exact e | ((try dsimp only [Loc.c1, Loc.c2, Loc.k1, Loc.k2, Loc.k6, Loc.rdF, Loc.rdFF, Loc.all2, Loc.fr, Loc.bl, Loc.own, Loc.sz] at hk e) <;> omega)))
          refine (rLoss_any ar se k c _ HKQ.out).mono ?_
          rintro e w4 ⟨rfl, hb4⟩
          rw [HO.out]
          replace q2 := K6w.alloc (K6w.aft hb4 q2) (.cells #[.int .i64 (gF o).n, .int .i64 (gF o).d] 23)
          replace M2 := (M2.below hb4).alloc (.cells #[.int .i64 (gF o).n, .int .i64 (gF o).d] 23)
          clear hb4 M
          cases o with
          | none =>
            have HF : Hid (servS ar se c loss L 1 = (0, 6)) := Lib.hid (by rw [HI.out, show L + 1 - k = (L - k) + 1 by omega]; exact servS_none HO.out)
            have HB := Lib.hid M2.2.1.1
            clear M2
            have hof : (none : Option Fr).isSome = false := rfl
            rw [hof]
            clear hof
            go_wp2_with fail
            exact HR.out _ _ ⟨by first | (rw [HA.out, HF.out]; done) | (rw [HA.out, HF.out]; rfl), HB.out⟩
          | some x =>
            replace M2 : Mem [Loc.k2 (w.heap.size + 1) (.int .i64 loss.n) (.int .i64 loss.d), Loc.bl w.heap.size w] (w4.alloc (.cells #[.int .i64 x.n, .int .i64 x.d] 23)) := M2
            replace q2 : K6w (w4.alloc (.cells #[.int .i64 x.n, .int .i64 x.d] 23)) w.heap.size (.int .i64 ar.n) (.int .i64 ar.d) (.int .i64 se.n) (.int .i64 se.d) (.int .i64 k) (.int .i64 c) := q2
            have hof : (some x : Option Fr).isSome = true := rfl
            have hog : gF (some x) = x := rfl
            rw [hof, hog]
            clear hof hog
            have x1 := K2.new w4 (.int .i64 x.n) (.int .i64 x.d) 23
            have l1 := M2.1
            have hxo := (HG.out x rfl).1.1
            have HC : Hid ((x.okB && loss.okB) = true) := Lib.hid (by rw [Fr.okB_of hxo, Fr.okB_of hlo]; rfl)
            have HF : Hid (servS ar se c loss L 1 = if cmpN x loss ≤ 0 then ((k : Int), 0) else servS ar se c loss (L + 1 - (k + 1)) (k + 1)) := Lib.hid (by rw [HI.out, show L + 1 - k = (L - k) + 1 by omega, servS_step HO.out, show L + 1 - (k + 1) = L - k by omega])
            go_wp2_with fail
            refine (rcmp_any x loss _ hxo hlo).mono ?_
            rintro e w5 ⟨rfl, hb5⟩
            have HM5 := Lib.hid (M2.below hb5)
            have HQ5 := Lib.hid (K6w.aft hb5 q2)
            generalize hcm : cmpN x loss = cm at *
            clear hb5 M2 q2 x1 l1 hcm
            by_cases hcm0 : cm ≤ 0
            · have HF2 := Lib.hid (HF.out.trans (if_pos hcm0))
              go_wp2_with fail
              exact HR.out _ _ ⟨by first | (rw [HA.out, HF2.out]; done) | (rw [HA.out, HF2.out]; rfl), HM5.out.2.1.1⟩
            · have HF2 := Lib.hid (HF.out.trans (if_neg hcm0))
              go_wp2_with fail
              go_roundw
              case rel =>
                have hrel : ∃ (k' : Nat) (sx' : Int), 1 ≤ k' ∧ k' ≤ L + 1 ∧ Value.int .i64 ((k : Int) + 1) = .int .i64 k' ∧ K6w w5 w.heap.size (.int .i64 ar.n) (.int .i64 ar.d) (.int .i64 se.n) (.int .i64 se.d) (.int .i64 sx') (.int .i64 c) ∧ Mem [Loc.k2 (w.heap.size + 1) (.int .i64 loss.n) (.int .i64 loss.d), Loc.bl w.heap.size w] w5 ∧ servS ar se c loss L 1 = servS ar se c loss (L + 1 - k') k' := ⟨k + 1, k, by omega, by omega, by go_num, HQ5.out, HM5.out, HF2.out⟩
                first | exact hrel | ((repeat apply Exists.intro); exact ⟨hrel, rfl⟩)
              case measure => first | (simp [intOf]; done) | (simp [intOf]; omega)
        · obtain rfl : k = L + 1 := by omega
          have HF : Hid (servS ar se c loss L 1 = (0, 10)) := Lib.hid (by rw [HI.out, show L + 1 - (L + 1) = 0 by omega]; rfl)
          have HB := Lib.hid M.2.1.1
          clear M
          by_cases hc8 : (c : Int) ≤ 8
          · have hd1 : decide (((L + 1 : Nat) : Int) ≤ (c : Int)) = false := by simp; omega
            go_wp2_with fail
            exact HR.out _ _ ⟨by first | (rw [HA.out, HF.out]; done) | (rw [HA.out, HF.out]; rfl), HB.out⟩
          · have hd1 : ((L : Nat) : Int) + 1 ≤ (c : Int) := by omega
            have hd2 : ¬ ((L : Nat) : Int) + 1 ≤ 8 := by omega
            have hd3 : (8 : Int) ≤ (L : Int) := by omega
            have hd4 : (8 : Int) < (L : Int) + 1 := by omega
            go_wp2_with fail
            exact HR.out _ _ ⟨by first | (rw [HA.out, HF.out]; done) | (rw [HA.out, HF.out]; rfl), HB.out⟩

end Go.Proofs.Ythlgkomhnhkooaa
