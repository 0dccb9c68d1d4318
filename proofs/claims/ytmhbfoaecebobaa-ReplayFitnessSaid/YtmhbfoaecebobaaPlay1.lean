/-
  The closures of the player: enabled, play's and finish's. Conditions: none.
-/
import Derived.Test.YtmhbfoaecebobaaTake
namespace Go.Proofs.Ytmhbfoaecebobaa
set_option linter.unusedSimpArgs false
set_option linter.unusedVariables false
open Go.RowKit

theorem toList_inj {x a : ByteArray} : x.toList = a.toList ↔ x = a := by
  rw [ByteArray.toList_eq, ByteArray.toList_eq]
  constructor
  · intro h
    exact ByteArray.ext (Array.toList_inj.1 h)
  · intro h; rw [h]
theorem toList_beq (x a : ByteArray) : (x.toList == a.toList) = decide (x = a) := by
  rw [Bool.eq_iff_iff]; simp [toList_inj]
set_option maxHeartbeats 1000000 in
theorem indexFT_any (f : FuncId) (hent : Ent f) (cap : Array Value) (p : Tr → Bool) (l : List Tr) (lo hi : Nat) (v : Value) (w : World) (hv : RdT w lo hi v l)
    (hf : ∀ k, k < l.length → ∀ vi vo W, Below w.heap.size w W → RdI W lo hi vi (gti l k).inn → RdI W lo hi vo (gti l k).out → Calls Try.prog f (#[trV (gti l k) vi vo] ++ cap) W fun e W' => e = .returned (.bool (p (gti l k))) ∧ Below W.heap.size W W') :
    Calls Try.prog 65 #[v, .func (.func f) #[] cap] w fun e w' => e = .returned (.int .i64 (firstAt p l)) ∧ Below w.heap.size w w' := by
  obtain ⟨A, c, rfl, hc, hm⟩ := hv.form
  unfold Ent at hent
  have HF := Lib.hid hf
  clear hf
  have HA := Lib.hid hv
  clear hv
  refine calls_cps fun R hR => ?_
  have HR := Lib.hid hR
  clear hR
  go_enter Try.func65, Try.ntmps65
  go_wp2
  go_loopw [8, 5] (fun i _ wr => ∃ k : Nat, k ≤ l.length ∧ i = .int .i64 k ∧ Hid (∀ j a, j < k → l[j]? = some a → p a = false) ∧ Hid (Below w.heap.size w wr)) (fun i _ _ => l.length - (intOf i).toNat)
  case atStart => exact ⟨0, Nat.zero_le _, rfl, Lib.hid (fun j a h => absurd h (by omega)), Lib.hid (Below.refl _ _)⟩
  case round =>
    obtain ⟨k, hk, rfl, HNO, HB⟩ := hrel
    by_cases hlt : k < l.length
    · obtain ⟨b, off, vi, vo, rfl, _, _, hcell, hri, hro⟩ := RdT.at3 (HA.out.after HB.out) hlt
      have HFk := Lib.hid (HF.out k hlt vi vo wr HB.out hri hro)
      obtain ⟨Ai, ci, rfl, hci, hmi⟩ := hri.form
      obtain ⟨Ao, co, rfl, hco, hmo⟩ := hro.form
      clear hri hro
      have HA2 := Lib.hid (gti_get hlt)
      generalize gti l k = a at *
      go_wp2_with fail
      refine HFk.out.mono ?_
      rintro e w1 ⟨rfl, hb1⟩
      have HB1 := Lib.hid hb1
      clear hb1
      cases hp : p a with
      | true =>
        have HP := Lib.hid hp
        clear hp
        go_wp2
        exact HR.out _ _ ⟨ret_int (firstAt_some HA2.out HP.out HNO.out).symm, HB.out.trans (HB1.out.mono HB.out.size)⟩
      | false =>
        have HP := Lib.hid hp
        clear hp
        go_wp2
        exact ⟨⟨k + 1, by omega, by go_num, Lib.hid (snoc_no HNO.out HA2.out HP.out), Lib.hid (HB.out.trans (HB1.out.mono HB.out.size))⟩, by simp [intOf]; omega⟩
    · go_wp2
      have hkl : k = l.length := by omega
      exact HR.out _ _ ⟨ret_int (firstAt_none (by rw [← hkl]; exact HNO.out)).symm, HB.out⟩

theorem ent_en11 : Ent 103 := ent_of Try.func103 (by kernel_rfl) rfl
theorem ent_en1 : Ent 102 := ent_of Try.func102 (by kernel_rfl) rfl
theorem ent_play1 : Ent 72 := ent_of Try.func72 (by kernel_rfl) rfl
theorem ent_play2 : Ent 76 := ent_of Try.func76 (by kernel_rfl) rfl
theorem ent_fin1 : Ent 77 := ent_of Try.func77 (by kernel_rfl) rfl
set_option maxHeartbeats 400000 in
theorem en11_any (m : List Int) (v : Value) (lo hi g : Nat) (p : Int) (w : World) (hg : C1 w g 0 v) (hv : RdI w lo hi v m) (h0 : 0 ≤ p) (h1 : p < m.length) :
    Calls Try.prog 103 #[.int .i64 p, .pointer (some ⟨g, 0, none⟩)] w fun e w' => e = .returned (.bool (decide (gti m p.toNat = 0))) ∧ Below w.heap.size w w' := by
  obtain ⟨k, rfl⟩ : ∃ k : Nat, p = k := ⟨p.toNat, by omega⟩
  have hlt : k < m.length := by omega
  clear h0 h1
  obtain ⟨A, c, rfl, hc, hm⟩ := hv.form
  obtain ⟨b, off, rfl, _, _, hcell⟩ := RdI.at1 hv hlt
  have HV := Lib.hid hv
  clear hv
  simp only [Int.toNat_natCast]
  refine calls_cps fun R hR => ?_
  have HR := Lib.hid hR
  clear hR
  go_enter Try.func103, Try.ntmps103
  go_wp2_with fail
  all_goals (refine HR.out _ _ ⟨ret_bool ?_, Below.refl _ _⟩ <;> (go_light; grind))
set_option maxRecDepth 100000 in
set_option maxHeartbeats 400000 in
theorem en1_any (t : Tr) (vi vo : Value) (act : ByteArray) (m : List Int) (v : Value) (lo hi lo' hi' gl gb : Nat) (w : World) (hl : C1 w gl 0 (.string act)) (hb : C1 w gb 0 v) (hi1 : RdI w lo hi vi t.inn) (ho1 : RdI w lo hi vo t.out) (hv : RdI w lo' hi' v m) (hin : ∀ p ∈ t.inn, 0 ≤ p ∧ p < m.length) :
    Calls Try.prog 102 #[trV t vi vo, .pointer (some ⟨gl, 0, none⟩), .pointer (some ⟨gb, 0, none⟩)] w fun e w' => e = .returned (.bool (enB2 m act t)) ∧ Below w.heap.size w w' := by
  obtain ⟨A2, c2, rfl, hc2, hm2⟩ := hi1.form
  obtain ⟨A3, c3, rfl, hc3, hm3⟩ := ho1.form
  have HV := Lib.hid hv
  have HI := Lib.hid hi1
  have HN := Lib.hid hin
  have HBB := Lib.hid hb
  have hgl := World.block_lt_of_cell? w _ hl
  dsimp only at hgl
  have hnl : gl ≠ w.heap.size := by omega
  have HC : Hid (∀ W, Below w.heap.size w W → Calls Try.prog 95 #[.slice A2 t.inn.length c2, .func (.func 103) #[] #[.pointer (some ⟨gb, 0, none⟩)]] W fun e w' => e = .returned (.bool (t.inn.any fun p => decide (gti m p.toNat = 0))) ∧ Below W.heap.size W w') :=
    Lib.hid (fun W hW => containsFI_any 103 ent_en11 #[.pointer (some ⟨gb, 0, none⟩)] (fun p => decide (gti m p.toNat = 0)) t.inn lo hi _ W (HI.out.after hW) (fun a ha W' hW' => en11_any m _ lo' hi' _ a W' (cell_aft hW' (cell_aft hW HBB.out)) ((HV.out.after hW).after hW') (HN.out a ha).1 (HN.out a ha).2))
  clear hv hi1 hin ho1 hb
  have hb0 : Below w.heap.size w (w.alloc (Obj.cells #[Value.string t.label, Value.slice A2 t.inn.length c2, .slice A3 t.out.length c3] 46)) := (Below.refl _ _).alloc (Nat.le_refl _) _
  have HB0 := Lib.hid hb0
  have HEN : Hid (enB2 m act t = (decide (t.label = act) && !t.inn.any fun p => decide (gti m p.toNat = 0))) := Lib.hid rfl
  clear hb0
  by_cases hla : t.label.toList = act.toList
  · have HLA := Lib.hid (toList_inj.1 hla)
    refine calls_cps fun R hR => ?_
    have HR := Lib.hid hR
    clear hR
    go_enter Try.func102, Try.ntmps102
    go_wp2_with (go_at_call 95; refine (HC.out _ HB0.out).mono ?_; rintro e w1 ⟨rfl, hb1⟩; replace HB0 := Lib.hid (HB0.out.trans (hb1.mono HB0.out.size)); clear hb1)
    exact HR.out _ _ ⟨ret_bool (by rw [HEN.out, decide_eq_true HLA.out]; rfl), HB0.out⟩
  · have HLA := Lib.hid (fun e => hla (toList_inj.2 e))
    refine calls_cps fun R hR => ?_
    have HR := Lib.hid hR
    clear hR
    go_enter Try.func102, Try.ntmps102
    go_wp2_with fail
    exact HR.out _ _ ⟨ret_bool (by rw [HEN.out, decide_eq_false HLA.out]; rfl), HB0.out⟩

/-- all places of all transitions are below k -/
def InOk (n : Net) (k : Nat) : Prop := ∀ i, i < n.trans.length → ∀ p ∈ (gti n.trans i).inn, 0 ≤ p ∧ p < (k : Int)
theorem InOk.of {n : Net} {k : Nat} (hv : validB n = true) (hk : (k : Int) = n.places) : InOk n k := fun i hi p hp => by have := (trans_in hv hi).1 p hp; omega
set_option maxRecDepth 100000 in
set_option maxHeartbeats 400000 in
theorem enabledP_any (n : Net) (m : List Int) (act : ByteArray) (g lo hi lo' hi' : Nat) (vt v : Value) (w : World) (hg : C1 w g 1 vt) (hv : RdT w lo hi vt n.trans) (hm : RdI w lo' hi' v m) (hin : InOk n m.length) :
    Calls Try.prog 73 #[.pointer (some ⟨g, 0, none⟩), v, .string act] w fun e w' => e = .returned (.int .i64 (enabledAt n m act)) ∧ Below w.heap.size w w' := by
  obtain ⟨A, c, rfl, hc, hmm⟩ := hv.form
  obtain ⟨A2, c2, rfl, hc2, hmm2⟩ := hm.form
  have hgw := World.block_lt_of_cell? w _ hg
  dsimp only at hgw
  have hg0 : g ≠ w.heap.size := by omega
  have hg1 : g ≠ w.heap.size + 1 := by omega
  have hb0 : Below w.heap.size w ((w.alloc (.cells #[.slice A2 m.length c2] 30)).alloc (.cells #[.string act] 9)) := ((Below.refl _ _).alloc (Nat.le_refl _) _).alloc (by simp) _
  have HB0 := Lib.hid hb0
  have HC := Lib.hid (indexFT_any 102 ent_en1 #[.pointer (some ⟨w.heap.size + 1, 0, none⟩), .pointer (some ⟨w.heap.size, 0, none⟩)] (enB2 m act) n.trans lo hi _ _ (hv.after hb0)
    (fun k hk vi vo W hW hvi hvo => en1_any (gti n.trans k) vi vo act m _ lo hi lo' hi' _ _ W (cell_aft hW (by simp [C1, go_sem])) (cell_aft hW (by simp [C1, go_sem])) hvi hvo ((hm.after hb0).after hW) (hin k hk)))
  have HE : Hid (enabledAt n m act = firstAt (enB2 m act) n.trans) := Lib.hid rfl
  clear hv hm hin hb0
  refine calls_cps fun R hR => ?_
  have HR := Lib.hid hR
  clear hR
  go_enter Try.func73, Try.ntmps73
  go_wp2_with (go_at_call 65; refine HC.out.mono ?_; rintro e w1 ⟨rfl, hb1⟩; replace HB0 := Lib.hid (HB0.out.trans (hb1.mono HB0.out.size)); clear hb1)
  exact HR.out _ _ ⟨ret_int HE.out.symm, HB0.out⟩
set_option maxHeartbeats 400000 in
theorem play1_any (n : Net) (m : List Int) (act : ByteArray) (g gp ga lo hi lo' hi' : Nat) (vt v : Value) (w : World) (hp : C1 w gp 0 (.pointer (some ⟨g, 0, none⟩))) (ha : C1 w ga 0 (.string act)) (hg : C1 w g 1 vt) (hv : RdT w lo hi vt n.trans) (hm : RdI w lo' hi' v m) (hin : InOk n m.length) :
    Calls Try.prog 72 #[v, .pointer (some ⟨gp, 0, none⟩), .pointer (some ⟨ga, 0, none⟩)] w fun e w' => e = .returned (.bool (goodA n act m)) ∧ Below w.heap.size w w' := by
  have HC := Lib.hid (enabledP_any n m act g lo hi lo' hi' vt v w hg hv hm hin)
  clear hv hm hin hg
  refine calls_cps fun R hR => ?_
  have HR := Lib.hid hR
  clear hR
  go_enter Try.func72, Try.ntmps72
  go_wp2_with (go_at_call 73; refine HC.out.mono ?_; rintro e w1 ⟨rfl, hb1⟩; have HB1 := Lib.hid hb1; clear hb1)
  exact HR.out _ _ ⟨ret_bool (by unfold goodA; go_light; grind), HB1.out⟩
set_option maxHeartbeats 400000 in
theorem play2_any (t : Tr) (vi vo : Value) (act : ByteArray) (ga : Nat) (w : World) (ha : C1 w ga 0 (.string act)) (hvi : ∃ A n c, vi = .slice A n c) (hvo : ∃ A n c, vo = .slice A n c) :
    Calls Try.prog 76 #[trV t vi vo, .pointer (some ⟨ga, 0, none⟩)] w fun e w' => e = .returned (.bool (labB act t)) ∧ Below w.heap.size w w' := by
  obtain ⟨A, k, c, rfl⟩ := hvi
  obtain ⟨B, k2, c2, rfl⟩ := hvo
  have hgl := World.block_lt_of_cell? w _ ha
  dsimp only at hgl
  have hnl : ga ≠ w.heap.size := by omega
  have hb0 : Below w.heap.size w (w.alloc (Obj.cells #[Value.string t.label, .slice A k c, .slice B k2 c2] 46)) := (Below.refl _ _).alloc (Nat.le_refl _) _
  have HB0 := Lib.hid hb0
  clear hb0
  refine calls_cps fun R hR => ?_
  have HR := Lib.hid hR
  clear hR
  go_enter Try.func76, Try.ntmps76
  go_wp2_with fail
  all_goals have hinj := @toList_inj t.label act
  all_goals exact HR.out _ _ ⟨ret_bool (by unfold labB; go_light; grind), HB0.out⟩
set_option maxHeartbeats 400000 in
theorem fin1_any (n : Net) (m : List Int) (g gp lo' hi' ks : Nat) (v : Value) (w : World) (hp : C1 w gp 0 (.pointer (some ⟨g, 0, none⟩))) (hks : n.sink = ks) (hg : C1 w g 3 (.int .i64 n.sink)) (hm : RdI w lo' hi' v m) (hk : ks < m.length) :
    Calls Try.prog 77 #[v, .pointer (some ⟨gp, 0, none⟩)] w fun e w' => e = .returned (.bool (goodF n m)) ∧ Below w.heap.size w w' := by
  have HE : Hid (goodF n m = decide (0 < gti m ks)) := Lib.hid (by unfold goodF; rw [hks]; rfl)
  rw [hks] at hg
  clear hks
  obtain ⟨A, c, rfl, hc, hmm⟩ := hm.form
  obtain ⟨b, off, rfl, _, _, hcell⟩ := RdI.at1 hm hk
  clear hm
  refine calls_cps fun R hR => ?_
  have HR := Lib.hid hR
  clear hR
  go_enter Try.func77, Try.ntmps77
  go_wp2_with fail
  all_goals exact HR.out _ _ ⟨ret_bool (by first | (rw [HE.out]; done) | (rw [HE.out]; go_light; grind)), Below.refl _ _⟩
end Go.Proofs.Ytmhbfoaecebobaa
