/-
  Walks of product's Moves. Conditions: none.
-/
import Derived.Test.YtamhbmaimiifmaaTri
import Derived.Test.YtamhbmaimiifmaaApply2
namespace Go.Proofs.Ytamhbmaimiifmaa
set_option linter.unusedSimpArgs false
set_option linter.unusedVariables false
open Go.RowKit

def RetM (w : World) (r : List Stp × Int) (e : Ending) (w' : World) : Prop :=
  ∃ A c, e = .returned (.tuple #[.slice A r.1.length c, .int .i64 r.2]) ∧ RdM w' w.heap.size w'.heap.size (.slice A r.1.length c) r.1 ∧ Below w.heap.size w w'
theorem RetM.nil {w w' : World} {r : List Stp × Int} {c : Int} (h : r = ([], c)) (hb : Below w.heap.size w w') : RetM w r (.returned (.tuple #[.slice none 0 0, .int .i64 c])) w' := by
  subst h
  exact ⟨none, 0, rfl, Rd.nil _ _ _, hb⟩
theorem RetM.mk {w w' : World} {r : List Stp × Int} {l : List Stp} {n k : Nat} {A : Option Addr} {c : Int} (h : r = (l, c)) (hn : n = l.length) {lo hi : Nat} (hr : RdM w' lo hi (.slice A n k) l) (hlo : w.heap.size ≤ lo) (hhi : hi ≤ w'.heap.size) (hb : Below w.heap.size w w') : RetM w r (.returned (.tuple #[.slice A n k, .int .i64 c])) w' := by
  subst h hn
  exact ⟨A, k, rfl, hr.mono hlo hhi, hb⟩

def fires (n : Net) (m : List Int) (k : Nat) : Bool := decide ((FireE n m k).2 = 0)
def syncOf (n : Net) (w : List ByteArray) (p : Int) (m : List Int) (k : Nat) : List Stp := if fires n m k && (!(gti n.trans k).label.toList.isEmpty && atB w p (gti n.trans k).label) then [⟨1, k, (gti n.trans k).label⟩] else []
def modelOf (n : Net) (m : List Int) (k : Nat) : List Stp := if fires n m k then (if (gti n.trans k).label.toList.isEmpty then [⟨4, k, ByteArray.empty⟩] else [⟨3, k, (gti n.trans k).label⟩]) else []
def syncAt (n : Net) (w : List ByteArray) (p : Int) (m : List Int) : Nat → List Stp
  | 0 => []
  | k + 1 => syncAt n w p m k ++ syncOf n w p m k
def modelAt (n : Net) (m : List Int) : Nat → List Stp
  | 0 => []
  | k + 1 => modelAt n m k ++ modelOf n m k
def logOf (w : List ByteArray) (p : Int) : List Stp := if p < w.length then [⟨2, -1, gti w p.toNat⟩] else []
theorem syncAt_len (n : Net) (w : List ByteArray) (p : Int) (m : List Int) : ∀ k, (syncAt n w p m k).length ≤ k
  | 0 => by simp [syncAt]
  | k + 1 => by
    have := syncAt_len n w p m k
    have : (syncOf n w p m k).length ≤ 1 := by unfold syncOf; split <;> simp
    simp only [syncAt, List.length_append]
    omega
theorem modelAt_len (n : Net) (m : List Int) : ∀ k, (modelAt n m k).length ≤ k
  | 0 => by simp [modelAt]
  | k + 1 => by
    have := modelAt_len n m k
    have : (modelOf n m k).length ≤ 1 := by unfold modelOf; split; (split <;> simp); simp
    simp only [modelAt, List.length_append]
    omega
theorem logOf_len (w : List ByteArray) (p : Int) : (logOf w p).length ≤ 1 := by unfold logOf; split <;> simp
def movesL (n : Net) (w : List ByteArray) (s : List Int) : List Stp := syncAt n w (gti s 0) (s.drop 1) n.trans.length ++ (logOf w (gti s 0) ++ modelAt n (s.drop 1) n.trans.length)
def MovesE (n : Net) (w : List ByteArray) (s : List Int) : List Stp × Int := if stateB n w s then (movesL n w s, 0) else ([], 1)
theorem at_is {l : List ByteArray} {k : Int} {a : ByteArray} {z : Bool} (hz : atB l k a = z) (lo hi : Nat) (v : Value) (w : World) (hv : RdS w lo hi v l) (hk : 0 ≤ k) :
    Calls Try.prog 77 #[v, .int .i64 k, .string a] w fun e w' => e = .returned (.bool z) ∧ Below w.heap.size w w' := hz ▸ at_any l k a lo hi v w hv hk
theorem own_nil (w : World) (lo : Nat) : OwnB w lo (.slice none 0 0) [] := ⟨by simp, .inl ⟨rfl, rfl⟩⟩

structure T3C (lo : Nat) (v1 : Value) (l1 : List Stp) (v2 : Value) (l2 : List Stp) (v3 : Value) (l3 : List Stp) (rest : List Loc) (g : Nat) (x y z : Value) (b off : Nat) (u : Value) (w : World) : Prop where
  t : T3 lo v1 l1 v2 l2 v3 l3 rest w
  k : K3 w g x y z
  c : C1 w b off u
theorem T3C.below {lo : Nat} {v1 v2 v3 : Value} {l1 l2 l3 : List Stp} {rest : List Loc} {g : Nat} {x y z : Value} {b off : Nat} {u : Value} {w W : World} (h : T3C lo v1 l1 v2 l2 v3 l3 rest g x y z b off u w) (hb : Below w.heap.size w W) : T3C lo v1 l1 v2 l2 v3 l3 rest g x y z b off u W :=
  ⟨h.t.below hb, K3.aft hb h.k, C1.aft hb h.c⟩
theorem concat3 {W : World} {lo : Nat} {v1 v2 v3 : Value} {l1 l2 l3 : List Stp} {rest : List Loc} (h : T3 lo v1 l1 v2 l2 v3 l3 rest W) (t : TypeId) (hb : l1.length + (l2.length + l3.length) ≤ 10000) :
    Calls Try.prog 78 #[.slice (some ⟨W.heap.size, 0, none⟩) 3 3] (W.alloc (.cells #[v1, v2, v3] t)) fun e w' => ∃ A c, e = .returned (.slice A (l1 ++ (l2 ++ l3)).length c) ∧ RdM w' (W.heap.size + 1) w'.heap.size (.slice A (l1 ++ (l2 ++ l3)).length c) (l1 ++ (l2 ++ l3)) ∧ Below (W.alloc (.cells #[v1, v2, v3] t)).heap.size (W.alloc (.cells #[v1, v2, v3] t)) w' := by
  have hr : ∀ k, k < [l1, l2, l3].length → RdM (W.alloc (.cells #[v1, v2, v3] t)) lo W.heap.size (gti [v1, v2, v3] k) (gti [l1, l2, l3] k) := by
    intro k hk
    have hba : Below W.heap.size W (W.alloc (.cells #[v1, v2, v3] t)) := (Below.refl _ _).alloc (Nat.le_refl _) _
    match k, hk with
    | 0, _ => exact h.o1.rd.after hba
    | 1, _ => exact h.o2.rd.after hba
    | 2, _ => exact h.o3.rd.after hba
    | k + 3, hk => exact absurd hk (by simp)
  have h1 := concat_any [v1, v2, v3] [l1, l2, l3] _ 0 _ lo W.heap.size _ (Rd.lit (enc := encQ) W t [v1, v2, v3] _ 3 rfl rfl (by simp [maxLen]) (fun _ => rfl)) rfl hr (by simp; omega)
  have e : [l1, l2, l3].flatten = l1 ++ (l2 ++ l3) := by simp
  rw [e] at h1
  refine h1.mono ?_
  rintro e w' ⟨A, c, rfl, h2, h3⟩
  exact ⟨A, c, rfl, h2.mono (by simp) (Nat.le_refl _), h3⟩

set_option maxRecDepth 100000 in
set_option maxHeartbeats 4000000 in
theorem Moves_any (n : Net) (l : List ByteArray) (s : List Int) (vt v vs : Value) (lo hi lo' hi' lo2 hi2 : Nat) (w : World) (hv : RdT w lo hi vt n.trans) (hw : RdS w lo' hi' v l) (hs : RdI w lo2 hi2 vs s) :
    Calls Try.prog 34 #[netV n vt, v, vs] w (RetM w (MovesE n l s)) := by
  obtain ⟨A, c, rfl, hc, hmm⟩ := hv.form
  obtain ⟨A2, c2, rfl, hc2, hmm2⟩ := hw.form
  obtain ⟨A3, c3, rfl, hc3, hmm3⟩ := hs.form
  have HV := Lib.hid hv
  have HW := Lib.hid hw
  have HS := Lib.hid hs
  clear hv hw
  cases hz : stateB n l s with
  | false =>
    have HZ := Lib.hid hz
    clear hz hs
    refine calls_cps fun R hR => ?_
    have HR := Lib.hid hR
    clear hR
    go_enter Try.func34, Try.ntmps34
    have M : Hid (Mem [Loc.k4 w.heap.size (.int .i64 n.places) (.slice A n.trans.length c) (.int .i64 n.source) (.int .i64 n.sink), Loc.bl w.heap.size w] (w.alloc (.cells #[.int .i64 n.places, .slice A n.trans.length c, .int .i64 n.source, .int .i64 n.sink] 24))) := Lib.hid ⟨K4.new w _ _ _ _ _, ⟨(Below.refl _ _).alloc (Nat.le_refl _) _, by simp⟩, True.intro⟩
    have hk4 := M.out.1
    go_wp2_with (go_at_call 73; refine (isState_is HZ.out _ _ _ lo hi lo' hi' lo2 hi2 _ (HV.out.after M.out.2.1.1) (HW.out.after M.out.2.1.1) (HS.out.after M.out.2.1.1)).mono ?_; rintro e w1 ⟨rfl, hb1⟩; replace M := Lib.hid (M.out.below hb1); clear hb1; replace hk4 := M.out.1)
    exact HR.out _ _ (RetM.nil (by rw [MovesE, HZ.out]; rfl) M.out.2.1.1)
  | true =>
    have HZ := Lib.hid hz
    obtain ⟨h1, h2, h3, h4, h5⟩ := stateB_facts hz
    have hval : n.trans.length ≤ 60 := by
      have := (stateB_iff.1 hz).2.2.2.2
      unfold markB at this
      simp only [Bool.and_eq_true] at this
      exact (validB_places this.1).2.2
    have HME : Hid (MovesE n l s = (syncAt n l (gti s 0) (s.drop 1) n.trans.length ++ (logOf l (gti s 0) ++ modelAt n (s.drop 1) n.trans.length), 0)) := Lib.hid (by rw [MovesE, hz]; rfl)
    clear hz
    obtain ⟨b, off, rfl, _, _, hcell⟩ := RdI.at1 hs (k := 0) (by omega)
    obtain ⟨At, ct, hsl, ht⟩ := RdI.tail1 hs h1 hc3
    obtain ⟨tl, htl⟩ : ∃ tl, s.drop 1 = tl := ⟨_, rfl⟩
    rw [htl] at hsl ht HME
    have HT := Lib.hid ht
    have hs0 : (0 : Int) < (s.length : Int) := by omega
    have hs2 : ¬ s = [] := by intro e; rw [e] at h1; simp at h1
    have hs3 : 0 < s.length := h1
    clear hs ht htl
    simp only [Nat.add_zero] at hcell
    have HC := Lib.hid hcell
    clear hcell
    generalize gti s 0 = p at *
    obtain ⟨kp, rfl⟩ : ∃ k : Nat, p = k := ⟨p.toNat, by omega⟩
    refine calls_cps fun R hR => ?_
    have HR := Lib.hid hR
    clear hR
    go_enter Try.func34, Try.ntmps34
    have M : Hid (Mem [Loc.k4 w.heap.size (.int .i64 n.places) (.slice A n.trans.length c) (.int .i64 n.source) (.int .i64 n.sink), Loc.bl w.heap.size w] (w.alloc (.cells #[.int .i64 n.places, .slice A n.trans.length c, .int .i64 n.source, .int .i64 n.sink] 24))) := Lib.hid ⟨K4.new w _ _ _ _ _, ⟨(Below.refl _ _).alloc (Nat.le_refl _) _, by simp⟩, True.intro⟩
    have hk4 := M.out.1
    have hcell := C1.aft M.out.2.1.1 HC.out
    have hT0 : ∀ W, Mem [Loc.k4 w.heap.size (.int .i64 n.places) (.slice A n.trans.length c) (.int .i64 n.source) (.int .i64 n.sink), Loc.bl w.heap.size w] W → T3 (w.heap.size + 1) (.slice none 0 0) [] (.slice none 0 0) [] (.slice none 0 0) [] [Loc.k4 w.heap.size (.int .i64 n.places) (.slice A n.trans.length c) (.int .i64 n.source) (.int .i64 n.sink), Loc.bl w.heap.size w] W := fun W h =>
      ⟨own_nil _ _, own_nil _ _, own_nil _ _, Dis.nil _, Dis.nil _, Dis.nil _, ⟨fun k hk => by dsimp only at hk; omega, fun k hk => by dsimp only at hk; omega, True.intro⟩, by have := h.1.2.2.2.2; omega, h⟩
    have HT0 := Lib.hid hT0
    clear hT0
    go_upto_if 25 with (go_at_call 73; refine (isState_is HZ.out _ _ _ lo hi lo' hi' lo2 hi2 _ (HV.out.after M.out.2.1.1) (HW.out.after M.out.2.1.1) (HS.out.after M.out.2.1.1)).mono ?_; rintro e w1 ⟨rfl, hb1⟩; replace M := Lib.hid (M.out.below hb1); clear hb1; replace hk4 := M.out.1; replace hcell := C1.aft M.out.2.1.1 HC.out)
    go_cut [9] (fun v9 wx => ∃ A9 c9, v9 = .slice A9 (logOf l kp).length c9 ∧ Hid (T3 (w.heap.size + 1) (.slice none 0 0) [] (.slice A9 (logOf l kp).length c9) (logOf l kp) (.slice none 0 0) [] [Loc.k4 w.heap.size (.int .i64 n.places) (.slice A n.trans.length c) (.int .i64 n.source) (.int .i64 n.sink), Loc.bl w.heap.size w] wx))
    case first =>
      have T := Lib.hid (HT0.out _ M.out)
      by_cases hp : kp < l.length
      · have hpi : (kp : Int) < l.length := by omega
        obtain ⟨b5, off5, rfl, _, _, hce5⟩ := RdS.at1 (HW.out.after M.out.2.1.1) hp
        have HLG : Hid (logOf l kp = [] ++ [⟨2, -1, gti l kp⟩]) := Lib.hid (by unfold logOf; rw [if_pos hpi]; simp)
        generalize gti l kp = x5 at *
        go_wp2_with (at_builtin; obtain ⟨A9, c9, w9, hrun, hT, hs9⟩ := run_app3 T.out.rot 2 (-1) x5 28 _ rfl (by simp); refine Lib.wpList_append_run _ rfl _ _ _ _ rfl _ _ rfl rfl _ _ hrun ?_; replace T := Lib.hid hT; clear hrun hT)
        go_meet
        rw [HLG.out]
        exact ⟨A9, c9, rfl, Lib.hid T.out.rot.rot⟩
      · have hpi : ¬ (kp : Int) < l.length := by omega
        have HLG : Hid (logOf l kp = []) := Lib.hid (by unfold logOf; rw [if_neg hpi])
        go_wp2_with fail
        go_meet
        rw [HLG.out]
        exact ⟨none, 0, rfl, T⟩
    case rest =>
      clear M hk4 hcell
      obtain ⟨A9, c9, rfl, T⟩ := hcut
      have hk4 := T.out.r.1
      have hll := logOf_len l kp
      have HME2 := HME
      generalize logOf l kp = lg at *
      go_wp2_with fail
      go_loopw [39, 8, 10, 11, 12, 13, 14] (fun v39 v8 v10 _ _ _ _ wr => ∃ (k : Nat) (A8 : Option Addr) (c8 : Nat) (A10 : Option Addr) (c10 : Nat), k ≤ n.trans.length ∧ v39 = .int .i64 k ∧ v8 = .slice A8 (syncAt n l kp tl k).length c8 ∧ v10 = .slice A10 (modelAt n tl k).length c10 ∧ Hid (T3 (w.heap.size + 1) (.slice A8 (syncAt n l kp tl k).length c8) (syncAt n l kp tl k) (.slice A9 lg.length c9) lg (.slice A10 (modelAt n tl k).length c10) (modelAt n tl k) [Loc.k4 w.heap.size (.int .i64 n.places) (.slice A n.trans.length c) (.int .i64 n.source) (.int .i64 n.sink), Loc.bl w.heap.size w] wr)) (fun v39 _ _ _ _ _ _ _ => n.trans.length - (intOf v39).toNat)
      case atStart => exact ⟨0, none, 0, none, 0, by omega, rfl, rfl, rfl, T⟩
      case round =>
        clear T hk4
        obtain ⟨k, A8, c8, A10, c10, hk, rfl, rfl, rfl, T⟩ := hrel
        have hk4 := T.out.r.1
        by_cases hlt : k < n.trans.length
        · obtain ⟨b4, off4, vi, vo, rfl, _, _, hct, hri, hro⟩ := RdT.at3 (HV.out.after T.out.r.2.1.1) hlt
          have HSY : Hid (syncAt n l kp tl (k + 1) = syncAt n l kp tl k ++ if fires n tl k && (!(gti n.trans k).label.toList.isEmpty && atB l kp (gti n.trans k).label) then [⟨1, k, (gti n.trans k).label⟩] else []) := Lib.hid rfl
          have HMO : Hid (modelAt n tl (k + 1) = modelAt n tl k ++ if fires n tl k then (if (gti n.trans k).label.toList.isEmpty then [⟨4, k, ByteArray.empty⟩] else [⟨3, k, (gti n.trans k).label⟩]) else []) := Lib.hid rfl
          have hsl8 := syncAt_len n l kp tl k
          have hml10 := modelAt_len n tl k
          generalize syncAt n l kp tl k = sy at *
          generalize modelAt n tl k = mo at *
          have HFE := Lib.hid (fun (W : World) (h : Below w.heap.size w W) => Fire_any n tl k _ _ lo hi lo2 hi2 W (HV.out.after h) (HT.out.after h))
          have HFI : Hid (fires n tl k = decide ((FireE n tl k).2 = 0)) := Lib.hid rfl
          obtain ⟨⟨fl, fe⟩, hfe⟩ : ∃ r, FireE n tl k = r := ⟨_, rfl⟩
          rw [hfe] at HFE HFI
          dsimp only at HFI
          clear hfe
          generalize gti n.trans k = x at *
          obtain ⟨Ai, ci, rfl, hci, hmi⟩ := hri.form
          obtain ⟨Ao, co, rfl, hco, hmo⟩ := hro.form
          clear hri hro
          have HB8 := Lib.hid (fun k (h : (Value.slice A8 sy.length c8).ownBlock = some k) => (T.out.o1.lt k h).2)
          replace T := Lib.hid (T.out.alloc (.cells #[.string x.label, .slice Ai x.inn.length ci, .slice Ao x.out.length co] 72))
          replace hk4 := T.out.r.1
          have hkt := K3.new wr (.string x.label) (.slice Ai x.inn.length ci) (.slice Ao x.out.length co) 72
          by_cases he0 : fe = 0
          · subst he0
            rw [HFI.out] at HSY HMO
            simp only [decide_true, Bool.true_and, if_true] at HSY HMO
            obtain ⟨ze, hze⟩ : ∃ z, x.label.toList.isEmpty = z := ⟨_, rfl⟩
            rw [hze] at HSY HMO
            go_wp2_with fail
            go_region_held3 (fun W => K4 W w.heap.size (.int .i64 n.places) (.slice (some ⟨b4, off4, none⟩) n.trans.length c) (.int .i64 n.source) (.int .i64 n.sink)) (exact hk4) (first
              | (go_at_call 39; refine (HFE.out _ (by first | exact T.out.r.2.1.1 | exact T.out.drew.r.2.1.1)).mono ?_; rintro e w6 ⟨A6, c6, rfl, hr6, hb6⟩; replace hkt := K3.aft (by first | exact hb6 | exact (Below.refl _ _).drew.trans hb6) hkt; replace T := Lib.hid (T3.below (by first | exact T.out | exact T.out.drew) hb6); dsimp only; replace hk4 := T.out.r.1; clear hb6 hr6))
            all_goals
              cases ze with
              | true =>
                simp only [Bool.not_true, Bool.false_and, Bool.false_eq_true, if_false, if_true, List.append_nil] at HSY HMO
                go_wp2_with (at_builtin; obtain ⟨A1, c1, w7, hrun, hT, hs9⟩ := run_app3 T.out.rot.rot 4 k ByteArray.empty 28 _ rfl (by omega); refine Lib.wpList_append_run _ rfl (.tmp 57) (.tmp 60) _ _ rfl _ _ rfl rfl _ _ hrun ?_; replace T := Lib.hid hT.rot; clear hrun hT)
                have hk1 : k + 1 ≤ n.trans.length := by omega
                have hT : Hid (T3 (w.heap.size + 1) (.slice A8 (syncAt n l kp tl (k + 1)).length c8) (syncAt n l kp tl (k + 1)) (.slice A9 lg.length c9) lg (.slice A1 (modelAt n tl (k + 1)).length c1) (modelAt n tl (k + 1)) [Loc.k4 w.heap.size (.int .i64 n.places) (.slice (some ⟨b4, off4, none⟩) n.trans.length c) (.int .i64 n.source) (.int .i64 n.sink), Loc.bl w.heap.size w] _) := Lib.hid (by rw [HSY.out, HMO.out]; exact T.out)
                have e8 : Value.slice A8 sy.length c8 = .slice A8 (syncAt n l kp tl (k + 1)).length c8 := by rw [HSY.out]
                have e10 : Value.slice A1 (mo.length + 1) c1 = .slice A1 (modelAt n tl (k + 1)).length c1 := by rw [HMO.out, List.length_append]; rfl
                have hki : Value.int .i64 ((k : Int) + 1) = .int .i64 ((k + 1 : Nat) : Int) := by go_num
                first
                  | exact ⟨⟨k + 1, A8, c8, A1, c1, hk1, hki, e8, e10, hT⟩, by simp [intOf]; omega⟩
                  | (go_roundw
                     case rel => (first | exact ⟨k + 1, A8, c8, A1, c1, hk1, hki, e8, e10, hT⟩ | ((repeat apply Exists.intro); exact ⟨⟨k + 1, A8, c8, A1, c1, hk1, hki, e8, e10, hT⟩, rfl⟩))
                     case measure => simp [intOf]; omega)
              | false =>
                obtain ⟨za, hza⟩ : ∃ z, atB l kp x.label = z := ⟨_, rfl⟩
                have HZA := Lib.hid hza
                rw [hza] at HSY
                clear hza
                have hcell := C1.aft T.out.r.2.1.1 HC.out
                simp only [Bool.not_false, Bool.true_and, Bool.false_eq_true, if_false] at HSY HMO
                go_wp2_with fail
                refine wp_region_cls (C := (T3C (w.heap.size + 1) (.slice A8 sy.length c8) sy (.slice A9 lg.length c9) lg (.slice A10 mo.length c10) mo [Loc.k4 w.heap.size (.int .i64 n.places) (.slice (some ⟨b4, off4, none⟩) n.trans.length c) (.int .i64 n.source) (.int .i64 n.sink), Loc.bl w.heap.size w] wr.heap.size (.string x.label) (.slice Ai x.inn.length ci) (.slice Ao x.out.length co) b off (.int .i64 kp))) (by kernel_rfl) (by kernel_rfl) (by exact ⟨T.out.drew, hkt, hcell⟩) ?_
                repeat (first
                  | (refine BigFrame.wpQuiet_skip (by rfl) ?_; simp only [Act.put, List.setIfInBounds_toArray, List.set_cons_zero, List.set_cons_succ])
                  | (refine BigFrame.wpQuiet_want (by rfl) (fun K hK => ?_); refine BigFrame.quiet_move _ rfl (hK _ ?_); clear hK K; simp only [Act.put, Act.eval, List.setIfInBounds_toArray, List.set_cons_zero, List.set_cons_succ, List.getD_toArray, List.getD_cons_zero, List.getD_cons_succ])
                  | (refine BigFrame.wpQuiet_want (by rfl) (fun K hK => ?_); refine BigFrame.quiet_assign _ rfl (hK _ ?_); clear hK K; simp only [Act.put, Act.eval, List.setIfInBounds_toArray, List.set_cons_zero, List.set_cons_succ, List.getD_toArray, List.getD_cons_zero, List.getD_cons_succ])
                  | (refine BigFrame.wpQuiet_want (by rfl) (fun K hK => ?_); refine quiet_of (v := ?_) (fun W hW => ?_) (hK _ ?_); rotate_left; ((have hq1 := hW.k; have hq2 := hW.c); go_simp; try (with_reducible rfl)); clear hK K; simp only [Act.put, List.setIfInBounds_toArray, List.set_cons_zero, List.set_cons_succ])
                  | (refine BigFrame.wpQuiet_want (by rfl) (fun K hK => ?_); go_simp; apply Exists.intro; refine ⟨fun W hW => ?_, hK _ ?_⟩; (exact (at_is HZA.out lo' hi' _ _ (HW.out.after hW.t.r.2.1.1) (by omega)).mono (fun e w' h => ⟨h.1, hW.below h.2⟩)); clear hK K; try simp only [Act.put, List.setIfInBounds_toArray, List.set_cons_zero, List.set_cons_succ])
                  | fail)
                refine wpQuiet_nil ?_
                intro W hW
                clear hkt hcell
                replace T := Lib.hid hW.t
                have hkt := hW.k
                cases za with
                | true =>
                  simp only [if_true] at HSY
                  have tok1 : True := trivial
                  go_wp2_with (first | (at_builtin; have _t := tok1; obtain ⟨A0, c0, w8, hrun, hT, hs8, hbk⟩ := run_app3 T.out 1 k x.label 28 _ rfl (by omega); refine Lib.wpList_append_run _ rfl (.tmp 69) (.tmp 74) _ _ rfl _ _ rfl rfl _ _ hrun ?_; replace hkt := K3.of_block hkt (hbk _ hkt.2.2.2 (fun he => by have := HB8.out _ he; omega)) hs8; replace T := Lib.hid hT; clear hrun hT hbk hs8 tok1) | (at_builtin; obtain ⟨A1, c1, w7, hrun, hT, hs9⟩ := run_app3 T.out.rot.rot 3 k x.label 28 _ rfl (by omega); refine Lib.wpList_append_run _ rfl (.tmp 76) (.tmp 81) _ _ rfl _ _ rfl rfl _ _ hrun ?_; replace T := Lib.hid hT.rot; clear hrun hT))
                  have hk1 : k + 1 ≤ n.trans.length := by omega
                  have hT : Hid (T3 (w.heap.size + 1) (.slice A0 (syncAt n l kp tl (k + 1)).length c0) (syncAt n l kp tl (k + 1)) (.slice A9 lg.length c9) lg (.slice A1 (modelAt n tl (k + 1)).length c1) (modelAt n tl (k + 1)) [Loc.k4 w.heap.size (.int .i64 n.places) (.slice (some ⟨b4, off4, none⟩) n.trans.length c) (.int .i64 n.source) (.int .i64 n.sink), Loc.bl w.heap.size w] _) := Lib.hid (by rw [HSY.out, HMO.out]; exact T.out)
                  have e8 : Value.slice A0 (sy.length + 1) c0 = .slice A0 (syncAt n l kp tl (k + 1)).length c0 := by rw [HSY.out, List.length_append]; rfl
                  have e10 : Value.slice A1 (mo.length + 1) c1 = .slice A1 (modelAt n tl (k + 1)).length c1 := by rw [HMO.out, List.length_append]; rfl
                  have hki : Value.int .i64 ((k : Int) + 1) = .int .i64 ((k + 1 : Nat) : Int) := by go_num
                  first
                    | exact ⟨⟨k + 1, A0, c0, A1, c1, hk1, hki, e8, e10, hT⟩, by simp [intOf]; omega⟩
                    | (go_roundw
                       case rel => (first | exact ⟨k + 1, A0, c0, A1, c1, hk1, hki, e8, e10, hT⟩ | ((repeat apply Exists.intro); exact ⟨⟨k + 1, A0, c0, A1, c1, hk1, hki, e8, e10, hT⟩, rfl⟩))
                       case measure => simp [intOf]; omega)
                | false =>
                  simp only [Bool.false_eq_true, if_false, List.append_nil] at HSY
                  go_wp2_with (at_builtin; obtain ⟨A1, c1, w7, hrun, hT, hs9⟩ := run_app3 T.out.rot.rot 3 k x.label 28 _ rfl (by omega); refine Lib.wpList_append_run _ rfl (.tmp 76) (.tmp 81) _ _ rfl _ _ rfl rfl _ _ hrun ?_; replace T := Lib.hid hT.rot; clear hrun hT)
                  have hk1 : k + 1 ≤ n.trans.length := by omega
                  have hT : Hid (T3 (w.heap.size + 1) (.slice A8 (syncAt n l kp tl (k + 1)).length c8) (syncAt n l kp tl (k + 1)) (.slice A9 lg.length c9) lg (.slice A1 (modelAt n tl (k + 1)).length c1) (modelAt n tl (k + 1)) [Loc.k4 w.heap.size (.int .i64 n.places) (.slice (some ⟨b4, off4, none⟩) n.trans.length c) (.int .i64 n.source) (.int .i64 n.sink), Loc.bl w.heap.size w] _) := Lib.hid (by rw [HSY.out, HMO.out]; exact T.out)
                  have e8 : Value.slice A8 sy.length c8 = .slice A8 (syncAt n l kp tl (k + 1)).length c8 := by rw [HSY.out]
                  have e10 : Value.slice A1 (mo.length + 1) c1 = .slice A1 (modelAt n tl (k + 1)).length c1 := by rw [HMO.out, List.length_append]; rfl
                  have hki : Value.int .i64 ((k : Int) + 1) = .int .i64 ((k + 1 : Nat) : Int) := by go_num
                  first
                    | exact ⟨⟨k + 1, A8, c8, A1, c1, hk1, hki, e8, e10, hT⟩, by simp [intOf]; omega⟩
                    | (go_roundw
                       case rel => (first | exact ⟨k + 1, A8, c8, A1, c1, hk1, hki, e8, e10, hT⟩ | ((repeat apply Exists.intro); exact ⟨⟨k + 1, A8, c8, A1, c1, hk1, hki, e8, e10, hT⟩, rfl⟩))
                       case measure => simp [intOf]; omega)
          · rw [HFI.out, decide_eq_false he0] at HSY HMO
            simp only [Bool.false_and, Bool.false_eq_true, if_false, List.append_nil] at HSY HMO
            have be0 : (fe != 0) = true := by simpa using he0
            go_wp2_with fail
            go_region_held3 (fun W => K4 W w.heap.size (.int .i64 n.places) (.slice (some ⟨b4, off4, none⟩) n.trans.length c) (.int .i64 n.source) (.int .i64 n.sink)) (exact hk4) (first
              | (go_at_call 39; refine (HFE.out _ (by first | exact T.out.r.2.1.1 | exact T.out.drew.r.2.1.1)).mono ?_; rintro e w6 ⟨A6, c6, rfl, hr6, hb6⟩; replace hkt := K3.aft (by first | exact hb6 | exact (Below.refl _ _).drew.trans hb6) hkt; replace T := Lib.hid (T3.below (by first | exact T.out | exact T.out.drew) hb6); dsimp only; replace hk4 := T.out.r.1; clear hb6 hr6))
            all_goals
              go_wp2_with fail
              have hk1 : k + 1 ≤ n.trans.length := by omega
              have hT : Hid (T3 (w.heap.size + 1) (.slice A8 (syncAt n l kp tl (k + 1)).length c8) (syncAt n l kp tl (k + 1)) (.slice A9 lg.length c9) lg (.slice A10 (modelAt n tl (k + 1)).length c10) (modelAt n tl (k + 1)) [Loc.k4 w.heap.size (.int .i64 n.places) (.slice (some ⟨b4, off4, none⟩) n.trans.length c) (.int .i64 n.source) (.int .i64 n.sink), Loc.bl w.heap.size w] _) := Lib.hid (by rw [HSY.out, HMO.out]; exact T.out)
              have e8 : Value.slice A8 sy.length c8 = .slice A8 (syncAt n l kp tl (k + 1)).length c8 := by rw [HSY.out]
              have e10 : Value.slice A10 mo.length c10 = .slice A10 (modelAt n tl (k + 1)).length c10 := by rw [HMO.out]
              have hki : Value.int .i64 ((k : Int) + 1) = .int .i64 ((k + 1 : Nat) : Int) := by go_num
              first
                | exact ⟨⟨k + 1, A8, c8, A10, c10, hk1, hki, e8, e10, hT⟩, by simp [intOf]; omega⟩
                | (go_roundw
                   case rel => (first | exact ⟨k + 1, A8, c8, A10, c10, hk1, hki, e8, e10, hT⟩ | ((repeat apply Exists.intro); exact ⟨⟨k + 1, A8, c8, A10, c10, hk1, hki, e8, e10, hT⟩, rfl⟩))
                   case measure => simp [intOf]; omega)
        · obtain rfl : k = n.trans.length := by omega
          have hsl8 := syncAt_len n l kp tl n.trans.length
          have hml10 := modelAt_len n tl n.trans.length
          generalize syncAt n l kp tl n.trans.length = sy at *
          generalize modelAt n tl n.trans.length = mo at *
          have hT1 := T.out.s
          go_wp2_with (go_at_call 78; refine (concat3 T.out _ (by omega)).mono ?_; rintro e w9 ⟨A1, c1, rfl, hr9, hb9⟩; have HR9 := Lib.hid hr9; replace T := Lib.hid ((T.out.alloc _).below hb9); clear hb9 hr9)
          exact HR.out _ _ (RetM.mk (lo := wr.heap.size + 1) HME.out (by simp) (by have := HR9.out; simpa only [List.length_append] using this) (by omega) (Nat.le_refl _) T.out.r.2.1.1)
end Go.Proofs.Ytamhbmaimiifmaa
