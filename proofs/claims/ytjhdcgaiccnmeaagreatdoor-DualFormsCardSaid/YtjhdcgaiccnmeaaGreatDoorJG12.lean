import Derived.Test.YtjhdcgaiccnmeaaGreatDoorJG8
import Derived.Test.YtjhdcgaiccnmeaaGreatDoorJG10
import Derived.Test.YtjhdcgaiccnmeaaGreatDoorJG6
import Derived.Test.YtjhdcgaiccnmeaaGreatDoorJG1
set_option linter.unusedSimpArgs false
set_option linter.unusedVariables false
set_option linter.unusedSectionVars false
section
namespace Go.Proofs.YtjhdcgaiccnmeaaGreatDoor
open Go.RowKit
def RetM (w : World) (r : List Stp × Int) (e : Ending) (w' : World) : Prop :=
 ∃ A c, e = .returned (.tuple #[.slice A r.1.length c, .int .i64 r.2]) ∧ RdM w' w.heap.size w'.heap.size (.slice A r.1.length c) r.1 ∧ Below w.heap.size w w'
theorem RetM.nil {w w' : World} {r : List Stp × Int} {c : Int} (h : r = ([], c)) (hb : Below w.heap.size w w') : RetM w r (.returned (.tuple #[.slice none 0 0, .int .i64 c])) w' := by
 subst h
 exact ⟨none, 0, rfl, Rd.nil _ _ _, hb⟩
theorem RetM.mk {w w' : World} {r : List Stp × Int} {l : List Stp} {n k : Nat} {A : Option Addr} {c : Int} (h : r = (l, c)) (hn : n = l.length) {lo hi : Nat} (hr : RdM w' lo hi (.slice A n k) l) (hlo : w.heap.size ≤ lo) (hhi : hi ≤ w'.heap.size) (hb : Below w.heap.size w w') : RetM w r (.returned (.tuple #[.slice A n k, .int .i64 c])) w' := by
 subst h hn
 exact ⟨A, k, rfl, hr.mono hlo hhi, hb⟩
def fires (n : Net) (m : List Int) (k : Nat) : Bool := decide ((FireE n m k).2 = 0)
def syncOf (n : Net) (w : List ByteArray) (p : Int) (m : List Int) (k : Nat) : List Stp := if fires n m k && (!(gti n.trans k).label.toList.isEmpty && atB w p (gti n.trans k).label) then [⟨1, k, (gti n.trans k).label⟩] else []
def modelOf (n : Net) (m : List Int) (k : Nat) : List Stp := if fires n m k then (if (gti n.trans k).label.toList.isEmpty then [⟨4, k, ByteArray.empty⟩] else [⟨3, k, (gti n.trans k).label⟩]) else []
def zc5 (n : Net) (w : List ByteArray) (p : Int) (m : List Int) : Nat → List Stp
 | 0 => []
 | k + 1 => zc5 n w p m k ++ syncOf n w p m k
def zcm (n : Net) (m : List Int) : Nat → List Stp
 | 0 => []
 | k + 1 => zcm n m k ++ modelOf n m k
def logOf (w : List ByteArray) (p : Int) : List Stp := if p < w.length then [⟨2, -1, gti w p.toNat⟩] else []
theorem syncAt_len (n : Net) (w : List ByteArray) (p : Int) (m : List Int) : ∀ k, (zc5 n w p m k).length ≤ k
 | 0 => by simp [zc5]
 | k + 1 => by
  have := syncAt_len n w p m k
  have : (syncOf n w p m k).length ≤ 1 := by unfold syncOf; split <;> simp
  simp only [zc5, List.length_append]
  omega
theorem modelAt_len (n : Net) (m : List Int) : ∀ k, (zcm n m k).length ≤ k
 | 0 => by simp [zcm]
 | k + 1 => by
  have := modelAt_len n m k
  have : (modelOf n m k).length ≤ 1 := by unfold modelOf; split; (split <;> simp); simp
  simp only [zcm, List.length_append]
  omega
theorem logOf_len (w : List ByteArray) (p : Int) : (logOf w p).length ≤ 1 := by unfold logOf; split <;> simp
def movesL (n : Net) (w : List ByteArray) (s : List Int) : List Stp := zc5 n w (gti s 0) (s.drop 1) n.trans.length ++ (logOf w (gti s 0) ++ zcm n (s.drop 1) n.trans.length)
def MovesE (n : Net) (w : List ByteArray) (s : List Int) : List Stp × Int := if zct n w s then (movesL n w s, 0) else ([], 1)
theorem at_is {l : List ByteArray} {k : Int} {a : ByteArray} {z : Bool} (hz : atB l k a = z) (lo hi : Nat) (v : Value) (w : World) (hv : RdS w lo hi v l) (hk : 0 ≤ k) :
  Calls Tryz.prog 116 #[v, .int .i64 k, .string a] w fun e w' => e = .returned (.bool z) ∧ Below w.heap.size w w' := hz ▸ at_any l k a lo hi v w hv hk
theorem own_nil (w : World) (lo : Nat) : OwnB w lo (.slice none 0 0) [] := ⟨by simp, .inl ⟨rfl, rfl⟩⟩
structure T3C (lo : Nat) (v1 : Value) (l1 : List Stp) (v2 : Value) (l2 : List Stp) (v3 : Value) (l3 : List Stp) (rest : List Loc) (g : Nat) (x y z : Value) (b off : Nat) (u : Value) (w : World) : Prop where
 t : T3 lo v1 l1 v2 l2 v3 l3 rest w
 k : K3 w g x y z
 c : C1 w b off u
theorem T3C.below {lo : Nat} {v1 v2 v3 : Value} {l1 l2 l3 : List Stp} {rest : List Loc} {g : Nat} {x y z : Value} {b off : Nat} {u : Value} {w W : World} (h : T3C lo v1 l1 v2 l2 v3 l3 rest g x y z b off u w) (hb : Below w.heap.size w W) : T3C lo v1 l1 v2 l2 v3 l3 rest g x y z b off u W :=
 ⟨h.t.below hb, K3.aft hb h.k, C1.aft hb h.c⟩
theorem concat3 {W : World} {lo : Nat} {v1 v2 v3 : Value} {l1 l2 l3 : List Stp} {rest : List Loc} (h : T3 lo v1 l1 v2 l2 v3 l3 rest W) (t : TypeId) (hb : l1.length + (l2.length + l3.length) ≤ 10000) :
  Calls Tryz.prog 117 #[.slice (some ⟨W.heap.size, 0, none⟩) 3 3] (W.alloc (.cells #[v1, v2, v3] t)) fun e w' => ∃ A c, e = .returned (.slice A (l1 ++ (l2 ++ l3)).length c) ∧ RdM w' (W.heap.size + 1) w'.heap.size (.slice A (l1 ++ (l2 ++ l3)).length c) (l1 ++ (l2 ++ l3)) ∧ Below (W.alloc (.cells #[v1, v2, v3] t)).heap.size (W.alloc (.cells #[v1, v2, v3] t)) w' := by
 have hr : ∀ k, k < [l1, l2, l3].length → RdM (W.alloc (.cells #[v1, v2, v3] t)) lo W.heap.size (gti [v1, v2, v3] k) (gti [l1, l2, l3] k) := by
  intro k hk
  have hba : Below W.heap.size W (W.alloc (.cells #[v1, v2, v3] t)) := (Below.refl _ _).alloc (Nat.le_refl _) _
  match k, hk with
  | 0, _ => exact h.o1.rd.after hba
  | 1, _ => exact h.o2.rd.after hba
  | 2, _ => exact h.o3.rd.after hba
  | k + 3, hk => exact absurd hk (by simp)
 have h1 := concat_any [v1, v2, v3] [l1, l2, l3] _ 0 _ lo W.heap.size _ (Rd.lit (enc := encQ) W t [v1, v2, v3] _ 3 rfl rfl (by simp [maxLen]) (fun _ => rfl)) rfl hr (by simp; omega)
 have e : [l1, l2, l3].flatten = l1 ++ (l2 ++ l3) := by simp
 rw [e] at h1
 refine h1.mono ?_
 rintro e w' ⟨A, c, rfl, h2, h3⟩
 exact ⟨A, c, rfl, h2.mono (by simp) (Nat.le_refl _), h3⟩
set_option maxRecDepth 100000 in
set_option maxHeartbeats 4000000 in
theorem Moves_any (n : Net) (l : List ByteArray) (s : List Int) (vt v vs : Value) (lo hi lo' hi' lo2 hi2 : Nat) (w : World) (hv : RdT w lo hi vt n.trans) (hw : RdS w lo' hi' v l) (hs : RdI w lo2 hi2 vs s) :
  Calls Tryz.prog 69 #[netV n vt, v, vs] w (RetM w (MovesE n l s)) := by
 obtain ⟨A, c, rfl, hc, hmm⟩ := hv.form
 obtain ⟨A2, c2, rfl, hc2, hmm2⟩ := hw.form
 obtain ⟨A3, c3, rfl, hc3, hmm3⟩ := hs.form
 have HV := Lib.hid hv
 have HW := Lib.hid hw
 have HS := Lib.hid hs
 clear hv hw
 cases hz : zct n l s with
 | false =>
  have HZ := Lib.hid hz
  clear hz hs
  refine zax fun R hR => ?_
  have HR := Lib.hid hR
  clear hR
  go_enter Tryz.func69, Tryz.ntmps69
  have M : Hid (Mem [Loc.k4 w.heap.size (.int .i64 n.places) (.slice A n.trans.length c) (.int .i64 n.source) (.int .i64 n.sink), Loc.bl w.heap.size w] (w.alloc (.cells #[.int .i64 n.places, .slice A n.trans.length c, .int .i64 n.source, .int .i64 n.sink] 24))) := Lib.hid ⟨K4.new w _ _ _ _ _, ⟨(Below.refl _ _).alloc (Nat.le_refl _) _, by simp⟩, True.intro⟩
  have hk4 := M.out.1
  go_wp2_with (go_at_call 114; refine (isState_is HZ.out _ _ _ lo hi lo' hi' lo2 hi2 _ (HV.out.after M.out.2.1.1) (HW.out.after M.out.2.1.1) (HS.out.after M.out.2.1.1)).mono ?_; rintro e w1 ⟨rfl, hb1⟩; replace M := Lib.hid (M.out.below hb1); clear hb1; replace hk4 := M.out.1)
  exact HR.out _ _ (RetM.nil (by rw [MovesE, HZ.out]; rfl) M.out.2.1.1)
 | true =>
  have HZ := Lib.hid hz
  obtain ⟨h1, h2, h3, h4, h5⟩ := zdp hz
  have hval : n.trans.length ≤ 60 := by
   have := (zc6.1 hz).2.2.2.2
   unfold zcu at this
   simp only [Bool.and_eq_true] at this
   exact (za8 this.1).2.2
  have HME : Hid (MovesE n l s = (zc5 n l (gti s 0) (s.drop 1) n.trans.length ++ (logOf l (gti s 0) ++ zcm n (s.drop 1) n.trans.length), 0)) := Lib.hid (by rw [MovesE, hz]; rfl)
  clear hz
  obtain ⟨b, off, rfl, _, _, hcell⟩ := RdI.at1 hs (k := 0) (by omega)
  obtain ⟨At, ct, hsl, ht⟩ := RdI.tail1 hs h1 hc3
  obtain ⟨tl, htl⟩ : ∃ tl, s.drop 1 = tl := ⟨_, rfl⟩
  rw [htl] at hsl ht HME
  have HT := Lib.hid ht
  have hs0 : (0 : Int) < (s.length : Int) := by omega
  have hs2 : ¬ s = [] := by intro e; rw [e] at h1; simp at h1
  have hs3 : 0 < s.length := h1
  clear hs ht htl
  simp only [Nat.add_zero] at hcell
  have HC := Lib.hid hcell
  clear hcell
  generalize gti s 0 = p at *
  obtain ⟨kp, rfl⟩ : ∃ k : Nat, p = k := ⟨p.toNat, by omega⟩
  refine zax fun R hR => ?_
  have HR := Lib.hid hR
  clear hR
  go_enter Tryz.func69, Tryz.ntmps69
  have M : Hid (Mem [Loc.k4 w.heap.size (.int .i64 n.places) (.slice A n.trans.length c) (.int .i64 n.source) (.int .i64 n.sink), Loc.bl w.heap.size w] (w.alloc (.cells #[.int .i64 n.places, .slice A n.trans.length c, .int .i64 n.source, .int .i64 n.sink] 24))) := Lib.hid ⟨K4.new w _ _ _ _ _, ⟨(Below.refl _ _).alloc (Nat.le_refl _) _, by simp⟩, True.intro⟩
  have hk4 := M.out.1
  have hcell := C1.aft M.out.2.1.1 HC.out
  have hT0 : ∀ W, Mem [Loc.k4 w.heap.size (.int .i64 n.places) (.slice A n.trans.length c) (.int .i64 n.source) (.int .i64 n.sink), Loc.bl w.heap.size w] W → T3 (w.heap.size + 1) (.slice none 0 0) [] (.slice none 0 0) [] (.slice none 0 0) [] [Loc.k4 w.heap.size (.int .i64 n.places) (.slice A n.trans.length c) (.int .i64 n.source) (.int .i64 n.sink), Loc.bl w.heap.size w] W := fun W h =>
   ⟨own_nil _ _, own_nil _ _, own_nil _ _, Dis.nil _, Dis.nil _, Dis.nil _, ⟨fun k hk => by dsimp only at hk; omega, fun k hk => by dsimp only at hk; omega, True.intro⟩, by have := h.1.2.2.2.2; omega, h⟩
  have HT0 := Lib.hid hT0
  clear hT0
  go_upto_if 25 with (go_at_call 114; refine (isState_is HZ.out _ _ _ lo hi lo' hi' lo2 hi2 _ (HV.out.after M.out.2.1.1) (HW.out.after M.out.2.1.1) (HS.out.after M.out.2.1.1)).mono ?_; rintro e w1 ⟨rfl, hb1⟩; replace M := Lib.hid (M.out.below hb1); clear hb1; replace hk4 := M.out.1; replace hcell := C1.aft M.out.2.1.1 HC.out)
  go_cut [9] (fun v9 wx => ∃ A9 c9, v9 = .slice A9 (logOf l kp).length c9 ∧ Hid (T3 (w.heap.size + 1) (.slice none 0 0) [] (.slice A9 (logOf l kp).length c9) (logOf l kp) (.slice none 0 0) [] [Loc.k4 w.heap.size (.int .i64 n.places) (.slice A n.trans.length c) (.int .i64 n.source) (.int .i64 n.sink), Loc.bl w.heap.size w] wx))
  case first =>
   have T := Lib.hid (HT0.out _ M.out)
   by_cases hp : kp < l.length
   ·
    have hpi : (kp : Int) < l.length := by omega
    obtain ⟨b5, off5, rfl, _, _, hce5⟩ := RdS.at1 (HW.out.after M.out.2.1.1) hp
    have HLG : Hid (logOf l kp = [] ++ [⟨2, -1, gti l kp⟩]) := Lib.hid (by unfold logOf; rw [if_pos hpi]; simp)
    generalize gti l kp = x5 at *
    go_wp2_with (at_builtin; obtain ⟨A9, c9, w9, hrun, hT, hs9⟩ := run_app3 T.out.rot 2 (-1) x5 68 _ rfl (by simp); refine Lib.wpList_append_run _ rfl _ _ _ _ rfl _ _ rfl rfl _ _ hrun ?_; replace T := Lib.hid hT; clear hrun hT)
    go_meet
    rw [HLG.out]
    exact ⟨A9, c9, rfl, Lib.hid T.out.rot.rot⟩
   ·
    have hpi : ¬ (kp : Int) < l.length := by omega
    have HLG : Hid (logOf l kp = []) := Lib.hid (by unfold logOf; rw [if_neg hpi])
    go_wp2_with fail
    go_meet
    rw [HLG.out]
    exact ⟨none, 0, rfl, T⟩
  case rest =>
   clear M hk4 hcell
   obtain ⟨A9, c9, rfl, T⟩ := hcut
   have hk4 := T.out.r.1
   have hll := logOf_len l kp
   have HME2 := HME
   generalize logOf l kp = lg at *
   go_wp2_with fail
   go_loopw [39, 8, 10, 11, 12, 13, 14] (fun v39 v8 v10 _ _ _ _ wr => ∃ (k : Nat) (A8 : Option Addr) (c8 : Nat) (A10 : Option Addr) (c10 : Nat), k ≤ n.trans.length ∧ v39 = .int .i64 k ∧ v8 = .slice A8 (zc5 n l kp tl k).length c8 ∧ v10 = .slice A10 (zcm n tl k).length c10 ∧ Hid (T3 (w.heap.size + 1) (.slice A8 (zc5 n l kp tl k).length c8) (zc5 n l kp tl k) (.slice A9 lg.length c9) lg (.slice A10 (zcm n tl k).length c10) (zcm n tl k) [Loc.k4 w.heap.size (.int .i64 n.places) (.slice A n.trans.length c) (.int .i64 n.source) (.int .i64 n.sink), Loc.bl w.heap.size w] wr)) (fun v39 _ _ _ _ _ _ _ => n.trans.length - (intOf v39).toNat)
   case atStart => exact ⟨0, none, 0, none, 0, by omega, rfl, rfl, rfl, T⟩
   case round =>
    clear T hk4
    obtain ⟨k, A8, c8, A10, c10, hk, rfl, rfl, rfl, T⟩ := hrel
    have hk4 := T.out.r.1
    by_cases hlt : k < n.trans.length
    ·
     obtain ⟨b4, off4, vi, vo, rfl, _, _, hct, hri, hro⟩ := RdT.at3 (HV.out.after T.out.r.2.1.1) hlt
     have HSY : Hid (zc5 n l kp tl (k + 1) = zc5 n l kp tl k ++ if fires n tl k && (!(gti n.trans k).label.toList.isEmpty && atB l kp (gti n.trans k).label) then [⟨1, k, (gti n.trans k).label⟩] else []) := Lib.hid rfl
     have HMO : Hid (zcm n tl (k + 1) = zcm n tl k ++ if fires n tl k then (if (gti n.trans k).label.toList.isEmpty then [⟨4, k, ByteArray.empty⟩] else [⟨3, k, (gti n.trans k).label⟩]) else []) := Lib.hid rfl
     have hsl8 := syncAt_len n l kp tl k
     have hml10 := modelAt_len n tl k
     generalize zc5 n l kp tl k = sy at *
     generalize zcm n tl k = mo at *
     have HFE := Lib.hid (fun (W : World) (h : Below w.heap.size w W) => Fire_any n tl k _ _ lo hi lo2 hi2 W (HV.out.after h) (HT.out.after h))
     have HFI : Hid (fires n tl k = decide ((FireE n tl k).2 = 0)) := Lib.hid rfl
     obtain ⟨⟨fl, fe⟩, hfe⟩ : ∃ r, FireE n tl k = r := ⟨_, rfl⟩
     rw [hfe] at HFE HFI
     dsimp only at HFI
     clear hfe
     generalize gti n.trans k = x at *
     obtain ⟨Ai, ci, rfl, hci, hmi⟩ := hri.form
     obtain ⟨Ao, co, rfl, hco, hmo⟩ := hro.form
     clear hri hro
     have HB8 := Lib.hid (fun k (h : (Value.slice A8 sy.length c8).ownBlock = some k) => (T.out.o1.lt k h).2)
     replace T := Lib.hid (T.out.alloc (.cells #[.string x.label, .slice Ai x.inn.length ci, .slice Ao x.out.length co] 86))
     replace hk4 := T.out.r.1
     have hkt := K3.new wr (.string x.label) (.slice Ai x.inn.length ci) (.slice Ao x.out.length co) 86
     by_cases he0 : fe = 0
     ·
      subst he0
      rw [HFI.out] at HSY HMO
      simp only [decide_true, Bool.true_and, if_true] at HSY HMO
      obtain ⟨ze, hze⟩ : ∃ z, x.label.toList.isEmpty = z := ⟨_, rfl⟩
      rw [hze] at HSY HMO
      go_wp2_with fail
      go_region_held3 (fun W => K4 W w.heap.size (.int .i64 n.places) (.slice (some ⟨b4, off4, none⟩) n.trans.length c) (.int .i64 n.source) (.int .i64 n.sink)) (exact hk4) (first
       | (go_at_call 115; refine (HFE.out _ (by first | exact T.out.r.2.1.1 | exact T.out.drew.r.2.1.1)).mono ?_; rintro e w6 ⟨A6, c6, rfl, hr6, hb6⟩; replace hkt := K3.aft (by first | exact hb6 | exact (Below.refl _ _).drew.trans hb6) hkt; replace T := Lib.hid (T3.below (by first | exact T.out | exact T.out.drew) hb6); dsimp only; replace hk4 := T.out.r.1; clear hb6 hr6))
      all_goals
       cases ze with
       | true =>
        simp only [Bool.not_true, Bool.false_and, Bool.false_eq_true, if_false, if_true, List.append_nil] at HSY HMO
        go_wp2_with (at_builtin; obtain ⟨A1, c1, w7, hrun, hT, hs9⟩ := run_app3 T.out.rot.rot 4 k ByteArray.empty 68 _ rfl (by omega); refine Lib.wpList_append_run _ rfl (.tmp 57) (.tmp 60) _ _ rfl _ _ rfl rfl _ _ hrun ?_; replace T := Lib.hid hT.rot; clear hrun hT)
        have hk1 : k + 1 ≤ n.trans.length := by omega
        have hT : Hid (T3 (w.heap.size + 1) (.slice A8 (zc5 n l kp tl (k + 1)).length c8) (zc5 n l kp tl (k + 1)) (.slice A9 lg.length c9) lg (.slice A1 (zcm n tl (k + 1)).length c1) (zcm n tl (k + 1)) [Loc.k4 w.heap.size (.int .i64 n.places) (.slice (some ⟨b4, off4, none⟩) n.trans.length c) (.int .i64 n.source) (.int .i64 n.sink), Loc.bl w.heap.size w] _) := Lib.hid (by rw [HSY.out, HMO.out]; exact T.out)
        have e8 : Value.slice A8 sy.length c8 = .slice A8 (zc5 n l kp tl (k + 1)).length c8 := by rw [HSY.out]
        have e10 : Value.slice A1 (mo.length + 1) c1 = .slice A1 (zcm n tl (k + 1)).length c1 := by rw [HMO.out, List.length_append]; rfl
        have hki : Value.int .i64 ((k : Int) + 1) = .int .i64 ((k + 1 : Nat) : Int) := by go_num
        first
         | exact ⟨⟨k + 1, A8, c8, A1, c1, hk1, hki, e8, e10, hT⟩, by simp [intOf]; omega⟩
         |
          (go_roundw
           case rel => (first | exact ⟨k + 1, A8, c8, A1, c1, hk1, hki, e8, e10, hT⟩ | ((repeat apply Exists.intro); exact ⟨⟨k + 1, A8, c8, A1, c1, hk1, hki, e8, e10, hT⟩, rfl⟩))
           case measure => simp [intOf]; omega)
       | false =>
        obtain ⟨za, hza⟩ : ∃ z, atB l kp x.label = z := ⟨_, rfl⟩
        have HZA := Lib.hid hza
        rw [hza] at HSY
        clear hza
        have hcell := C1.aft T.out.r.2.1.1 HC.out
        simp only [Bool.not_false, Bool.true_and, Bool.false_eq_true, if_false] at HSY HMO
        go_wp2_with fail
        refine zdq (C := (T3C (w.heap.size + 1) (.slice A8 sy.length c8) sy (.slice A9 lg.length c9) lg (.slice A10 mo.length c10) mo [Loc.k4 w.heap.size (.int .i64 n.places) (.slice (some ⟨b4, off4, none⟩) n.trans.length c) (.int .i64 n.source) (.int .i64 n.sink), Loc.bl w.heap.size w] wr.heap.size (.string x.label) (.slice Ai x.inn.length ci) (.slice Ao x.out.length co) b off (.int .i64 kp))) (by kernel_rfl) (by kernel_rfl) (by exact ⟨T.out.drew, hkt, hcell⟩) ?_
        repeat (first
         | (refine BigFrame.wpQuiet_skip (by rfl) ?_; simp only [Act.put, List.setIfInBounds_toArray, List.set_cons_zero, List.set_cons_succ])
         | (refine BigFrame.wpQuiet_want (by rfl) (fun K hK => ?_); refine BigFrame.quiet_move _ rfl (hK _ ?_); clear hK K; simp only [Act.put, Act.eval, List.setIfInBounds_toArray, List.set_cons_zero, List.set_cons_succ, List.getD_toArray, List.getD_cons_zero, List.getD_cons_succ])
         | (refine BigFrame.wpQuiet_want (by rfl) (fun K hK => ?_); refine BigFrame.quiet_assign _ rfl (hK _ ?_); clear hK K; simp only [Act.put, Act.eval, List.setIfInBounds_toArray, List.set_cons_zero, List.set_cons_succ, List.getD_toArray, List.getD_cons_zero, List.getD_cons_succ])
         | (refine BigFrame.wpQuiet_want (by rfl) (fun K hK => ?_); refine quiet_of (v := ?_) (fun W hW => ?_) (hK _ ?_); rotate_left; ((have hq1 := hW.k; have hq2 := hW.c); go_simp; try (with_reducible rfl)); clear hK K; simp only [Act.put, List.setIfInBounds_toArray, List.set_cons_zero, List.set_cons_succ])
         | (refine BigFrame.wpQuiet_want (by rfl) (fun K hK => ?_); go_simp; apply Exists.intro; refine ⟨fun W hW => ?_, hK _ ?_⟩; (exact (at_is HZA.out lo' hi' _ _ (HW.out.after hW.t.r.2.1.1) (by omega)).mono (fun e w' h => ⟨h.1, hW.below h.2⟩)); clear hK K; try simp only [Act.put, List.setIfInBounds_toArray, List.set_cons_zero, List.set_cons_succ])
         | fail)
        refine wpQuiet_nil ?_
        intro W hW
        clear hkt hcell
        replace T := Lib.hid hW.t
        have hkt := hW.k
        cases za with
        | true =>
         simp only [if_true] at HSY
         have tok1 : True := trivial
         go_wp2_with (first | (at_builtin; have _t := tok1; obtain ⟨A0, c0, w8, hrun, hT, hs8, hbk⟩ := run_app3 T.out 1 k x.label 68 _ rfl (by omega); refine Lib.wpList_append_run _ rfl (.tmp 69) (.tmp 74) _ _ rfl _ _ rfl rfl _ _ hrun ?_; replace hkt := K3.of_block hkt (hbk _ hkt.2.2.2 (fun he => by have := HB8.out _ he; omega)) hs8; replace T := Lib.hid hT; clear hrun hT hbk hs8 tok1) | (at_builtin; obtain ⟨A1, c1, w7, hrun, hT, hs9⟩ := run_app3 T.out.rot.rot 3 k x.label 68 _ rfl (by omega); refine Lib.wpList_append_run _ rfl (.tmp 76) (.tmp 81) _ _ rfl _ _ rfl rfl _ _ hrun ?_; replace T := Lib.hid hT.rot; clear hrun hT))
         have hk1 : k + 1 ≤ n.trans.length := by omega
         have hT : Hid (T3 (w.heap.size + 1) (.slice A0 (zc5 n l kp tl (k + 1)).length c0) (zc5 n l kp tl (k + 1)) (.slice A9 lg.length c9) lg (.slice A1 (zcm n tl (k + 1)).length c1) (zcm n tl (k + 1)) [Loc.k4 w.heap.size (.int .i64 n.places) (.slice (some ⟨b4, off4, none⟩) n.trans.length c) (.int .i64 n.source) (.int .i64 n.sink), Loc.bl w.heap.size w] _) := Lib.hid (by rw [HSY.out, HMO.out]; exact T.out)
         have e8 : Value.slice A0 (sy.length + 1) c0 = .slice A0 (zc5 n l kp tl (k + 1)).length c0 := by rw [HSY.out, List.length_append]; rfl
         have e10 : Value.slice A1 (mo.length + 1) c1 = .slice A1 (zcm n tl (k + 1)).length c1 := by rw [HMO.out, List.length_append]; rfl
         have hki : Value.int .i64 ((k : Int) + 1) = .int .i64 ((k + 1 : Nat) : Int) := by go_num
         first
          | exact ⟨⟨k + 1, A0, c0, A1, c1, hk1, hki, e8, e10, hT⟩, by simp [intOf]; omega⟩
          |
           (go_roundw
            case rel => (first | exact ⟨k + 1, A0, c0, A1, c1, hk1, hki, e8, e10, hT⟩ | ((repeat apply Exists.intro); exact ⟨⟨k + 1, A0, c0, A1, c1, hk1, hki, e8, e10, hT⟩, rfl⟩))
            case measure => simp [intOf]; omega)
        | false =>
         simp only [Bool.false_eq_true, if_false, List.append_nil] at HSY
         go_wp2_with (at_builtin; obtain ⟨A1, c1, w7, hrun, hT, hs9⟩ := run_app3 T.out.rot.rot 3 k x.label 68 _ rfl (by omega); refine Lib.wpList_append_run _ rfl (.tmp 76) (.tmp 81) _ _ rfl _ _ rfl rfl _ _ hrun ?_; replace T := Lib.hid hT.rot; clear hrun hT)
         have hk1 : k + 1 ≤ n.trans.length := by omega
         have hT : Hid (T3 (w.heap.size + 1) (.slice A8 (zc5 n l kp tl (k + 1)).length c8) (zc5 n l kp tl (k + 1)) (.slice A9 lg.length c9) lg (.slice A1 (zcm n tl (k + 1)).length c1) (zcm n tl (k + 1)) [Loc.k4 w.heap.size (.int .i64 n.places) (.slice (some ⟨b4, off4, none⟩) n.trans.length c) (.int .i64 n.source) (.int .i64 n.sink), Loc.bl w.heap.size w] _) := Lib.hid (by rw [HSY.out, HMO.out]; exact T.out)
         have e8 : Value.slice A8 sy.length c8 = .slice A8 (zc5 n l kp tl (k + 1)).length c8 := by rw [HSY.out]
         have e10 : Value.slice A1 (mo.length + 1) c1 = .slice A1 (zcm n tl (k + 1)).length c1 := by rw [HMO.out, List.length_append]; rfl
         have hki : Value.int .i64 ((k : Int) + 1) = .int .i64 ((k + 1 : Nat) : Int) := by go_num
         first
          | exact ⟨⟨k + 1, A8, c8, A1, c1, hk1, hki, e8, e10, hT⟩, by simp [intOf]; omega⟩
          |
           (go_roundw
            case rel => (first | exact ⟨k + 1, A8, c8, A1, c1, hk1, hki, e8, e10, hT⟩ | ((repeat apply Exists.intro); exact ⟨⟨k + 1, A8, c8, A1, c1, hk1, hki, e8, e10, hT⟩, rfl⟩))
            case measure => simp [intOf]; omega)
     ·
      rw [HFI.out, decide_eq_false he0] at HSY HMO
      simp only [Bool.false_and, Bool.false_eq_true, if_false, List.append_nil] at HSY HMO
      have be0 : (fe != 0) = true := by simpa using he0
      go_wp2_with fail
      go_region_held3 (fun W => K4 W w.heap.size (.int .i64 n.places) (.slice (some ⟨b4, off4, none⟩) n.trans.length c) (.int .i64 n.source) (.int .i64 n.sink)) (exact hk4) (first
       | (go_at_call 115; refine (HFE.out _ (by first | exact T.out.r.2.1.1 | exact T.out.drew.r.2.1.1)).mono ?_; rintro e w6 ⟨A6, c6, rfl, hr6, hb6⟩; replace hkt := K3.aft (by first | exact hb6 | exact (Below.refl _ _).drew.trans hb6) hkt; replace T := Lib.hid (T3.below (by first | exact T.out | exact T.out.drew) hb6); dsimp only; replace hk4 := T.out.r.1; clear hb6 hr6))
      all_goals
       go_wp2_with fail
       have hk1 : k + 1 ≤ n.trans.length := by omega
       have hT : Hid (T3 (w.heap.size + 1) (.slice A8 (zc5 n l kp tl (k + 1)).length c8) (zc5 n l kp tl (k + 1)) (.slice A9 lg.length c9) lg (.slice A10 (zcm n tl (k + 1)).length c10) (zcm n tl (k + 1)) [Loc.k4 w.heap.size (.int .i64 n.places) (.slice (some ⟨b4, off4, none⟩) n.trans.length c) (.int .i64 n.source) (.int .i64 n.sink), Loc.bl w.heap.size w] _) := Lib.hid (by rw [HSY.out, HMO.out]; exact T.out)
       have e8 : Value.slice A8 sy.length c8 = .slice A8 (zc5 n l kp tl (k + 1)).length c8 := by rw [HSY.out]
       have e10 : Value.slice A10 mo.length c10 = .slice A10 (zcm n tl (k + 1)).length c10 := by rw [HMO.out]
       have hki : Value.int .i64 ((k : Int) + 1) = .int .i64 ((k + 1 : Nat) : Int) := by go_num
       first
        | exact ⟨⟨k + 1, A8, c8, A10, c10, hk1, hki, e8, e10, hT⟩, by simp [intOf]; omega⟩
        |
         (go_roundw
          case rel => (first | exact ⟨k + 1, A8, c8, A10, c10, hk1, hki, e8, e10, hT⟩ | ((repeat apply Exists.intro); exact ⟨⟨k + 1, A8, c8, A10, c10, hk1, hki, e8, e10, hT⟩, rfl⟩))
          case measure => simp [intOf]; omega)
    ·
     obtain rfl : k = n.trans.length := by omega
     have hsl8 := syncAt_len n l kp tl n.trans.length
     have hml10 := modelAt_len n tl n.trans.length
     generalize zc5 n l kp tl n.trans.length = sy at *
     generalize zcm n tl n.trans.length = mo at *
     have hT1 := T.out.s
     go_wp2_with (go_at_call 117; refine (concat3 T.out _ (by omega)).mono ?_; rintro e w9 ⟨A1, c1, rfl, hr9, hb9⟩; have HR9 := Lib.hid hr9; replace T := Lib.hid ((T.out.alloc _).below hb9); clear hb9 hr9)
     exact HR.out _ _ (RetM.mk (lo := wr.heap.size + 1) HME.out (by simp) (by have := HR9.out; simpa only [List.length_append] using this) (by omega) (Nat.le_refl _) T.out.r.2.1.1)
end Go.Proofs.YtjhdcgaiccnmeaaGreatDoor
end
section
namespace Go.Proofs.YtjhdcgaiccnmeaaGreatDoor
open Go.RowKit
def allA (n : Net) : Nat → List Stp
 | 0 => []
 | k + 1 => allA n k ++ [⟨1, k, (gti n.trans k).label⟩]
def allB (n : Net) : Nat → List Stp
 | 0 => []
 | k + 1 => allB n k ++ [⟨if (gti n.trans k).label.toList.isEmpty then 4 else 3, k, (gti n.trans k).label⟩]
def filtAt (n : Net) (w : List ByteArray) (s : List Int) (al : List Stp) : Nat → List Stp
 | 0 => []
 | k + 1 => filtAt n w s al k ++ if (zb4 n w s (gti al k)).2 = 0 then [gti al k] else []
def rAll (n : Net) (w : List ByteArray) (p : Int) : List Stp := allA n n.trans.length ++ logOf w p ++ allB n n.trans.length
end Go.Proofs.YtjhdcgaiccnmeaaGreatDoor
end
section
namespace Go.Proofs.YtjhdcgaiccnmeaaGreatDoor
open Go.RowKit
def canB (n : Net) (w : List ByteArray) (s : List Int) (m : Stp) : Bool := decide ((zb4 n w s m).2 = 0)
theorem filtAt_eq (n : Net) (w : List ByteArray) (s : List Int) (al : List Stp) : ∀ k, k ≤ al.length → filtAt n w s al k = (al.take k).filter (canB n w s)
 | 0, _ => by simp [filtAt]
 | k + 1, h => by
  have : al.take (k + 1) = al.take k ++ [gti al k] := by
   rw [List.take_succ_eq_append_getElem (by omega)]
   unfold gti
   rw [List.getElem?_eq_getElem (by omega)]
   rfl
  rw [filtAt, filtAt_eq n w s al k (by omega), this, List.filter_append]
  congr 1
  unfold canB
  by_cases hc : (zb4 n w s (gti al k)).2 = 0 <;> simp [hc]
theorem empty_of {s : ByteArray} (h : s.toList.isEmpty = true) : s = ByteArray.empty := by
 by_cases he : s = ByteArray.empty
 ·
  exact he
 ·
  rw [isEmpty_ne he] at h; cases h
section
variable {n : Net} {w : List ByteArray} {s : List Int} (hz : zct n w s = true)
include hz
theorem can_eq {m : Stp} (hk : kindB m.kind = true) : canB n w s m = decide ((applyE n w s m).2 = 0) := by
 unfold canB zb4
 rw [hz, hk]
 rfl
theorem can_sync {k : Nat} (hk : k < n.trans.length) : canB n w s ⟨1, k, (gti n.trans k).label⟩ = (fires n (s.drop 1) k && (!(gti n.trans k).label.toList.isEmpty && atB w (gti s 0) (gti n.trans k).label)) := by
 rw [can_eq hz (by rfl)]
 unfold applyE fires
 simp only [Int.toNat_natCast]
 generalize List.drop 1 s = tl
 rw [if_neg (by decide), if_neg (by omega)]
 cases he : (gti n.trans k).label.toList.isEmpty <;> cases ha : atB w (gti s 0) (gti n.trans k).label <;> by_cases hf : (FireE n tl k).2 = 0 <;> simp [hf]
theorem can_model {k : Nat} (hk : k < n.trans.length) : canB n w s ⟨if (gti n.trans k).label.toList.isEmpty then 4 else 3, k, (gti n.trans k).label⟩ = fires n (s.drop 1) k := by
 rw [can_eq hz (by split <;> rfl)]
 unfold applyE fires
 simp only [Int.toNat_natCast]
 generalize List.drop 1 s = tl
 cases he : (gti n.trans k).label.toList.isEmpty
 ·
  simp only [Bool.false_eq_true, if_false]
  rw [if_neg (by decide), if_neg (by omega)]
  by_cases hf : (FireE n tl k).2 = 0 <;> simp [hf]
 ·
  simp only [if_true]
  rw [if_neg (by decide), if_neg (by omega)]
  by_cases hf : (FireE n tl k).2 = 0 <;> simp [hf]
theorem can_log (hp : gti s 0 < w.length) : canB n w s ⟨2, -1, gti w (gti s 0).toNat⟩ = true := by
 obtain ⟨h1, h2, h3, h4, h5⟩ := zc6.1 hz
 rw [can_eq hz (by rfl)]
 unfold applyE
 have hn : nameB (gti w (gti s 0).toNat) = true := by
  unfold zdh at h1
  simp only [Bool.and_eq_true, List.all_eq_true] at h1
  exact h1.2 _ (gti_mem (by omega))
 have ha : atB w (gti s 0) (gti w (gti s 0).toNat) = true := by unfold atB; simp [hp]
 simp [hn, ha]
theorem filt_sync : ∀ k, k ≤ n.trans.length → (allA n k).filter (canB n w s) = zc5 n w (gti s 0) (s.drop 1) k
 | 0, _ => rfl
 | k + 1, h => by
  rw [allA, zc5, List.filter_append, filt_sync k (by omega)]
  congr 1
  unfold syncOf
  rw [← can_sync hz (by omega)]
  cases hc : canB n w s ⟨1, k, (gti n.trans k).label⟩ <;> simp [hc]
theorem filt_model : ∀ k, k ≤ n.trans.length → (allB n k).filter (canB n w s) = zcm n (s.drop 1) k
 | 0, _ => rfl
 | k + 1, h => by
  rw [allB, zcm, List.filter_append, filt_model k (by omega)]
  congr 1
  unfold modelOf
  have hm := can_model hz (k := k) (by omega)
  rw [← hm]
  cases he : (gti n.trans k).label.toList.isEmpty
  ·
   rw [he] at hm
   simp only [Bool.false_eq_true, if_false] at hm ⊢
   cases hc : canB n w s ⟨3, k, (gti n.trans k).label⟩ <;> simp [hc]
  ·
   rw [he] at hm
   simp only [if_true] at hm ⊢
   rw [empty_of he]
   cases hc : canB n w s ⟨4, k, ByteArray.empty⟩ <;> simp [hc]
theorem moves_same : filtAt n w s (rAll n w (gti s 0)) (rAll n w (gti s 0)).length = movesL n w s := by
 rw [filtAt_eq n w s _ _ (Nat.le_refl _), List.take_length]
 unfold rAll movesL
 rw [List.filter_append, List.filter_append, filt_sync hz _ (Nat.le_refl _), filt_model hz _ (Nat.le_refl _), List.append_assoc]
 congr 2
 unfold logOf
 split
 ·
  rename_i hp
  simp [can_log hz hp]
 ·
  rfl
end
end Go.Proofs.YtjhdcgaiccnmeaaGreatDoor
end
section
namespace Go.Proofs.YtjhdcgaiccnmeaaGreatDoor.Dl
open Go.RowKit
structure Prf where
 st : List (List Int)
 pots : List Int
 duals : List Fr
def zPf : Prf := ⟨[], [], []⟩
def nxD (n : Net) (w : List ByteArray) (c : Cst) (s : List Int) : List (List Int × Int) := (movesL n w s).map fun m => ((zb4 n w s m).1, zbm c m.kind)
def farD (g : Gr) (last : Nat) : List Int := relW g.ed ((List.replicate g.st.length 1073741824).set last 0)
def capD (far : List Int) : List Int := far.map fun x => if gti far 0 < x then gti far 0 else x
def finD (n : Net) (w : List ByteArray) (g : Gr) : Int × Prf × Int :=
 if zc2 g.st (endE n w).1 < 0 then (0, zPf, 10)
 else (gti (farD g (idx g.st (endE n w).1)) 0, ⟨g.st, capD (farD g (idx g.st (endE n w).1)), List.replicate (n.places.toNat + w.length) (Fr.of 0)⟩, 0)
def proveE (n : Net) (w : List ByteArray) (c : Cst) (most : Int) : Int × Prf × Int :=
 if (zb7 n w).2 ≠ 0 ∨ vcB c = false then (0, zPf, 1)
 else if most < 1 ∨ 2000 < most then (0, zPf, 2)
 else match bfsD (nxD n w c) most (most.toNat + 1) 0 ⟨[(zb7 n w).1], []⟩ with
  | none => (0, zPf, 13)
  | some g => finD n w g
def okS (n : Net) (w : List ByteArray) (s : List Int) : Prop := zct n w s = true
theorem okS.valid {n : Net} {w : List ByteArray} {s : List Int} (h : okS n w s) : zbc n = true ∧ zdh w = true := by
 obtain ⟨h1, _, _, _, h5⟩ := zc6.1 h
 unfold zcu at h5
 simp only [Bool.and_eq_true] at h5
 exact ⟨h5.1, h1⟩
theorem okS.len {n : Net} {w : List ByteArray} {s : List Int} (h : okS n w s) : 1 ≤ s.length ∧ s.length ≤ 41 ∧ (s.length : Int) = n.places + 1 := by
 obtain ⟨_, h2, _, _, h5⟩ := zc6.1 h
 have := markB_len h5
 rw [List.length_drop] at this
 omega
theorem okS.small {n : Net} {w : List ByteArray} {s : List Int} (h : okS n w s) : ∀ x ∈ s, 0 ≤ x ∧ x ≤ 255 := by
 obtain ⟨h1, h2, h3, h4, h5⟩ := zc6.1 h
 have h6 := (zdp h).2.2.2.2
 intro x hx
 match s, h2, hx, h3, h4, h5 with
 | a :: t, _, hx, h3, h4, h5 =>
  have e0 : gti (a :: t) 0 = a := rfl
  rw [e0] at h3 h4
  rcases List.mem_cons.1 hx with rfl | hx
  ·
   omega
  ·
   exact markB_small h5 x hx
theorem okS.ne {n : Net} {w : List ByteArray} {s : List Int} (h : okS n w s) : s ≠ [] := fun e => by have := h.len; rw [e] at this; simp at this
theorem moves_mem {n : Net} {w : List ByteArray} {s : List Int} {m : Stp} (h : okS n w s) (hm : m ∈ movesL n w s) : (zb4 n w s m).2 = 0 ∧ kindB m.kind = true ∧ okS n w (zb4 n w s m).1 := by
 rw [← moves_same h, filtAt_eq n w s _ _ (Nat.le_refl _), List.take_length] at hm
 have h1 := (List.mem_filter.1 hm).2
 have h2 : (zb4 n w s m).2 = 0 := by unfold canB at h1; exact of_decide_eq_true h1
 have h3 : kindB m.kind = true := by
  cases hk : kindB m.kind with
  | true => rfl
  | false => unfold zb4 at h2; rw [hk] at h2; simp at h2
 refine ⟨h2, h3, ?_⟩
 rw [ApplyE_of h h3] at h2 ⊢
 exact apply_state h h2
theorem moves_len {n : Net} {w : List ByteArray} {s : List Int} (h : okS n w s) : (movesL n w s).length ≤ 200 := by
 have h1 := za8 h.valid.1
 have h2 := syncAt_len n w (gti s 0) (s.drop 1) n.trans.length
 have h3 := modelAt_len n (s.drop 1) n.trans.length
 have h4 := logOf_len w (gti s 0)
 unfold movesL
 simp only [List.length_append]
 omega
theorem nxD_ok {n : Net} {w : List ByteArray} {c : Cst} (hc : vcB c = true) : NxOk (nxD n w c) (okS n w) := by
 refine ⟨fun x hx r hr => ?_, fun x hx => ?_⟩
 ·
  obtain ⟨m, hm, rfl⟩ := List.mem_map.1 hr
  exact ⟨(moves_mem hx hm).2.2, price_bd hc m.kind⟩
 ·
  unfold nxD; rw [List.length_map]; have := moves_len hx; omega
theorem one_ok {n : Net} {w : List ByteArray} (h1 : zbc n = true) (h2 : zdh w = true) (p : Int) (q : Int) (hq : 0 ≤ q ∧ q ≤ w.length) : okS n w (q :: oneL n.places.toNat p) := by
 refine zc6.2 ⟨h2, by simp, hq.1, hq.2, ?_⟩
 show zcu n (oneL n.places.toNat p) = true
 unfold zcu
 rw [h1, oneL_mark p (za8 h1).1]; rfl
theorem start_ok {n : Net} {w : List ByteArray} (h : (zb7 n w).2 = 0) : zbc n = true ∧ zdh w = true ∧ zb7 n w = ((0 : Int) :: oneL n.places.toNat n.source, 0) ∧ endE n w = ((w.length : Int) :: oneL n.places.toNat n.sink, 0) ∧ okS n w (zb7 n w).1 ∧ okS n w (endE n w).1 := by
 unfold zb7 at h ⊢
 unfold endE
 cases h1 : zbc n with
 | false => rw [h1] at h; simp at h
 | true =>
  cases h2 : zdh w with
  | false => rw [h1, h2] at h; simp at h
  | true =>
   have e : (true && true) = true := rfl
   rw [if_pos e, if_pos e]
   exact ⟨rfl, rfl, rfl, rfl, one_ok h1 h2 _ _ ⟨by omega, by omega⟩, one_ok h1 h2 _ _ ⟨by omega, by omega⟩⟩
theorem start_not {n : Net} {w : List ByteArray} (h : (zb7 n w).2 ≠ 0) : ¬ (zbc n = true ∧ zdh w = true) := fun ⟨h1, h2⟩ => by
 unfold zb7 at h; rw [h1, h2] at h; exact h rfl
theorem cost_one {c : Cst} {m : Stp} (hc : vcB c = true) (hk : kindB m.kind = true) : costE c [m] = (zbm c m.kind, 0) := by
 have hf : fineB [m] = true := by simp [fineB, hk]
 have hg : gti [m] 0 = m := rfl
 unfold costE
 rw [hc, hf]
 show (costAt c [m] 1, (0 : Int)) = _
 unfold costAt costAt
 rw [hg, Int.zero_add]
theorem farD_len {g : Gr} {last : Nat} {n : Nat} (hE : EOk g.st.length g.ed) (ht : last < g.st.length) : FOk g.st.length g.ed 1073741824 last (Way g.ed last) (farD g last) :=
 (relW_ok hE way_W _ _ (Nat.le_refl _) (far0_ok (M := g.ed) (by omega) ht)).1
end Go.Proofs.YtjhdcgaiccnmeaaGreatDoor.Dl
end
section
namespace Go.Proofs.YtjhdcgaiccnmeaaGreatDoor
open Go.RowKit
def eqM (a b : Stp) : Bool := decide (a.kind = b.kind) && (decide (a.trans = b.trans) && decide (a.act = b.act))
theorem eqM_iff {a b : Stp} : eqM a b = true ↔ a = b := by
 obtain ⟨a1, a2, a3⟩ := a
 obtain ⟨b1, b2, b3⟩ := b
 simp [eqM]
def hasM (x : Stp) (l : List Stp) : Bool := l.any (eqM x)
end Go.Proofs.YtjhdcgaiccnmeaaGreatDoor
end
section
namespace Go.Proofs.YtjhdcgaiccnmeaaGreatDoor
open Go.RowKit
theorem hasM_iff {x : Stp} {l : List Stp} : hasM x l = true ↔ x ∈ l := by
 unfold hasM
 rw [List.any_eq_true]
 constructor
 ·
  rintro ⟨a, ha, h⟩; rw [eqM_iff] at h; rw [h]; exact ha
 ·
  intro h; exact ⟨x, h, eqM_iff.2 rfl⟩
theorem mem_allA {n : Net} : ∀ {k i : Nat}, i < k → (⟨1, i, (gti n.trans i).label⟩ : Stp) ∈ allA n k
 | k + 1, i, h => by
  rw [allA, List.mem_append]
  by_cases hi : i = k
  ·
   right; subst hi; simp
  ·
   left; exact mem_allA (by omega)
theorem mem_allB {n : Net} : ∀ {k i : Nat}, i < k → (⟨if (gti n.trans i).label.toList.isEmpty then 4 else 3, i, (gti n.trans i).label⟩ : Stp) ∈ allB n k
 | k + 1, i, h => by
  rw [allB, List.mem_append]
  by_cases hi : i = k
  ·
   right; subst hi; simp
  ·
   left; exact mem_allB (by omega)
section
variable {n : Net} {w : List ByteArray} {s : List Int} (hz : zct n w s = true)
include hz
theorem can_pos {kd t : Int} {a : ByteArray} (hk : kindB kd = true) (h2 : kd ≠ 2) : canB n w s ⟨kd, t, a⟩ = (decide (0 ≤ t) && (decide (t < n.trans.length) && (decide (a = (gti n.trans t.toNat).label) && (decide ((gti n.trans t.toNat).label.toList.isEmpty = decide (kd = 4)) && (!(decide (kd = 1) && !atB w (gti s 0) a) && fires n (s.drop 1) t.toNat))))) := by
 rw [can_eq hz hk]
 unfold applyE fires
 simp only
 rw [if_neg h2]
 by_cases h0 : 0 ≤ t
 ·
  obtain ⟨j, rfl⟩ : ∃ j : Nat, t = j := ⟨t.toNat, by omega⟩
  simp only [Int.toNat_natCast]
  by_cases h1 : (j : Int) < n.trans.length
  ·
   rw [if_neg (by omega)]
   generalize List.drop 1 s = tl
   by_cases ha : a = (gti n.trans j).label
   ·
    by_cases he : (gti n.trans j).label.toList.isEmpty = decide (kd = 4)
    ·
     by_cases hk1 : kd = 1
     ·
      cases hat : atB w (gti s 0) a
      ·
       simp [ha, he, hk1, h1, hat, ha ▸ hat]
      ·
       by_cases hf : (FireE n tl j).2 = 0 <;> simp [ha, he, hk1, h1, ha ▸ hat, hf]
     ·
      by_cases hf : (FireE n tl j).2 = 0 <;> simp [ha, he, hk1, h1, hf]
    ·
     simp [ha, he]
   ·
    simp [ha]
  ·
   rw [if_pos (by omega)]
   simp [h1]
 ·
  rw [if_pos (by omega)]
  simp [h0]
theorem can_two {t : Int} {a : ByteArray} : canB n w s ⟨2, t, a⟩ = (decide (t = -1) && (decide (gti s 0 < w.length) && decide (a = gti w (gti s 0).toNat))) := by
 obtain ⟨h1, h2, h3, h4, h5⟩ := zc6.1 hz
 rw [can_eq hz (by rfl)]
 unfold applyE
 simp only [if_true]
 by_cases ht : t = -1
 ·
  by_cases hp : gti s 0 < w.length
  ·
   have hn : nameB (gti w (gti s 0).toNat) = true := by
    unfold zdh at h1
    simp only [Bool.and_eq_true, List.all_eq_true] at h1
    exact h1.2 _ (gti_mem (by omega))
   by_cases ha : a = gti w (gti s 0).toNat
   ·
    subst ha
    have hat : atB w (gti s 0) (gti w (gti s 0).toNat) = true := by unfold atB; simp [hp]
    simp [ht, hn, hat, hp]
   ·
    have hat : atB w (gti s 0) a = false := by unfold atB; simp [hp]; exact fun h => ha h.symm
    cases hna : nameB a <;> simp [ht, hna, hat, hp, ha]
  ·
   have hat : atB w (gti s 0) a = false := by unfold atB; simp [hp]
   cases hna : nameB a <;> simp [ht, hna, hat, hp]
 ·
  simp [ht]
theorem mem_moves {x : Stp} : x ∈ movesL n w s ↔ x ∈ rAll n w (gti s 0) ∧ canB n w s x = true := by
 rw [← moves_same hz, filtAt_eq n w s _ _ (Nat.le_refl _), List.take_length, List.mem_filter]
theorem can_mem {x : Stp} (hk : kindB x.kind = true) : hasM x (movesL n w s) = canB n w s x := by
 rw [Bool.eq_iff_iff, hasM_iff, mem_moves hz]
 refine ⟨fun h => h.2, fun h => ⟨?_, h⟩⟩
 obtain ⟨kd, t, a⟩ := x
 simp only at hk
 unfold rAll
 rw [List.mem_append, List.mem_append]
 have hkb : 1 ≤ kd ∧ kd ≤ 4 := by unfold kindB at hk; simp at hk; exact hk
 by_cases h2 : kd = 2
 ·
  subst h2
  rw [can_two hz] at h
  simp only [Bool.and_eq_true, decide_eq_true_eq] at h
  left; right
  unfold logOf
  rw [if_pos h.2.1, h.1, h.2.2]
  simp
 ·
  rw [can_pos hz hk h2] at h
  simp only [Bool.and_eq_true, decide_eq_true_eq] at h
  obtain ⟨h0, h1, ha, he, _⟩ := h
  obtain ⟨j, rfl⟩ : ∃ j : Nat, t = j := ⟨t.toNat, by omega⟩
  rw [Int.toNat_natCast] at ha he
  subst ha
  by_cases hk1 : kd = 1
  ·
   subst hk1
   left; left
   exact mem_allA (by omega)
  ·
   right
   have := mem_allB (n := n) (k := n.trans.length) (i := j) (by omega)
   by_cases hk4 : kd = 4
   ·
    subst hk4
    rw [he] at this
    simpa using this
   ·
    obtain rfl : kd = 3 := by omega
    rw [he] at this
    simpa using this
end
end Go.Proofs.YtjhdcgaiccnmeaaGreatDoor
end
