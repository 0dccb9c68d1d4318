import Derived.Test.YtjhdcgaiccnmeaaGreatDoorJB8
import Derived.Test.YtjhdcgaiccnmeaaGreatDoorJB10
import Derived.Test.YtjhdcgaiccnmeaaGreatDoorJB11
import Derived.Test.YtjhdcgaiccnmeaaGreatDoorJB6
import Derived.Test.YtjhdcgaiccnmeaaGreatDoorJB1
set_option linter.unusedSimpArgs false
set_option linter.unusedVariables false
set_option linter.unusedSectionVars false
namespace Go.Proofs.YtjhdcgaiccnmeaaGreatDoor
section
open Go.RowKit
def RetM (w : World) (r : List Stp × Int) (e : Ending) (w' : World) : Prop :=
 ∃ A c, e = .returned (.tuple #[.slice A r.1.length c, .int .i64 r.2]) ∧ RdM w' w.heap.size w'.heap.size (.slice A r.1.length c) r.1 ∧ Below w.heap.size w w'
theorem RetM.nil {w w' : World} {r : List Stp × Int} {c : Int} (h : r = ([], c)) (hb : Below w.heap.size w w') : RetM w r (.returned (.tuple #[.slice none 0 0, .int .i64 c])) w' := by
 subst h
 exact ⟨none, 0, rfl, Rd.nil _ _ _, hb⟩
theorem RetM.mk {w w' : World} {r : List Stp × Int} {l : List Stp} {n k : Nat} {A : Option Addr} {c : Int} (h : r = (l, c)) (hn : n = l.length) {lo hi : Nat} (hr : RdM w' lo hi (.slice A n k) l) (hlo : w.heap.size ≤ lo) (hhi : hi ≤ w'.heap.size) (hb : Below w.heap.size w w') : RetM w r (.returned (.tuple #[.slice A n k, .int .i64 c])) w' := by
 subst h hn
 exact ⟨A, k, rfl, hr.mono hlo hhi, hb⟩
def znx (n : Net) (m : List Int) (k : Nat) : Bool := decide ((zdi n m k).2 = 0)
def zr0 (n : Net) (w : List ByteArray) (p : Int) (m : List Int) (k : Nat) : List Stp := if znx n m k && (!(gti n.trans k).label.toList.isEmpty && atB w p (gti n.trans k).label) then [⟨1, k, (gti n.trans k).label⟩] else []
def znp (n : Net) (m : List Int) (k : Nat) : List Stp := if znx n m k then (if (gti n.trans k).label.toList.isEmpty then [⟨4, k, ByteArray.empty⟩] else [⟨3, k, (gti n.trans k).label⟩]) else []
def zeu (n : Net) (w : List ByteArray) (p : Int) (m : List Int) : Nat → List Stp
 | 0 => []
 | k + 1 => zeu n w p m k ++ zr0 n w p m k
def zeb (n : Net) (m : List Int) : Nat → List Stp
 | 0 => []
 | k + 1 => zeb n m k ++ znp n m k
def zfy (w : List ByteArray) (p : Int) : List Stp := if p < w.length then [⟨2, -1, gti w p.toNat⟩] else []
theorem zhw (n : Net) (w : List ByteArray) (p : Int) (m : List Int) : ∀ k, (zeu n w p m k).length ≤ k
 | 0 => by simp [zeu]
 | k + 1 => by
  have := zhw n w p m k
  have : (zr0 n w p m k).length ≤ 1 := by unfold zr0; split <;> simp
  simp only [zeu, List.length_append]
  omega
theorem zg4 (n : Net) (m : List Int) : ∀ k, (zeb n m k).length ≤ k
 | 0 => by simp [zeb]
 | k + 1 => by
  have := zg4 n m k
  have : (znp n m k).length ≤ 1 := by unfold znp; split; (split <;> simp); simp
  simp only [zeb, List.length_append]
  omega
theorem zlj (w : List ByteArray) (p : Int) : (zfy w p).length ≤ 1 := by unfold zfy; split <;> simp
def zds (n : Net) (w : List ByteArray) (s : List Int) : List Stp := zeu n w (gti s 0) (s.drop 1) n.trans.length ++ (zfy w (gti s 0) ++ zeb n (s.drop 1) n.trans.length)
def zgs (n : Net) (w : List ByteArray) (s : List Int) : List Stp × Int := if zd3 n w s then (zds n w s, 0) else ([], 1)
theorem at_is {l : List ByteArray} {k : Int} {a : ByteArray} {z : Bool} (hz : atB l k a = z) (lo hi : Nat) (v : Value) (w : World) (hv : RdS w lo hi v l) (hk : 0 ≤ k) :
  Calls Tryz.prog 116 #[v, .int .i64 k, .string a] w fun e w' => e = .returned (.bool z) ∧ Below w.heap.size w w' := hz ▸ zxk l k a lo hi v w hv hk
theorem zqv (w : World) (lo : Nat) : OwnB w lo (.slice none 0 0) [] := ⟨by simp, .inl ⟨rfl, rfl⟩⟩
structure T3C (lo : Nat) (v1 : Value) (l1 : List Stp) (v2 : Value) (l2 : List Stp) (v3 : Value) (l3 : List Stp) (rest : List Loc) (g : Nat) (x y z : Value) (b off : Nat) (u : Value) (w : World) : Prop where
 t : T3 lo v1 l1 v2 l2 v3 l3 rest w
 k : K3 w g x y z
 c : C1 w b off u
theorem T3C.below {lo : Nat} {v1 v2 v3 : Value} {l1 l2 l3 : List Stp} {rest : List Loc} {g : Nat} {x y z : Value} {b off : Nat} {u : Value} {w W : World} (h : T3C lo v1 l1 v2 l2 v3 l3 rest g x y z b off u w) (hb : Below w.heap.size w W) : T3C lo v1 l1 v2 l2 v3 l3 rest g x y z b off u W :=
 ⟨h.t.below hb, K3.aft hb h.k, C1.aft hb h.c⟩
theorem z2a {W : World} {lo : Nat} {v1 v2 v3 : Value} {l1 l2 l3 : List Stp} {rest : List Loc} (h : T3 lo v1 l1 v2 l2 v3 l3 rest W) (t : TypeId) (hb : l1.length + (l2.length + l3.length) ≤ 10000) :
  Calls Tryz.prog 117 #[.slice (some ⟨W.heap.size, 0, none⟩) 3 3] (W.alloc (.cells #[v1, v2, v3] t)) fun e w' => ∃ A c, e = .returned (.slice A (l1 ++ (l2 ++ l3)).length c) ∧ RdM w' (W.heap.size + 1) w'.heap.size (.slice A (l1 ++ (l2 ++ l3)).length c) (l1 ++ (l2 ++ l3)) ∧ Below (W.alloc (.cells #[v1, v2, v3] t)).heap.size (W.alloc (.cells #[v1, v2, v3] t)) w' := by
 have hr : ∀ k, k < [l1, l2, l3].length → RdM (W.alloc (.cells #[v1, v2, v3] t)) lo W.heap.size (gti [v1, v2, v3] k) (gti [l1, l2, l3] k) := by
  intro k hk
  have hba : Below W.heap.size W (W.alloc (.cells #[v1, v2, v3] t)) := (Below.refl _ _).alloc (Nat.le_refl _) _
  match k, hk with
  | 0, _ => exact h.o1.rd.after hba
  | 1, _ => exact h.o2.rd.after hba
  | 2, _ => exact h.o3.rd.after hba
  | k + 3, hk => exact absurd hk (by simp)
 have h1 := zuc [v1, v2, v3] [l1, l2, l3] _ 0 _ lo W.heap.size _ (Rd.lit (enc := encQ) W t [v1, v2, v3] _ 3 rfl rfl (by simp [maxLen]) (fun _ => rfl)) rfl hr (by simp; omega)
 have e : [l1, l2, l3].flatten = l1 ++ (l2 ++ l3) := by simp
 rw [e] at h1
 refine h1.mono ?_
 rintro e w' ⟨A, c, rfl, h2, h3⟩
 exact ⟨A, c, rfl, h2.mono (by simp) (Nat.le_refl _), h3⟩
set_option maxRecDepth 100000 in
set_option maxHeartbeats 4000000 in
theorem zxv (n : Net) (l : List ByteArray) (s : List Int) (vt v vs : Value) (lo hi lo' hi' lo2 hi2 : Nat) (w : World) (hv : RdT w lo hi vt n.trans) (hw : RdS w lo' hi' v l) (hs : RdI w lo2 hi2 vs s) :
  Calls Tryz.prog 69 #[netV n vt, v, vs] w (RetM w (zgs n l s)) := by
 obtain ⟨A, c, rfl, hc, hmm⟩ := hv.form
 obtain ⟨A2, c2, rfl, hc2, hmm2⟩ := hw.form
 obtain ⟨A3, c3, rfl, hc3, hmm3⟩ := hs.form
 have HV := Lib.hid hv
 have HW := Lib.hid hw
 have HS := Lib.hid hs
 clear hv hw
 cases hz : zd3 n l s with
 | false =>
  have HZ := Lib.hid hz
  clear hz hs
  refine zc3 fun R hR => ?_
  have HR := Lib.hid hR
  clear hR
  go_enter Tryz.func69, Tryz.ntmps69
  have M : Hid (Mem [Loc.k4 w.heap.size (.int .i64 n.places) (.slice A n.trans.length c) (.int .i64 n.source) (.int .i64 n.sink), Loc.bl w.heap.size w] (w.alloc (.cells #[.int .i64 n.places, .slice A n.trans.length c, .int .i64 n.source, .int .i64 n.sink] 24))) := Lib.hid ⟨K4.new w _ _ _ _ _, ⟨(Below.refl _ _).alloc (Nat.le_refl _) _, by simp⟩, True.intro⟩
  have hk4 := M.out.1
  go_wp2_with (go_at_call 114; refine (zjo HZ.out _ _ _ lo hi lo' hi' lo2 hi2 _ (HV.out.after M.out.2.1.1) (HW.out.after M.out.2.1.1) (HS.out.after M.out.2.1.1)).mono ?_; rintro e w1 ⟨rfl, hb1⟩; replace M := Lib.hid (M.out.below hb1); clear hb1; replace hk4 := M.out.1)
  exact HR.out _ _ (RetM.nil (by rw [zgs, HZ.out]; rfl) M.out.2.1.1)
 | true =>
  have HZ := Lib.hid hz
  obtain ⟨h1, h2, h3, h4, h5⟩ := zen hz
  have hval : n.trans.length ≤ 60 := by
   have := (zce.1 hz).2.2.2.2
   unfold zep at this
   simp only [Bool.and_eq_true] at this
   exact (zdy this.1).2.2
  have HME : Hid (zgs n l s = (zeu n l (gti s 0) (s.drop 1) n.trans.length ++ (zfy l (gti s 0) ++ zeb n (s.drop 1) n.trans.length), 0)) := Lib.hid (by rw [zgs, hz]; rfl)
  clear hz
  obtain ⟨b, off, rfl, _, _, hcell⟩ := RdI.at1 hs (k := 0) (by omega)
  obtain ⟨At, ct, hsl, ht⟩ := RdI.tail1 hs h1 hc3
  obtain ⟨tl, htl⟩ : ∃ tl, s.drop 1 = tl := ⟨_, rfl⟩
  rw [htl] at hsl ht HME
  have HT := Lib.hid ht
  have hs0 : (0 : Int) < (s.length : Int) := by omega
  have hs2 : ¬ s = [] := by intro e; rw [e] at h1; simp at h1
  have hs3 : 0 < s.length := h1
  clear hs ht htl
  simp only [Nat.add_zero] at hcell
  have HC := Lib.hid hcell
  clear hcell
  generalize gti s 0 = p at *
  obtain ⟨kp, rfl⟩ : ∃ k : Nat, p = k := ⟨p.toNat, by omega⟩
  refine zc3 fun R hR => ?_
  have HR := Lib.hid hR
  clear hR
  go_enter Tryz.func69, Tryz.ntmps69
  have M : Hid (Mem [Loc.k4 w.heap.size (.int .i64 n.places) (.slice A n.trans.length c) (.int .i64 n.source) (.int .i64 n.sink), Loc.bl w.heap.size w] (w.alloc (.cells #[.int .i64 n.places, .slice A n.trans.length c, .int .i64 n.source, .int .i64 n.sink] 24))) := Lib.hid ⟨K4.new w _ _ _ _ _, ⟨(Below.refl _ _).alloc (Nat.le_refl _) _, by simp⟩, True.intro⟩
  have hk4 := M.out.1
  have hcell := C1.aft M.out.2.1.1 HC.out
  have hT0 : ∀ W, Mem [Loc.k4 w.heap.size (.int .i64 n.places) (.slice A n.trans.length c) (.int .i64 n.source) (.int .i64 n.sink), Loc.bl w.heap.size w] W → T3 (w.heap.size + 1) (.slice none 0 0) [] (.slice none 0 0) [] (.slice none 0 0) [] [Loc.k4 w.heap.size (.int .i64 n.places) (.slice A n.trans.length c) (.int .i64 n.source) (.int .i64 n.sink), Loc.bl w.heap.size w] W := fun W h =>
   ⟨zqv _ _, zqv _ _, zqv _ _, Dis.nil _, Dis.nil _, Dis.nil _, ⟨fun k hk => by dsimp only at hk; omega, fun k hk => by dsimp only at hk; omega, True.intro⟩, by have := h.1.2.2.2.2; omega, h⟩
  have HT0 := Lib.hid hT0
  clear hT0
  go_upto_if 25 with (go_at_call 114; refine (zjo HZ.out _ _ _ lo hi lo' hi' lo2 hi2 _ (HV.out.after M.out.2.1.1) (HW.out.after M.out.2.1.1) (HS.out.after M.out.2.1.1)).mono ?_; rintro e w1 ⟨rfl, hb1⟩; replace M := Lib.hid (M.out.below hb1); clear hb1; replace hk4 := M.out.1; replace hcell := C1.aft M.out.2.1.1 HC.out)
  go_cut [9] (fun v9 wx => ∃ A9 c9, v9 = .slice A9 (zfy l kp).length c9 ∧ Hid (T3 (w.heap.size + 1) (.slice none 0 0) [] (.slice A9 (zfy l kp).length c9) (zfy l kp) (.slice none 0 0) [] [Loc.k4 w.heap.size (.int .i64 n.places) (.slice A n.trans.length c) (.int .i64 n.source) (.int .i64 n.sink), Loc.bl w.heap.size w] wx))
  case first =>
   have T := Lib.hid (HT0.out _ M.out)
   by_cases hp : kp < l.length
   ·
    have hpi : (kp : Int) < l.length := by omega
    obtain ⟨b5, off5, rfl, _, _, hce5⟩ := RdS.at1 (HW.out.after M.out.2.1.1) hp
    have HLG : Hid (zfy l kp = [] ++ [⟨2, -1, gti l kp⟩]) := Lib.hid (by unfold zfy; rw [if_pos hpi]; simp)
    generalize gti l kp = x5 at *
    go_wp2_with (at_builtin; obtain ⟨A9, c9, w9, hrun, hT, hs9⟩ := ziz T.out.rot 2 (-1) x5 68 _ rfl (by simp); refine Lib.wpList_append_run _ rfl _ _ _ _ rfl _ _ rfl rfl _ _ hrun ?_; replace T := Lib.hid hT; clear hrun hT)
    go_meet
    rw [HLG.out]
    exact ⟨A9, c9, rfl, Lib.hid T.out.rot.rot⟩
   ·
    have hpi : ¬ (kp : Int) < l.length := by omega
    have HLG : Hid (zfy l kp = []) := Lib.hid (by unfold zfy; rw [if_neg hpi])
    go_wp2_with fail
    go_meet
    rw [HLG.out]
    exact ⟨none, 0, rfl, T⟩
  case rest =>
   clear M hk4 hcell
   obtain ⟨A9, c9, rfl, T⟩ := hcut
   have hk4 := T.out.r.1
   have hll := zlj l kp
   have HME2 := HME
   generalize zfy l kp = lg at *
   go_wp2_with fail
   go_loopw [39, 8, 10, 11, 12, 13, 14] (fun v39 v8 v10 _ _ _ _ wr => ∃ (k : Nat) (A8 : Option Addr) (c8 : Nat) (A10 : Option Addr) (c10 : Nat), k ≤ n.trans.length ∧ v39 = .int .i64 k ∧ v8 = .slice A8 (zeu n l kp tl k).length c8 ∧ v10 = .slice A10 (zeb n tl k).length c10 ∧ Hid (T3 (w.heap.size + 1) (.slice A8 (zeu n l kp tl k).length c8) (zeu n l kp tl k) (.slice A9 lg.length c9) lg (.slice A10 (zeb n tl k).length c10) (zeb n tl k) [Loc.k4 w.heap.size (.int .i64 n.places) (.slice A n.trans.length c) (.int .i64 n.source) (.int .i64 n.sink), Loc.bl w.heap.size w] wr)) (fun v39 _ _ _ _ _ _ _ => n.trans.length - (intOf v39).toNat)
   case atStart => exact ⟨0, none, 0, none, 0, by omega, rfl, rfl, rfl, T⟩
   case round =>
    clear T hk4
    obtain ⟨k, A8, c8, A10, c10, hk, rfl, rfl, rfl, T⟩ := hrel
    have hk4 := T.out.r.1
    by_cases hlt : k < n.trans.length
    ·
     obtain ⟨b4, off4, vi, vo, rfl, _, _, hct, hri, hro⟩ := RdT.at3 (HV.out.after T.out.r.2.1.1) hlt
     have HSY : Hid (zeu n l kp tl (k + 1) = zeu n l kp tl k ++ if znx n tl k && (!(gti n.trans k).label.toList.isEmpty && atB l kp (gti n.trans k).label) then [⟨1, k, (gti n.trans k).label⟩] else []) := Lib.hid rfl
     have HMO : Hid (zeb n tl (k + 1) = zeb n tl k ++ if znx n tl k then (if (gti n.trans k).label.toList.isEmpty then [⟨4, k, ByteArray.empty⟩] else [⟨3, k, (gti n.trans k).label⟩]) else []) := Lib.hid rfl
     have hsl8 := zhw n l kp tl k
     have hml10 := zg4 n tl k
     generalize zeu n l kp tl k = sy at *
     generalize zeb n tl k = mo at *
     have HFE := Lib.hid (fun (W : World) (h : Below w.heap.size w W) => zte n tl k _ _ lo hi lo2 hi2 W (HV.out.after h) (HT.out.after h))
     have HFI : Hid (znx n tl k = decide ((zdi n tl k).2 = 0)) := Lib.hid rfl
     obtain ⟨⟨fl, fe⟩, hfe⟩ : ∃ r, zdi n tl k = r := ⟨_, rfl⟩
     rw [hfe] at HFE HFI
     dsimp only at HFI
     clear hfe
     generalize gti n.trans k = x at *
     obtain ⟨Ai, ci, rfl, hci, hmi⟩ := hri.form
     obtain ⟨Ao, co, rfl, hco, hmo⟩ := hro.form
     clear hri hro
     have HB8 := Lib.hid (fun k (h : (Value.slice A8 sy.length c8).ownBlock = some k) => (T.out.o1.lt k h).2)
     replace T := Lib.hid (T.out.alloc (.cells #[.string x.label, .slice Ai x.inn.length ci, .slice Ao x.out.length co] 86))
     replace hk4 := T.out.r.1
     have hkt := K3.new wr (.string x.label) (.slice Ai x.inn.length ci) (.slice Ao x.out.length co) 86
     by_cases he0 : fe = 0
     ·
      subst he0
      rw [HFI.out] at HSY HMO
      simp only [decide_true, Bool.true_and, if_true] at HSY HMO
      obtain ⟨ze, hze⟩ : ∃ z, x.label.toList.isEmpty = z := ⟨_, rfl⟩
      rw [hze] at HSY HMO
      go_wp2_with fail
      go_region_held3 (fun W => K4 W w.heap.size (.int .i64 n.places) (.slice (some ⟨b4, off4, none⟩) n.trans.length c) (.int .i64 n.source) (.int .i64 n.sink)) (exact hk4) (first
       | (go_at_call 115; refine (HFE.out _ (by first | exact T.out.r.2.1.1 | exact T.out.drew.r.2.1.1)).mono ?_; rintro e w6 ⟨A6, c6, rfl, hr6, hb6⟩; replace hkt := K3.aft (by first | exact hb6 | exact (Below.refl _ _).drew.trans hb6) hkt; replace T := Lib.hid (T3.below (by first | exact T.out | exact T.out.drew) hb6); dsimp only; replace hk4 := T.out.r.1; clear hb6 hr6))
      all_goals
       cases ze with
       | true =>
        simp only [Bool.not_true, Bool.false_and, Bool.false_eq_true, if_false, if_true, List.append_nil] at HSY HMO
        go_wp2_with (at_builtin; obtain ⟨A1, c1, w7, hrun, hT, hs9⟩ := ziz T.out.rot.rot 4 k ByteArray.empty 68 _ rfl (by omega); refine Lib.wpList_append_run _ rfl (.tmp 57) (.tmp 60) _ _ rfl _ _ rfl rfl _ _ hrun ?_; replace T := Lib.hid hT.rot; clear hrun hT)
        have hk1 : k + 1 ≤ n.trans.length := by omega
        have hT : Hid (T3 (w.heap.size + 1) (.slice A8 (zeu n l kp tl (k + 1)).length c8) (zeu n l kp tl (k + 1)) (.slice A9 lg.length c9) lg (.slice A1 (zeb n tl (k + 1)).length c1) (zeb n tl (k + 1)) [Loc.k4 w.heap.size (.int .i64 n.places) (.slice (some ⟨b4, off4, none⟩) n.trans.length c) (.int .i64 n.source) (.int .i64 n.sink), Loc.bl w.heap.size w] _) := Lib.hid (by rw [HSY.out, HMO.out]; exact T.out)
        have e8 : Value.slice A8 sy.length c8 = .slice A8 (zeu n l kp tl (k + 1)).length c8 := by rw [HSY.out]
        have e10 : Value.slice A1 (mo.length + 1) c1 = .slice A1 (zeb n tl (k + 1)).length c1 := by rw [HMO.out, List.length_append]; rfl
        have hki : Value.int .i64 ((k : Int) + 1) = .int .i64 ((k + 1 : Nat) : Int) := by go_num
        first
         | exact ⟨⟨k + 1, A8, c8, A1, c1, hk1, hki, e8, e10, hT⟩, by simp [intOf]; omega⟩
         |
          (go_roundw
           case rel => (first | exact ⟨k + 1, A8, c8, A1, c1, hk1, hki, e8, e10, hT⟩ | ((repeat apply Exists.intro); exact ⟨⟨k + 1, A8, c8, A1, c1, hk1, hki, e8, e10, hT⟩, rfl⟩))
           case measure => simp [intOf]; omega)
       | false =>
        obtain ⟨za, hza⟩ : ∃ z, atB l kp x.label = z := ⟨_, rfl⟩
        have HZA := Lib.hid hza
        rw [hza] at HSY
        clear hza
        have hcell := C1.aft T.out.r.2.1.1 HC.out
        simp only [Bool.not_false, Bool.true_and, Bool.false_eq_true, if_false] at HSY HMO
        go_wp2_with fail
        refine zez (C := (T3C (w.heap.size + 1) (.slice A8 sy.length c8) sy (.slice A9 lg.length c9) lg (.slice A10 mo.length c10) mo [Loc.k4 w.heap.size (.int .i64 n.places) (.slice (some ⟨b4, off4, none⟩) n.trans.length c) (.int .i64 n.source) (.int .i64 n.sink), Loc.bl w.heap.size w] wr.heap.size (.string x.label) (.slice Ai x.inn.length ci) (.slice Ao x.out.length co) b off (.int .i64 kp))) (by kernel_rfl) (by kernel_rfl) (by exact ⟨T.out.drew, hkt, hcell⟩) ?_
        repeat (first
         | (refine BigFrame.wpQuiet_skip (by rfl) ?_; simp only [Act.put, List.setIfInBounds_toArray, List.set_cons_zero, List.set_cons_succ])
         | (refine BigFrame.wpQuiet_want (by rfl) (fun K hK => ?_); refine BigFrame.quiet_move _ rfl (hK _ ?_); clear hK K; simp only [Act.put, Act.eval, List.setIfInBounds_toArray, List.set_cons_zero, List.set_cons_succ, List.getD_toArray, List.getD_cons_zero, List.getD_cons_succ])
         | (refine BigFrame.wpQuiet_want (by rfl) (fun K hK => ?_); refine BigFrame.quiet_assign _ rfl (hK _ ?_); clear hK K; simp only [Act.put, Act.eval, List.setIfInBounds_toArray, List.set_cons_zero, List.set_cons_succ, List.getD_toArray, List.getD_cons_zero, List.getD_cons_succ])
         | (refine BigFrame.wpQuiet_want (by rfl) (fun K hK => ?_); refine zgy (v := ?_) (fun W hW => ?_) (hK _ ?_); rotate_left; ((have hq1 := hW.k; have hq2 := hW.c); go_simp; try (with_reducible rfl)); clear hK K; simp only [Act.put, List.setIfInBounds_toArray, List.set_cons_zero, List.set_cons_succ])
         | (refine BigFrame.wpQuiet_want (by rfl) (fun K hK => ?_); go_simp; apply Exists.intro; refine ⟨fun W hW => ?_, hK _ ?_⟩; (exact (at_is HZA.out lo' hi' _ _ (HW.out.after hW.t.r.2.1.1) (by omega)).mono (fun e w' h => ⟨h.1, hW.below h.2⟩)); clear hK K; try simp only [Act.put, List.setIfInBounds_toArray, List.set_cons_zero, List.set_cons_succ])
         | fail)
        refine wpQuiet_nil ?_
        intro W hW
        clear hkt hcell
        replace T := Lib.hid hW.t
        have hkt := hW.k
        cases za with
        | true =>
         simp only [if_true] at HSY
         have tok1 : True := trivial
         go_wp2_with (first | (at_builtin; have _t := tok1; obtain ⟨A0, c0, w8, hrun, hT, hs8, hbk⟩ := ziz T.out 1 k x.label 68 _ rfl (by omega); refine Lib.wpList_append_run _ rfl (.tmp 69) (.tmp 74) _ _ rfl _ _ rfl rfl _ _ hrun ?_; replace hkt := K3.of_block hkt (hbk _ hkt.2.2.2 (fun he => by have := HB8.out _ he; omega)) hs8; replace T := Lib.hid hT; clear hrun hT hbk hs8 tok1) | (at_builtin; obtain ⟨A1, c1, w7, hrun, hT, hs9⟩ := ziz T.out.rot.rot 3 k x.label 68 _ rfl (by omega); refine Lib.wpList_append_run _ rfl (.tmp 76) (.tmp 81) _ _ rfl _ _ rfl rfl _ _ hrun ?_; replace T := Lib.hid hT.rot; clear hrun hT))
         have hk1 : k + 1 ≤ n.trans.length := by omega
         have hT : Hid (T3 (w.heap.size + 1) (.slice A0 (zeu n l kp tl (k + 1)).length c0) (zeu n l kp tl (k + 1)) (.slice A9 lg.length c9) lg (.slice A1 (zeb n tl (k + 1)).length c1) (zeb n tl (k + 1)) [Loc.k4 w.heap.size (.int .i64 n.places) (.slice (some ⟨b4, off4, none⟩) n.trans.length c) (.int .i64 n.source) (.int .i64 n.sink), Loc.bl w.heap.size w] _) := Lib.hid (by rw [HSY.out, HMO.out]; exact T.out)
         have e8 : Value.slice A0 (sy.length + 1) c0 = .slice A0 (zeu n l kp tl (k + 1)).length c0 := by rw [HSY.out, List.length_append]; rfl
         have e10 : Value.slice A1 (mo.length + 1) c1 = .slice A1 (zeb n tl (k + 1)).length c1 := by rw [HMO.out, List.length_append]; rfl
         have hki : Value.int .i64 ((k : Int) + 1) = .int .i64 ((k + 1 : Nat) : Int) := by go_num
         first
          | exact ⟨⟨k + 1, A0, c0, A1, c1, hk1, hki, e8, e10, hT⟩, by simp [intOf]; omega⟩
          |
           (go_roundw
            case rel => (first | exact ⟨k + 1, A0, c0, A1, c1, hk1, hki, e8, e10, hT⟩ | ((repeat apply Exists.intro); exact ⟨⟨k + 1, A0, c0, A1, c1, hk1, hki, e8, e10, hT⟩, rfl⟩))
            case measure => simp [intOf]; omega)
        | false =>
         simp only [Bool.false_eq_true, if_false, List.append_nil] at HSY
         go_wp2_with (at_builtin; obtain ⟨A1, c1, w7, hrun, hT, hs9⟩ := ziz T.out.rot.rot 3 k x.label 68 _ rfl (by omega); refine Lib.wpList_append_run _ rfl (.tmp 76) (.tmp 81) _ _ rfl _ _ rfl rfl _ _ hrun ?_; replace T := Lib.hid hT.rot; clear hrun hT)
         have hk1 : k + 1 ≤ n.trans.length := by omega
         have hT : Hid (T3 (w.heap.size + 1) (.slice A8 (zeu n l kp tl (k + 1)).length c8) (zeu n l kp tl (k + 1)) (.slice A9 lg.length c9) lg (.slice A1 (zeb n tl (k + 1)).length c1) (zeb n tl (k + 1)) [Loc.k4 w.heap.size (.int .i64 n.places) (.slice (some ⟨b4, off4, none⟩) n.trans.length c) (.int .i64 n.source) (.int .i64 n.sink), Loc.bl w.heap.size w] _) := Lib.hid (by rw [HSY.out, HMO.out]; exact T.out)
         have e8 : Value.slice A8 sy.length c8 = .slice A8 (zeu n l kp tl (k + 1)).length c8 := by rw [HSY.out]
         have e10 : Value.slice A1 (mo.length + 1) c1 = .slice A1 (zeb n tl (k + 1)).length c1 := by rw [HMO.out, List.length_append]; rfl
         have hki : Value.int .i64 ((k : Int) + 1) = .int .i64 ((k + 1 : Nat) : Int) := by go_num
         first
          | exact ⟨⟨k + 1, A8, c8, A1, c1, hk1, hki, e8, e10, hT⟩, by simp [intOf]; omega⟩
          |
           (go_roundw
            case rel => (first | exact ⟨k + 1, A8, c8, A1, c1, hk1, hki, e8, e10, hT⟩ | ((repeat apply Exists.intro); exact ⟨⟨k + 1, A8, c8, A1, c1, hk1, hki, e8, e10, hT⟩, rfl⟩))
            case measure => simp [intOf]; omega)
     ·
      rw [HFI.out, decide_eq_false he0] at HSY HMO
      simp only [Bool.false_and, Bool.false_eq_true, if_false, List.append_nil] at HSY HMO
      have be0 : (fe != 0) = true := by simpa using he0
      go_wp2_with fail
      go_region_held3 (fun W => K4 W w.heap.size (.int .i64 n.places) (.slice (some ⟨b4, off4, none⟩) n.trans.length c) (.int .i64 n.source) (.int .i64 n.sink)) (exact hk4) (first
       | (go_at_call 115; refine (HFE.out _ (by first | exact T.out.r.2.1.1 | exact T.out.drew.r.2.1.1)).mono ?_; rintro e w6 ⟨A6, c6, rfl, hr6, hb6⟩; replace hkt := K3.aft (by first | exact hb6 | exact (Below.refl _ _).drew.trans hb6) hkt; replace T := Lib.hid (T3.below (by first | exact T.out | exact T.out.drew) hb6); dsimp only; replace hk4 := T.out.r.1; clear hb6 hr6))
      all_goals
       go_wp2_with fail
       have hk1 : k + 1 ≤ n.trans.length := by omega
       have hT : Hid (T3 (w.heap.size + 1) (.slice A8 (zeu n l kp tl (k + 1)).length c8) (zeu n l kp tl (k + 1)) (.slice A9 lg.length c9) lg (.slice A10 (zeb n tl (k + 1)).length c10) (zeb n tl (k + 1)) [Loc.k4 w.heap.size (.int .i64 n.places) (.slice (some ⟨b4, off4, none⟩) n.trans.length c) (.int .i64 n.source) (.int .i64 n.sink), Loc.bl w.heap.size w] _) := Lib.hid (by rw [HSY.out, HMO.out]; exact T.out)
       have e8 : Value.slice A8 sy.length c8 = .slice A8 (zeu n l kp tl (k + 1)).length c8 := by rw [HSY.out]
       have e10 : Value.slice A10 mo.length c10 = .slice A10 (zeb n tl (k + 1)).length c10 := by rw [HMO.out]
       have hki : Value.int .i64 ((k : Int) + 1) = .int .i64 ((k + 1 : Nat) : Int) := by go_num
       first
        | exact ⟨⟨k + 1, A8, c8, A10, c10, hk1, hki, e8, e10, hT⟩, by simp [intOf]; omega⟩
        |
         (go_roundw
          case rel => (first | exact ⟨k + 1, A8, c8, A10, c10, hk1, hki, e8, e10, hT⟩ | ((repeat apply Exists.intro); exact ⟨⟨k + 1, A8, c8, A10, c10, hk1, hki, e8, e10, hT⟩, rfl⟩))
          case measure => simp [intOf]; omega)
    ·
     obtain rfl : k = n.trans.length := by omega
     have hsl8 := zhw n l kp tl n.trans.length
     have hml10 := zg4 n tl n.trans.length
     generalize zeu n l kp tl n.trans.length = sy at *
     generalize zeb n tl n.trans.length = mo at *
     have hT1 := T.out.s
     go_wp2_with (go_at_call 117; refine (z2a T.out _ (by omega)).mono ?_; rintro e w9 ⟨A1, c1, rfl, hr9, hb9⟩; have HR9 := Lib.hid hr9; replace T := Lib.hid ((T.out.alloc _).below hb9); clear hb9 hr9)
     exact HR.out _ _ (RetM.mk (lo := wr.heap.size + 1) HME.out (by simp) (by have := HR9.out; simpa only [List.length_append] using this) (by omega) (Nat.le_refl _) T.out.r.2.1.1)
end
section
open Go.RowKit
def allA (n : Net) : Nat → List Stp
 | 0 => []
 | k + 1 => allA n k ++ [⟨1, k, (gti n.trans k).label⟩]
def allB (n : Net) : Nat → List Stp
 | 0 => []
 | k + 1 => allB n k ++ [⟨if (gti n.trans k).label.toList.isEmpty then 4 else 3, k, (gti n.trans k).label⟩]
theorem zkr (n : Net) : ∀ k, (allA n k).length = k
 | 0 => rfl
 | k + 1 => by simp [allA, zkr n k]
theorem zs9 (n : Net) : ∀ k, (allB n k).length = k
 | 0 => rfl
 | k + 1 => by simp [allB, zs9 n k]
def zdb (n : Net) (w : List ByteArray) (s : List Int) (al : List Stp) : Nat → List Stp
 | 0 => []
 | k + 1 => zdb n w s al k ++ if (zd2 n w s (gti al k)).2 = 0 then [gti al k] else []
theorem zm5 (n : Net) (w : List ByteArray) (s : List Int) (al : List Stp) : ∀ k, (zdb n w s al k).length ≤ k
 | 0 => by simp [zdb]
 | k + 1 => by
  have := zm5 n w s al k
  have : (if (zd2 n w s (gti al k)).2 = 0 then [gti al k] else []).length ≤ 1 := by split <;> simp
  simp only [zdb, List.length_append]
  omega
def rAll (n : Net) (w : List ByteArray) (p : Int) : List Stp := allA n n.trans.length ++ zfy w p ++ allB n n.trans.length
theorem RdM.lit1E (W : World) (kd tr : Int) (ac : ByteArray) (t : TypeId) (b : Nat) (hb : W.heap.size = b) : RdM (W.alloc (.cells #[.int .i64 kd, .int .i64 tr, .string ac] t)) 0 (W.heap.size + 1) (.slice (some ⟨b, 0, none⟩) 1 1) [⟨kd, tr, ac⟩] := by
 subst hb
 exact Rd.lit W t [⟨kd, tr, ac⟩] _ 1 rfl rfl (by decide) (fun _ => rfl)
theorem zi2 {w : World} {lo hi : Nat} {A : Option Addr} {c m : Nat} {l l' : List Stp} {L : List Loc} (h : Mem (Loc.owM lo hi (.slice A m c) l :: L) w) (hl : l = l') (hm : m = l'.length) : Mem (Loc.owM lo hi (.slice A l'.length c) l' :: L) w := by
 subst hl hm
 exact h
set_option maxRecDepth 100000 in
set_option maxHeartbeats 8000000 in
theorem ztp (n : Net) (l : List ByteArray) (s : List Int) (vt v vs : Value) (lo hi lo' hi' lo2 hi2 : Nat) (w : World) (hv : RdT w lo hi vt n.trans) (hw : RdS w lo' hi' v l) (hs : RdI w lo2 hi2 vs s) (hz : zd3 n l s = true) :
  Calls Tryz.prog 64 #[netV n vt, v, vs] w fun e w' => ∃ A c, e = .returned (.slice A (zdb n l s (rAll n l (gti s 0)) (rAll n l (gti s 0)).length).length c) ∧ RdM w' w.heap.size w'.heap.size (.slice A (zdb n l s (rAll n l (gti s 0)) (rAll n l (gti s 0)).length).length c) (zdb n l s (rAll n l (gti s 0)) (rAll n l (gti s 0)).length) ∧ Below w.heap.size w w' := by
 obtain ⟨A, c, rfl, hc, hmm⟩ := hv.form
 obtain ⟨A2, c2, rfl, hc2, hmm2⟩ := hw.form
 obtain ⟨A3, c3, rfl, hc3, hmm3⟩ := hs.form
 have HV := Lib.hid hv
 have HW := Lib.hid hw
 have HS := Lib.hid hs
 clear hv hw
 obtain ⟨h1, h2, h3, h4, h5⟩ := zen hz
 have hval : n.trans.length ≤ 60 := by
  have := (zce.1 hz).2.2.2.2
  unfold zep at this
  simp only [Bool.and_eq_true] at this
  exact (zdy this.1).2.2
 clear hz
 obtain ⟨b, off, rfl, _, _, hcell⟩ := RdI.at1 hs (k := 0) (by omega)
 have hs0 : (0 : Int) < (s.length : Int) := by omega
 have hs2 : ¬ s = [] := by intro e; rw [e] at h1; simp at h1
 have hs3 : 0 < s.length := h1
 clear hs
 simp only [Nat.add_zero] at hcell
 have HC := Lib.hid hcell
 clear hcell
 have HAP := Lib.hid (fun (m : Stp) (W : World) (h : Below w.heap.size w W) => zms n l s m _ _ _ lo hi lo' hi' lo2 hi2 W (HV.out.after h) (HW.out.after h) (HS.out.after h))
 generalize gti s 0 = p at *
 obtain ⟨kp, rfl⟩ : ∃ k : Nat, p = k := ⟨p.toNat, by omega⟩
 refine zc3 fun R hR => ?_
 have HR := Lib.hid hR
 clear hR
 go_enter Tryz.func64, Tryz.ntmps64
 have M : Hid (Mem [Loc.k4 w.heap.size (.int .i64 n.places) (.slice A n.trans.length c) (.int .i64 n.source) (.int .i64 n.sink), Loc.bl w.heap.size w] (w.alloc (.cells #[.int .i64 n.places, .slice A n.trans.length c, .int .i64 n.source, .int .i64 n.sink] 24))) := Lib.hid ⟨K4.new w _ _ _ _ _, ⟨(Below.refl _ _).alloc (Nat.le_refl _) _, by simp⟩, True.intro⟩
 have hk4 := M.out.1
 have hcell := C1.aft M.out.2.1.1 HC.out
 go_wp2_with fail
 go_loopw [9, 7] (fun v9 v7 wr => ∃ (k : Nat) (B : Option Addr) (d hh : Nat), k ≤ n.trans.length ∧ v9 = .int .i64 k ∧ v7 = .slice B (allA n k).length d ∧ hh ≤ wr.heap.size ∧ Hid (Mem [Loc.owM (w.heap.size + 1) hh (.slice B (allA n k).length d) (allA n k), Loc.k4 w.heap.size (.int .i64 n.places) (.slice A n.trans.length c) (.int .i64 n.source) (.int .i64 n.sink), Loc.bl w.heap.size w] wr)) (fun v9 _ _ => n.trans.length - (intOf v9).toNat)
 case atStart => exact ⟨0, none, 0, 0, by omega, rfl, rfl, by omega, Lib.hid ⟨Own.nil _ _ _, M.out.1, M.out.2.1, True.intro⟩⟩
 case round =>
  clear M hk4 hcell
  obtain ⟨k, B, d, hh, hk, rfl, rfl, hhs, M⟩ := hrel
  have hk4 := M.out.2.1
  have hz0 := M.out.2.1.2.2.2.2
  by_cases hlt : k < n.trans.length
  ·
   obtain ⟨b4, off4, vi, vo, rfl, _, _, hct, hri, hro⟩ := RdT.at3 (HV.out.after M.out.2.2.1.1) hlt
   have HA : Hid (allA n k ++ [⟨1, k, (gti n.trans k).label⟩] = allA n (k + 1)) := Lib.hid rfl
   have hal := zkr n k
   have HAL := Lib.hid hal
   have HAL1 := Lib.hid (zkr n (k + 1))
   have hll : (allA n k).length ≤ 60 := by omega
   clear hal
   generalize allA n k = al at *
   generalize gti n.trans k = x at *
   go_wp2_with (at_builtin; refine zec rfl _ _ rfl zgw (fun _ => rfl) oneM rfl rfl (M.out.alloc _) (by (repeat' (first | exact True.intro | refine And.intro (fun k hk e => ?_) ?_)) <;> (first | exact e | ((try dsimp only [Loc.c1, Loc.c2, Loc.k1, Loc.k2, Loc.k3, Loc.k4, Loc.k6, Loc.fr, Loc.bl, Loc.own, Loc.sz, Loc.rd, Loc.rdI, Loc.rdS, Loc.rdM, Loc.rdT, Loc.ow, Loc.owI, Loc.owM] at hk e) <;> omega))) (RdM.lit1E _ _ _ _ _ _ rfl) (by first | omega | (simp; done) | (simp; omega)) (by first | omega | (simp; done) | (simp; omega)) (by first | omega | (simp; done) | (simp; omega)) ?_; intro A1 c1 w1 hM1 hs1 hch1; replace M := Lib.hid hM1; clear hM1 hch1)
   exact ⟨⟨k + 1, A1, c1, w1.heap.size, by omega, by go_num, by first | (rw [HAL1.out, HAL.out]; done) | (rw [HAL1.out, HAL.out]; rfl), Nat.le_refl _, Lib.hid (zi2 M.out HA.out (by first | (rw [HAL1.out, HAL.out]; done) | (rw [HAL1.out, HAL.out]; rfl)))⟩, by simp [intOf]; omega⟩
  ·
   obtain rfl : k = n.trans.length := by omega
   have hal := zkr n n.trans.length
   have hcell := C1.aft M.out.2.2.1.1 HC.out
   have hll : (allA n n.trans.length).length ≤ 60 := by omega
   have HAL := Lib.hid hal
   clear hal
   have HRA : Hid (rAll n l kp = (allA n n.trans.length ++ zfy l kp) ++ allB n n.trans.length) := Lib.hid rfl
   generalize allA n n.trans.length = al at *
   go_upto_if 40 with (fail)
   go_cut [7] (fun v7 wx => ∃ (B : Option Addr) (d hh : Nat), v7 = .slice B (al ++ zfy l kp).length d ∧ hh ≤ wx.heap.size ∧ Hid (Mem [Loc.owM (w.heap.size + 1) hh (.slice B (al ++ zfy l kp).length d) (al ++ zfy l kp), Loc.k4 w.heap.size (.int .i64 n.places) (.slice A n.trans.length c) (.int .i64 n.source) (.int .i64 n.sink), Loc.bl w.heap.size w] wx))
   case first =>
    by_cases hp : kp < l.length
    ·
     have hpi : (kp : Int) < l.length := by omega
     obtain ⟨b5, off5, rfl, _, _, hce5⟩ := RdS.at1 (HW.out.after M.out.2.2.1.1) hp
     have HLG : Hid (zfy l kp = [⟨2, -1, gti l kp⟩]) := Lib.hid (by unfold zfy; rw [if_pos hpi]; simp)
     generalize gti l kp = x5 at *
     go_wp2_with (at_builtin; refine zec rfl _ _ rfl zgw (fun _ => rfl) oneM rfl rfl (M.out.alloc _) (by (repeat' (first | exact True.intro | refine And.intro (fun k hk e => ?_) ?_)) <;> (first | exact e | ((try dsimp only [Loc.c1, Loc.c2, Loc.k1, Loc.k2, Loc.k3, Loc.k4, Loc.k6, Loc.fr, Loc.bl, Loc.own, Loc.sz, Loc.rd, Loc.rdI, Loc.rdS, Loc.rdM, Loc.rdT, Loc.ow, Loc.owI, Loc.owM] at hk e) <;> omega))) (RdM.lit1E _ _ _ _ _ _ rfl) (by first | omega | (simp; done) | (simp; omega)) (by first | omega | (simp; done) | (simp; omega)) (by first | omega | (simp; done) | (simp; omega)) ?_; intro A1 c1 w1 hM1 hs1 hch1; replace M := Lib.hid hM1; clear hM1 hch1)
     go_meet
     rw [HLG.out]
     exact ⟨A1, c1, w1.heap.size, by rw [List.length_append]; rfl, Nat.le_refl _, Lib.hid (zi2 M.out rfl (by rw [List.length_append]))⟩
    ·
     have hpi : ¬ (kp : Int) < l.length := by omega
     have HLG : Hid (zfy l kp = []) := Lib.hid (by unfold zfy; rw [if_neg hpi])
     go_wp2_with fail
     go_meet
     rw [HLG.out, List.append_nil]
     exact ⟨B, d, hh, rfl, hhs, M⟩
   case rest =>
    have hlo := zlj l kp
    generalize zfy l kp = lg at *
    clear M hk4 hcell hz0 hhs
    obtain ⟨B, d, hh, rfl, hhs, M⟩ := hcut
    have hk4 := M.out.2.1
    have ha0 : (al ++ lg).length ≤ 61 := by rw [List.length_append]; omega
    generalize al ++ lg = a0 at *
    go_wp2_with fail
    go_loopw [10, 7, 11] (fun v10 v7 _ wr => ∃ (k : Nat) (B : Option Addr) (d hh : Nat), k ≤ n.trans.length ∧ v10 = .int .i64 k ∧ v7 = .slice B (a0 ++ allB n k).length d ∧ hh ≤ wr.heap.size ∧ Hid (Mem [Loc.owM (w.heap.size + 1) hh (.slice B (a0 ++ allB n k).length d) (a0 ++ allB n k), Loc.k4 w.heap.size (.int .i64 n.places) (.slice A n.trans.length c) (.int .i64 n.source) (.int .i64 n.sink), Loc.bl w.heap.size w] wr)) (fun v10 _ _ _ => n.trans.length - (intOf v10).toNat)
    case atStart => exact ⟨0, B, d, hh, by omega, rfl, by simp [allB], hhs, by simpa [allB] using M⟩
    case round =>
     clear M hk4 hhs
     obtain ⟨k, B, d, hh, hk, rfl, rfl, hhs, M⟩ := hrel
     have hk4 := M.out.2.1
     have hz0 := M.out.2.1.2.2.2.2
     have hbl := zs9 n k
     have hcl : (a0 ++ allB n k).length ≤ 121 := by rw [List.length_append]; omega
     by_cases hlt : k < n.trans.length
     ·
      obtain ⟨b4, off4, vi, vo, rfl, _, _, hct, hri, hro⟩ := RdT.at3 (HV.out.after M.out.2.2.1.1) hlt
      have HA : Hid ((a0 ++ allB n k) ++ [⟨if (gti n.trans k).label.toList.isEmpty then 4 else 3, k, (gti n.trans k).label⟩] = a0 ++ allB n (k + 1)) := Lib.hid (by rw [allB, List.append_assoc])
      generalize a0 ++ allB n k = al2 at *
      generalize gti n.trans k = x at *
      have HAL : Hid ((a0 ++ allB n (k + 1)).length = al2.length + 1) := Lib.hid (by rw [← HA.out, List.length_append]; rfl)
      obtain ⟨ze, hze⟩ : ∃ z, x.label.toList.isEmpty = z := ⟨_, rfl⟩
      rw [hze] at HA
      cases ze
      all_goals
       simp only [Bool.false_eq_true, if_false, if_true] at HA
       go_wp2_with (at_builtin; refine zec rfl _ _ rfl zgw (fun _ => rfl) oneM rfl rfl ((M.out.alloc _).alloc _) (by (repeat' (first | exact True.intro | refine And.intro (fun k hk e => ?_) ?_)) <;> (first | exact e | ((try dsimp only [Loc.c1, Loc.c2, Loc.k1, Loc.k2, Loc.k3, Loc.k4, Loc.k6, Loc.fr, Loc.bl, Loc.own, Loc.sz, Loc.rd, Loc.rdI, Loc.rdS, Loc.rdM, Loc.rdT, Loc.ow, Loc.owI, Loc.owM] at hk e) <;> omega))) (RdM.lit1E _ _ _ _ _ _ (by first | rfl | simp)) (by first | omega | (simp; done) | (simp; omega)) (by first | omega | (simp; done) | (simp; omega)) (by first | omega | (simp; done) | (simp; omega)) ?_; intro A1 c1 w1 hM1 hs1 hch1; replace M := Lib.hid hM1; clear hM1 hch1)
       exact ⟨⟨k + 1, A1, c1, w1.heap.size, by omega, by go_num, by first | (rw [HAL.out]; done) | (rw [HAL.out]; rfl), Nat.le_refl _, Lib.hid (zi2 M.out HA.out (by first | (rw [HAL.out]; done) | (rw [HAL.out]; rfl)))⟩, by simp [intOf]; omega⟩
     ·
      obtain rfl : k = n.trans.length := by omega
      rw [← HRA.out] at M hcl
      have hra := HRA.out
      generalize rAll n l kp = ra at *
      rw [← hra]
      clear HRA hra hbl
      obtain ⟨N3, hN3⟩ : ∃ N, N = wr.heap.size := ⟨_, rfl⟩
      have M3 : Hid (Mem [Loc.rdM (w.heap.size + 1) N3 (.slice B ra.length d) ra, Loc.k4 w.heap.size (.int .i64 n.places) (.slice A n.trans.length c) (.int .i64 n.source) (.int .i64 n.sink), Loc.bl w.heap.size w, Loc.sz N3] wr) := Lib.hid ⟨M.out.1.rd.mono (Nat.le_refl _) (by omega), M.out.2.1, M.out.2.2.1, by rw [hN3]; exact Nat.le_refl _, True.intro⟩
      have hNz : w.heap.size < N3 := by omega
      clear M hhs hN3
      go_wp2_with fail
      go_loopw [13, 12, 14, 15] (fun v13 v12 _ _ wr => ∃ (k : Nat) (B2 : Option Addr) (d2 hh2 : Nat), k ≤ ra.length ∧ v13 = .int .i64 k ∧ v12 = .slice B2 (zdb n l s ra k).length d2 ∧ hh2 ≤ wr.heap.size ∧ Hid (Mem [Loc.owM N3 hh2 (.slice B2 (zdb n l s ra k).length d2) (zdb n l s ra k), Loc.rdM (w.heap.size + 1) N3 (.slice B ra.length d) ra, Loc.k4 w.heap.size (.int .i64 n.places) (.slice A n.trans.length c) (.int .i64 n.source) (.int .i64 n.sink), Loc.bl w.heap.size w, Loc.sz N3] wr)) (fun v13 _ _ _ _ => ra.length - (intOf v13).toNat)
      case atStart => exact ⟨0, none, 0, 0, by omega, rfl, rfl, by omega, Lib.hid ⟨Own.nil _ _ _, M3.out⟩⟩
      case round =>
       clear M3 hk4 hz0
       obtain ⟨k, B2, d2, hh2, hk, rfl, rfl, hhs, M⟩ := hrel
       have hk4 := M.out.2.2.1
       have hz0 := M.out.2.2.1.2.2.2.2
       have hzn := M.out.2.2.2.2.1
       by_cases hlt : k < ra.length
       ·
        obtain ⟨b6, off6, rfl, _, _, hc6⟩ := RdM.at3 M.out.2.1 hlt
        have HF : Hid (zdb n l s ra k ++ (if (zd2 n l s (gti ra k)).2 = 0 then [gti ra k] else []) = zdb n l s ra (k + 1)) := Lib.hid rfl
        have hfl := zm5 n l s ra k
        have hfl2 : (zdb n l s ra k).length ≤ 121 := by omega
        have HAPk := Lib.hid (HAP.out (gti ra k))
        obtain ⟨⟨fl, fe⟩, hfe⟩ : ∃ r, zd2 n l s (gti ra k) = r := ⟨_, rfl⟩
        rw [hfe] at HF HAPk
        dsimp only at HF
        clear hfe
        generalize zdb n l s ra k = fk at *
        generalize gti ra k = x at *
        obtain ⟨kd, tr, ac⟩ := x
        simp only at hc6
        have hkb : (k : Int) < ra.length := by omega
        have hkd : decide ((k : Int) < (ra.length : Int)) = true := by simp; omega
        have hk0 : (0 : Int) ≤ k := by omega
        have HC6 := Lib.hid hc6
        by_cases he0 : fe = 0
        ·
         subst he0
         rw [if_pos rfl] at HF
         have HFL : Hid ((zdb n l s ra (k + 1)).length = fk.length + 1) := Lib.hid (by rw [← HF.out, List.length_append]; rfl)
         go_wp2_with fail
         go_region_held3 (fun W => K4 W w.heap.size (.int .i64 n.places) (.slice A n.trans.length c) (.int .i64 n.source) (.int .i64 n.sink) ∧ C3 W b6 (off6 + k * 3) (.int .i64 kd) (.int .i64 tr) (.string ac)) (exact ⟨hk4, hc6⟩) (first
          | (go_at_call 65; refine (HAPk.out _ (by first | exact M.out.2.2.2.1.1 | exact M.out.drew.2.2.2.1.1)).mono ?_; rintro e w9 ⟨A9, c9, rfl, hr9, hb9⟩; have hz9 : wr.heap.size ≤ w9.heap.size := hb9.size; replace hc6 := C3.aft (by first | exact hb9 | exact (Below.refl _ _).drew.trans hb9) hc6; replace M := Lib.hid (Mem.below (by first | exact M.out | exact M.out.drew) hb9); clear hb9 hr9; dsimp only; replace hk4 := M.out.2.2.1; replace hzn := M.out.2.2.2.2.1; replace hz0 := M.out.2.2.1.2.2.2.2))
         all_goals
          go_wp2_with (at_builtin; refine zec rfl _ _ rfl zgw (fun _ => rfl) oneM rfl rfl (M.out.alloc _) (by (repeat' (first | exact True.intro | refine And.intro (fun k hk e => ?_) ?_)) <;> (first | exact e | ((try dsimp only [Loc.c1, Loc.c2, Loc.k1, Loc.k2, Loc.k3, Loc.k4, Loc.k6, Loc.fr, Loc.bl, Loc.own, Loc.sz, Loc.rd, Loc.rdI, Loc.rdS, Loc.rdM, Loc.rdT, Loc.ow, Loc.owI, Loc.owM] at hk e) <;> omega))) (RdM.lit1E _ _ _ _ _ _ (by first | rfl | simp)) (by first | omega | (simp; done) | (simp; omega)) (by first | omega | (simp; done) | (simp; omega)) (by first | omega | (simp; done) | (simp; omega)) ?_; intro A1 c1 w1 hM1 hs1 hch1; replace M := Lib.hid hM1; clear hM1 hch1)
          have hk1 : k + 1 ≤ ra.length := by omega
          have e12 : Value.slice A1 (fk.length + 1) c1 = .slice A1 (zdb n l s ra (k + 1)).length c1 := by rw [HFL.out]
          have hki : Value.int .i64 ((k : Int) + 1) = .int .i64 ((k + 1 : Nat) : Int) := by go_num
          have hT := Lib.hid (zi2 M.out HF.out (by rw [HFL.out]; rfl))
          first
           | exact ⟨⟨k + 1, A1, c1, w1.heap.size, hk1, hki, e12, Nat.le_refl _, hT⟩, by simp [intOf]; omega⟩
           |
            (go_roundw
             case rel => (first | exact ⟨k + 1, A1, c1, w1.heap.size, hk1, hki, e12, Nat.le_refl _, hT⟩ | ((repeat apply Exists.intro); exact ⟨⟨k + 1, A1, c1, w1.heap.size, hk1, hki, e12, Nat.le_refl _, hT⟩, rfl⟩))
             case measure => simp [intOf]; omega)
        ·
         rw [if_neg he0, List.append_nil] at HF
         have be0 : (fe == 0) = false := by simpa using he0
         go_wp2_with fail
         go_region_held3 (fun W => K4 W w.heap.size (.int .i64 n.places) (.slice A n.trans.length c) (.int .i64 n.source) (.int .i64 n.sink) ∧ C3 W b6 (off6 + k * 3) (.int .i64 kd) (.int .i64 tr) (.string ac)) (exact ⟨hk4, hc6⟩) (first
          | (go_at_call 65; refine (HAPk.out _ (by first | exact M.out.2.2.2.1.1 | exact M.out.drew.2.2.2.1.1)).mono ?_; rintro e w9 ⟨A9, c9, rfl, hr9, hb9⟩; have hz9 : wr.heap.size ≤ w9.heap.size := hb9.size; replace hc6 := C3.aft (by first | exact hb9 | exact (Below.refl _ _).drew.trans hb9) hc6; replace M := Lib.hid (Mem.below (by first | exact M.out | exact M.out.drew) hb9); clear hb9 hr9; dsimp only; replace hk4 := M.out.2.2.1; replace hzn := M.out.2.2.2.2.1; replace hz0 := M.out.2.2.1.2.2.2.2))
         all_goals
          go_wp2_with fail
          have hk1 : k + 1 ≤ ra.length := by omega
          have e12 : Value.slice B2 fk.length d2 = .slice B2 (zdb n l s ra (k + 1)).length d2 := by rw [← HF.out]
          have hki : Value.int .i64 ((k : Int) + 1) = .int .i64 ((k + 1 : Nat) : Int) := by go_num
          have hT := Lib.hid (zi2 M.out HF.out (by rw [HF.out]))
          have hhn : hh2 ≤ w9.heap.size := by omega
          first
           | exact ⟨⟨k + 1, B2, d2, hh2, hk1, hki, e12, hhn, hT⟩, by simp [intOf]; omega⟩
           |
            (go_roundw
             case rel => (first | exact ⟨k + 1, B2, d2, hh2, hk1, hki, e12, hhn, hT⟩ | ((repeat apply Exists.intro); exact ⟨⟨k + 1, B2, d2, hh2, hk1, hki, e12, hhn, hT⟩, rfl⟩))
             case measure => simp [intOf]; omega)
       ·
        obtain rfl : k = ra.length := by omega
        go_wp2_with fail
        exact HR.out _ _ ⟨B2, d2, rfl, M.out.1.rd.mono (by omega) hhs, M.out.2.2.2.1.1⟩
end
section
open Go.RowKit
def canB (n : Net) (w : List ByteArray) (s : List Int) (m : Stp) : Bool := decide ((zd2 n w s m).2 = 0)
theorem zlv (n : Net) (w : List ByteArray) (s : List Int) (al : List Stp) : ∀ k, k ≤ al.length → zdb n w s al k = (al.take k).filter (canB n w s)
 | 0, _ => by simp [zdb]
 | k + 1, h => by
  have : al.take (k + 1) = al.take k ++ [gti al k] := by
   rw [List.take_succ_eq_append_getElem (by omega)]
   unfold gti
   rw [List.getElem?_eq_getElem (by omega)]
   rfl
  rw [zdb, zlv n w s al k (by omega), this, List.filter_append]
  congr 1
  unfold canB
  by_cases hc : (zd2 n w s (gti al k)).2 = 0 <;> simp [hc]
theorem zzk {s : ByteArray} (h : s.toList.isEmpty = true) : s = ByteArray.empty := by
 by_cases he : s = ByteArray.empty
 ·
  exact he
 ·
  rw [zty he] at h; cases h
section
variable {n : Net} {w : List ByteArray} {s : List Int} (hz : zd3 n w s = true)
include hz
theorem zxe {m : Stp} (hk : zg8 m.kind = true) : canB n w s m = decide ((zfj n w s m).2 = 0) := by
 unfold canB zd2
 rw [hz, hk]
 rfl
theorem zzn {k : Nat} (hk : k < n.trans.length) : canB n w s ⟨1, k, (gti n.trans k).label⟩ = (znx n (s.drop 1) k && (!(gti n.trans k).label.toList.isEmpty && atB w (gti s 0) (gti n.trans k).label)) := by
 rw [zxe hz (by rfl)]
 unfold zfj znx
 simp only [Int.toNat_natCast]
 generalize List.drop 1 s = tl
 rw [if_neg (by decide), if_neg (by omega)]
 cases he : (gti n.trans k).label.toList.isEmpty <;> cases ha : atB w (gti s 0) (gti n.trans k).label <;> by_cases hf : (zdi n tl k).2 = 0 <;> simp [hf]
theorem zxd {k : Nat} (hk : k < n.trans.length) : canB n w s ⟨if (gti n.trans k).label.toList.isEmpty then 4 else 3, k, (gti n.trans k).label⟩ = znx n (s.drop 1) k := by
 rw [zxe hz (by split <;> rfl)]
 unfold zfj znx
 simp only [Int.toNat_natCast]
 generalize List.drop 1 s = tl
 cases he : (gti n.trans k).label.toList.isEmpty
 ·
  simp only [Bool.false_eq_true, if_false]
  rw [if_neg (by decide), if_neg (by omega)]
  by_cases hf : (zdi n tl k).2 = 0 <;> simp [hf]
 ·
  simp only [if_true]
  rw [if_neg (by decide), if_neg (by omega)]
  by_cases hf : (zdi n tl k).2 = 0 <;> simp [hf]
theorem z2d (hp : gti s 0 < w.length) : canB n w s ⟨2, -1, gti w (gti s 0).toNat⟩ = true := by
 obtain ⟨h1, h2, h3, h4, h5⟩ := zce.1 hz
 rw [zxe hz (by rfl)]
 unfold zfj
 have hn : zgj (gti w (gti s 0).toNat) = true := by
  unfold zew at h1
  simp only [Bool.and_eq_true, List.all_eq_true] at h1
  exact h1.2 _ (gti_mem (by omega))
 have ha : atB w (gti s 0) (gti w (gti s 0).toNat) = true := by unfold atB; simp [hp]
 simp [hn, ha]
theorem zpt : ∀ k, k ≤ n.trans.length → (allA n k).filter (canB n w s) = zeu n w (gti s 0) (s.drop 1) k
 | 0, _ => rfl
 | k + 1, h => by
  rw [allA, zeu, List.filter_append, zpt k (by omega)]
  congr 1
  unfold zr0
  rw [← zzn hz (by omega)]
  cases hc : canB n w s ⟨1, k, (gti n.trans k).label⟩ <;> simp [hc]
theorem zm4 : ∀ k, k ≤ n.trans.length → (allB n k).filter (canB n w s) = zeb n (s.drop 1) k
 | 0, _ => rfl
 | k + 1, h => by
  rw [allB, zeb, List.filter_append, zm4 k (by omega)]
  congr 1
  unfold znp
  have hm := zxd hz (k := k) (by omega)
  rw [← hm]
  cases he : (gti n.trans k).label.toList.isEmpty
  ·
   rw [he] at hm
   simp only [Bool.false_eq_true, if_false] at hm ⊢
   cases hc : canB n w s ⟨3, k, (gti n.trans k).label⟩ <;> simp [hc]
  ·
   rw [he] at hm
   simp only [if_true] at hm ⊢
   rw [zzk he]
   cases hc : canB n w s ⟨4, k, ByteArray.empty⟩ <;> simp [hc]
theorem zmx : zdb n w s (rAll n w (gti s 0)) (rAll n w (gti s 0)).length = zds n w s := by
 rw [zlv n w s _ _ (Nat.le_refl _), List.take_length]
 unfold rAll zds
 rw [List.filter_append, List.filter_append, zpt hz _ (Nat.le_refl _), zm4 hz _ (Nat.le_refl _), List.append_assoc]
 congr 2
 unfold zfy
 split
 ·
  rename_i hp
  simp [z2d hz hp]
 ·
  rfl
end
end
namespace Dl
open Go.RowKit
structure Prf where
 st : List (List Int)
 pots : List Int
 duals : List Fr
def zPf : Prf := ⟨[], [], []⟩
def nxD (n : Net) (w : List ByteArray) (c : Cst) (s : List Int) : List (List Int × Int) := (zds n w s).map fun m => ((zd2 n w s m).1, zd4 c m.kind)
def farD (g : Gr) (last : Nat) : List Int := relW g.ed ((List.replicate g.st.length 1073741824).set last 0)
def capD (far : List Int) : List Int := far.map fun x => if gti far 0 < x then gti far 0 else x
def finD (n : Net) (w : List ByteArray) (g : Gr) : Int × Prf × Int :=
 if zef g.st (endE n w).1 < 0 then (0, zPf, 10)
 else (gti (farD g (idx g.st (endE n w).1)) 0, ⟨g.st, capD (farD g (idx g.st (endE n w).1)), List.replicate (n.places.toNat + w.length) (Fr.of 0)⟩, 0)
def zfs (n : Net) (w : List ByteArray) (c : Cst) (most : Int) : Int × Prf × Int :=
 if (zd9 n w).2 ≠ 0 ∨ vcB c = false then (0, zPf, 1)
 else if most < 1 ∨ 2000 < most then (0, zPf, 2)
 else match bfsD (nxD n w c) most (most.toNat + 1) 0 ⟨[(zd9 n w).1], []⟩ with
  | none => (0, zPf, 13)
  | some g => finD n w g
def okS (n : Net) (w : List ByteArray) (s : List Int) : Prop := zd3 n w s = true
theorem okS.valid {n : Net} {w : List ByteArray} {s : List Int} (h : okS n w s) : zd5 n = true ∧ zew w = true := by
 obtain ⟨h1, _, _, _, h5⟩ := zce.1 h
 unfold zep at h5
 simp only [Bool.and_eq_true] at h5
 exact ⟨h5.1, h1⟩
theorem okS.len {n : Net} {w : List ByteArray} {s : List Int} (h : okS n w s) : 1 ≤ s.length ∧ s.length ≤ 41 ∧ (s.length : Int) = n.places + 1 := by
 obtain ⟨_, h2, _, _, h5⟩ := zce.1 h
 have := zv1 h5
 rw [List.length_drop] at this
 omega
theorem okS.small {n : Net} {w : List ByteArray} {s : List Int} (h : okS n w s) : ∀ x ∈ s, 0 ≤ x ∧ x ≤ 255 := by
 obtain ⟨h1, h2, h3, h4, h5⟩ := zce.1 h
 have h6 := (zen h).2.2.2.2
 intro x hx
 match s, h2, hx, h3, h4, h5 with
 | a :: t, _, hx, h3, h4, h5 =>
  have e0 : gti (a :: t) 0 = a := rfl
  rw [e0] at h3 h4
  rcases List.mem_cons.1 hx with rfl | hx
  ·
   omega
  ·
   exact zq0 h5 x hx
theorem okS.ne {n : Net} {w : List ByteArray} {s : List Int} (h : okS n w s) : s ≠ [] := fun e => by have := h.len; rw [e] at this; simp at this
theorem zgk {n : Net} {w : List ByteArray} {s : List Int} {m : Stp} (h : okS n w s) (hm : m ∈ zds n w s) : (zd2 n w s m).2 = 0 ∧ zg8 m.kind = true ∧ okS n w (zd2 n w s m).1 := by
 rw [← zmx h, zlv n w s _ _ (Nat.le_refl _), List.take_length] at hm
 have h1 := (List.mem_filter.1 hm).2
 have h2 : (zd2 n w s m).2 = 0 := by unfold canB at h1; exact of_decide_eq_true h1
 have h3 : zg8 m.kind = true := by
  cases hk : zg8 m.kind with
  | true => rfl
  | false => unfold zd2 at h2; rw [hk] at h2; simp at h2
 refine ⟨h2, h3, ?_⟩
 rw [zxy h h3] at h2 ⊢
 exact zro h h2
theorem zho {n : Net} {w : List ByteArray} {s : List Int} (h : okS n w s) : (zds n w s).length ≤ 200 := by
 have h1 := zdy h.valid.1
 have h2 := zhw n w (gti s 0) (s.drop 1) n.trans.length
 have h3 := zg4 n (s.drop 1) n.trans.length
 have h4 := zlj w (gti s 0)
 unfold zds
 simp only [List.length_append]
 omega
theorem zvu {n : Net} {w : List ByteArray} {c : Cst} (hc : vcB c = true) : NxOk (nxD n w c) (okS n w) := by
 refine ⟨fun x hx r hr => ?_, fun x hx => ?_⟩
 ·
  obtain ⟨m, hm, rfl⟩ := List.mem_map.1 hr
  exact ⟨(zgk hx hm).2.2, zhz hc m.kind⟩
 ·
  unfold nxD; rw [List.length_map]; have := zho hx; omega
theorem z0a {n : Net} {w : List ByteArray} (h1 : zd5 n = true) (h2 : zew w = true) (p : Int) (q : Int) (hq : 0 ≤ q ∧ q ≤ w.length) : okS n w (q :: oneL n.places.toNat p) := by
 refine zce.2 ⟨h2, by simp, hq.1, hq.2, ?_⟩
 show zep n (oneL n.places.toNat p) = true
 unfold zep
 rw [h1, zvt p (zdy h1).1]; rfl
theorem zf8 {n : Net} {w : List ByteArray} (h : (zd9 n w).2 = 0) : zd5 n = true ∧ zew w = true ∧ zd9 n w = ((0 : Int) :: oneL n.places.toNat n.source, 0) ∧ endE n w = ((w.length : Int) :: oneL n.places.toNat n.sink, 0) ∧ okS n w (zd9 n w).1 ∧ okS n w (endE n w).1 := by
 unfold zd9 at h ⊢
 unfold endE
 cases h1 : zd5 n with
 | false => rw [h1] at h; simp at h
 | true =>
  cases h2 : zew w with
  | false => rw [h1, h2] at h; simp at h
  | true =>
   have e : (true && true) = true := rfl
   rw [if_pos e, if_pos e]
   exact ⟨rfl, rfl, rfl, rfl, z0a h1 h2 _ _ ⟨by omega, by omega⟩, z0a h1 h2 _ _ ⟨by omega, by omega⟩⟩
theorem zut {n : Net} {w : List ByteArray} (h : (zd9 n w).2 ≠ 0) : ¬ (zd5 n = true ∧ zew w = true) := fun ⟨h1, h2⟩ => by
 unfold zd9 at h; rw [h1, h2] at h; exact h rfl
theorem zsz {c : Cst} {m : Stp} (hc : vcB c = true) (hk : zg8 m.kind = true) : zp8 c [m] = (zd4 c m.kind, 0) := by
 have hf : fineB [m] = true := by simp [fineB, hk]
 have hg : gti [m] 0 = m := rfl
 unfold zp8
 rw [hc, hf]
 show (zhu c [m] 1, (0 : Int)) = _
 unfold zhu zhu
 rw [hg, Int.zero_add]
theorem zzg {g : Gr} {last : Nat} {n : Nat} (hE : EOk g.st.length g.ed) (ht : last < g.st.length) : FOk g.st.length g.ed 1073741824 last (Way g.ed last) (farD g last) :=
 (zk5 hE way_W _ _ (Nat.le_refl _) (zju (M := g.ed) (by omega) ht)).1
end Dl
end Go.Proofs.YtjhdcgaiccnmeaaGreatDoor
