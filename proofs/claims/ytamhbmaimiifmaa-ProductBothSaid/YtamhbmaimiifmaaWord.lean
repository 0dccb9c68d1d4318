/-
  Walks of product's and casebookref42's Word and Run. Conditions: none.
-/
import Derived.Test.YtamhbmaimiifmaaCost
import Derived.Test.YtamhbmaimiifmaaFire3
namespace Go.Proofs.Ytamhbmaimiifmaa
set_option linter.unusedSimpArgs false
set_option linter.unusedVariables false
open Go.RowKit

theorem ti_string : TI 25 9 1 16 (.string ByteArray.empty) := TI.mk Try.underlying25 (by kernel_rfl) rfl (by decide)
theorem oneS : ∀ a : ByteArray, ∀ u ∈ encS a, u.oneCell' = true := by intro a u hu; simp at hu; subst hu; rfl
abbrev Loc.owS (lo hi : Nat) (v : Value) (l : List ByteArray) : Loc := Loc.ow 9 1 encS lo hi v l
theorem Rd.lit1S (W : World) (a : ByteArray) (t : TypeId) : RdS (W.alloc (.cells #[.string a] t)) 0 (W.heap.size + 1) (.slice (some ⟨W.heap.size, 0, none⟩) 1 1) [a] := Rd.lit W t [a] _ 1 rfl rfl (by decide) (fun _ => rfl)
theorem RdS.lit1E (W : World) (a : ByteArray) (t : TypeId) (b : Nat) (hb : W.heap.size = b) : RdS (W.alloc (.cells #[.string a] t)) 0 (W.heap.size + 1) (.slice (some ⟨b, 0, none⟩) 1 1) [a] := hb ▸ Rd.lit1S W a t
theorem RdI.lit1E (W : World) (a : Int) (t : TypeId) (b : Nat) (hb : W.heap.size = b) : RdI (W.alloc (.cells #[.int .i64 a] t)) 0 (W.heap.size + 1) (.slice (some ⟨b, 0, none⟩) 1 1) [a] := hb ▸ RdI.lit1 W a t
/-- a list of strings and an error number, returned: the list lies in new memory -/
def RetS (w : World) (r : List ByteArray × Int) (e : Ending) (w' : World) : Prop :=
  ∃ A c, e = .returned (.tuple #[.slice A r.1.length c, .int .i64 r.2]) ∧ RdS w' w.heap.size w'.heap.size (.slice A r.1.length c) r.1 ∧ Below w.heap.size w w'
theorem RetS.nil {w w' : World} {r : List ByteArray × Int} {c : Int} (h : r = ([], c)) (hb : Below w.heap.size w w') : RetS w r (.returned (.tuple #[.slice none 0 0, .int .i64 c])) w' := by
  subst h
  exact ⟨none, 0, rfl, Rd.nil _ _ _, hb⟩
theorem RetS.mk {w w' : World} {r : List ByteArray × Int} {l : List ByteArray} {n k : Nat} {A : Option Addr} {c : Int} (h : r = (l, c)) (hn : n = l.length) {lo hi : Nat} (hr : RdS w' lo hi (.slice A n k) l) (hlo : w.heap.size ≤ lo) (hhi : hi ≤ w'.heap.size) (hb : Below w.heap.size w w') : RetS w r (.returned (.tuple #[.slice A n k, .int .i64 c])) w' := by
  subst h hn
  exact ⟨A, k, rfl, hr.mono hlo hhi, hb⟩

def wordOf (m : Stp) : List ByteArray := if m.kind = 1 ∨ m.kind = 2 then [m.act] else []
def wordAt (l : List Stp) : Nat → List ByteArray
  | 0 => []
  | k + 1 => wordAt l k ++ wordOf (gti l k)
theorem wordOf_len (m : Stp) : (wordOf m).length ≤ 1 := by unfold wordOf; split <;> simp
theorem wordAt_len (l : List Stp) : ∀ k, (wordAt l k).length ≤ k
  | 0 => by simp [wordAt]
  | k + 1 => by
    have := wordAt_len l k
    have := wordOf_len (gti l k)
    simp only [wordAt, List.length_append]
    omega
def wordE (l : List Stp) : List ByteArray × Int := if fineB l then (wordAt l l.length, 0) else ([], 1)
theorem ent_word1 : Ent 60 := ent_of Try.func60 (by kernel_rfl) rfl

set_option maxHeartbeats 1000000 in
theorem word1_any (w0 : World) (cur : List ByteArray) (m : Stp) (B : Option Addr) (d hh : Nat) (W : World) (hM : Mem [Loc.owS w0.heap.size hh (.slice B cur.length d) cur, Loc.bl w0.heap.size w0] W) (hl : cur.length ≤ 1000000) (hh2 : hh ≤ W.heap.size) :
    Calls Try.prog 60 #[.slice B cur.length d, stpM m] W fun e W' => ∃ A c hh', e = .returned (.slice A (cur ++ wordOf m).length c) ∧ Mem [Loc.owS w0.heap.size hh' (.slice A (cur ++ wordOf m).length c) (cur ++ wordOf m), Loc.bl w0.heap.size w0] W' ∧ hh' ≤ W'.heap.size := by
  obtain ⟨kd, tr, ac⟩ := m
  have HWO : Hid (wordOf ⟨kd, tr, ac⟩ = if kd = 1 ∨ kd = 2 then [ac] else []) := Lib.hid rfl
  have hcs : kd = 1 ∨ kd = 2 ∨ (kd ≠ 1 ∧ kd ≠ 2) := by omega
  rcases hcs with rfl | rfl | ⟨hk1, hk2⟩
  · have M : Hid (Mem [Loc.owS w0.heap.size hh (.slice B cur.length d) cur, Loc.k3 W.heap.size (.int .i64 1) (.int .i64 tr) (.string ac), Loc.bl w0.heap.size w0] (W.alloc (.cells #[.int .i64 1, .int .i64 tr, .string ac] 57))) := Lib.hid ⟨(hM.alloc _).1, K3.new W _ _ _ _, (hM.alloc _).2⟩
    have hk3 := M.out.2.1
    have hws := hM.2.1.2
    clear hM
    refine calls_cps fun R hR => ?_
    have HR := Lib.hid hR
    clear hR
    go_enter Try.func60, Try.ntmps60
    go_wp2_with (at_builtin; refine wpList_app rfl _ _ rfl ti_string (fun _ => rfl) oneS rfl rfl (M.out.alloc _) (by (repeat' (first | exact True.intro | refine And.intro (fun k hk e => ?_) ?_)) <;> (first | exact e | ((try dsimp only [Loc.c1, Loc.c2, Loc.k1, Loc.k2, Loc.k3, Loc.k4, Loc.k6, Loc.fr, Loc.bl, Loc.own, Loc.sz, Loc.rd, Loc.rdI, Loc.rdS, Loc.rdM, Loc.rdT, Loc.ow, Loc.owI, Loc.owS] at hk e) <;> omega))) (RdS.lit1E _ _ _ _ (by simp)) (by first | omega | (simp; done) | (simp; omega)) (by first | omega | (simp; done) | (simp; omega)) (by first | omega | (simp; done) | (simp; omega)) ?_; intro A1 c1 w1 hM1 hs1 hch1; replace M := Lib.hid hM1; clear hM1 hch1; (try simp only [World.size_alloc] at hs1))
    all_goals have hwo := HWO.out
    all_goals first
      | (have he : wordOf ⟨1, tr, ac⟩ = [ac] := by clear HWO; go_light; grind
         have hM := M.out
         refine HR.out _ _ ⟨A1, c1, w1.heap.size, ?_, ⟨?_, hM.2.2⟩, Nat.le_refl _⟩
         · first | (rw [he, List.length_append]; done) | (rw [he, List.length_append]; rfl)
         · rw [he, List.length_append]; exact hM.1)
      | (have he : wordOf ⟨1, tr, ac⟩ = [] := by clear HWO; go_light; grind
         have hM := M.out
         refine HR.out _ _ ⟨B, d, hh, ?_, ⟨?_, hM.2.2⟩, by simp; omega⟩
         · first | (rw [he, List.append_nil]; done) | (rw [he, List.append_nil]; rfl)
         · rw [he, List.append_nil]; exact hM.1)
  · have M : Hid (Mem [Loc.owS w0.heap.size hh (.slice B cur.length d) cur, Loc.k3 W.heap.size (.int .i64 2) (.int .i64 tr) (.string ac), Loc.bl w0.heap.size w0] (W.alloc (.cells #[.int .i64 2, .int .i64 tr, .string ac] 57))) := Lib.hid ⟨(hM.alloc _).1, K3.new W _ _ _ _, (hM.alloc _).2⟩
    have hk3 := M.out.2.1
    have hws := hM.2.1.2
    clear hM
    refine calls_cps fun R hR => ?_
    have HR := Lib.hid hR
    clear hR
    go_enter Try.func60, Try.ntmps60
    go_wp2_with (at_builtin; refine wpList_app rfl _ _ rfl ti_string (fun _ => rfl) oneS rfl rfl (M.out.alloc _) (by (repeat' (first | exact True.intro | refine And.intro (fun k hk e => ?_) ?_)) <;> (first | exact e | ((try dsimp only [Loc.c1, Loc.c2, Loc.k1, Loc.k2, Loc.k3, Loc.k4, Loc.k6, Loc.fr, Loc.bl, Loc.own, Loc.sz, Loc.rd, Loc.rdI, Loc.rdS, Loc.rdM, Loc.rdT, Loc.ow, Loc.owI, Loc.owS] at hk e) <;> omega))) (RdS.lit1E _ _ _ _ (by simp)) (by first | omega | (simp; done) | (simp; omega)) (by first | omega | (simp; done) | (simp; omega)) (by first | omega | (simp; done) | (simp; omega)) ?_; intro A1 c1 w1 hM1 hs1 hch1; replace M := Lib.hid hM1; clear hM1 hch1; (try simp only [World.size_alloc] at hs1))
    all_goals have hwo := HWO.out
    all_goals first
      | (have he : wordOf ⟨2, tr, ac⟩ = [ac] := by clear HWO; go_light; grind
         have hM := M.out
         refine HR.out _ _ ⟨A1, c1, w1.heap.size, ?_, ⟨?_, hM.2.2⟩, Nat.le_refl _⟩
         · first | (rw [he, List.length_append]; done) | (rw [he, List.length_append]; rfl)
         · rw [he, List.length_append]; exact hM.1)
      | (have he : wordOf ⟨2, tr, ac⟩ = [] := by clear HWO; go_light; grind
         have hM := M.out
         refine HR.out _ _ ⟨B, d, hh, ?_, ⟨?_, hM.2.2⟩, by simp; omega⟩
         · first | (rw [he, List.append_nil]; done) | (rw [he, List.append_nil]; rfl)
         · rw [he, List.append_nil]; exact hM.1)
  · have M : Hid (Mem [Loc.owS w0.heap.size hh (.slice B cur.length d) cur, Loc.k3 W.heap.size (.int .i64 kd) (.int .i64 tr) (.string ac), Loc.bl w0.heap.size w0] (W.alloc (.cells #[.int .i64 kd, .int .i64 tr, .string ac] 57))) := Lib.hid ⟨(hM.alloc _).1, K3.new W _ _ _ _, (hM.alloc _).2⟩
    have hk3 := M.out.2.1
    have hws := hM.2.1.2
    clear hM
    refine calls_cps fun R hR => ?_
    have HR := Lib.hid hR
    clear hR
    go_enter Try.func60, Try.ntmps60
    go_wp2_with (at_builtin; refine wpList_app rfl _ _ rfl ti_string (fun _ => rfl) oneS rfl rfl (M.out.alloc _) (by (repeat' (first | exact True.intro | refine And.intro (fun k hk e => ?_) ?_)) <;> (first | exact e | ((try dsimp only [Loc.c1, Loc.c2, Loc.k1, Loc.k2, Loc.k3, Loc.k4, Loc.k6, Loc.fr, Loc.bl, Loc.own, Loc.sz, Loc.rd, Loc.rdI, Loc.rdS, Loc.rdM, Loc.rdT, Loc.ow, Loc.owI, Loc.owS] at hk e) <;> omega))) (RdS.lit1E _ _ _ _ (by simp)) (by first | omega | (simp; done) | (simp; omega)) (by first | omega | (simp; done) | (simp; omega)) (by first | omega | (simp; done) | (simp; omega)) ?_; intro A1 c1 w1 hM1 hs1 hch1; replace M := Lib.hid hM1; clear hM1 hch1; (try simp only [World.size_alloc] at hs1))
    all_goals have hwo := HWO.out
    all_goals first
      | (have he : wordOf ⟨kd, tr, ac⟩ = [ac] := by clear HWO; go_light; grind
         have hM := M.out
         refine HR.out _ _ ⟨A1, c1, w1.heap.size, ?_, ⟨?_, hM.2.2⟩, Nat.le_refl _⟩
         · first | (rw [he, List.length_append]; done) | (rw [he, List.length_append]; rfl)
         · rw [he, List.length_append]; exact hM.1)
      | (have he : wordOf ⟨kd, tr, ac⟩ = [] := by clear HWO; go_light; grind
         have hM := M.out
         refine HR.out _ _ ⟨B, d, hh, ?_, ⟨?_, hM.2.2⟩, by simp; omega⟩
         · first | (rw [he, List.append_nil]; done) | (rw [he, List.append_nil]; rfl)
         · rw [he, List.append_nil]; exact hM.1)

set_option maxHeartbeats 1000000 in
theorem foldWord_any (l : List Stp) (lo hi : Nat) (v : Value) (w : World) (hv : RdM w lo hi v l) (hlen : l.length ≤ 4000) :
    Calls Try.prog 59 #[v, .slice none 0 0, .func (.func 60) #[] #[]] w fun e w' => ∃ A c, e = .returned (.slice A (wordAt l l.length).length c) ∧ RdS w' w.heap.size w'.heap.size (.slice A (wordAt l l.length).length c) (wordAt l l.length) ∧ Below w.heap.size w w' := by
  obtain ⟨A, c, rfl, hc, hm⟩ := hv.form
  have hent := ent_word1
  unfold Ent at hent
  have HV := Lib.hid hv
  clear hv
  have M : Hid (Mem [Loc.owS w.heap.size 0 (.slice none 0 0) [], Loc.bl w.heap.size w] w) := Lib.hid ⟨Own.nil _ _ _, ⟨Below.refl _ _, Nat.le_refl _⟩, True.intro⟩
  refine calls_cps fun R hR => ?_
  have HR := Lib.hid hR
  clear hR
  go_enter Try.func59, Try.ntmps59
  go_wp2_with fail
  go_loopw [11, 1, 8] (fun v11 v1 _ wr => ∃ (k : Nat) (B : Option Addr) (d hh : Nat), k ≤ l.length ∧ v11 = .int .i64 k ∧ v1 = .slice B (wordAt l k).length d ∧ hh ≤ wr.heap.size ∧ Hid (Mem [Loc.owS w.heap.size hh (.slice B (wordAt l k).length d) (wordAt l k), Loc.bl w.heap.size w] wr)) (fun v11 _ _ _ => l.length - (intOf v11).toNat)
  case atStart => exact ⟨0, none, 0, 0, by omega, rfl, rfl, by omega, M⟩
  case round =>
    clear M
    obtain ⟨k, B, d, hh, hk, rfl, rfl, hhs, M⟩ := hrel
    by_cases hlt : k < l.length
    · obtain ⟨b, off, rfl, _, _, hcell⟩ := RdM.at3 (HV.out.after M.out.2.1.1) hlt
      have HWA : Hid (wordAt l (k + 1) = wordAt l k ++ wordOf (gti l k)) := Lib.hid rfl
      have hwl := wordAt_len l k
      generalize wordAt l k = cur at *
      generalize gti l k = x at *
      have HX := Lib.hid (fun (W : World) (hh2 : hh ≤ W.heap.size) (h : Mem [Loc.owS w.heap.size hh (.slice B cur.length d) cur, Loc.bl w.heap.size w] W) => word1_any w cur x B d hh W h (by omega) hh2)
      obtain ⟨kd, tr, ac⟩ := x
      simp only at hcell
      replace M : Hid (Mem [Loc.owS w.heap.size hh (.slice B cur.length d) cur, Loc.bl w.heap.size w] (wr.alloc (.cells #[.int .i64 kd, .int .i64 tr, .string ac] 57))) := Lib.hid (M.out.alloc _)
      have hk3 := K3.new wr (.int .i64 kd) (.int .i64 tr) (.string ac) 57
      go_wp2_with fail
      refine (HX.out _ (by simp; omega) M.out).mono ?_
      rintro e w1 ⟨A1, c1, hh1, rfl, hM1, hh2⟩
      rw [← HWA.out] at hM1
      replace M := Lib.hid hM1
      clear hM1
      go_wp2_with fail
      refine ⟨⟨k + 1, A1, c1, hh1, by omega, by go_num, by rw [HWA.out, List.length_append], hh2, M⟩, by simp [intOf]; omega⟩
    · obtain rfl : k = l.length := by omega
      go_wp2_with fail
      exact HR.out _ _ ⟨B, d, rfl, M.out.1.rd.mono (Nat.le_refl _) hhs, M.out.2.1.1⟩

set_option maxHeartbeats 1000000 in
theorem Word_any (l : List Stp) (lo hi : Nat) (v : Value) (w : World) (hv : RdM w lo hi v l) :
    Calls Try.prog 16 #[v] w (RetS w (wordE l)) := by
  have HV := Lib.hid hv
  obtain ⟨A, cc, rfl, hc, hm⟩ := hv.form
  clear hv
  obtain ⟨y, hy⟩ : ∃ y, fineB l = y := ⟨_, rfl⟩
  have HY := Lib.hid hy
  have HCE : Hid (wordE l = if y then (wordAt l l.length, 0) else ([], 1)) := Lib.hid (by rw [wordE, hy])
  clear hy
  have M : Hid (Mem [Loc.bl w.heap.size w] w) := Lib.hid ⟨⟨Below.refl _ _, Nat.le_refl _⟩, True.intro⟩
  cases y
  all_goals
    refine calls_cps fun R hR => ?_
    have HR := Lib.hid hR
    clear hR
    go_enter Try.func16, Try.ntmps16
    go_wp2_with (first
      | (go_at_call 53; refine (fine_is HY.out lo hi _ _ (HV.out.after M.out.1.1)).mono ?_; rintro e w1 ⟨rfl, hb1⟩; replace M := Lib.hid (M.out.below hb1); clear hb1; skip)
      | (go_at_call 59; refine (foldWord_any l lo hi _ _ (HV.out.after M.out.1.1) (fineB_len HY.out)).mono ?_; rintro e w7 ⟨A7, c7, rfl, hr7, hb7⟩; have HR7 := Lib.hid hr7; have hz7 := M.out.1.2; replace M := Lib.hid (M.out.below hb7); clear hb7 hr7))
  · exact HR.out _ _ (RetS.nil (by rw [HCE.out]; rfl) M.out.1.1)
  · exact HR.out _ _ (RetS.mk (by rw [HCE.out]; rfl) rfl HR7.out hz7 (Nat.le_refl _) M.out.1.1)

set_option maxHeartbeats 2000000 in
theorem rWord_any (l : List Stp) (lo hi : Nat) (v : Value) (w : World) (hv : RdM w lo hi v l) :
    Calls Try.prog 17 #[v] w (RetS w (wordE l)) := by
  have HV := Lib.hid hv
  obtain ⟨A, cc, rfl, hc, hm⟩ := hv.form
  clear hv
  obtain ⟨y, hy⟩ : ∃ y, fineB l = y := ⟨_, rfl⟩
  have HY := Lib.hid hy
  have HCE : Hid (wordE l = if y then (wordAt l l.length, 0) else ([], 1)) := Lib.hid (by rw [wordE, hy])
  clear hy
  have M : Hid (Mem [Loc.bl w.heap.size w] w) := Lib.hid ⟨⟨Below.refl _ _, Nat.le_refl _⟩, True.intro⟩
  cases y
  all_goals
    refine calls_cps fun R hR => ?_
    have HR := Lib.hid hR
    clear hR
    go_enter Try.func17, Try.ntmps17
    go_wp2_with (go_at_call 57; refine (rFew_is HY.out lo hi _ _ (HV.out.after M.out.1.1)).mono ?_; rintro e w1 ⟨rfl, hb1⟩; replace M := Lib.hid (M.out.below hb1); clear hb1; skip)
  · exact HR.out _ _ (RetS.nil (by rw [HCE.out]; rfl) M.out.1.1)
  have hlen := fineB_len HY.out
  go_loopw [5, 4] (fun v5 v4 wr => ∃ (k : Nat) (B : Option Addr) (d hh : Nat), k ≤ l.length ∧ v5 = .int .i64 k ∧ v4 = .slice B (wordAt l k).length d ∧ hh ≤ wr.heap.size ∧ Hid (Mem [Loc.owS w.heap.size hh (.slice B (wordAt l k).length d) (wordAt l k), Loc.bl w.heap.size w] wr)) (fun v5 _ _ => l.length - (intOf v5).toNat)
  case atStart => exact ⟨0, none, 0, 0, by omega, rfl, rfl, by omega, Lib.hid ⟨Own.nil _ _ _, M.out.1, True.intro⟩⟩
  case round =>
    clear M
    obtain ⟨k, B, d, hh, hk, rfl, rfl, hhs, M⟩ := hrel
    by_cases hlt : k < l.length
    · obtain ⟨b, off, rfl, _, _, hcell⟩ := RdM.at3 (HV.out.after M.out.2.1.1) hlt
      have HWA : Hid (wordAt l (k + 1) = wordAt l k ++ wordOf (gti l k)) := Lib.hid rfl
      have hwl := wordAt_len l k
      have hws := M.out.2.1.2
      generalize wordAt l k = cur at *
      generalize gti l k = x at *
      obtain ⟨kd, tr, ac⟩ := x
      simp only at hcell
      have HWO : Hid (wordOf ⟨kd, tr, ac⟩ = if kd = 1 ∨ kd = 2 then [ac] else []) := Lib.hid rfl
      have hca := (id hcell)
      go_wp2_with (at_builtin; refine wpList_app rfl _ _ rfl ti_string (fun _ => rfl) oneS rfl rfl (M.out.alloc _) (by (repeat' (first | exact True.intro | refine And.intro (fun k hk e => ?_) ?_)) <;> (first | exact e | ((try dsimp only [Loc.c1, Loc.c2, Loc.k1, Loc.k2, Loc.k3, Loc.k4, Loc.k6, Loc.fr, Loc.bl, Loc.own, Loc.sz, Loc.rd, Loc.rdI, Loc.rdS, Loc.rdM, Loc.rdT, Loc.ow, Loc.owI, Loc.owS] at hk e) <;> omega))) (Rd.lit1S _ _ _) (by first | omega | (simp; done) | (simp; omega)) (by first | omega | (simp; done) | (simp; omega)) (by first | omega | (simp; done) | (simp; omega)) ?_; intro A1 c1 w1 hM1 hs1 hch1; replace M := Lib.hid hM1; clear hM1 hch1; (try simp only [World.size_alloc] at hs1))
      all_goals have hwo := HWO.out
      all_goals have hM := M.out
      all_goals first
        | (have he : wordOf ⟨kd, tr, ac⟩ = [ac] := by clear HWO; go_light; grind
           have hA := HWA.out
           rw [he] at hA
           have hl1 : (wordAt l (k + 1)).length = cur.length + [ac].length := by rw [hA, List.length_append]
           rw [← hA, ← hl1] at hM
           refine ⟨⟨k + 1, A1, c1, w1.heap.size, by omega, by go_num, by first | (rw [hl1]; done) | (rw [hl1]; rfl), Nat.le_refl _, Lib.hid hM⟩, by simp [intOf]; omega⟩)
        | (have he : wordOf ⟨kd, tr, ac⟩ = [] := by clear HWO; go_light; grind
           have hA := HWA.out
           rw [he, List.append_nil] at hA
           rw [← hA] at hM
           refine ⟨⟨k + 1, B, d, hh, by omega, by go_num, by rw [hA], hhs, Lib.hid hM⟩, by simp [intOf]; omega⟩)
    · obtain rfl : k = l.length := by omega
      go_wp2_with fail
      exact HR.out _ _ (RetS.mk (by rw [HCE.out]; rfl) rfl M.out.1.rd (Nat.le_refl _) hhs M.out.2.1.1)

def runOf (m : Stp) : List Int := if m.kind ≠ 2 then [m.trans] else []
def runAt (l : List Stp) : Nat → List Int
  | 0 => []
  | k + 1 => runAt l k ++ runOf (gti l k)
theorem runOf_len (m : Stp) : (runOf m).length ≤ 1 := by unfold runOf; split <;> simp
theorem runAt_len (l : List Stp) : ∀ k, (runAt l k).length ≤ k
  | 0 => by simp [runAt]
  | k + 1 => by
    have := runAt_len l k
    have := runOf_len (gti l k)
    simp only [runAt, List.length_append]
    omega
def runE (l : List Stp) : List Int × Int := if fineB l then (runAt l l.length, 0) else ([], 1)
theorem ent_run1 : Ent 62 := ent_of Try.func62 (by kernel_rfl) rfl

set_option maxHeartbeats 1000000 in
theorem run1_any (w0 : World) (cur : List Int) (m : Stp) (B : Option Addr) (d hh : Nat) (W : World) (hM : Mem [Loc.owI w0.heap.size hh (.slice B cur.length d) cur, Loc.bl w0.heap.size w0] W) (hl : cur.length ≤ 1000000) (hh2 : hh ≤ W.heap.size) :
    Calls Try.prog 62 #[.slice B cur.length d, stpM m] W fun e W' => ∃ A c hh', e = .returned (.slice A (cur ++ runOf m).length c) ∧ Mem [Loc.owI w0.heap.size hh' (.slice A (cur ++ runOf m).length c) (cur ++ runOf m), Loc.bl w0.heap.size w0] W' ∧ hh' ≤ W'.heap.size := by
  obtain ⟨kd, tr, ac⟩ := m
  have HWO : Hid (runOf ⟨kd, tr, ac⟩ = if kd ≠ 2 then [tr] else []) := Lib.hid rfl
  have hcs : kd = 2 ∨ kd ≠ 2 := by omega
  rcases hcs with rfl | hk2
  · have M : Hid (Mem [Loc.owI w0.heap.size hh (.slice B cur.length d) cur, Loc.k3 W.heap.size (.int .i64 2) (.int .i64 tr) (.string ac), Loc.bl w0.heap.size w0] (W.alloc (.cells #[.int .i64 2, .int .i64 tr, .string ac] 57))) := Lib.hid ⟨(hM.alloc _).1, K3.new W _ _ _ _, (hM.alloc _).2⟩
    have hk3 := M.out.2.1
    have hws := hM.2.1.2
    clear hM
    refine calls_cps fun R hR => ?_
    have HR := Lib.hid hR
    clear hR
    go_enter Try.func62, Try.ntmps62
    go_wp2_with (at_builtin; refine wpList_app rfl _ _ rfl ti_int (fun _ => rfl) oneI rfl rfl (M.out.alloc _) (by (repeat' (first | exact True.intro | refine And.intro (fun k hk e => ?_) ?_)) <;> (first | exact e | ((try dsimp only [Loc.c1, Loc.c2, Loc.k1, Loc.k2, Loc.k3, Loc.k4, Loc.k6, Loc.fr, Loc.bl, Loc.own, Loc.sz, Loc.rd, Loc.rdI, Loc.rdS, Loc.rdM, Loc.rdT, Loc.ow, Loc.owI, Loc.owS] at hk e) <;> omega))) (RdI.lit1E _ _ _ _ (by simp)) (by first | omega | (simp; done) | (simp; omega)) (by first | omega | (simp; done) | (simp; omega)) (by first | omega | (simp; done) | (simp; omega)) ?_; intro A1 c1 w1 hM1 hs1 hch1; replace M := Lib.hid hM1; clear hM1 hch1; (try simp only [World.size_alloc] at hs1))
    all_goals have hwo := HWO.out
    all_goals first
      | (have he : runOf ⟨2, tr, ac⟩ = [tr] := by clear HWO; go_light; grind
         have hM := M.out
         refine HR.out _ _ ⟨A1, c1, w1.heap.size, ?_, ⟨?_, hM.2.2⟩, Nat.le_refl _⟩
         · first | (rw [he, List.length_append]; done) | (rw [he, List.length_append]; rfl)
         · rw [he, List.length_append]; exact hM.1)
      | (have he : runOf ⟨2, tr, ac⟩ = [] := by clear HWO; go_light; grind
         have hM := M.out
         refine HR.out _ _ ⟨B, d, hh, ?_, ⟨?_, hM.2.2⟩, by simp; omega⟩
         · first | (rw [he, List.append_nil]; done) | (rw [he, List.append_nil]; rfl)
         · rw [he, List.append_nil]; exact hM.1)
  · have M : Hid (Mem [Loc.owI w0.heap.size hh (.slice B cur.length d) cur, Loc.k3 W.heap.size (.int .i64 kd) (.int .i64 tr) (.string ac), Loc.bl w0.heap.size w0] (W.alloc (.cells #[.int .i64 kd, .int .i64 tr, .string ac] 57))) := Lib.hid ⟨(hM.alloc _).1, K3.new W _ _ _ _, (hM.alloc _).2⟩
    have hk3 := M.out.2.1
    have hws := hM.2.1.2
    clear hM
    refine calls_cps fun R hR => ?_
    have HR := Lib.hid hR
    clear hR
    go_enter Try.func62, Try.ntmps62
    go_wp2_with (at_builtin; refine wpList_app rfl _ _ rfl ti_int (fun _ => rfl) oneI rfl rfl (M.out.alloc _) (by (repeat' (first | exact True.intro | refine And.intro (fun k hk e => ?_) ?_)) <;> (first | exact e | ((try dsimp only [Loc.c1, Loc.c2, Loc.k1, Loc.k2, Loc.k3, Loc.k4, Loc.k6, Loc.fr, Loc.bl, Loc.own, Loc.sz, Loc.rd, Loc.rdI, Loc.rdS, Loc.rdM, Loc.rdT, Loc.ow, Loc.owI, Loc.owS] at hk e) <;> omega))) (RdI.lit1E _ _ _ _ (by simp)) (by first | omega | (simp; done) | (simp; omega)) (by first | omega | (simp; done) | (simp; omega)) (by first | omega | (simp; done) | (simp; omega)) ?_; intro A1 c1 w1 hM1 hs1 hch1; replace M := Lib.hid hM1; clear hM1 hch1; (try simp only [World.size_alloc] at hs1))
    all_goals have hwo := HWO.out
    all_goals first
      | (have he : runOf ⟨kd, tr, ac⟩ = [tr] := by clear HWO; go_light; grind
         have hM := M.out
         refine HR.out _ _ ⟨A1, c1, w1.heap.size, ?_, ⟨?_, hM.2.2⟩, Nat.le_refl _⟩
         · first | (rw [he, List.length_append]; done) | (rw [he, List.length_append]; rfl)
         · rw [he, List.length_append]; exact hM.1)
      | (have he : runOf ⟨kd, tr, ac⟩ = [] := by clear HWO; go_light; grind
         have hM := M.out
         refine HR.out _ _ ⟨B, d, hh, ?_, ⟨?_, hM.2.2⟩, by simp; omega⟩
         · first | (rw [he, List.append_nil]; done) | (rw [he, List.append_nil]; rfl)
         · rw [he, List.append_nil]; exact hM.1)

set_option maxHeartbeats 1000000 in
theorem foldRun_any (l : List Stp) (lo hi : Nat) (v : Value) (w : World) (hv : RdM w lo hi v l) (hlen : l.length ≤ 4000) :
    Calls Try.prog 61 #[v, .slice none 0 0, .func (.func 62) #[] #[]] w fun e w' => ∃ A c, e = .returned (.slice A (runAt l l.length).length c) ∧ RdI w' w.heap.size w'.heap.size (.slice A (runAt l l.length).length c) (runAt l l.length) ∧ Below w.heap.size w w' := by
  obtain ⟨A, c, rfl, hc, hm⟩ := hv.form
  have hent := ent_run1
  unfold Ent at hent
  have HV := Lib.hid hv
  clear hv
  have M : Hid (Mem [Loc.owI w.heap.size 0 (.slice none 0 0) [], Loc.bl w.heap.size w] w) := Lib.hid ⟨Own.nil _ _ _, ⟨Below.refl _ _, Nat.le_refl _⟩, True.intro⟩
  refine calls_cps fun R hR => ?_
  have HR := Lib.hid hR
  clear hR
  go_enter Try.func61, Try.ntmps61
  go_wp2_with fail
  go_loopw [11, 1, 8] (fun v11 v1 _ wr => ∃ (k : Nat) (B : Option Addr) (d hh : Nat), k ≤ l.length ∧ v11 = .int .i64 k ∧ v1 = .slice B (runAt l k).length d ∧ hh ≤ wr.heap.size ∧ Hid (Mem [Loc.owI w.heap.size hh (.slice B (runAt l k).length d) (runAt l k), Loc.bl w.heap.size w] wr)) (fun v11 _ _ _ => l.length - (intOf v11).toNat)
  case atStart => exact ⟨0, none, 0, 0, by omega, rfl, rfl, by omega, M⟩
  case round =>
    clear M
    obtain ⟨k, B, d, hh, hk, rfl, rfl, hhs, M⟩ := hrel
    by_cases hlt : k < l.length
    · obtain ⟨b, off, rfl, _, _, hcell⟩ := RdM.at3 (HV.out.after M.out.2.1.1) hlt
      have HWA : Hid (runAt l (k + 1) = runAt l k ++ runOf (gti l k)) := Lib.hid rfl
      have hwl := runAt_len l k
      generalize runAt l k = cur at *
      generalize gti l k = x at *
      have HX := Lib.hid (fun (W : World) (hh2 : hh ≤ W.heap.size) (h : Mem [Loc.owI w.heap.size hh (.slice B cur.length d) cur, Loc.bl w.heap.size w] W) => run1_any w cur x B d hh W h (by omega) hh2)
      obtain ⟨kd, tr, ac⟩ := x
      simp only at hcell
      replace M : Hid (Mem [Loc.owI w.heap.size hh (.slice B cur.length d) cur, Loc.bl w.heap.size w] (wr.alloc (.cells #[.int .i64 kd, .int .i64 tr, .string ac] 57))) := Lib.hid (M.out.alloc _)
      have hk3 := K3.new wr (.int .i64 kd) (.int .i64 tr) (.string ac) 57
      go_wp2_with fail
      refine (HX.out _ (by simp; omega) M.out).mono ?_
      rintro e w1 ⟨A1, c1, hh1, rfl, hM1, hh2⟩
      rw [← HWA.out] at hM1
      replace M := Lib.hid hM1
      clear hM1
      go_wp2_with fail
      refine ⟨⟨k + 1, A1, c1, hh1, by omega, by go_num, by rw [HWA.out, List.length_append], hh2, M⟩, by simp [intOf]; omega⟩
    · obtain rfl : k = l.length := by omega
      go_wp2_with fail
      exact HR.out _ _ ⟨B, d, rfl, M.out.1.rd.mono (Nat.le_refl _) hhs, M.out.2.1.1⟩

set_option maxHeartbeats 1000000 in
theorem Run_any (l : List Stp) (lo hi : Nat) (v : Value) (w : World) (hv : RdM w lo hi v l) :
    Calls Try.prog 18 #[v] w (RetI w (runE l)) := by
  have HV := Lib.hid hv
  obtain ⟨A, cc, rfl, hc, hm⟩ := hv.form
  clear hv
  obtain ⟨y, hy⟩ : ∃ y, fineB l = y := ⟨_, rfl⟩
  have HY := Lib.hid hy
  have HCE : Hid (runE l = if y then (runAt l l.length, 0) else ([], 1)) := Lib.hid (by rw [runE, hy])
  clear hy
  have M : Hid (Mem [Loc.bl w.heap.size w] w) := Lib.hid ⟨⟨Below.refl _ _, Nat.le_refl _⟩, True.intro⟩
  cases y
  all_goals
    refine calls_cps fun R hR => ?_
    have HR := Lib.hid hR
    clear hR
    go_enter Try.func18, Try.ntmps18
    go_wp2_with (first
      | (go_at_call 53; refine (fine_is HY.out lo hi _ _ (HV.out.after M.out.1.1)).mono ?_; rintro e w1 ⟨rfl, hb1⟩; replace M := Lib.hid (M.out.below hb1); clear hb1; skip)
      | (go_at_call 61; refine (foldRun_any l lo hi _ _ (HV.out.after M.out.1.1) (fineB_len HY.out)).mono ?_; rintro e w7 ⟨A7, c7, rfl, hr7, hb7⟩; have HR7 := Lib.hid hr7; have hz7 := M.out.1.2; replace M := Lib.hid (M.out.below hb7); clear hb7 hr7))
  · exact HR.out _ _ (RetI.nil (by rw [HCE.out]; rfl) M.out.1.1)
  · exact HR.out _ _ (RetI.mk (by rw [HCE.out]; rfl) rfl HR7.out hz7 (Nat.le_refl _) M.out.1.1)

set_option maxHeartbeats 2000000 in
theorem rRun_any (l : List Stp) (lo hi : Nat) (v : Value) (w : World) (hv : RdM w lo hi v l) :
    Calls Try.prog 19 #[v] w (RetI w (runE l)) := by
  have HV := Lib.hid hv
  obtain ⟨A, cc, rfl, hc, hm⟩ := hv.form
  clear hv
  obtain ⟨y, hy⟩ : ∃ y, fineB l = y := ⟨_, rfl⟩
  have HY := Lib.hid hy
  have HCE : Hid (runE l = if y then (runAt l l.length, 0) else ([], 1)) := Lib.hid (by rw [runE, hy])
  clear hy
  have M : Hid (Mem [Loc.bl w.heap.size w] w) := Lib.hid ⟨⟨Below.refl _ _, Nat.le_refl _⟩, True.intro⟩
  cases y
  all_goals
    refine calls_cps fun R hR => ?_
    have HR := Lib.hid hR
    clear hR
    go_enter Try.func19, Try.ntmps19
    go_wp2_with (go_at_call 57; refine (rFew_is HY.out lo hi _ _ (HV.out.after M.out.1.1)).mono ?_; rintro e w1 ⟨rfl, hb1⟩; replace M := Lib.hid (M.out.below hb1); clear hb1; skip)
  · exact HR.out _ _ (RetI.nil (by rw [HCE.out]; rfl) M.out.1.1)
  have hlen := fineB_len HY.out
  go_loopw [5, 4] (fun v5 v4 wr => ∃ (k : Nat) (B : Option Addr) (d hh : Nat), k ≤ l.length ∧ v5 = .int .i64 k ∧ v4 = .slice B (runAt l k).length d ∧ hh ≤ wr.heap.size ∧ Hid (Mem [Loc.owI w.heap.size hh (.slice B (runAt l k).length d) (runAt l k), Loc.bl w.heap.size w] wr)) (fun v5 _ _ => l.length - (intOf v5).toNat)
  case atStart => exact ⟨0, none, 0, 0, by omega, rfl, rfl, by omega, Lib.hid ⟨Own.nil _ _ _, M.out.1, True.intro⟩⟩
  case round =>
    clear M
    obtain ⟨k, B, d, hh, hk, rfl, rfl, hhs, M⟩ := hrel
    by_cases hlt : k < l.length
    · obtain ⟨b, off, rfl, _, _, hcell⟩ := RdM.at3 (HV.out.after M.out.2.1.1) hlt
      have HWA : Hid (runAt l (k + 1) = runAt l k ++ runOf (gti l k)) := Lib.hid rfl
      have hwl := runAt_len l k
      have hws := M.out.2.1.2
      generalize runAt l k = cur at *
      generalize gti l k = x at *
      obtain ⟨kd, tr, ac⟩ := x
      simp only at hcell
      have HWO : Hid (runOf ⟨kd, tr, ac⟩ = if kd ≠ 2 then [tr] else []) := Lib.hid rfl
      have hca := (id hcell)
      go_wp2_with (at_builtin; refine wpList_app rfl _ _ rfl ti_int (fun _ => rfl) oneI rfl rfl (M.out.alloc _) (by (repeat' (first | exact True.intro | refine And.intro (fun k hk e => ?_) ?_)) <;> (first | exact e | ((try dsimp only [Loc.c1, Loc.c2, Loc.k1, Loc.k2, Loc.k3, Loc.k4, Loc.k6, Loc.fr, Loc.bl, Loc.own, Loc.sz, Loc.rd, Loc.rdI, Loc.rdS, Loc.rdM, Loc.rdT, Loc.ow, Loc.owI, Loc.owS] at hk e) <;> omega))) (RdI.lit1 _ _ _) (by first | omega | (simp; done) | (simp; omega)) (by first | omega | (simp; done) | (simp; omega)) (by first | omega | (simp; done) | (simp; omega)) ?_; intro A1 c1 w1 hM1 hs1 hch1; replace M := Lib.hid hM1; clear hM1 hch1; (try simp only [World.size_alloc] at hs1))
      all_goals have hwo := HWO.out
      all_goals have hM := M.out
      all_goals first
        | (have he : runOf ⟨kd, tr, ac⟩ = [tr] := by clear HWO; go_light; grind
           have hA := HWA.out
           rw [he] at hA
           have hl1 : (runAt l (k + 1)).length = cur.length + [tr].length := by rw [hA, List.length_append]
           rw [← hA, ← hl1] at hM
           refine ⟨⟨k + 1, A1, c1, w1.heap.size, by omega, by go_num, by first | (rw [hl1]; done) | (rw [hl1]; rfl), Nat.le_refl _, Lib.hid hM⟩, by simp [intOf]; omega⟩)
        | (have he : runOf ⟨kd, tr, ac⟩ = [] := by clear HWO; go_light; grind
           have hA := HWA.out
           rw [he, List.append_nil] at hA
           rw [← hA] at hM
           refine ⟨⟨k + 1, B, d, hh, by omega, by go_num, by rw [hA], hhs, Lib.hid hM⟩, by simp [intOf]; omega⟩)
    · obtain rfl : k = l.length := by omega
      go_wp2_with fail
      exact HR.out _ _ (RetI.mk (by rw [HCE.out]; rfl) rfl M.out.1.rd (Nat.le_refl _) hhs M.out.2.1.1)
end Go.Proofs.Ytamhbmaimiifmaa
