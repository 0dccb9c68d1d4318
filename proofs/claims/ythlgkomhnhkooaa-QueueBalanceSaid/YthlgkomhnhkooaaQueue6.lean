/-
  Walks of casebook/queue: chain. Conditions: none.
-/
import Derived.Test.YthlgkomhnhkooaaQueue4
import Derived.Test.YthlgkomhnhkooaaQueue5
import Derived.Test.YthlgkomhnhkooaaTail
namespace Go.Proofs.Ythlgkomhnhkooaa
set_option linter.unusedSimpArgs false
set_option linter.unusedVariables false
open Go.RowKit

/-- the outer loop's memory and state -/
def CO (cb nb qb hb N : Nat) (w : World) (ar se no : Fr) (sv cp n : Nat) (outV bV : Value) (b : List (List Fr)) (W : World) : Prop :=
  ∃ x us ll, K1 W cb (.int .i64 x) ∧ K2 W nb (.int .i64 no.n) (.int .i64 no.d) ∧ K6 W qb (.int .i64 ar.n) (.int .i64 ar.d) (.int .i64 se.n) (.int .i64 se.d) (.int .i64 sv) (.int .i64 cp) ∧ RdFF W (qb + 1) hb bV b ∧ Off cb N w W ∧
    W.ownsRow (nb + 1) 27 1 outV n us ∧ All2 W (nb + 1) W.heap.size us ll ∧ nb < W.heap.size ∧ ChR ar se sv cp b no n ll x

set_option maxRecDepth 100000 in
set_option maxHeartbeats 8000000 in
theorem chain_any (ar se : Fr) (sv cp : Nat) (cb : Nat) (w : World) (hc : K1 w cb (.int .i64 0)) (har : ar.ok) (hse : se.ok) (hsv : 1 ≤ sv ∧ sv ≤ 8) (hcp : sv ≤ cp ∧ cp ≤ 15) :
    Calls Try.prog 60 #[.pointer (some ⟨cb, 0, none⟩), .agg #[.int .i64 ar.n, .int .i64 ar.d, .int .i64 se.n, .int .i64 se.d, .int .i64 sv, .int .i64 cp]] w fun e w' =>
      ∃ v vb ll b x, e = .returned (.tuple #[v, vb]) ∧ K1 w' cb (.int .i64 x) ∧ Off cb w.heap.size w w' ∧ RdFF w' w.heap.size w'.heap.size v ll ∧ RdFF w' w.heap.size w'.heap.size vb b ∧ ChE ar se sv cp ll b x := by
  refine calls_cps fun R hR => ?_
  have HR := Lib.hid hR
  clear hR
  have hcb := hc.2.2
  have lt0 : cb < w.heap.size + 1 := by omega
  go_enter Try.func60, Try.ntmps60
  go_wp2_with fail
  have q0 := K6.new w (.int .i64 ar.n) (.int .i64 ar.d) (.int .i64 se.n) (.int .i64 se.d) (.int .i64 sv) (.int .i64 cp) 25
  have o0 : Off cb w.heap.size w (w.alloc (.cells #[.int .i64 ar.n, .int .i64 ar.d, .int .i64 se.n, .int .i64 se.d, .int .i64 sv, .int .i64 cp] 25)) := (Off.refl _ _ _).alloc (Nat.le_refl _) _
  refine (leave_any ar se sv cp cb _ (K1.alloc hc _) hse hsv).mono ?_
  rintro e w1 ⟨bV, b, x1, rfl, c1, ho1, rb1, hE⟩
  replace q0 := K6.oft ho1 q0 (by omega)
  replace o0 := o0.step ho1 (by simp)
  have hz1 := ho1.size
  simp at hz1
  have rb2 : RdFF w1 (w.heap.size + 1) w1.heap.size bV b := by simpa using rb1
  obtain ⟨bA, bc, rfl, hbc, hbl⟩ := rb2.form
  have HE := Lib.hid hE
  have RB := Lib.hid rb2
  clear ho1 rb1 rb2 hE hc lt0
  go_upto_region 2 with (fail)
  obtain ⟨no, hno⟩ : ∃ no, doR x1 (subE oneF ar) = no := ⟨_, rfl⟩
  obtain ⟨x2, hx2⟩ : ∃ x2, doX x1 (subE oneF ar) = x2 := ⟨_, rfl⟩
  have HNO := Lib.hid hno
  have HX2 := Lib.hid hx2
  clear hno hx2
  have c0 := c1
  have hb0 := hz1
  go_cut [7] (fun s7 wx => ∃ nb : Nat, s7 = .pointer (some ⟨nb, 0, none⟩) ∧ w1.heap.size ≤ nb ∧ nb < wx.heap.size ∧ K2 wx nb (.int .i64 no.n) (.int .i64 no.d) ∧ K1 wx cb (.int .i64 x2) ∧ K6 wx w.heap.size (.int .i64 ar.n) (.int .i64 ar.d) (.int .i64 se.n) (.int .i64 se.d) (.int .i64 sv) (.int .i64 cp) ∧ Off cb w.heap.size w wx ∧ RdFF wx (w.heap.size + 1) w1.heap.size (.slice bA b.length bc) b)
  case first =>
    have rb0 := RB.out
    go_region_held3 (fun W => K6 W w.heap.size (.int .i64 ar.n) (.int .i64 ar.d) (.int .i64 se.n) (.int .i64 se.d) (.int .i64 sv) (.int .i64 cp)) (first | exact q0 | exact K6.alloc q0 _ | exact K6.far2 q0 (by omega) _ _) (first | (go_at_call 53; refine (whole_any 1 _).mono ?_; rintro e w3 ⟨rfl, hb3⟩; replace q0 := K6.aft hb3 (by first | exact q0 | exact K6.alloc q0 _); replace c0 := K1.aft hb3 (by first | exact c0 | exact K1.alloc c0 _); (first | have s0 := K2.aft hb3 (K2.newd w1 (.int .i64 0) (.int .i64 0) 23) | skip); replace o0 := Off.stepB (by first | exact o0.drew | exact (o0.alloc (by omega) _).drew) hb3 (by first | omega | (simp; done) | (simp; omega)); replace rb0 := RdFF.after (by first | exact (rb0.after (Below.refl _ _).drew) | exact rb0.after ((Below.refl _ _).alloc (Nat.le_refl _) _).drew) hb3; have hz3 := hb3.size; (try simp at hz3); clear hb3) | (go_at_call 52; refine (do_k 22 ent_sub (subE oneF ar) oneF ar (fun W => sub_any oneF ar W) cb x1 _ (by first | exact c0 | exact K1.alloc c0 _)).mono ?_; rintro e w4 ⟨rfl, hc4, ho4⟩; rw [HNO.out]; rw [HX2.out] at hc4; replace q0 := K6.oft ho4 (by first | exact q0 | exact K6.alloc q0 _) (by omega); (first | replace s0 := K2.oft ho4 s0 (by omega) | have s0 := K2.oft ho4 (K2.new _ (.int .i64 0) (.int .i64 0) 23) (by omega) | skip); replace o0 := Off.step (by first | exact o0 | exact o0.alloc (by omega) _) ho4 (by first | omega | (simp; done) | (simp; omega)); replace rb0 := RdFF.off (by first | exact rb0 | exact rb0.after ((Below.refl _ _).alloc (Nat.le_refl _) _)) ho4 (by omega); have hz4 := ho4.size; (try simp at hz4); clear ho4))
    · go_wp2_with fail
      go_meet
      exact ⟨w4.heap.size, rfl, by omega, by simp, K2.new _ _ _ _, K1.alloc hc4 _, K6.alloc q0 _, o0.alloc (by omega) _, rb0.after ((Below.refl _ _).alloc (Nat.le_refl _) _)⟩
    · go_wp2_with fail
      go_meet
      exact ⟨w3.heap.size, rfl, by omega, by simp; omega, K2.set s0 _ _, K1.far2 hc4 (by omega) _ _, K6.far2 q0 (by omega) _ _, (o0.setCell (Or.inl (by show _ ≤ w3.heap.size; omega)) _).setCell (Or.inl (by show _ ≤ w3.heap.size; omega)) _, rb0.keep (below_set (N := w1.heap.size) (by omega)) (Nat.le_refl _)⟩
    · go_wp2_with fail
      go_meet
      exact ⟨w1.heap.size, rfl, by omega, by simp; omega, K2.set s0 _ _, K1.far2 hc4 (by omega) _ _, K6.far2 q0 (by omega) _ _, (o0.setCell (Or.inl (by show _ ≤ w1.heap.size; omega)) _).setCell (Or.inl (by show _ ≤ w1.heap.size; omega)) _, rb0.keep (below_set (N := w1.heap.size) (by omega)) (Nat.le_refl _)⟩
  case rest =>
    obtain ⟨nb, rfl, hnb1, hnb2, n1, c2, q1, o1, rb1⟩ := hcut
    clear q0 o0 c1 c0 hb0
    have HR1 := Lib.hid rb1
    clear rb1
    have HBLEN := Lib.hid HE.out.1
    go_wp2
    go_loopw [8, 9] (fun v8 v9 wr => ∃ n : Nat, n ≤ cp + 1 ∧ v9 = .int .i64 n ∧ CO cb nb w.heap.size w1.heap.size w.heap.size w ar se no sv cp n v8 (.slice bA b.length bc) b wr) (fun _ v9 _ => cp + 1 - (intOf v9).toNat)
    case atStart =>
      refine ⟨0, by omega, rfl, x2, [], [], c2, n1, q1, HR1.out, o1, World.ownsRow_nil _ _ _ _, ⟨rfl, fun i u l h1 h2 => by simp at h1⟩, hnb2, ?_⟩
      have := ChR.start (cp := cp) har HE.out
      rw [HNO.out, HX2.out] at this
      exact this
    case round =>
      obtain ⟨n, hn, rfl, x, us, ll, c3, n3, q3, rb3, o3, hout, hal, hnb3, hR⟩ := hrel
      have HOUT := Lib.hid hout
      have HAL := Lib.hid hal
      have HRR := Lib.hid hR
      have HRB := Lib.hid rb3
      clear hout hal hR rb3 c2 n1 q1 o1 hnb2
      by_cases hle : n ≤ cp
      · have hni : decide ((n : Int) ≤ (cp : Int)) = true := by simp; omega
        go_wp2_with fail
        refine (zeros_any (cp + 1) _ (by omega)).mono ?_
        rintro e w5 ⟨g, cap, rfl, hgb, hown, hb5⟩
        have L0 : CI cb nb w.heap.size w1.heap.size wr.heap.size w.heap.size w ar se no sv cp n u8 (.slice bA b.length bc) us ll b g cap (List.replicate (cp + 1) zeroF) w5 x :=
          { c := K1.aft hb5 c3, z := K2.aft hb5 n3, q := K6.aft hb5 q3, rb := HRB.out.after hb5, of := o3.stepB hb5 (by omega), out := own_below HOUT.out hb5, ob := fun k hk => (HOUT.out.lt k hk).2, al := HAL.out.after hb5, row := hown, hs := hb5.size, lt := ⟨by omega, by omega, by omega, by omega, by omega, by omega⟩ }
        have HL0 := Lib.hid L0
        have q5 := L0.q
        obtain ⟨j, hj⟩ : ∃ j, min n sv = j := ⟨_, rfl⟩
        have hj1 : j ≤ n ∧ j ≤ sv := by omega
        have hj2 : n ≤ j ∨ sv ≤ j := by omega
        have HJ := Lib.hid hj
        clear L0 hown hb5 c3 n3 q3 o3 HOUT HAL HRB hj
        obtain ⟨wo, rfl⟩ : ∃ wo : World, wo = wr := ⟨_, rfl⟩
        go_upto_region 8 with (fail)
        go_cut [11] (fun s11 wx => s11 = .int .i64 (j : Int) ∧ wx = w5)
        case first =>
          go_wp2_with fail
          all_goals (go_meet; exact ⟨congrArg _ (by omega), rfl⟩)
        case rest =>
          obtain ⟨rfl, rfl⟩ := hcut
          obtain ⟨bj, hbj⟩ : ∃ l, b[j]? = some l := ⟨_, List.getElem?_eq_getElem (by rw [HBLEN.out]; omega)⟩
          have HBJ := Lib.hid hbj
          clear hbj
          go_wp2
          go_loopw [12] (fun v12 wr => ∃ (k : Nat) (x : Int) (row : List Fr), k ≤ j + 1 ∧ v12 = .int .i64 k ∧ CI cb nb w.heap.size w1.heap.size wo.heap.size w.heap.size w ar se no sv cp n u8 (.slice bA b.length bc) us ll b g cap row wr x ∧ ChI ar se sv cp b no n ll bj k row x) (fun v12 _ => j + 1 - (intOf v12).toNat)
          case atStart =>
            refine ⟨0, x, _, by omega, rfl, HL0.out, by simp, ?_⟩
            rcases HRR.out.2.2 with ⟨h1, h2, h3, h4⟩ | h1
            · exact .inl ⟨h1, h2, h3, h4, rfl⟩
            · exact .inr h1
          case round =>
            clear HL0 q5
            obtain ⟨k, x, row, hk, rfl, hL, hI⟩ := hrel
            have HI := Lib.hid hI
            have L := hL
            clear hI hL
            by_cases hkj : k ≤ j
            · have hki : decide ((k : Int) ≤ (j : Int)) = true := by simp; omega
              obtain ⟨low, hlow⟩ : ∃ low, n - k = low := ⟨_, rfl⟩
              obtain ⟨high, hhigh⟩ : ∃ high, min (low + 1) cp = high := ⟨_, rfl⟩
              have hlowi : (n : Int) - (k : Int) = (low : Int) := by omega
              have hb1 : low ≤ cp ∧ high ≤ cp ∧ (low + 1 ≤ high ∨ cp ≤ high) ∧ high ≤ low + 1 := by omega
              have HLOW := Lib.hid hlow
              have HHIGH := Lib.hid hhigh
              clear hlow hhigh
              have q6 := L.q
              go_upto_region 12 with (fail)
              go_cut [13, 14] (fun s13 s14 wx => s13 = .int .i64 (low : Int) ∧ s14 = .int .i64 (high : Int) ∧ ∃ m, wx = wr.drewN m)
              case first =>
                by_cases hlc : (low : Int) + 1 ≤ (cp : Int)
                all_goals
                  go_quiet (fail)
                  go_wp2_with fail
                  go_meet
                  exact ⟨rfl, congrArg _ (by omega), nq, rfl⟩
              case rest =>
                obtain ⟨rfl, rfl, m, rfl⟩ := hcut
                replace L := L.drewN m
                generalize wr.drewN m = W1 at *
                clear q6
                have hrl : row.length = cp + 1 := HI.out.1
                have hkl : k < bj.length := by rw [HE.out.2.1 j bj HBJ.out]; omega
                obtain ⟨bb, boff, u0, hbA, _⟩ := L.rb.at_ HBJ.out
                subst hbA
                obtain ⟨lo1, hi1, A2, c2', f3, rf⟩ := L.rb.at2 HBJ.out
                obtain ⟨b2, off2, rfl, lo2, hi2, f4, f5⟩ := rf.at2 (gt_get hkl)
                obtain ⟨f1, f2, fz1, fz2, _, hig⟩ := own_at L.row (gt_get (i := low) (by omega))
                have n6 := L.z
                have hlt := L.lt
                have hgn : g ≠ cb := by omega
                have hbn : bb ≠ cb := by omega
                have hbn2 : b2 ≠ cb := by omega
                have hnn : nb ≠ cb := by omega
                have hlb : (low : Int) < (cp : Int) + 1 := by omega
                have hjb : (j : Int) < (b.length : Int) := by rw [HBLEN.out]; omega
                have hkb : (k : Int) < (bj.length : Int) := by omega
                have HRL := Lib.hid hrl
                clear hrl rf lo1 hi1 lo2 hi2 hig hkl
                go_upto_region 13 with (fail)
                refine wp_region_tail (S := (fun W => W.cell? ⟨g, low * 2, none⟩ = some (.int .i64 (gt row low).n) ∧ W.cell? ⟨g, low * 2 + 1, none⟩ = some (.int .i64 (gt row low).d) ∧ W.cell? ⟨bb, boff + j, none⟩ = some (.slice (some ⟨b2, off2, none⟩) bj.length c2') ∧ W.cell? ⟨b2, off2 + k * 2, none⟩ = some (.int .i64 (gt bj k).n) ∧ W.cell? ⟨b2, off2 + k * 2 + 1, none⟩ = some (.int .i64 (gt bj k).d) ∧ K2 W nb (.int .i64 no.n) (.int .i64 no.d))) (by kernel_rfl) rfl (by kernel_rfl) (by exact ⟨f1, f2, f3, f4, f5, n6⟩) (fun hHeld => ?_)
                simp only [List.dropLast]
                refine wpAnyH_take (i := 0) (oi := _) (v := ?_) rfl (by kernel_rfl) (by kernel_rfl) (by kernel_rfl) (fun _ _ _ h => h) (Or.inl ⟨by rfl, ?_⟩) (by assumption) ?_
                rotate_left
                · (intro w hSw; (try dsimp only at hSw); go_simp; try (with_reducible rfl))
                simp only [Act.put, List.setIfInBounds_toArray, List.set_cons_zero, List.set_cons_succ]
                refine wpAnyH_take (i := 1) (oi := _) (v := ?_) rfl (by kernel_rfl) (by kernel_rfl) (by kernel_rfl) (fun _ _ _ h => h) (Or.inl ⟨by rfl, ?_⟩) (by assumption) ?_
                rotate_left
                · (intro w hSw; (try dsimp only at hSw); go_simp; try (with_reducible rfl))
                simp only [Act.put, List.setIfInBounds_toArray, List.set_cons_zero, List.set_cons_succ]
                refine wpAnyH_take (i := 2) (oi := _) (v := ?_) rfl (by kernel_rfl) (by kernel_rfl) (by kernel_rfl) (fun _ _ _ h => h) (Or.inl ⟨by rfl, ?_⟩) (by assumption) ?_
                rotate_left
                · (intro w hSw; (try dsimp only at hSw); go_simp; try (with_reducible rfl))
                simp only [Act.put, List.setIfInBounds_toArray, List.set_cons_zero, List.set_cons_succ]
                refine wpAnyH_take (i := 3) (oi := _) (v := ?_) rfl (by kernel_rfl) (by kernel_rfl) (by kernel_rfl) (fun _ _ _ h => h) (Or.inl ⟨by rfl, ?_⟩) (by assumption) ?_
                rotate_left
                · (intro w hSw; (try dsimp only at hSw); go_simp; try (with_reducible rfl))
                simp only [Act.put, List.setIfInBounds_toArray, List.set_cons_zero, List.set_cons_succ]
                refine wpAnyH_take (i := 4) (oi := _) (v := ?_) rfl (by kernel_rfl) (by kernel_rfl) (by kernel_rfl) (fun _ _ _ h => h) (Or.inl ⟨by rfl, ?_⟩) (by assumption) ?_
                rotate_left
                · (intro w hSw; (try dsimp only at hSw); go_simp; try (with_reducible rfl))
                simp only [Act.put, List.setIfInBounds_toArray, List.set_cons_zero, List.set_cons_succ]
                refine wpAnyH_take (i := 5) (oi := _) (v := ?_) rfl (by kernel_rfl) (by kernel_rfl) (by kernel_rfl) (fun _ _ _ h => h) (Or.inl ⟨by rfl, ?_⟩) (by assumption) ?_
                rotate_left
                · (intro w hSw; (try dsimp only at hSw); go_simp; try (with_reducible rfl))
                simp only [Act.put, List.setIfInBounds_toArray, List.set_cons_zero, List.set_cons_succ]
                refine wpAnyH_take (i := 6) (oi := _) (v := ?_) rfl (by kernel_rfl) (by kernel_rfl) (by kernel_rfl) (fun _ _ _ h => h) (Or.inl ⟨by rfl, ?_⟩) (by assumption) ?_
                rotate_left
                · (intro w hSw; (try dsimp only at hSw); go_simp; try (with_reducible rfl))
                simp only [Act.put, List.setIfInBounds_toArray, List.set_cons_zero, List.set_cons_succ]
                refine wpAnyH_take (i := 7) (oi := _) (v := ?_) rfl (by kernel_rfl) (by kernel_rfl) (by kernel_rfl) (fun _ _ _ h => h) (Or.inl ⟨by rfl, ?_⟩) (by assumption) ?_
                rotate_left
                · (intro w hSw; (try dsimp only at hSw); go_simp; try (with_reducible rfl))
                simp only [Act.put, List.setIfInBounds_toArray, List.set_cons_zero, List.set_cons_succ]
                refine wpAnyH_take (i := 8) (oi := _) (v := ?_) rfl (by kernel_rfl) (by kernel_rfl) (by kernel_rfl) (fun _ _ _ h => h) (Or.inl ⟨by rfl, ?_⟩) (by assumption) ?_
                rotate_left
                · (intro w hSw; (try dsimp only at hSw); go_simp; try (with_reducible rfl))
                simp only [Act.put, List.setIfInBounds_toArray, List.set_cons_zero, List.set_cons_succ]
                refine wpAnyH_take (i := 9) (oi := _) (v := ?_) rfl (by kernel_rfl) (by kernel_rfl) (by kernel_rfl) (fun _ _ _ h => h) (Or.inl ⟨by rfl, ?_⟩) (by assumption) ?_
                rotate_left
                · (intro w hSw; (try dsimp only at hSw); go_simp; try (with_reducible rfl))
                simp only [Act.put, List.setIfInBounds_toArray, List.set_cons_zero, List.set_cons_succ]
                refine wpAnyH_take (i := 10) (oi := _) (v := ?_) rfl (by kernel_rfl) (by kernel_rfl) (by kernel_rfl) (fun _ _ _ h => h) (Or.inl ⟨by rfl, ?_⟩) (by assumption) ?_
                rotate_left
                · (intro w hSw; (try dsimp only at hSw); go_simp; try (with_reducible rfl))
                simp only [Act.put, List.setIfInBounds_toArray, List.set_cons_zero, List.set_cons_succ]
                refine wpAnyH_take (i := 11) (oi := _) (v := ?_) rfl (by kernel_rfl) (by kernel_rfl) (by kernel_rfl) (fun _ _ _ h => h) (Or.inl ⟨by rfl, ?_⟩) (by assumption) ?_
                rotate_left
                · (intro w hSw; (try dsimp only at hSw); go_simp; try (with_reducible rfl))
                simp only [Act.put, List.setIfInBounds_toArray, List.set_cons_zero, List.set_cons_succ]
                refine wpAnyH_take (i := 12) (oi := _) (v := ?_) rfl (by kernel_rfl) (by kernel_rfl) (by kernel_rfl) (fun _ _ _ h => h) (Or.inl ⟨by rfl, ?_⟩) (by assumption) ?_
                rotate_left
                · (intro w hSw; (try dsimp only at hSw); go_simp; try (with_reducible rfl))
                simp only [Act.put, List.setIfInBounds_toArray, List.set_cons_zero, List.set_cons_succ]
                refine wpAnyH_take (i := 13) (oi := _) (v := ?_) rfl (by kernel_rfl) (by kernel_rfl) (by kernel_rfl) (fun _ _ _ h => h) (Or.inl ⟨by rfl, ?_⟩) (by assumption) ?_
                rotate_left
                · (intro w hSw; (try dsimp only at hSw); go_simp; try (with_reducible rfl))
                simp only [Act.put, List.setIfInBounds_toArray, List.set_cons_zero, List.set_cons_succ]
                refine wpAnyH_take (i := 14) (oi := _) (v := ?_) rfl (by kernel_rfl) (by kernel_rfl) (by kernel_rfl) (fun _ _ _ h => h) (Or.inl ⟨by rfl, ?_⟩) (by assumption) ?_
                rotate_left
                · (intro w hSw; (try dsimp only at hSw); go_simp; try (with_reducible rfl))
                simp only [Act.put, List.setIfInBounds_toArray, List.set_cons_zero, List.set_cons_succ]
                refine wpAnyH_take (i := 15) (oi := _) (v := ?_) rfl (by kernel_rfl) (by kernel_rfl) (by kernel_rfl) (fun _ _ _ h => h) (Or.inl ⟨by rfl, ?_⟩) (by assumption) ?_
                rotate_left
                · (intro w hSw; (try dsimp only at hSw); go_simp; try (with_reducible rfl))
                simp only [Act.put, List.setIfInBounds_toArray, List.set_cons_zero, List.set_cons_succ]
                refine wpAnyH_ready (rs := [16]) (by kernel_rfl) (by simp) ?_
                refine AllReadyH.cons (o := _) rfl (fun K hK => ?_) AllReadyH.nil
                go_simp
                refine (do_k 23 ent_mul (mulE (gt bj k) no) (gt bj k) no (fun W => mul_any _ _ W) cb x _ (by exact L.drew.c)).mono ?_; rintro e w6 ⟨rfl, hc6, ho6⟩; replace L := L.drew.off ho6 hc6; replace f1 := cell_oft ho6 f1 hgn; replace f2 := cell_oft ho6 f2 hgn; replace f3 := cell_oft ho6 f3 hbn; replace f4 := cell_oft ho6 f4 hbn2; replace f5 := cell_oft ho6 f5 hbn2; replace n6 := K2.oft ho6 n6 hnn; clear ho6 hc6
                (try go_wp2_with fail)
                refine hK.out _ _ ?_ (fun hHeld => ?_)
                · exact ⟨f1, f2, f3, f4, f5, n6⟩
                clear hK K
                try simp only [Act.put, List.setIfInBounds_toArray, List.set_cons_zero, List.set_cons_succ]
                refine wpAnyH_ready (rs := [17]) (by kernel_rfl) (by simp) ?_
                refine AllReadyH.cons (o := _) rfl (fun K hK => ?_) AllReadyH.nil
                go_simp
                refine (do_k 57 ent_add (addE (gt row low) (doR x (mulE (gt bj k) no))) (gt row low) (doR x (mulE (gt bj k) no)) (fun W => add_any _ _ W) cb _ _ (by exact L.c)).mono ?_; rintro e w6 ⟨rfl, hc6, ho6⟩; replace L := L.off ho6 hc6; replace f1 := cell_oft ho6 f1 hgn; replace f2 := cell_oft ho6 f2 hgn; replace f3 := cell_oft ho6 f3 hbn; replace f4 := cell_oft ho6 f4 hbn2; replace f5 := cell_oft ho6 f5 hbn2; replace n6 := K2.oft ho6 n6 hnn; clear ho6 hc6
                (try go_wp2_with fail)
                refine hK.out _ _ ?_ (fun hHeld => ?_)
                · exact ⟨f1, f2, f3, f4, f5, n6⟩
                clear hK K
                try simp only [Act.put, List.setIfInBounds_toArray, List.set_cons_zero, List.set_cons_succ]
                refine wpAnyH_take (i := 18) (oi := _) (v := ?_) rfl (by kernel_rfl) (by kernel_rfl) (by kernel_rfl) (fun _ _ _ h => h) (Or.inl ⟨by rfl, ?_⟩) (by assumption) ?_
                rotate_left
                · (intro w hSw; (try dsimp only at hSw); go_simp; try (with_reducible rfl))
                simp only [Act.put, List.setIfInBounds_toArray, List.set_cons_zero, List.set_cons_succ]
                refine wpAnyH_done (by kernel_rfl) ?_ _
                unfold thenLast
                simp only [Exit.then]
                obtain ⟨_, _, fz1, fz2, _, _⟩ := own_at L.row (gt_get (i := low) (by rw [HRL.out]; omega))
                have L1 := Lib.hid (L.put (i := low) (by rw [HRL.out]; omega) (putR (gt bj k) no low row x))
                clear L n6 f3 f4 f5
                go_upto_region 14 with (fail)
                have L := L1.out
                obtain ⟨row1, hrow1⟩ : ∃ r, row.set low (putR (gt bj k) no low row x) = r := ⟨_, rfl⟩
                obtain ⟨x1', hx1'⟩ : ∃ r, putX (gt bj k) no low row x = r := ⟨_, rfl⟩
                rw [hrow1] at L
                rw [show doX (doX x (mulE (gt bj k) no)) (addE (gt row low) (doR x (mulE (gt bj k) no))) = x1' from hx1'] at L
                have hrl1 : row1.length = cp + 1 := by rw [← hrow1, List.length_set, HRL.out]
                have HROW1 := Lib.hid hrow1
                have HX1' := Lib.hid hx1'
                clear hrow1 hx1' L1 f1 f2 fz1 fz2
                change Code.wp _ _ _ _ ((w6.setCell ⟨g, low * 2, none⟩ (.int .i64 (putR (gt bj k) no low row x).n)).setCell ⟨g, low * 2 + 1, none⟩ (.int .i64 (putR (gt bj k) no low row x).d))
                generalize (w6.setCell ⟨g, low * 2, none⟩ (.int .i64 (putR (gt bj k) no low row x).n)).setCell ⟨g, low * 2 + 1, none⟩ (.int .i64 (putR (gt bj k) no low row x).d) = W2 at *
                have hkl : k < bj.length := by omega
                obtain ⟨lo1, hi1, A2, c3', f3, rf⟩ := L.rb.at2 HBJ.out
                obtain ⟨b3, off3, rfl, lo2, hi2, f4, f5⟩ := rf.at2 (gt_get hkl)
                obtain ⟨f1, f2, fz1, fz2, _, hig⟩ := own_at L.row (gt_get (i := high) (by omega))
                have n6 := L.q
                have hbn2 : b3 ≠ cb := by omega
                have hqn : w.heap.size ≠ cb := by omega
                have hhb : (high : Int) < (cp : Int) + 1 := by omega
                have HRL1 := Lib.hid hrl1
                clear hrl1 rf lo1 hi1 lo2 hi2 hig hkl
                refine wp_region_tail (S := (fun W => W.cell? ⟨g, high * 2, none⟩ = some (.int .i64 (gt row1 high).n) ∧ W.cell? ⟨g, high * 2 + 1, none⟩ = some (.int .i64 (gt row1 high).d) ∧ W.cell? ⟨bb, boff + j, none⟩ = some (.slice (some ⟨b3, off3, none⟩) bj.length c3') ∧ W.cell? ⟨b3, off3 + k * 2, none⟩ = some (.int .i64 (gt bj k).n) ∧ W.cell? ⟨b3, off3 + k * 2 + 1, none⟩ = some (.int .i64 (gt bj k).d) ∧ K6 W w.heap.size (.int .i64 ar.n) (.int .i64 ar.d) (.int .i64 se.n) (.int .i64 se.d) (.int .i64 sv) (.int .i64 cp))) (by kernel_rfl) rfl (by kernel_rfl) (by exact ⟨f1, f2, f3, f4, f5, n6⟩) (fun hHeld => ?_)
                simp only [List.dropLast]
                refine wpAnyH_take (i := 0) (oi := _) (v := ?_) rfl (by kernel_rfl) (by kernel_rfl) (by kernel_rfl) (fun _ _ _ h => h) (Or.inl ⟨by rfl, ?_⟩) (by assumption) ?_
                rotate_left
                · (intro w hSw; (try dsimp only at hSw); go_simp; try (with_reducible rfl))
                simp only [Act.put, List.setIfInBounds_toArray, List.set_cons_zero, List.set_cons_succ]
                refine wpAnyH_take (i := 1) (oi := _) (v := ?_) rfl (by kernel_rfl) (by kernel_rfl) (by kernel_rfl) (fun _ _ _ h => h) (Or.inl ⟨by rfl, ?_⟩) (by assumption) ?_
                rotate_left
                · (intro w hSw; (try dsimp only at hSw); go_simp; try (with_reducible rfl))
                simp only [Act.put, List.setIfInBounds_toArray, List.set_cons_zero, List.set_cons_succ]
                refine wpAnyH_take (i := 2) (oi := _) (v := ?_) rfl (by kernel_rfl) (by kernel_rfl) (by kernel_rfl) (fun _ _ _ h => h) (Or.inl ⟨by rfl, ?_⟩) (by assumption) ?_
                rotate_left
                · (intro w hSw; (try dsimp only at hSw); go_simp; try (with_reducible rfl))
                simp only [Act.put, List.setIfInBounds_toArray, List.set_cons_zero, List.set_cons_succ]
                refine wpAnyH_take (i := 3) (oi := _) (v := ?_) rfl (by kernel_rfl) (by kernel_rfl) (by kernel_rfl) (fun _ _ _ h => h) (Or.inl ⟨by rfl, ?_⟩) (by assumption) ?_
                rotate_left
                · (intro w hSw; (try dsimp only at hSw); go_simp; try (with_reducible rfl))
                simp only [Act.put, List.setIfInBounds_toArray, List.set_cons_zero, List.set_cons_succ]
                refine wpAnyH_take (i := 4) (oi := _) (v := ?_) rfl (by kernel_rfl) (by kernel_rfl) (by kernel_rfl) (fun _ _ _ h => h) (Or.inl ⟨by rfl, ?_⟩) (by assumption) ?_
                rotate_left
                · (intro w hSw; (try dsimp only at hSw); go_simp; try (with_reducible rfl))
                simp only [Act.put, List.setIfInBounds_toArray, List.set_cons_zero, List.set_cons_succ]
                refine wpAnyH_take (i := 5) (oi := _) (v := ?_) rfl (by kernel_rfl) (by kernel_rfl) (by kernel_rfl) (fun _ _ _ h => h) (Or.inl ⟨by rfl, ?_⟩) (by assumption) ?_
                rotate_left
                · (intro w hSw; (try dsimp only at hSw); go_simp; try (with_reducible rfl))
                simp only [Act.put, List.setIfInBounds_toArray, List.set_cons_zero, List.set_cons_succ]
                refine wpAnyH_take (i := 6) (oi := _) (v := ?_) rfl (by kernel_rfl) (by kernel_rfl) (by kernel_rfl) (fun _ _ _ h => h) (Or.inl ⟨by rfl, ?_⟩) (by assumption) ?_
                rotate_left
                · (intro w hSw; (try dsimp only at hSw); go_simp; try (with_reducible rfl))
                simp only [Act.put, List.setIfInBounds_toArray, List.set_cons_zero, List.set_cons_succ]
                refine wpAnyH_take (i := 7) (oi := _) (v := ?_) rfl (by kernel_rfl) (by kernel_rfl) (by kernel_rfl) (fun _ _ _ h => h) (Or.inl ⟨by rfl, ?_⟩) (by assumption) ?_
                rotate_left
                · (intro w hSw; (try dsimp only at hSw); go_simp; try (with_reducible rfl))
                simp only [Act.put, List.setIfInBounds_toArray, List.set_cons_zero, List.set_cons_succ]
                refine wpAnyH_take (i := 8) (oi := _) (v := ?_) rfl (by kernel_rfl) (by kernel_rfl) (by kernel_rfl) (fun _ _ _ h => h) (Or.inl ⟨by rfl, ?_⟩) (by assumption) ?_
                rotate_left
                · (intro w hSw; (try dsimp only at hSw); go_simp; try (with_reducible rfl))
                simp only [Act.put, List.setIfInBounds_toArray, List.set_cons_zero, List.set_cons_succ]
                refine wpAnyH_take (i := 9) (oi := _) (v := ?_) rfl (by kernel_rfl) (by kernel_rfl) (by kernel_rfl) (fun _ _ _ h => h) (Or.inl ⟨by rfl, ?_⟩) (by assumption) ?_
                rotate_left
                · (intro w hSw; (try dsimp only at hSw); go_simp; try (with_reducible rfl))
                simp only [Act.put, List.setIfInBounds_toArray, List.set_cons_zero, List.set_cons_succ]
                refine wpAnyH_take (i := 10) (oi := _) (v := ?_) rfl (by kernel_rfl) (by kernel_rfl) (by kernel_rfl) (fun _ _ _ h => h) (Or.inl ⟨by rfl, ?_⟩) (by assumption) ?_
                rotate_left
                · (intro w hSw; (try dsimp only at hSw); go_simp; try (with_reducible rfl))
                simp only [Act.put, List.setIfInBounds_toArray, List.set_cons_zero, List.set_cons_succ]
                refine wpAnyH_take (i := 11) (oi := _) (v := ?_) rfl (by kernel_rfl) (by kernel_rfl) (by kernel_rfl) (fun _ _ _ h => h) (Or.inl ⟨by rfl, ?_⟩) (by assumption) ?_
                rotate_left
                · (intro w hSw; (try dsimp only at hSw); go_simp; try (with_reducible rfl))
                simp only [Act.put, List.setIfInBounds_toArray, List.set_cons_zero, List.set_cons_succ]
                refine wpAnyH_take (i := 12) (oi := _) (v := ?_) rfl (by kernel_rfl) (by kernel_rfl) (by kernel_rfl) (fun _ _ _ h => h) (Or.inl ⟨by rfl, ?_⟩) (by assumption) ?_
                rotate_left
                · (intro w hSw; (try dsimp only at hSw); go_simp; try (with_reducible rfl))
                simp only [Act.put, List.setIfInBounds_toArray, List.set_cons_zero, List.set_cons_succ]
                refine wpAnyH_take (i := 13) (oi := _) (v := ?_) rfl (by kernel_rfl) (by kernel_rfl) (by kernel_rfl) (fun _ _ _ h => h) (Or.inl ⟨by rfl, ?_⟩) (by assumption) ?_
                rotate_left
                · (intro w hSw; (try dsimp only at hSw); go_simp; try (with_reducible rfl))
                simp only [Act.put, List.setIfInBounds_toArray, List.set_cons_zero, List.set_cons_succ]
                refine wpAnyH_take (i := 14) (oi := _) (v := ?_) rfl (by kernel_rfl) (by kernel_rfl) (by kernel_rfl) (fun _ _ _ h => h) (Or.inl ⟨by rfl, ?_⟩) (by assumption) ?_
                rotate_left
                · (intro w hSw; (try dsimp only at hSw); go_simp; try (with_reducible rfl))
                simp only [Act.put, List.setIfInBounds_toArray, List.set_cons_zero, List.set_cons_succ]
                refine wpAnyH_take (i := 15) (oi := _) (v := ?_) rfl (by kernel_rfl) (by kernel_rfl) (by kernel_rfl) (fun _ _ _ h => h) (Or.inl ⟨by rfl, ?_⟩) (by assumption) ?_
                rotate_left
                · (intro w hSw; (try dsimp only at hSw); go_simp; try (with_reducible rfl))
                simp only [Act.put, List.setIfInBounds_toArray, List.set_cons_zero, List.set_cons_succ]
                refine wpAnyH_take (i := 16) (oi := _) (v := ?_) rfl (by kernel_rfl) (by kernel_rfl) (by kernel_rfl) (fun _ _ _ h => h) (Or.inl ⟨by rfl, ?_⟩) (by assumption) ?_
                rotate_left
                · (intro w hSw; (try dsimp only at hSw); go_simp; try (with_reducible rfl))
                simp only [Act.put, List.setIfInBounds_toArray, List.set_cons_zero, List.set_cons_succ]
                refine wpAnyH_ready (rs := [17]) (by kernel_rfl) (by simp) ?_
                refine AllReadyH.cons (o := _) rfl (fun K hK => ?_) AllReadyH.nil
                go_simp
                refine (do_k 23 ent_mul (mulE (gt bj k) ar) (gt bj k) ar (fun W => mul_any _ _ W) cb x1' _ (by exact L.drew.c)).mono ?_; rintro e w6 ⟨rfl, hc6, ho6⟩; replace L := L.drew.off ho6 hc6; replace f1 := cell_oft ho6 f1 hgn; replace f2 := cell_oft ho6 f2 hgn; replace f3 := cell_oft ho6 f3 hbn; replace f4 := cell_oft ho6 f4 hbn2; replace f5 := cell_oft ho6 f5 hbn2; replace n6 := K6.oft ho6 n6 hqn; clear ho6 hc6
                (try go_wp2_with fail)
                refine hK.out _ _ ?_ (fun hHeld => ?_)
                · exact ⟨f1, f2, f3, f4, f5, n6⟩
                clear hK K
                try simp only [Act.put, List.setIfInBounds_toArray, List.set_cons_zero, List.set_cons_succ]
                refine wpAnyH_ready (rs := [18]) (by kernel_rfl) (by simp) ?_
                refine AllReadyH.cons (o := _) rfl (fun K hK => ?_) AllReadyH.nil
                go_simp
                refine (do_k 57 ent_add (addE (gt row1 high) (doR x1' (mulE (gt bj k) ar))) (gt row1 high) (doR x1' (mulE (gt bj k) ar)) (fun W => add_any _ _ W) cb _ _ (by exact L.c)).mono ?_; rintro e w6 ⟨rfl, hc6, ho6⟩; replace L := L.off ho6 hc6; replace f1 := cell_oft ho6 f1 hgn; replace f2 := cell_oft ho6 f2 hgn; replace f3 := cell_oft ho6 f3 hbn; replace f4 := cell_oft ho6 f4 hbn2; replace f5 := cell_oft ho6 f5 hbn2; replace n6 := K6.oft ho6 n6 hqn; clear ho6 hc6
                (try go_wp2_with fail)
                refine hK.out _ _ ?_ (fun hHeld => ?_)
                · exact ⟨f1, f2, f3, f4, f5, n6⟩
                clear hK K
                try simp only [Act.put, List.setIfInBounds_toArray, List.set_cons_zero, List.set_cons_succ]
                refine wpAnyH_take (i := 19) (oi := _) (v := ?_) rfl (by kernel_rfl) (by kernel_rfl) (by kernel_rfl) (fun _ _ _ h => h) (Or.inl ⟨by rfl, ?_⟩) (by assumption) ?_
                rotate_left
                · (intro w hSw; (try dsimp only at hSw); go_simp; try (with_reducible rfl))
                simp only [Act.put, List.setIfInBounds_toArray, List.set_cons_zero, List.set_cons_succ]
                refine wpAnyH_done (by kernel_rfl) ?_ _
                unfold thenLast
                simp only [Exit.then]
                obtain ⟨_, _, fy1, fy2, _, _⟩ := own_at L.row (gt_get (i := high) (by rw [HRL1.out]; omega))
                have L2 := Lib.hid (L.put (i := high) (by rw [HRL1.out]; omega) (putR (gt bj k) ar high row1 x1'))
                clear L n6 f3 f4 f5 fz1 fz2
                go_wp2_with fail
                go_roundw
                case rel =>
                  have hst := HI.out.step har hse HJ.out HBJ.out hkj hle
                  rw [HLOW.out, HHIGH.out, HROW1.out, HX1'.out] at hst
                  have hrel : ∃ (k' : Nat) (x' : Int) (row' : List Fr), k' ≤ j + 1 ∧ Value.int .i64 ((k : Int) + 1) = .int .i64 k' ∧ CI cb nb w.heap.size w1.heap.size wo.heap.size w.heap.size w ar se no sv cp n u8 (.slice (some ⟨bb, boff, none⟩) b.length bc) us ll b g cap row' ((w6.setCell ⟨g, high * 2, none⟩ (.int .i64 (putR (gt bj k) ar high row1 x1').n)).setCell ⟨g, high * 2 + 1, none⟩ (.int .i64 (putR (gt bj k) ar high row1 x1').d)) x' ∧ ChI ar se sv cp b no n ll bj k' row' x' := ⟨k + 1, _, _, by omega, by go_num, L2.out, hst⟩
                  first | exact hrel | ((repeat apply Exists.intro); exact ⟨hrel, rfl⟩)
                case measure => simp [intOf]; omega
            · have hki : decide ((k : Int) ≤ (j : Int)) = false := by simp; omega
              obtain rfl : k = j + 1 := by omega
              obtain ⟨i1, hi1, hy0, hy1, hy2⟩ := info_parts info_fracs
              go_wp2_with (at_builtin; refine wpList_append_lies _ rfl _ _ 40 rfl (nb + 1) 27 i1 _ 1 24 Try.underlying40 hi1 hy0 hy1 hy2 rfl (by omega) _ n us rfl (L.out.alloc _) ⟨wr.heap.size, 0, none⟩ 1 1 [_] rfl rfl (World.news_of_block (heap_alloc_new wr _)) (by simp [Value.oneCell']) (by omega) (by unfold maxLen; omega) (by omega) (by have := L.hs; simp; omega) (wr.heap.size + 1) (by simp) ?_; intro g3 cap3 w6 hown6 hgrow6 hat6 hlt6)
              refine ⟨⟨n + 1, by omega, by go_num, ?_⟩, by simp [intOf]; omega⟩
              have L1 := L.below ((Below.refl _ wr).alloc (Nat.le_refl _) (.cells #[.slice (some ⟨g, 0, none⟩) (cp + 1) cap] 27))
              have hgr : ∀ k, u8.ownBlock = some k → nb + 1 ≤ k := fun k hk => (L1.out.lt k hk).1
              have hl := L1.lt
              have hrow : RdF (wr.alloc (.cells #[.slice (some ⟨g, 0, none⟩) (cp + 1) cap] 27)) (nb + 1) w6.heap.size (.slice (some ⟨g, 0, none⟩) (cp + 1) cap) row := by
                have e := RdG.of_own L1.row
                unfold RdF
                rw [HI.out.1]
                exact e.mono (by omega) hgrow6.size
              exact ⟨x, _, _, K1.grown L1.c hgrow6 (fun g e => by have := hgr g e; omega), K2.grown L1.z hgrow6 (fun g e => by have := hgr g e; omega), K6.grown L1.q hgrow6 (fun g e => by have := hgr g e; omega), by
                obtain ⟨vs, e1, e2⟩ := L1.rb
                exact ⟨vs, e1.grownB hgrow6 (fun g e => by have := hgr g e; omega), e2.grownB hgrow6 (fun g e => by have := hgr g e; omega)⟩, L1.of.grown hgrow6 (by have := L1.hs; omega) (fun g e => by have := hgr g e; omega), hown6, ((L1.al.mono (Nat.le_trans L1.hs hgrow6.size)).snoc hrow).grownT hgrow6 L1.out (by decide), by have := L1.hs; have := hgrow6.size; omega, HI.out.done HRR.out HJ.out HBJ.out⟩
      · have hni : decide ((n : Int) ≤ (cp : Int)) = false := by simp; omega
        obtain rfl : n = cp + 1 := by omega
        go_wp2
        refine HR.out _ _ ⟨_, _, ll, b, x, rfl, c3, o3, ⟨us, ?_, ⟨HAL.out.1, fun i u l a b => RdG.mono (HAL.out.2 i u l a b) (by omega) (Nat.le_refl _)⟩⟩, HRB.out.mono (by omega) (by omega), HRR.out.done HE.out⟩
        rw [HRR.out.1]
        exact (RdG.of_own HOUT.out).mono (by omega) (Nat.le_refl _)

end Go.Proofs.Ythlgkomhnhkooaa
