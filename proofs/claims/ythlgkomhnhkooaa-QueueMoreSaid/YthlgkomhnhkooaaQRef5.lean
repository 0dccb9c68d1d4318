/-
  Walks of casebookref52: Chain. Conditions: none.
-/
import Derived.Test.YthlgkomhnhkooaaQRef4
import Derived.Test.YthlgkomhnhkooaaQSpec9
namespace Go.Proofs.Ythlgkomhnhkooaa
set_option linter.unusedSimpArgs false
set_option linter.unusedVariables false
open Go.RowKit

/-- a struct of one cell and a slot as the two results -/
theorem ret_B1_tmp {fn : Func} {R : Ending → World → Prop} {a : Act} {w : World} {t u : Tmp} {g : Nat} {x z : Value} (hres : fn.results = #[.cell t 42, .tmp u]) (hd : a.defers = [])
    (ht : a.tmps.getD t undef = .pointer (some ⟨g, 0, none⟩)) (hu : a.tmps.getD u undef = z) (hB : B1 w g x) (hR : R (.returned (.tuple #[.agg #[x], z])) w) : bodyPost Try.prog fn R .ret a w := by
  obtain ⟨h1, h2, h5⟩ := hB
  rw [Array.getD_eq_getD_getElem?] at ht hu
  exact bodyPost_ret (by simp only [results, hres]; simp [go_sem, ht, hu, h1]) hd hR

theorem Apart.all2 {D : Nat → Prop} {l : List Loc} (h : Apart D l) : Apart D l := h

set_option maxRecDepth 100000 in
set_option maxHeartbeats 8000000 in
theorem rChain_any (ar se : Fr) (sv cp : Nat) (w : World) (hq : QOk ar se sv cp) :
    Calls Try.prog 26 #[.agg #[.int .i64 ar.n, .int .i64 ar.d, .int .i64 se.n, .int .i64 se.d, .int .i64 sv, .int .i64 cp]] w fun e w' =>
      ∃ v x ll, e = .returned (.tuple #[.agg #[v], .bool x]) ∧ Below w.heap.size w w' ∧ RdFF w' w.heap.size w'.heap.size v ll ∧ ((x = true ∧ chainL ar se sv cp (cp + 1) = some ll) ∨ (x = false ∧ ll = [] ∧ chainL ar se sv cp (cp + 1) = none)) := by
  have hv1 := hq.v1
  have hc1 := hq.c1
  have hc2 := hq.c2
  refine calls_cps fun R hR => ?_
  have HR := Lib.hid hR
  clear hR
  go_enter Try.func26, Try.ntmps26
  go_wp2
  go_loopw [6] (fun v6 wr => ∃ (n hi : Nat) (ll : List (List Fr)) (x : Bool) (v : Value) (us : List Value), n ≤ cp + 1 ∧ v6 = .int .i64 n ∧ K1 wr (w.heap.size + 1 + 1 + 1) (.bool x) ∧ K1 wr (w.heap.size + 1 + 1) v ∧ wr.ownsRow (w.heap.size + 1 + 1 + 1 + 1) 27 1 v n us ∧ All2 wr (w.heap.size + 1 + 1 + 1 + 1) wr.heap.size us ll ∧ w.heap.size + 1 + 1 + 1 + 1 ≤ wr.heap.size ∧ Mem [Loc.k1 (w.heap.size + 1) (.slice none 0 0), Loc.k6 w.heap.size (.int .i64 ar.n) (.int .i64 ar.d) (.int .i64 se.n) (.int .i64 se.d) (.int .i64 sv) (.int .i64 cp), Loc.bl w.heap.size w] wr ∧ RcI ar se sv cp n ll x) (fun v6 _ => cp + 1 - (intOf v6).toNat)
  case atStart =>
    have q0 := K6.new w (.int .i64 ar.n) (.int .i64 ar.d) (.int .i64 se.n) (.int .i64 se.d) (.int .i64 sv) (.int .i64 cp) 25
    have b0 : Below w.heap.size w (w.alloc (.cells #[.int .i64 ar.n, .int .i64 ar.d, .int .i64 se.n, .int .i64 se.d, .int .i64 sv, .int .i64 cp] 25)) := (Below.refl _ _).alloc (Nat.le_refl _) _
    have r0 := K1.new (w.alloc (.cells #[.int .i64 ar.n, .int .i64 ar.d, .int .i64 se.n, .int .i64 se.d, .int .i64 sv, .int .i64 cp] 25)) (.slice none 0 0) 42
    have M0 : Mem [Loc.k1 (w.heap.size + 1) (.slice none 0 0), Loc.k6 w.heap.size (.int .i64 ar.n) (.int .i64 ar.d) (.int .i64 se.n) (.int .i64 se.d) (.int .i64 sv) (.int .i64 cp), Loc.bl w.heap.size w] ((w.alloc (.cells #[.int .i64 ar.n, .int .i64 ar.d, .int .i64 se.n, .int .i64 se.d, .int .i64 sv, .int .i64 cp] 25)).alloc (.cells #[.slice none 0 0] 42)) := ⟨by simpa using r0, K6.alloc q0 _, ⟨b0.alloc (by simp) _, by simp; omega⟩, True.intro⟩
    have M1 := (M0.alloc (.cells #[.slice none 0 0] 42)).alloc (.cells #[.bool false] 66)
    have c0 := K1.new (((w.alloc (.cells #[.int .i64 ar.n, .int .i64 ar.d, .int .i64 se.n, .int .i64 se.d, .int .i64 sv, .int .i64 cp] 25)).alloc (.cells #[.slice none 0 0] 42)).alloc (.cells #[.slice none 0 0] 42)) (.bool false) 66
    have o0 := K1.alloc (K1.new ((w.alloc (.cells #[.int .i64 ar.n, .int .i64 ar.d, .int .i64 se.n, .int .i64 se.d, .int .i64 sv, .int .i64 cp] 25)).alloc (.cells #[.slice none 0 0] 42)) (.slice none 0 0) 42) (.cells #[.bool false] 66)
    simp only [World.size_alloc] at c0 o0
    exact ⟨0, 0, [], false, _, [], by omega, rfl, c0, o0, World.ownsRow_nil _ _ _ _, ⟨rfl, fun i u l h => by simp at h⟩, by simp, M1, rfl, .inl ⟨rfl, rfl⟩⟩
  case round =>
    obtain ⟨n, hi, ll, x, v, us, hn, rfl, c1, o1, hown, hal, hwr, M, hI⟩ := hrel
    have HI := Lib.hid hI
    have HO := Lib.hid hown
    have HAL := Lib.hid hal
    have q1 := M.2.1
    clear hI hown hal
    by_cases hnc : n ≤ cp
    · have hnd : decide ((n : Int) ≤ (cp : Int)) = true := by simp; omega
      cases x with
      | true =>
        have r1 := M.1
        have HB := Lib.hid M.2.2.1.1
        clear M
        go_wp2_with fail
        refine ret_B1_tmp (x := .slice none 0 0) (z := .bool false) rfl rfl rfl rfl (K1.set r1 _) (HR.out _ _ ⟨_, false, [], rfl, ?_, ⟨[], ⟨rfl, none, 0, rfl, Nat.le_refl _, by simp, fun h => by simp at h⟩, rfl, fun i u l h => by simp at h⟩, .inr ⟨rfl, rfl, orL (B := chainL ar se sv cp n = some ll) (by rcases HI.out.2 with h | h; exact .inr h; exact .inl h) rfl⟩⟩)
        have := HB.out
        (repeat (first | exact Below.refl _ _ | assumption | refine Below.setCell ?_ (by first | omega | (simp; done) | (simp; omega)) _ | refine Below.alloc ?_ (by first | omega | (simp; done) | (simp; omega)) _ | refine Below.drew ?_ | refine below_drewN ?_ _))
      | false =>
        obtain ⟨i1, hi1, hy0, hy1, hy2⟩ := info_parts info_fracs
        go_upto_region 6 with (fail)
        have S : Mem [Loc.k1 (w.heap.size + 1 + 1) v, Loc.k6 w.heap.size (.int .i64 ar.n) (.int .i64 ar.d) (.int .i64 se.n) (.int .i64 se.d) (.int .i64 sv) (.int .i64 cp)] wr := ⟨o1, q1, True.intro⟩
        clear o1 q1
        refine wp_region_tail (S := (fun W => K1 W (w.heap.size + 1 + 1) v ∧ K6 W w.heap.size (.int .i64 ar.n) (.int .i64 ar.d) (.int .i64 se.n) (.int .i64 se.d) (.int .i64 sv) (.int .i64 cp) ∧ True)) (by kernel_rfl) rfl (by kernel_rfl) (by exact S) (fun hHeld => ?_)
        simp only [List.dropLast]
        refine wpAnyH_take (i := 0) (oi := _) (v := ?_) rfl (by kernel_rfl) (by kernel_rfl) (by kernel_rfl) (fun _ _ _ h => h) (Or.inl ⟨by rfl, ?_⟩) (by assumption) ?_
        rotate_left
        · (intro w hSw; (try dsimp only at hSw); go_simp; try (with_reducible rfl))
        simp only [Act.put, List.setIfInBounds_toArray, List.set_cons_zero, List.set_cons_succ]
        refine wpAnyH_take (i := 1) (oi := _) (v := ?_) rfl (by kernel_rfl) (by kernel_rfl) (by kernel_rfl) (fun _ _ _ h => h) (Or.inl ⟨by rfl, ?_⟩) (by assumption) ?_
        rotate_left
        · (intro w hSw; (try dsimp only at hSw); go_simp; try (with_reducible rfl))
        simp only [Act.put, List.setIfInBounds_toArray, List.set_cons_zero, List.set_cons_succ]
        refine wpAnyH_take (i := 2) (oi := _) (v := ?_) rfl (by kernel_rfl) (by kernel_rfl) (by kernel_rfl) (fun _ _ _ h => h) (Or.inl ⟨by rfl, ?_⟩) (by assumption) ?_
        rotate_left
        · (intro w hSw; (try dsimp only at hSw); go_simp; try (with_reducible rfl))
        simp only [Act.put, List.setIfInBounds_toArray, List.set_cons_zero, List.set_cons_succ]
        refine wpAnyH_take (i := 3) (oi := _) (v := ?_) rfl (by kernel_rfl) (by kernel_rfl) (by kernel_rfl) (fun _ _ _ h => h) (Or.inl ⟨by rfl, ?_⟩) (by assumption) ?_
        rotate_left
        · (intro w hSw; (try dsimp only at hSw); go_simp; try (with_reducible rfl))
        simp only [Act.put, List.setIfInBounds_toArray, List.set_cons_zero, List.set_cons_succ]
        refine wpAnyH_ready (rs := [4]) (by kernel_rfl) (by simp) ?_
        refine AllReadyH.cons (o := _) rfl (fun K hK => ?_) AllReadyH.nil
        go_simp
        refine (rrow_any ar se sv cp n (w.heap.size + 1 + 1 + 1) _ (by exact c1) hq hnc).mono ?_; rintro e w3 ⟨g, cap, out, x, rfl, hc3, ho3, rf3, hE3⟩; replace M := M.drew.off ho3 (by (repeat' (first | exact True.intro | refine And.intro (fun k hk e => ?_) ?_)) <;> (first | exact e | ((try dsimp only [Loc.c1, Loc.c2, Loc.k1, Loc.k2, Loc.k6, Loc.rdF, Loc.rdFF, Loc.all2, Loc.fr, Loc.bl, Loc.own, Loc.sz] at hk e) <;> omega))); replace S := S.drew.off ho3 (by (repeat' (first | exact True.intro | refine And.intro (fun k hk e => ?_) ?_)) <;> (first | exact e | ((try dsimp only [Loc.c1, Loc.c2, Loc.k1, Loc.k2, Loc.k6, Loc.rdF, Loc.rdFF, Loc.all2, Loc.fr, Loc.bl, Loc.own, Loc.sz] at hk e) <;> omega))); replace HO := Lib.hid (own_off (w := wr.drew) (by exact HO.out) ho3 (by omega)); replace HAL := Lib.hid (All2.off (w := wr.drew) (by exact HAL.out) ho3 (by omega)); have hz3 := ho3.size; (try simp at hz3); clear ho3
        (try go_wp2_with fail)
        refine hK.out _ _ ?_ (fun hHeld => ?_)
        · exact S
        clear hK K
        try simp only [Act.put, List.setIfInBounds_toArray, List.set_cons_zero, List.set_cons_succ]
        refine wpAnyH_ready (rs := [5]) (by kernel_rfl) (by simp) ?_
        refine AllReadyH.cons (o := _) rfl (fun K hK => ?_) AllReadyH.nil
        go_simp
        skip
        (try go_wp2_with fail)
        refine hK.out _ _ ?_ (fun hHeld => ?_)
        · exact S.alloc _
        clear hK K
        try simp only [Act.put, List.setIfInBounds_toArray, List.set_cons_zero, List.set_cons_succ]
        have hrb : ∀ k, v.ownBlock = some k → w.heap.size + 1 + 1 + 1 + 1 ≤ k := fun k hk => (HO.out.lt k hk).1
        have HRB := Lib.hid hrb
        clear hrb
        refine wpAnyH_ready (rs := [6]) (by kernel_rfl) (by simp) ?_
        refine AllReadyH.cons (o := _) rfl (fun K hK => ?_) AllReadyH.nil
        refine step_append_lies _ (by rfl) _ _ _ (by rfl) (w.heap.size + 1 + 1 + 1 + 1) 27 i1 _ 1 24 Try.underlying40 hi1 hy0 hy1 hy2 rfl (by omega) _ n us (by rfl) (HO.out.alloc _) ⟨w3.heap.size, 0, none⟩ 1 1 [_] (by rfl) (by rfl) (World.news_of_block (heap_alloc_new w3 _)) (by simp [Value.oneCell']) (by omega) (by unfold maxLen; omega) (by omega) (by simp; omega) (w3.heap.size + 1) (by simp) ?_; intro g6 cap6 w6 hown6 hgrow6 hat6 hlt6; replace S := Mem.grownO (S.alloc _) hgrow6 (HO.out.alloc _) (by (repeat' (first | exact True.intro | refine And.intro (fun k hk e => ?_) ?_)) <;> (first | exact e | ((try dsimp only [Loc.c1, Loc.c2, Loc.k1, Loc.k2, Loc.k6, Loc.rdF, Loc.rdFF, Loc.all2, Loc.fr, Loc.bl, Loc.own, Loc.sz] at hk e) <;> omega))); replace M := Mem.grownO (M.alloc _) hgrow6 (HO.out.alloc _) (by (repeat' (first | exact True.intro | refine And.intro (fun k hk e => ?_) ?_)) <;> (first | exact e | ((try dsimp only [Loc.c1, Loc.c2, Loc.k1, Loc.k2, Loc.k6, Loc.rdF, Loc.rdFF, Loc.all2, Loc.fr, Loc.bl, Loc.own, Loc.sz] at hk e) <;> omega))); replace hc3 := K1.grown (K1.alloc hc3 _) hgrow6 (fun k hk => by have := HRB.out k hk; omega); have hz6 := hgrow6.size; (try simp at hz6)
        refine hK.out _ _ ?_ (fun hHeld => ?_)
        · exact S
        clear hK K
        try simp only [Act.put, List.setIfInBounds_toArray, List.set_cons_zero, List.set_cons_succ]
        have hal6 : All2 w6 (w.heap.size + 1 + 1 + 1 + 1) w6.heap.size (us ++ [.slice (some ⟨g, 0, none⟩) (cp + 1) cap]) (ll ++ [out]) := by
          have h1 : All2 (w3.alloc (.cells #[.slice (some ⟨g, 0, none⟩) (cp + 1) cap] 27)) (w.heap.size + 1 + 1 + 1 + 1) w6.heap.size us ll := ((HAL.out.after ((Below.refl _ _).alloc (Nat.le_refl _) _))).mono (by omega)
          have h2 : RdF (w3.alloc (.cells #[.slice (some ⟨g, 0, none⟩) (cp + 1) cap] 27)) (w.heap.size + 1 + 1 + 1 + 1) w6.heap.size (.slice (some ⟨g, 0, none⟩) (cp + 1) cap) out := RdG.mono (RdG.after rf3 ((Below.refl _ _).alloc (Nat.le_refl _) _)) (by simp; omega) (by omega)
          exact (h1.snoc h2).grownT hgrow6 (HO.out.alloc _) (by decide)
        have HAL6 := Lib.hid hal6
        have HO6 := Lib.hid hown6
        have HI6 := Lib.hid (HI.out.step hnc hE3)
        clear hown6 hgrow6 hat6 hlt6 HO HAL rf3 hE3 HI HRB hal6
        refine wpAnyH_take (i := 7) (oi := _) (v := ?_) rfl (by kernel_rfl) (by kernel_rfl) (by kernel_rfl) (fun _ _ _ h => h) (Or.inl ⟨by rfl, ?_⟩) (by assumption) ?_
        rotate_left
        · (intro w hSw; (try dsimp only at hSw); go_simp; try (with_reducible rfl))
        simp only [Act.put, List.setIfInBounds_toArray, List.set_cons_zero, List.set_cons_succ]
        refine wpAnyH_done (by kernel_rfl) ?_ _
        unfold thenLast
        simp only [Exit.then]
        have o6 := S.1
        have HM6 := Lib.hid (M.set (g := w.heap.size + 1 + 1) (i := 0) (u := .slice (some ⟨g6, 0, none⟩) (n + 1) cap6) (by (repeat' (first | exact True.intro | refine And.intro (fun k hk e => ?_) ?_)) <;> (first | exact e | ((try dsimp only [Loc.c1, Loc.c2, Loc.k1, Loc.k2, Loc.k6, Loc.rdF, Loc.rdFF, Loc.all2, Loc.fr, Loc.bl, Loc.own, Loc.sz] at hk e) <;> omega))))
        have HC6 := Lib.hid (K1.far hc3 (show w.heap.size + 1 + 1 + 1 ≠ w.heap.size + 1 + 1 by omega) (o := 0) (.slice (some ⟨g6, 0, none⟩) (n + 1) cap6))
        have HS6 := Lib.hid (K1.set o6 (.slice (some ⟨g6, 0, none⟩) (n + 1) cap6))
        clear M S hc3
        go_wp2_with fail
        go_roundw
        case rel =>
          have hno : w6.ownsRow (w.heap.size + 1 + 1 + 1 + 1) 27 1 (.slice (some ⟨g6, 0, none⟩) (n + 1) cap6) (n + 1) (us ++ [.slice (some ⟨g, 0, none⟩) (cp + 1) cap]) := HO6.out
          have hg6 : w.heap.size + 1 + 1 + 1 + 1 ≤ g6 := (hno.lt g6 rfl).1
          have hrel : ∃ (n' hi' : Nat) (ll' : List (List Fr)) (x' : Bool) (v' : Value) (us' : List Value), n' ≤ cp + 1 ∧ Value.int .i64 ((n : Int) + 1) = .int .i64 n' ∧ K1 (w6.setCell ⟨w.heap.size + 1 + 1, 0, none⟩ (.slice (some ⟨g6, 0, none⟩) (n + 1) cap6)) (w.heap.size + 1 + 1 + 1) (.bool x') ∧ K1 (w6.setCell ⟨w.heap.size + 1 + 1, 0, none⟩ (.slice (some ⟨g6, 0, none⟩) (n + 1) cap6)) (w.heap.size + 1 + 1) v' ∧ (w6.setCell ⟨w.heap.size + 1 + 1, 0, none⟩ (.slice (some ⟨g6, 0, none⟩) (n + 1) cap6)).ownsRow (w.heap.size + 1 + 1 + 1 + 1) 27 1 v' n' us' ∧ All2 (w6.setCell ⟨w.heap.size + 1 + 1, 0, none⟩ (.slice (some ⟨g6, 0, none⟩) (n + 1) cap6)) (w.heap.size + 1 + 1 + 1 + 1) (w6.setCell ⟨w.heap.size + 1 + 1, 0, none⟩ (.slice (some ⟨g6, 0, none⟩) (n + 1) cap6)).heap.size us' ll' ∧ w.heap.size + 1 + 1 + 1 + 1 ≤ (w6.setCell ⟨w.heap.size + 1 + 1, 0, none⟩ (.slice (some ⟨g6, 0, none⟩) (n + 1) cap6)).heap.size ∧ Mem [Loc.k1 (w.heap.size + 1) (.slice none 0 0), Loc.k6 w.heap.size (.int .i64 ar.n) (.int .i64 ar.d) (.int .i64 se.n) (.int .i64 se.d) (.int .i64 sv) (.int .i64 cp), Loc.bl w.heap.size w] (w6.setCell ⟨w.heap.size + 1 + 1, 0, none⟩ (.slice (some ⟨g6, 0, none⟩) (n + 1) cap6)) ∧ RcI ar se sv cp n' ll' x' := by
            have hk : Off (w.heap.size + 1 + 1) w6.heap.size w6 (w6.setCell ⟨w.heap.size + 1 + 1, 0, none⟩ (.slice (some ⟨g6, 0, none⟩) (n + 1) cap6)) := (Off.refl (w.heap.size + 1 + 1) _ w6).setCell (p := ⟨w.heap.size + 1 + 1, 0, none⟩) (Or.inr rfl) _
            refine ⟨n + 1, 0, ll ++ [out], x, _, us ++ [.slice (some ⟨g, 0, none⟩) (cp + 1) cap], by omega, by go_num, HC6.out, HS6.out, own_off hno hk (by omega), ?_, ?_, HM6.out, HI6.out⟩
            · rw [size_setCell]; exact HAL6.out.off hk (by omega)
            · rw [size_setCell]; omega
          first | exact hrel | ((repeat apply Exists.intro); exact ⟨hrel, rfl⟩)
        case measure => first | (simp [intOf]; done) | (simp [intOf]; omega)
    · have hnd : decide ((n : Int) ≤ (cp : Int)) = false := by simp; omega
      obtain rfl : n = cp + 1 := by omega
      have r1 := M.1
      have HB := Lib.hid M.2.2.1.1
      clear M
      cases x with
      | true =>
        go_wp2_with fail
        refine ret_B1_tmp (x := .slice none 0 0) (z := .bool false) rfl rfl rfl rfl (K1.set r1 _) (HR.out _ _ ⟨_, false, [], rfl, ?_, ⟨[], ⟨rfl, none, 0, rfl, Nat.le_refl _, by simp, fun h => by simp at h⟩, rfl, fun i u l h => by simp at h⟩, .inr ⟨rfl, rfl, orL (B := chainL ar se sv cp (cp + 1) = some ll) (by rcases HI.out.2 with h | h; exact .inr h; exact .inl h) rfl⟩⟩)
        have := HB.out
        (repeat (first | exact Below.refl _ _ | assumption | refine Below.setCell ?_ (by first | omega | (simp; done) | (simp; omega)) _ | refine Below.alloc ?_ (by first | omega | (simp; done) | (simp; omega)) _ | refine Below.drew ?_ | refine below_drewN ?_ _))
      | false =>
        obtain ⟨gv, capv, rfl, _, _⟩ := HO.out.form (by omega)
        go_wp2_with fail
        refine ret_B1_tmp (x := .slice (some ⟨gv, 0, none⟩) (cp + 1) capv) (z := .bool true) rfl rfl rfl rfl (K1.set r1 _) (HR.out _ _ ⟨_, true, ll, rfl, ?_, ?_, .inl ⟨rfl, orR (A := chainL ar se sv cp (cp + 1) = none) (by rcases HI.out.2 with h | h; exact .inr h; exact .inl h) rfl⟩⟩)
        · have := HB.out
          (repeat (first | exact Below.refl _ _ | assumption | refine Below.setCell ?_ (by first | omega | (simp; done) | (simp; omega)) _ | refine Below.alloc ?_ (by first | omega | (simp; done) | (simp; omega)) _ | refine Below.drew ?_ | refine below_drewN ?_ _))
        · have hk : Off (w.heap.size + 1) wr.heap.size wr (wr.setCell ⟨w.heap.size + 1, 0, none⟩ (.slice (some ⟨gv, 0, none⟩) (cp + 1) capv)) := (Off.refl (w.heap.size + 1) _ wr).setCell (p := ⟨w.heap.size + 1, 0, none⟩) (Or.inr rfl) _
          refine ⟨us, ?_, ?_⟩
          · rw [HI.out.1]
            exact (RdG.of_own (own_off HO.out hk (by omega))).mono (by omega) (Nat.le_refl _)
          · refine ⟨HAL.out.1, fun i u l h1 h2 => RdG.mono ((HAL.out.off hk (by omega)).2 i u l h1 h2) (by omega) ?_⟩
            rw [size_setCell]
            exact Nat.le_refl _

end Go.Proofs.Ythlgkomhnhkooaa
