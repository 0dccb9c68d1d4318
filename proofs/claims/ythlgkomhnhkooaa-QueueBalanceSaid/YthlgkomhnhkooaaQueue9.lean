/-
  Walks of casebook/queue: end, number. Conditions: none.
-/
import Derived.Test.YthlgkomhnhkooaaQueue6
import Derived.Test.YthlgkomhnhkooaaLoc
namespace Go.Proofs.Ythlgkomhnhkooaa
set_option linter.unusedSimpArgs false
set_option linter.unusedVariables false
open Go.RowKit

def endE (x : Int) (a : Fr) : FE := if x = 0 then ⟨a.n, a.d, 0⟩ else ⟨0, 0, x⟩

set_option maxHeartbeats 1000000 in
theorem end_any (a : Fr) (cb : Nat) (x : Int) (w : World) (hc : K1 w cb (.int .i64 x)) :
    Calls Try.prog 47 #[.pointer (some ⟨cb, 0, none⟩), .agg #[.int .i64 (a).n, .int .i64 (a).d]] w fun e w' => e = .returned (.tuple #[.agg #[.int .i64 (endE x a).n, .int .i64 (endE x a).d], .int .i64 (endE x a).e]) ∧ Below w.heap.size w w' := by
  have lc := hc.2.2
  have lt0 : cb < w.heap.size + 1 := by omega
  have lt1 : cb ≤ w.heap.size := by omega
  have lt2 : cb < w.heap.size + 1 + 1 := by omega
  have lt3 : cb ≤ w.heap.size + 1 := by omega
  have lt4 : cb < w.heap.size + 1 + 1 + 1 := by omega
  have lt5 : cb ≤ w.heap.size + 1 + 1 := by omega
  refine calls_cps fun R hR => ?_
  have HR := Lib.hid hR
  clear hR
  by_cases hx : x = 0
  · subst hx
    go_enter Try.func47, Try.ntmps47
    go_wp2
    refine ret_B2_tmp (x := .int .i64 a.n) (y := .int .i64 a.d) rfl rfl rfl rfl (by simp [B2, go_sem]) (HR.out _ _ ⟨by simp [endE], ?_⟩)
    (repeat (first | exact Below.refl _ _ | assumption | refine Below.setCell ?_ (by first | omega | (simp; done) | (simp; omega)) _ | refine Below.alloc ?_ (by first | omega | (simp; done) | (simp; omega)) _ | refine Below.drew ?_ | refine below_drewN ?_ _))
  · have hx' : (x != 0) = true := by simpa using hx
    have HX := Lib.hid hx
    clear hx
    go_enter Try.func47, Try.ntmps47
    go_wp2
    go_region
    all_goals
      go_wp2
      refine ret_B2_tmp (x := .int .i64 0) (y := .int .i64 0) rfl rfl rfl rfl (by simp [B2, go_sem]) (HR.out _ _ ⟨by simp [endE, HX.out], ?_⟩)
      (repeat (first | exact Below.refl _ _ | assumption | refine Below.setCell ?_ (by first | omega | (simp; done) | (simp; omega)) _ | refine Below.alloc ?_ (by first | omega | (simp; done) | (simp; omega)) _ | refine Below.drew ?_ | refine below_drewN ?_ _))

/-- the mean number, as the code computes it: the sum so far and the error -/
def numD (l : List Fr) (x : Int) : Nat → Fr × Int
  | 0 => (zeroF, x)
  | k + 1 => (doR (doX (numD l x k).2 (mulE ⟨k, 1⟩ (gt l k))) (addE (numD l x k).1 (doR (numD l x k).2 (mulE ⟨k, 1⟩ (gt l k)))), doX (doX (numD l x k).2 (mulE ⟨k, 1⟩ (gt l k))) (addE (numD l x k).1 (doR (numD l x k).2 (mulE ⟨k, 1⟩ (gt l k)))))

set_option maxRecDepth 100000 in
set_option maxHeartbeats 4000000 in
theorem number_any (cb lo hi : Nat) (v : Value) (l : List Fr) (x : Int) (w : World) (hc : K1 w cb (.int .i64 x)) (hv : RdF w lo hi v l) (hd : cb < lo ∨ hi ≤ cb) (hh : hi ≤ w.heap.size) (hl : l.length ≤ 1000) :
    Calls Try.prog 50 #[.pointer (some ⟨cb, 0, none⟩), v] w fun e w' => e = .returned (.agg #[.int .i64 ((numD l x l.length).1).n, .int .i64 ((numD l x l.length).1).d]) ∧ K1 w' cb (.int .i64 (numD l x l.length).2) ∧ Off cb w.heap.size w w' := by
  obtain ⟨A, c, rfl, hlc, hm⟩ := hv.form
  have hcb := hc.2.2
  refine calls_cps fun R hR => ?_
  have HR := Lib.hid hR
  clear hR
  have M0 : Mem [Loc.rdF lo hi (.slice A l.length c) l, Loc.fr cb w.heap.size w] w := ⟨hv, ⟨Off.refl _ _ _, Nat.le_refl _⟩, True.intro⟩
  clear hv
  go_enter Try.func50, Try.ntmps50
  go_wp2_with fail
  have r0 := K2.new w (.int .i64 0) (.int .i64 0) 23
  replace M0 := M0.alloc (.cells #[.int .i64 0, .int .i64 0] 23)
  have M1 : Mem [Loc.k2 w.heap.size (.int .i64 0) (.int .i64 0), Loc.rdF lo hi (.slice A l.length c) l, Loc.fr cb w.heap.size w] _ := ⟨r0, M0⟩
  replace hc := K1.alloc hc (.cells #[.int .i64 0, .int .i64 0] 23)
  refine (whole_any 0 _).mono ?_
  rintro e w1 ⟨rfl, hb1⟩
  have M := (M1.below hb1).alloc (.cells #[.int .i64 0, .int .i64 1] 23)
  have c1 := K1.alloc (K1.aft hb1 hc) (.cells #[.int .i64 0, .int .i64 1] 23)
  have o1 := K2.new w1 (.int .i64 0) (.int .i64 1) 23
  have hz1 := hb1.size
  simp at hz1
  clear M0 M1 hc r0 hb1
  go_wp2
  go_loopw [11] (fun v11 wr => ∃ k : Nat, k ≤ l.length ∧ v11 = .int .i64 k ∧ K1 wr cb (.int .i64 (numD l x k).2) ∧ K2 wr w1.heap.size (.int .i64 (numD l x k).1.n) (.int .i64 (numD l x k).1.d) ∧ Mem [Loc.k2 w.heap.size (.int .i64 0) (.int .i64 0), Loc.rdF lo hi (.slice A l.length c) l, Loc.fr cb w.heap.size w] wr) (fun v11 _ => l.length - (intOf v11).toNat)
  case atStart => exact ⟨0, by omega, rfl, c1, o1, M⟩
  case round =>
    clear c1 o1 M
    obtain ⟨k, hk, rfl, c1, o1, M⟩ := hrel
    by_cases hlt : k < l.length
    · have hki : decide ((k : Int) < (l.length : Int)) = true := by simp; omega
      obtain ⟨b, off, rfl, lo2, hi2, f4, f5⟩ := M.2.1.at2 (gt_get hlt)
      obtain ⟨s, hs⟩ : ∃ s, (numD l x k).1 = s := ⟨_, rfl⟩
      obtain ⟨y, hy⟩ : ∃ y, (numD l x k).2 = y := ⟨_, rfl⟩
      obtain ⟨a, ha⟩ : ∃ a, gt l k = a := ⟨_, rfl⟩
      rw [hs] at o1
      rw [hy] at c1
      rw [ha] at f4 f5
      have HN : Hid (numD l x (k + 1) = (doR (doX y (mulE ⟨k, 1⟩ a)) (addE s (doR y (mulE ⟨k, 1⟩ a))), doX (doX y (mulE ⟨k, 1⟩ a)) (addE s (doR y (mulE ⟨k, 1⟩ a))))) := Lib.hid (by rw [← hs, ← hy, ← ha]; rfl)
      clear hs hy ha
      have hon : w1.heap.size ≠ cb := by omega
      have hxn : wr.heap.size ≠ cb := by have := c1.2.2; omega
      have hox : w1.heap.size < wr.heap.size := o1.2.2.2.2
      have hgx : w.heap.size ≤ wr.heap.size := M.2.2.1.2
      go_upto_region 5 with (fail)
      have x2 := K2.new wr (.int .i64 a.n) (.int .i64 a.d) 23
      replace M := M.alloc (.cells #[.int .i64 a.n, .int .i64 a.d] 23)
      replace c1 := K1.alloc c1 (.cells #[.int .i64 a.n, .int .i64 a.d] 23)
      replace o1 := K2.alloc o1 (.cells #[.int .i64 a.n, .int .i64 a.d] 23)
      refine wp_region_tail (S := (fun W => K2 W w1.heap.size (.int .i64 s.n) (.int .i64 s.d) ∧ K2 W wr.heap.size (.int .i64 a.n) (.int .i64 a.d))) (by kernel_rfl) rfl (by kernel_rfl) (by exact ⟨o1, x2⟩) (fun hHeld => ?_)
      simp only [List.dropLast]
      refine wpAnyH_take (i := 0) (oi := _) (v := ?_) rfl (by kernel_rfl) (by kernel_rfl) (by kernel_rfl) (fun _ _ _ h => h) (Or.inl ⟨by rfl, ?_⟩) (by assumption) ?_
      rotate_left
      · (intro w hSw; (try dsimp only at hSw); go_simp; try (with_reducible rfl))
      simp only [Act.put, List.setIfInBounds_toArray, List.set_cons_zero, List.set_cons_succ]
      refine wpAnyH_take (i := 1) (oi := _) (v := ?_) rfl (by kernel_rfl) (by kernel_rfl) (by kernel_rfl) (fun _ _ _ h => h) (Or.inl ⟨by rfl, ?_⟩) (by assumption) ?_
      rotate_left
      · (intro w hSw; (try dsimp only at hSw); go_simp; try (with_reducible rfl))
      simp only [Act.put, List.setIfInBounds_toArray, List.set_cons_zero, List.set_cons_succ]
      refine wpAnyH_take (i := 2) (oi := _) (v := ?_) rfl (by kernel_rfl) (by kernel_rfl) (by kernel_rfl) (fun _ _ _ h => h) (Or.inl ⟨by rfl, ?_⟩) (by assumption) ?_
      rotate_left
      · (intro w hSw; (try dsimp only at hSw); go_simp; try (with_reducible rfl))
      simp only [Act.put, List.setIfInBounds_toArray, List.set_cons_zero, List.set_cons_succ]
      refine wpAnyH_take (i := 3) (oi := _) (v := ?_) rfl (by kernel_rfl) (by kernel_rfl) (by kernel_rfl) (fun _ _ _ h => h) (Or.inl ⟨by rfl, ?_⟩) (by assumption) ?_
      rotate_left
      · (intro w hSw; (try dsimp only at hSw); go_simp; try (with_reducible rfl))
      simp only [Act.put, List.setIfInBounds_toArray, List.set_cons_zero, List.set_cons_succ]
      refine wpAnyH_take (i := 5) (oi := _) (v := ?_) rfl (by kernel_rfl) (by kernel_rfl) (by kernel_rfl) (fun _ _ _ h => h) (Or.inl ⟨by rfl, ?_⟩) (by assumption) ?_
      rotate_left
      · (intro w hSw; (try dsimp only at hSw); go_simp; try (with_reducible rfl))
      simp only [Act.put, List.setIfInBounds_toArray, List.set_cons_zero, List.set_cons_succ]
      refine wpAnyH_ready (rs := [4]) (by kernel_rfl) (by simp) ?_
      refine AllReadyH.cons (o := _) rfl (fun K hK => ?_) AllReadyH.nil
      go_simp
      refine (whole_any k _).mono ?_; rintro e w2 ⟨rfl, hb2⟩; replace M := M.drew.below hb2; replace c1 := K1.aft hb2 c1; replace o1 := K2.aft hb2 o1; replace x2 := K2.aft hb2 x2; clear hb2
      (try go_wp2_with fail)
      refine hK.out _ _ ?_ (fun hHeld => ?_)
      · exact ⟨o1, x2⟩
      clear hK K
      try simp only [Act.put, List.setIfInBounds_toArray, List.set_cons_zero, List.set_cons_succ]
      refine wpAnyH_ready (rs := [6]) (by kernel_rfl) (by simp) ?_
      refine AllReadyH.cons (o := _) rfl (fun K hK => ?_) AllReadyH.nil
      go_simp
      refine (do_k 23 ent_mul (mulE ⟨k, 1⟩ a) ⟨k, 1⟩ a (fun W => mul_any _ _ W) cb y _ (by exact c1)).mono ?_; rintro e w3 ⟨rfl, hc3, ho3⟩; replace M := M.off ho3 (by (repeat' (first | exact True.intro | refine And.intro (fun k hk e => ?_) ?_)) <;> (first | exact e | ((try dsimp only [Loc.c1, Loc.c2, Loc.k1, Loc.k2, Loc.k6, Loc.rdF, Loc.rdFF, Loc.all2, Loc.fr, Loc.bl, Loc.own, Loc.sz] at hk e) <;> omega))); replace c1 := hc3; replace o1 := K2.oft ho3 o1 hon; replace x2 := K2.oft ho3 x2 hxn; clear ho3 hc3
      (try go_wp2_with fail)
      refine hK.out _ _ ?_ (fun hHeld => ?_)
      · exact ⟨o1, x2⟩
      clear hK K
      try simp only [Act.put, List.setIfInBounds_toArray, List.set_cons_zero, List.set_cons_succ]
      refine wpAnyH_ready (rs := [7]) (by kernel_rfl) (by simp) ?_
      refine AllReadyH.cons (o := _) rfl (fun K hK => ?_) AllReadyH.nil
      go_simp
      refine (do_k 57 ent_add (addE s (doR y (mulE ⟨k, 1⟩ a))) s (doR y (mulE ⟨k, 1⟩ a)) (fun W => add_any _ _ W) cb _ _ (by exact c1)).mono ?_; rintro e w4 ⟨rfl, hc4, ho4⟩; replace M := M.off ho4 (by (repeat' (first | exact True.intro | refine And.intro (fun k hk e => ?_) ?_)) <;> (first | exact e | ((try dsimp only [Loc.c1, Loc.c2, Loc.k1, Loc.k2, Loc.k6, Loc.rdF, Loc.rdFF, Loc.all2, Loc.fr, Loc.bl, Loc.own, Loc.sz] at hk e) <;> omega))); replace c1 := hc4; replace o1 := K2.oft ho4 o1 hon; replace x2 := K2.oft ho4 x2 hxn; clear ho4 hc4
      (try go_wp2_with fail)
      refine hK.out _ _ ?_ (fun hHeld => ?_)
      · exact ⟨o1, x2⟩
      clear hK K
      try simp only [Act.put, List.setIfInBounds_toArray, List.set_cons_zero, List.set_cons_succ]
      refine wpAnyH_done (by kernel_rfl) ?_ _
      unfold thenLast
      simp only [Exit.then]
      have M2 := Lib.hid (M.set2 (g := w1.heap.size) (i := 0) (j := 1) (u := .int .i64 (doR (doX y (mulE ⟨k, 1⟩ a)) (addE s (doR y (mulE ⟨k, 1⟩ a)))).n) (v := .int .i64 (doR (doX y (mulE ⟨k, 1⟩ a)) (addE s (doR y (mulE ⟨k, 1⟩ a)))).d) (by (repeat' (first | exact True.intro | refine And.intro (fun k hk e => ?_) ?_)) <;> (first | exact e | ((try dsimp only [Loc.c1, Loc.c2, Loc.k1, Loc.k2, Loc.k6, Loc.rdF, Loc.rdFF, Loc.all2, Loc.fr, Loc.bl, Loc.own, Loc.sz] at hk e) <;> omega))))
      have C2 := Lib.hid (K1.far2 c1 (Ne.symm hon) (.int .i64 (doR (doX y (mulE ⟨k, 1⟩ a)) (addE s (doR y (mulE ⟨k, 1⟩ a)))).n) (.int .i64 (doR (doX y (mulE ⟨k, 1⟩ a)) (addE s (doR y (mulE ⟨k, 1⟩ a)))).d))
      have O2 := Lib.hid (K2.set o1 (.int .i64 (doR (doX y (mulE ⟨k, 1⟩ a)) (addE s (doR y (mulE ⟨k, 1⟩ a)))).n) (.int .i64 (doR (doX y (mulE ⟨k, 1⟩ a)) (addE s (doR y (mulE ⟨k, 1⟩ a)))).d))
      clear M c1 x2
      go_wp2_with fail
      go_roundw
      case rel =>
        have hrel : ∃ k' : Nat, k' ≤ l.length ∧ Value.int .i64 ((k : Int) + 1) = .int .i64 k' ∧ K1 _ cb (.int .i64 (numD l x k').2) ∧ K2 _ w1.heap.size (.int .i64 (numD l x k').1.n) (.int .i64 (numD l x k').1.d) ∧ Mem [Loc.k2 w.heap.size (.int .i64 0) (.int .i64 0), Loc.rdF lo hi (.slice (some ⟨b, off, none⟩) l.length c) l, Loc.fr cb w.heap.size w] _ := ⟨k + 1, by omega, by go_num, by rw [HN.out]; exact C2.out, by rw [HN.out]; exact O2.out, M2.out⟩
        first | exact hrel | ((repeat apply Exists.intro); exact ⟨hrel, rfl⟩)
      case measure => first | (simp [intOf]; done) | (simp [intOf]; omega)
    · have hki : decide ((k : Int) < (l.length : Int)) = false := by simp; omega
      obtain rfl : k = l.length := by omega
      obtain ⟨r1, rf, fr, _⟩ := M
      have hro : w.heap.size ≠ cb := by omega
      have HF := Lib.hid fr.1
      have HC := Lib.hid c1
      clear rf fr
      go_wp2_with fail
      refine ret_B2 rfl rfl rfl (K2.set r1 _ _) (HR.out _ _ ⟨rfl, K1.far2 HC.out (Ne.symm hro) _ _, ?_⟩)
      have := HF.out
      (repeat (first | exact Off.refl _ _ _ | assumption | refine Off.setCell ?_ (by first | (left; first | omega | (simp; done) | (simp; omega)) | (right; rfl)) _ | refine Off.alloc ?_ (by first | omega | (simp; done) | (simp; omega)) _ | refine Off.drew ?_ | refine Off.drewN ?_ _))

end Go.Proofs.Ythlgkomhnhkooaa
