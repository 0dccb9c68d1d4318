/-
  Texts joined: Eq, SpAd, SpC, NtC, NtD, Frac1, Frac2, Frac3, FMk, Frac4, Ref01b, FrA, NtB, NtE, NtG, NtM. Conditions: none.
-/
import Derived.Test.YtanfaepjamkbjaaGreatJC2
import Derived.Test.YtanfaepjamkbjaaGreatJC5
import Derived.Test.YtanfaepjamkbjaaGreatJC4
import Derived.Test.YtanfaepjamkbjaaGreatJC1
section
namespace Go.Proofs.YtanfaepjamkbjaaGreat
set_option linter.unusedSimpArgs false
set_option linter.unusedVariables false
open Go.RowKit

/-- a list, returned: it lies in new memory -/
def RetL (w : World) (l : List Int) (e : Ending) (w' : World) : Prop :=
  ∃ A c, e = .returned (.slice A l.length c) ∧ RdI w' w.heap.size w'.heap.size (.slice A l.length c) l ∧ Below w.heap.size w w'
theorem RetL.mk {w w' : World} {l : List Int} {n k : Nat} {A : Option Addr} (hn : n = l.length) {lo hi : Nat} (hr : RdI w' lo hi (.slice A n k) l) (hlo : w.heap.size ≤ lo) (hhi : hi ≤ w'.heap.size) (hb : Below w.heap.size w w') : RetL w l (.returned (.slice A n k)) w' := by
  subst hn
  exact ⟨A, k, rfl, hr.mono hlo hhi, hb⟩

/-- two lists of one length, equal or not, element by element -/
def eqLs {α : Type} [DecidableEq α] : List α → List α → Bool
  | [], [] => true
  | x :: a, y :: b => if x = y then eqLs a b else false
  | _, _ => false
theorem eqLs_iff {α : Type} [DecidableEq α] : ∀ a b : List α, eqLs a b = decide (a = b)
  | [], [] => rfl
  | [], _ :: _ => by simp [eqLs]
  | _ :: _, [] => by simp [eqLs]
  | x :: a, y :: b => by
    rw [eqLs, eqLs_iff a b]
    by_cases h : x = y <;> simp [h]
theorem eqLs_len {α : Type} [DecidableEq α] {a b : List α} (h : a.length ≠ b.length) : decide (a = b) = false := by
  simp
  intro e
  exact h (by rw [e])

set_option maxHeartbeats 1000000 in
theorem equalI_any (a b : List Int) (lo hi lo2 hi2 : Nat) (v1 v2 : Value) (w : World) (h1 : RdI w lo hi v1 a) (h2 : RdI w lo2 hi2 v2 b) :
    Calls Tryz.prog 26 #[v1, v2] w fun e w' => e = .returned (.bool (decide (a = b))) ∧ Below w.heap.size w w' := by
  obtain ⟨A1, c1, rfl, hc1, hm1⟩ := h1.form
  obtain ⟨A2, c2, rfl, hc2, hm2⟩ := h2.form
  have H1 := Lib.hid h1
  have H2 := Lib.hid h2
  clear h1 h2
  refine calls_cps fun R hR => ?_
  have HR := Lib.hid hR
  clear hR
  go_enter Tryz.func26, Tryz.ntmps26
  by_cases hl : a.length = b.length
  · have hl' : (a.length : Int) = b.length := by omega
    have HL := Lib.hid hl
    clear hl
    go_wp2_with fail
    go_loopw [13, 5] (fun v13 _ wr => ∃ (k q : Nat), k ≤ a.length ∧ v13 = .int .i64 k ∧ wr = w.drewN q ∧ Hid (decide (a = b) = eqLs (a.drop k) (b.drop k))) (fun v13 _ _ => a.length - (intOf v13).toNat)
    case atStart => exact ⟨0, 0, by omega, rfl, rfl, Lib.hid (by rw [← eqLs_iff]; rfl)⟩
    case round =>
      obtain ⟨k, q, hk, rfl, rfl, HI⟩ := hrel
      by_cases hlt : k < a.length
      · have hkd : decide ((k : Int) < (a.length : Int)) = true := by simp; omega
        have hkb : (k : Int) < (a.length : Int) := by omega
        have hkc : (k : Int) < (b.length : Int) := by omega
        obtain ⟨b1, o1, rfl, _, _, f1⟩ := RdI.at1 H1.out hlt
        obtain ⟨b2, o2, rfl, _, _, f2⟩ := RdI.at1 H2.out (k := k) (by have := HL.out; omega)
        have HJ : Hid (decide (a = b) = if gti a k = gti b k then eqLs (a.drop (k + 1)) (b.drop (k + 1)) else false) := Lib.hid (by rw [HI.out, drop_gti hlt, drop_gti (l := b) (k := k) (by have := HL.out; omega), eqLs])
        generalize gti a k = x at *
        generalize gti b k = y at *
        go_wp2
        go_quiet (fail)
        go_wp2
        all_goals have hj := HJ.out
        · refine HR.out _ _ ⟨ret_bool ?_, below_drewN (below_drewN (Below.refl _ _) _) _⟩
          clear HJ HI; go_light; grind
        all_goals first
          | (refine ⟨⟨k + 1, q + nq, by omega, by go_num, by first | rfl | rw [World.drewN_drewN], Lib.hid (by clear HJ HI; go_light; grind)⟩, by simp [intOf]; omega⟩)
      · have hkd : decide ((k : Int) < (a.length : Int)) = false := by simp; omega
        have HE : Hid (decide (a = b) = true) := Lib.hid (by rw [HI.out, List.drop_eq_nil_of_le (by omega), List.drop_eq_nil_of_le (by have := HL.out; omega)]; rfl)
        clear HI
        go_wp2
        exact HR.out _ _ ⟨ret_bool HE.out.symm, below_drewN (Below.refl _ _) _⟩
  · have hl' : ¬ (a.length : Int) = b.length := by omega
    have HL := Lib.hid hl
    clear hl
    go_wp2_with fail
    exact HR.out _ _ ⟨ret_bool (eqLs_len HL.out).symm, Below.refl _ _⟩

end Go.Proofs.YtanfaepjamkbjaaGreat
end
section
namespace Go.Proofs.YtanfaepjamkbjaaGreat.Aw
set_option linter.unusedSimpArgs false
set_option linter.unusedVariables false
open Go.RowKit Go.Proofs
variable {P : Program} [IsP P]

/-- two lists of numbers -/
theorem argsII {G : Cx} {vargs : Array Value} {a b : List Int} (hst : ∀ b o, G.St b o → b < G.w.heap.size) (hsz : vargs.size = [eL eI a, eL eI b].length) (hrep : ∀ (j : Nat) v y, vargs[j]? = some v → [eL eI a, eL eI b][j]? = some y → Rep G v y) :
    ∃ x y, vargs = #[x, y] ∧ RdI G.w 0 G.w.heap.size x a ∧ RdI G.w 0 G.w.heap.size y b := by
  obtain ⟨q⟩ := vargs
  match q, hsz with
  | [x, y], _ => exact ⟨x, y, rfl, rep_rdI (hrep 0 x _ rfl rfl) hst, rep_rdI (hrep 1 y _ rfl rfl) hst⟩
theorem eqI_pf (a b : List Int) : Pure P 26 [eL eI a, eL eI b] (eB (decide (a = b))) :=
  retB_pure (ent_of Tryz.func26 rfl rfl) fun G vargs hst hsz hrep => by
    obtain ⟨x, y, rfl, h1, h2⟩ := argsII hst hsz hrep
    exact equalI_any a b _ _ _ _ x y G.w h1 h2
theorem Fire_pf (n : Net) (m : List Int) (t : Int) : Pure P 23 [eN n, eL eI m, eI t] (.tup [eL eI (FireE n m t).1, eI (FireE n m t).2]) :=
  retI_pure (ent_of Tryz.func23 rfl rfl) fun G vargs hst hsz hrep => by
    obtain ⟨vt, v, rfl, h1, h2⟩ := args3 hst hsz hrep
    exact Fire_any n m t vt v _ _ _ _ G.w h1 h2
theorem initial_pf (n : Net) : Pure P 21 [eN n] (.tup [eL eI (oneE n n.source).1, eI (oneE n n.source).2]) :=
  retI_pure (ent_of Tryz.func21 rfl rfl) fun G vargs hst hsz hrep => by
    obtain ⟨vt, rfl, h1⟩ := args1 hst hsz hrep
    exact initial_any n vt _ _ G.w h1
theorem enabled_pf (n : Net) (m : List Int) : Pure P 22 [eN n, eL eI m] (.tup [eL eI (enabledE n m).1, eI (enabledE n m).2]) :=
  retI_pure (ent_of Tryz.func22 rfl rfl) fun G vargs hst hsz hrep => by
    obtain ⟨vt, v, rfl, h1, h2⟩ := args2 hst hsz hrep
    exact Enabled_any n m vt v _ _ _ _ G.w h1 h2
theorem can_pf (n : Net) (m : List Int) (t : Nat) (ht : t < n.trans.length) (hin : ∀ k, k < (gti n.trans t).inn.length → 0 ≤ gti (gti n.trans t).inn k ∧ gti (gti n.trans t).inn k < m.length) : Pure P 29 [eN n, eL eI m, eI t] (eB (canL m (gti n.trans t).inn)) :=
  retB_pure (ent_of Tryz.func29 rfl rfl) fun G vargs hst hsz hrep => by
    obtain ⟨vt, v, rfl, h1, h2⟩ := args3 hst hsz hrep
    exact can_any n m t vt v _ _ _ _ G.w h1 h2 ht hin
end Go.Proofs.YtanfaepjamkbjaaGreat.Aw
end
section
namespace Go.Proofs.YtanfaepjamkbjaaGreat.Aw
set_option linter.unusedSimpArgs false
set_option linter.unusedVariables false
set_option linter.unusedSectionVars false
open Go Go.RowKit Go.Proofs Go.Maps Go.WideMaps
variable {P : Program} [IsP P]

end Go.Proofs.YtanfaepjamkbjaaGreat.Aw
end
section
namespace Go.Proofs.YtanfaepjamkbjaaGreat.Aw
set_option linter.unusedSimpArgs false
set_option linter.unusedVariables false
set_option linter.unusedSectionVars false
open Go Go.RowKit Go.Proofs
variable {P : Program} [IsP P]
theorem ext_gtiN {a b : List Int} (hl : a.length = b.length) (h : ∀ j, j < a.length → gti a j = gti b j) : a = b := by
  refine List.ext_getElem? fun j => ?_
  by_cases hj : j < a.length
  · rw [gti_get hj, gti_get (by omega), h j hj]
  · rw [List.getElem?_eq_none (by omega), List.getElem?_eq_none (by omega)]
theorem findI_at {l : List (List Int)} {m : List Int} {k : Nat} (hk : k < l.length) (h : gti l k = m) (hno : ∀ j, j < k → gti l j ≠ m) : findI l m = k := by
  have hg := gti_get hk
  rw [h] at hg
  exact firstAt_some hg (decide_eq_true rfl) (fun j a hj ha => decide_eq_false (fun e => hno j hj (by unfold Go.Proofs.YtanfaepjamkbjaaGreat.gti; rw [ha, e]; rfl)))
theorem findI_none {l : List (List Int)} {m : List Int} (hno : ∀ j, j < l.length → gti l j ≠ m) : findI l m = -1 :=
  firstAt_none (fun j a hj ha => decide_eq_false (fun e => hno j hj (by unfold Go.Proofs.YtanfaepjamkbjaaGreat.gti; rw [ha, e]; rfl)))
theorem rfind_pf (l : List (List Int)) (m : List Int) (hl : ∀ x ∈ l, x.length = m.length) : Pure P 31 [eL (eL eI) l, eL eI m] (eI (findI l m)) := by
  refine aw_fn (by rw [IsP.eq (P := P)]; exact Tryz.func31) rfl rfl rfl rfl rfl (lo_cons (lo_map (fun a => lo_I)) (lo_cons lo_I lo_nil)) (.s _) (by simp only [argF]; rfl) ?_
  refine aw_bdm (d := 0) rfl (fun hmx => ?_)
  refine aw_bdm (d := 1) rfl (fun hmx1 => ?_)
  unfold maxLen at hmx hmx1
  repeat (first | refine aw_seq ?_ | refine ath_n ?_ | refine aw_skip ?_ | refine abl_n ?_ | refine aw_block ?_)
  refine aw_region ?_
  refine ops_op rfl rfl (runs_none rfl) (mv_s (.inr rfl) rfl) ?_
  refine ops_nil ?_
  repeat (first | refine aw_seq ?_ | refine ath_n ?_ | refine aw_skip ?_ | refine abl_n ?_ | refine aw_block ?_)
  refine aw_region ?_
  refine ops_op rfl rfl (runs_none rfl) (mv_s (.inr rfl) rfl) ?_
  refine ops_nil ?_
  repeat (first | refine aw_seq ?_ | refine ath_n ?_ | refine aw_skip ?_ | refine abl_n ?_ | refine aw_block ?_)
  refine aw_loops (S := Nat) (fun k => [(0, eL (eL eI) l), (1, eL eI m), (5, eI k)]) (fun _ => []) (fun k => k ≤ l.length ∧ ∀ j, j < k → gti l j ≠ m) (fun k => l.length - k) 0 (wk_sub _ ⟨rfl, rfl, rfl, trivial⟩) ⟨Nat.zero_le _, fun j hj => by omega⟩ (fun k hk => ?_)
  obtain ⟨hk, hno⟩ := hk
  repeat (first | refine aw_seq ?_ | refine ath_n ?_ | refine aw_skip ?_ | refine abl_n ?_ | refine aw_block ?_)
  all_goals refine aw_region ?_
  all_goals refine ops_op rfl rfl (runs_none rfl) (mv_s (.inl rfl) rfl) ?_
  all_goals (first | refine ops_op rfl rfl (runs_none rfl) (mv_own (.inl rfl) rfl) ?_ | refine ops_op rfl rfl (runs_none rfl) (mv_sl (.inl rfl) rfl) ?_ | refine ops_op rfl rfl (runs_none rfl) (mv_s (.inl rfl) rfl) ?_ | refine ops_op rfl rfl (runs_none rfl) (mv_emp (.inl rfl) rfl) ?_ | refine ops_op rfl rfl (runs_none rfl) (mv_sub (.inl rfl) rfl) ?_)
  all_goals (first | refine ops_op rfl rfl (runs_none rfl) (does_len_map rfl ts56 rfl) ?_ | refine ops_op rfl rfl (runs_none rfl) (does_len_sl rfl ts56 rfl) ?_ | refine ops_op rfl rfl (runs_none rfl) (does_len_own rfl ts56 rfl) ?_ | refine ops_op rfl rfl (runs_none rfl) (does_len_s rfl ts56 rfl) ?_ | refine ops_op rfl rfl (runs_none rfl) (does_len_emp rfl ts56 rfl) ?_ | refine ops_op rfl rfl (runs_none rfl) (does_len_sub rfl ts56 rfl) ?_)
  all_goals (first | refine ops_opP rfl rfl (runs_none rfl) (does_lss rfl rfl rfl) (fun h11 => ?_) (fun h11 => ?_) | refine ops_opB rfl rfl (runs_none rfl) (does_lss rfl rfl rfl) (fun h11 => ?_) (fun h11 => ?_))
  all_goals refine ops_nil ?_
  all_goals (repeat (first | refine aw_seq ?_ | refine ath_n ?_ | refine aw_skip ?_ | refine abl_n ?_ | refine aw_block ?_))
  all_goals (first | refine aw_true rfl ?_ | refine aw_false rfl ?_)
  all_goals (repeat (first | refine aw_seq ?_ | refine ath_n ?_ | refine aw_skip ?_ | refine abl_n ?_ | refine aw_block ?_))
  · have hlt : k < l.length := by omega
    have hix : (l.map (eL eI))[k]? = some (eL eI (gti l k)) := ix_map hlt
    have hxl := hl _ (gti_mem hlt)
    have hat := fun h => findI_at hlt h hno
    have hnx : gti l k ≠ m → ∀ j, j < k + 1 → gti l j ≠ m := fun h j hj => by
      by_cases e : j = k
      · subst e; exact h
      · exact hno j (by omega)
    generalize gti l k = x at *
    refine aw_region ?_
    refine ops_op rfl rfl (runs_none rfl) (mv_s (.inr rfl) rfl) ?_
    refine ops_nil ?_
    repeat (first | refine aw_seq ?_ | refine ath_n ?_ | refine aw_skip ?_ | refine abl_n ?_ | refine aw_block ?_)
    refine aw_region ?_
    refine ops_op rfl rfl (runs_none rfl) (mv_s (.inr rfl) rfl) ?_
    refine ops_nil ?_
    repeat (first | refine aw_seq ?_ | refine ath_n ?_ | refine aw_skip ?_ | refine abl_n ?_ | refine aw_block ?_)
    refine aw_loops (S := Nat × Bool) (fun s => [(0, eL (eL eI) l), (1, eL eI m), (5, eI k), (6, eB s.2), (7, eI s.1)]) (fun _ => []) (fun s => s.1 ≤ m.length ∧ (s.2 = true ↔ ∀ i, i < s.1 → gti x i = gti m i)) (fun s => m.length - s.1) (0, true) (wk_sub _ ⟨rfl, rfl, rfl, rfl, rfl, trivial⟩) ⟨Nat.zero_le _, by simp⟩ (fun s hs => ?_)
    obtain ⟨j, z⟩ := s
    obtain ⟨hj, hz⟩ := hs
    replace hj : j ≤ m.length := hj
    replace hz : z = true ↔ ∀ i, i < j → gti x i = gti m i := hz
    repeat (first | refine aw_seq ?_ | refine ath_n ?_ | refine aw_skip ?_ | refine abl_n ?_ | refine aw_block ?_)
    all_goals refine aw_region ?_
    all_goals refine ops_op rfl rfl (runs_none rfl) (mv_s (.inl rfl) rfl) ?_
    all_goals (first | refine ops_op rfl rfl (runs_none rfl) (mv_own (.inl rfl) rfl) ?_ | refine ops_op rfl rfl (runs_none rfl) (mv_sl (.inl rfl) rfl) ?_ | refine ops_op rfl rfl (runs_none rfl) (mv_s (.inl rfl) rfl) ?_ | refine ops_op rfl rfl (runs_none rfl) (mv_emp (.inl rfl) rfl) ?_ | refine ops_op rfl rfl (runs_none rfl) (mv_sub (.inl rfl) rfl) ?_)
    all_goals (first | refine ops_op rfl rfl (runs_none rfl) (does_len_map rfl ts25 rfl) ?_ | refine ops_op rfl rfl (runs_none rfl) (does_len_sl rfl ts25 rfl) ?_ | refine ops_op rfl rfl (runs_none rfl) (does_len_own rfl ts25 rfl) ?_ | refine ops_op rfl rfl (runs_none rfl) (does_len_s rfl ts25 rfl) ?_ | refine ops_op rfl rfl (runs_none rfl) (does_len_emp rfl ts25 rfl) ?_ | refine ops_op rfl rfl (runs_none rfl) (does_len_sub rfl ts25 rfl) ?_)
    all_goals (first | refine ops_opP rfl rfl (runs_none rfl) (does_lss rfl rfl rfl) (fun h17 => ?_) (fun h17 => ?_) | refine ops_opB rfl rfl (runs_none rfl) (does_lss rfl rfl rfl) (fun h17 => ?_) (fun h17 => ?_))
    all_goals refine ops_nil ?_
    all_goals (repeat (first | refine aw_seq ?_ | refine ath_n ?_ | refine aw_skip ?_ | refine abl_n ?_ | refine aw_block ?_))
    all_goals (first | refine aw_true rfl ?_ | refine aw_false rfl ?_)
    all_goals (repeat (first | refine aw_seq ?_ | refine ath_n ?_ | refine aw_skip ?_ | refine abl_n ?_ | refine aw_block ?_))
    all_goals dsimp only at h17
    · have hjl : j < m.length := by omega
      have hix1 : (x.map eI)[j]? = some (eI (gti x j)) := ix_map (by omega)
      have hix2 : (m.map eI)[j]? = some (eI (gti m j)) := ix_map hjl
      by_cases he : gti x j = gti m j
      · skip
        refine aw_draw hmix ?_
        refine adraw_quiet (by kernel_rfl) ?_
        first | refine qx_op rfl rfl (runs_none rfl) (mv_own (.inl rfl) rfl) ?_ | refine qx_op rfl rfl (runs_none rfl) (mv_sl (.inl rfl) rfl) ?_ | refine qx_op rfl rfl (runs_none rfl) (mv_s (.inl rfl) rfl) ?_ | refine qx_op rfl rfl (runs_none rfl) (mv_emp (.inl rfl) rfl) ?_ | refine qx_op rfl rfl (runs_none rfl) (mv_sub (.inl rfl) rfl) ?_
        refine qx_op rfl rfl (runs_none rfl) (mv_s (.inl rfl) rfl) ?_
        first | refine qx_op rfl rfl (runs_none rfl) (does_index_sl rfl ts56 ti25 rfl rfl rfl hix rfl) ?_ | refine qx_op rfl rfl (runs_none rfl) (does_index_own rfl ts56 ti25 rfl rfl rfl hix) ?_ | refine qx_op rfl rfl (runs_none rfl) (does_index_sub rfl ts56 ti25 rfl rfl rfl hix) ?_
        first | refine qx_op rfl rfl (runs_none rfl) (does_load_ref rfl ta25 rfl) ?_ | refine qx_op rfl rfl (runs_none rfl) (does_load_ptr rfl ta25 rfl rfl rfl rfl rfl) ?_
        refine qx_op rfl rfl (runs_none rfl) (mv_s (.inl rfl) rfl) ?_
        first | refine qx_op rfl rfl (runs_none rfl) (does_index_sl rfl ts25 ti3 rfl rfl rfl hix1 rfl) ?_ | refine qx_op rfl rfl (runs_none rfl) (does_index_own rfl ts25 ti3 rfl rfl rfl hix1) ?_ | refine qx_op rfl rfl (runs_none rfl) (does_index_sub rfl ts25 ti3 rfl rfl rfl hix1) ?_
        first | refine qx_op rfl rfl (runs_none rfl) (does_load_ref rfl ta3 rfl) ?_ | refine qx_op rfl rfl (runs_none rfl) (does_load_ptr rfl ta3 rfl rfl rfl rfl rfl) ?_
        first | refine qx_op rfl rfl (runs_none rfl) (mv_own (.inl rfl) rfl) ?_ | refine qx_op rfl rfl (runs_none rfl) (mv_sl (.inl rfl) rfl) ?_ | refine qx_op rfl rfl (runs_none rfl) (mv_s (.inl rfl) rfl) ?_ | refine qx_op rfl rfl (runs_none rfl) (mv_emp (.inl rfl) rfl) ?_ | refine qx_op rfl rfl (runs_none rfl) (mv_sub (.inl rfl) rfl) ?_
        refine qx_op rfl rfl (runs_none rfl) (mv_s (.inl rfl) rfl) ?_
        first | refine qx_op rfl rfl (runs_none rfl) (does_index_sl rfl ts25 ti3 rfl rfl rfl hix2 rfl) ?_ | refine qx_op rfl rfl (runs_none rfl) (does_index_own rfl ts25 ti3 rfl rfl rfl hix2) ?_ | refine qx_op rfl rfl (runs_none rfl) (does_index_sub rfl ts25 ti3 rfl rfl rfl hix2) ?_
        first | refine qx_op rfl rfl (runs_none rfl) (does_load_ref rfl ta3 rfl) ?_ | refine qx_op rfl rfl (runs_none rfl) (does_load_ptr rfl ta3 rfl rfl rfl rfl rfl) ?_
        refine qx_op rfl rfl (runs_none rfl) (dec_f (fun h => h he) (does_neq rfl rfl rfl)) ?_
        refine qx_nil ?_
        repeat (first | refine aw_seq ?_ | refine ath_n ?_ | refine aw_skip ?_ | refine abl_n ?_ | refine aw_block ?_)
        refine aw_false rfl ?_
        repeat (first | refine aw_seq ?_ | refine ath_n ?_ | refine aw_skip ?_ | refine abl_n ?_ | refine aw_block ?_)
        refine aw_region ?_
        refine ops_op rfl rfl (runs_none rfl) (mv_s (.inl rfl) rfl) ?_
        refine ops_op rfl rfl (runs_none rfl) (does_add rfl rfl rfl (IntWalk.i64_in _ (by omega))) ?_
        refine ops_op rfl rfl (runs_none rfl) (mv_s (.inr rfl) rfl) ?_
        refine ops_nil ?_
        repeat (first | refine aw_seq ?_ | refine ath_n ?_ | refine aw_skip ?_ | refine abl_n ?_ | refine aw_block ?_)
        refine ⟨(j + 1, z), ⟨by show j + 1 ≤ m.length; omega, hz.trans ⟨fun h i hi => ?_, fun h i hi => h i (by show i < j + 1; omega)⟩⟩, by show m.length - (j + 1) < m.length - j; omega, wk_sub _ ⟨rfl, rfl, rfl, rfl, rfl, trivial⟩⟩
        by_cases e : i = j
        · subst e; exact he
        · exact h i (by have : i < j + 1 := hi; omega)
      · skip
        refine aw_draw hmix ?_
        refine adraw_quiet (by kernel_rfl) ?_
        first | refine qx_op rfl rfl (runs_none rfl) (mv_own (.inl rfl) rfl) ?_ | refine qx_op rfl rfl (runs_none rfl) (mv_sl (.inl rfl) rfl) ?_ | refine qx_op rfl rfl (runs_none rfl) (mv_s (.inl rfl) rfl) ?_ | refine qx_op rfl rfl (runs_none rfl) (mv_emp (.inl rfl) rfl) ?_ | refine qx_op rfl rfl (runs_none rfl) (mv_sub (.inl rfl) rfl) ?_
        refine qx_op rfl rfl (runs_none rfl) (mv_s (.inl rfl) rfl) ?_
        first | refine qx_op rfl rfl (runs_none rfl) (does_index_sl rfl ts56 ti25 rfl rfl rfl hix rfl) ?_ | refine qx_op rfl rfl (runs_none rfl) (does_index_own rfl ts56 ti25 rfl rfl rfl hix) ?_ | refine qx_op rfl rfl (runs_none rfl) (does_index_sub rfl ts56 ti25 rfl rfl rfl hix) ?_
        first | refine qx_op rfl rfl (runs_none rfl) (does_load_ref rfl ta25 rfl) ?_ | refine qx_op rfl rfl (runs_none rfl) (does_load_ptr rfl ta25 rfl rfl rfl rfl rfl) ?_
        refine qx_op rfl rfl (runs_none rfl) (mv_s (.inl rfl) rfl) ?_
        first | refine qx_op rfl rfl (runs_none rfl) (does_index_sl rfl ts25 ti3 rfl rfl rfl hix1 rfl) ?_ | refine qx_op rfl rfl (runs_none rfl) (does_index_own rfl ts25 ti3 rfl rfl rfl hix1) ?_ | refine qx_op rfl rfl (runs_none rfl) (does_index_sub rfl ts25 ti3 rfl rfl rfl hix1) ?_
        first | refine qx_op rfl rfl (runs_none rfl) (does_load_ref rfl ta3 rfl) ?_ | refine qx_op rfl rfl (runs_none rfl) (does_load_ptr rfl ta3 rfl rfl rfl rfl rfl) ?_
        first | refine qx_op rfl rfl (runs_none rfl) (mv_own (.inl rfl) rfl) ?_ | refine qx_op rfl rfl (runs_none rfl) (mv_sl (.inl rfl) rfl) ?_ | refine qx_op rfl rfl (runs_none rfl) (mv_s (.inl rfl) rfl) ?_ | refine qx_op rfl rfl (runs_none rfl) (mv_emp (.inl rfl) rfl) ?_ | refine qx_op rfl rfl (runs_none rfl) (mv_sub (.inl rfl) rfl) ?_
        refine qx_op rfl rfl (runs_none rfl) (mv_s (.inl rfl) rfl) ?_
        first | refine qx_op rfl rfl (runs_none rfl) (does_index_sl rfl ts25 ti3 rfl rfl rfl hix2 rfl) ?_ | refine qx_op rfl rfl (runs_none rfl) (does_index_own rfl ts25 ti3 rfl rfl rfl hix2) ?_ | refine qx_op rfl rfl (runs_none rfl) (does_index_sub rfl ts25 ti3 rfl rfl rfl hix2) ?_
        first | refine qx_op rfl rfl (runs_none rfl) (does_load_ref rfl ta3 rfl) ?_ | refine qx_op rfl rfl (runs_none rfl) (does_load_ptr rfl ta3 rfl rfl rfl rfl rfl) ?_
        refine qx_op rfl rfl (runs_none rfl) (dec_t he (does_neq rfl rfl rfl)) ?_
        refine qx_nil ?_
        repeat (first | refine aw_seq ?_ | refine ath_n ?_ | refine aw_skip ?_ | refine abl_n ?_ | refine aw_block ?_)
        refine aw_true rfl ?_
        repeat (first | refine aw_seq ?_ | refine ath_n ?_ | refine aw_skip ?_ | refine abl_n ?_ | refine aw_block ?_)
        refine aw_region ?_
        refine ops_op rfl rfl (runs_none rfl) (mv_s (.inr rfl) rfl) ?_
        refine ops_nil ?_
        repeat (first | refine aw_seq ?_ | refine ath_n ?_ | refine aw_skip ?_ | refine abl_n ?_ | refine aw_block ?_)
        refine aw_region ?_
        refine ops_op rfl rfl (runs_none rfl) (mv_s (.inl rfl) rfl) ?_
        refine ops_op rfl rfl (runs_none rfl) (does_add rfl rfl rfl (IntWalk.i64_in _ (by omega))) ?_
        refine ops_op rfl rfl (runs_none rfl) (mv_s (.inr rfl) rfl) ?_
        refine ops_nil ?_
        repeat (first | refine aw_seq ?_ | refine ath_n ?_ | refine aw_skip ?_ | refine abl_n ?_ | refine aw_block ?_)
        exact ⟨(j + 1, false), ⟨by show j + 1 ≤ m.length; omega, ⟨fun h => (by cases h), fun h => absurd (h j (by show j < j + 1; omega)) he⟩⟩, by show m.length - (j + 1) < m.length - j; omega, wk_sub _ ⟨rfl, rfl, rfl, rfl, rfl, trivial⟩⟩
    · have e : j = m.length := by omega
      subst e
      (refine aw_exit ?_; repeat (first | refine ath_x ?_ | refine abl_hit ?_ | refine abl_miss rfl ?_ | refine abl_n ?_ | refine ath_n ?_ | refine aw_seq ?_ | refine aw_skip ?_ | refine aw_block ?_))
      cases z with
      | true =>
        have hxm : x = m := ext_gtiN hxl (fun i hi => hz.1 rfl i (by omega))
        refine aw_region ?_
        refine ops_op rfl rfl (runs_none rfl) (mv_s (.inl rfl) rfl) ?_
        refine ops_nil ?_
        repeat (first | refine aw_seq ?_ | refine ath_n ?_ | refine aw_skip ?_ | refine abl_n ?_ | refine aw_block ?_)
        refine aw_true rfl ?_
        repeat (first | refine aw_seq ?_ | refine ath_n ?_ | refine aw_skip ?_ | refine abl_n ?_ | refine aw_block ?_)
        refine aw_region ?_
        refine ops_op rfl rfl (runs_none rfl) (mv_s (.inl rfl) rfl) ?_
        refine ops_op rfl rfl (runs_none rfl) (mv_s (.inr rfl) rfl) ?_
        refine ops_nil ?_
        repeat (first | refine aw_seq ?_ | refine ath_n ?_ | refine aw_skip ?_ | refine abl_n ?_ | refine aw_block ?_)
        (refine aw_ret ?_; repeat (first | refine ath_r ?_ | refine abl_r ?_))
        exact post1 (.inr rfl) rfl (congrArg eI (hat hxm).symm)
      | false =>
        have hxm : x ≠ m := fun e => by
          subst e
          have := hz.2 (fun i _ => rfl)
          cases this
        refine aw_region ?_
        refine ops_op rfl rfl (runs_none rfl) (mv_s (.inl rfl) rfl) ?_
        refine ops_nil ?_
        repeat (first | refine aw_seq ?_ | refine ath_n ?_ | refine aw_skip ?_ | refine abl_n ?_ | refine aw_block ?_)
        refine aw_false rfl ?_
        repeat (first | refine aw_seq ?_ | refine ath_n ?_ | refine aw_skip ?_ | refine abl_n ?_ | refine aw_block ?_)
        refine aw_region ?_
        refine ops_op rfl rfl (runs_none rfl) (mv_s (.inl rfl) rfl) ?_
        refine ops_op rfl rfl (runs_none rfl) (does_add rfl rfl rfl (IntWalk.i64_in _ (by omega))) ?_
        refine ops_op rfl rfl (runs_none rfl) (mv_s (.inr rfl) rfl) ?_
        refine ops_nil ?_
        repeat (first | refine aw_seq ?_ | refine ath_n ?_ | refine aw_skip ?_ | refine abl_n ?_ | refine aw_block ?_)
        exact ⟨k + 1, ⟨by omega, hnx hxm⟩, by omega, wk_sub _ ⟨rfl, rfl, rfl, trivial⟩⟩
  · have e : k = l.length := by omega
    subst e
    (refine aw_exit ?_; repeat (first | refine ath_x ?_ | refine abl_hit ?_ | refine abl_miss rfl ?_ | refine abl_n ?_ | refine ath_n ?_ | refine aw_seq ?_ | refine aw_skip ?_ | refine aw_block ?_))
    refine aw_region ?_
    refine ops_op rfl rfl (runs_none rfl) (mv_s (.inr rfl) rfl) ?_
    refine ops_nil ?_
    repeat (first | refine aw_seq ?_ | refine ath_n ?_ | refine aw_skip ?_ | refine abl_n ?_ | refine aw_block ?_)
    (refine aw_ret ?_; repeat (first | refine ath_r ?_ | refine abl_r ?_))
    exact post1 (.inr rfl) rfl (congrArg eI (findI_none hno).symm)
end Go.Proofs.YtanfaepjamkbjaaGreat.Aw
end
section
namespace Go.Proofs.YtanfaepjamkbjaaGreat.Aw
set_option linter.unusedSimpArgs false
set_option linter.unusedVariables false
set_option linter.unusedSectionVars false
open Go Go.RowKit Go.Proofs
variable {P : Program} [IsP P]
theorem indexFI_pf (f : FuncId) (caps : List AV) (p : Int → Bool) (l : List Int) (hlo : ∀ a : Int, Lo 0 (eI a)) (hlc : Lo 0 (.fn f caps)) (hf : ∀ a ∈ l, Pure P f ([eI a] ++ caps) (eB (p a))) :
    Pure P 54 [eL eI l, .fn f caps] (eI (firstAt p l)) := by
  refine aw_fn (by rw [IsP.eq (P := P)]; exact Tryz.func54) rfl rfl rfl rfl rfl (lo_cons (lo_map hlo) (lo_cons hlc lo_nil)) (.s _) (by simp only [argF]; rfl) ?_
  refine aw_bdm (d := 0) rfl (fun hmx => ?_)
  unfold maxLen at hmx
  repeat (first | refine aw_seq ?_ | refine ath_n ?_ | refine aw_skip ?_ | refine abl_n ?_ | refine aw_block ?_)
  refine aw_region ?_
  refine ops_op rfl rfl (runs_none rfl) (mv_s (.inr rfl) rfl) ?_
  refine ops_nil ?_
  repeat (first | refine aw_seq ?_ | refine ath_n ?_ | refine aw_skip ?_ | refine abl_n ?_ | refine aw_block ?_)
  refine aw_region ?_
  first | refine ops_op rfl rfl (runs_none rfl) (mv_own (.inl rfl) rfl) ?_ | refine ops_op rfl rfl (runs_none rfl) (mv_sl (.inl rfl) rfl) ?_ | refine ops_op rfl rfl (runs_none rfl) (mv_s (.inl rfl) rfl) ?_ | refine ops_op rfl rfl (runs_none rfl) (mv_emp (.inl rfl) rfl) ?_ | refine ops_op rfl rfl (runs_none rfl) (mv_sub (.inl rfl) rfl) ?_
  first | refine ops_op rfl rfl (runs_none rfl) (does_len_map rfl ts25 rfl) ?_ | refine ops_op rfl rfl (runs_none rfl) (does_len_sl rfl ts25 rfl) ?_ | refine ops_op rfl rfl (runs_none rfl) (does_len_own rfl ts25 rfl) ?_ | refine ops_op rfl rfl (runs_none rfl) (does_len_s rfl ts25 rfl) ?_ | refine ops_op rfl rfl (runs_none rfl) (does_len_emp rfl ts25 rfl) ?_ | refine ops_op rfl rfl (runs_none rfl) (does_len_sub rfl ts25 rfl) ?_
  refine ops_op rfl rfl (runs_none rfl) (mv_s (.inl rfl) rfl) ?_
  refine ops_nil ?_
  repeat (first | refine aw_seq ?_ | refine ath_n ?_ | refine aw_skip ?_ | refine abl_n ?_ | refine aw_block ?_)
  refine aw_loops (S := Nat) (fun k => [(0, eL eI l), (1, .fn f caps), (7, eI l.length), (8, eI k)]) (fun _ => []) (fun k => k ≤ l.length ∧ ∀ j a, j < k → l[j]? = some a → p a = false) (fun k => l.length - k) 0 (wk_sub _ ⟨rfl, rfl, rfl, rfl, trivial⟩) ⟨by omega, fun j a hj => by omega⟩ (fun k hk => ?_)
  repeat (first | refine aw_seq ?_ | refine ath_n ?_ | refine aw_skip ?_ | refine abl_n ?_ | refine aw_block ?_)
  refine aw_region ?_
  refine ops_op rfl rfl (runs_none rfl) (does_lss rfl rfl rfl) ?_
  refine ops_nil ?_
  repeat (first | refine aw_seq ?_ | refine ath_n ?_ | refine aw_skip ?_ | refine abl_n ?_ | refine aw_block ?_)
  refine aw_if rfl (fun h => ?_) (fun h => ?_)
  · have hlt : k < l.length := by omega
    repeat (first | refine aw_seq ?_ | refine ath_n ?_ | refine aw_skip ?_ | refine abl_n ?_ | refine aw_block ?_)
    refine aw_region ?_
    refine ops_op rfl rfl (runs_none rfl) (mv_s (.inl rfl) rfl) ?_
    refine ops_op rfl rfl (runs_none rfl) (mv_s (.inr rfl) rfl) ?_
    refine ops_nil ?_
    repeat (first | refine aw_seq ?_ | refine ath_n ?_ | refine aw_skip ?_ | refine abl_n ?_ | refine aw_block ?_)
    have hp := hf (gti l k) (gti_mem hlt)
    refine aw_region ?_
    first | refine ops_op rfl rfl (runs_none rfl) (mv_fn (.inl rfl) rfl) ?_ | refine ops_op rfl rfl (runs_none rfl) (mv_s (.inl rfl) rfl) ?_
    first | refine ops_op rfl rfl (runs_none rfl) (mv_own (.inl rfl) rfl) ?_ | refine ops_op rfl rfl (runs_none rfl) (mv_sl (.inl rfl) rfl) ?_ | refine ops_op rfl rfl (runs_none rfl) (mv_s (.inl rfl) rfl) ?_ | refine ops_op rfl rfl (runs_none rfl) (mv_emp (.inl rfl) rfl) ?_ | refine ops_op rfl rfl (runs_none rfl) (mv_sub (.inl rfl) rfl) ?_
    refine ops_op rfl rfl (runs_none rfl) (mv_s (.inl rfl) rfl) ?_
    first | refine ops_op rfl rfl (runs_none rfl) (does_index_sl rfl ts25 ti3 rfl rfl rfl (ix_map (by omega)) rfl) ?_ | refine ops_op rfl rfl (runs_none rfl) (does_index_own rfl ts25 ti3 rfl rfl rfl (by omega)) ?_ | refine ops_op rfl rfl (runs_none rfl) (does_index_sub rfl ts25 ti3 rfl rfl rfl (by omega)) ?_
    first | refine ops_op rfl rfl (runs_none rfl) (does_load_ref rfl ta3 rfl) ?_ | refine ops_op rfl rfl (runs_none rfl) (does_load_ptr rfl ta3 rfl rfl rfl rfl rfl) ?_
    refine ops_op rfl rfl (runs_none rfl) (does_call rfl rfl (hp) (evc_cons rfl evc_nil)) ?_
    refine ops_nil ?_
    repeat (first | refine aw_seq ?_ | refine ath_n ?_ | refine aw_skip ?_ | refine abl_n ?_ | refine aw_block ?_)
    refine aw_cond rfl (fun h => ?_) (fun h => ?_)
    · repeat (first | refine aw_seq ?_ | refine ath_n ?_ | refine aw_skip ?_ | refine abl_n ?_ | refine aw_block ?_)
      refine aw_region ?_
      refine ops_op rfl rfl (runs_none rfl) (mv_s (.inl rfl) rfl) ?_
      refine ops_op rfl rfl (runs_none rfl) (mv_s (.inr rfl) rfl) ?_
      refine ops_nil ?_
      repeat (first | refine aw_seq ?_ | refine ath_n ?_ | refine aw_skip ?_ | refine abl_n ?_ | refine aw_block ?_)
      (refine aw_ret ?_; repeat (first | refine ath_r ?_ | refine abl_r ?_))
      exact post1 (.inr rfl) rfl (congrArg eI (firstAt_some (gti_get hlt) h hk.2).symm)
    · repeat (first | refine aw_seq ?_ | refine ath_n ?_ | refine aw_skip ?_ | refine abl_n ?_ | refine aw_block ?_)
      refine aw_region ?_
      refine ops_op rfl rfl (runs_none rfl) (does_add rfl rfl rfl (IntWalk.i64_in _ (by omega))) ?_
      refine ops_op rfl rfl (runs_none rfl) (mv_s (.inl rfl) rfl) ?_
      refine ops_nil ?_
      repeat (first | refine aw_seq ?_ | refine ath_n ?_ | refine aw_skip ?_ | refine abl_n ?_ | refine aw_block ?_)
      refine ⟨k + 1, ⟨by omega, fun j a hj ha => ?_⟩, by omega, wk_sub _ ⟨rfl, rfl, rfl, rfl, trivial⟩⟩
      by_cases e : j = k
      · subst e
        rw [gti_get hlt] at ha
        cases ha
        exact h
      · exact hk.2 j a (by omega) ha
  · (refine aw_exit ?_; repeat (first | refine ath_x ?_ | refine abl_hit ?_ | refine abl_miss rfl ?_ | refine abl_n ?_ | refine ath_n ?_ | refine aw_seq ?_ | refine aw_skip ?_ | refine aw_block ?_))
    refine aw_region ?_
    refine ops_op rfl rfl (runs_none rfl) (mv_s (.inr rfl) rfl) ?_
    refine ops_nil ?_
    repeat (first | refine aw_seq ?_ | refine ath_n ?_ | refine aw_skip ?_ | refine abl_n ?_ | refine aw_block ?_)
    (refine aw_ret ?_; repeat (first | refine ath_r ?_ | refine abl_r ?_))
    exact post1 (.inr rfl) rfl (congrArg eI (firstAt_none (fun j a hj ha => hk.2 j a (by omega) ha)).symm)
theorem containsFI_pf (f : FuncId) (caps : List AV) (p : Int → Bool) (l : List Int) (hlo : ∀ a : Int, Lo 0 (eI a)) (hlc : Lo 0 (.fn f caps)) (hf : ∀ a ∈ l, Pure P f ([eI a] ++ caps) (eB (p a))) :
    Pure P 19 [eL eI l, .fn f caps] (eB (l.any p)) := by
  refine aw_fn (by rw [IsP.eq (P := P)]; exact Tryz.func19) rfl rfl rfl rfl rfl (lo_cons (lo_map hlo) (lo_cons hlc lo_nil)) (.s _) (by simp only [argF]; rfl) ?_
  have hi := indexFI_pf f caps p l hlo hlc hf
  repeat (first | refine aw_seq ?_ | refine ath_n ?_ | refine aw_skip ?_ | refine abl_n ?_ | refine aw_block ?_)
  refine aw_region ?_
  refine ops_op rfl rfl (runs_none rfl) (mv_s (.inr rfl) rfl) ?_
  refine ops_nil ?_
  repeat (first | refine aw_seq ?_ | refine ath_n ?_ | refine aw_skip ?_ | refine abl_n ?_ | refine aw_block ?_)
  refine aw_region ?_
  first | refine ops_op rfl rfl (runs_none rfl) (mv_own (.inl rfl) rfl) ?_ | refine ops_op rfl rfl (runs_none rfl) (mv_sl (.inl rfl) rfl) ?_ | refine ops_op rfl rfl (runs_none rfl) (mv_s (.inl rfl) rfl) ?_ | refine ops_op rfl rfl (runs_none rfl) (mv_emp (.inl rfl) rfl) ?_ | refine ops_op rfl rfl (runs_none rfl) (mv_sub (.inl rfl) rfl) ?_
  first | refine ops_op rfl rfl (runs_none rfl) (mv_fn (.inl rfl) rfl) ?_ | refine ops_op rfl rfl (runs_none rfl) (mv_s (.inl rfl) rfl) ?_
  refine ops_op rfl rfl (runs_none rfl) (does_call rfl rfl (hi) (evc_cons rfl (evc_cons rfl evc_nil))) ?_
  refine ops_op rfl rfl (runs_none rfl) (does_geq rfl rfl rfl) ?_
  refine ops_op rfl rfl (runs_none rfl) (mv_s (.inr rfl) rfl) ?_
  refine ops_nil ?_
  repeat (first | refine aw_seq ?_ | refine ath_n ?_ | refine aw_skip ?_ | refine abl_n ?_ | refine aw_block ?_)
  (refine aw_ret ?_; repeat (first | refine ath_r ?_ | refine abl_r ?_))
  exact post1 (.inr rfl) rfl (congrArg eB (firstAt_any p l))
theorem indexFIs_pf (f : FuncId) (caps : List AV) (p : (List Int) → Bool) (l : List (List Int)) (hlo : ∀ a : (List Int), Lo 0 ((eL eI) a)) (hlc : Lo 0 (.fn f caps)) (hf : ∀ a ∈ l, Pure P f ([(eL eI) a] ++ caps) (eB (p a))) :
    Pure P 24 [eL (eL eI) l, .fn f caps] (eI (firstAt p l)) := by
  refine aw_fn (by rw [IsP.eq (P := P)]; exact Tryz.func24) rfl rfl rfl rfl rfl (lo_cons (lo_map hlo) (lo_cons hlc lo_nil)) (.s _) (by simp only [argF]; rfl) ?_
  refine aw_bdm (d := 0) rfl (fun hmx => ?_)
  unfold maxLen at hmx
  repeat (first | refine aw_seq ?_ | refine ath_n ?_ | refine aw_skip ?_ | refine abl_n ?_ | refine aw_block ?_)
  refine aw_region ?_
  refine ops_op rfl rfl (runs_none rfl) (mv_s (.inr rfl) rfl) ?_
  refine ops_nil ?_
  repeat (first | refine aw_seq ?_ | refine ath_n ?_ | refine aw_skip ?_ | refine abl_n ?_ | refine aw_block ?_)
  refine aw_region ?_
  first | refine ops_op rfl rfl (runs_none rfl) (mv_own (.inl rfl) rfl) ?_ | refine ops_op rfl rfl (runs_none rfl) (mv_sl (.inl rfl) rfl) ?_ | refine ops_op rfl rfl (runs_none rfl) (mv_s (.inl rfl) rfl) ?_ | refine ops_op rfl rfl (runs_none rfl) (mv_emp (.inl rfl) rfl) ?_ | refine ops_op rfl rfl (runs_none rfl) (mv_sub (.inl rfl) rfl) ?_
  first | refine ops_op rfl rfl (runs_none rfl) (does_len_map rfl ts56 rfl) ?_ | refine ops_op rfl rfl (runs_none rfl) (does_len_sl rfl ts56 rfl) ?_ | refine ops_op rfl rfl (runs_none rfl) (does_len_own rfl ts56 rfl) ?_ | refine ops_op rfl rfl (runs_none rfl) (does_len_s rfl ts56 rfl) ?_ | refine ops_op rfl rfl (runs_none rfl) (does_len_emp rfl ts56 rfl) ?_ | refine ops_op rfl rfl (runs_none rfl) (does_len_sub rfl ts56 rfl) ?_
  refine ops_op rfl rfl (runs_none rfl) (mv_s (.inl rfl) rfl) ?_
  refine ops_nil ?_
  repeat (first | refine aw_seq ?_ | refine ath_n ?_ | refine aw_skip ?_ | refine abl_n ?_ | refine aw_block ?_)
  refine aw_loops (S := Nat) (fun k => [(0, eL (eL eI) l), (1, .fn f caps), (7, eI l.length), (8, eI k)]) (fun _ => []) (fun k => k ≤ l.length ∧ ∀ j a, j < k → l[j]? = some a → p a = false) (fun k => l.length - k) 0 (wk_sub _ ⟨rfl, rfl, rfl, rfl, trivial⟩) ⟨by omega, fun j a hj => by omega⟩ (fun k hk => ?_)
  repeat (first | refine aw_seq ?_ | refine ath_n ?_ | refine aw_skip ?_ | refine abl_n ?_ | refine aw_block ?_)
  refine aw_region ?_
  refine ops_op rfl rfl (runs_none rfl) (does_lss rfl rfl rfl) ?_
  refine ops_nil ?_
  repeat (first | refine aw_seq ?_ | refine ath_n ?_ | refine aw_skip ?_ | refine abl_n ?_ | refine aw_block ?_)
  refine aw_if rfl (fun h => ?_) (fun h => ?_)
  · have hlt : k < l.length := by omega
    repeat (first | refine aw_seq ?_ | refine ath_n ?_ | refine aw_skip ?_ | refine abl_n ?_ | refine aw_block ?_)
    refine aw_region ?_
    refine ops_op rfl rfl (runs_none rfl) (mv_s (.inl rfl) rfl) ?_
    refine ops_op rfl rfl (runs_none rfl) (mv_s (.inr rfl) rfl) ?_
    refine ops_nil ?_
    repeat (first | refine aw_seq ?_ | refine ath_n ?_ | refine aw_skip ?_ | refine abl_n ?_ | refine aw_block ?_)
    have hp := hf (gti l k) (gti_mem hlt)
    refine aw_region ?_
    first | refine ops_op rfl rfl (runs_none rfl) (mv_fn (.inl rfl) rfl) ?_ | refine ops_op rfl rfl (runs_none rfl) (mv_s (.inl rfl) rfl) ?_
    first | refine ops_op rfl rfl (runs_none rfl) (mv_own (.inl rfl) rfl) ?_ | refine ops_op rfl rfl (runs_none rfl) (mv_sl (.inl rfl) rfl) ?_ | refine ops_op rfl rfl (runs_none rfl) (mv_s (.inl rfl) rfl) ?_ | refine ops_op rfl rfl (runs_none rfl) (mv_emp (.inl rfl) rfl) ?_ | refine ops_op rfl rfl (runs_none rfl) (mv_sub (.inl rfl) rfl) ?_
    refine ops_op rfl rfl (runs_none rfl) (mv_s (.inl rfl) rfl) ?_
    first | refine ops_op rfl rfl (runs_none rfl) (does_index_sl rfl ts56 ti25 rfl rfl rfl (ix_map (by omega)) rfl) ?_ | refine ops_op rfl rfl (runs_none rfl) (does_index_own rfl ts56 ti25 rfl rfl rfl (by omega)) ?_ | refine ops_op rfl rfl (runs_none rfl) (does_index_sub rfl ts56 ti25 rfl rfl rfl (by omega)) ?_
    first | refine ops_op rfl rfl (runs_none rfl) (does_load_ref rfl ta25 rfl) ?_ | refine ops_op rfl rfl (runs_none rfl) (does_load_ptr rfl ta25 rfl rfl rfl rfl rfl) ?_
    refine ops_op rfl rfl (runs_none rfl) (does_call rfl rfl (hp) (evc_cons rfl evc_nil)) ?_
    refine ops_nil ?_
    repeat (first | refine aw_seq ?_ | refine ath_n ?_ | refine aw_skip ?_ | refine abl_n ?_ | refine aw_block ?_)
    refine aw_cond rfl (fun h => ?_) (fun h => ?_)
    · repeat (first | refine aw_seq ?_ | refine ath_n ?_ | refine aw_skip ?_ | refine abl_n ?_ | refine aw_block ?_)
      refine aw_region ?_
      refine ops_op rfl rfl (runs_none rfl) (mv_s (.inl rfl) rfl) ?_
      refine ops_op rfl rfl (runs_none rfl) (mv_s (.inr rfl) rfl) ?_
      refine ops_nil ?_
      repeat (first | refine aw_seq ?_ | refine ath_n ?_ | refine aw_skip ?_ | refine abl_n ?_ | refine aw_block ?_)
      (refine aw_ret ?_; repeat (first | refine ath_r ?_ | refine abl_r ?_))
      exact post1 (.inr rfl) rfl (congrArg eI (firstAt_some (gti_get hlt) h hk.2).symm)
    · repeat (first | refine aw_seq ?_ | refine ath_n ?_ | refine aw_skip ?_ | refine abl_n ?_ | refine aw_block ?_)
      refine aw_region ?_
      refine ops_op rfl rfl (runs_none rfl) (does_add rfl rfl rfl (IntWalk.i64_in _ (by omega))) ?_
      refine ops_op rfl rfl (runs_none rfl) (mv_s (.inl rfl) rfl) ?_
      refine ops_nil ?_
      repeat (first | refine aw_seq ?_ | refine ath_n ?_ | refine aw_skip ?_ | refine abl_n ?_ | refine aw_block ?_)
      refine ⟨k + 1, ⟨by omega, fun j a hj ha => ?_⟩, by omega, wk_sub _ ⟨rfl, rfl, rfl, rfl, trivial⟩⟩
      by_cases e : j = k
      · subst e
        rw [gti_get hlt] at ha
        cases ha
        exact h
      · exact hk.2 j a (by omega) ha
  · (refine aw_exit ?_; repeat (first | refine ath_x ?_ | refine abl_hit ?_ | refine abl_miss rfl ?_ | refine abl_n ?_ | refine ath_n ?_ | refine aw_seq ?_ | refine aw_skip ?_ | refine aw_block ?_))
    refine aw_region ?_
    refine ops_op rfl rfl (runs_none rfl) (mv_s (.inr rfl) rfl) ?_
    refine ops_nil ?_
    repeat (first | refine aw_seq ?_ | refine ath_n ?_ | refine aw_skip ?_ | refine abl_n ?_ | refine aw_block ?_)
    (refine aw_ret ?_; repeat (first | refine ath_r ?_ | refine abl_r ?_))
    exact post1 (.inr rfl) rfl (congrArg eI (firstAt_none (fun j a hj ha => hk.2 j a (by omega) ha)).symm)
theorem wcl_pf (w : Int) : Pure P 20 [eI w] (eB (decide (w < 1 ∨ 1000 < w))) := by
  refine aw_fn (by rw [IsP.eq (P := P)]; exact Tryz.func20) rfl rfl rfl rfl rfl (lo_cons (.s _) lo_nil) (.s _) (by simp only [argF]; rfl) ?_
  repeat (first | refine aw_seq ?_ | refine ath_n ?_ | refine aw_skip ?_ | refine abl_n ?_ | refine aw_block ?_)
  refine aw_region ?_
  refine ops_op rfl rfl (runs_none rfl) (mv_s (.inr rfl) rfl) ?_
  refine ops_nil ?_
  repeat (first | refine aw_seq ?_ | refine ath_n ?_ | refine aw_skip ?_ | refine abl_n ?_ | refine aw_block ?_)
  by_cases h1 : w < 1
  · skip
    refine aw_region ?_
    refine ops_op rfl rfl (runs_none rfl) (mv_s (.inl rfl) rfl) ?_
    refine ops_op rfl rfl (runs_none rfl) (dec_t h1 (does_lss rfl rfl rfl)) ?_
    refine ops_op rfl rfl (runs_none rfl) (mv_s (.inl rfl) rfl) ?_
    first | refine ops_op rfl rfl (runs_y rfl rfl rfl) (mv_s (.inl rfl) rfl) ?_ | refine ops_skip rfl rfl (runs_nf rfl rfl rfl) ?_ | refine ops_skip rfl rfl (runs_nu rfl rfl rfl) ?_
    first | refine ops_op rfl rfl (runs_y rfl rfl rfl) (does_gtr rfl rfl rfl) ?_ | refine ops_skip rfl rfl (runs_nf rfl rfl rfl) ?_ | refine ops_skip rfl rfl (runs_nu rfl rfl rfl) ?_
    first | refine ops_op rfl rfl (runs_none rfl) (pickT_s rfl rfl rfl) ?_ | refine ops_op rfl rfl (runs_none rfl) (pickF_s rfl rfl rfl) ?_ | refine ops_op rfl rfl (runs_none rfl) (does_pickT rfl rfl rfl) ?_ | refine ops_op rfl rfl (runs_none rfl) (does_pickF rfl rfl rfl) ?_
    refine ops_op rfl rfl (runs_none rfl) (mv_s (.inr rfl) rfl) ?_
    refine ops_nil ?_
    repeat (first | refine aw_seq ?_ | refine ath_n ?_ | refine aw_skip ?_ | refine abl_n ?_ | refine aw_block ?_)
    (refine aw_ret ?_; repeat (first | refine ath_r ?_ | refine abl_r ?_))
    exact post1 (.inr rfl) rfl (congrArg eB (decide_eq_true (.inl h1)).symm)
  · by_cases h2 : 1000 < w
    · skip
      refine aw_region ?_
      refine ops_op rfl rfl (runs_none rfl) (mv_s (.inl rfl) rfl) ?_
      refine ops_op rfl rfl (runs_none rfl) (dec_f h1 (does_lss rfl rfl rfl)) ?_
      refine ops_op rfl rfl (runs_none rfl) (mv_s (.inl rfl) rfl) ?_
      first | refine ops_op rfl rfl (runs_y rfl rfl rfl) (mv_s (.inl rfl) rfl) ?_ | refine ops_skip rfl rfl (runs_nf rfl rfl rfl) ?_ | refine ops_skip rfl rfl (runs_nu rfl rfl rfl) ?_
      first | refine ops_op rfl rfl (runs_y rfl rfl rfl) (dec_t h2 (does_gtr rfl rfl rfl)) ?_ | refine ops_skip rfl rfl (runs_nf rfl rfl rfl) ?_ | refine ops_skip rfl rfl (runs_nu rfl rfl rfl) ?_
      first | refine ops_op rfl rfl (runs_none rfl) (pickT_s rfl rfl rfl) ?_ | refine ops_op rfl rfl (runs_none rfl) (pickF_s rfl rfl rfl) ?_ | refine ops_op rfl rfl (runs_none rfl) (does_pickT rfl rfl rfl) ?_ | refine ops_op rfl rfl (runs_none rfl) (does_pickF rfl rfl rfl) ?_
      refine ops_op rfl rfl (runs_none rfl) (mv_s (.inr rfl) rfl) ?_
      refine ops_nil ?_
      repeat (first | refine aw_seq ?_ | refine ath_n ?_ | refine aw_skip ?_ | refine abl_n ?_ | refine aw_block ?_)
      (refine aw_ret ?_; repeat (first | refine ath_r ?_ | refine abl_r ?_))
      exact post1 (.inr rfl) rfl (congrArg eB (decide_eq_true (.inr h2)).symm)
    · skip
      refine aw_region ?_
      refine ops_op rfl rfl (runs_none rfl) (mv_s (.inl rfl) rfl) ?_
      refine ops_op rfl rfl (runs_none rfl) (dec_f h1 (does_lss rfl rfl rfl)) ?_
      refine ops_op rfl rfl (runs_none rfl) (mv_s (.inl rfl) rfl) ?_
      first | refine ops_op rfl rfl (runs_y rfl rfl rfl) (mv_s (.inl rfl) rfl) ?_ | refine ops_skip rfl rfl (runs_nf rfl rfl rfl) ?_ | refine ops_skip rfl rfl (runs_nu rfl rfl rfl) ?_
      first | refine ops_op rfl rfl (runs_y rfl rfl rfl) (dec_f h2 (does_gtr rfl rfl rfl)) ?_ | refine ops_skip rfl rfl (runs_nf rfl rfl rfl) ?_ | refine ops_skip rfl rfl (runs_nu rfl rfl rfl) ?_
      first | refine ops_op rfl rfl (runs_none rfl) (pickT_s rfl rfl rfl) ?_ | refine ops_op rfl rfl (runs_none rfl) (pickF_s rfl rfl rfl) ?_ | refine ops_op rfl rfl (runs_none rfl) (does_pickT rfl rfl rfl) ?_ | refine ops_op rfl rfl (runs_none rfl) (does_pickF rfl rfl rfl) ?_
      refine ops_op rfl rfl (runs_none rfl) (mv_s (.inr rfl) rfl) ?_
      refine ops_nil ?_
      repeat (first | refine aw_seq ?_ | refine ath_n ?_ | refine aw_skip ?_ | refine abl_n ?_ | refine aw_block ?_)
      (refine aw_ret ?_; repeat (first | refine ath_r ?_ | refine abl_r ?_))
      exact post1 (.inr rfl) rfl (congrArg eB (decide_eq_false (by omega)).symm)
theorem wts_pf (l : List Int) : Pure P 19 [eL eI l, .fn 20 []] (eB (!wtsB l)) := by
  have := containsFI_pf (P := P) 20 [] (fun w => decide (w < 1 ∨ 1000 < w)) l (fun a => .s _) (.fn _ _ (by simp)) (fun a _ => wcl_pf a)
  rw [show (!wtsB l) = l.any fun w => decide (w < 1 ∨ 1000 < w) from ?_]
  · exact this
  · unfold wtsB
    rw [List.not_all_eq_any_not]
    congr 1
    funext w
    rw [← decide_not, decide_eq_decide]
    omega
theorem ycl_pf (x y : List Int) : Pure P 25 [eL eI x, .ref (eL eI y).cells] (eB (decide (x = y))) := by
  have h1 := eqI_pf (P := P) x y
  refine aw_fn (by rw [IsP.eq (P := P)]; exact Tryz.func25) rfl rfl rfl rfl rfl (lo_cons lo_I (lo_cons (.ref _ lo_I.cells) lo_nil)) (.s _) (by simp only [argF]; rfl) ?_
  repeat (first | refine aw_seq ?_ | refine ath_n ?_ | refine aw_skip ?_ | refine abl_n ?_ | refine aw_block ?_)
  refine aw_region ?_
  refine ops_op rfl rfl (runs_none rfl) (mv_s (.inr rfl) rfl) ?_
  refine ops_nil ?_
  repeat (first | refine aw_seq ?_ | refine ath_n ?_ | refine aw_skip ?_ | refine abl_n ?_ | refine aw_block ?_)
  refine aw_region ?_
  first | refine ops_op rfl rfl (runs_none rfl) (mv_own (.inl rfl) rfl) ?_ | refine ops_op rfl rfl (runs_none rfl) (mv_sl (.inl rfl) rfl) ?_ | refine ops_op rfl rfl (runs_none rfl) (mv_s (.inl rfl) rfl) ?_ | refine ops_op rfl rfl (runs_none rfl) (mv_emp (.inl rfl) rfl) ?_ | refine ops_op rfl rfl (runs_none rfl) (mv_sub (.inl rfl) rfl) ?_
  first | refine ops_op rfl rfl (runs_none rfl) (does_load_ref rfl ta25 rfl) ?_ | refine ops_op rfl rfl (runs_none rfl) (does_load_ptr rfl ta25 rfl rfl rfl rfl rfl) ?_
  refine ops_op rfl rfl (runs_none rfl) (does_call rfl rfl (h1) (evc_cons rfl (evc_cons rfl evc_nil))) ?_
  refine ops_op rfl rfl (runs_none rfl) (mv_s (.inr rfl) rfl) ?_
  refine ops_nil ?_
  repeat (first | refine aw_seq ?_ | refine ath_n ?_ | refine aw_skip ?_ | refine abl_n ?_ | refine aw_block ?_)
  (refine aw_ret ?_; repeat (first | refine ath_r ?_ | refine abl_r ?_))
  exact post1 (.inr rfl) rfl rfl
theorem yfind_pf (l : List (List Int)) (y : List Int) : Pure P 24 [eL (eL eI) l, .fn 25 [.ref (eL eI y).cells]] (eI (findI l y)) :=
  indexFIs_pf (P := P) 25 [.ref (eL eI y).cells] (fun x => decide (x = y)) l (fun a => lo_I) (.fn _ _ (by intro c hc; simp at hc; subst hc; exact .ref _ lo_I.cells)) (fun a _ => ycl_pf a y)
end Go.Proofs.YtanfaepjamkbjaaGreat.Aw
end
section
namespace Go.Proofs.YtanfaepjamkbjaaGreat
set_option linter.unusedSimpArgs false
set_option linter.unusedVariables false
open Go.RowKit

set_option maxHeartbeats 400000 in
theorem gcd_any (a b : Int) (w : World) (ha : 0 ≤ a) (hb : 0 ≤ b) (ha' : a ≤ 9223372036854775807) (hb' : b ≤ 9223372036854775807) :
    Calls Tryz.prog 72 #[.int .i64 a, .int .i64 b] w fun e w' => e = .returned (.int .i64 (Int.gcd a b)) ∧ ∃ n, w' = w.drewN n := by
  go_enter Tryz.func72, Tryz.ntmps72
  go_wp2
  go_loopw [0, 1] (fun x y wr => ∃ p q : Int, 0 ≤ p ∧ 0 ≤ q ∧ p ≤ 9223372036854775807 ∧ q ≤ 9223372036854775807 ∧ x = .int .i64 p ∧ y = .int .i64 q ∧ Int.gcd p q = Int.gcd a b ∧ ∃ n, wr = w.drewN n) (fun _ y _ => (intOf y).toNat)
  case atStart => exact ⟨a, b, ha, hb, ha', hb', rfl, rfl, rfl, 0, rfl⟩
  case round =>
    obtain ⟨p, q, hp, hq, hp', hq', rfl, rfl, hg, n, rfl⟩ := hrel
    have HG := Lib.hid hg
    clear hg
    by_cases h0 : q = 0
    · subst h0
      go_wp2
      go_ret
      refine ⟨?_, n, rfl⟩
      rw [← HG.out]
      simp [Int.natAbs_of_nonneg hp]
    · have hne : (q != 0) = true := by simpa using h0
      have hne2 : (q == 0) = false := by simpa using h0
      go_wp2
      go_quiet (fail)
      go_wp2
      have h1 := Int.emod_nonneg p h0
      have h2 := Int.emod_lt_of_pos p (show 0 < q by omega)
      go_roundw
      case rel => exact ⟨q, p % q, hq, h1, hq', by omega, rfl, rfl, (gcd_step p q).trans HG.out, n + nq, by rw [World.drewN_drewN]⟩
      case measure => simp only [intOf]; omega

set_option maxHeartbeats 400000 in
theorem abs_any (a : Int) (w : World) (h1 : -4611686018427387904 ≤ a) (h2 : a ≤ 4611686018427387904) :
    Calls Tryz.prog 60 #[.int .i64 a] w fun e w' => e = .returned (.int .u64 (a.natAbs : Int)) ∧ w = w' := by
  by_cases h : a < 0
  · go_enter Tryz.func60, Tryz.ntmps60
    go_wp2
    go_ret
    exact ⟨by simp [IntKind.wrap_u64]; omega, rfl⟩
  · go_enter Tryz.func60, Tryz.ntmps60
    go_wp2
    go_ret
    exact ⟨by simp; omega, rfl⟩

theorem fit_nf (neg : Bool) (num den : Nat) (hd : 0 < den) : nf (if neg then -(num : Int) else num) den = ⟨if neg then -((num / Nat.gcd num den : Nat) : Int) else ((num / Nat.gcd num den : Nat) : Int), ((den / Nat.gcd num den : Nat) : Int)⟩ := by
  have hs : Int.sign (den : Int) = 1 := Int.sign_eq_one_of_pos (by omega)
  cases neg
  · simp [nf, hs, Int.gcd]
  · simp only [nf, hs, Int.gcd, if_true, Int.natAbs_neg, Int.natAbs_natCast, Int.one_mul]
    congr 1
    exact Int.neg_ediv_of_dvd (by rw [Int.natCast_dvd_natCast]; exact Nat.gcd_dvd_left ..)

theorem mkF_fit (neg : Bool) (num den x y : Nat) (hd : 0 < den) (hx : num / Nat.gcd num den = x) (hy : den / Nat.gcd num den = y) :
    mkF (if neg then -(num : Int) else num) den = if x ≤ 1073741824 ∧ y ≤ 1073741824 then some ⟨if neg then -(x : Int) else x, y⟩ else none := by
  unfold mkF
  rw [fit_nf neg num den hd, hx, hy]
  by_cases h : x ≤ 1073741824 ∧ y ≤ 1073741824
  · rw [if_pos h, if_pos]
    simp only [Fr.fits, decide_eq_true_eq]
    cases neg <;> simp <;> omega
  · rw [if_neg h, if_neg]
    simp only [Fr.fits, decide_eq_true_eq]
    cases neg <;> simp <;> omega

set_option maxHeartbeats 1000000 in
theorem fit_any (neg : Bool) (num den : Nat) (w : World) (hd : 0 < den) (h1 : num ≤ 9223372036854775808) (h2 : den ≤ 9223372036854775808) :
    Calls Tryz.prog 59 #[.bool neg, .int .u64 num, .int .u64 den] w fun e w' => e = .returned (.tuple #[.agg #[.int .i64 (FE.of (mkF (if neg then -(num : Int) else num) den)).n, .int .i64 (FE.of (mkF (if neg then -(num : Int) else num) den)).d], .int .i64 (FE.of (mkF (if neg then -(num : Int) else num) den)).e]) ∧ Below w.heap.size w w' := by
  refine calls_cps fun R hR => ?_
  have HR := Lib.hid hR
  clear hR
  go_enter Tryz.func59, Tryz.ntmps59
  go_wp2
  go_loopw [8, 9] (fun x y wr => ∃ p q : Nat, p ≤ 9223372036854775808 ∧ q ≤ 9223372036854775808 ∧ x = .int .u64 p ∧ y = .int .u64 q ∧ Nat.gcd p q = Nat.gcd num den ∧ ∃ n, wr = (w.alloc (.cells #[.int .i64 0, .int .i64 0] 44)).drewN n) (fun _ y _ => (intOf y).toNat)
  case atStart => exact ⟨num, den, h1, h2, rfl, rfl, rfl, 0, rfl⟩
  case round =>
    obtain ⟨p, q, hp', hq', rfl, rfl, hg, n, rfl⟩ := hrel
    by_cases h0 : q = 0
    · subst h0
      simp only [Nat.gcd_zero_right] at hg
      have hp0 : 0 < p := by rw [hg]; exact Nat.gcd_pos_of_pos_right _ hd
      obtain ⟨x, hx⟩ : ∃ x, num / p = x := ⟨_, rfl⟩
      obtain ⟨y, hy⟩ : ∃ y, den / p = y := ⟨_, rfl⟩
      have hx1 : x ≤ 9223372036854775808 := by have := Nat.div_le_self num p; omega
      have hy1 : y ≤ 9223372036854775808 := by have := Nat.div_le_self den p; omega
      have HF := Lib.hid (mkF_fit neg num den x y hd (by rw [← hg]; exact hx) (by rw [← hg]; exact hy))
      have wx : IntKind.u64.wrap ((num : Int) / (p : Int)) = (x : Int) := by rw [IntKind.wrap_u64, ← Int.natCast_ediv, hx]; omega
      have wy : IntKind.u64.wrap ((den : Int) / (p : Int)) = (y : Int) := by rw [IntKind.wrap_u64, ← Int.natCast_ediv, hy]; omega
      have hne : (((p : Nat) : Int) == 0) = false := by simp; omega
      clear hg hx hy
      go_wp2
      go_quiet (fail)
      clear wx wy
      by_cases hbx : (1073741824 : Int) < x
      · go_wp2
        refine bodyPost_ret (v := .tuple #[.agg #[.int .i64 0, .int .i64 0], .int .i64 6]) (by simp [results, Tryz.results59, go_sem]) rfl (HR.out _ _ ⟨?_, ?_⟩)
        · rw [HF.out, if_neg (by omega)]; rfl
        · (repeat (first | exact Below.refl _ _ | assumption | refine Below.setCell ?_ (by first | omega | (simp; done) | (simp; omega)) _ | refine Below.alloc ?_ (by first | omega | (simp; done) | (simp; omega)) _ | refine Below.drew ?_ | refine below_drewN ?_ _))
      · by_cases hby : (1073741824 : Int) < y
        · have hbx' : decide ((1073741824 : Int) < x) = false := by simpa using hbx
          go_wp2
          refine bodyPost_ret (v := .tuple #[.agg #[.int .i64 0, .int .i64 0], .int .i64 6]) (by simp [results, Tryz.results59, go_sem]) rfl (HR.out _ _ ⟨?_, ?_⟩)
          · rw [HF.out, if_neg (by omega)]; rfl
          · (repeat (first | exact Below.refl _ _ | assumption | refine Below.setCell ?_ (by first | omega | (simp; done) | (simp; omega)) _ | refine Below.alloc ?_ (by first | omega | (simp; done) | (simp; omega)) _ | refine Below.drew ?_ | refine below_drewN ?_ _))
        · have hbx' : decide ((1073741824 : Int) < x) = false := by simpa using hbx
          have hby' : decide ((1073741824 : Int) < y) = false := by simpa using hby
          cases neg
          · go_wp2
            refine bodyPost_ret (v := .tuple #[.agg #[.int .i64 x, .int .i64 y], .int .i64 0]) (by simp [results, Tryz.results59, go_sem]) rfl (HR.out _ _ ⟨?_, ?_⟩)
            · rw [HF.out, if_pos (by omega)]; rfl
            · (repeat (first | exact Below.refl _ _ | assumption | refine Below.setCell ?_ (by first | omega | (simp; done) | (simp; omega)) _ | refine Below.alloc ?_ (by first | omega | (simp; done) | (simp; omega)) _ | refine Below.drew ?_ | refine below_drewN ?_ _))
          · go_wp2
            refine bodyPost_ret (v := .tuple #[.agg #[.int .i64 (-x), .int .i64 y], .int .i64 0]) (by simp [results, Tryz.results59, go_sem]) rfl (HR.out _ _ ⟨?_, ?_⟩)
            · rw [HF.out, if_pos (by omega)]; rfl
            · (repeat (first | exact Below.refl _ _ | assumption | refine Below.setCell ?_ (by first | omega | (simp; done) | (simp; omega)) _ | refine Below.alloc ?_ (by first | omega | (simp; done) | (simp; omega)) _ | refine Below.drew ?_ | refine below_drewN ?_ _))
    · have HG := Lib.hid hg
      clear hg
      have hne : (((q : Nat) : Int) != 0) = true := by simp; omega
      have hne2 : (((q : Nat) : Int) == 0) = false := by simp; omega
      go_wp2
      go_quiet (fail)
      go_wp2
      have hlt : p % q < q := Nat.mod_lt _ (by omega)
      go_roundw
      case rel => exact ⟨q, p % q, hq', by omega, rfl, by rw [Int.natCast_emod], by rw [← HG.out, Nat.gcd_comm q, ← Nat.gcd_rec, Nat.gcd_comm], n + nq, by rw [World.drewN_drewN]⟩
      case measure => simp only [intOf]; omega

end Go.Proofs.YtanfaepjamkbjaaGreat
end
section
namespace Go.Proofs.YtanfaepjamkbjaaGreat
set_option linter.unusedSimpArgs false
set_option linter.unusedVariables false
open Go.RowKit

theorem okB_gcd (an ad : Int) (h1 : -1073741824 ≤ an) (h2 : an ≤ 1073741824) (h3 : 1 ≤ ad) (h4 : ad ≤ 1073741824) : ((Int.gcd an ad : Int) == 1) = (Fr.mk an ad).okB := by
  rw [Bool.eq_iff_iff, beq_iff_eq, Fr.okB_iff]
  unfold Fr.ok
  simp only
  omega
theorem okB_out (an ad : Int) (h : ¬ (-1073741824 ≤ an ∧ an ≤ 1073741824 ∧ 1 ≤ ad ∧ ad ≤ 1073741824)) : false = (Fr.mk an ad).okB := by
  rw [Fr.okB_not]
  unfold Fr.ok
  simp only
  omega

set_option maxHeartbeats 1000000 in
theorem fracValid_any (a : Fr) (w : World) :
    Calls Tryz.prog 66 #[.agg #[.int .i64 a.n, .int .i64 a.d]] w fun e w' => e = .returned (.bool a.okB) ∧ Below w.heap.size w w' := by
  obtain ⟨an, ad⟩ := a
  refine calls_cps fun R hR => ?_
  have HR := Lib.hid hR
  clear hR
  go_enter Tryz.func66, Tryz.ntmps66
  go_wp2_with (go_at_call 72; refine (gcd_any _ _ _ (by omega) (by omega) (by omega) (by omega)).mono ?_; rintro e w' ⟨rfl, n, rfl⟩)
  all_goals refine HR.out _ _ ⟨congrArg _ (congrArg _ ?_), ?_⟩
  all_goals first | (exact okB_gcd _ _ (by omega) (by omega) (by omega) (by omega)) | (exact okB_out _ _ (by omega)) | (repeat (first | exact Below.refl _ _ | assumption | refine Below.setCell ?_ (by first | omega | (simp; done) | (simp; omega)) _ | refine Below.alloc ?_ (by first | omega | (simp; done) | (simp; omega)) _ | refine Below.drew ?_ | refine below_drewN ?_ _))

/-- a slice that reads as a list of fractions, below block B -/
def fRdB (w : World) (B : Nat) (v : Value) (l : List Fr) : Prop :=
  ∃ A c, v = .slice A l.length c ∧ l.length ≤ maxLen ∧ l.length ≤ c ∧ (0 < l.length → ∃ b off, A = some ⟨b, off, none⟩ ∧ b < B ∧
    ∀ i a, l[i]? = some a → w.cell? ⟨b, off + i * 2, none⟩ = some (.int .i64 a.n) ∧ w.cell? ⟨b, off + i * 2 + 1, none⟩ = some (.int .i64 a.d))

set_option maxHeartbeats 1000000 in
theorem indexFuncF_any (f : FuncId) (hent : Ent f) (cap : Array Value) (p : Fr → Bool) (l : List Fr) (v : Value) (w : World) (hv : fRdB w w.heap.size v l)
    (hf : ∀ a ∈ l, ∀ W, Below w.heap.size w W → Calls Tryz.prog f (#[.agg #[.int .i64 a.n, .int .i64 a.d]] ++ cap) W fun e W' => e = .returned (.bool (p a)) ∧ Below W.heap.size W W') :
    Calls Tryz.prog 83 #[v, .func (.func f) #[] cap] w fun e w' => e = .returned (.int .i64 (firstAt p l)) ∧ Below w.heap.size w w' := by
  obtain ⟨A, c, rfl, hm, hc, hA⟩ := hv
  unfold maxLen at hm
  unfold Ent at hent
  have HF := Lib.hid hf
  clear hf
  have HA := Lib.hid hA
  clear hA
  refine calls_cps fun R hR => ?_
  have HR := Lib.hid hR
  clear hR
  go_enter Tryz.func83, Tryz.ntmps83
  go_wp2
  go_loopw [8] (fun i wr => ∃ k : Nat, k ≤ l.length ∧ i = .int .i64 k ∧ (∀ j a, j < k → l[j]? = some a → p a = false) ∧ Below w.heap.size w wr) (fun i _ => l.length - (intOf i).toNat)
  case atStart => exact ⟨0, Nat.zero_le _, rfl, fun j a h => absurd h (by omega), Below.refl _ _⟩
  case round =>
    obtain ⟨k, hk, rfl, hno, hb⟩ := hrel
    have HNO := Lib.hid hno
    have HB := Lib.hid hb
    clear hno hb
    by_cases hlt : k < l.length
    · obtain ⟨b, off, rfl, hbB, hcell⟩ := HA.out (by omega)
      obtain ⟨a, ha⟩ : ∃ a, l[k]? = some a := ⟨_, List.getElem?_eq_getElem hlt⟩
      have hc1 : wr.cell? ⟨b, off + k * 2, none⟩ = some (.int .i64 a.n) := (HB.out.cell hbB).trans (hcell k a ha).1
      have hc2 : wr.cell? ⟨b, off + k * 2 + 1, none⟩ = some (.int .i64 a.d) := (HB.out.cell hbB).trans (hcell k a ha).2
      have HA2 := Lib.hid ha
      clear ha hcell
      go_wp2_with fail
      refine (HF.out a (List.mem_of_getElem? HA2.out) _ HB.out).mono ?_
      rintro e w1 ⟨rfl, hb1⟩
      have HB1 := Lib.hid hb1
      clear hb1
      cases hp : p a with
      | true =>
        have HP := Lib.hid hp
        clear hp
        go_wp2
        exact HR.out _ _ ⟨ret_int (firstAt_some HA2.out HP.out HNO.out).symm, HB.out.trans (HB1.out.mono HB.out.size)⟩
      | false =>
        have HP := Lib.hid hp
        clear hp
        go_wp2
        go_roundw
        case rel => exact ⟨k + 1, by omega, by go_num, snoc_no HNO.out HA2.out HP.out, HB.out.trans (HB1.out.mono HB.out.size)⟩
        case measure => simp [intOf]; omega
    · go_wp2
      have hkl : k = l.length := by omega
      exact HR.out _ _ ⟨ret_int (firstAt_none (by rw [← hkl]; exact HNO.out)).symm, HB.out⟩

set_option maxHeartbeats 400000 in
theorem containsFuncF_any (f : FuncId) (hent : Ent f) (cap : Array Value) (p : Fr → Bool) (l : List Fr) (v : Value) (w : World) (hv : fRdB w w.heap.size v l)
    (hf : ∀ a ∈ l, ∀ W, Below w.heap.size w W → Calls Tryz.prog f (#[.agg #[.int .i64 a.n, .int .i64 a.d]] ++ cap) W fun e W' => e = .returned (.bool (p a)) ∧ Below W.heap.size W W') :
    Calls Tryz.prog 64 #[v, .func (.func f) #[] cap] w fun e w' => e = .returned (.bool (l.any p)) ∧ Below w.heap.size w w' := by
  have HC := Lib.hid (indexFuncF_any f hent cap p l v w hv hf)
  clear hf hent hv
  refine calls_cps fun R hR => ?_
  have HR := Lib.hid hR
  clear hR
  go_enter Tryz.func64, Tryz.ntmps64
  go_wp2_with fail
  refine HC.out.mono ?_
  rintro e w1 ⟨rfl, hb1⟩
  have HB1 := Lib.hid hb1
  clear hb1
  go_wp2
  exact HR.out _ _ ⟨congrArg (fun b => Ending.returned (.bool b)) (firstAt_any p l), HB1.out⟩

theorem ent_valid1 : Ent 89 := ent_of Tryz.func89 (by kernel_rfl) rfl

set_option maxHeartbeats 400000 in
theorem valid1_any (a : Fr) (w : World) :
    Calls Tryz.prog 89 #[.agg #[.int .i64 a.n, .int .i64 a.d]] w fun e w' => e = .returned (.bool (!a.okB)) ∧ Below w.heap.size w w' := by
  refine calls_cps fun R hR => ?_
  have HR := Lib.hid hR
  clear hR
  go_enter Tryz.func89, Tryz.ntmps89
  go_wp2_with fail
  refine (fracValid_any a _).mono ?_
  rintro e w1 ⟨rfl, hb1⟩
  have HB1 := Lib.hid hb1
  clear hb1
  go_wp2
  exact HR.out _ _ ⟨rfl, ((Below.refl _ _).alloc (Nat.le_refl _) _).trans (HB1.out.mono (by simp))⟩

set_option maxHeartbeats 400000 in
theorem fvalid_any (l : List Fr) (v : Value) (w : World) (hv : fRdB w w.heap.size v l) :
    Calls Tryz.prog 71 #[v] w fun e w' => e = .returned (.bool (l.all Fr.okB)) ∧ Below w.heap.size w w' := by
  have HC := Lib.hid (containsFuncF_any 89 ent_valid1 #[] (fun a => !a.okB) l v w hv (fun a _ W _ => valid1_any a W))
  clear hv
  refine calls_cps fun R hR => ?_
  have HR := Lib.hid hR
  clear hR
  go_enter Tryz.func71, Tryz.ntmps71
  go_wp2_with fail
  refine HC.out.mono ?_
  rintro e w1 ⟨rfl, hb1⟩
  have HB1 := Lib.hid hb1
  clear hb1
  go_wp2
  refine HR.out _ _ ⟨congrArg (fun b => Ending.returned (.bool b)) ?_, HB1.out⟩
  simp [List.all_eq_not_any_not]

end Go.Proofs.YtanfaepjamkbjaaGreat
end
section
namespace Go.Proofs.YtanfaepjamkbjaaGreat
set_option linter.unusedSimpArgs false
set_option linter.unusedVariables false
open Go.RowKit

theorem RdB_two {W : World} {n : Nat} {a b : Fr} (h0 : W.cell? ⟨n, 0, none⟩ = some (.int .i64 a.n)) (h1 : W.cell? ⟨n, 1, none⟩ = some (.int .i64 a.d)) (h2 : W.cell? ⟨n, 2, none⟩ = some (.int .i64 b.n)) (h3 : W.cell? ⟨n, 3, none⟩ = some (.int .i64 b.d)) (hn : n < W.heap.size) :
    fRdB W W.heap.size (.slice (some ⟨n, 0, none⟩) 2 2) [a, b] := by
  refine ⟨_, 2, rfl, by simp [maxLen], by simp, fun _ => ⟨_, _, rfl, hn, ?_⟩⟩
  intro i c hc
  match i, hc with
  | 0, hc => simp at hc; subst hc; exact ⟨h0, h1⟩
  | 1, hc => simp at hc; subst hc; exact ⟨h2, h3⟩
  | i + 2, hc => simp at hc

theorem fit_int (neg : Bool) (num den n : Int) (w : World) (h0 : 0 ≤ num) (hd : 0 < den) (h1 : num ≤ 9223372036854775808) (h2 : den ≤ 9223372036854775808) (hn : (if neg then -num else num) = n) :
    Calls Tryz.prog 59 #[.bool neg, .int .u64 num, .int .u64 den] w fun e w' => e = .returned (.tuple #[.agg #[.int .i64 (FE.of (mkF n den)).n, .int .i64 (FE.of (mkF n den)).d], .int .i64 (FE.of (mkF n den)).e]) ∧ Below w.heap.size w w' := by
  obtain ⟨a, rfl⟩ := Int.eq_ofNat_of_zero_le h0
  obtain ⟨b, rfl⟩ := Int.eq_ofNat_of_zero_le (Int.le_of_lt hd)
  subst hn
  exact fit_any neg a b w (by omega) (by omega) (by omega)

set_option maxHeartbeats 2000000 in
theorem add_any (a b : Fr) (w : World) :
    Calls Tryz.prog 48 #[.agg #[.int .i64 (a).n, .int .i64 (a).d], .agg #[.int .i64 (b).n, .int .i64 (b).d]] w fun e w' =>
      e = .returned (.tuple #[.agg #[.int .i64 (addE a b).n, .int .i64 (addE a b).d], .int .i64 (addE a b).e]) ∧ Below w.heap.size w w' := by
  refine calls_cps fun R hR => ?_
  have HR := Lib.hid hR
  clear hR
  go_enter Tryz.func48, Tryz.ntmps48
  go_wp2_with fail
  refine (fvalid_any [a, b] _ _ (RdB_two (by simp [go_sem]) (by simp [go_sem]) (by simp [go_sem]) (by simp [go_sem]) (by simp))).mono ?_
  rintro e w1 ⟨rfl, hb1⟩
  obtain ⟨p1, p2, p3, p4, p5⟩ := B2.after (g := w.heap.size) (x := .int .i64 a.n) (y := .int .i64 a.d) hb1 (by simp [B2, go_sem]) (by first | omega | (simp; done) | (simp; omega))
  obtain ⟨q1, q2, q3, q4, q5⟩ := B2.after (g := w.heap.size + 1) (x := .int .i64 b.n) (y := .int .i64 b.d) hb1 (by simp [B2, go_sem]) (by first | omega | (simp; done) | (simp; omega))
  have K2 := B2.after (g := w.heap.size + 1 + 1) (x := .int .i64 0) (y := .int .i64 0) hb1 (by simp [B2, go_sem]) (by first | omega | (simp; done) | (simp; omega))
  have HB : Hid (Below w.heap.size w w1) := Lib.hid (by refine Below.step ?_ hb1 (by first | omega | (simp; done) | (simp; omega)); (repeat (first | exact Below.refl _ _ | assumption | refine Below.setCell ?_ (by first | omega | (simp; done) | (simp; omega)) _ | refine Below.alloc ?_ (by first | omega | (simp; done) | (simp; omega)) _ | refine Below.drew ?_ | refine below_drewN ?_ _)))
  clear hb1
  cases hv : a.okB && b.okB with
  | false =>
    have hv' : [a, b].all Fr.okB = false := by simpa using hv
    have HV := Lib.hid hv
    clear hv
    obtain ⟨k1, k2, k3, k4, k5⟩ := K2
    go_wp2
    refine bodyPost_ret (v := .tuple #[.agg #[.int .i64 0, .int .i64 0], .int .i64 1]) (by simp [results, Tryz.results48, go_sem, k1, k2]) rfl (HR.out _ _ ⟨?_, ?_⟩)
    · simp [addE, HV.out, FE.err]
    · have := HB.out; (repeat (first | exact Below.refl _ _ | assumption | refine Below.setCell ?_ (by first | omega | (simp; done) | (simp; omega)) _ | refine Below.alloc ?_ (by first | omega | (simp; done) | (simp; omega)) _ | refine Below.drew ?_ | refine below_drewN ?_ _))
  | true =>
    have hv' : [a, b].all Fr.okB = true := by simpa using hv
    have HV := Lib.hid hv
    have hv2 : a.ok ∧ b.ok := by simpa [Fr.okB] using hv
    obtain ⟨hva, hvb⟩ := hv2
    have ⟨a1, a2, a3, a4, _⟩ := hva
    have ⟨b1, b2, b3, b4, _⟩ := hvb
    have HL := Lib.hid (fadd_lcm a b hva)
    have hg0 : 0 < (Int.gcd a.d b.d : Int) := by have := Int.gcd_pos_iff.2 (Or.inl (show a.d ≠ 0 by omega) : a.d ≠ 0 ∨ b.d ≠ 0); omega
    have hqa := div_bd a.d _ a3 hg0 (Int.gcd_dvd_left ..)
    have hqb := div_bd b.d _ b3 hg0 (Int.gcd_dvd_right ..)
    clear hv hva hvb
    go_wp2_with fail
    refine (gcd_any _ _ _ (by omega) (by omega) (by omega) (by omega)).mono ?_
    rintro e w2 ⟨rfl, n2, rfl⟩
    generalize (Int.gcd a.d b.d : Int) = g at *
    obtain ⟨qa, hqa'⟩ : ∃ q, a.d / g = q := ⟨_, rfl⟩
    obtain ⟨qb, hqb'⟩ : ∃ q, b.d / g = q := ⟨_, rfl⟩
    obtain ⟨x, hx⟩ : ∃ x, a.n * qb = x := ⟨_, rfl⟩
    obtain ⟨y, hy⟩ : ∃ y, b.n * qa = y := ⟨_, rfl⟩
    obtain ⟨z, hz'⟩ : ∃ z, a.d * qb = z := ⟨_, rfl⟩
    have HL2 : Hid (mkF (x + y) z = fadd a b) := Lib.hid (by rw [← hx, ← hy, ← hz', ← hqa', ← hqb']; exact HL.out)
    rw [hqa'] at hqa
    rw [hqb'] at hqb
    have bx := mul_bd a.n qb a1 a2 (by omega) (by omega)
    have bY := mul_bd b.n qa b1 b2 (by omega) (by omega)
    have bz := mul_bd a.d qb (by omega) a4 (by omega) (by omega)
    have bz2 : 0 < a.d * qb := Int.mul_pos (by omega) (by omega)
    rw [hx] at bx
    rw [hy] at bY
    rw [hz'] at bz bz2
    have gz : (g == 0) = false := by simp; omega
    clear HL
    go_wp2
    go_quiet (fail)
    go_wp2
    go_quiet (fail)
    clear hx hy hz' hqa' hqb' gz hg0
    by_cases hx0 : x < 0 <;> by_cases hy0 : y < 0
    · have hs : (decide (x < 0) == decide (y < 0)) = true := by simp [hx0, hy0]
      have wm : IntKind.u64.wrap ((x.natAbs : Int) + (y.natAbs : Int)) = -(x + y) := by rw [IntKind.wrap_u64]; omega
      all_goals
        go_wp2_with (first | (go_at_call 60; refine (abs_any _ _ (by omega) (by omega)).mono ?_; rintro e w' ⟨rfl, rfl⟩) | (go_at_call 59; refine (fit_int _ _ _ (x + y) _ (by omega) (by omega) (by omega) (by omega) (by first | (simp; done) | (simp; omega))).mono ?_; rintro e w3 ⟨rfl, hb3⟩; obtain ⟨k1, k2, k3, k4, k5⟩ := B2.after hb3 K2 (by have := K2.2.2.2.2; simp; omega); have HB3 := Lib.hid hb3; clear hb3))
        refine bodyPost_ret (v := .tuple #[.agg #[.int .i64 (FE.of (mkF (x + y) z)).n, .int .i64 (FE.of (mkF (x + y) z)).d], .int .i64 (FE.of (mkF (x + y) z)).e]) (by simp [results, Tryz.results48, go_sem, k1, k2]) rfl (HR.out _ _ ⟨?_, ?_⟩)
        · rw [HL2.out]; simp [addE, HV.out]
        · have := Below.step (below_drewN HB.out _) HB3.out (by simp; omega); (repeat (first | exact Below.refl _ _ | assumption | refine Below.setCell ?_ (by first | omega | (simp; done) | (simp; omega)) _ | refine Below.alloc ?_ (by first | omega | (simp; done) | (simp; omega)) _ | refine Below.drew ?_ | refine below_drewN ?_ _))
    · have hs : (decide (x < 0) == decide (y < 0)) = false := by simp [hx0, hy0]
      by_cases hxy : x + y < 0
      all_goals
        go_wp2_with (first | (go_at_call 60; refine (abs_any _ _ (by omega) (by omega)).mono ?_; rintro e w' ⟨rfl, rfl⟩) | (go_at_call 59; refine (fit_int _ _ _ (x + y) _ (by omega) (by omega) (by omega) (by omega) (by first | (simp [hxy]; done) | (simp [hxy]; omega) | (simp; omega))).mono ?_; rintro e w3 ⟨rfl, hb3⟩; obtain ⟨k1, k2, k3, k4, k5⟩ := B2.after hb3 K2 (by have := K2.2.2.2.2; simp; omega); have HB3 := Lib.hid hb3; clear hb3))
        refine bodyPost_ret (v := .tuple #[.agg #[.int .i64 (FE.of (mkF (x + y) z)).n, .int .i64 (FE.of (mkF (x + y) z)).d], .int .i64 (FE.of (mkF (x + y) z)).e]) (by simp [results, Tryz.results48, go_sem, k1, k2]) rfl (HR.out _ _ ⟨?_, ?_⟩)
        · rw [HL2.out]; simp [addE, HV.out]
        · have := Below.step (below_drewN HB.out _) HB3.out (by simp; omega); (repeat (first | exact Below.refl _ _ | assumption | refine Below.setCell ?_ (by first | omega | (simp; done) | (simp; omega)) _ | refine Below.alloc ?_ (by first | omega | (simp; done) | (simp; omega)) _ | refine Below.drew ?_ | refine below_drewN ?_ _))
    · have hs : (decide (x < 0) == decide (y < 0)) = false := by simp [hx0, hy0]
      by_cases hxy : x + y < 0
      all_goals
        go_wp2_with (first | (go_at_call 60; refine (abs_any _ _ (by omega) (by omega)).mono ?_; rintro e w' ⟨rfl, rfl⟩) | (go_at_call 59; refine (fit_int _ _ _ (x + y) _ (by omega) (by omega) (by omega) (by omega) (by first | (simp [hxy]; done) | (simp [hxy]; omega) | (simp; omega))).mono ?_; rintro e w3 ⟨rfl, hb3⟩; obtain ⟨k1, k2, k3, k4, k5⟩ := B2.after hb3 K2 (by have := K2.2.2.2.2; simp; omega); have HB3 := Lib.hid hb3; clear hb3))
        refine bodyPost_ret (v := .tuple #[.agg #[.int .i64 (FE.of (mkF (x + y) z)).n, .int .i64 (FE.of (mkF (x + y) z)).d], .int .i64 (FE.of (mkF (x + y) z)).e]) (by simp [results, Tryz.results48, go_sem, k1, k2]) rfl (HR.out _ _ ⟨?_, ?_⟩)
        · rw [HL2.out]; simp [addE, HV.out]
        · have := Below.step (below_drewN HB.out _) HB3.out (by simp; omega); (repeat (first | exact Below.refl _ _ | assumption | refine Below.setCell ?_ (by first | omega | (simp; done) | (simp; omega)) _ | refine Below.alloc ?_ (by first | omega | (simp; done) | (simp; omega)) _ | refine Below.drew ?_ | refine below_drewN ?_ _))
    · have hs : (decide (x < 0) == decide (y < 0)) = true := by simp [hx0, hy0]
      have wm : IntKind.u64.wrap ((x.natAbs : Int) + (y.natAbs : Int)) = x + y := by rw [IntKind.wrap_u64]; omega
      all_goals
        go_wp2_with (first | (go_at_call 60; refine (abs_any _ _ (by omega) (by omega)).mono ?_; rintro e w' ⟨rfl, rfl⟩) | (go_at_call 59; refine (fit_int _ _ _ (x + y) _ (by omega) (by omega) (by omega) (by omega) (by first | (simp; done) | (simp; omega))).mono ?_; rintro e w3 ⟨rfl, hb3⟩; obtain ⟨k1, k2, k3, k4, k5⟩ := B2.after hb3 K2 (by have := K2.2.2.2.2; simp; omega); have HB3 := Lib.hid hb3; clear hb3))
        refine bodyPost_ret (v := .tuple #[.agg #[.int .i64 (FE.of (mkF (x + y) z)).n, .int .i64 (FE.of (mkF (x + y) z)).d], .int .i64 (FE.of (mkF (x + y) z)).e]) (by simp [results, Tryz.results48, go_sem, k1, k2]) rfl (HR.out _ _ ⟨?_, ?_⟩)
        · rw [HL2.out]; simp [addE, HV.out]
        · have := Below.step (below_drewN HB.out _) HB3.out (by simp; omega); (repeat (first | exact Below.refl _ _ | assumption | refine Below.setCell ?_ (by first | omega | (simp; done) | (simp; omega)) _ | refine Below.alloc ?_ (by first | omega | (simp; done) | (simp; omega)) _ | refine Below.drew ?_ | refine below_drewN ?_ _))

end Go.Proofs.YtanfaepjamkbjaaGreat
end
section
namespace Go.Proofs.YtanfaepjamkbjaaGreat
set_option linter.unusedSimpArgs false
set_option linter.unusedVariables false
open Go.RowKit

/-- a struct of two cells and a slot as the two results -/
theorem ret_B2t {fn : Func} {R : Ending → World → Prop} {a : Act} {w : World} {t u : Tmp} {g : Nat} {x y z : Value} (hres : fn.results = #[.cell t 44, .tmp u]) (hd : a.defers = [])
    (ht : a.tmps.getD t undef = .pointer (some ⟨g, 0, none⟩)) (hu : a.tmps.getD u undef = z) (hB : K2 w g x y) (hR : R (.returned (.tuple #[.agg #[x, y], z])) w) : bodyPost Tryz.prog fn R .ret a w := by
  obtain ⟨h1, h2, h3, h4, h5⟩ := hB
  rw [Array.getD_eq_getD_getElem?] at ht hu
  exact bodyPost_ret (by simp only [results, hres]; simp [go_sem, ht, hu, h1, h2]) hd hR
set_option maxRecDepth 100000 in
set_option maxHeartbeats 1000000 in
theorem fmake_any (n d : Int) (w : World) (hn : -4611686018427387904 ≤ n ∧ n ≤ 4611686018427387904) (hd : 0 < d ∧ d ≤ 4611686018427387904) :
    Calls Tryz.prog 27 #[.int .i64 n, .int .i64 d] w fun e w' => e = .returned (.tuple #[.agg #[.int .i64 (makeE n d).n, .int .i64 (makeE n d).d], .int .i64 (makeE n d).e]) ∧ Below w.heap.size w w' := by
  have hne : d ≠ 0 := by omega
  have HE : Hid (makeE n d = FE.of (mkF n d)) := Lib.hid (by unfold makeE; rw [if_neg hne])
  have hd0 : (d == 0) = false := by simpa using hne
  have hdn : decide (d < 0) = false := by simp; omega
  have HK : Hid (K2 (w.alloc (.cells #[.int .i64 0, .int .i64 0] 44)) w.heap.size (.int .i64 0) (.int .i64 0)) := Lib.hid (K2.new _ _ _ _)
  have HB : Hid (Below w.heap.size w (w.alloc (.cells #[.int .i64 0, .int .i64 0] 44))) := Lib.hid ((Below.refl _ _).alloc (Nat.le_refl _) _)
  have hk := HK.out
  obtain ⟨x1, x2⟩ := hn
  obtain ⟨x3, x4⟩ := hd
  by_cases h0 : n < 0
  all_goals
    refine calls_cps fun R hR => ?_
    have HR := Lib.hid hR
    clear hR
    go_enter Tryz.func27, Tryz.ntmps27
    go_wp2_with (first
      | (go_at_call 60; refine (abs_any _ _ (by omega) (by omega)).mono ?_; rintro e w' ⟨rfl, rfl⟩)
      | (go_at_call 59; refine (fit_int _ _ _ n _ (by omega) (by omega) (by omega) (by omega) (by first | (simp; done) | (simp; omega))).mono ?_; rintro e w3 ⟨rfl, hb3⟩; have HK3 := Lib.hid (K2.aft hb3 HK.out); have HB3 := Lib.hid (HB.out.trans (hb3.mono HB.out.size)); clear hb3; replace hk := HK3.out))
    have HDN : Hid ((d.natAbs : Int) = d) := Lib.hid (by omega)
    refine ret_B2t rfl rfl rfl rfl (K2.set HK3.out _ _) (HR.out _ _ ⟨?_, HB3.out.trans (below_set (Nat.le_refl _))⟩)
    rw [HE.out, HDN.out]
    rfl
end Go.Proofs.YtanfaepjamkbjaaGreat
end
section
namespace Go.Proofs.YtanfaepjamkbjaaGreat
set_option linter.unusedSimpArgs false
set_option linter.unusedVariables false
open Go.RowKit

set_option maxHeartbeats 2000000 in
theorem sub_any (a b : Fr) (w : World) :
    Calls Tryz.prog 51 #[.agg #[.int .i64 (a).n, .int .i64 (a).d], .agg #[.int .i64 (b).n, .int .i64 (b).d]] w fun e w' =>
      e = .returned (.tuple #[.agg #[.int .i64 (subE a b).n, .int .i64 (subE a b).d], .int .i64 (subE a b).e]) ∧ Below w.heap.size w w' := by
  refine calls_cps fun R hR => ?_
  have HR := Lib.hid hR
  clear hR
  go_enter Tryz.func51, Tryz.ntmps51
  go_wp2_with fail
  refine (fvalid_any [a, b] _ _ (RdB_two (by simp [go_sem]) (by simp [go_sem]) (by simp [go_sem]) (by simp [go_sem]) (by simp))).mono ?_
  rintro e w1 ⟨rfl, hb1⟩
  obtain ⟨p1, p2, p3, p4, p5⟩ := B2.after (g := w.heap.size) (x := .int .i64 a.n) (y := .int .i64 a.d) hb1 (by simp [B2, go_sem]) (by first | omega | (simp; done) | (simp; omega))
  obtain ⟨q1, q2, q3, q4, q5⟩ := B2.after (g := w.heap.size + 1) (x := .int .i64 b.n) (y := .int .i64 b.d) hb1 (by simp [B2, go_sem]) (by first | omega | (simp; done) | (simp; omega))
  obtain ⟨k1, k2, k3, k4, k5⟩ := B2.after (g := w.heap.size + 1 + 1) (x := .int .i64 0) (y := .int .i64 0) hb1 (by simp [B2, go_sem]) (by first | omega | (simp; done) | (simp; omega))
  have HB : Hid (Below w.heap.size w w1) := Lib.hid (by refine Below.step ?_ hb1 (by first | omega | (simp; done) | (simp; omega)); (repeat (first | exact Below.refl _ _ | assumption | refine Below.setCell ?_ (by first | omega | (simp; done) | (simp; omega)) _ | refine Below.alloc ?_ (by first | omega | (simp; done) | (simp; omega)) _ | refine Below.drew ?_ | refine below_drewN ?_ _)))
  clear hb1
  cases hv : a.okB && b.okB with
  | false =>
    have hv' : [a, b].all Fr.okB = false := by simpa using hv
    have HV := Lib.hid hv
    clear hv
    go_wp2
    refine bodyPost_ret (v := .tuple #[.agg #[.int .i64 0, .int .i64 0], .int .i64 1]) (by simp [results, Tryz.results51, go_sem, k1, k2]) rfl (HR.out _ _ ⟨?_, ?_⟩)
    · simp [subE, HV.out, FE.err]
    · have := HB.out; (repeat (first | exact Below.refl _ _ | assumption | refine Below.setCell ?_ (by first | omega | (simp; done) | (simp; omega)) _ | refine Below.alloc ?_ (by first | omega | (simp; done) | (simp; omega)) _ | refine Below.drew ?_ | refine below_drewN ?_ _))
  | true =>
    have hv' : [a, b].all Fr.okB = true := by simpa using hv
    have HV := Lib.hid hv
    have hv2 : a.ok ∧ b.ok := by simpa [Fr.okB] using hv
    obtain ⟨hva, hvb⟩ := hv2
    have ⟨a1, a2, a3, a4, _⟩ := hva
    have ⟨b1, b2, b3, b4, _⟩ := hvb
    clear hv
    have HS : Hid (addE a (fneg b) = subE a b) := Lib.hid (by simp [addE, subE, fsub, Fr.okB_of hva, Fr.okB_of hvb, Fr.okB_of (fneg_ok hvb)])
    clear hva hvb
    go_wp2_with fail
    refine (add_any a (fneg b) _).mono ?_
    rintro e w3 ⟨rfl, hb3⟩
    obtain ⟨g1, g2, g3, g4, g5⟩ := B2.after (g := w.heap.size + 1 + 1) (x := .int .i64 0) (y := .int .i64 0) hb3 (by simp [B2, go_sem, k1, k2, k3, k4, k5]) (by first | omega | (simp; done) | (simp; omega))
    have HB3 : Hid (Below w.heap.size w w3) := Lib.hid (by refine Below.step ?_ hb3 (by simp; omega); have := HB.out; (repeat (first | exact Below.refl _ _ | assumption | refine Below.setCell ?_ (by first | omega | (simp; done) | (simp; omega)) _ | refine Below.alloc ?_ (by first | omega | (simp; done) | (simp; omega)) _ | refine Below.drew ?_ | refine below_drewN ?_ _)))
    clear hb3
    go_wp2
    refine bodyPost_ret (v := .tuple #[.agg #[.int .i64 (addE a (fneg b)).n, .int .i64 (addE a (fneg b)).d], .int .i64 (addE a (fneg b)).e]) (by simp [results, Tryz.results51, go_sem, g1, g2]) rfl (HR.out _ _ ⟨?_, ?_⟩)
    · rw [HS.out]
    · have := HB3.out; (repeat (first | exact Below.refl _ _ | assumption | refine Below.setCell ?_ (by first | omega | (simp; done) | (simp; omega)) _ | refine Below.alloc ?_ (by first | omega | (simp; done) | (simp; omega)) _ | refine Below.drew ?_ | refine below_drewN ?_ _))

set_option maxHeartbeats 4000000 in
theorem mul_any (a b : Fr) (w : World) :
    Calls Tryz.prog 75 #[.agg #[.int .i64 (a).n, .int .i64 (a).d], .agg #[.int .i64 (b).n, .int .i64 (b).d]] w fun e w' =>
      e = .returned (.tuple #[.agg #[.int .i64 (mulE a b).n, .int .i64 (mulE a b).d], .int .i64 (mulE a b).e]) ∧ Below w.heap.size w w' := by
  refine calls_cps fun R hR => ?_
  have HR := Lib.hid hR
  clear hR
  go_enter Tryz.func75, Tryz.ntmps75
  go_wp2_with fail
  refine (fvalid_any [a, b] _ _ (RdB_two (by simp [go_sem]) (by simp [go_sem]) (by simp [go_sem]) (by simp [go_sem]) (by simp))).mono ?_
  rintro e w1 ⟨rfl, hb1⟩
  obtain ⟨p1, p2, p3, p4, p5⟩ := B2.after (g := w.heap.size) (x := .int .i64 a.n) (y := .int .i64 a.d) hb1 (by simp [B2, go_sem]) (by first | omega | (simp; done) | (simp; omega))
  obtain ⟨q1, q2, q3, q4, q5⟩ := B2.after (g := w.heap.size + 1) (x := .int .i64 b.n) (y := .int .i64 b.d) hb1 (by simp [B2, go_sem]) (by first | omega | (simp; done) | (simp; omega))
  obtain ⟨k1, k2, k3, k4, k5⟩ := B2.after (g := w.heap.size + 1 + 1) (x := .int .i64 0) (y := .int .i64 0) hb1 (by simp [B2, go_sem]) (by first | omega | (simp; done) | (simp; omega))
  have HB : Hid (Below w.heap.size w w1) := Lib.hid (by refine Below.step ?_ hb1 (by first | omega | (simp; done) | (simp; omega)); (repeat (first | exact Below.refl _ _ | assumption | refine Below.setCell ?_ (by first | omega | (simp; done) | (simp; omega)) _ | refine Below.alloc ?_ (by first | omega | (simp; done) | (simp; omega)) _ | refine Below.drew ?_ | refine below_drewN ?_ _)))
  clear hb1
  cases hv : a.okB && b.okB with
  | false =>
    have hv' : [a, b].all Fr.okB = false := by simpa using hv
    have HV := Lib.hid hv
    clear hv
    go_wp2
    refine bodyPost_ret (v := .tuple #[.agg #[.int .i64 0, .int .i64 0], .int .i64 1]) (by simp [results, Tryz.results75, go_sem, k1, k2]) rfl (HR.out _ _ ⟨?_, ?_⟩)
    · simp [mulE, HV.out, FE.err]
    · have := HB.out; (repeat (first | exact Below.refl _ _ | assumption | refine Below.setCell ?_ (by first | omega | (simp; done) | (simp; omega)) _ | refine Below.alloc ?_ (by first | omega | (simp; done) | (simp; omega)) _ | refine Below.drew ?_ | refine below_drewN ?_ _))
  | true =>
    have hv' : [a, b].all Fr.okB = true := by simpa using hv
    have HV := Lib.hid hv
    have hv2 : a.ok ∧ b.ok := by simpa [Fr.okB] using hv
    obtain ⟨hva, hvb⟩ := hv2
    have ⟨a1, a2, a3, a4, _⟩ := hva
    have ⟨b1, b2, b3, b4, _⟩ := hvb
    clear hv
    have bm := mul_bd (a.n.natAbs : Int) (b.n.natAbs : Int) (by omega) (by omega) (by omega) (by omega)
    have bm0 : 0 ≤ (a.n.natAbs : Int) * (b.n.natAbs : Int) := Int.mul_nonneg (by omega) (by omega)
    have bz := mul_bd a.d b.d (by omega) a4 (by omega) b4
    have bz2 : 0 < a.d * b.d := Int.mul_pos (by omega) (by omega)
    have HM : Hid ((if (decide (a.n < 0) != decide (b.n < 0)) then -((a.n.natAbs : Int) * (b.n.natAbs : Int)) else (a.n.natAbs : Int) * (b.n.natAbs : Int)) = a.n * b.n) := Lib.hid (sign_mul a.n b.n)
    obtain ⟨m, hm⟩ : ∃ m, (a.n.natAbs : Int) * (b.n.natAbs : Int) = m := ⟨_, rfl⟩
    obtain ⟨z, hz⟩ : ∃ z, a.d * b.d = z := ⟨_, rfl⟩
    rw [hm] at bm bm0 HM
    rw [hz] at bz bz2
    have wm : IntKind.u64.wrap ((a.n.natAbs : Int) * (b.n.natAbs : Int)) = m := by rw [hm, IntKind.wrap_u64]; omega
    have wz : IntKind.u64.wrap (a.d * b.d) = z := by rw [hz, IntKind.wrap_u64]; omega
    have wa : IntKind.u64.wrap a.d = a.d := by rw [IntKind.wrap_u64]; omega
    have wb : IntKind.u64.wrap b.d = b.d := by rw [IntKind.wrap_u64]; omega
    have HZ := Lib.hid hz
    clear hm hz hva hvb
    go_wp2
    go_region_held3 (fun W => W.cell? ⟨w.heap.size, 0, none⟩ = some (.int .i64 a.n) ∧ W.cell? ⟨w.heap.size, 1, none⟩ = some (.int .i64 a.d) ∧ W.cell? ⟨w.heap.size + 1, 0, none⟩ = some (.int .i64 b.n) ∧ W.cell? ⟨w.heap.size + 1, 1, none⟩ = some (.int .i64 b.d)) (first | exact ⟨p1, p2, q1, q2⟩ | assumption | exact ⟨x1, x2, y1, y2⟩ | exact ⟨cell_set2 x1 (by omega), cell_set2 x2 (by omega), cell_set2 y1 (by omega), cell_set2 y2 (by omega)⟩)
      (first | (go_at_call 60; refine (abs_any _ _ (by omega) (by omega)).mono ?_; rintro e w' ⟨rfl, rfl⟩) | (go_at_call 59; refine (fit_int _ _ _ (a.n * b.n) _ (by omega) (by omega) (by omega) (by omega) HM.out).mono ?_; rintro e w3 ⟨rfl, hb3⟩; obtain ⟨x1, x2, x3, x4, x5⟩ := B2.after hb3 (g := w.heap.size) ⟨p1, p2, p3, p4, p5⟩ (by simp; omega); obtain ⟨y1, y2, y3, y4, y5⟩ := B2.after hb3 (g := w.heap.size + 1) ⟨q1, q2, q3, q4, q5⟩ (by simp; omega); obtain ⟨z1, z2, z3, z4, z5⟩ := B2.after hb3 (g := w.heap.size + 1 + 1) ⟨k1, k2, k3, k4, k5⟩ (by simp; omega); have HB3 := Lib.hid (Below.step HB.out.drew hb3 (by simp; omega)); clear hb3))
    go_wp2
    refine bodyPost_ret (v := .tuple #[.agg #[.int .i64 (FE.of (mkF (a.n * b.n) z)).n, .int .i64 (FE.of (mkF (a.n * b.n) z)).d], .int .i64 (FE.of (mkF (a.n * b.n) z)).e]) (by simp [results, Tryz.results75, go_sem, z1, z2]) rfl (HR.out _ _ ⟨?_, ?_⟩)
    · simp [mulE, HV.out, fmul, HZ.out]
    · have := HB3.out; (repeat (first | exact Below.refl _ _ | assumption | refine Below.setCell ?_ (by first | omega | (simp; done) | (simp; omega)) _ | refine Below.alloc ?_ (by first | omega | (simp; done) | (simp; omega)) _ | refine Below.drew ?_ | refine below_drewN ?_ _))

set_option maxHeartbeats 4000000 in
theorem div_any (a b : Fr) (w : World) :
    Calls Tryz.prog 74 #[.agg #[.int .i64 (a).n, .int .i64 (a).d], .agg #[.int .i64 (b).n, .int .i64 (b).d]] w fun e w' =>
      e = .returned (.tuple #[.agg #[.int .i64 (divE a b).n, .int .i64 (divE a b).d], .int .i64 (divE a b).e]) ∧ Below w.heap.size w w' := by
  refine calls_cps fun R hR => ?_
  have HR := Lib.hid hR
  clear hR
  go_enter Tryz.func74, Tryz.ntmps74
  go_wp2_with fail
  refine (fvalid_any [a, b] _ _ (RdB_two (by simp [go_sem]) (by simp [go_sem]) (by simp [go_sem]) (by simp [go_sem]) (by simp))).mono ?_
  rintro e w1 ⟨rfl, hb1⟩
  obtain ⟨p1, p2, p3, p4, p5⟩ := B2.after (g := w.heap.size) (x := .int .i64 a.n) (y := .int .i64 a.d) hb1 (by simp [B2, go_sem]) (by first | omega | (simp; done) | (simp; omega))
  obtain ⟨q1, q2, q3, q4, q5⟩ := B2.after (g := w.heap.size + 1) (x := .int .i64 b.n) (y := .int .i64 b.d) hb1 (by simp [B2, go_sem]) (by first | omega | (simp; done) | (simp; omega))
  obtain ⟨k1, k2, k3, k4, k5⟩ := B2.after (g := w.heap.size + 1 + 1) (x := .int .i64 0) (y := .int .i64 0) hb1 (by simp [B2, go_sem]) (by first | omega | (simp; done) | (simp; omega))
  have HB : Hid (Below w.heap.size w w1) := Lib.hid (by refine Below.step ?_ hb1 (by first | omega | (simp; done) | (simp; omega)); (repeat (first | exact Below.refl _ _ | assumption | refine Below.setCell ?_ (by first | omega | (simp; done) | (simp; omega)) _ | refine Below.alloc ?_ (by first | omega | (simp; done) | (simp; omega)) _ | refine Below.drew ?_ | refine below_drewN ?_ _)))
  clear hb1
  cases hv : a.okB && b.okB with
  | false =>
    have hv' : [a, b].all Fr.okB = false := by simpa using hv
    have HV := Lib.hid hv
    clear hv
    go_wp2
    refine bodyPost_ret (v := .tuple #[.agg #[.int .i64 0, .int .i64 0], .int .i64 1]) (by simp [results, Tryz.results74, go_sem, k1, k2]) rfl (HR.out _ _ ⟨?_, ?_⟩)
    · simp [divE, HV.out, FE.err]
    · have := HB.out; (repeat (first | exact Below.refl _ _ | assumption | refine Below.setCell ?_ (by first | omega | (simp; done) | (simp; omega)) _ | refine Below.alloc ?_ (by first | omega | (simp; done) | (simp; omega)) _ | refine Below.drew ?_ | refine below_drewN ?_ _))
  | true =>
    have hv' : [a, b].all Fr.okB = true := by simpa using hv
    have HV := Lib.hid hv
    have hv2 : a.ok ∧ b.ok := by simpa [Fr.okB] using hv
    obtain ⟨hva, hvb⟩ := hv2
    have ⟨a1, a2, a3, a4, _⟩ := hva
    have ⟨b1, b2, b3, b4, _⟩ := hvb
    clear hv
    by_cases hz0 : b.n = 0
    · have hz1 : (b.n == 0) = true := by simpa using hz0
      have HZ0 := Lib.hid hz0
      clear hz0
      go_wp2
      refine bodyPost_ret (v := .tuple #[.agg #[.int .i64 0, .int .i64 0], .int .i64 7]) (by simp [results, Tryz.results74, go_sem, k1, k2]) rfl (HR.out _ _ ⟨?_, ?_⟩)
      · simp [divE, HV.out, FE.err, HZ0.out]
      · have := HB.out; (repeat (first | exact Below.refl _ _ | assumption | refine Below.setCell ?_ (by first | omega | (simp; done) | (simp; omega)) _ | refine Below.alloc ?_ (by first | omega | (simp; done) | (simp; omega)) _ | refine Below.drew ?_ | refine below_drewN ?_ _))
    have hz1 : (b.n == 0) = false := by simpa using hz0
    have bm := mul_bd (a.n.natAbs : Int) b.d (by omega) (by omega) (by omega) (by omega)
    have bm0 : 0 ≤ (a.n.natAbs : Int) * b.d := Int.mul_nonneg (by omega) (by omega)
    have bz := mul_bd a.d (b.n.natAbs : Int) (by omega) a4 (by omega) (by omega)
    have bz2 : 0 < a.d * (b.n.natAbs : Int) := Int.mul_pos (by omega) (by omega)
    obtain ⟨nn, hnn⟩ : ∃ nn, (if (decide (a.n < 0) != decide (b.n < 0)) then -((a.n.natAbs : Int) * b.d) else (a.n.natAbs : Int) * b.d) = nn := ⟨_, rfl⟩
    have HD := Lib.hid (fdiv_sign a b nn hnn)
    have HM := Lib.hid hnn
    obtain ⟨m, hm⟩ : ∃ m, (a.n.natAbs : Int) * b.d = m := ⟨_, rfl⟩
    obtain ⟨z, hz⟩ : ∃ z, a.d * (b.n.natAbs : Int) = z := ⟨_, rfl⟩
    rw [hm] at bm bm0 HM
    rw [hz] at bz bz2 HD
    have wm : IntKind.u64.wrap ((a.n.natAbs : Int) * b.d) = m := by rw [hm, IntKind.wrap_u64]; omega
    have wz : IntKind.u64.wrap (a.d * (b.n.natAbs : Int)) = z := by rw [hz, IntKind.wrap_u64]; omega
    have wa : IntKind.u64.wrap a.d = a.d := by rw [IntKind.wrap_u64]; omega
    have wb : IntKind.u64.wrap b.d = b.d := by rw [IntKind.wrap_u64]; omega
    have HZ0 := Lib.hid hz0
    clear hm hz hva hvb hnn hz0
    go_wp2
    go_region_held3 (fun W => W.cell? ⟨w.heap.size, 0, none⟩ = some (.int .i64 a.n) ∧ W.cell? ⟨w.heap.size, 1, none⟩ = some (.int .i64 a.d) ∧ W.cell? ⟨w.heap.size + 1, 0, none⟩ = some (.int .i64 b.n) ∧ W.cell? ⟨w.heap.size + 1, 1, none⟩ = some (.int .i64 b.d)) (first | exact ⟨p1, p2, q1, q2⟩ | assumption | exact ⟨x1, x2, y1, y2⟩ | exact ⟨cell_set2 x1 (by omega), cell_set2 x2 (by omega), cell_set2 y1 (by omega), cell_set2 y2 (by omega)⟩)
      (first | (go_at_call 60; refine (abs_any _ _ (by omega) (by omega)).mono ?_; rintro e w' ⟨rfl, rfl⟩) | (go_at_call 59; refine (fit_int _ _ _ (nn) _ (by omega) (by omega) (by omega) (by omega) HM.out).mono ?_; rintro e w3 ⟨rfl, hb3⟩; obtain ⟨x1, x2, x3, x4, x5⟩ := B2.after hb3 (g := w.heap.size) ⟨p1, p2, p3, p4, p5⟩ (by simp; omega); obtain ⟨y1, y2, y3, y4, y5⟩ := B2.after hb3 (g := w.heap.size + 1) ⟨q1, q2, q3, q4, q5⟩ (by simp; omega); obtain ⟨z1, z2, z3, z4, z5⟩ := B2.after hb3 (g := w.heap.size + 1 + 1) ⟨k1, k2, k3, k4, k5⟩ (by simp; omega); have HB3 := Lib.hid (Below.step HB.out.drew hb3 (by simp; omega)); clear hb3))
    go_wp2
    refine bodyPost_ret (v := .tuple #[.agg #[.int .i64 (FE.of (mkF (nn) z)).n, .int .i64 (FE.of (mkF (nn) z)).d], .int .i64 (FE.of (mkF (nn) z)).e]) (by simp [results, Tryz.results74, go_sem, z1, z2]) rfl (HR.out _ _ ⟨?_, ?_⟩)
    · simp [divE, HV.out, HD.out, HZ0.out]
    · have := HB3.out; (repeat (first | exact Below.refl _ _ | assumption | refine Below.setCell ?_ (by first | omega | (simp; done) | (simp; omega)) _ | refine Below.alloc ?_ (by first | omega | (simp; done) | (simp; omega)) _ | refine Below.drew ?_ | refine below_drewN ?_ _))

end Go.Proofs.YtanfaepjamkbjaaGreat
end
section
namespace Go.Proofs.YtanfaepjamkbjaaGreat
set_option linter.unusedSimpArgs false
set_option linter.unusedVariables false
open Go.RowKit

set_option maxHeartbeats 400000 in
theorem rof_any (n : Int) (w : World) :
    Calls Tryz.prog 62 #[.int .i64 n] w fun e w' => e = .returned (.agg #[.int .i64 n, .int .i64 1]) ∧ Below w.heap.size w w' := by
  refine calls_cps fun R hR => ?_
  have HR := Lib.hid hR
  clear hR
  go_enter Tryz.func62, Tryz.ntmps62
  go_wp2
  refine bodyPost_ret (v := .agg #[.int .i64 n, .int .i64 1]) (by simp [results, Tryz.results62, go_sem]) rfl (HR.out _ _ ⟨rfl, ?_⟩)
  (repeat (first | exact Below.refl _ _ | assumption | refine Below.setCell ?_ (by first | omega | (simp; done) | (simp; omega)) _ | refine Below.alloc ?_ (by first | omega | (simp; done) | (simp; omega)) _ | refine Below.drew ?_ | refine below_drewN ?_ _))

end Go.Proofs.YtanfaepjamkbjaaGreat
end
section
namespace Go.Proofs.YtanfaepjamkbjaaGreat.Aw
set_option linter.unusedSimpArgs false
set_option linter.unusedVariables false
open Go.RowKit Go.Proofs
variable {P : Program} [IsP P]

theorem gti_mem {α : Type} [Inhabited α] {l : List α} {k : Nat} (h : k < l.length) : gti l k ∈ l := List.mem_of_getElem? (gti_get h)
instance : Inhabited Fr := ⟨⟨0, 0⟩⟩
def eF (a : Fr) : AV := .agg [eI a.n, eI a.d]
def eFE (x : FE) : AV := .tup [.agg [eI x.n, eI x.d], eI x.e]
theorem lo_F (a : Fr) : Lo 0 (eF a) := .agg _ (lo_cons (.s _) (lo_cons (.s _) lo_nil))
theorem rep_F {G : Cx} {v : Value} {a : Fr} (h : Rep G v (eF a)) : v = .agg #[.int .i64 a.n, .int .i64 a.d] := by
  generalize hx : eF a = x at h
  cases h with
  | agg vs cs hl h1 hr =>
    unfold eF at hx
    injection hx with hx
    subst hx
    obtain ⟨q⟩ := vs
    match q, hl with
    | [u, w], _ =>
      have e1 := rep_s (hr 0 u _ rfl rfl)
      have e2 := rep_s (hr 1 w _ rfl rfl)
      rw [e1, e2]
  | _ => unfold eF at hx; cases hx
theorem rep_mkF (G : Cx) (n d : Int) : Rep G (.agg #[.int .i64 n, .int .i64 d]) (.agg [eI n, eI d]) :=
  .agg _ _ rfl (fun c hc => by simp at hc; rcases hc with rfl | rfl <;> rfl) (fun j v c hv hc => by
    match j, hv, hc with
    | 0, hv, hc => simp at hv hc; subst hv hc; exact .s _
    | 1, hv, hc => simp at hv hc; subst hv hc; exact .s _
    | j + 2, hv, hc => simp at hv)
theorem retFE_pure {f : FuncId} {args : List AV} {x : FE} (he : Ent f) (h : ∀ (G : Cx) (vargs : Array Value), vargs.size = args.length → (∀ (j : Nat) v x, vargs[j]? = some v → args[j]? = some x → Rep G v x) → Calls Tryz.prog f vargs G.w fun e w' => e = .returned (.tuple #[.agg #[.int .i64 (x).n, .int .i64 (x).d], .int .i64 (x).e]) ∧ Below G.w.heap.size G.w w') : Pure P f args (eFE x) :=
  pure_prog (pure_mk he (.tup _ (lo_cons (.agg _ (lo_cons (.s _) (lo_cons (.s _) lo_nil))) (lo_cons (.s _) lo_nil))) fun G vargs hst hsz hrep => (h G vargs hsz hrep).mono (by
    rintro e w' ⟨rfl, hb⟩
    refine ⟨_, rfl, hb, .tup _ _ rfl (fun j v c hv hc => ?_)⟩
    match j, hv, hc with
    | 0, hv, hc => simp at hv hc; subst hv hc; exact rep_mkF _ _ _
    | 1, hv, hc => simp at hv hc; subst hv hc; exact .s _
    | j + 2, hv, hc => simp at hv))
theorem args_FF {G : Cx} {vargs : Array Value} {a b : Fr} (hsz : vargs.size = [eF a, eF b].length) (hrep : ∀ (j : Nat) v x, vargs[j]? = some v → [eF a, eF b][j]? = some x → Rep G v x) : vargs = #[.agg #[.int .i64 (a).n, .int .i64 (a).d], .agg #[.int .i64 (b).n, .int .i64 (b).d]] := by
  obtain ⟨q⟩ := vargs
  match q, hsz with
  | [u, w], _ => rw [rep_F (hrep 0 u _ rfl rfl), rep_F (hrep 1 w _ rfl rfl)]
theorem args_F {G : Cx} {vargs : Array Value} {a : Fr} (hsz : vargs.size = [eF a].length) (hrep : ∀ (j : Nat) v x, vargs[j]? = some v → [eF a][j]? = some x → Rep G v x) : vargs = #[.agg #[.int .i64 (a).n, .int .i64 (a).d]] := by
  obtain ⟨q⟩ := vargs
  match q, hsz with
  | [u], _ => rw [rep_F (hrep 0 u _ rfl rfl)]
theorem ret_s_pure {f : FuncId} {args : List AV} {u : Value} (he : Ent f) (h : ∀ (G : Cx) (vargs : Array Value), vargs.size = args.length → (∀ (j : Nat) v x, vargs[j]? = some v → args[j]? = some x → Rep G v x) → Calls Tryz.prog f vargs G.w fun e w' => e = .returned u ∧ Below G.w.heap.size G.w w') : Pure P f args (.s u) :=
  pure_prog (pure_mk he (.s _) fun G vargs hst hsz hrep => (h G vargs hsz hrep).mono (by
    rintro e w' ⟨rfl, hb⟩
    exact ⟨_, rfl, hb, .s _⟩))
theorem retF_pure {f : FuncId} {args : List AV} {a : Fr} (he : Ent f) (h : ∀ (G : Cx) (vargs : Array Value), vargs.size = args.length → (∀ (j : Nat) v x, vargs[j]? = some v → args[j]? = some x → Rep G v x) → Calls Tryz.prog f vargs G.w fun e w' => e = .returned (.agg #[.int .i64 (a).n, .int .i64 (a).d]) ∧ Below G.w.heap.size G.w w') : Pure P f args (eF a) :=
  pure_prog (pure_mk he (lo_F a) fun G vargs hst hsz hrep => (h G vargs hsz hrep).mono (by
    rintro e w' ⟨rfl, hb⟩
    exact ⟨_, rfl, hb, rep_mkF _ _ _⟩))

theorem fAdd_pf (a b : Fr) : Pure P 48 [eF a, eF b] (eFE (addE a b)) :=
  retFE_pure (ent_of Tryz.func48 rfl rfl) fun G vargs hsz hrep => by rw [args_FF hsz hrep]; exact add_any a b G.w
theorem fSub_pf (a b : Fr) : Pure P 51 [eF a, eF b] (eFE (subE a b)) :=
  retFE_pure (ent_of Tryz.func51 rfl rfl) fun G vargs hsz hrep => by rw [args_FF hsz hrep]; exact sub_any a b G.w
theorem fMul_pf (a b : Fr) : Pure P 75 [eF a, eF b] (eFE (mulE a b)) :=
  retFE_pure (ent_of Tryz.func75 rfl rfl) fun G vargs hsz hrep => by rw [args_FF hsz hrep]; exact mul_any a b G.w
theorem fDiv_pf (a b : Fr) : Pure P 74 [eF a, eF b] (eFE (divE a b)) :=
  retFE_pure (ent_of Tryz.func74 rfl rfl) fun G vargs hsz hrep => by rw [args_FF hsz hrep]; exact div_any a b G.w
theorem fValid_pf (a : Fr) : Pure P 66 [eF a] (eB a.okB) :=
  ret_s_pure (ent_of Tryz.func66 rfl rfl) fun G vargs hsz hrep => by rw [args_F hsz hrep]; exact fracValid_any a G.w
theorem rOf_pf (n : Int) : Pure P 62 [eI n] (eF (Fr.of n)) :=
  retF_pure (ent_of Tryz.func62 rfl rfl) fun G vargs hsz hrep => by
    obtain ⟨q⟩ := vargs
    match q, hsz with
    | [u], _ => rw [rep_s (hrep 0 u _ rfl rfl)]; exact rof_any n G.w
theorem indexFF_pf (f : FuncId) (caps : List AV) (p : Fr → Bool) (l : List Fr) (hlo : ∀ a : Fr, Lo 0 (eF a)) (hlc : Lo 0 (.fn f caps)) (hf : ∀ a ∈ l, Pure P f ([eF a] ++ caps) (eB (p a))) :
    Pure P 83 [eL eF l, .fn f caps] (eI (firstAt p l)) := by
  refine aw_fn (by rw [IsP.eq (P := P)]; exact Tryz.func83) rfl rfl rfl rfl rfl (lo_cons (lo_map hlo) (lo_cons hlc lo_nil)) (.s _) (by simp only [argF]; rfl) ?_
  refine aw_bdm (d := 0) rfl (fun hmx => ?_)
  unfold maxLen at hmx
  repeat (first | refine aw_seq ?_ | refine ath_n ?_ | refine aw_skip ?_ | refine abl_n ?_ | refine aw_block ?_)
  refine aw_region ?_
  refine ops_op rfl rfl (runs_none rfl) (mv_s (.inr rfl) rfl) ?_
  refine ops_nil ?_
  repeat (first | refine aw_seq ?_ | refine ath_n ?_ | refine aw_skip ?_ | refine abl_n ?_ | refine aw_block ?_)
  refine aw_region ?_
  first | refine ops_op rfl rfl (runs_none rfl) (mv_own (.inl rfl) rfl) ?_ | refine ops_op rfl rfl (runs_none rfl) (mv_sl (.inl rfl) rfl) ?_ | refine ops_op rfl rfl (runs_none rfl) (mv_s (.inl rfl) rfl) ?_ | refine ops_op rfl rfl (runs_none rfl) (mv_emp (.inl rfl) rfl) ?_ | refine ops_op rfl rfl (runs_none rfl) (mv_sub (.inl rfl) rfl) ?_
  first | refine ops_op rfl rfl (runs_none rfl) (does_len_map rfl ts46 rfl) ?_ | refine ops_op rfl rfl (runs_none rfl) (does_len_sl rfl ts46 rfl) ?_ | refine ops_op rfl rfl (runs_none rfl) (does_len_own rfl ts46 rfl) ?_ | refine ops_op rfl rfl (runs_none rfl) (does_len_s rfl ts46 rfl) ?_ | refine ops_op rfl rfl (runs_none rfl) (does_len_emp rfl ts46 rfl) ?_ | refine ops_op rfl rfl (runs_none rfl) (does_len_sub rfl ts46 rfl) ?_
  refine ops_op rfl rfl (runs_none rfl) (mv_s (.inl rfl) rfl) ?_
  refine ops_nil ?_
  repeat (first | refine aw_seq ?_ | refine ath_n ?_ | refine aw_skip ?_ | refine abl_n ?_ | refine aw_block ?_)
  refine aw_loops (S := Nat) (fun k => [(0, eL eF l), (1, .fn f caps), (7, eI l.length), (8, eI k)]) (fun _ => []) (fun k => k ≤ l.length ∧ ∀ j a, j < k → l[j]? = some a → p a = false) (fun k => l.length - k) 0 (wk_sub _ ⟨rfl, rfl, rfl, rfl, trivial⟩) ⟨by omega, fun j a hj => by omega⟩ (fun k hk => ?_)
  repeat (first | refine aw_seq ?_ | refine ath_n ?_ | refine aw_skip ?_ | refine abl_n ?_ | refine aw_block ?_)
  refine aw_region ?_
  refine ops_op rfl rfl (runs_none rfl) (does_lss rfl rfl rfl) ?_
  refine ops_nil ?_
  repeat (first | refine aw_seq ?_ | refine ath_n ?_ | refine aw_skip ?_ | refine abl_n ?_ | refine aw_block ?_)
  refine aw_if rfl (fun h => ?_) (fun h => ?_)
  · have hlt : k < l.length := by omega
    repeat (first | refine aw_seq ?_ | refine ath_n ?_ | refine aw_skip ?_ | refine abl_n ?_ | refine aw_block ?_)
    refine aw_region ?_
    refine ops_op rfl rfl (runs_none rfl) (mv_s (.inl rfl) rfl) ?_
    refine ops_op rfl rfl (runs_none rfl) (mv_s (.inr rfl) rfl) ?_
    refine ops_nil ?_
    repeat (first | refine aw_seq ?_ | refine ath_n ?_ | refine aw_skip ?_ | refine abl_n ?_ | refine aw_block ?_)
    have hp := hf (gti l k) (gti_mem hlt)
    refine aw_region ?_
    first | refine ops_op rfl rfl (runs_none rfl) (mv_fn (.inl rfl) rfl) ?_ | refine ops_op rfl rfl (runs_none rfl) (mv_s (.inl rfl) rfl) ?_
    first | refine ops_op rfl rfl (runs_none rfl) (mv_own (.inl rfl) rfl) ?_ | refine ops_op rfl rfl (runs_none rfl) (mv_sl (.inl rfl) rfl) ?_ | refine ops_op rfl rfl (runs_none rfl) (mv_s (.inl rfl) rfl) ?_ | refine ops_op rfl rfl (runs_none rfl) (mv_emp (.inl rfl) rfl) ?_ | refine ops_op rfl rfl (runs_none rfl) (mv_sub (.inl rfl) rfl) ?_
    refine ops_op rfl rfl (runs_none rfl) (mv_s (.inl rfl) rfl) ?_
    first | refine ops_op rfl rfl (runs_none rfl) (does_index_sl rfl ts46 ti44 rfl rfl rfl (ix_map (by omega)) rfl) ?_ | refine ops_op rfl rfl (runs_none rfl) (does_index_own rfl ts46 ti44 rfl rfl rfl (by omega)) ?_ | refine ops_op rfl rfl (runs_none rfl) (does_index_sub rfl ts46 ti44 rfl rfl rfl (by omega)) ?_
    first | refine ops_op rfl rfl (runs_none rfl) (does_load_refw rfl ta44 ti44 rfl rfl) ?_ | refine ops_op rfl rfl (runs_none rfl) (does_load_whole rfl ta44 ti44 rfl rfl rfl rfl rfl) ?_ | refine ops_op rfl rfl (runs_none rfl) (does_load_refs rfl ta44 ti44 rfl (Nat.le_of_ble_eq_true rfl)) ?_ | refine ops_op rfl rfl (runs_none rfl) (does_load_ptrs rfl ta44 ti44 rfl rfl rfl rfl (Nat.le_of_ble_eq_true rfl)) ?_
    refine ops_op rfl rfl (runs_none rfl) (does_call rfl rfl (hp) (evc_cons rfl evc_nil)) ?_
    refine ops_nil ?_
    repeat (first | refine aw_seq ?_ | refine ath_n ?_ | refine aw_skip ?_ | refine abl_n ?_ | refine aw_block ?_)
    refine aw_cond rfl (fun h => ?_) (fun h => ?_)
    · repeat (first | refine aw_seq ?_ | refine ath_n ?_ | refine aw_skip ?_ | refine abl_n ?_ | refine aw_block ?_)
      refine aw_region ?_
      refine ops_op rfl rfl (runs_none rfl) (mv_s (.inl rfl) rfl) ?_
      refine ops_op rfl rfl (runs_none rfl) (mv_s (.inr rfl) rfl) ?_
      refine ops_nil ?_
      repeat (first | refine aw_seq ?_ | refine ath_n ?_ | refine aw_skip ?_ | refine abl_n ?_ | refine aw_block ?_)
      (refine aw_ret ?_; repeat (first | refine ath_r ?_ | refine abl_r ?_))
      exact post1 (.inr rfl) rfl (congrArg eI (firstAt_some (gti_get hlt) h hk.2).symm)
    · repeat (first | refine aw_seq ?_ | refine ath_n ?_ | refine aw_skip ?_ | refine abl_n ?_ | refine aw_block ?_)
      refine aw_region ?_
      refine ops_op rfl rfl (runs_none rfl) (does_add rfl rfl rfl (IntWalk.i64_in _ (by omega))) ?_
      refine ops_op rfl rfl (runs_none rfl) (mv_s (.inl rfl) rfl) ?_
      refine ops_nil ?_
      repeat (first | refine aw_seq ?_ | refine ath_n ?_ | refine aw_skip ?_ | refine abl_n ?_ | refine aw_block ?_)
      refine ⟨k + 1, ⟨by omega, fun j a hj ha => ?_⟩, by omega, wk_sub _ ⟨rfl, rfl, rfl, rfl, trivial⟩⟩
      by_cases e : j = k
      · subst e
        rw [gti_get hlt] at ha
        cases ha
        exact h
      · exact hk.2 j a (by omega) ha
  · (refine aw_exit ?_; repeat (first | refine ath_x ?_ | refine abl_hit ?_ | refine abl_miss rfl ?_ | refine abl_n ?_ | refine ath_n ?_ | refine aw_seq ?_ | refine aw_skip ?_ | refine aw_block ?_))
    refine aw_region ?_
    refine ops_op rfl rfl (runs_none rfl) (mv_s (.inr rfl) rfl) ?_
    refine ops_nil ?_
    repeat (first | refine aw_seq ?_ | refine ath_n ?_ | refine aw_skip ?_ | refine abl_n ?_ | refine aw_block ?_)
    (refine aw_ret ?_; repeat (first | refine ath_r ?_ | refine abl_r ?_))
    exact post1 (.inr rfl) rfl (congrArg eI (firstAt_none (fun j a hj ha => hk.2 j a (by omega) ha)).symm)
theorem containsFF_pf (f : FuncId) (caps : List AV) (p : Fr → Bool) (l : List Fr) (hlo : ∀ a : Fr, Lo 0 (eF a)) (hlc : Lo 0 (.fn f caps)) (hf : ∀ a ∈ l, Pure P f ([eF a] ++ caps) (eB (p a))) :
    Pure P 64 [eL eF l, .fn f caps] (eB (l.any p)) := by
  refine aw_fn (by rw [IsP.eq (P := P)]; exact Tryz.func64) rfl rfl rfl rfl rfl (lo_cons (lo_map hlo) (lo_cons hlc lo_nil)) (.s _) (by simp only [argF]; rfl) ?_
  have hi := indexFF_pf f caps p l hlo hlc hf
  repeat (first | refine aw_seq ?_ | refine ath_n ?_ | refine aw_skip ?_ | refine abl_n ?_ | refine aw_block ?_)
  refine aw_region ?_
  refine ops_op rfl rfl (runs_none rfl) (mv_s (.inr rfl) rfl) ?_
  refine ops_nil ?_
  repeat (first | refine aw_seq ?_ | refine ath_n ?_ | refine aw_skip ?_ | refine abl_n ?_ | refine aw_block ?_)
  refine aw_region ?_
  first | refine ops_op rfl rfl (runs_none rfl) (mv_own (.inl rfl) rfl) ?_ | refine ops_op rfl rfl (runs_none rfl) (mv_sl (.inl rfl) rfl) ?_ | refine ops_op rfl rfl (runs_none rfl) (mv_s (.inl rfl) rfl) ?_ | refine ops_op rfl rfl (runs_none rfl) (mv_emp (.inl rfl) rfl) ?_ | refine ops_op rfl rfl (runs_none rfl) (mv_sub (.inl rfl) rfl) ?_
  first | refine ops_op rfl rfl (runs_none rfl) (mv_fn (.inl rfl) rfl) ?_ | refine ops_op rfl rfl (runs_none rfl) (mv_s (.inl rfl) rfl) ?_
  refine ops_op rfl rfl (runs_none rfl) (does_call rfl rfl (hi) (evc_cons rfl (evc_cons rfl evc_nil))) ?_
  refine ops_op rfl rfl (runs_none rfl) (does_geq rfl rfl rfl) ?_
  refine ops_op rfl rfl (runs_none rfl) (mv_s (.inr rfl) rfl) ?_
  refine ops_nil ?_
  repeat (first | refine aw_seq ?_ | refine ath_n ?_ | refine aw_skip ?_ | refine abl_n ?_ | refine aw_block ?_)
  (refine aw_ret ?_; repeat (first | refine ath_r ?_ | refine abl_r ?_))
  exact post1 (.inr rfl) rfl (congrArg eB (firstAt_any p l))
end Go.Proofs.YtanfaepjamkbjaaGreat.Aw
end
section
namespace Go.Proofs.YtanfaepjamkbjaaGreat
set_option linter.unusedSimpArgs false
set_option linter.unusedVariables false
set_option linter.unusedSectionVars false
open Go.RowKit

theorem gti_z20 (j : Nat) : gti z20 j = 0 := by
  unfold z20 gti
  rw [List.getElem?_replicate]
  split <;> rfl
theorem lsum_z20 : lsum z20 = 0 := by decide
theorem wtsB_gti {wts : List Int} (h : wtsB wts = true) (k : Nat) : (0 ≤ gti wts k ∧ gti wts k ≤ 1000) ∧ (k < wts.length → 1 ≤ gti wts k) := by
  by_cases hk : k < wts.length
  · have hm : gti wts k ∈ wts := by rw [gti]; rw [List.getElem?_eq_getElem hk]; exact List.getElem_mem hk
    have := of_decide_eq_true (List.all_eq_true.1 h _ hm)
    exact ⟨⟨by omega, by omega⟩, fun _ => by omega⟩
  · have : gti wts k = 0 := by unfold gti; rw [List.getElem?_eq_none (by omega)]; rfl
    rw [this]
    exact ⟨⟨by omega, by omega⟩, fun h => absurd h hk⟩
theorem enabledL_len (m : List Int) : ∀ (i : Nat) (ts : List Tr), (enabledL m i ts).length ≤ ts.length
  | _, [] => by simp [enabledL]
  | i, t :: ts => by
    unfold enabledL
    have := enabledL_len m (i + 1) ts
    split <;> simp <;> omega
theorem enabledL_in (m : List Int) : ∀ (i : Nat) (ts : List Tr) (x : Int), x ∈ enabledL m i ts → (i : Int) ≤ x ∧ x < i + ts.length
  | _, [], x, h => by simp [enabledL] at h
  | i, t :: ts, x, h => by
    unfold enabledL at h
    split at h
    · rcases List.mem_cons.1 h with rfl | h
      · simp only [List.length_cons]; push_cast; omega
      · have := enabledL_in m (i + 1) ts x h
        simp only [List.length_cons]; push_cast at this ⊢; omega
    · have := enabledL_in m (i + 1) ts x h
      simp only [List.length_cons]; push_cast at this ⊢; omega
theorem WI.start {n : Net} {most : Int} {S : List (List Int)} (h : ∀ m ∈ S, markB n m = true) (hl : (S.length : Int) ≤ most) : WI n most (S, z20) :=
  ⟨h, hl, show z20.length = 20 by decide, fun j => by show 0 ≤ gti z20 j; rw [gti_z20]; omega, fun j _ => gti_z20 j⟩
/-- a row that is made -/
structure RowOk (m : Nat) (r : List Int) : Prop where
  r20 : r.length = 20
  nn : ∀ j, 0 ≤ gti r j
  hi : ∀ j, m ≤ j → gti r j = 0
  big : lsum r ≤ 60000
theorem RowOk.mono {m m' : Nat} {r : List Int} (h : RowOk m r) (hm : m ≤ m') : RowOk m' r := ⟨h.r20, h.nn, fun j hj => h.hi j (by omega), h.big⟩
/-- while the states are gone through -/
structure WE (n : Net) (most : Int) (s : WX) : Prop where
  mks : ∀ m ∈ s.1, markB n m = true
  len : (s.1.length : Int) ≤ most
  le : s.2.length ≤ s.1.length
  rows : ∀ r ∈ s.2, RowOk s.1.length r
theorem WE.next {n : Net} {wts : List Int} {most : Int} {s : WX} {r : WS} {i : Nat} (h : WE n most s) (hm20 : most ≤ 20) (hw : wtsB wts = true) (hn : n.trans.length ≤ 60) (hi : i = s.2.length) (hlt : i < s.1.length)
    (he : wRow n wts most (gti s.1 i) (enabledL (gti s.1 i) 0 n.trans) (s.1, z20) = .inr r) : WE n most (r.1, s.2 ++ [r.2]) := by
  have hx : markB n (gti s.1 i) = true := h.mks _ (gti_mem hlt)
  obtain ⟨a1, a2, a3, a4⟩ := WI.row hm20 hx (fun k => (wtsB_gti hw k).1) _ _ _ (WI.start h.mks h.len) he
  have hl := a4.length_le
  have hl0 : s.1.length ≤ r.1.length := hl
  have hel := enabledL_len (gti s.1 i) 0 n.trans
  refine ⟨a1.mks, a1.len, by simp; omega, fun q hq => ?_⟩
  rcases List.mem_append.1 hq with hq | hq
  · exact (h.rows q hq).mono hl0
  · rw [List.mem_singleton.1 hq]
    refine ⟨a1.r20, a1.nn, a1.hi, ?_⟩
    have h0 : lsum ((s.1, z20) : WS).2 = 0 := lsum_z20
    rw [h0] at a3
    omega
theorem wRow_pos {n : Net} {wts : List Int} {most : Int} {x : List Int} (hm20 : most ≤ 20) (hx : markB n x = true) (hw : wtsB wts = true) (hn : wts.length = n.trans.length) : ∀ (ts : List Int) (s s' : WS), (∀ t ∈ ts, 0 ≤ t ∧ t < n.trans.length) → WI n most s → wRow n wts most x ts s = .inr s' → ts ≠ [] → 0 < lsum s'.2
  | [], s, s', hr, h, he, hne => absurd rfl hne
  | t :: ts, s, s', hr, h, he, hne => by
    unfold wRow at he
    split at he
    · cases he
    · rename_i s1 h1
      obtain ⟨a1, a2, a3⟩ := h.step hm20 hx (wtsB_gti hw _).1.1 h1
      obtain ⟨b1, b2, b3, b4⟩ := WI.row hm20 hx (fun k => (wtsB_gti hw k).1) ts s1 s' a1 he
      have h3 := hr t (by simp)
      have h4 := (wtsB_gti hw t.toNat).2 (by omega)
      have h5 := (lsum_nn s.2 h.nn).1
      omega
/-- a small fraction fits -/
theorem mkF_small {a s : Int} (h0 : 0 ≤ a) (ha : a ≤ s) (hs : 0 < s) (hb : s ≤ 60000) : ∃ q, mkF a s = some q := by
  unfold mkF
  have hf : (nf a s).fits = true := by
    obtain ⟨h1, h2⟩ := nf_ok a s (by omega)
    have hg : (0 : Int) < (Int.gcd a s : Int) := by
      have : 0 < Int.gcd a s := Int.gcd_pos_iff.2 (Or.inr (by omega))
      omega
    have e1 : (nf a s).d ≤ s := by
      have h3 : (nf a s).d = (s.natAbs : Int) / (Int.gcd a s : Int) := by unfold nf; rfl
      rw [h3]
      have := Int.ediv_le_self (a := (s.natAbs : Int)) (Int.gcd a s : Int) (by omega)
      omega
    have e2 : (nf a s).n = a / (Int.gcd a s : Int) := by
      unfold nf
      simp only [Int.sign_eq_one_of_pos hs, Int.one_mul]
    have e3 : (nf a s).n ≤ s := by
      rw [e2]
      have := Int.ediv_le_self (a := a) (Int.gcd a s : Int) h0
      omega
    have e4 : 0 ≤ (nf a s).n := by rw [e2]; exact Int.ediv_nonneg h0 (by omega)
    simp only [Fr.fits, decide_eq_true_eq]
    generalize nf a s = q at *
    exact ⟨by omega, by omega, by omega⟩
  rw [if_pos hf]
  exact ⟨_, rfl⟩
theorem cell_make {m i j : Nat} {r : List Int} (h : RowOk m r) (hp : 0 < lsum r) : mkF (gti r j) (lsum r) = some (cellF i j r) := by
  obtain ⟨q, hq⟩ := mkF_small (h.nn j) ((lsum_nn r h.nn).2 j) hp h.big
  unfold cellF
  rw [if_pos hp, hq]; rfl
end Go.Proofs.YtanfaepjamkbjaaGreat
end
section
namespace Go.Proofs.YtanfaepjamkbjaaGreat.Aw
set_option linter.unusedSimpArgs false
set_option linter.unusedVariables false
set_option linter.unusedSectionVars false
open Go Go.RowKit Go.Proofs
variable {P : Program} [IsP P]
theorem fMake_pf (n d : Int) (hn : -4611686018427387904 ≤ n ∧ n ≤ 4611686018427387904) (hd : 0 < d ∧ d ≤ 4611686018427387904) : Pure P 27 [eI n, eI d] (eFE (makeE n d)) :=
  retFE_pure (ent_of Tryz.func27 rfl rfl) fun G vargs hsz hrep => by
    obtain ⟨q⟩ := vargs
    match q, hsz with
    | [u, w], _ => rw [rep_s (hrep 0 u _ rfl rfl), rep_s (hrep 1 w _ rfl rfl)]; exact fmake_any n d G.w hn hd
theorem rMake_pf (n d : Int) (hn : -4611686018427387904 ≤ n ∧ n ≤ 4611686018427387904) (hd : -4611686018427387904 ≤ d ∧ d ≤ 4611686018427387904) : Pure P 33 [eI n, eI d] (eFE (makeE n d)) :=
  retFE_pure (ent_of Tryz.func33 rfl rfl) fun G vargs hsz hrep => by
    obtain ⟨q⟩ := vargs
    match q, hsz with
    | [u, w], _ => rw [rep_s (hrep 0 u _ rfl rfl), rep_s (hrep 1 w _ rfl rfl)]; exact make_any n d G.w hn hd
theorem makeE_some {a s : Int} {q : Fr} (hs : s ≠ 0) (h : mkF a s = some q) : makeE a s = ⟨q.n, q.d, 0⟩ := by
  unfold makeE
  rw [if_neg hs, h]; rfl
end Go.Proofs.YtanfaepjamkbjaaGreat.Aw
end
section
namespace Go.Proofs.YtanfaepjamkbjaaGreat.Aw
set_option linter.unusedSimpArgs false
set_option linter.unusedVariables false
set_option linter.unusedSectionVars false
open Go.RowKit Go.Proofs
variable {P : Program} [IsP P]

theorem clTn {p : Prop} (h : @decide p (Classical.propDecidable p) = true) : p := @of_decide_eq_true p (Classical.propDecidable p) h
theorem sameF_pf (a : List Fr) : Pure P 35 [eL eF a, eL eF a] (eB true) := by
  refine aw_fn (by rw [IsP.eq (P := P)]; exact Tryz.func35) rfl rfl rfl rfl rfl (by repeat' (first | exact Lo.s _ | exact Lo.emp | exact Lo.any | exact lo_nil | exact lo_nilE | refine lo_cons ?_ ?_ | refine lo_consE ?_ ?_ | refine lo_map ?_ | refine lo_mapE ?_ | refine Lo.cells ?_ | refine Lo.agg _ ?_ | refine Lo.ref _ ?_ | refine Lo.tup _ ?_ | refine Lo.fn _ _ ?_ | refine Lo.sl _ ?_ | intro _)) (by repeat' (first | exact Lo.s _ | exact Lo.emp | exact Lo.any | exact lo_nil | exact lo_nilE | refine lo_cons ?_ ?_ | refine lo_consE ?_ ?_ | refine lo_map ?_ | refine lo_mapE ?_ | refine Lo.cells ?_ | refine Lo.agg _ ?_ | refine Lo.ref _ ?_ | refine Lo.tup _ ?_ | refine Lo.fn _ _ ?_ | refine Lo.sl _ ?_ | intro _)) (by simp only [argF]; rfl) ?_
  repeat (first | refine aw_seq ?_ | refine ath_n ?_ | refine aw_skip ?_ | refine abl_n ?_ | refine aw_block ?_)
  refine aw_bdm (d := 0) rfl (fun hm1 => ?_)
  unfold maxLen at hm1
  refine aw_region ?_
  refine ops_op rfl rfl (runs_none rfl) (mv_s (.inr rfl) rfl) ?_
  refine ops_nil ?_
  repeat (first | refine aw_seq ?_ | refine ath_n ?_ | refine aw_skip ?_ | refine abl_n ?_ | refine aw_block ?_)
  all_goals refine aw_region ?_
  all_goals (first | refine ops_op rfl rfl (runs_none rfl) (mv_own (.inl rfl) rfl) ?_ | refine ops_op rfl rfl (runs_none rfl) (mv_sl (.inl rfl) rfl) ?_ | refine ops_op rfl rfl (runs_none rfl) (mv_s (.inl rfl) rfl) ?_ | refine ops_op rfl rfl (runs_none rfl) (mv_emp (.inl rfl) rfl) ?_ | refine ops_op rfl rfl (runs_none rfl) (mv_sub (.inl rfl) rfl) ?_)
  all_goals (first | refine ops_op rfl rfl (runs_none rfl) (does_len_map rfl ts46 rfl) ?_ | refine ops_op rfl rfl (runs_none rfl) (does_len_sl rfl ts46 rfl) ?_ | refine ops_op rfl rfl (runs_none rfl) (does_len_own rfl ts46 rfl) ?_ | refine ops_op rfl rfl (runs_none rfl) (does_len_s rfl ts46 rfl) ?_ | refine ops_op rfl rfl (runs_none rfl) (does_len_emp rfl ts46 rfl) ?_ | refine ops_op rfl rfl (runs_none rfl) (does_len_sub rfl ts46 rfl) ?_)
  all_goals (first | refine ops_op rfl rfl (runs_none rfl) (mv_own (.inl rfl) rfl) ?_ | refine ops_op rfl rfl (runs_none rfl) (mv_sl (.inl rfl) rfl) ?_ | refine ops_op rfl rfl (runs_none rfl) (mv_s (.inl rfl) rfl) ?_ | refine ops_op rfl rfl (runs_none rfl) (mv_emp (.inl rfl) rfl) ?_ | refine ops_op rfl rfl (runs_none rfl) (mv_sub (.inl rfl) rfl) ?_)
  all_goals (first | refine ops_op rfl rfl (runs_none rfl) (does_len_map rfl ts46 rfl) ?_ | refine ops_op rfl rfl (runs_none rfl) (does_len_sl rfl ts46 rfl) ?_ | refine ops_op rfl rfl (runs_none rfl) (does_len_own rfl ts46 rfl) ?_ | refine ops_op rfl rfl (runs_none rfl) (does_len_s rfl ts46 rfl) ?_ | refine ops_op rfl rfl (runs_none rfl) (does_len_emp rfl ts46 rfl) ?_ | refine ops_op rfl rfl (runs_none rfl) (does_len_sub rfl ts46 rfl) ?_)
  all_goals (first | refine ops_opP rfl rfl (runs_none rfl) (does_neq rfl rfl rfl) (fun h10 => ?_) (fun h10 => ?_) | refine ops_opB rfl rfl (runs_none rfl) (does_neq rfl rfl rfl) (fun h10 => ?_) (fun h10 => ?_))
  all_goals refine ops_nil ?_
  all_goals (repeat (first | refine aw_seq ?_ | refine ath_n ?_ | refine aw_skip ?_ | refine abl_n ?_ | refine aw_block ?_))
  all_goals (first | refine aw_true rfl ?_ | refine aw_false rfl ?_)
  all_goals (repeat (first | refine aw_seq ?_ | refine ath_n ?_ | refine aw_skip ?_ | refine abl_n ?_ | refine aw_block ?_))
  · exact absurd rfl h10
  refine aw_region ?_
  refine ops_op rfl rfl (runs_none rfl) (mv_s (.inr rfl) rfl) ?_
  refine ops_nil ?_
  repeat (first | refine aw_seq ?_ | refine ath_n ?_ | refine aw_skip ?_ | refine abl_n ?_ | refine aw_block ?_)
  refine aw_loops (S := Nat) (fun k => [(0, eL eF a), (1, eL eF a), (5, eI k)]) (fun _ => []) (fun k => k ≤ a.length) (fun k => a.length - k) 0 (wk_st [] (by decide) trivial ⟨.lo _ (by repeat' (first | exact Lo.s _ | exact Lo.emp | exact Lo.any | exact lo_nil | exact lo_nilE | refine lo_cons ?_ ?_ | refine lo_consE ?_ ?_ | refine lo_map ?_ | refine lo_mapE ?_ | refine Lo.cells ?_ | refine Lo.agg _ ?_ | refine Lo.ref _ ?_ | refine Lo.tup _ ?_ | refine Lo.fn _ _ ?_ | refine Lo.sl _ ?_ | intro _)), .lo _ (by repeat' (first | exact Lo.s _ | exact Lo.emp | exact Lo.any | exact lo_nil | exact lo_nilE | refine lo_cons ?_ ?_ | refine lo_consE ?_ ?_ | refine lo_map ?_ | refine lo_mapE ?_ | refine Lo.cells ?_ | refine Lo.agg _ ?_ | refine Lo.ref _ ?_ | refine Lo.tup _ ?_ | refine Lo.fn _ _ ?_ | refine Lo.sl _ ?_ | intro _)), .lo _ (by repeat' (first | exact Lo.s _ | exact Lo.emp | exact Lo.any | exact lo_nil | exact lo_nilE | refine lo_cons ?_ ?_ | refine lo_consE ?_ ?_ | refine lo_map ?_ | refine lo_mapE ?_ | refine Lo.cells ?_ | refine Lo.agg _ ?_ | refine Lo.ref _ ?_ | refine Lo.tup _ ?_ | refine Lo.fn _ _ ?_ | refine Lo.sl _ ?_ | intro _)), trivial⟩) (Nat.zero_le _) (fun k hk => ?_)
  repeat (first | refine aw_seq ?_ | refine ath_n ?_ | refine aw_skip ?_ | refine abl_n ?_ | refine aw_block ?_)
  all_goals refine aw_region ?_
  all_goals refine ops_op rfl rfl (runs_none rfl) (mv_s (.inl rfl) rfl) ?_
  all_goals (first | refine ops_op rfl rfl (runs_none rfl) (mv_own (.inl rfl) rfl) ?_ | refine ops_op rfl rfl (runs_none rfl) (mv_sl (.inl rfl) rfl) ?_ | refine ops_op rfl rfl (runs_none rfl) (mv_s (.inl rfl) rfl) ?_ | refine ops_op rfl rfl (runs_none rfl) (mv_emp (.inl rfl) rfl) ?_ | refine ops_op rfl rfl (runs_none rfl) (mv_sub (.inl rfl) rfl) ?_)
  all_goals (first | refine ops_op rfl rfl (runs_none rfl) (does_len_map rfl ts46 rfl) ?_ | refine ops_op rfl rfl (runs_none rfl) (does_len_sl rfl ts46 rfl) ?_ | refine ops_op rfl rfl (runs_none rfl) (does_len_own rfl ts46 rfl) ?_ | refine ops_op rfl rfl (runs_none rfl) (does_len_s rfl ts46 rfl) ?_ | refine ops_op rfl rfl (runs_none rfl) (does_len_emp rfl ts46 rfl) ?_ | refine ops_op rfl rfl (runs_none rfl) (does_len_sub rfl ts46 rfl) ?_)
  all_goals (first | refine ops_opP rfl rfl (runs_none rfl) (does_lss rfl rfl rfl) (fun h14 => ?_) (fun h14 => ?_) | refine ops_opB rfl rfl (runs_none rfl) (does_lss rfl rfl rfl) (fun h14 => ?_) (fun h14 => ?_))
  all_goals refine ops_nil ?_
  all_goals (repeat (first | refine aw_seq ?_ | refine ath_n ?_ | refine aw_skip ?_ | refine abl_n ?_ | refine aw_block ?_))
  all_goals (first | refine aw_true rfl ?_ | refine aw_false rfl ?_)
  all_goals (repeat (first | refine aw_seq ?_ | refine ath_n ?_ | refine aw_skip ?_ | refine abl_n ?_ | refine aw_block ?_))
  · have hlt : k < a.length := by omega
    all_goals refine aw_draw hmix ?_
    all_goals refine adraw_quiet (by kernel_rfl) ?_
    all_goals (first | refine qx_op rfl rfl (runs_none rfl) (mv_own (.inl rfl) rfl) ?_ | refine qx_op rfl rfl (runs_none rfl) (mv_sl (.inl rfl) rfl) ?_ | refine qx_op rfl rfl (runs_none rfl) (mv_s (.inl rfl) rfl) ?_ | refine qx_op rfl rfl (runs_none rfl) (mv_emp (.inl rfl) rfl) ?_ | refine qx_op rfl rfl (runs_none rfl) (mv_sub (.inl rfl) rfl) ?_)
    all_goals refine qx_op rfl rfl (runs_none rfl) (mv_s (.inl rfl) rfl) ?_
    all_goals (first | refine qx_op rfl rfl (runs_none rfl) (does_index_sl rfl ts46 ti44 rfl rfl rfl (ix_map (by omega)) rfl) ?_ | refine qx_op rfl rfl (runs_none rfl) (does_index_own rfl ts46 ti44 rfl rfl rfl (by omega)) ?_ | refine qx_op rfl rfl (runs_none rfl) (does_index_sub rfl ts46 ti44 rfl rfl rfl (by omega)) ?_)
    all_goals (first | refine qx_op rfl rfl (runs_none rfl) (does_load_refw rfl ta44 ti44 rfl rfl) ?_ | refine qx_op rfl rfl (runs_none rfl) (does_load_whole rfl ta44 ti44 rfl rfl rfl rfl rfl) ?_ | refine qx_op rfl rfl (runs_none rfl) (does_load_refs rfl ta44 ti44 rfl (Nat.le_of_ble_eq_true rfl)) ?_ | refine qx_op rfl rfl (runs_none rfl) (does_load_ptrs rfl ta44 ti44 rfl rfl rfl rfl (Nat.le_of_ble_eq_true rfl)) ?_)
    all_goals (first | refine qx_op rfl rfl (runs_none rfl) (mv_own (.inl rfl) rfl) ?_ | refine qx_op rfl rfl (runs_none rfl) (mv_sl (.inl rfl) rfl) ?_ | refine qx_op rfl rfl (runs_none rfl) (mv_s (.inl rfl) rfl) ?_ | refine qx_op rfl rfl (runs_none rfl) (mv_emp (.inl rfl) rfl) ?_ | refine qx_op rfl rfl (runs_none rfl) (mv_sub (.inl rfl) rfl) ?_)
    all_goals refine qx_op rfl rfl (runs_none rfl) (mv_s (.inl rfl) rfl) ?_
    all_goals (first | refine qx_op rfl rfl (runs_none rfl) (does_index_sl rfl ts46 ti44 rfl rfl rfl (ix_map (by omega)) rfl) ?_ | refine qx_op rfl rfl (runs_none rfl) (does_index_own rfl ts46 ti44 rfl rfl rfl (by omega)) ?_ | refine qx_op rfl rfl (runs_none rfl) (does_index_sub rfl ts46 ti44 rfl rfl rfl (by omega)) ?_)
    all_goals (first | refine qx_op rfl rfl (runs_none rfl) (does_load_refw rfl ta44 ti44 rfl rfl) ?_ | refine qx_op rfl rfl (runs_none rfl) (does_load_whole rfl ta44 ti44 rfl rfl rfl rfl rfl) ?_ | refine qx_op rfl rfl (runs_none rfl) (does_load_refs rfl ta44 ti44 rfl (Nat.le_of_ble_eq_true rfl)) ?_ | refine qx_op rfl rfl (runs_none rfl) (does_load_ptrs rfl ta44 ti44 rfl rfl rfl rfl (Nat.le_of_ble_eq_true rfl)) ?_)
    all_goals (first | refine qx_opP rfl rfl (runs_none rfl) (does_nea rfl rfl rfl te44 rfl rfl rfl) (fun h25 => ?_) (fun h25 => ?_) | refine qx_opB rfl rfl (runs_none rfl) (does_nea rfl rfl rfl te44 rfl rfl rfl) (fun h25 => ?_) (fun h25 => ?_))
    all_goals refine qx_nil ?_
    all_goals (repeat (first | refine aw_seq ?_ | refine ath_n ?_ | refine aw_skip ?_ | refine abl_n ?_ | refine aw_block ?_))
    all_goals (first | refine aw_true rfl ?_ | refine aw_false rfl ?_)
    all_goals (repeat (first | refine aw_seq ?_ | refine ath_n ?_ | refine aw_skip ?_ | refine abl_n ?_ | refine aw_block ?_))
    · exact absurd rfl (clTn h25)
    · skip
      refine aw_region ?_
      refine ops_op rfl rfl (runs_none rfl) (mv_s (.inl rfl) rfl) ?_
      refine ops_op rfl rfl (runs_none rfl) (does_add rfl rfl rfl (IntWalk.i64_in _ (by omega))) ?_
      refine ops_op rfl rfl (runs_none rfl) (mv_s (.inr rfl) rfl) ?_
      refine ops_nil ?_
      repeat (first | refine aw_seq ?_ | refine ath_n ?_ | refine aw_skip ?_ | refine abl_n ?_ | refine aw_block ?_)
      exact ⟨k + 1, by omega, by omega, wk_st [] (by decide) trivial ⟨.lo _ (by repeat' (first | exact Lo.s _ | exact Lo.emp | exact Lo.any | exact lo_nil | exact lo_nilE | refine lo_cons ?_ ?_ | refine lo_consE ?_ ?_ | refine lo_map ?_ | refine lo_mapE ?_ | refine Lo.cells ?_ | refine Lo.agg _ ?_ | refine Lo.ref _ ?_ | refine Lo.tup _ ?_ | refine Lo.fn _ _ ?_ | refine Lo.sl _ ?_ | intro _)), .lo _ (by repeat' (first | exact Lo.s _ | exact Lo.emp | exact Lo.any | exact lo_nil | exact lo_nilE | refine lo_cons ?_ ?_ | refine lo_consE ?_ ?_ | refine lo_map ?_ | refine lo_mapE ?_ | refine Lo.cells ?_ | refine Lo.agg _ ?_ | refine Lo.ref _ ?_ | refine Lo.tup _ ?_ | refine Lo.fn _ _ ?_ | refine Lo.sl _ ?_ | intro _)), .lo _ (by repeat' (first | exact Lo.s _ | exact Lo.emp | exact Lo.any | exact lo_nil | exact lo_nilE | refine lo_cons ?_ ?_ | refine lo_consE ?_ ?_ | refine lo_map ?_ | refine lo_mapE ?_ | refine Lo.cells ?_ | refine Lo.agg _ ?_ | refine Lo.ref _ ?_ | refine Lo.tup _ ?_ | refine Lo.fn _ _ ?_ | refine Lo.sl _ ?_ | intro _)), trivial⟩⟩
  · (refine aw_exit ?_; repeat (first | refine ath_x ?_ | refine abl_hit ?_ | refine abl_miss rfl ?_ | refine abl_n ?_ | refine ath_n ?_ | refine aw_seq ?_ | refine aw_skip ?_ | refine aw_block ?_))
    refine aw_region ?_
    refine ops_op rfl rfl (runs_none rfl) (mv_s (.inr rfl) rfl) ?_
    refine ops_nil ?_
    repeat (first | refine aw_seq ?_ | refine ath_n ?_ | refine aw_skip ?_ | refine abl_n ?_ | refine aw_block ?_)
    (refine aw_ret ?_; repeat (first | refine ath_r ?_ | refine abl_r ?_))
    exact post1 (.inr rfl) rfl rfl
def eChn (l : List (List Fr)) : AV := .agg [eL (eL eF) l]
theorem lo_Ch (l : List (List Fr)) : Lo 0 (eChn l) := .agg _ (lo_cons (lo_map fun r => lo_map fun a => lo_F a) lo_nil)
theorem same51_pf (l : List (List Fr)) : Pure P 9 [eChn l, eChn l] (eB true) := by
  have hlc : Lo 0 (.ref (eChn l).cells) := .ref _ (lo_Ch l).cells
  refine aw_fn (by rw [IsP.eq (P := P)]; exact Tryz.func9) rfl rfl rfl rfl rfl (lo_cons (lo_Ch l) (lo_cons (lo_Ch l) lo_nil)) (.s _) (by simp only [argF]; rfl) ?_
  repeat (first | refine aw_seq ?_ | refine ath_n ?_ | refine aw_skip ?_ | refine abl_n ?_ | refine aw_block ?_)
  refine aw_region ?_
  refine ops_op rfl rfl (runs_none rfl) (does_box rfl rfl rfl rfl) ?_
  refine aops_weak (wk_froz (id := 0) rfl) (aops_weak (wk_ref (d := 2) rfl rfl rfl) ?_)
  refine ops_op rfl rfl (runs_none rfl) (does_box rfl rfl rfl rfl) ?_
  refine aops_weak (wk_froz (id := 1) rfl) (aops_weak (wk_ref (d := 3) rfl rfl rfl) ?_)
  refine ops_op rfl rfl (runs_none rfl) (mv_s (.inr rfl) rfl) ?_
  refine ops_nil ?_
  repeat (first | refine aw_seq ?_ | refine ath_n ?_ | refine aw_skip ?_ | refine abl_n ?_ | refine aw_block ?_)
  all_goals refine aw_region ?_
  all_goals (first | refine ops_op rfl rfl (runs_none rfl) (does_fieldAddr_ptr rfl tf33_0 (by decide) rfl) ?_ | refine ops_op rfl rfl (runs_none rfl) (does_fieldAddr_ref rfl tf33_0 (by decide) rfl) ?_)
  all_goals (first | refine ops_op rfl rfl (runs_none rfl) (does_load_ref rfl ta31 rfl) ?_ | refine ops_op rfl rfl (runs_none rfl) (does_load_ptr rfl ta31 rfl rfl rfl rfl rfl) ?_)
  all_goals (first | refine ops_op rfl rfl (runs_none rfl) (does_len_map rfl ts31 rfl) ?_ | refine ops_op rfl rfl (runs_none rfl) (does_len_sl rfl ts31 rfl) ?_ | refine ops_op rfl rfl (runs_none rfl) (does_len_own rfl ts31 rfl) ?_ | refine ops_op rfl rfl (runs_none rfl) (does_len_s rfl ts31 rfl) ?_ | refine ops_op rfl rfl (runs_none rfl) (does_len_emp rfl ts31 rfl) ?_ | refine ops_op rfl rfl (runs_none rfl) (does_len_sub rfl ts31 rfl) ?_)
  all_goals (first | refine ops_op rfl rfl (runs_none rfl) (does_fieldAddr_ptr rfl tf33_0 (by decide) rfl) ?_ | refine ops_op rfl rfl (runs_none rfl) (does_fieldAddr_ref rfl tf33_0 (by decide) rfl) ?_)
  all_goals (first | refine ops_op rfl rfl (runs_none rfl) (does_load_ref rfl ta31 rfl) ?_ | refine ops_op rfl rfl (runs_none rfl) (does_load_ptr rfl ta31 rfl rfl rfl rfl rfl) ?_)
  all_goals (first | refine ops_op rfl rfl (runs_none rfl) (does_len_map rfl ts31 rfl) ?_ | refine ops_op rfl rfl (runs_none rfl) (does_len_sl rfl ts31 rfl) ?_ | refine ops_op rfl rfl (runs_none rfl) (does_len_own rfl ts31 rfl) ?_ | refine ops_op rfl rfl (runs_none rfl) (does_len_s rfl ts31 rfl) ?_ | refine ops_op rfl rfl (runs_none rfl) (does_len_emp rfl ts31 rfl) ?_ | refine ops_op rfl rfl (runs_none rfl) (does_len_sub rfl ts31 rfl) ?_)
  all_goals (first | refine ops_opP rfl rfl (runs_none rfl) (does_neq rfl rfl rfl) (fun h12 => ?_) (fun h12 => ?_) | refine ops_opB rfl rfl (runs_none rfl) (does_neq rfl rfl rfl) (fun h12 => ?_) (fun h12 => ?_))
  all_goals refine ops_nil ?_
  all_goals (repeat (first | refine aw_seq ?_ | refine ath_n ?_ | refine aw_skip ?_ | refine abl_n ?_ | refine aw_block ?_))
  all_goals (first | refine aw_true rfl ?_ | refine aw_false rfl ?_)
  all_goals (repeat (first | refine aw_seq ?_ | refine ath_n ?_ | refine aw_skip ?_ | refine abl_n ?_ | refine aw_block ?_))
  · exact absurd rfl h12
  refine aw_bdm (d := 7) rfl (fun hm1 => ?_)
  unfold maxLen at hm1
  refine aw_region ?_
  refine ops_op rfl rfl (runs_none rfl) (mv_s (.inr rfl) rfl) ?_
  refine ops_nil ?_
  repeat (first | refine aw_seq ?_ | refine ath_n ?_ | refine aw_skip ?_ | refine abl_n ?_ | refine aw_block ?_)
  refine aw_loops (S := Nat) (fun k => [(2, .ref (eChn l).cells), (3, .ref (eChn l).cells), (5, eI k)]) (fun _ => []) (fun k => k ≤ l.length) (fun k => l.length - k) 0 (wk_st [] (by decide) trivial ⟨.lo _ hlc, .lo _ hlc, .lo _ (.s _), trivial⟩) (Nat.zero_le _) (fun k hk => ?_)
  repeat (first | refine aw_seq ?_ | refine ath_n ?_ | refine aw_skip ?_ | refine abl_n ?_ | refine aw_block ?_)
  all_goals refine aw_region ?_
  all_goals refine ops_op rfl rfl (runs_none rfl) (mv_s (.inl rfl) rfl) ?_
  all_goals (first | refine ops_op rfl rfl (runs_none rfl) (does_fieldAddr_ptr rfl tf33_0 (by decide) rfl) ?_ | refine ops_op rfl rfl (runs_none rfl) (does_fieldAddr_ref rfl tf33_0 (by decide) rfl) ?_)
  all_goals (first | refine ops_op rfl rfl (runs_none rfl) (does_load_ref rfl ta31 rfl) ?_ | refine ops_op rfl rfl (runs_none rfl) (does_load_ptr rfl ta31 rfl rfl rfl rfl rfl) ?_)
  all_goals (first | refine ops_op rfl rfl (runs_none rfl) (does_len_map rfl ts31 rfl) ?_ | refine ops_op rfl rfl (runs_none rfl) (does_len_sl rfl ts31 rfl) ?_ | refine ops_op rfl rfl (runs_none rfl) (does_len_own rfl ts31 rfl) ?_ | refine ops_op rfl rfl (runs_none rfl) (does_len_s rfl ts31 rfl) ?_ | refine ops_op rfl rfl (runs_none rfl) (does_len_emp rfl ts31 rfl) ?_ | refine ops_op rfl rfl (runs_none rfl) (does_len_sub rfl ts31 rfl) ?_)
  all_goals (first | refine ops_opP rfl rfl (runs_none rfl) (does_lss rfl rfl rfl) (fun h17 => ?_) (fun h17 => ?_) | refine ops_opB rfl rfl (runs_none rfl) (does_lss rfl rfl rfl) (fun h17 => ?_) (fun h17 => ?_))
  all_goals refine ops_nil ?_
  all_goals (repeat (first | refine aw_seq ?_ | refine ath_n ?_ | refine aw_skip ?_ | refine abl_n ?_ | refine aw_block ?_))
  all_goals (first | refine aw_true rfl ?_ | refine aw_false rfl ?_)
  all_goals (repeat (first | refine aw_seq ?_ | refine ath_n ?_ | refine aw_skip ?_ | refine abl_n ?_ | refine aw_block ?_))
  · have hlt : k < l.length := by omega
    have hix : (l.map (eL eF))[k]? = some (eL eF (gti l k)) := ix_map hlt
    have hs := sameF_pf (P := P) (gti l k)
    refine aw_draw hmix ?_
    refine adraw_quiet (by kernel_rfl) ?_
    first | refine qx_op rfl rfl (runs_none rfl) (does_fieldAddr_ptr rfl tf33_0 (by decide) rfl) ?_ | refine qx_op rfl rfl (runs_none rfl) (does_fieldAddr_ref rfl tf33_0 (by decide) rfl) ?_
    first | refine qx_op rfl rfl (runs_none rfl) (does_load_ref rfl ta31 rfl) ?_ | refine qx_op rfl rfl (runs_none rfl) (does_load_ptr rfl ta31 rfl rfl rfl rfl rfl) ?_
    refine qx_op rfl rfl (runs_none rfl) (mv_s (.inl rfl) rfl) ?_
    first | refine qx_op rfl rfl (runs_none rfl) (does_index_sl rfl ts31 ti46 rfl rfl rfl hix rfl) ?_ | refine qx_op rfl rfl (runs_none rfl) (does_index_own rfl ts31 ti46 rfl rfl rfl hix) ?_ | refine qx_op rfl rfl (runs_none rfl) (does_index_sub rfl ts31 ti46 rfl rfl rfl hix) ?_
    first | refine qx_op rfl rfl (runs_none rfl) (does_load_ref rfl ta46 rfl) ?_ | refine qx_op rfl rfl (runs_none rfl) (does_load_ptr rfl ta46 rfl rfl rfl rfl rfl) ?_
    first | refine qx_op rfl rfl (runs_none rfl) (does_fieldAddr_ptr rfl tf33_0 (by decide) rfl) ?_ | refine qx_op rfl rfl (runs_none rfl) (does_fieldAddr_ref rfl tf33_0 (by decide) rfl) ?_
    first | refine qx_op rfl rfl (runs_none rfl) (does_load_ref rfl ta31 rfl) ?_ | refine qx_op rfl rfl (runs_none rfl) (does_load_ptr rfl ta31 rfl rfl rfl rfl rfl) ?_
    refine qx_op rfl rfl (runs_none rfl) (mv_s (.inl rfl) rfl) ?_
    first | refine qx_op rfl rfl (runs_none rfl) (does_index_sl rfl ts31 ti46 rfl rfl rfl hix rfl) ?_ | refine qx_op rfl rfl (runs_none rfl) (does_index_own rfl ts31 ti46 rfl rfl rfl hix) ?_ | refine qx_op rfl rfl (runs_none rfl) (does_index_sub rfl ts31 ti46 rfl rfl rfl hix) ?_
    first | refine qx_op rfl rfl (runs_none rfl) (does_load_ref rfl ta46 rfl) ?_ | refine qx_op rfl rfl (runs_none rfl) (does_load_ptr rfl ta46 rfl rfl rfl rfl rfl) ?_
    refine qx_op rfl rfl (runs_none rfl) (does_call rfl rfl (hs) (evc_cons rfl (evc_cons rfl evc_nil))) ?_
    first | refine qx_op rfl rfl (runs_none rfl) (does_notp rfl rfl) ?_ | refine qx_op rfl rfl (runs_none rfl) (does_not rfl rfl) ?_
    refine qx_nil ?_
    repeat (first | refine aw_seq ?_ | refine ath_n ?_ | refine aw_skip ?_ | refine abl_n ?_ | refine aw_block ?_)
    refine aw_false rfl ?_
    repeat (first | refine aw_seq ?_ | refine ath_n ?_ | refine aw_skip ?_ | refine abl_n ?_ | refine aw_block ?_)
    refine aw_region ?_
    refine ops_op rfl rfl (runs_none rfl) (mv_s (.inl rfl) rfl) ?_
    refine ops_op rfl rfl (runs_none rfl) (does_add rfl rfl rfl (IntWalk.i64_in _ (by omega))) ?_
    refine ops_op rfl rfl (runs_none rfl) (mv_s (.inr rfl) rfl) ?_
    refine ops_nil ?_
    repeat (first | refine aw_seq ?_ | refine ath_n ?_ | refine aw_skip ?_ | refine abl_n ?_ | refine aw_block ?_)
    exact ⟨k + 1, by omega, by omega, wk_st [] (by decide) trivial ⟨.lo _ hlc, .lo _ hlc, .lo _ (.s _), trivial⟩⟩
  · (refine aw_exit ?_; repeat (first | refine ath_x ?_ | refine abl_hit ?_ | refine abl_miss rfl ?_ | refine abl_n ?_ | refine ath_n ?_ | refine aw_seq ?_ | refine aw_skip ?_ | refine aw_block ?_))
    refine aw_region ?_
    refine ops_op rfl rfl (runs_none rfl) (mv_s (.inr rfl) rfl) ?_
    refine ops_nil ?_
    repeat (first | refine aw_seq ?_ | refine ath_n ?_ | refine aw_skip ?_ | refine abl_n ?_ | refine aw_block ?_)
    (refine aw_ret ?_; repeat (first | refine ath_r ?_ | refine abl_r ?_))
    exact post1 (.inr rfl) rfl rfl
end Go.Proofs.YtanfaepjamkbjaaGreat.Aw
end
section
namespace Go.Proofs.YtanfaepjamkbjaaGreat
set_option linter.unusedSimpArgs false
set_option linter.unusedVariables false
set_option linter.unusedSectionVars false
open Go Go.Proofs Go.Maps Go.WideMaps Go.RowKit

def dval : DataW Unit → Int
  | .lit (.int _ z) => z
  | _ => 0
def dsumL : List (Lit × DataW Unit) → Int
  | [] => 0
  | p :: l => dval p.2 + dsumL l
theorem dsum_insert (x : Lit × DataW Unit) : ∀ l, dsumL (DataW.insert x l) = dval x.2 + dsumL l
  | [] => rfl
  | y :: l => by
    unfold DataW.insert
    split
    · rfl
    · simp only [dsumL, dsum_insert x l]; omega
theorem dsum_filter (p : Lit × DataW Unit → Bool) : ∀ l, dsumL l = dsumL (l.filter p) + dsumL (l.filter fun x => !p x)
  | [] => rfl
  | y :: l => by
    have := dsum_filter p l
    cases h : p y <;> simp [List.filter, h, dsumL] <;> omega
theorem filter_insert (p : Lit × DataW Unit → Bool) (x : Lit × DataW Unit) : ∀ l, dsumL ((DataW.insert x l).filter p) = (if p x = true then dval x.2 else 0) + dsumL (l.filter p)
  | [] => by cases h : p x <;> simp [DataW.insert, List.filter, h, dsumL]
  | y :: l => by
    have := filter_insert p x l
    unfold DataW.insert
    split
    · cases h : p x <;> simp [List.filter, h, dsumL]
    · cases h : p y <;> simp [List.filter, h, dsumL, this] <;> omega
theorem mem_ins {p x : Lit × DataW Unit} : ∀ {l}, p ∈ DataW.insert x l → p = x ∨ p ∈ l
  | [], h => by simpa [DataW.insert] using h
  | y :: l, h => by
    unfold DataW.insert at h
    split at h
    · simpa using h
    · rcases List.mem_cons.1 h with h | h
      · exact .inr (by simp [h])
      · rcases mem_ins h with h | h
        · exact .inl h
        · exact .inr (by simp [h])
abbrev kI (k : Nat) : Lit := .int .i64 k
/-- the map reads as the row -/
structure MR (D : DataW Unit) (r : List Int) : Prop where
  isM : IsMap D
  at_ : ∀ k, k < 20 → D.atKey (kI k) (.lit (.int .i64 0)) = .lit (.int .i64 (gti r k))
  fil : ∀ l, D = .map l → ∀ k, k < 20 → dsumL (l.filter fun p => p.1.sameKey (kI k)) = gti r k
  sum : ∀ l, D = .map l → dsumL l = lsum r
  nn : ∀ l, D = .map l → ∀ p ∈ l, 0 ≤ dval p.2
theorem MR.zero : MR (.map []) z20 :=
  ⟨⟨[], rfl⟩, fun k _ => by rw [gti_z20]; rfl, fun l h k _ => by injection h with h; subst h; rw [gti_z20]; rfl, fun l h => by injection h with h; subst h; rw [lsum_z20]; rfl, fun l h p hp => by injection h with h; subst h; simp at hp⟩
theorem same_kI (k j : Nat) : (kI k).sameKey (kI j) = decide (k = j) := by
  unfold Lit.sameKey
  simp
  omega
theorem MR.put {D : DataW Unit} {r : List Int} (h : MR D r) {k : Nat} (hk : k < 20) (hr : r.length = 20) {v : Int} (hv : 0 ≤ v) : MR (D.put (kI k) (.lit (.int .i64 v))) (r.set k v) := by
  obtain ⟨L, rfl⟩ := h.isM
  have hf := h.fil L rfl
  have hs := h.sum L rfl
  have hne : ∀ j, j ≠ k → kI j ≠ kI k := fun j e h2 => by injection h2 with _ h3; omega
  refine ⟨⟨_, rfl⟩, fun j hj => ?_, fun l hl j hj => ?_, fun l hl => ?_, fun l hl p hp => ?_⟩
  · rw [gti_set]
    by_cases e : k = j
    · subst e
      rw [if_pos ⟨rfl, by omega⟩, atKey_put_same ⟨L, rfl⟩ (by first | trivial | simp [WideAt.IsKeyLit])]
    · rw [if_neg (by simp [e]), atKey_put_other (hne j (fun h => e h.symm))]
      exact h.at_ j hj
  · injection hl with hl
    subst hl
    rw [filter_insert, same_kI, gti_set]
    by_cases e : k = j
    · subst e
      rw [if_pos (by simp), if_pos ⟨rfl, by omega⟩, List.filter_filter]
      have : (L.filter fun a => a.1.sameKey (kI k) && !a.1.sameKey (kI k)) = [] := by
        rw [List.filter_eq_nil_iff]
        intro a _
        cases a.1.sameKey (kI k) <;> simp
      rw [this]
      show v + 0 = v
      omega
    · rw [if_neg (by simp [e]), if_neg (by simp [e]), List.filter_filter]
      have : (L.filter fun a => a.1.sameKey (kI j) && !a.1.sameKey (kI k)) = L.filter fun a => a.1.sameKey (kI j) := by
        refine List.filter_congr fun a _ => ?_
        obtain ⟨q, d⟩ := a
        cases h1 : q.sameKey (kI j) with
        | false => rfl
        | true =>
          have h2 : q.sameKey (kI k) = false := by
            cases q with
            | int kd z =>
              obtain ⟨rfl, rfl⟩ : kd = IntKind.i64 ∧ z = (j : Int) := by simpa [Lit.sameKey] using h1
              simp [Lit.sameKey]; omega
            | _ => simp [Lit.sameKey] at h1
          rw [h2]; rfl
      rw [this, hf j hj]
      omega
  · injection hl with hl
    subst hl
    rw [dsum_insert, lsum_set r k v (by omega)]
    have h1 := dsum_filter (fun p => p.1.sameKey (kI k)) L
    rw [hf k hk, hs] at h1
    show v + _ = _
    omega
  · injection hl with hl
    subst hl
    rcases mem_ins hp with rfl | hp
    · exact hv
    · exact h.nn L rfl p (List.mem_filter.1 hp).1
theorem MR.add {D : DataW Unit} {r : List Int} (h : MR D r) {k : Nat} (hk : k < 20) (hr : r.length = 20) {w : Int} (hw : 0 ≤ gti r k + w) : MR (D.put (kI k) (.lit (.int .i64 (gti r k + w)))) (addR r k w) := h.put hk hr hw
end Go.Proofs.YtanfaepjamkbjaaGreat
end
