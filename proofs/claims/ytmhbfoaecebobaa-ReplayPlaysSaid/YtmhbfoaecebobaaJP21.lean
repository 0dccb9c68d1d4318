/-
  Texts joined: RWf, AwM, AwN. Conditions: none.
-/
import Derived.Test.YtmhbfoaecebobaaJP20
import Derived.Test.YtmhbfoaecebobaaJP16
import Derived.Test.YtmhbfoaecebobaaJP7
section
namespace Go.Proofs.Ytmhbfoaecebobaa.Aw
set_option linter.unusedSimpArgs false
set_option linter.unusedVariables false
open Go.RowKit Go.Proofs
variable {P : Program} [IsP P]

theorem rone_pf (n : Net) (np kp : Nat) (hnp : n.places = (np : Int)) (h40 : np ≤ 40) (hlt : kp < np) :
    Pure P 20 [eN n, eI kp] (eL eI (oneL np kp)) := by
  have hE : ((List.replicate np (eI 0)).set kp (eI 1)) = (oneL np kp).map eI := by unfold oneL; rw [List.map_set, List.map_replicate]; rfl
  have hel : (List.replicate np (AV.s (.int .i64 0)))[kp]? = some (AV.s (.int .i64 0)) := by rw [List.getElem?_replicate, if_pos hlt]
  refine aw_fn (by rw [IsP.eq (P := P)]; exact Try.func20) rfl rfl rfl rfl rfl (by repeat' (first | exact Lo.s _ | exact Lo.emp | exact Lo.any | exact lo_nil | exact lo_nilE | refine lo_cons ?_ ?_ | refine lo_consE ?_ ?_ | refine lo_map ?_ | refine lo_mapE ?_ | refine Lo.cells ?_ | refine Lo.agg _ ?_ | refine Lo.ref _ ?_ | refine Lo.tup _ ?_ | refine Lo.fn _ _ ?_ | refine Lo.sl _ ?_ | intro _)) (by repeat' (first | exact Lo.s _ | exact Lo.emp | exact Lo.any | exact lo_nil | exact lo_nilE | refine lo_cons ?_ ?_ | refine lo_consE ?_ ?_ | refine lo_map ?_ | refine lo_mapE ?_ | refine Lo.cells ?_ | refine Lo.agg _ ?_ | refine Lo.ref _ ?_ | refine Lo.tup _ ?_ | refine Lo.fn _ _ ?_ | refine Lo.sl _ ?_ | intro _)) (by simp only [argF]; rfl) ?_
  repeat (first | refine aw_seq ?_ | refine ath_n ?_ | refine aw_skip ?_ | refine abl_n ?_ | refine aw_block ?_)
  refine aw_region ?_
  refine ops_op rfl rfl (runs_none rfl) (does_box rfl rfl rfl rfl) ?_
  first | refine ops_op rfl rfl (runs_none rfl) (mv_own (.inr rfl) rfl) ?_ | refine ops_op rfl rfl (runs_none rfl) (mv_sl (.inr rfl) rfl) ?_ | refine ops_op rfl rfl (runs_none rfl) (mv_s (.inr rfl) rfl) ?_ | refine ops_op rfl rfl (runs_none rfl) (mv_emp (.inr rfl) rfl) ?_
  refine ops_nil ?_
  repeat (first | refine aw_seq ?_ | refine ath_n ?_ | refine aw_skip ?_ | refine abl_n ?_ | refine aw_block ?_)
  refine aw_region ?_
  first | refine ops_op rfl rfl (runs_none rfl) (does_fieldAddr_ptr rfl tf24_0 (by decide) rfl) ?_ | refine ops_op rfl rfl (runs_none rfl) (does_fieldAddr_ref rfl tf24_0 (by decide) rfl) ?_
  first | refine ops_op rfl rfl (runs_none rfl) (does_load_ref rfl ta3 rfl) ?_ | refine ops_op rfl rfl (runs_none rfl) (does_load_ptr rfl ta3 rfl rfl rfl rfl rfl) ?_
  refine ops_op rfl rfl (runs_none rfl) (does_make rfl ts30 ti3 rfl rfl (by decide) rfl rfl hnp hnp (Nat.le_refl _) (by omega) (by omega)) ?_
  first | refine ops_op rfl rfl (runs_none rfl) (mv_own (.inr rfl) rfl) ?_ | refine ops_op rfl rfl (runs_none rfl) (mv_sl (.inr rfl) rfl) ?_ | refine ops_op rfl rfl (runs_none rfl) (mv_s (.inr rfl) rfl) ?_ | refine ops_op rfl rfl (runs_none rfl) (mv_emp (.inr rfl) rfl) ?_
  refine ops_nil ?_
  repeat (first | refine aw_seq ?_ | refine ath_n ?_ | refine aw_skip ?_ | refine abl_n ?_ | refine aw_block ?_)
  refine aw_region ?_
  first | refine ops_op rfl rfl (runs_none rfl) (mv_own (.inl rfl) rfl) ?_ | refine ops_op rfl rfl (runs_none rfl) (mv_sl (.inl rfl) rfl) ?_ | refine ops_op rfl rfl (runs_none rfl) (mv_s (.inl rfl) rfl) ?_ | refine ops_op rfl rfl (runs_none rfl) (mv_emp (.inl rfl) rfl) ?_
  refine ops_op rfl rfl (runs_none rfl) (mv_s (.inl rfl) rfl) ?_
  first | refine ops_op rfl rfl (runs_none rfl) (does_index_sl rfl ts30 ti3 rfl rfl rfl hlt rfl) ?_ | refine ops_op rfl rfl (runs_none rfl) (does_index_own rfl ts30 ti3 rfl rfl rfl hlt) ?_
  refine ops_eff rfl (runs_none rfl) (does_store rfl ti3 rfl rfl rfl hel rfl rfl (by decide) (by decide)) ?_
  refine ops_nil ?_
  repeat (first | refine aw_seq ?_ | refine ath_n ?_ | refine aw_skip ?_ | refine abl_n ?_ | refine aw_block ?_)
  refine aw_region ?_
  first | refine ops_op rfl rfl (runs_none rfl) (mv_own (.inl rfl) rfl) ?_ | refine ops_op rfl rfl (runs_none rfl) (mv_sl (.inl rfl) rfl) ?_ | refine ops_op rfl rfl (runs_none rfl) (mv_s (.inl rfl) rfl) ?_ | refine ops_op rfl rfl (runs_none rfl) (mv_emp (.inl rfl) rfl) ?_
  first | refine ops_op rfl rfl (runs_none rfl) (mv_own (.inr rfl) rfl) ?_ | refine ops_op rfl rfl (runs_none rfl) (mv_sl (.inr rfl) rfl) ?_ | refine ops_op rfl rfl (runs_none rfl) (mv_s (.inr rfl) rfl) ?_ | refine ops_op rfl rfl (runs_none rfl) (mv_emp (.inr rfl) rfl) ?_
  refine aops_weak (wk_froz (id := 1) rfl) (aops_weak (wk_sl (d := 4) rfl rfl (by first | rfl | simp)) ?_)
  refine ops_nil ?_
  repeat (first | refine aw_seq ?_ | refine ath_n ?_ | refine aw_skip ?_ | refine abl_n ?_ | refine aw_block ?_)
  (refine aw_ret ?_; repeat (first | refine ath_r ?_ | refine abl_r ?_))
  exact post1 (.inr rfl) rfl (congrArg AV.sl hE)
theorem outR_p1 : ∀ (l : List Int) (s : Pl), (s.big = false → ∀ i, gti s.m i ≤ 100) → (outR l s).big = false → ∀ i, gti (outR l s).m i ≤ 100
  | [], s, h => h
  | k :: l, s, h => outR_p1 l (outR1 s k) (fun hb i => by
      simp only [outR1, Bool.or_eq_false_iff, decide_eq_false_iff_not] at hb
      simp only [outR1]
      rw [gti_set]
      have := h hb.1 i
      split <;> omega)
theorem takeOut_mono : ∀ (l : List Int) (s : Pl) (i : Nat), gti s.m i ≤ gti (takeOut l s).m i
  | [], s, i => Int.le_refl _
  | k :: l, s, i => by
    refine Int.le_trans ?_ (takeOut_mono l (takeOut1 s k) i)
    simp only [takeOut1]
    rw [gti_set]
    split
    · rename_i h; obtain ⟨rfl, _⟩ := h; omega
    · omega
theorem gti_none {l : List Int} {i : Nat} (h : l.length ≤ i) : gti l i = 0 := by unfold gti; rw [List.getElem?_eq_none h]; rfl
theorem outR_p2 : ∀ (l : List Int) (s : Pl), (outR l s).big = true → s.big = true ∨ ∃ i, 100 < gti (takeOut l s).m i
  | [], s, h => .inl h
  | k :: l, s, h => by
    have hm : ∀ (l : List Int) (s s' : Pl), s.m = s'.m → (takeOut l s).m = (takeOut l s').m := by
      intro l
      induction l with
      | nil => intro s s' h; exact h
      | cons k l ih => intro s s' h; exact ih _ _ (by simp [takeOut1, h])
    have e : (takeOut l (outR1 s k)).m = (takeOut l (takeOut1 s k)).m := hm l _ _ rfl
    rcases outR_p2 l (outR1 s k) h with h1 | ⟨i, h1⟩
    · simp only [outR1, Bool.or_eq_true, decide_eq_true_eq] at h1
      rcases h1 with h1 | h1
      · exact .inl h1
      · refine .inr ⟨k.toNat, ?_⟩
        have h2 := takeOut_mono l (takeOut1 s k) k.toNat
        simp only [takeOut1] at h2
        rw [gti_set] at h2
        rw [takeOut]
        split at h2
        · simp only [takeOut1]; omega
        · rename_i h3
          have : gti s.m k.toNat = 0 := by
            unfold gti
            rw [List.getElem?_eq_none (by omega)]
            rfl
          omega
    · exact .inr ⟨i, by rw [takeOut, ← e]; exact h1⟩
theorem takeR_eq {n : Net} {s : Pl} (h : PM n s) (hv : validB n = true) {t : Nat} (ht : t < n.trans.length) : takeR n t s = takeP n t s := by
  obtain ⟨hi, ho, _⟩ := trans_in hv ht
  have hpl := validB_places hv
  obtain ⟨c1, c2, c3, c4, c5⟩ := takeIn_c (gti n.trans t).inn s
  obtain ⟨d1, d2, d3, d4, d5, d6⟩ := takeOut_c (gti n.trans t).out (takeIn (gti n.trans t).inn s)
  obtain ⟨o1, o2, o3⟩ := outR_out (gti n.trans t).out (takeIn (gti n.trans t).inn s)
  have hp := h.pt.inn hi
  have hq := hp.outt ho
  unfold takeR takeP takeEnd
  rw [Int.toNat_natCast, o1, o2, d5, c4, d6, c5]
  congr 1
  have hin : (takeIn (gti n.trans t).inn s).big = false → ∀ i, gti (takeIn (gti n.trans t).inn s).m i ≤ 100 := by
    intro hb i
    rw [c5] at hb
    have hm := h.ok hb
    unfold markB at hm
    simp only [Bool.and_eq_true] at hm
    have hle : ∀ (l : List Int) (s : Pl) (i : Nat), gti (takeIn l s).m i ≤ gti s.m i := by
      intro l
      induction l with
      | nil => intro s i; exact Int.le_refl _
      | cons k l ih =>
        intro s i
        refine Int.le_trans (ih (takeIn1 s k) i) ?_
        unfold takeIn1
        split
        · simp only; rw [gti_set]; split
          · rename_i h; obtain ⟨rfl, _⟩ := h; omega
          · omega
        · exact Int.le_refl _
    exact Int.le_trans (hle _ s i) (mark2B_at hm.2 i).2
  have hlen : 0 < (takeOut (gti n.trans t).out (takeIn (gti n.trans t).inn s)).m.length := by have := hq.len; omega
  have hgt := maxL_gt 100 hlen
  rw [hgt]
  cases hb : (outR (gti n.trans t).out (takeIn (gti n.trans t).inn s)).big with
  | true =>
    rcases outR_p2 _ _ hb with h1 | ⟨i, h1⟩
    · rw [c5] at h1; rw [h1]; rfl
    · symm
      rw [Bool.or_eq_true]
      refine .inr (List.any_eq_true.2 ⟨gti (takeOut (gti n.trans t).out (takeIn (gti n.trans t).inn s)).m i, ?_, by simpa using h1⟩)
      by_cases hl : i < (takeOut (gti n.trans t).out (takeIn (gti n.trans t).inn s)).m.length
      · exact gti_mem hl
      · exfalso
        have := gti_none (Nat.le_of_not_lt hl)
        omega
  | false =>
    have h1 := outR_p1 _ _ hin hb
    rw [o1] at h1
    have hmono : ∀ (l : List Int) (s : Pl), (outR l s).big = false → s.big = false := by
      intro l
      induction l with
      | nil => intro s h; exact h
      | cons k l ih => intro s h; have := ih _ h; simp only [outR1, Bool.or_eq_false_iff] at this; exact this.1
    have h2 := hmono _ _ hb
    rw [c5] at h2
    rw [h2]
    symm
    rw [Bool.false_or]
    refine List.any_eq_false.2 (fun y hy => ?_)
    obtain ⟨i, hi, rfl⟩ := List.getElem_of_mem hy
    have := h1 i
    rw [gti, List.getElem?_eq_getElem hi] at this
    simpa using this
theorem rtake_pf' (n : Net) (s : Pl) (t : Nat) (hval : validB n = true) (ht : t < n.trans.length) (hpm : PM n s) {B : Nat} (hsm : Sm s B) (hB : B ≤ 900000) :
    Pure P 37 [eR n s.m s, eI t] (eR n (takeP n t s).m (takeP n t s)) := by
  have h := rtake_pf (P := P) n s t hval ht hpm.pt (by have := hsm.p; omega) (by have := hsm.c; omega) (by have := hsm.l; omega)
  rwa [takeR_eq hpm hval ht] at h
theorem takeAll_snoc (n : Net) (l : List Int) (k : Int) (s : Pl) : takeAll n (l ++ [k]) s = takeP n k (takeAll n l s) := by rw [takeAll_app]; rfl
set_option maxHeartbeats 4000000 in
theorem rtakeAll_pf (n : Net) (s : Pl) (l : List Int) {B : Nat} (hval : validB n = true) (hl : ∀ t ∈ l, 0 ≤ t ∧ t < n.trans.length) (hpm : PM n s) (hsm : Sm s B) (hB : B + l.length ≤ 900000) :
    Pure P 35 [eR n s.m s, eL eI l] (eR n (takeAll n l s).m (takeAll n l s)) := by
  refine aw_fn (by rw [IsP.eq (P := P)]; exact Try.func35) rfl rfl rfl rfl rfl (by repeat' (first | exact Lo.s _ | exact Lo.emp | exact Lo.any | exact lo_nil | exact lo_nilE | refine lo_cons ?_ ?_ | refine lo_consE ?_ ?_ | refine lo_map ?_ | refine lo_mapE ?_ | refine Lo.cells ?_ | refine Lo.agg _ ?_ | refine Lo.ref _ ?_ | refine Lo.tup _ ?_ | refine Lo.fn _ _ ?_ | refine Lo.sl _ ?_ | intro _)) (by repeat' (first | exact Lo.s _ | exact Lo.emp | exact Lo.any | exact lo_nil | exact lo_nilE | refine lo_cons ?_ ?_ | refine lo_consE ?_ ?_ | refine lo_map ?_ | refine lo_mapE ?_ | refine Lo.cells ?_ | refine Lo.agg _ ?_ | refine Lo.ref _ ?_ | refine Lo.tup _ ?_ | refine Lo.fn _ _ ?_ | refine Lo.sl _ ?_ | intro _)) (by simp only [argF]; rfl) ?_
  repeat (first | refine aw_seq ?_ | refine ath_n ?_ | refine aw_skip ?_ | refine abl_n ?_ | refine aw_block ?_)
  refine aw_region ?_
  refine ops_op rfl rfl (runs_none rfl) (does_box rfl rfl rfl rfl) ?_
  refine ops_op rfl rfl (runs_none rfl) (does_alloc rfl ti74 rfl rfl) ?_
  refine ops_nil ?_
  repeat (first | refine aw_seq ?_ | refine ath_n ?_ | refine aw_skip ?_ | refine abl_n ?_ | refine aw_block ?_)
  refine aw_region ?_
  refine ops_op rfl rfl (runs_none rfl) (mv_s (.inr rfl) rfl) ?_
  refine ops_nil ?_
  repeat (first | refine aw_seq ?_ | refine ath_n ?_ | refine aw_skip ?_ | refine abl_n ?_ | refine aw_block ?_)
  refine aw_loops (S := Nat) (fun k => [(1, eL eI l), (2, .ptr 0 11 0 0), (4, .ptr 1 11 0 0), (5, eI k)]) (fun k => [.row 11 [eR n (takeAll n (l.take k) s).m (takeAll n (l.take k) s)], .row 11 [zR]]) (fun k => k ≤ l.length) (fun k => l.length - k) 0
    (wk_sub _ ⟨rfl, rfl, rfl, rfl, trivial⟩) (Nat.zero_le _) (fun k hk => ?_)
  have hmem : ∀ t ∈ l.take k, 0 ≤ t ∧ t < n.trans.length := fun t ht => hl t (List.mem_of_mem_take ht)
  have hpk : PM n (takeAll n (l.take k) s) := PM.all hval hpm hmem
  have hsk := Sm.all hval hsm hmem
  have hkl : (l.take k).length = k := by simp; omega
  rw [hkl] at hsk
  have hST : k < l.length → takeAll n (l.take (k + 1)) s = takeP n (gti l k) (takeAll n (l.take k) s) := fun h => by rw [take_snoc' h, takeAll_snoc]
  have hEX : k = l.length → takeAll n (l.take k) s = takeAll n l s := fun h => by rw [h, List.take_length]
  generalize hsk0 : takeAll n (l.take k) s = sk at *
  repeat (first | refine aw_seq ?_ | refine ath_n ?_ | refine aw_skip ?_ | refine abl_n ?_ | refine aw_block ?_)
  refine aw_region ?_
  refine ops_op rfl rfl (runs_none rfl) (mv_s (.inl rfl) rfl) ?_
  first | refine ops_op rfl rfl (runs_none rfl) (mv_own (.inl rfl) rfl) ?_ | refine ops_op rfl rfl (runs_none rfl) (mv_sl (.inl rfl) rfl) ?_ | refine ops_op rfl rfl (runs_none rfl) (mv_s (.inl rfl) rfl) ?_ | refine ops_op rfl rfl (runs_none rfl) (mv_emp (.inl rfl) rfl) ?_
  first | refine ops_op rfl rfl (runs_none rfl) (does_len_map rfl ts30 rfl) ?_ | refine ops_op rfl rfl (runs_none rfl) (does_len_sl rfl ts30 rfl) ?_ | refine ops_op rfl rfl (runs_none rfl) (does_len_own rfl ts30 rfl) ?_ | refine ops_op rfl rfl (runs_none rfl) (does_len_s rfl ts30 rfl) ?_ | refine ops_op rfl rfl (runs_none rfl) (does_len_emp rfl ts30 rfl) ?_
  refine ops_op rfl rfl (runs_none rfl) (does_lss rfl rfl rfl) ?_
  refine ops_nil ?_
  repeat (first | refine aw_seq ?_ | refine ath_n ?_ | refine aw_skip ?_ | refine abl_n ?_ | refine aw_block ?_)
  refine aw_if rfl (fun h => ?_) (fun h => ?_)
  · have hlt : k < l.length := by omega
    obtain ⟨h0, h1⟩ := hl _ (gti_mem hlt)
    have hST2 := hST hlt
    obtain ⟨t, ht⟩ : ∃ t : Nat, gti l k = (t : Int) := ⟨_, (Int.toNat_of_nonneg h0).symm⟩
    have hT : Pure P 37 [eR n sk.m sk, eI (gti l k)] (eR n (takeP n (gti l k) sk).m (takeP n (gti l k) sk)) := by
      rw [ht]; exact rtake_pf' n sk t hval (by omega) hpk hsk (by omega)
    repeat (first | refine aw_seq ?_ | refine ath_n ?_ | refine aw_skip ?_ | refine abl_n ?_ | refine aw_block ?_)
    refine aw_draw hmix ?_
    refine adraw_lastT rfl (by kernel_rfl) ?_
    refine adraw_quiet (by kernel_rfl) ?_
    simp only [List.dropLast]
    first | refine qx_op rfl rfl (runs_none rfl) (does_load_refw rfl ta74 ti74 rfl rfl) ?_ | refine qx_op rfl rfl (runs_none rfl) (does_load_whole rfl ta74 ti74 rfl rfl rfl rfl rfl) ?_ | refine qx_op rfl rfl (runs_none rfl) (does_load_refs rfl ta74 ti74 rfl (Nat.le_of_ble_eq_true rfl)) ?_ | refine qx_op rfl rfl (runs_none rfl) (does_load_ptrs rfl ta74 ti74 rfl rfl rfl rfl (Nat.le_of_ble_eq_true rfl)) ?_
    first | refine qx_op rfl rfl (runs_none rfl) (mv_own (.inl rfl) rfl) ?_ | refine qx_op rfl rfl (runs_none rfl) (mv_sl (.inl rfl) rfl) ?_ | refine qx_op rfl rfl (runs_none rfl) (mv_s (.inl rfl) rfl) ?_ | refine qx_op rfl rfl (runs_none rfl) (mv_emp (.inl rfl) rfl) ?_
    refine qx_op rfl rfl (runs_none rfl) (mv_s (.inl rfl) rfl) ?_
    first | refine qx_op rfl rfl (runs_none rfl) (does_index_sl rfl ts30 ti3 rfl rfl rfl (ix_map (by omega)) rfl) ?_ | refine qx_op rfl rfl (runs_none rfl) (does_index_own rfl ts30 ti3 rfl rfl rfl (by omega)) ?_
    first | refine qx_op rfl rfl (runs_none rfl) (does_load_ref rfl ta3 rfl) ?_ | refine qx_op rfl rfl (runs_none rfl) (does_load_ptr rfl ta3 rfl rfl rfl rfl rfl) ?_
    refine qx_op rfl rfl (runs_none rfl) (does_call rfl rfl (hT) (evc_cons rfl (evc_cons rfl evc_nil))) ?_
    refine qx_nil ?_
    refine ath_n ?_
    refine ops_eff rfl (runs_none rfl) (does_store rfl ti74 rfl rfl rfl rfl rfl rfl (by decide) (by decide)) ?_
    refine ops_nil ?_
    repeat (first | refine aw_seq ?_ | refine ath_n ?_ | refine aw_skip ?_ | refine abl_n ?_ | refine aw_block ?_)
    refine aw_region ?_
    refine ops_op rfl rfl (runs_none rfl) (mv_s (.inl rfl) rfl) ?_
    refine ops_op rfl rfl (runs_none rfl) (does_add rfl rfl rfl (IntWalk.i64_in _ (by omega))) ?_
    refine ops_op rfl rfl (runs_none rfl) (mv_s (.inr rfl) rfl) ?_
    refine ops_nil ?_
    repeat (first | refine aw_seq ?_ | refine ath_n ?_ | refine aw_skip ?_ | refine abl_n ?_ | refine aw_block ?_)
    refine ⟨k + 1, by omega, by omega, ?_⟩
    rw [hST2]
    exact wk_sub _ ⟨rfl, rfl, rfl, rfl, trivial⟩
  · have hI := hEX (by omega)
    (refine aw_exit ?_; repeat (first | refine ath_x ?_ | refine abl_hit ?_ | refine abl_miss rfl ?_ | refine abl_n ?_ | refine ath_n ?_ | refine aw_seq ?_ | refine aw_skip ?_ | refine aw_block ?_))
    refine aw_region ?_
    first | refine ops_op rfl rfl (runs_none rfl) (does_load_refw rfl ta74 ti74 rfl rfl) ?_ | refine ops_op rfl rfl (runs_none rfl) (does_load_whole rfl ta74 ti74 rfl rfl rfl rfl rfl) ?_ | refine ops_op rfl rfl (runs_none rfl) (does_load_refs rfl ta74 ti74 rfl (Nat.le_of_ble_eq_true rfl)) ?_ | refine ops_op rfl rfl (runs_none rfl) (does_load_ptrs rfl ta74 ti74 rfl rfl rfl rfl (Nat.le_of_ble_eq_true rfl)) ?_
    refine ops_eff rfl (runs_none rfl) (does_store rfl ti74 rfl rfl rfl rfl rfl rfl (by decide) (by decide)) ?_
    refine ops_nil ?_
    repeat (first | refine aw_seq ?_ | refine ath_n ?_ | refine aw_skip ?_ | refine abl_n ?_ | refine aw_block ?_)
    (refine aw_ret ?_; repeat (first | refine ath_r ?_ | refine abl_r ?_))
    apply post1c (.inr rfl)
    · exact ta74
    · exact ti74
    · exact rfl
    · exact rfl
    · exact rfl
    · exact rfl
    · exact rfl
    rw [← hI]
    rfl
end Go.Proofs.Ytmhbfoaecebobaa.Aw
end
section
namespace Go.Proofs.Ytmhbfoaecebobaa.Aw
set_option linter.unusedSimpArgs false
set_option linter.unusedVariables false
open Go.RowKit
def RnL (ρ : List Nat) (l l' : List AV) : Prop := l.length = l'.length ∧ ∀ (j : Nat) x y, l[j]? = some x → l'[j]? = some y → Rn ρ x y
theorem RnL.nil {ρ : List Nat} : RnL ρ [] [] := ⟨rfl, by simp⟩
theorem RnL.cons {ρ : List Nat} {x y : AV} {l l' : List AV} (h : Rn ρ x y) (t : RnL ρ l l') : RnL ρ (x :: l) (y :: l') := by
  refine ⟨by simp [t.1], fun j a b ha hb => ?_⟩
  cases j with
  | zero => simp at ha hb; subst ha hb; exact h
  | succ j => exact t.2 j a b (by simpa using ha) (by simpa using hb)
/-- a struct of the call's own that names rows of the call's own -/
theorem obRn_agg {ρ : List Nat} {sz : Nat} {cs cs' : List AV} (h : RnL ρ cs cs') : ObRn ρ (.row sz [.agg cs]) (.row sz [.agg cs']) := .rowR sz _ _ (.agg cs cs' h.1 h.2) h.2 h.1
section
variable {N : Nat} {F F' : Frm} {σ σ' : List Ob}
/-- a row is read in another way -/
theorem reread_rel {G : Cx} {id sz : Nat} {cs cs' : List AV} (hr : Rel G σ) (hs : σ[id]? = some (.row sz cs)) (h0 : cs = [] → cs' = []) (h : ∀ b f, RowAt G b sz cs f → RowAt G b sz cs' f) : Rel G (σ.set id (.row sz cs')) := by
  have hid : id < σ.length := (List.getElem?_eq_some_iff.1 hs).1
  refine ⟨hr.below, hr.le, hr.st, fun i ob hob => ?_, fun i j b hi hj hm hm' => ?_, fun i hi => hr.fresh i (by simpa using hi)⟩
  · by_cases hi : id = i
    · subst hi
      rw [List.getElem?_set_self hid] at hob
      cases hob
      have h1 := hr.obs id _ hs
      simp only [ObOk] at h1 ⊢
      cases hx : G.mu id with
      | none => rw [hx] at h1; exact h1
      | some x =>
        rw [hx] at h1
        cases x with
        | none => exact h0 h1
        | some b => exact ⟨h b _ h1.1, h1.2⟩
    · rw [List.getElem?_set_ne hi] at hob; exact hr.obs i ob hob
  · have old : ∀ i, alive (σ.set id (.row sz cs')) i → alive σ i := by
      rintro i ⟨sz1, cs1, hi⟩
      by_cases h2 : id = i
      · subst h2; exact ⟨sz, cs, hs⟩
      · rw [List.getElem?_set_ne h2] at hi; exact ⟨sz1, cs1, hi⟩
    exact hr.inj i j b (old i hi) (old j hj) hm hm'
/-- nil in a struct of the call's own, as an empty row of the call's own -/
theorem wk_ownC {id sz sz2 : Nat} {e e' : AV} {pre post : List AV} (hs : σ[id]? = some (.row sz [e])) (h1 : e.cells = pre ++ .s (.slice none 0 0) :: post) (h2 : e'.cells = pre ++ .own σ.length sz2 0 :: post) :
    Weak N F σ F (σ.set id (.row sz [e']) ++ [.row sz2 []]) := fun G a h => by
  have he := nil_ext h.rel
  have hr := nil_rel h.rel sz2
  have hid : id < σ.length := (List.getElem?_eq_some_iff.1 hs).1
  refine ⟨G.new σ.length G.w none, rfl, he.step, ?_, h.fr.ext he, h.df, h.nt⟩
  have hset : σ.set id (Ob.row sz [e']) ++ [Ob.row sz2 []] = (σ ++ [Ob.row sz2 []]).set id (Ob.row sz [e']) := by rw [List.set_append_left _ _ hid]
  rw [hset]
  refine reread_rel hr (by rw [List.getElem?_append_left hid]; exact hs) (fun h => by cases h) ?_
  rintro b f ⟨cur, t, fr, g1, g2, g3, g4⟩
  refine ⟨cur, t, fr, g1, g2, g3, fun k y hy => ?_⟩
  cases k with
  | succ k => simp at hy
  | zero =>
    simp at hy
    subst hy
    obtain ⟨k1, k2, k3⟩ := g4 0 e rfl
    rw [h1] at k1 k2 k3
    rw [h2]
    refine ⟨by simpa using k1, fun c hc => ?_, fun j c hc => ?_⟩
    · simp only [List.mem_append, List.mem_cons] at hc
      rcases hc with hc | rfl | hc
      · exact k2 c (by simp [hc])
      · rfl
      · exact k2 c (by simp [hc])
    · by_cases hj : j = pre.length
      · subst hj
        simp at hc
        subst hc
        obtain ⟨v, h6, h7⟩ := k3 pre.length (.s (.slice none 0 0)) (by simp)
        refine ⟨v, h6, ?_⟩
        cases h7
        exact .own0 σ.length sz2 none (fun a ha => by cases ha) (by simp [Cx.new])
      · have e : (pre ++ AV.s (.slice none 0 0) :: post)[j]? = some c := by
          rw [← hc]
          by_cases hlt : j < pre.length
          · rw [List.getElem?_append_left hlt, List.getElem?_append_left hlt]
          · rw [List.getElem?_append_right (by omega), List.getElem?_append_right (by omega)]
            obtain ⟨i, hi⟩ : ∃ i, j - pre.length = i + 1 := ⟨j - pre.length - 1, by omega⟩
            rw [hi]; rfl
        exact k3 j c e
end
section
variable {P : Program} {o : Oper} {F : Frm} {σ : List Ob}
/-- a new row that is finished at once -/
theorem does_fin {sz n : Nat} {l : List AV} (h : Does P o F [] (.own 0 sz n) [.row sz l]) (hn : n = l.length) (hop0 : ∀ y ∈ o.op.operands, Lo 0 (F.eval y)) (hlo : Lo 0 (.sl l)) : Does P o F σ (.sl l) σ := by
  intro G a next Q hr hop hk
  obtain ⟨G0, hG0⟩ : ∃ G0 : Cx, G0 = { base := G.w.heap.size, w0 := G.w, w := G.w, mu := fun _ => none, St := G.St } := ⟨_, rfl⟩
  have hr0 : Rel G0 [] := by
    subst hG0
    exact ⟨Below.refl _ _, Nat.le_refl _, hr.st, fun id ob h => by simp at h, fun i j b hi _ _ _ => by obtain ⟨_, _, h⟩ := hi; simp at h, fun _ _ => rfl⟩
  have hw : G.w = G0.w := by subst hG0; rfl
  rw [hw]
  refine h G0 a next Q hr0 (fun y hy => (hop y hy).low (hop0 y hy) (by subst hG0; exact fun _ _ h => h) (by subst hG0; exact fun _ _ _ => rfl) (fun id y h => by omega) (fun h => by omega)) (fun v G1 he hr1 hrep => ?_)
  obtain ⟨he2, hr2⟩ := froz_ok hr1 (id := 0) (sz := sz) (cs := l) rfl
  have hrep2 := rep_fz hr2 (id := 0) (sz := sz) (cs := l) rfl hn (hrep.ext he2)
  have hb0 : G1.base = G.w.heap.size := by rw [he.base]; subst hG0; rfl
  have hw0 : (G1.froz 0).w0 = G.w := by show G1.w0 = _; rw [he.w0]; subst hG0; rfl
  have hbel : Below G.w.heap.size G.w (G1.froz 0).w := by have := hr2.below; rwa [show (G1.froz 0).base = G.w.heap.size from hb0, hw0] at this
  have hSt : G0.St = G.St := by subst hG0; rfl
  obtain ⟨h4, h5⟩ := after_call (G1 := G1.froz 0) hr rfl hbel (fun b o h => he2.st _ _ (he.st _ _ (by rw [hSt]; exact h))) (fun b o h => by
    rcases he2.stN b o h with h1 | h1
    · rcases he.stN b o h1 with h2 | h2
      · rw [hSt] at h2; exact .inl h2
      · right; have e : G0.base = G.w.heap.size := by subst hG0; rfl
        omega
    · right; omega) hr2.st
  exact hk v { G with w := (G1.froz 0).w, St := (G1.froz 0).St } h4 h5 (hrep2.low hlo (fun _ _ h => h) (fun _ _ _ => rfl) (fun id y h => by omega) (fun h => by omega))
theorem does_append0F {t e : TypeId} {s y : Operand} {z : Value} {sz bt : Nat} {x y' : AV} {l : List AV} (ho : o.op = .call { callee := .builtin .append, args := #[s, y], argTypes := #[t, t] })
    (ht : tySlice P t = some e) (hi : tyInfo P e = some (some z, sz, bt)) (hzs : z.cells.size = sz) (hsz : 0 < sz) (hx : F.eval s = x) (hx2 : x = .emp ∨ x = .s (.slice none 0 0)) (hy : F.eval y = y') (hsrc : Src [] sz y' l)
    (h63 : l.length ≤ maxLen) (hby : l.length * bt ≤ 140737488355328) (hly : Lo 0 y') (hl : Lo 0 (.sl l)) : Does P o F σ (.sl l) σ :=
  does_fin (does_append0 ho ht hi hzs hsz hx hx2 hy hsrc h63 hby) rfl (fun u hu => by
    simp [ho, Op.operands, Call.operands] at hu
    rcases hu with rfl | rfl
    · rw [hx]; rcases hx2 with rfl | rfl
      · exact .emp
      · exact .s _
    · rw [hy]; exact hly) hl
theorem lit1_sF {t e : TypeId} {y : Operand} {z : Value} {bt : Nat} {v : Value} (ho : o.op = .buildSlice t 1 #[(0, y)]) (ht : tySlice P t = some e) (hi : tyInfo P e = some (some z, 1, bt))
    (h1 : (ofValue z).cells.all AV.one = true) (hn : (ofValue z).cells.length = 1) (hy : F.eval y = .s v) (hx : (AV.s v).one = true) : Does P o F σ (.sl [.s v]) σ :=
  does_fin (lit1_s ho ht hi h1 hn hy hx) rfl (fun u hu => by simp [ho, Op.operands] at hu; subst hu; rw [hy]; exact .s _) (.sl _ (lo_cons (.s _) lo_nil))
theorem lit1_slF {t e : TypeId} {y : Operand} {z : Value} {bt : Nat} {l : List AV} (ho : o.op = .buildSlice t 1 #[(0, y)]) (ht : tySlice P t = some e) (hi : tyInfo P e = some (some z, 1, bt))
    (h1 : (ofValue z).cells.all AV.one = true) (hn : (ofValue z).cells.length = 1) (hy : F.eval y = .sl l) (hx : (AV.sl l).one = true) (hl : Lo 0 (.sl l)) : Does P o F σ (.sl [.sl l]) σ :=
  does_fin (lit1_sl ho ht hi h1 hn hy hx) rfl (fun u hu => by simp [ho, Op.operands] at hu; subst hu; rw [hy]; exact hl) (.sl _ (lo_cons hl lo_nil))
theorem does_litAF {t e : TypeId} {y : Operand} {z : Value} {n bt : Nat} {cs : List AV} (ho : o.op = .buildSlice t 1 #[(0, y)]) (ht : tySlice P t = some e) (hi : tyInfo P e = some (some z, n, bt))
    (h1 : (ofValue z).cells.all AV.one = true) (hn : (ofValue z).cells.length = n) (h2 : 2 ≤ n) (hsm : n ≤ 16777216) (hy : F.eval y = .agg cs) (hx : cs.all AV.one = true) (hl : cs.length = n) (hlo : Lo 0 (.agg cs)) : Does P o F σ (.sl [.agg cs]) σ :=
  does_fin (does_litA ho ht hi h1 hn h2 hsm hy hx hl) rfl (fun u hu => by simp [ho, Op.operands] at hu; subst hu; rw [hy]; exact hlo) (.sl _ (lo_cons hlo lo_nil))
end
section
variable {P : Program} {F : Frm} {σ : List Ob}
/-- one result, a struct in a variable, taken as finished -/
theorem post1cf {ad : Tmp} {ty : TypeId} {id sz k n bt : Nat} {z : Option Value} {ob : Ob} {cs cs1 cs2 : List AV} {e1 : AV} {e : Exit} (he : e = .normal ∨ e = .ret) (ha : tyAgg P ty = some true) (hi : tyInfo P ty = some (z, n, bt)) (hp : F.get ad = .ptr id sz k 0) (hs : σ[id]? = some ob) (ho : rowOf ob = some (sz, cs)) (hk : cs[k]? = some e1) (hc : e1.cells = cs1) (hn : cs1.length = n) (hf : FiniL σ cs1 cs2) : APost P [.cell ad ty] (.agg cs2) e F σ :=
  ⟨he, [_], .cons _ _ _ _ (.cells ad ty id sz k n bt z ob cs e1 ha hi hp hs ho hk (by rw [hc]; exact hn)) .nil, by rw [hc]; exact .agg _ _ hf.1 hf.2⟩
end
end Go.Proofs.Ytmhbfoaecebobaa.Aw
end
section
namespace Go.Proofs.Ytmhbfoaecebobaa.Aw
set_option linter.unusedSimpArgs false
set_option linter.unusedVariables false
open Go.RowKit

def ge1 : Option Nat → Bool
  | some (_ + 1) => true
  | _ => false
def is2 : Option Nat → Bool
  | some 2 => true
  | _ => false
/-- what changes the store keeps its order to all that is not free -/
def gOk (l : List Oper) (ks : List Nat) : Bool :=
  qOk l && (let m := masks l []
    (List.range l.length).all fun j => (List.range j).all fun i => !(ge1 ks[i]? && ge1 ks[j]? && (is2 ks[i]? || is2 ks[j]?)) || (m.getD j 0).testBit i)
theorem gOk_of {l : List Oper} {ks : List Nat} (h : gOk l ks = true) : qOk l = true ∧ ∀ (i j a b : Nat), i < j → j < l.length → ks[i]? = some a → ks[j]? = some b → 1 ≤ a → 1 ≤ b → a = 2 ∨ b = 2 → ((masks l []).getD j 0).testBit i = true := by
  unfold gOk at h
  simp only [Bool.and_eq_true] at h
  refine ⟨h.1, fun i j a b hij hj ha hb h1 h2 h3 => ?_⟩
  have h4 := List.all_eq_true.1 (List.all_eq_true.1 h.2 j (by simpa using hj)) i (by simpa using hij)
  rw [ha, hb] at h4
  obtain ⟨a, rfl⟩ : ∃ k, a = k + 1 := ⟨a - 1, by omega⟩
  obtain ⟨b, rfl⟩ : ∃ k, b = k + 1 := ⟨b - 1, by omega⟩
  have h5 : (is2 (some (a + 1)) || is2 (some (b + 1))) = true := by
    rcases h3 with h | h
    · have : a = 1 := by omega
      subst this; rfl
    · have : b = 1 := by omega
      subst this; simp [is2]
  simpa [ge1, h5] using h4

inductive GSteps (P : Program) (N : Nat) (ops : Array Oper) : List Oper → Frm → List Ob → Frm → List Ob → List (Nat × AV) → List Nat → List (List Ob) → Prop
  | nil (F : Frm) (σ : List Ob) : GSteps P N ops [] F σ F σ [] [] []
  | free (o : Oper) (l : List Oper) (F F' : Frm) (σ σ' : List Ob) (x : AV) (out : List (Nat × AV)) (ks : List Nat) (sts : List (List Ob)) (d : Nat) (hd : o.dst = some d) (hN : Nat.blt d N = true) (hr : Runs ops F o true) (hD : ∀ σ, Does P o F σ x σ) (h : GSteps P N ops l ((d, x) :: F) σ F' σ' out ks sts) : GSteps P N ops (o :: l) F σ F' σ' ((d, x) :: out) (0 :: ks) (σ :: sts)
  | skip (o : Oper) (l : List Oper) (F F' : Frm) (σ σ' : List Ob) (out : List (Nat × AV)) (ks : List Nat) (sts : List (List Ob)) (d : Nat) (hd : o.dst = some d) (hN : Nat.blt d N = true) (hr : Runs ops F o false) (h : GSteps P N ops l ((d, .s undef) :: F) σ F' σ' out ks sts) : GSteps P N ops (o :: l) F σ F' σ' ((d, .s undef) :: out) (0 :: ks) (σ :: sts)
  | look (o : Oper) (l : List Oper) (F F' : Frm) (σ σ' : List Ob) (x : AV) (out : List (Nat × AV)) (ks : List Nat) (sts : List (List Ob)) (d : Nat) (hd : o.dst = some d) (hN : Nat.blt d N = true) (hr : Runs ops F o true) (hD : Does P o F σ x σ) (h : GSteps P N ops l ((d, x) :: F) σ F' σ' out ks sts) : GSteps P N ops (o :: l) F σ F' σ' ((d, x) :: out) (1 :: ks) (σ :: sts)
  | eff (o : Oper) (l : List Oper) (F F' : Frm) (σ σ1 σ' : List Ob) (x : AV) (out : List (Nat × AV)) (ks : List Nat) (sts : List (List Ob)) (d : Nat) (hd : o.dst = some d) (hN : Nat.blt d N = true) (hr : Runs ops F o true) (hD : Does P o F σ x σ1) (h : GSteps P N ops l ((d, x) :: F) σ1 F' σ' out ks sts) : GSteps P N ops (o :: l) F σ F' σ' ((d, x) :: out) (2 :: ks) (σ :: sts)

theorem gsteps_at {P : Program} {N : Nat} {ops : Array Oper} : ∀ {l : List Oper} {F F' : Frm} {σ σ' : List Ob} {out : List (Nat × AV)} {ks : List Nat} {sts : List (List Ob)}, GSteps P N ops l F σ F' σ' out ks sts → l.length = out.length ∧ F' = out.reverse ++ F ∧ ks.length = l.length ∧ sts.length = l.length ∧ (sts ++ [σ']).getD 0 [] = σ ∧
    ∀ (i : Nat) o, l[i]? = some o → ∃ d x, out[i]? = some (d, x) ∧ o.dst = some d ∧ d < N ∧
      ((ks[i]? = some 0 ∧ (sts ++ [σ']).getD (i + 1) [] = (sts ++ [σ']).getD i [] ∧ ((Runs ops ((out.take i).reverse ++ F) o true ∧ ∀ σ, Does P o ((out.take i).reverse ++ F) σ x σ) ∨ (Runs ops ((out.take i).reverse ++ F) o false ∧ x = .s undef))) ∨
       (ks[i]? = some 1 ∧ (sts ++ [σ']).getD (i + 1) [] = (sts ++ [σ']).getD i [] ∧ Runs ops ((out.take i).reverse ++ F) o true ∧ Does P o ((out.take i).reverse ++ F) ((sts ++ [σ']).getD i []) x ((sts ++ [σ']).getD i [])) ∨
       (ks[i]? = some 2 ∧ Runs ops ((out.take i).reverse ++ F) o true ∧ Does P o ((out.take i).reverse ++ F) ((sts ++ [σ']).getD i []) x ((sts ++ [σ']).getD (i + 1) []))) := by
  intro l F F' σ σ' out ks sts h
  induction h with
  | nil F σ => exact ⟨rfl, rfl, rfl, rfl, rfl, by simp⟩
  | free o l F F' σ σ' x out ks sts d hd hN hr hD h ih =>
    obtain ⟨h1, h2, h3, h4, h0, h5⟩ := ih
    refine ⟨by simp [h1], by simp [h2], by simp [h3], by simp [h4], rfl, fun i o' hi => ?_⟩
    cases i with
    | zero => simp at hi; subst hi; exact ⟨d, x, rfl, hd, by simpa [Nat.blt_eq] using hN, .inl ⟨rfl, h0, .inl ⟨by simpa using hr, by simpa using hD⟩⟩⟩
    | succ i =>
      obtain ⟨d', x', g1, g2, g3, g4⟩ := h5 i o' (by simpa using hi)
      exact ⟨d', x', by simpa using g1, g2, g3, by simpa using g4⟩
  | skip o l F F' σ σ' out ks sts d hd hN hr h ih =>
    obtain ⟨h1, h2, h3, h4, h0, h5⟩ := ih
    refine ⟨by simp [h1], by simp [h2], by simp [h3], by simp [h4], rfl, fun i o' hi => ?_⟩
    cases i with
    | zero => simp at hi; subst hi; exact ⟨d, .s undef, rfl, hd, by simpa [Nat.blt_eq] using hN, .inl ⟨rfl, h0, .inr ⟨by simpa using hr, rfl⟩⟩⟩
    | succ i =>
      obtain ⟨d', x', g1, g2, g3, g4⟩ := h5 i o' (by simpa using hi)
      exact ⟨d', x', by simpa using g1, g2, g3, by simpa using g4⟩
  | look o l F F' σ σ' x out ks sts d hd hN hr hD h ih =>
    obtain ⟨h1, h2, h3, h4, h0, h5⟩ := ih
    refine ⟨by simp [h1], by simp [h2], by simp [h3], by simp [h4], rfl, fun i o' hi => ?_⟩
    cases i with
    | zero => simp at hi; subst hi; exact ⟨d, x, rfl, hd, by simpa [Nat.blt_eq] using hN, .inr (.inl ⟨rfl, h0, by simpa using hr, by simpa using hD⟩)⟩
    | succ i =>
      obtain ⟨d', x', g1, g2, g3, g4⟩ := h5 i o' (by simpa using hi)
      exact ⟨d', x', by simpa using g1, g2, g3, by simpa using g4⟩
  | eff o l F F' σ σ1 σ' x out ks sts d hd hN hr hD h ih =>
    obtain ⟨h1, h2, h3, h4, h0, h5⟩ := ih
    refine ⟨by simp [h1], by simp [h2], by simp [h3], by simp [h4], rfl, fun i o' hi => ?_⟩
    cases i with
    | zero =>
      simp at hi; subst hi
      refine ⟨d, x, rfl, hd, by simpa [Nat.blt_eq] using hN, .inr (.inr ⟨rfl, by simpa using hr, ?_⟩)⟩
      have e : ((σ :: sts) ++ [σ']).getD (0 + 1) [] = σ1 := h0
      rw [e]
      simpa using hD
    | succ i =>
      obtain ⟨d', x', g1, g2, g3, g4⟩ := h5 i o' (by simpa using hi)
      exact ⟨d', x', by simpa using g1, g2, g3, by simpa using g4⟩

section
variable {P : Program} {N : Nat} {l : List Oper} {F F' : Frm} {σ : List Ob} {out : List (Nat × AV)} {Q : Exit → Frm → List Ob → Prop}

theorem gen_any {σ' : List Ob} {ks : List Nat} {sts : List (List Ob)} (hq : gOk l ks = true) (hs : GSteps P N l.toArray l F σ F' σ' out ks sts) (hQ : Q .normal F' σ') (G0 : Cx) :
    ∀ (fuel : Nat) (L : Array Bool) (G : Cx) (a : Act) (m : Nat), G0.Step G → L.size = l.length → left L.toList = fuel → Closed l (fun j => L.getD j false = true) → m ≤ l.length → (∀ j, ks[j]? = some 2 → (L.getD j false = true ↔ j < m)) → S8 N G a (fr (fun j => L.getD j false) 0 out F) ((sts ++ [σ']).getD m []) → wpAny P .any l.toArray (lift N G0 Q) fuel L a G.w := by
  obtain ⟨hlen, hF', hkl, hsl, _, hat⟩ := gsteps_at hs
  obtain ⟨hq, hq2⟩ := gOk_of hq
  unfold qOk at hq
  have hq' : ∀ j oj, l[j]? = some oj → (∀ e ∈ oj.after.toList, Region.binds .any e = true → e.on < j) ∧ ∀ i oi, i < j → l[i]? = some oi → clash l.toArray oi oj = true → ((masks l []).getD j 0).testBit i = true := by
    intro j oj hj
    have h1 := List.all_eq_true.1 hq j (by simpa using (List.getElem?_eq_some_iff.1 hj).1)
    rw [hj] at h1
    simp only [Bool.and_eq_true, List.all_eq_true] at h1
    refine ⟨fun e he hb => ?_, fun i oi hij hi hc => ?_⟩
    · have := h1.1 e he
      rw [hb] at this
      simpa [Nat.blt_eq] using this
    · have := h1.2 i (by simpa using hij)
      rw [hi] at this
      simpa [hc] using this
  have hsound : ∀ (D : Nat → Prop), Closed l D → ∀ j i, ((masks l []).getD j 0).testBit i = true → D j → D i := fun D hD => masks_sound hD l [] (fun j o h => by simpa using h) (fun j i h => by simp at h)
  have hnone : ∀ (L : Array Bool), L.size = l.length → Region.ready .any l.toArray L = [] → ∀ j, j < l.length → L.getD j false = true := by
    intro L hL hr j
    induction j using Nat.strongRecOn with
    | _ j ih =>
      intro hj
      cases hc : L.getD j false with
      | true => rfl
      | false =>
        exfalso
        obtain ⟨o, ho⟩ : ∃ o, l[j]? = some o := ⟨_, List.getElem?_eq_getElem hj⟩
        have hm : j ∈ Region.ready .any l.toArray L := by
          refine mem_ready.2 ⟨?_, o, by simpa using ho, fun e he hb => ?_⟩
          · have hlt : j < L.size := by omega
            simp [Array.getD_eq_getD_getElem?, hlt] at hc ⊢
            exact hc
          · have hon := (hq' j o ho).1 e (by simpa using he) hb
            exact ih e.on hon (by omega)
        rw [hr] at hm
        cases hm
  -- states without an effect between them are the same
  have hsame : ∀ (k n : Nat), n + k ≤ l.length → (∀ j, n ≤ j → j < n + k → ks[j]? ≠ some 2) → (sts ++ [σ']).getD (n + k) [] = (sts ++ [σ']).getD n [] := by
    intro k n hnk h
    induction k with
    | zero => rfl
    | succ k ihk =>
      rw [← ihk (by omega) (fun j h1 h2 => h j h1 (by omega))]
      obtain ⟨d, x, _, _, _, hc⟩ := hat (n + k) _ (List.getElem?_eq_getElem (by omega))
      have h2 := h (n + k) (by omega) (by omega)
      rcases hc with ⟨g1, g2, _⟩ | ⟨g1, g2, _⟩ | ⟨g1, _⟩
      · exact g2
      · exact g2
      · exact absurd g1 h2
  have hbetween : ∀ (m n : Nat), m ≤ l.length → n ≤ l.length → (∀ j, ks[j]? = some 2 → (j < m ↔ j < n)) → (sts ++ [σ']).getD m [] = (sts ++ [σ']).getD n [] := by
    intro m n hm hn h
    rcases Nat.le_total m n with h1 | h1
    · obtain ⟨k, rfl⟩ := Nat.exists_eq_add_of_le h1
      exact (hsame k m hn (fun j h2 h3 h4 => by have := h j h4; omega)).symm
    · obtain ⟨k, rfl⟩ := Nat.exists_eq_add_of_le h1
      exact hsame k n hm (fun j h2 h3 h4 => by have := h j h4; omega)
  -- when all have come up
  have hend : ∀ (L : Array Bool) (G : Cx) (a : Act) (m : Nat), G0.Step G → L.size = l.length → Region.ready .any l.toArray L = [] → m ≤ l.length → (∀ j, ks[j]? = some 2 → (L.getD j false = true ↔ j < m)) → S8 N G a (fr (fun j => L.getD j false) 0 out F) ((sts ++ [σ']).getD m []) → lift N G0 Q .normal a G.w := by
    intro L G a m hst hL hr hml hm h8
    have e1 : (sts ++ [σ']).getD m [] = σ' := by
      rw [hbetween m l.length hml (Nat.le_refl _) (fun j hj => by
        have hjl : j < l.length := by rw [← hkl]; exact (List.getElem?_eq_some_iff.1 hj).1
        have := (hm j hj).1 (hnone L hL hr j hjl)
        exact ⟨fun _ => hjl, fun _ => this⟩)]
      simp [List.getD, ← hsl]
    rw [e1] at h8
    refine ⟨G, F', σ', rfl, hst, ⟨h8.rel, fun t => ?_, h8.df, h8.nt⟩, hQ⟩
    have h1 := h8.fr t
    have h2 : (fr (fun j => L.getD j false) 0 out F).get t = (fr (fun j => decide (j < 0 + out.length)) 0 out F).get t := fr_congr out 0 F F rfl (fun j p hp _ => by
      have hj : j < out.length := (List.getElem?_eq_some_iff.1 hp).1
      simp only [Nat.zero_add]
      rw [hnone L hL hr j (by omega)]
      simp [hj])
    rw [h2, fr_pre, List.take_length, ← hF'] at h1
    exact h1
  intro fuel
  induction fuel with
  | zero =>
    intro L G a m hst hL hlf hcl hml hm h8
    have hr : Region.ready .any l.toArray L = [] := by
      rw [List.eq_nil_iff_forall_not_mem]
      intro i hi
      obtain ⟨h1, o, ho, _⟩ := mem_ready.1 hi
      have hlt : i < L.size := by rw [hL]; simpa using (Array.getElem?_eq_some_iff.1 ho).1
      have : 0 < left L.toList := left_pos i (by simp [Array.getD_eq_getD_getElem?, hlt] at h1 ⊢; exact h1)
      omega
    exact ⟨hr, hend L G a m hst hL hr hml hm h8⟩
  | succ fuel ih =>
    intro L G a m hst hL hlf hcl hml hm h8
    refine ⟨fun hr => hend L G a m hst hL hr hml hm h8, fun i hi => ?_⟩
    obtain ⟨h1, o, ho, hall⟩ := mem_ready.1 hi
    have hli : l[i]? = some o := by simpa using ho
    have hlt : i < L.size := by rw [hL]; exact (List.getElem?_eq_some_iff.1 hli).1
    have hfalse : L.getD i false = false := by simp [Array.getD_eq_getD_getElem?, hlt] at h1 ⊢; exact h1
    obtain ⟨d, x, g1, g2, g3, g4⟩ := hat i o hli
    -- the others that touch its slots: those before it have come up, those behind it have not
    have hcl' : Closed l (fun j => j = i ∨ L.getD j false = true) := by
      intro j oj hj hD e he hb
      rcases hD with rfl | hD
      · rw [hli] at hj; cases hj
        exact .inr (hall e (by simpa using he) hb)
      · exact .inr (hcl j oj hj hD e he hb)
    have hord : ∀ j oj, l[j]? = some oj → j ≠ i → (j < i → clash l.toArray oj o = true → L.getD j false = true) ∧ (i < j → clash l.toArray o oj = true → L.getD j false = false) := by
      intro j oj hj hne
      refine ⟨fun hji hc => ?_, fun hij hc => ?_⟩
      · rcases hsound _ hcl' i j ((hq' i o hli).2 j oj hji hj hc) (.inl rfl) with h | h
        · exact absurd h hne
        · exact h
      · cases hx : L.getD j false with
        | false => rfl
        | true =>
          have := hsound _ hcl j i ((hq' j oj hj).2 i o hij hli hc) hx
          rw [hfalse] at this
          cases this
    have hsel : ∀ t, t ∈ o.looksAt l.toArray → Frm.get ((out.take i).reverse ++ F) t = (fr (fun j => L.getD j false) 0 out F).get t := by
      intro t ht
      rw [← fr_pre out 0 i F]
      refine (fr_congr out 0 F F rfl (fun j p hp hpt => ?_)).symm
      simp only [Nat.zero_add]
      have hj : j < l.length := by rw [hlen]; exact (List.getElem?_eq_some_iff.1 hp).1
      obtain ⟨d', x', k1, k2, _⟩ := hat j _ (List.getElem?_eq_getElem hj)
      rw [k1] at hp
      cases hp
      dsimp only at hpt
      subst hpt
      by_cases hji : j = i
      · subst hji; rw [hfalse]; simp
      · rcases Nat.lt_or_gt_of_ne hji with h | h
        · rw [(hord j _ (List.getElem?_eq_getElem hj) hji).1 h (clash_of.1 k2 ht)]; simp [h]
        · rw [(hord j _ (List.getElem?_eq_getElem hj) hji).2 h (clash_of.2.2 k2 ht)]; simp; omega
    -- what is known behind it
    have hnext : ∀ (m' : Nat), m' ≤ l.length → (∀ j, ks[j]? = some 2 → ((L.setIfInBounds i true).getD j false = true ↔ j < m')) → ∀ (G' : Cx) (v : Value), G.Ext G' → Rel G' ((sts ++ [σ']).getD m' []) → Rep G' v x → wpAny P .any l.toArray (lift N G0 Q) fuel (L.setIfInBounds i true) (a.put (some d) v) G'.w := by
      intro m' hm'l hm' G' v he hr' hv
      refine ih _ G' _ m' (hst.trans he.step) (by simpa using hL) ?_ ?_ hm'l hm' ⟨hr', fun t => ?_, h8.df, by simp [Act.put, h8.nt]⟩
      · have := left_set L.toList i (by simp [Array.getD_eq_getD_getElem?, hlt] at hfalse ⊢; exact hfalse)
        rw [Array.toList_setIfInBounds]; omega
      · intro j oj hj hD e he2 hb
        have key : ∀ k, (L.setIfInBounds i true).getD k false = true ↔ (k = i ∨ L.getD k false = true) := fun k => by
          by_cases hk : i = k
          · subst hk; simp [Array.getD_eq_getD_getElem?, hlt]
          · simp [Array.getD_eq_getD_getElem?, Array.getElem?_setIfInBounds, hk, Ne.symm hk]
        rw [key] at hD ⊢
        exact hcl' j oj hj hD e he2 hb
      · have hselL : ∀ k, k ≠ i → (L.setIfInBounds i true).getD k false = L.getD k false := fun k hk => by
          simp [Array.getD_eq_getD_getElem?, Array.getElem?_setIfInBounds, Ne.symm hk]
        by_cases htd : t = d
        · subst htd
          have h2 : (fr (fun j => (L.setIfInBounds i true).getD j false) 0 out F).get t = x := fr_last out 0 F i g1 (by simp [Array.getD_eq_getD_getElem?, hlt]) (fun j p hp hij hc hpt => by
            simp only [Nat.zero_add] at hc
            rw [hselL j (by omega)] at hc
            have hj : j < l.length := by rw [hlen]; exact (List.getElem?_eq_some_iff.1 hp).1
            obtain ⟨d', x', k1, k2, _⟩ := hat j _ (List.getElem?_eq_getElem hj)
            rw [k1] at hp
            cases hp
            dsimp only at hpt
            subst hpt
            have := (hord j _ (List.getElem?_eq_getElem hj) (by omega)).2 hij (clash_of.2.1 g2 k2)
            rw [this] at hc
            cases hc)
          rw [h2]
          have : t < a.tmps.size := by rw [h8.nt]; exact g3
          simpa [Act.put, Array.getD_eq_getD_getElem?, this] using hv
        · have h2 : (fr (fun j => (L.setIfInBounds i true).getD j false) 0 out F).get t = (fr (fun j => L.getD j false) 0 out F).get t := fr_congr out 0 F F rfl (fun j p hp hpt => by
            simp only [Nat.zero_add]
            refine hselL j (fun e => ?_)
            subst e
            rw [g1] at hp
            cases hp
            exact htd hpt.symm)
          rw [h2]
          have := (h8.fr t).ext he
          simpa [Act.put, Array.getD_eq_getD_getElem?, Array.getElem?_setIfInBounds, Ne.symm htd] using this
    have hset : ∀ j, j ≠ i → ((L.setIfInBounds i true).getD j false = true ↔ L.getD j false = true) := fun j hj => by
      simp [Array.getD_eq_getD_getElem?, Array.getElem?_setIfInBounds, Ne.symm hj]
    have hseti : (L.setIfInBounds i true).getD i false = true := by simp [Array.getD_eq_getD_getElem?, hlt]
    have hil : i < l.length := (List.getElem?_eq_some_iff.1 hli).1
    have hkeep : ks[i]? ≠ some 2 → ∀ j, ks[j]? = some 2 → ((L.setIfInBounds i true).getD j false = true ↔ j < m) := fun hne j hj => by
      have : j ≠ i := fun e => hne (e ▸ hj)
      rw [hset j this]; exact hm j hj
    have heff : ∀ b, ks[i]? = some b → 1 ≤ b → ∀ j, ks[j]? = some 2 → (j < m ↔ j < i) := fun b hb h1b j hj => by
      have hjl : j < l.length := by rw [← hkl]; exact (List.getElem?_eq_some_iff.1 hj).1
      rw [← hm j hj]
      rcases Nat.lt_trichotomy j i with h | h | h
      · have h3 := hq2 j i 2 b h hil hj hb (by omega) h1b (.inl rfl)
        rcases hsound _ hcl' i j h3 (.inl rfl) with h4 | h4
        · omega
        · simp [h, h4]
      · subst h; rw [hfalse]; simp
      · have h3 := hq2 i j b 2 h hjl hb hj h1b (by omega) (.inr rfl)
        constructor
        · intro h4
          have := hsound _ hcl j i h3 h4
          rw [hfalse] at this; cases this
        · intro h4; omega
    unfold wpOp
    simp only [ho]
    rcases g4 with ⟨k0, ks0, ⟨k1, k2⟩ | ⟨k1, rfl⟩⟩ | ⟨k0, ks0, k1, k2⟩ | ⟨k0, k1, k2⟩
    · rw [if_pos ((k1.congr hsel).wanted h8.fr)]
      left
      refine ((k2 _).congr hsel) G a _ _ h8.rel (fun y _ => rep_eval h8.fr y) (fun v G' he hr' hv => ?_)
      rw [g2]
      exact hnext m hml (hkeep (by rw [k0]; simp)) G' v he hr' hv
    · rw [if_neg (by rw [(k1.congr hsel).wanted h8.fr]; simp)]
      rw [g2]
      exact hnext m hml (hkeep (by rw [k0]; simp)) G undef (.refl G) h8.rel (.s _)
    · rw [if_pos ((k1.congr hsel).wanted h8.fr)]
      left
      have e1 := hbetween m i hml (Nat.le_of_lt hil) (heff 1 k0 (by omega))
      have h8r := h8.rel
      rw [e1] at h8r
      refine (k2.congr hsel) G a _ _ h8r (fun y _ => rep_eval h8.fr y) (fun v G' he hr' hv => ?_)
      rw [g2]
      rw [← e1] at hr'
      exact hnext m hml (hkeep (by rw [k0]; simp)) G' v he hr' hv
    · rw [if_pos ((k1.congr hsel).wanted h8.fr)]
      left
      have hef := heff 2 k0 (by omega)
      have e1 := hbetween m i hml (Nat.le_of_lt hil) hef
      have h8r := h8.rel
      rw [e1] at h8r
      refine (k2.congr hsel) G a _ _ h8r (fun y _ => rep_eval h8.fr y) (fun v G' he hr' hv => ?_)
      rw [g2]
      refine hnext (i + 1) hil (fun j hj => ?_) G' v he hr' hv
      by_cases hji : j = i
      · subst hji; rw [hseti]; simp
      · rw [hset j hji, hm j hj, hef j hj]; omega


/-- a region with operations that change the store -/
def GX (P : Program) (N : Nat) (ops : Array Oper) (all : List Oper) (acc : List Nat) (l : List Oper) (F : Frm) (σ : List Ob) (K : Frm → List Ob → Prop) : Prop :=
  ∃ F' σ' out ks sts, GSteps P N ops l F σ F' σ' out ks sts ∧ gOk all (acc.reverse ++ ks) = true ∧ K F' σ'
variable {ops : Array Oper} {all : List Oper} {acc : List Nat} {K : Frm → List Ob → Prop}
theorem gx_nil (hk : gOk all acc.reverse = true) (h : K F σ) : GX P N ops all acc [] F σ K := ⟨F, σ, [], [], [], .nil F σ, by simpa using hk, h⟩
theorem gx_free {o : Oper} {d : Nat} {x : AV} (hd : o.dst = some d) (hN : Nat.blt d N = true) (hr : Runs ops F o true) (hD : ∀ σ, Does P o F σ x σ) (h : GX P N ops all (0 :: acc) l ((d, x) :: F) σ K) : GX P N ops all acc (o :: l) F σ K := by
  obtain ⟨F', σ', out, ks, sts, h1, h2, h3⟩ := h
  exact ⟨F', σ', _, _, _, .free o l F F' σ σ' x out ks sts d hd hN hr hD h1, by simpa using h2, h3⟩
theorem gx_skip {o : Oper} {d : Nat} (hd : o.dst = some d) (hN : Nat.blt d N = true) (hr : Runs ops F o false) (h : GX P N ops all (0 :: acc) l ((d, .s undef) :: F) σ K) : GX P N ops all acc (o :: l) F σ K := by
  obtain ⟨F', σ', out, ks, sts, h1, h2, h3⟩ := h
  exact ⟨F', σ', _, _, _, .skip o l F F' σ σ' out ks sts d hd hN hr h1, by simpa using h2, h3⟩
theorem gx_look {o : Oper} {d : Nat} {x : AV} (hd : o.dst = some d) (hN : Nat.blt d N = true) (hr : Runs ops F o true) (hD : Does P o F σ x σ) (h : GX P N ops all (1 :: acc) l ((d, x) :: F) σ K) : GX P N ops all acc (o :: l) F σ K := by
  obtain ⟨F', σ', out, ks, sts, h1, h2, h3⟩ := h
  exact ⟨F', σ', _, _, _, .look o l F F' σ σ' x out ks sts d hd hN hr hD h1, by simpa using h2, h3⟩
theorem gx_eff {o : Oper} {d : Nat} {x : AV} {σ1 : List Ob} (hd : o.dst = some d) (hN : Nat.blt d N = true) (hr : Runs ops F o true) (hD : Does P o F σ x σ1) (h : GX P N ops all (2 :: acc) l ((d, x) :: F) σ1 K) : GX P N ops all acc (o :: l) F σ K := by
  obtain ⟨F', σ', out, ks, sts, h1, h2, h3⟩ := h
  exact ⟨F', σ', _, _, _, .eff o l F F' σ σ1 σ' x out ks sts d hd hN hr hD h1, by simpa using h2, h3⟩
theorem adraw_gen (h : GX P N l.toArray l [] l F σ (fun F' σ' => Q .normal F' σ')) : ADraw P N l F σ Q := fun G a hs => by
  obtain ⟨F', σ', out, ks, sts, h1, h2, h4⟩ := h
  have hno : ∀ j, (Array.replicate l.length false).getD j false = false := fun j => by
    simp only [Array.getD_eq_getD_getElem?, Array.getElem?_replicate]
    split <;> rfl
  have h3 : ∀ (out : List (Nat × AV)) (k : Nat) (F : Frm), fr (fun j => (Array.replicate l.length false).getD j false) k out F = F := by
    intro out
    induction out with
    | nil => intro k F; rfl
    | cons p out ih =>
      intro k F
      have := hno k
      simp only [fr, this, cond_false]
      exact ih _ _
  refine gen_any (by simpa using h2) h1 h4 G l.length _ G a 0 (.refl G) (by simp) (by simp [left_rep]) ?_ (Nat.zero_le _) ?_ ?_
  · intro j o hj hD
    rw [hno] at hD
    cases hD
  · intro j hj
    rw [hno]; simp
  · rw [h3, (gsteps_at h1).2.2.2.2.1]; exact hs
end
end Go.Proofs.Ytmhbfoaecebobaa.Aw
end
