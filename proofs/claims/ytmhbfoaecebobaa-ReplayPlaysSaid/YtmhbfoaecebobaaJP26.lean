/-
  Texts joined: RPl. Conditions: none.
-/
import Derived.Test.YtmhbfoaecebobaaJP25
section
namespace Go.Proofs.Ytmhbfoaecebobaa.Aw
set_option linter.unusedSimpArgs false
set_option linter.unusedVariables false
open Go.RowKit Go.Proofs
variable {P : Program} [IsP P]

def eC (c : Cnt) : AV := .agg [eI c.p, eI c.c, eI c.m, eI c.r]
def ePl (r : Cnt × List Int × Int) : AV := .tup [eC r.1, eL eI r.2.1, eI r.2.2]
abbrev zC : AV := .agg [.s (.int .i64 0), .s (.int .i64 0), .s (.int .i64 0), .s (.int .i64 0)]
abbrev plF (n : Net) (l : List ByteArray) : Frm := [(1, eL eS l), (2, .ref (eN n).cells), (4, .ptr 0 4 0 0), (8, .ptr 1 11 0 0)]
abbrev plS (n : Net) (s : Pl) : List Ob := [.row 4 [zC], .row 11 [eR n s.m s]]
/-- nil in a struct of the call's own, as an empty finished slice -/
theorem wk_nilC {N : Nat} {F : Frm} {σ : List Ob} {id sz : Nat} {e e' : AV} {pre post : List AV} (hs : σ[id]? = some (.row sz [e])) (h1 : e.cells = pre ++ .s (.slice none 0 0) :: post) (h2 : e'.cells = pre ++ .sl [] :: post) :
    Weak N F σ F (σ.set id (.row sz [e'])) := fun G a h => by
  refine ⟨G, rfl, .refl G, ?_, h.fr, h.df, h.nt⟩
  refine reread_rel h.rel hs (fun h => by cases h) ?_
  rintro b f ⟨cur, t, fr, g1, g2, g3, g4⟩
  refine ⟨cur, t, fr, g1, g2, g3, fun k y hy => ?_⟩
  cases k with
  | succ k => simp at hy
  | zero =>
    simp at hy
    subst hy
    obtain ⟨k1, k2, k3⟩ := g4 0 e rfl
    rw [h1] at k1 k2 k3
    rw [h2]
    refine ⟨by simpa using k1, fun c hc => ?_, fun j c hc => ?_⟩
    · simp only [List.mem_append, List.mem_cons] at hc
      rcases hc with hc | rfl | hc
      · exact k2 c (by simp [hc])
      · rfl
      · exact k2 c (by simp [hc])
    · by_cases hj : j = pre.length
      · subst hj
        simp at hc
        subst hc
        obtain ⟨v, h6, h7⟩ := k3 pre.length (.s (.slice none 0 0)) (by simp)
        exact ⟨v, h6, rep_nil h7⟩
      · have e : (pre ++ AV.s (.slice none 0 0) :: post)[j]? = some c := by
          rw [← hc]
          by_cases hlt : j < pre.length
          · rw [List.getElem?_append_left hlt, List.getElem?_append_left hlt]
          · rw [List.getElem?_append_right (by omega), List.getElem?_append_right (by omega)]
            obtain ⟨i, hi⟩ : ∃ i, j - pre.length = i + 1 := ⟨j - pre.length - 1, by omega⟩
            rw [hi]; rfl
        exact k3 j c e
omit [IsP P] in
/-- a struct in a variable and two slots -/
theorem post3c {F : Frm} {σ : List Ob} {ad : Tmp} {ty : TypeId} {id sz k n bt : Nat} {z : Option Value} {ob : Ob} {cs : List AV} {e1 r : AV} {e : Exit} {t u : Nat} {x y x' y' : AV} (he : e = .normal ∨ e = .ret) (ha : tyAgg P ty = some true) (hi : tyInfo P ty = some (z, n, bt)) (hp : F.get ad = .ptr id sz k 0) (hs : σ[id]? = some ob) (ho : rowOf ob = some (sz, cs)) (hk : cs[k]? = some e1) (hn : e1.cells.length = n) (hr : .agg e1.cells = r)
    (ht : F.get t = x) (hu : F.get u = y) (hx : Fini σ x x') (hy : Fini σ y y') : APost P [.cell ad ty, .tmp t, .tmp u] (.tup [r, x', y']) e F σ :=
  ⟨he, [_, x, y], .cons _ _ _ _ (.cells ad ty id sz k n bt z ob cs e1 ha hi hp hs ho hk hn) (.cons _ _ _ _ (.tmp t x ht) (.cons _ _ _ _ (.tmp u y hu) .nil)), .tup _ _ rfl (FiniL.cons (by subst hr; exact .refl _) (FiniL.cons hx (FiniL.cons hy FiniL.nil))).2⟩
set_option maxHeartbeats 4000000 in
theorem rPlay_pf (n : Net) (l : List ByteArray) : Pure P 11 [eN n, eL eS l] (ePl (PlayE n l)) := by
  have hw := words_pf (P := P) n l
  have hWE : PlayE n l = if wordsE n l = 0 then endE n (playL n l (pl0 n)) else (⟨0, 0, 0, 0⟩, [], wordsE n l) := by
    unfold PlayE wordsE
    split
    · simp
    · split <;> simp
  have hW0 : wordsE n l = 0 → wfB n = true ∧ allN l = true ∧ l.length ≤ 200 := by
    unfold wordsE
    intro h
    split at h
    · cases h
    · rename_i h1
      split at h
      · cases h
      · rename_i h2
        simp at h1
        exact ⟨h1.1, h1.2, by omega⟩
  refine aw_fn (by rw [IsP.eq (P := P)]; exact Try.func11) rfl rfl rfl rfl rfl (by repeat' (first | exact Lo.s _ | exact Lo.emp | exact Lo.any | exact lo_nil | exact lo_nilE | refine lo_cons ?_ ?_ | refine lo_consE ?_ ?_ | refine lo_map ?_ | refine lo_mapE ?_ | refine Lo.cells ?_ | refine Lo.agg _ ?_ | refine Lo.ref _ ?_ | refine Lo.tup _ ?_ | refine Lo.fn _ _ ?_ | refine Lo.sl _ ?_ | intro _)) (by repeat' (first | exact Lo.s _ | exact Lo.emp | exact Lo.any | exact lo_nil | exact lo_nilE | refine lo_cons ?_ ?_ | refine lo_consE ?_ ?_ | refine lo_map ?_ | refine lo_mapE ?_ | refine Lo.cells ?_ | refine Lo.agg _ ?_ | refine Lo.ref _ ?_ | refine Lo.tup _ ?_ | refine Lo.fn _ _ ?_ | refine Lo.sl _ ?_ | intro _)) (by simp only [argF]; rfl) ?_
  repeat (first | refine aw_seq ?_ | refine ath_n ?_ | refine aw_skip ?_ | refine abl_n ?_ | refine aw_block ?_)
  refine aw_region ?_
  refine ops_op rfl rfl (runs_none rfl) (does_box rfl rfl rfl rfl) ?_
  refine aops_weak (wk_froz (id := 0) rfl) (aops_weak (wk_ref (d := 2) rfl rfl rfl) ?_)
  refine ops_op rfl rfl (runs_none rfl) (does_alloc rfl ti29 rfl rfl) ?_
  first | refine ops_op rfl rfl (runs_none rfl) (mv_own (.inr rfl) rfl) ?_ | refine ops_op rfl rfl (runs_none rfl) (mv_sl (.inr rfl) rfl) ?_ | refine ops_op rfl rfl (runs_none rfl) (mv_s (.inr rfl) rfl) ?_ | refine ops_op rfl rfl (runs_none rfl) (mv_emp (.inr rfl) rfl) ?_
  refine ops_op rfl rfl (runs_none rfl) (mv_s (.inr rfl) rfl) ?_
  refine ops_nil ?_
  repeat (first | refine aw_seq ?_ | refine ath_n ?_ | refine aw_skip ?_ | refine abl_n ?_ | refine aw_block ?_)
  refine aw_region ?_
  first | refine ops_op rfl rfl (runs_none rfl) (does_load_refw rfl ta24 ti24 rfl rfl) ?_ | refine ops_op rfl rfl (runs_none rfl) (does_load_whole rfl ta24 ti24 rfl rfl rfl rfl rfl) ?_ | refine ops_op rfl rfl (runs_none rfl) (does_load_refs rfl ta24 ti24 rfl (Nat.le_of_ble_eq_true rfl)) ?_ | refine ops_op rfl rfl (runs_none rfl) (does_load_ptrs rfl ta24 ti24 rfl rfl rfl rfl (Nat.le_of_ble_eq_true rfl)) ?_
  first | refine ops_op rfl rfl (runs_none rfl) (mv_own (.inl rfl) rfl) ?_ | refine ops_op rfl rfl (runs_none rfl) (mv_sl (.inl rfl) rfl) ?_ | refine ops_op rfl rfl (runs_none rfl) (mv_s (.inl rfl) rfl) ?_ | refine ops_op rfl rfl (runs_none rfl) (mv_emp (.inl rfl) rfl) ?_
  refine ops_op rfl rfl (runs_none rfl) (does_call rfl rfl (hw) (evc_cons rfl (evc_cons rfl evc_nil))) ?_
  refine ops_op rfl rfl (runs_none rfl) (mv_s (.inr rfl) rfl) ?_
  refine ops_nil ?_
  repeat (first | refine aw_seq ?_ | refine ath_n ?_ | refine aw_skip ?_ | refine abl_n ?_ | refine aw_block ?_)
  refine aw_region ?_
  refine ops_op rfl rfl (runs_none rfl) (mv_s (.inl rfl) rfl) ?_
  refine ops_op rfl rfl (runs_none rfl) (does_neq rfl rfl rfl) ?_
  refine ops_nil ?_
  repeat (first | refine aw_seq ?_ | refine ath_n ?_ | refine aw_skip ?_ | refine abl_n ?_ | refine aw_block ?_)
  refine aw_if rfl (fun h => ?_) (fun h => ?_)
  · rw [if_neg h] at hWE
    repeat (first | refine aw_seq ?_ | refine ath_n ?_ | refine aw_skip ?_ | refine abl_n ?_ | refine aw_block ?_)
    refine aw_region ?_
    refine ops_op rfl rfl (runs_none rfl) (does_build rfl ti29 tp29 rfl rfl) ?_
    refine ops_op rfl rfl (runs_none rfl) (mv_s (.inl rfl) rfl) ?_
    refine ops_eff rfl (runs_none rfl) (does_store rfl ti29 rfl rfl rfl rfl rfl rfl (by decide) (by decide)) ?_
    first | refine ops_op rfl rfl (runs_none rfl) (mv_own (.inr rfl) rfl) ?_ | refine ops_op rfl rfl (runs_none rfl) (mv_sl (.inr rfl) rfl) ?_ | refine ops_op rfl rfl (runs_none rfl) (mv_s (.inr rfl) rfl) ?_ | refine ops_op rfl rfl (runs_none rfl) (mv_emp (.inr rfl) rfl) ?_
    refine ops_op rfl rfl (runs_none rfl) (mv_s (.inr rfl) rfl) ?_
    refine ops_nil ?_
    repeat (first | refine aw_seq ?_ | refine ath_n ?_ | refine aw_skip ?_ | refine abl_n ?_ | refine aw_block ?_)
    (refine aw_ret ?_; repeat (first | refine ath_r ?_ | refine abl_r ?_))
    rw [hWE]
    show APost _ _ (.tup [eC ⟨0, 0, 0, 0⟩, .sl [], eI (wordsE n l)]) _ _ _
    apply post3c (.inr rfl)
    · exact ta29
    · exact ti29
    · exact rfl
    · exact rfl
    · exact rfl
    · exact rfl
    · exact rfl
    · exact rfl
    · exact rfl
    · exact rfl
    · exact .nil
    · exact .refl _
  · have h0 : wordsE n l = 0 := by simpa using h
    rw [if_pos h0] at hWE
    obtain ⟨hwf, hnames, hl200⟩ := hW0 h0
    have hval := (wfB_wf hwf).valid
    have hpl := validB_places hval
    have hends := validB_ends hval
    obtain ⟨hpm0, hsm0, hbig0⟩ := pl0_pm hval
    obtain ⟨ksr, hksr⟩ : ∃ k : Nat, n.source = k := ⟨n.source.toNat, by omega⟩
    have hone := rone_pf (P := P) n n.places.toNat ksr (by omega) (by omega) (by omega)
    rw [← hksr] at hone
    repeat (first | refine aw_seq ?_ | refine ath_n ?_ | refine aw_skip ?_ | refine abl_n ?_ | refine aw_block ?_)
    refine aw_draw hmix ?_
    refine adraw_lastT rfl (by kernel_rfl) ?_
    refine adraw_gen ?_
    simp only [List.dropLast]
    first | refine gx_free rfl rfl (runs_none rfl) (fun _ => (does_load_refw rfl ta24 ti24 rfl rfl)) ?_ | refine gx_look rfl rfl (runs_none rfl) (does_load_whole rfl ta24 ti24 rfl rfl rfl rfl rfl) ?_ | refine gx_free rfl rfl (runs_none rfl) (fun _ => (does_load_refs rfl ta24 ti24 rfl (Nat.le_of_ble_eq_true rfl))) ?_ | refine gx_look rfl rfl (runs_none rfl) (does_load_ptrs rfl ta24 ti24 rfl rfl rfl rfl (Nat.le_of_ble_eq_true rfl)) ?_
    first | refine gx_free rfl rfl (runs_none rfl) (fun _ => (does_load_refw rfl ta24 ti24 rfl rfl)) ?_ | refine gx_look rfl rfl (runs_none rfl) (does_load_whole rfl ta24 ti24 rfl rfl rfl rfl rfl) ?_ | refine gx_free rfl rfl (runs_none rfl) (fun _ => (does_load_refs rfl ta24 ti24 rfl (Nat.le_of_ble_eq_true rfl))) ?_ | refine gx_look rfl rfl (runs_none rfl) (does_load_ptrs rfl ta24 ti24 rfl rfl rfl rfl (Nat.le_of_ble_eq_true rfl)) ?_
    first | refine gx_free rfl rfl (runs_none rfl) (fun _ => (does_fieldAddr_ptr rfl tf24_2 (by decide) rfl)) ?_ | refine gx_free rfl rfl (runs_none rfl) (fun _ => (does_fieldAddr_ref rfl tf24_2 (by decide) rfl)) ?_
    first | refine gx_free rfl rfl (runs_none rfl) (fun _ => (does_load_ref rfl ta3 rfl)) ?_ | refine gx_look rfl rfl (runs_none rfl) (does_load_ptr rfl ta3 rfl rfl rfl rfl rfl) ?_
    refine gx_free rfl rfl (runs_none rfl) (fun _ => (does_call rfl rfl (hone) (evc_cons rfl (evc_cons rfl evc_nil)))) ?_
    refine gx_free rfl rfl (runs_none rfl) (fun _ => (does_build rfl ti29 tp29 rfl rfl)) ?_
    refine gx_free rfl rfl (runs_none rfl) (fun _ => (does_build rfl ti74 tp74 rfl rfl)) ?_
    refine gx_eff rfl rfl (runs_none rfl) (does_alloc rfl ti74 rfl rfl) ?_
    refine gx_nil (by kernel_rfl) ?_
    refine ath_n ?_
    refine ops_eff rfl (runs_none rfl) (does_store rfl ti74 rfl rfl rfl rfl rfl rfl (by decide) (by decide)) ?_
    refine ops_nil ?_
    repeat (first | refine aw_seq ?_ | refine ath_n ?_ | refine aw_skip ?_ | refine abl_n ?_ | refine aw_block ?_)
    refine aw_region ?_
    refine ops_op rfl rfl (runs_none rfl) (mv_s (.inr rfl) rfl) ?_
    refine ops_nil ?_
    repeat (first | refine aw_seq ?_ | refine ath_n ?_ | refine aw_skip ?_ | refine abl_n ?_ | refine aw_block ?_)
    refine aw_weak (wk_nilC (id := 2) (e' := eR n (pl0 n).m (pl0 n)) (pre := [eI n.places, eL eT n.trans, eI n.source, eI n.sink, eL eI (pl0 n).m, eI 1, eI 0, eI 0, eI 0]) (post := [eB false]) rfl rfl rfl) ?_
    refine aw_loops (S := Pl × Nat) (fun q => (9, eI q.2) :: plF n l) (fun q => plS n q.1) (fun q => q.2 ≤ l.length ∧ PM n q.1 ∧ Sm q.1 (1 + 200 * q.2) ∧ q.1.big = false ∧ playL n l (pl0 n) = playL n (l.drop q.2) q.1) (fun q => l.length - q.2) (pl0 n, 0)
      (wk_st [1, 2] (by decide) ⟨⟨_, rfl, .rowE (by repeat' (first | exact Lo.s _ | exact Lo.emp | exact Lo.any | exact lo_nil | exact lo_nilE | refine lo_cons ?_ ?_ | refine lo_consE ?_ ?_ | refine lo_map ?_ | refine lo_mapE ?_ | refine Lo.cells ?_ | refine Lo.agg _ ?_ | refine Lo.ref _ ?_ | refine Lo.tup _ ?_ | refine Lo.fn _ _ ?_ | refine Lo.sl _ ?_ | intro _)) rfl⟩, ⟨_, rfl, .rowE (by repeat' (first | exact Lo.s _ | exact Lo.emp | exact Lo.any | exact lo_nil | exact lo_nilE | refine lo_cons ?_ ?_ | refine lo_consE ?_ ?_ | refine lo_map ?_ | refine lo_mapE ?_ | refine Lo.cells ?_ | refine Lo.agg _ ?_ | refine Lo.ref _ ?_ | refine Lo.tup _ ?_ | refine Lo.fn _ _ ?_ | refine Lo.sl _ ?_ | intro _)) rfl⟩, trivial⟩ ⟨.lo _ (by repeat' (first | exact Lo.s _ | exact Lo.emp | exact Lo.any | exact lo_nil | exact lo_nilE | refine lo_cons ?_ ?_ | refine lo_consE ?_ ?_ | refine lo_map ?_ | refine lo_mapE ?_ | refine Lo.cells ?_ | refine Lo.agg _ ?_ | refine Lo.ref _ ?_ | refine Lo.tup _ ?_ | refine Lo.fn _ _ ?_ | refine Lo.sl _ ?_ | intro _)), .lo _ (by repeat' (first | exact Lo.s _ | exact Lo.emp | exact Lo.any | exact lo_nil | exact lo_nilE | refine lo_cons ?_ ?_ | refine lo_consE ?_ ?_ | refine lo_map ?_ | refine lo_mapE ?_ | refine Lo.cells ?_ | refine Lo.agg _ ?_ | refine Lo.ref _ ?_ | refine Lo.tup _ ?_ | refine Lo.fn _ _ ?_ | refine Lo.sl _ ?_ | intro _)), .lo _ (by repeat' (first | exact Lo.s _ | exact Lo.emp | exact Lo.any | exact lo_nil | exact lo_nilE | refine lo_cons ?_ ?_ | refine lo_consE ?_ ?_ | refine lo_map ?_ | refine lo_mapE ?_ | refine Lo.cells ?_ | refine Lo.agg _ ?_ | refine Lo.ref _ ?_ | refine Lo.tup _ ?_ | refine Lo.fn _ _ ?_ | refine Lo.sl _ ?_ | intro _)), .ptr 1 0 4 0 0 rfl, .ptr 2 1 11 0 0 rfl, trivial⟩) ⟨Nat.zero_le _, hpm0, hsm0, hbig0, rfl⟩ ?_
    rintro ⟨s, k⟩ ⟨hk, hpm, hsm, hbig, hE⟩
    dsimp only at hk hpm hsm hbig hE ⊢
    repeat (first | refine aw_seq ?_ | refine ath_n ?_ | refine aw_skip ?_ | refine abl_n ?_ | refine aw_block ?_)
    refine aw_region ?_
    refine ops_op rfl rfl (runs_none rfl) (mv_s (.inl rfl) rfl) ?_
    first | refine ops_op rfl rfl (runs_none rfl) (mv_own (.inl rfl) rfl) ?_ | refine ops_op rfl rfl (runs_none rfl) (mv_sl (.inl rfl) rfl) ?_ | refine ops_op rfl rfl (runs_none rfl) (mv_s (.inl rfl) rfl) ?_ | refine ops_op rfl rfl (runs_none rfl) (mv_emp (.inl rfl) rfl) ?_
    first | refine ops_op rfl rfl (runs_none rfl) (does_len_map rfl ts25 rfl) ?_ | refine ops_op rfl rfl (runs_none rfl) (does_len_sl rfl ts25 rfl) ?_ | refine ops_op rfl rfl (runs_none rfl) (does_len_own rfl ts25 rfl) ?_ | refine ops_op rfl rfl (runs_none rfl) (does_len_s rfl ts25 rfl) ?_ | refine ops_op rfl rfl (runs_none rfl) (does_len_emp rfl ts25 rfl) ?_
    refine ops_op rfl rfl (runs_none rfl) (does_lss rfl rfl rfl) ?_
    refine ops_nil ?_
    repeat (first | refine aw_seq ?_ | refine ath_n ?_ | refine aw_skip ?_ | refine abl_n ?_ | refine aw_block ?_)
    refine aw_if rfl (fun h => ?_) (fun h => ?_)
    · have hlt : k < l.length := by omega
      obtain ⟨act, hact⟩ : ∃ a, gti l k = a := ⟨_, rfl⟩
      have hne : act ≠ eBA := by
        intro e
        have h1 := hnames
        rw [allN_eq, List.all_eq_true] at h1
        have h2 := h1 _ (gti_mem hlt)
        rw [hact, e] at h2
        rw [nameB_false (s := eBA) (.inl (by decide))] at h2; cases h2
      have hmk := hpm.ok hbig
      have hse := search_pf (P := P) n s.m act (goodA n act) hmk hval (fun x _ => by rw [if_neg hne])
      have hla := labelled_pf (P := P) n act
      have hD : l.drop k = act :: l.drop (k + 1) := by rw [drop_gti hlt, hact]
      have hPL : playL n l (pl0 n) = if (playE n act s).big then none else playL n (l.drop (k + 1)) (playE n act s) := by rw [hE, hD]; rfl
      obtain ⟨hpmE, hsmE⟩ := play_pm (act := act) hval hpm hbig hsm
      have hEnd : ∀ sE, playE n act s = sE → sE.big = false → PM n sE ∧ Sm sE (1 + 200 * (k + 1)) ∧ playL n l (pl0 n) = playL n (l.drop (k + 1)) sE := by
        intro sE e hb
        subst e
        exact ⟨hpmE, hsmE.mono (by omega), by rw [hPL, hb]; rfl⟩
      have hBig : ∀ sE, playE n act s = sE → sE.big = true → PlayE n l = (⟨0, 0, 0, 0⟩, [], 6) := by
        intro sE e hb
        subst e
        rw [hWE, hPL, hb]; rfl
      subst hact
      repeat (first | refine aw_seq ?_ | refine ath_n ?_ | refine aw_skip ?_ | refine abl_n ?_ | refine aw_block ?_)
      cases hsil : silE n (goodA n (gti l k)) s.m with
      | some way =>
        rw [hsil] at hse
        obtain ⟨m', h1, h2, h3, h4⟩ := silE_some hmk hsil
        obtain ⟨a1, a2, a3, a4, a5⟩ := takeAll_run hval hpm hbig h1
        have hPE : playE n (gti l k) s = takeP n (enabledAt n (takeAll n way s).m (gti l k)) (takeAll n way s) := by unfold playE; rw [hsil]
        have hta := rtakeAll_pf (P := P) n s way hval (runTo_rg h1) hpm hsm (by omega)
        have hen := renabled_pf (P := P) n (takeAll n way s).m (gti l k) a1.nn (InOk.of hval a1.len)
        refine aw_draw hmix ?_
        refine adraw_quiet (by kernel_rfl) ?_
        first | refine qx_op rfl rfl (runs_none rfl) (does_load_refw rfl ta24 ti24 rfl rfl) ?_ | refine qx_op rfl rfl (runs_none rfl) (does_load_whole rfl ta24 ti24 rfl rfl rfl rfl rfl) ?_ | refine qx_op rfl rfl (runs_none rfl) (does_load_refs rfl ta24 ti24 rfl (Nat.le_of_ble_eq_true rfl)) ?_ | refine qx_op rfl rfl (runs_none rfl) (does_load_ptrs rfl ta24 ti24 rfl rfl rfl rfl (Nat.le_of_ble_eq_true rfl)) ?_
        first | refine qx_op rfl rfl (runs_none rfl) (does_fieldAddr_ptr rfl tf74_1 (by decide) rfl) ?_ | refine qx_op rfl rfl (runs_none rfl) (does_fieldAddr_ref rfl tf74_1 (by decide) rfl) ?_
        first | refine qx_op rfl rfl (runs_none rfl) (does_load_ref rfl ta30 rfl) ?_ | refine qx_op rfl rfl (runs_none rfl) (does_load_ptr rfl ta30 rfl rfl rfl rfl rfl) ?_
        first | refine qx_op rfl rfl (runs_none rfl) (mv_own (.inl rfl) rfl) ?_ | refine qx_op rfl rfl (runs_none rfl) (mv_sl (.inl rfl) rfl) ?_ | refine qx_op rfl rfl (runs_none rfl) (mv_s (.inl rfl) rfl) ?_ | refine qx_op rfl rfl (runs_none rfl) (mv_emp (.inl rfl) rfl) ?_
        refine qx_op rfl rfl (runs_none rfl) (mv_s (.inl rfl) rfl) ?_
        first | refine qx_op rfl rfl (runs_none rfl) (does_index_sl rfl ts25 ti9 rfl rfl rfl (ix_map hlt) rfl) ?_ | refine qx_op rfl rfl (runs_none rfl) (does_index_own rfl ts25 ti9 rfl rfl rfl (ix_map hlt)) ?_
        first | refine qx_op rfl rfl (runs_none rfl) (does_load_ref rfl ta9 rfl) ?_ | refine qx_op rfl rfl (runs_none rfl) (does_load_ptr rfl ta9 rfl rfl rfl rfl rfl) ?_
        refine qx_op rfl rfl (runs_none rfl) (does_call rfl rfl (hse) (evc_cons rfl (evc_cons rfl (evc_cons rfl evc_nil)))) ?_
        first | refine qx_op rfl rfl (runs_none rfl) (mv_tup (.inl rfl) rfl) ?_ | refine qx_op rfl rfl (runs_none rfl) (mv_s (.inl rfl) rfl) ?_
        refine qx_op rfl rfl (runs_none rfl) (does_extract rfl rfl rfl) ?_
        refine qx_op rfl rfl (runs_none rfl) (does_extract rfl rfl rfl) ?_
        first | refine qx_op rfl rfl (runs_none rfl) (mv_own (.inr rfl) rfl) ?_ | refine qx_op rfl rfl (runs_none rfl) (mv_sl (.inr rfl) rfl) ?_ | refine qx_op rfl rfl (runs_none rfl) (mv_s (.inr rfl) rfl) ?_ | refine qx_op rfl rfl (runs_none rfl) (mv_emp (.inr rfl) rfl) ?_
        refine qx_op rfl rfl (runs_none rfl) (mv_s (.inr rfl) rfl) ?_
        refine qx_nil ?_
        repeat (first | refine aw_seq ?_ | refine ath_n ?_ | refine aw_skip ?_ | refine abl_n ?_ | refine aw_block ?_)
        refine aw_draw hmix ?_
        refine adraw_quiet (by kernel_rfl) ?_
        first | refine qx_op rfl rfl (runs_none rfl) (does_load_refw rfl ta24 ti24 rfl rfl) ?_ | refine qx_op rfl rfl (runs_none rfl) (does_load_whole rfl ta24 ti24 rfl rfl rfl rfl rfl) ?_ | refine qx_op rfl rfl (runs_none rfl) (does_load_refs rfl ta24 ti24 rfl (Nat.le_of_ble_eq_true rfl)) ?_ | refine qx_op rfl rfl (runs_none rfl) (does_load_ptrs rfl ta24 ti24 rfl rfl rfl rfl (Nat.le_of_ble_eq_true rfl)) ?_
        first | refine qx_op rfl rfl (runs_none rfl) (mv_own (.inl rfl) rfl) ?_ | refine qx_op rfl rfl (runs_none rfl) (mv_sl (.inl rfl) rfl) ?_ | refine qx_op rfl rfl (runs_none rfl) (mv_s (.inl rfl) rfl) ?_ | refine qx_op rfl rfl (runs_none rfl) (mv_emp (.inl rfl) rfl) ?_
        refine qx_op rfl rfl (runs_none rfl) (mv_s (.inl rfl) rfl) ?_
        first | refine qx_op rfl rfl (runs_none rfl) (does_index_sl rfl ts25 ti9 rfl rfl rfl (ix_map hlt) rfl) ?_ | refine qx_op rfl rfl (runs_none rfl) (does_index_own rfl ts25 ti9 rfl rfl rfl (ix_map hlt)) ?_
        first | refine qx_op rfl rfl (runs_none rfl) (does_load_ref rfl ta9 rfl) ?_ | refine qx_op rfl rfl (runs_none rfl) (does_load_ptr rfl ta9 rfl rfl rfl rfl rfl) ?_
        refine qx_op rfl rfl (runs_none rfl) (does_call rfl rfl (hla) (evc_cons rfl (evc_cons rfl evc_nil))) ?_
        refine qx_op rfl rfl (runs_none rfl) (mv_s (.inr rfl) rfl) ?_
        refine qx_nil ?_
        repeat (first | refine aw_seq ?_ | refine ath_n ?_ | refine aw_skip ?_ | refine abl_n ?_ | refine aw_block ?_)
        refine aw_region ?_
        refine ops_op rfl rfl (runs_none rfl) (mv_s (.inl rfl) rfl) ?_
        refine ops_nil ?_
        repeat (first | refine aw_seq ?_ | refine ath_n ?_ | refine aw_skip ?_ | refine abl_n ?_ | refine aw_block ?_)
        refine aw_true rfl ?_
        repeat (first | refine aw_seq ?_ | refine ath_n ?_ | refine aw_skip ?_ | refine abl_n ?_ | refine aw_block ?_)
        refine aw_region ?_
        first | refine ops_op rfl rfl (runs_none rfl) (does_load_refw rfl ta74 ti74 rfl rfl) ?_ | refine ops_op rfl rfl (runs_none rfl) (does_load_whole rfl ta74 ti74 rfl rfl rfl rfl rfl) ?_ | refine ops_op rfl rfl (runs_none rfl) (does_load_refs rfl ta74 ti74 rfl (Nat.le_of_ble_eq_true rfl)) ?_ | refine ops_op rfl rfl (runs_none rfl) (does_load_ptrs rfl ta74 ti74 rfl rfl rfl rfl (Nat.le_of_ble_eq_true rfl)) ?_
        first | refine ops_op rfl rfl (runs_none rfl) (mv_own (.inl rfl) rfl) ?_ | refine ops_op rfl rfl (runs_none rfl) (mv_sl (.inl rfl) rfl) ?_ | refine ops_op rfl rfl (runs_none rfl) (mv_s (.inl rfl) rfl) ?_ | refine ops_op rfl rfl (runs_none rfl) (mv_emp (.inl rfl) rfl) ?_
        refine ops_op rfl rfl (runs_none rfl) (does_call rfl rfl (hta) (evc_cons rfl (evc_cons rfl evc_nil))) ?_
        refine ops_eff rfl (runs_none rfl) (does_store rfl ti74 rfl rfl rfl rfl rfl rfl (by decide) (by decide)) ?_
        refine ops_nil ?_
        repeat (first | refine aw_seq ?_ | refine ath_n ?_ | refine aw_skip ?_ | refine abl_n ?_ | refine aw_block ?_)
        refine aw_draw hmix ?_
        refine adraw_quiet (by kernel_rfl) ?_
        first | refine qx_op rfl rfl (runs_none rfl) (does_load_refw rfl ta24 ti24 rfl rfl) ?_ | refine qx_op rfl rfl (runs_none rfl) (does_load_whole rfl ta24 ti24 rfl rfl rfl rfl rfl) ?_ | refine qx_op rfl rfl (runs_none rfl) (does_load_refs rfl ta24 ti24 rfl (Nat.le_of_ble_eq_true rfl)) ?_ | refine qx_op rfl rfl (runs_none rfl) (does_load_ptrs rfl ta24 ti24 rfl rfl rfl rfl (Nat.le_of_ble_eq_true rfl)) ?_
        first | refine qx_op rfl rfl (runs_none rfl) (does_fieldAddr_ptr rfl tf74_1 (by decide) rfl) ?_ | refine qx_op rfl rfl (runs_none rfl) (does_fieldAddr_ref rfl tf74_1 (by decide) rfl) ?_
        first | refine qx_op rfl rfl (runs_none rfl) (does_load_ref rfl ta30 rfl) ?_ | refine qx_op rfl rfl (runs_none rfl) (does_load_ptr rfl ta30 rfl rfl rfl rfl rfl) ?_
        first | refine qx_op rfl rfl (runs_none rfl) (mv_own (.inl rfl) rfl) ?_ | refine qx_op rfl rfl (runs_none rfl) (mv_sl (.inl rfl) rfl) ?_ | refine qx_op rfl rfl (runs_none rfl) (mv_s (.inl rfl) rfl) ?_ | refine qx_op rfl rfl (runs_none rfl) (mv_emp (.inl rfl) rfl) ?_
        refine qx_op rfl rfl (runs_none rfl) (mv_s (.inl rfl) rfl) ?_
        first | refine qx_op rfl rfl (runs_none rfl) (does_index_sl rfl ts25 ti9 rfl rfl rfl (ix_map hlt) rfl) ?_ | refine qx_op rfl rfl (runs_none rfl) (does_index_own rfl ts25 ti9 rfl rfl rfl (ix_map hlt)) ?_
        first | refine qx_op rfl rfl (runs_none rfl) (does_load_ref rfl ta9 rfl) ?_ | refine qx_op rfl rfl (runs_none rfl) (does_load_ptr rfl ta9 rfl rfl rfl rfl rfl) ?_
        refine qx_op rfl rfl (runs_none rfl) (does_call rfl rfl (hen) (evc_cons rfl (evc_cons rfl (evc_cons rfl evc_nil)))) ?_
        refine qx_op rfl rfl (runs_none rfl) (mv_s (.inr rfl) rfl) ?_
        refine qx_nil ?_
        repeat (first | refine aw_seq ?_ | refine ath_n ?_ | refine aw_skip ?_ | refine abl_n ?_ | refine aw_block ?_)
        have hg : 0 ≤ enabledAt n (takeAll n way s).m (gti l k) := by rw [a2]; unfold goodA at h2; simpa using h2
        have hglt := firstAt_lt hg
        obtain ⟨t, ht⟩ : ∃ t : Nat, enabledAt n (takeAll n way s).m (gti l k) = t := ⟨(enabledAt n (takeAll n way s).m (gti l k)).toNat, by omega⟩
        have htl : t < n.trans.length := by unfold enabledAt at ht; omega
        have hsa := Sm.all hval hsm (runTo_rg h1)
        rw [ht] at hPE
        have htk := rtake_pf' (P := P) n (takeAll n way s) t hval htl a1 hsa (by omega)
        rw [ht]
        refine aw_region ?_
        refine ops_op rfl rfl (runs_none rfl) (mv_s (.inl rfl) rfl) ?_
        refine ops_op rfl rfl (runs_none rfl) (dec_t (by omega) (does_geq rfl rfl rfl)) ?_
        refine ops_nil ?_
        repeat (first | refine aw_seq ?_ | refine ath_n ?_ | refine aw_skip ?_ | refine abl_n ?_ | refine aw_block ?_)
        refine aw_true rfl ?_
        repeat (first | refine aw_seq ?_ | refine ath_n ?_ | refine aw_skip ?_ | refine abl_n ?_ | refine aw_block ?_)
        refine aw_region ?_
        first | refine ops_op rfl rfl (runs_none rfl) (does_load_refw rfl ta74 ti74 rfl rfl) ?_ | refine ops_op rfl rfl (runs_none rfl) (does_load_whole rfl ta74 ti74 rfl rfl rfl rfl rfl) ?_ | refine ops_op rfl rfl (runs_none rfl) (does_load_refs rfl ta74 ti74 rfl (Nat.le_of_ble_eq_true rfl)) ?_ | refine ops_op rfl rfl (runs_none rfl) (does_load_ptrs rfl ta74 ti74 rfl rfl rfl rfl (Nat.le_of_ble_eq_true rfl)) ?_
        refine ops_op rfl rfl (runs_none rfl) (mv_s (.inl rfl) rfl) ?_
        refine ops_op rfl rfl (runs_none rfl) (does_call rfl rfl (htk) (evc_cons rfl (evc_cons rfl evc_nil))) ?_
        refine ops_eff rfl (runs_none rfl) (does_store rfl ti74 rfl rfl rfl rfl rfl rfl (by decide) (by decide)) ?_
        refine ops_nil ?_
        repeat (first | refine aw_seq ?_ | refine ath_n ?_ | refine aw_skip ?_ | refine abl_n ?_ | refine aw_block ?_)
        generalize hsE : takeP n t (takeAll n way s) = sE at *
        have hEnd2 := hEnd sE hPE
        have hBig2 := hBig sE hPE
        refine aw_region ?_
        first | refine ops_op rfl rfl (runs_none rfl) (does_fieldAddr_ptr rfl tf74_4 (by decide) rfl) ?_ | refine ops_op rfl rfl (runs_none rfl) (does_fieldAddr_ref rfl tf74_4 (by decide) rfl) ?_
        first | refine ops_op rfl rfl (runs_none rfl) (does_load_ref rfl ta4 rfl) ?_ | refine ops_op rfl rfl (runs_none rfl) (does_load_ptr rfl ta4 rfl rfl rfl rfl rfl) ?_
        refine ops_nil ?_
        repeat (first | refine aw_seq ?_ | refine ath_n ?_ | refine aw_skip ?_ | refine abl_n ?_ | refine aw_block ?_)
        refine aw_cond rfl (fun hb => ?_) (fun hb => ?_)
        · repeat (first | refine aw_seq ?_ | refine ath_n ?_ | refine aw_skip ?_ | refine abl_n ?_ | refine aw_block ?_)
          refine aw_region ?_
          refine ops_op rfl rfl (runs_none rfl) (does_build rfl ti29 tp29 rfl rfl) ?_
          refine ops_eff rfl (runs_none rfl) (does_store rfl ti29 rfl rfl rfl rfl rfl rfl (by decide) (by decide)) ?_
          first | refine ops_op rfl rfl (runs_none rfl) (mv_own (.inr rfl) rfl) ?_ | refine ops_op rfl rfl (runs_none rfl) (mv_sl (.inr rfl) rfl) ?_ | refine ops_op rfl rfl (runs_none rfl) (mv_s (.inr rfl) rfl) ?_ | refine ops_op rfl rfl (runs_none rfl) (mv_emp (.inr rfl) rfl) ?_
          refine ops_op rfl rfl (runs_none rfl) (mv_s (.inr rfl) rfl) ?_
          refine ops_nil ?_
          repeat (first | refine aw_seq ?_ | refine ath_n ?_ | refine aw_skip ?_ | refine abl_n ?_ | refine aw_block ?_)
          (refine aw_ret ?_; repeat (first | refine ath_r ?_ | refine abl_r ?_))
          rw [hBig2 hb]
          show APost _ _ (.tup [eC ⟨0, 0, 0, 0⟩, .sl [], eI 6]) _ _ _
          apply post3c (.inr rfl)
          · exact ta29
          · exact ti29
          · exact rfl
          · exact rfl
          · exact rfl
          · exact rfl
          · exact rfl
          · exact rfl
          · exact rfl
          · exact rfl
          · exact .nil
          · exact .refl _
        · repeat (first | refine aw_seq ?_ | refine ath_n ?_ | refine aw_skip ?_ | refine abl_n ?_ | refine aw_block ?_)
          refine aw_region ?_
          refine ops_op rfl rfl (runs_none rfl) (mv_s (.inl rfl) rfl) ?_
          refine ops_op rfl rfl (runs_none rfl) (does_add rfl rfl rfl (IntWalk.i64_in _ (by omega))) ?_
          refine ops_op rfl rfl (runs_none rfl) (mv_s (.inr rfl) rfl) ?_
          refine ops_nil ?_
          repeat (first | refine aw_seq ?_ | refine ath_n ?_ | refine aw_skip ?_ | refine abl_n ?_ | refine aw_block ?_)
          obtain ⟨e1, e2, e3⟩ := hEnd2 hb
          exact ⟨(sE, k + 1), ⟨hlt, e1, e2, hb, e3⟩, by dsimp only; omega, wk_st [0, 1] (by decide) ⟨⟨_, rfl, .rowE (by repeat' (first | exact Lo.s _ | exact Lo.emp | exact Lo.any | exact lo_nil | exact lo_nilE | refine lo_cons ?_ ?_ | refine lo_consE ?_ ?_ | refine lo_map ?_ | refine lo_mapE ?_ | refine Lo.cells ?_ | refine Lo.agg _ ?_ | refine Lo.ref _ ?_ | refine Lo.tup _ ?_ | refine Lo.fn _ _ ?_ | refine Lo.sl _ ?_ | intro _)) rfl⟩, ⟨_, rfl, .rowE (by repeat' (first | exact Lo.s _ | exact Lo.emp | exact Lo.any | exact lo_nil | exact lo_nilE | refine lo_cons ?_ ?_ | refine lo_consE ?_ ?_ | refine lo_map ?_ | refine lo_mapE ?_ | refine Lo.cells ?_ | refine Lo.agg _ ?_ | refine Lo.ref _ ?_ | refine Lo.tup _ ?_ | refine Lo.fn _ _ ?_ | refine Lo.sl _ ?_ | intro _)) rfl⟩, trivial⟩ ⟨.lo _ (by repeat' (first | exact Lo.s _ | exact Lo.emp | exact Lo.any | exact lo_nil | exact lo_nilE | refine lo_cons ?_ ?_ | refine lo_consE ?_ ?_ | refine lo_map ?_ | refine lo_mapE ?_ | refine Lo.cells ?_ | refine Lo.agg _ ?_ | refine Lo.ref _ ?_ | refine Lo.tup _ ?_ | refine Lo.fn _ _ ?_ | refine Lo.sl _ ?_ | intro _)), .lo _ (by repeat' (first | exact Lo.s _ | exact Lo.emp | exact Lo.any | exact lo_nil | exact lo_nilE | refine lo_cons ?_ ?_ | refine lo_consE ?_ ?_ | refine lo_map ?_ | refine lo_mapE ?_ | refine Lo.cells ?_ | refine Lo.agg _ ?_ | refine Lo.ref _ ?_ | refine Lo.tup _ ?_ | refine Lo.fn _ _ ?_ | refine Lo.sl _ ?_ | intro _)), .lo _ (by repeat' (first | exact Lo.s _ | exact Lo.emp | exact Lo.any | exact lo_nil | exact lo_nilE | refine lo_cons ?_ ?_ | refine lo_consE ?_ ?_ | refine lo_map ?_ | refine lo_mapE ?_ | refine Lo.cells ?_ | refine Lo.agg _ ?_ | refine Lo.ref _ ?_ | refine Lo.tup _ ?_ | refine Lo.fn _ _ ?_ | refine Lo.sl _ ?_ | intro _)), .ptr 0 0 4 0 0 rfl, .ptr 1 1 11 0 0 rfl, trivial⟩⟩
      | none =>
        rw [hsil] at hse
        have hsm1 := hpm.small
        refine aw_draw hmix ?_
        refine adraw_quiet (by kernel_rfl) ?_
        first | refine qx_op rfl rfl (runs_none rfl) (does_load_refw rfl ta24 ti24 rfl rfl) ?_ | refine qx_op rfl rfl (runs_none rfl) (does_load_whole rfl ta24 ti24 rfl rfl rfl rfl rfl) ?_ | refine qx_op rfl rfl (runs_none rfl) (does_load_refs rfl ta24 ti24 rfl (Nat.le_of_ble_eq_true rfl)) ?_ | refine qx_op rfl rfl (runs_none rfl) (does_load_ptrs rfl ta24 ti24 rfl rfl rfl rfl (Nat.le_of_ble_eq_true rfl)) ?_
        first | refine qx_op rfl rfl (runs_none rfl) (does_fieldAddr_ptr rfl tf74_1 (by decide) rfl) ?_ | refine qx_op rfl rfl (runs_none rfl) (does_fieldAddr_ref rfl tf74_1 (by decide) rfl) ?_
        first | refine qx_op rfl rfl (runs_none rfl) (does_load_ref rfl ta30 rfl) ?_ | refine qx_op rfl rfl (runs_none rfl) (does_load_ptr rfl ta30 rfl rfl rfl rfl rfl) ?_
        first | refine qx_op rfl rfl (runs_none rfl) (mv_own (.inl rfl) rfl) ?_ | refine qx_op rfl rfl (runs_none rfl) (mv_sl (.inl rfl) rfl) ?_ | refine qx_op rfl rfl (runs_none rfl) (mv_s (.inl rfl) rfl) ?_ | refine qx_op rfl rfl (runs_none rfl) (mv_emp (.inl rfl) rfl) ?_
        refine qx_op rfl rfl (runs_none rfl) (mv_s (.inl rfl) rfl) ?_
        first | refine qx_op rfl rfl (runs_none rfl) (does_index_sl rfl ts25 ti9 rfl rfl rfl (ix_map hlt) rfl) ?_ | refine qx_op rfl rfl (runs_none rfl) (does_index_own rfl ts25 ti9 rfl rfl rfl (ix_map hlt)) ?_
        first | refine qx_op rfl rfl (runs_none rfl) (does_load_ref rfl ta9 rfl) ?_ | refine qx_op rfl rfl (runs_none rfl) (does_load_ptr rfl ta9 rfl rfl rfl rfl rfl) ?_
        refine qx_op rfl rfl (runs_none rfl) (does_call rfl rfl (hse) (evc_cons rfl (evc_cons rfl (evc_cons rfl evc_nil)))) ?_
        first | refine qx_op rfl rfl (runs_none rfl) (mv_tup (.inl rfl) rfl) ?_ | refine qx_op rfl rfl (runs_none rfl) (mv_s (.inl rfl) rfl) ?_
        refine qx_op rfl rfl (runs_none rfl) (does_extract rfl rfl rfl) ?_
        refine qx_op rfl rfl (runs_none rfl) (does_extract rfl rfl rfl) ?_
        first | refine qx_op rfl rfl (runs_none rfl) (mv_own (.inr rfl) rfl) ?_ | refine qx_op rfl rfl (runs_none rfl) (mv_sl (.inr rfl) rfl) ?_ | refine qx_op rfl rfl (runs_none rfl) (mv_s (.inr rfl) rfl) ?_ | refine qx_op rfl rfl (runs_none rfl) (mv_emp (.inr rfl) rfl) ?_
        refine qx_op rfl rfl (runs_none rfl) (mv_s (.inr rfl) rfl) ?_
        refine qx_nil ?_
        repeat (first | refine aw_seq ?_ | refine ath_n ?_ | refine aw_skip ?_ | refine abl_n ?_ | refine aw_block ?_)
        refine aw_draw hmix ?_
        refine adraw_quiet (by kernel_rfl) ?_
        first | refine qx_op rfl rfl (runs_none rfl) (does_load_refw rfl ta24 ti24 rfl rfl) ?_ | refine qx_op rfl rfl (runs_none rfl) (does_load_whole rfl ta24 ti24 rfl rfl rfl rfl rfl) ?_ | refine qx_op rfl rfl (runs_none rfl) (does_load_refs rfl ta24 ti24 rfl (Nat.le_of_ble_eq_true rfl)) ?_ | refine qx_op rfl rfl (runs_none rfl) (does_load_ptrs rfl ta24 ti24 rfl rfl rfl rfl (Nat.le_of_ble_eq_true rfl)) ?_
        first | refine qx_op rfl rfl (runs_none rfl) (mv_own (.inl rfl) rfl) ?_ | refine qx_op rfl rfl (runs_none rfl) (mv_sl (.inl rfl) rfl) ?_ | refine qx_op rfl rfl (runs_none rfl) (mv_s (.inl rfl) rfl) ?_ | refine qx_op rfl rfl (runs_none rfl) (mv_emp (.inl rfl) rfl) ?_
        refine qx_op rfl rfl (runs_none rfl) (mv_s (.inl rfl) rfl) ?_
        first | refine qx_op rfl rfl (runs_none rfl) (does_index_sl rfl ts25 ti9 rfl rfl rfl (ix_map hlt) rfl) ?_ | refine qx_op rfl rfl (runs_none rfl) (does_index_own rfl ts25 ti9 rfl rfl rfl (ix_map hlt)) ?_
        first | refine qx_op rfl rfl (runs_none rfl) (does_load_ref rfl ta9 rfl) ?_ | refine qx_op rfl rfl (runs_none rfl) (does_load_ptr rfl ta9 rfl rfl rfl rfl rfl) ?_
        refine qx_op rfl rfl (runs_none rfl) (does_call rfl rfl (hla) (evc_cons rfl (evc_cons rfl evc_nil))) ?_
        refine qx_op rfl rfl (runs_none rfl) (mv_s (.inr rfl) rfl) ?_
        refine qx_nil ?_
        repeat (first | refine aw_seq ?_ | refine ath_n ?_ | refine aw_skip ?_ | refine abl_n ?_ | refine aw_block ?_)
        refine aw_region ?_
        refine ops_op rfl rfl (runs_none rfl) (mv_s (.inl rfl) rfl) ?_
        refine ops_nil ?_
        repeat (first | refine aw_seq ?_ | refine ath_n ?_ | refine aw_skip ?_ | refine abl_n ?_ | refine aw_block ?_)
        refine aw_false rfl ?_
        repeat (first | refine aw_seq ?_ | refine ath_n ?_ | refine aw_skip ?_ | refine abl_n ?_ | refine aw_block ?_)
        by_cases hl0 : 0 ≤ labAt n (gti l k)
        · have hglt := firstAt_lt hl0
          obtain ⟨t, ht⟩ : ∃ t : Nat, labAt n (gti l k) = t := ⟨(labAt n (gti l k)).toNat, by omega⟩
          have htl : t < n.trans.length := by unfold labAt at ht; omega
          have hPE : playE n (gti l k) s = takeP n t s := by unfold playE; rw [hsil]; simp only; rw [if_pos hl0, ht]
          have htk := rtake_pf' (P := P) n s t hval htl hpm hsm (by omega)
          rw [ht]
          refine aw_region ?_
          refine ops_op rfl rfl (runs_none rfl) (mv_s (.inl rfl) rfl) ?_
          refine ops_op rfl rfl (runs_none rfl) (dec_t (by omega) (does_geq rfl rfl rfl)) ?_
          refine ops_nil ?_
          repeat (first | refine aw_seq ?_ | refine ath_n ?_ | refine aw_skip ?_ | refine abl_n ?_ | refine aw_block ?_)
          refine aw_true rfl ?_
          repeat (first | refine aw_seq ?_ | refine ath_n ?_ | refine aw_skip ?_ | refine abl_n ?_ | refine aw_block ?_)
          refine aw_region ?_
          first | refine ops_op rfl rfl (runs_none rfl) (does_load_refw rfl ta74 ti74 rfl rfl) ?_ | refine ops_op rfl rfl (runs_none rfl) (does_load_whole rfl ta74 ti74 rfl rfl rfl rfl rfl) ?_ | refine ops_op rfl rfl (runs_none rfl) (does_load_refs rfl ta74 ti74 rfl (Nat.le_of_ble_eq_true rfl)) ?_ | refine ops_op rfl rfl (runs_none rfl) (does_load_ptrs rfl ta74 ti74 rfl rfl rfl rfl (Nat.le_of_ble_eq_true rfl)) ?_
          refine ops_op rfl rfl (runs_none rfl) (mv_s (.inl rfl) rfl) ?_
          refine ops_op rfl rfl (runs_none rfl) (does_call rfl rfl (htk) (evc_cons rfl (evc_cons rfl evc_nil))) ?_
          refine ops_eff rfl (runs_none rfl) (does_store rfl ti74 rfl rfl rfl rfl rfl rfl (by decide) (by decide)) ?_
          refine ops_nil ?_
          repeat (first | refine aw_seq ?_ | refine ath_n ?_ | refine aw_skip ?_ | refine abl_n ?_ | refine aw_block ?_)
          generalize hsE : takeP n t s = sE at *
          have hEnd2 := hEnd sE hPE
          have hBig2 := hBig sE hPE
          refine aw_region ?_
          first | refine ops_op rfl rfl (runs_none rfl) (does_fieldAddr_ptr rfl tf74_4 (by decide) rfl) ?_ | refine ops_op rfl rfl (runs_none rfl) (does_fieldAddr_ref rfl tf74_4 (by decide) rfl) ?_
          first | refine ops_op rfl rfl (runs_none rfl) (does_load_ref rfl ta4 rfl) ?_ | refine ops_op rfl rfl (runs_none rfl) (does_load_ptr rfl ta4 rfl rfl rfl rfl rfl) ?_
          refine ops_nil ?_
          repeat (first | refine aw_seq ?_ | refine ath_n ?_ | refine aw_skip ?_ | refine abl_n ?_ | refine aw_block ?_)
          refine aw_cond rfl (fun hb => ?_) (fun hb => ?_)
          · repeat (first | refine aw_seq ?_ | refine ath_n ?_ | refine aw_skip ?_ | refine abl_n ?_ | refine aw_block ?_)
            refine aw_region ?_
            refine ops_op rfl rfl (runs_none rfl) (does_build rfl ti29 tp29 rfl rfl) ?_
            refine ops_eff rfl (runs_none rfl) (does_store rfl ti29 rfl rfl rfl rfl rfl rfl (by decide) (by decide)) ?_
            first | refine ops_op rfl rfl (runs_none rfl) (mv_own (.inr rfl) rfl) ?_ | refine ops_op rfl rfl (runs_none rfl) (mv_sl (.inr rfl) rfl) ?_ | refine ops_op rfl rfl (runs_none rfl) (mv_s (.inr rfl) rfl) ?_ | refine ops_op rfl rfl (runs_none rfl) (mv_emp (.inr rfl) rfl) ?_
            refine ops_op rfl rfl (runs_none rfl) (mv_s (.inr rfl) rfl) ?_
            refine ops_nil ?_
            repeat (first | refine aw_seq ?_ | refine ath_n ?_ | refine aw_skip ?_ | refine abl_n ?_ | refine aw_block ?_)
            (refine aw_ret ?_; repeat (first | refine ath_r ?_ | refine abl_r ?_))
            rw [hBig2 hb]
            show APost _ _ (.tup [eC ⟨0, 0, 0, 0⟩, .sl [], eI 6]) _ _ _
            apply post3c (.inr rfl)
            · exact ta29
            · exact ti29
            · exact rfl
            · exact rfl
            · exact rfl
            · exact rfl
            · exact rfl
            · exact rfl
            · exact rfl
            · exact rfl
            · exact .nil
            · exact .refl _
          · repeat (first | refine aw_seq ?_ | refine ath_n ?_ | refine aw_skip ?_ | refine abl_n ?_ | refine aw_block ?_)
            refine aw_region ?_
            refine ops_op rfl rfl (runs_none rfl) (mv_s (.inl rfl) rfl) ?_
            refine ops_op rfl rfl (runs_none rfl) (does_add rfl rfl rfl (IntWalk.i64_in _ (by omega))) ?_
            refine ops_op rfl rfl (runs_none rfl) (mv_s (.inr rfl) rfl) ?_
            refine ops_nil ?_
            repeat (first | refine aw_seq ?_ | refine ath_n ?_ | refine aw_skip ?_ | refine abl_n ?_ | refine aw_block ?_)
            obtain ⟨e1, e2, e3⟩ := hEnd2 hb
            exact ⟨(sE, k + 1), ⟨hlt, e1, e2, hb, e3⟩, by dsimp only; omega, wk_st [0, 1] (by decide) ⟨⟨_, rfl, .rowE (by repeat' (first | exact Lo.s _ | exact Lo.emp | exact Lo.any | exact lo_nil | exact lo_nilE | refine lo_cons ?_ ?_ | refine lo_consE ?_ ?_ | refine lo_map ?_ | refine lo_mapE ?_ | refine Lo.cells ?_ | refine Lo.agg _ ?_ | refine Lo.ref _ ?_ | refine Lo.tup _ ?_ | refine Lo.fn _ _ ?_ | refine Lo.sl _ ?_ | intro _)) rfl⟩, ⟨_, rfl, .rowE (by repeat' (first | exact Lo.s _ | exact Lo.emp | exact Lo.any | exact lo_nil | exact lo_nilE | refine lo_cons ?_ ?_ | refine lo_consE ?_ ?_ | refine lo_map ?_ | refine lo_mapE ?_ | refine Lo.cells ?_ | refine Lo.agg _ ?_ | refine Lo.ref _ ?_ | refine Lo.tup _ ?_ | refine Lo.fn _ _ ?_ | refine Lo.sl _ ?_ | intro _)) rfl⟩, trivial⟩ ⟨.lo _ (by repeat' (first | exact Lo.s _ | exact Lo.emp | exact Lo.any | exact lo_nil | exact lo_nilE | refine lo_cons ?_ ?_ | refine lo_consE ?_ ?_ | refine lo_map ?_ | refine lo_mapE ?_ | refine Lo.cells ?_ | refine Lo.agg _ ?_ | refine Lo.ref _ ?_ | refine Lo.tup _ ?_ | refine Lo.fn _ _ ?_ | refine Lo.sl _ ?_ | intro _)), .lo _ (by repeat' (first | exact Lo.s _ | exact Lo.emp | exact Lo.any | exact lo_nil | exact lo_nilE | refine lo_cons ?_ ?_ | refine lo_consE ?_ ?_ | refine lo_map ?_ | refine lo_mapE ?_ | refine Lo.cells ?_ | refine Lo.agg _ ?_ | refine Lo.ref _ ?_ | refine Lo.tup _ ?_ | refine Lo.fn _ _ ?_ | refine Lo.sl _ ?_ | intro _)), .lo _ (by repeat' (first | exact Lo.s _ | exact Lo.emp | exact Lo.any | exact lo_nil | exact lo_nilE | refine lo_cons ?_ ?_ | refine lo_consE ?_ ?_ | refine lo_map ?_ | refine lo_mapE ?_ | refine Lo.cells ?_ | refine Lo.agg _ ?_ | refine Lo.ref _ ?_ | refine Lo.tup _ ?_ | refine Lo.fn _ _ ?_ | refine Lo.sl _ ?_ | intro _)), .ptr 0 0 4 0 0 rfl, .ptr 1 1 11 0 0 rfl, trivial⟩⟩
        · have hPE : playE n (gti l k) s = ⟨s.m, ⟨s.c.p + 1, s.c.c + 1, s.c.m + 1, s.c.r + 1⟩, s.run, s.big⟩ := by unfold playE; rw [hsil]; simp only; rw [if_neg hl0]
          have b1 := hsm.p
          have b2 := hsm.c
          have b3 := hsm.r
          have b4 := hpm.mc
          have b5 := hpm.c0
          have b6 := hpm.r0
          obtain ⟨e1, e2, e3⟩ := hEnd _ hPE hbig
          refine aw_region ?_
          refine ops_op rfl rfl (runs_none rfl) (mv_s (.inl rfl) rfl) ?_
          refine ops_op rfl rfl (runs_none rfl) (dec_f hl0 (does_geq rfl rfl rfl)) ?_
          refine ops_nil ?_
          repeat (first | refine aw_seq ?_ | refine ath_n ?_ | refine aw_skip ?_ | refine abl_n ?_ | refine aw_block ?_)
          refine aw_false rfl ?_
          repeat (first | refine aw_seq ?_ | refine ath_n ?_ | refine aw_skip ?_ | refine abl_n ?_ | refine aw_block ?_)
          refine aw_region ?_
          first | refine ops_op rfl rfl (runs_none rfl) (does_fieldAddr_ptr rfl tf74_2 (by decide) rfl) ?_ | refine ops_op rfl rfl (runs_none rfl) (does_fieldAddr_ref rfl tf74_2 (by decide) rfl) ?_
          first | refine ops_op rfl rfl (runs_none rfl) (does_fieldAddr_ptr rfl tf29_0 (by decide) rfl) ?_ | refine ops_op rfl rfl (runs_none rfl) (does_fieldAddr_ref rfl tf29_0 (by decide) rfl) ?_
          first | refine ops_op rfl rfl (runs_none rfl) (does_load_ref rfl ta3 rfl) ?_ | refine ops_op rfl rfl (runs_none rfl) (does_load_ptr rfl ta3 rfl rfl rfl rfl rfl) ?_
          refine ops_op rfl rfl (runs_none rfl) (does_add rfl rfl rfl (IntWalk.i64_in _ (by omega))) ?_
          first | refine ops_op rfl rfl (runs_none rfl) (does_fieldAddr_ptr rfl tf74_2 (by decide) rfl) ?_ | refine ops_op rfl rfl (runs_none rfl) (does_fieldAddr_ref rfl tf74_2 (by decide) rfl) ?_
          first | refine ops_op rfl rfl (runs_none rfl) (does_fieldAddr_ptr rfl tf29_0 (by decide) rfl) ?_ | refine ops_op rfl rfl (runs_none rfl) (does_fieldAddr_ref rfl tf29_0 (by decide) rfl) ?_
          refine ops_eff rfl (runs_none rfl) (does_store rfl ti3 rfl rfl rfl rfl rfl rfl (by decide) (by decide)) ?_
          refine ops_nil ?_
          repeat (first | refine aw_seq ?_ | refine ath_n ?_ | refine aw_skip ?_ | refine abl_n ?_ | refine aw_block ?_)
          refine aw_region ?_
          first | refine ops_op rfl rfl (runs_none rfl) (does_fieldAddr_ptr rfl tf74_2 (by decide) rfl) ?_ | refine ops_op rfl rfl (runs_none rfl) (does_fieldAddr_ref rfl tf74_2 (by decide) rfl) ?_
          first | refine ops_op rfl rfl (runs_none rfl) (does_fieldAddr_ptr rfl tf29_1 (by decide) rfl) ?_ | refine ops_op rfl rfl (runs_none rfl) (does_fieldAddr_ref rfl tf29_1 (by decide) rfl) ?_
          first | refine ops_op rfl rfl (runs_none rfl) (does_load_ref rfl ta3 rfl) ?_ | refine ops_op rfl rfl (runs_none rfl) (does_load_ptr rfl ta3 rfl rfl rfl rfl rfl) ?_
          refine ops_op rfl rfl (runs_none rfl) (does_add rfl rfl rfl (IntWalk.i64_in _ (by omega))) ?_
          first | refine ops_op rfl rfl (runs_none rfl) (does_fieldAddr_ptr rfl tf74_2 (by decide) rfl) ?_ | refine ops_op rfl rfl (runs_none rfl) (does_fieldAddr_ref rfl tf74_2 (by decide) rfl) ?_
          first | refine ops_op rfl rfl (runs_none rfl) (does_fieldAddr_ptr rfl tf29_1 (by decide) rfl) ?_ | refine ops_op rfl rfl (runs_none rfl) (does_fieldAddr_ref rfl tf29_1 (by decide) rfl) ?_
          refine ops_eff rfl (runs_none rfl) (does_store rfl ti3 rfl rfl rfl rfl rfl rfl (by decide) (by decide)) ?_
          refine ops_nil ?_
          repeat (first | refine aw_seq ?_ | refine ath_n ?_ | refine aw_skip ?_ | refine abl_n ?_ | refine aw_block ?_)
          refine aw_region ?_
          first | refine ops_op rfl rfl (runs_none rfl) (does_fieldAddr_ptr rfl tf74_2 (by decide) rfl) ?_ | refine ops_op rfl rfl (runs_none rfl) (does_fieldAddr_ref rfl tf74_2 (by decide) rfl) ?_
          first | refine ops_op rfl rfl (runs_none rfl) (does_fieldAddr_ptr rfl tf29_2 (by decide) rfl) ?_ | refine ops_op rfl rfl (runs_none rfl) (does_fieldAddr_ref rfl tf29_2 (by decide) rfl) ?_
          first | refine ops_op rfl rfl (runs_none rfl) (does_load_ref rfl ta3 rfl) ?_ | refine ops_op rfl rfl (runs_none rfl) (does_load_ptr rfl ta3 rfl rfl rfl rfl rfl) ?_
          refine ops_op rfl rfl (runs_none rfl) (does_add rfl rfl rfl (IntWalk.i64_in _ (by omega))) ?_
          first | refine ops_op rfl rfl (runs_none rfl) (does_fieldAddr_ptr rfl tf74_2 (by decide) rfl) ?_ | refine ops_op rfl rfl (runs_none rfl) (does_fieldAddr_ref rfl tf74_2 (by decide) rfl) ?_
          first | refine ops_op rfl rfl (runs_none rfl) (does_fieldAddr_ptr rfl tf29_2 (by decide) rfl) ?_ | refine ops_op rfl rfl (runs_none rfl) (does_fieldAddr_ref rfl tf29_2 (by decide) rfl) ?_
          refine ops_eff rfl (runs_none rfl) (does_store rfl ti3 rfl rfl rfl rfl rfl rfl (by decide) (by decide)) ?_
          refine ops_nil ?_
          repeat (first | refine aw_seq ?_ | refine ath_n ?_ | refine aw_skip ?_ | refine abl_n ?_ | refine aw_block ?_)
          refine aw_region ?_
          first | refine ops_op rfl rfl (runs_none rfl) (does_fieldAddr_ptr rfl tf74_2 (by decide) rfl) ?_ | refine ops_op rfl rfl (runs_none rfl) (does_fieldAddr_ref rfl tf74_2 (by decide) rfl) ?_
          first | refine ops_op rfl rfl (runs_none rfl) (does_fieldAddr_ptr rfl tf29_3 (by decide) rfl) ?_ | refine ops_op rfl rfl (runs_none rfl) (does_fieldAddr_ref rfl tf29_3 (by decide) rfl) ?_
          first | refine ops_op rfl rfl (runs_none rfl) (does_load_ref rfl ta3 rfl) ?_ | refine ops_op rfl rfl (runs_none rfl) (does_load_ptr rfl ta3 rfl rfl rfl rfl rfl) ?_
          refine ops_op rfl rfl (runs_none rfl) (does_add rfl rfl rfl (IntWalk.i64_in _ (by omega))) ?_
          first | refine ops_op rfl rfl (runs_none rfl) (does_fieldAddr_ptr rfl tf74_2 (by decide) rfl) ?_ | refine ops_op rfl rfl (runs_none rfl) (does_fieldAddr_ref rfl tf74_2 (by decide) rfl) ?_
          first | refine ops_op rfl rfl (runs_none rfl) (does_fieldAddr_ptr rfl tf29_3 (by decide) rfl) ?_ | refine ops_op rfl rfl (runs_none rfl) (does_fieldAddr_ref rfl tf29_3 (by decide) rfl) ?_
          refine ops_eff rfl (runs_none rfl) (does_store rfl ti3 rfl rfl rfl rfl rfl rfl (by decide) (by decide)) ?_
          refine ops_nil ?_
          repeat (first | refine aw_seq ?_ | refine ath_n ?_ | refine aw_skip ?_ | refine abl_n ?_ | refine aw_block ?_)
          refine aw_region ?_
          first | refine ops_op rfl rfl (runs_none rfl) (does_fieldAddr_ptr rfl tf74_4 (by decide) rfl) ?_ | refine ops_op rfl rfl (runs_none rfl) (does_fieldAddr_ref rfl tf74_4 (by decide) rfl) ?_
          first | refine ops_op rfl rfl (runs_none rfl) (does_load_ref rfl ta4 rfl) ?_ | refine ops_op rfl rfl (runs_none rfl) (does_load_ptr rfl ta4 rfl rfl rfl rfl rfl) ?_
          refine ops_nil ?_
          repeat (first | refine aw_seq ?_ | refine ath_n ?_ | refine aw_skip ?_ | refine abl_n ?_ | refine aw_block ?_)
          refine aw_cond rfl (fun hb => ?_) (fun hb => ?_)
          · rw [hbig] at hb; cases hb
          · repeat (first | refine aw_seq ?_ | refine ath_n ?_ | refine aw_skip ?_ | refine abl_n ?_ | refine aw_block ?_)
            refine aw_region ?_
            refine ops_op rfl rfl (runs_none rfl) (mv_s (.inl rfl) rfl) ?_
            refine ops_op rfl rfl (runs_none rfl) (does_add rfl rfl rfl (IntWalk.i64_in _ (by omega))) ?_
            refine ops_op rfl rfl (runs_none rfl) (mv_s (.inr rfl) rfl) ?_
            refine ops_nil ?_
            repeat (first | refine aw_seq ?_ | refine ath_n ?_ | refine aw_skip ?_ | refine abl_n ?_ | refine aw_block ?_)
            exact ⟨(_, k + 1), ⟨hlt, e1, e2, hbig, e3⟩, by dsimp only; omega, wk_st [0, 1] (by decide) ⟨⟨_, rfl, .rowE (by repeat' (first | exact Lo.s _ | exact Lo.emp | exact Lo.any | exact lo_nil | exact lo_nilE | refine lo_cons ?_ ?_ | refine lo_consE ?_ ?_ | refine lo_map ?_ | refine lo_mapE ?_ | refine Lo.cells ?_ | refine Lo.agg _ ?_ | refine Lo.ref _ ?_ | refine Lo.tup _ ?_ | refine Lo.fn _ _ ?_ | refine Lo.sl _ ?_ | intro _)) rfl⟩, ⟨_, rfl, .rowE (by repeat' (first | exact Lo.s _ | exact Lo.emp | exact Lo.any | exact lo_nil | exact lo_nilE | refine lo_cons ?_ ?_ | refine lo_consE ?_ ?_ | refine lo_map ?_ | refine lo_mapE ?_ | refine Lo.cells ?_ | refine Lo.agg _ ?_ | refine Lo.ref _ ?_ | refine Lo.tup _ ?_ | refine Lo.fn _ _ ?_ | refine Lo.sl _ ?_ | intro _)) rfl⟩, trivial⟩ ⟨.lo _ (by repeat' (first | exact Lo.s _ | exact Lo.emp | exact Lo.any | exact lo_nil | exact lo_nilE | refine lo_cons ?_ ?_ | refine lo_consE ?_ ?_ | refine lo_map ?_ | refine lo_mapE ?_ | refine Lo.cells ?_ | refine Lo.agg _ ?_ | refine Lo.ref _ ?_ | refine Lo.tup _ ?_ | refine Lo.fn _ _ ?_ | refine Lo.sl _ ?_ | intro _)), .lo _ (by repeat' (first | exact Lo.s _ | exact Lo.emp | exact Lo.any | exact lo_nil | exact lo_nilE | refine lo_cons ?_ ?_ | refine lo_consE ?_ ?_ | refine lo_map ?_ | refine lo_mapE ?_ | refine Lo.cells ?_ | refine Lo.agg _ ?_ | refine Lo.ref _ ?_ | refine Lo.tup _ ?_ | refine Lo.fn _ _ ?_ | refine Lo.sl _ ?_ | intro _)), .lo _ (by repeat' (first | exact Lo.s _ | exact Lo.emp | exact Lo.any | exact lo_nil | exact lo_nilE | refine lo_cons ?_ ?_ | refine lo_consE ?_ ?_ | refine lo_map ?_ | refine lo_mapE ?_ | refine Lo.cells ?_ | refine Lo.agg _ ?_ | refine Lo.ref _ ?_ | refine Lo.tup _ ?_ | refine Lo.fn _ _ ?_ | refine Lo.sl _ ?_ | intro _)), .ptr 0 0 4 0 0 rfl, .ptr 1 1 11 0 0 rfl, trivial⟩⟩
    · have hkl : k = l.length := by omega
      have hPE : PlayE n l = endE n (some s) := by rw [hWE, hE, hkl, List.drop_length]; rfl
      have hmk := hpm.ok hbig
      have hse := search_pf (P := P) n s.m eBA (goodF n) hmk hval (fun x _ => by rw [if_pos rfl])
      obtain ⟨fpm, fsm, fbig⟩ := finA_pm hval hpm hbig hsm
      have hwr : ∀ t ∈ (silE n (goodF n) s.m).getD [], 0 ≤ t ∧ t < n.trans.length := by
        cases hsil : silE n (goodF n) s.m with
        | none => intro t ht; simp at ht
        | some way => exact runTo_rg (silE_some hmk hsil).choose_spec.1
      have hwl : ((silE n (goodF n) s.m).getD []).length ≤ 200 := by
        cases hsil : silE n (goodF n) s.m with
        | none => simp
        | some way => have := (silE_some hmk hsil).choose_spec.2.2.2; simp only [Option.getD_some]; omega
      have hfin : takeAll n ((silE n (goodF n) s.m).getD []) s = finA n s := by
        unfold finA
        cases hsil : silE n (goodF n) s.m with
        | none => rfl
        | some way => rfl
      have hta := rtakeAll_pf (P := P) n s _ hval hwr hpm hsm (by omega)
      rw [hfin] at hta
      have hFE : finE n s = ⟨(takeIn1 (finA n s) n.sink).m, ⟨(takeIn1 (finA n s) n.sink).c.p, (takeIn1 (finA n s) n.sink).c.c, (takeIn1 (finA n s) n.sink).c.m, (takeIn1 (finA n s) n.sink).c.r + sumI (takeIn1 (finA n s) n.sink).m⟩, (finA n s).run, (finA n s).big⟩ := rfl
      generalize finA n s = f at *
      (refine aw_exit ?_; repeat (first | refine ath_x ?_ | refine abl_hit ?_ | refine abl_miss rfl ?_ | refine abl_n ?_ | refine ath_n ?_ | refine aw_seq ?_ | refine aw_skip ?_ | refine aw_block ?_))
      refine aw_region ?_
      first | refine ops_op rfl rfl (runs_none rfl) (does_load_refw rfl ta24 ti24 rfl rfl) ?_ | refine ops_op rfl rfl (runs_none rfl) (does_load_whole rfl ta24 ti24 rfl rfl rfl rfl rfl) ?_ | refine ops_op rfl rfl (runs_none rfl) (does_load_refs rfl ta24 ti24 rfl (Nat.le_of_ble_eq_true rfl)) ?_ | refine ops_op rfl rfl (runs_none rfl) (does_load_ptrs rfl ta24 ti24 rfl rfl rfl rfl (Nat.le_of_ble_eq_true rfl)) ?_
      first | refine ops_op rfl rfl (runs_none rfl) (does_fieldAddr_ptr rfl tf74_1 (by decide) rfl) ?_ | refine ops_op rfl rfl (runs_none rfl) (does_fieldAddr_ref rfl tf74_1 (by decide) rfl) ?_
      first | refine ops_op rfl rfl (runs_none rfl) (does_load_ref rfl ta30 rfl) ?_ | refine ops_op rfl rfl (runs_none rfl) (does_load_ptr rfl ta30 rfl rfl rfl rfl rfl) ?_
      refine ops_op rfl rfl (runs_none rfl) (does_call rfl rfl (hse) (evc_cons rfl (evc_cons rfl (evc_cons rfl evc_nil)))) ?_
      first | refine ops_op rfl rfl (runs_none rfl) (mv_tup (.inl rfl) rfl) ?_ | refine ops_op rfl rfl (runs_none rfl) (mv_s (.inl rfl) rfl) ?_
      refine ops_op rfl rfl (runs_none rfl) (does_extract rfl rfl rfl) ?_
      refine ops_op rfl rfl (runs_none rfl) (does_extract rfl rfl rfl) ?_
      first | refine ops_op rfl rfl (runs_none rfl) (mv_own (.inr rfl) rfl) ?_ | refine ops_op rfl rfl (runs_none rfl) (mv_sl (.inr rfl) rfl) ?_ | refine ops_op rfl rfl (runs_none rfl) (mv_s (.inr rfl) rfl) ?_ | refine ops_op rfl rfl (runs_none rfl) (mv_emp (.inr rfl) rfl) ?_
      refine ops_op rfl rfl (runs_none rfl) (mv_s (.inr rfl) rfl) ?_
      refine ops_nil ?_
      repeat (first | refine aw_seq ?_ | refine ath_n ?_ | refine aw_skip ?_ | refine abl_n ?_ | refine aw_block ?_)
      refine aw_region ?_
      first | refine ops_op rfl rfl (runs_none rfl) (does_load_refw rfl ta74 ti74 rfl rfl) ?_ | refine ops_op rfl rfl (runs_none rfl) (does_load_whole rfl ta74 ti74 rfl rfl rfl rfl rfl) ?_ | refine ops_op rfl rfl (runs_none rfl) (does_load_refs rfl ta74 ti74 rfl (Nat.le_of_ble_eq_true rfl)) ?_ | refine ops_op rfl rfl (runs_none rfl) (does_load_ptrs rfl ta74 ti74 rfl rfl rfl rfl (Nat.le_of_ble_eq_true rfl)) ?_
      first | refine ops_op rfl rfl (runs_none rfl) (mv_own (.inl rfl) rfl) ?_ | refine ops_op rfl rfl (runs_none rfl) (mv_sl (.inl rfl) rfl) ?_ | refine ops_op rfl rfl (runs_none rfl) (mv_s (.inl rfl) rfl) ?_ | refine ops_op rfl rfl (runs_none rfl) (mv_emp (.inl rfl) rfl) ?_
      refine ops_op rfl rfl (runs_none rfl) (does_call rfl rfl (hta) (evc_cons rfl (evc_cons rfl evc_nil))) ?_
      refine ops_eff rfl (runs_none rfl) (does_store rfl ti74 rfl rfl rfl rfl rfl rfl (by decide) (by decide)) ?_
      refine ops_nil ?_
      repeat (first | refine aw_seq ?_ | refine ath_n ?_ | refine aw_skip ?_ | refine abl_n ?_ | refine aw_block ?_)
      refine aw_region ?_
      first | refine ops_op rfl rfl (runs_none rfl) (does_fieldAddr_ptr rfl tf74_4 (by decide) rfl) ?_ | refine ops_op rfl rfl (runs_none rfl) (does_fieldAddr_ref rfl tf74_4 (by decide) rfl) ?_
      first | refine ops_op rfl rfl (runs_none rfl) (does_load_ref rfl ta4 rfl) ?_ | refine ops_op rfl rfl (runs_none rfl) (does_load_ptr rfl ta4 rfl rfl rfl rfl rfl) ?_
      refine ops_nil ?_
      repeat (first | refine aw_seq ?_ | refine ath_n ?_ | refine aw_skip ?_ | refine abl_n ?_ | refine aw_block ?_)
      refine aw_cond rfl (fun hb => ?_) (fun hb => ?_)
      · rw [fbig] at hb; cases hb
      · obtain ⟨ks, hks⟩ : ∃ k : Nat, n.sink = k := ⟨n.sink.toNat, by omega⟩
        have hlen := fpm.len
        have hkn : ks < f.m.length := by omega
        obtain ⟨c1, c2, c3⟩ := fpm.small
        have c4 := fsm.p
        have c5 := fsm.c
        have c6 := fsm.r
        have c7 := fpm.mc
        have c8 := fpm.c0
        have c9 := fpm.r0
        have c10 := fpm.bal
        obtain ⟨c11, c12⟩ := sumI_ge f.m fpm.nn
        have hgk := c3 ks
        have hT : (takeIn1 f n.sink).c.p = f.c.p ∧ (takeIn1 f n.sink).c.c = f.c.c + 1 ∧ (takeIn1 f n.sink).c.m = (if gti f.m ks = 0 then f.c.m + 1 else f.c.m) ∧ (takeIn1 f n.sink).c.r + sumI (takeIn1 f n.sink).m = (if gti f.m ks = 0 then f.c.r else f.c.r - 1) + sumI f.m := by
          unfold takeIn1
          rw [hks, Int.toNat_natCast]
          by_cases h0 : gti f.m ks = 0
          · rw [if_neg (by omega), if_pos h0, if_pos h0]; exact ⟨rfl, rfl, rfl, rfl⟩
          · rw [if_pos (by omega), if_neg h0, if_neg h0]
            refine ⟨rfl, rfl, rfl, ?_⟩
            dsimp only
            rw [sumI_set _ _ _ hkn]
            omega
        obtain ⟨t1, t2, t3, t4⟩ := hT
        repeat (first | refine aw_seq ?_ | refine ath_n ?_ | refine aw_skip ?_ | refine abl_n ?_ | refine aw_block ?_)
        refine aw_region ?_
        first | refine ops_op rfl rfl (runs_none rfl) (does_fieldAddr_ptr rfl tf74_2 (by decide) rfl) ?_ | refine ops_op rfl rfl (runs_none rfl) (does_fieldAddr_ref rfl tf74_2 (by decide) rfl) ?_
        first | refine ops_op rfl rfl (runs_none rfl) (does_fieldAddr_ptr rfl tf29_1 (by decide) rfl) ?_ | refine ops_op rfl rfl (runs_none rfl) (does_fieldAddr_ref rfl tf29_1 (by decide) rfl) ?_
        first | refine ops_op rfl rfl (runs_none rfl) (does_load_ref rfl ta3 rfl) ?_ | refine ops_op rfl rfl (runs_none rfl) (does_load_ptr rfl ta3 rfl rfl rfl rfl rfl) ?_
        refine ops_op rfl rfl (runs_none rfl) (does_add rfl rfl rfl (IntWalk.i64_in _ (by omega))) ?_
        first | refine ops_op rfl rfl (runs_none rfl) (does_fieldAddr_ptr rfl tf74_2 (by decide) rfl) ?_ | refine ops_op rfl rfl (runs_none rfl) (does_fieldAddr_ref rfl tf74_2 (by decide) rfl) ?_
        first | refine ops_op rfl rfl (runs_none rfl) (does_fieldAddr_ptr rfl tf29_1 (by decide) rfl) ?_ | refine ops_op rfl rfl (runs_none rfl) (does_fieldAddr_ref rfl tf29_1 (by decide) rfl) ?_
        refine ops_eff rfl (runs_none rfl) (does_store rfl ti3 rfl rfl rfl rfl rfl rfl (by decide) (by decide)) ?_
        refine ops_nil ?_
        repeat (first | refine aw_seq ?_ | refine ath_n ?_ | refine aw_skip ?_ | refine abl_n ?_ | refine aw_block ?_)
        refine aw_region ?_
        first | refine ops_op rfl rfl (runs_none rfl) (does_fieldAddr_ptr rfl tf74_1 (by decide) rfl) ?_ | refine ops_op rfl rfl (runs_none rfl) (does_fieldAddr_ref rfl tf74_1 (by decide) rfl) ?_
        first | refine ops_op rfl rfl (runs_none rfl) (does_load_ref rfl ta30 rfl) ?_ | refine ops_op rfl rfl (runs_none rfl) (does_load_ptr rfl ta30 rfl rfl rfl rfl rfl) ?_
        first | refine ops_op rfl rfl (runs_none rfl) (does_fieldAddr_ptr rfl tf24_3 (by decide) rfl) ?_ | refine ops_op rfl rfl (runs_none rfl) (does_fieldAddr_ref rfl tf24_3 (by decide) rfl) ?_
        first | refine ops_op rfl rfl (runs_none rfl) (does_load_ref rfl ta3 rfl) ?_ | refine ops_op rfl rfl (runs_none rfl) (does_load_ptr rfl ta3 rfl rfl rfl rfl rfl) ?_
        first | refine ops_op rfl rfl (runs_none rfl) (does_index_sl rfl ts30 ti3 rfl rfl hks (ix_map hkn) rfl) ?_ | refine ops_op rfl rfl (runs_none rfl) (does_index_own rfl ts30 ti3 rfl rfl hks (ix_map hkn)) ?_
        first | refine ops_op rfl rfl (runs_none rfl) (does_load_ref rfl ta3 rfl) ?_ | refine ops_op rfl rfl (runs_none rfl) (does_load_ptr rfl ta3 rfl rfl rfl rfl rfl) ?_
        refine ops_op rfl rfl (runs_none rfl) (does_eql rfl rfl rfl) ?_
        refine ops_nil ?_
        repeat (first | refine aw_seq ?_ | refine ath_n ?_ | refine aw_skip ?_ | refine abl_n ?_ | refine aw_block ?_)
        refine aw_cuts (S := Int × Int) (fun _ => plF n l) (fun q => [.row 4 [zC], .row 11 [eR n f.m ⟨f.m, ⟨f.c.p, f.c.c + 1, q.1, q.2⟩, f.run, f.big⟩]]) (fun q => q.1 = (if gti f.m ks = 0 then f.c.m + 1 else f.c.m) ∧ q.2 = (if gti f.m ks = 0 then f.c.r else f.c.r - 1)) ?_ ?_
        · refine aw_if rfl (fun h0 => ?_) (fun h0 => ?_)
          · repeat (first | refine aw_seq ?_ | refine ath_n ?_ | refine aw_skip ?_ | refine abl_n ?_ | refine aw_block ?_)
            refine aw_region ?_
            first | refine ops_op rfl rfl (runs_none rfl) (does_fieldAddr_ptr rfl tf74_2 (by decide) rfl) ?_ | refine ops_op rfl rfl (runs_none rfl) (does_fieldAddr_ref rfl tf74_2 (by decide) rfl) ?_
            first | refine ops_op rfl rfl (runs_none rfl) (does_fieldAddr_ptr rfl tf29_2 (by decide) rfl) ?_ | refine ops_op rfl rfl (runs_none rfl) (does_fieldAddr_ref rfl tf29_2 (by decide) rfl) ?_
            first | refine ops_op rfl rfl (runs_none rfl) (does_load_ref rfl ta3 rfl) ?_ | refine ops_op rfl rfl (runs_none rfl) (does_load_ptr rfl ta3 rfl rfl rfl rfl rfl) ?_
            refine ops_op rfl rfl (runs_none rfl) (does_add rfl rfl rfl (IntWalk.i64_in _ (by omega))) ?_
            first | refine ops_op rfl rfl (runs_none rfl) (does_fieldAddr_ptr rfl tf74_2 (by decide) rfl) ?_ | refine ops_op rfl rfl (runs_none rfl) (does_fieldAddr_ref rfl tf74_2 (by decide) rfl) ?_
            first | refine ops_op rfl rfl (runs_none rfl) (does_fieldAddr_ptr rfl tf29_2 (by decide) rfl) ?_ | refine ops_op rfl rfl (runs_none rfl) (does_fieldAddr_ref rfl tf29_2 (by decide) rfl) ?_
            refine ops_eff rfl (runs_none rfl) (does_store rfl ti3 rfl rfl rfl rfl rfl rfl (by decide) (by decide)) ?_
            refine ops_nil ?_
            repeat (first | refine aw_seq ?_ | refine ath_n ?_ | refine aw_skip ?_ | refine abl_n ?_ | refine aw_block ?_)
            exact ⟨(_, _), ⟨(if_pos h0).symm, (if_pos h0).symm⟩, wk_sub _ ⟨rfl, rfl, rfl, rfl, trivial⟩⟩
          · repeat (first | refine aw_seq ?_ | refine ath_n ?_ | refine aw_skip ?_ | refine abl_n ?_ | refine aw_block ?_)
            refine aw_region ?_
            first | refine ops_op rfl rfl (runs_none rfl) (does_fieldAddr_ptr rfl tf74_2 (by decide) rfl) ?_ | refine ops_op rfl rfl (runs_none rfl) (does_fieldAddr_ref rfl tf74_2 (by decide) rfl) ?_
            first | refine ops_op rfl rfl (runs_none rfl) (does_fieldAddr_ptr rfl tf29_3 (by decide) rfl) ?_ | refine ops_op rfl rfl (runs_none rfl) (does_fieldAddr_ref rfl tf29_3 (by decide) rfl) ?_
            first | refine ops_op rfl rfl (runs_none rfl) (does_load_ref rfl ta3 rfl) ?_ | refine ops_op rfl rfl (runs_none rfl) (does_load_ptr rfl ta3 rfl rfl rfl rfl rfl) ?_
            refine ops_op rfl rfl (runs_none rfl) (does_sub rfl rfl rfl (IntWalk.i64_in _ (by omega))) ?_
            first | refine ops_op rfl rfl (runs_none rfl) (does_fieldAddr_ptr rfl tf74_2 (by decide) rfl) ?_ | refine ops_op rfl rfl (runs_none rfl) (does_fieldAddr_ref rfl tf74_2 (by decide) rfl) ?_
            first | refine ops_op rfl rfl (runs_none rfl) (does_fieldAddr_ptr rfl tf29_3 (by decide) rfl) ?_ | refine ops_op rfl rfl (runs_none rfl) (does_fieldAddr_ref rfl tf29_3 (by decide) rfl) ?_
            refine ops_eff rfl (runs_none rfl) (does_store rfl ti3 rfl rfl rfl rfl rfl rfl (by decide) (by decide)) ?_
            refine ops_nil ?_
            repeat (first | refine aw_seq ?_ | refine ath_n ?_ | refine aw_skip ?_ | refine abl_n ?_ | refine aw_block ?_)
            exact ⟨(_, _), ⟨(if_neg h0).symm, (if_neg h0).symm⟩, wk_sub _ ⟨rfl, rfl, rfl, rfl, trivial⟩⟩
        · rintro ⟨mi, r0⟩ ⟨hm, hr⟩
          dsimp only at hm hr ⊢
          rw [← hm] at t3
          rw [← hr] at t4
          have hr1 : -1 ≤ r0 ∧ r0 ≤ f.c.r := by rw [hr]; split <;> omega
          clear hm hr
          have hEE : ∀ R : Int, R = r0 + sumI f.m → endE n (some s) = (⟨f.c.p, f.c.c + 1, mi, R⟩, f.run, 0) := by
            intro R hR
            show (if (finE n s).big then ((⟨0, 0, 0, 0⟩, [], 6) : Cnt × List Int × Int) else ((finE n s).c, (finE n s).run, 0)) = _
            rw [hFE]
            dsimp only
            rw [fbig, t1, t2, t3, t4, hR]
            rfl
          repeat (first | refine aw_seq ?_ | refine ath_n ?_ | refine aw_skip ?_ | refine abl_n ?_ | refine aw_block ?_)
          refine aw_region ?_
          refine ops_op rfl rfl (runs_none rfl) (mv_s (.inr rfl) rfl) ?_
          refine ops_nil ?_
          repeat (first | refine aw_seq ?_ | refine ath_n ?_ | refine aw_skip ?_ | refine abl_n ?_ | refine aw_block ?_)
          refine aw_loops (S := Int × Nat) (fun q => (15, eI q.2) :: plF n l) (fun q => [.row 4 [zC], .row 11 [eR n f.m ⟨f.m, ⟨f.c.p, f.c.c + 1, mi, q.1⟩, f.run, f.big⟩]]) (fun q => (q.2 : Int) ≤ n.places ∧ q.1 = r0 + sumI (f.m.take q.2)) (fun q => n.places.toNat - q.2) (r0, 0) (wk_sub _ ⟨rfl, rfl, rfl, rfl, rfl, trivial⟩) ⟨by dsimp only; omega, by simp [sumI]⟩ ?_
          rintro ⟨R, k⟩ ⟨hk, hR⟩
          dsimp only at hk hR ⊢
          repeat (first | refine aw_seq ?_ | refine ath_n ?_ | refine aw_skip ?_ | refine abl_n ?_ | refine aw_block ?_)
          refine aw_region ?_
          refine ops_op rfl rfl (runs_none rfl) (mv_s (.inl rfl) rfl) ?_
          first | refine ops_op rfl rfl (runs_none rfl) (does_fieldAddr_ptr rfl tf24_0 (by decide) rfl) ?_ | refine ops_op rfl rfl (runs_none rfl) (does_fieldAddr_ref rfl tf24_0 (by decide) rfl) ?_
          first | refine ops_op rfl rfl (runs_none rfl) (does_load_ref rfl ta3 rfl) ?_ | refine ops_op rfl rfl (runs_none rfl) (does_load_ptr rfl ta3 rfl rfl rfl rfl rfl) ?_
          refine ops_op rfl rfl (runs_none rfl) (does_lss rfl rfl rfl) ?_
          refine ops_nil ?_
          repeat (first | refine aw_seq ?_ | refine ath_n ?_ | refine aw_skip ?_ | refine abl_n ?_ | refine aw_block ?_)
          refine aw_if rfl (fun h => ?_) (fun h => ?_)
          · have hlt : k < f.m.length := by omega
            have hgi := c3 k
            have hsk := sumI_tk f.m k fpm.nn
            have hs1 := sumI_take f.m k hlt
            repeat (first | refine aw_seq ?_ | refine ath_n ?_ | refine aw_skip ?_ | refine abl_n ?_ | refine aw_block ?_)
            refine aw_draw hmix ?_
            refine adraw_lastT rfl (by kernel_rfl) ?_
            refine adraw_quiet (by kernel_rfl) ?_
            simp only [List.dropLast]
            first | refine qx_op rfl rfl (runs_none rfl) (does_fieldAddr_ptr rfl tf74_2 (by decide) rfl) ?_ | refine qx_op rfl rfl (runs_none rfl) (does_fieldAddr_ref rfl tf74_2 (by decide) rfl) ?_
            first | refine qx_op rfl rfl (runs_none rfl) (does_fieldAddr_ptr rfl tf29_3 (by decide) rfl) ?_ | refine qx_op rfl rfl (runs_none rfl) (does_fieldAddr_ref rfl tf29_3 (by decide) rfl) ?_
            first | refine qx_op rfl rfl (runs_none rfl) (does_load_ref rfl ta3 rfl) ?_ | refine qx_op rfl rfl (runs_none rfl) (does_load_ptr rfl ta3 rfl rfl rfl rfl rfl) ?_
            first | refine qx_op rfl rfl (runs_none rfl) (does_fieldAddr_ptr rfl tf74_1 (by decide) rfl) ?_ | refine qx_op rfl rfl (runs_none rfl) (does_fieldAddr_ref rfl tf74_1 (by decide) rfl) ?_
            first | refine qx_op rfl rfl (runs_none rfl) (does_load_ref rfl ta30 rfl) ?_ | refine qx_op rfl rfl (runs_none rfl) (does_load_ptr rfl ta30 rfl rfl rfl rfl rfl) ?_
            refine qx_op rfl rfl (runs_none rfl) (mv_s (.inl rfl) rfl) ?_
            first | refine qx_op rfl rfl (runs_none rfl) (does_index_sl rfl ts30 ti3 rfl rfl rfl (ix_map hlt) rfl) ?_ | refine qx_op rfl rfl (runs_none rfl) (does_index_own rfl ts30 ti3 rfl rfl rfl (ix_map hlt)) ?_
            first | refine qx_op rfl rfl (runs_none rfl) (does_load_ref rfl ta3 rfl) ?_ | refine qx_op rfl rfl (runs_none rfl) (does_load_ptr rfl ta3 rfl rfl rfl rfl rfl) ?_
            refine qx_op rfl rfl (runs_none rfl) (does_add rfl rfl rfl (IntWalk.i64_in _ (by dsimp only; omega))) ?_
            first | refine qx_op rfl rfl (runs_none rfl) (does_fieldAddr_ptr rfl tf74_2 (by decide) rfl) ?_ | refine qx_op rfl rfl (runs_none rfl) (does_fieldAddr_ref rfl tf74_2 (by decide) rfl) ?_
            first | refine qx_op rfl rfl (runs_none rfl) (does_fieldAddr_ptr rfl tf29_3 (by decide) rfl) ?_ | refine qx_op rfl rfl (runs_none rfl) (does_fieldAddr_ref rfl tf29_3 (by decide) rfl) ?_
            refine qx_nil ?_
            refine ath_n ?_
            refine ops_eff rfl (runs_none rfl) (does_store rfl ti3 rfl rfl rfl rfl rfl rfl (by decide) (by decide)) ?_
            refine ops_nil ?_
            repeat (first | refine aw_seq ?_ | refine ath_n ?_ | refine aw_skip ?_ | refine abl_n ?_ | refine aw_block ?_)
            refine aw_region ?_
            refine ops_op rfl rfl (runs_none rfl) (mv_s (.inl rfl) rfl) ?_
            refine ops_op rfl rfl (runs_none rfl) (does_add rfl rfl rfl (IntWalk.i64_in _ (by omega))) ?_
            refine ops_op rfl rfl (runs_none rfl) (mv_s (.inr rfl) rfl) ?_
            refine ops_nil ?_
            repeat (first | refine aw_seq ?_ | refine ath_n ?_ | refine aw_skip ?_ | refine abl_n ?_ | refine aw_block ?_)
            exact ⟨(R + gti f.m k, k + 1), ⟨by dsimp only; omega, by dsimp only; omega⟩, by dsimp only; omega, wk_sub _ ⟨rfl, rfl, rfl, rfl, rfl, trivial⟩⟩
          · have hkl : k = f.m.length := by omega
            rw [hkl, List.take_length] at hR
            have hEE2 := hEE R hR
            (refine aw_exit ?_; repeat (first | refine ath_x ?_ | refine abl_hit ?_ | refine abl_miss rfl ?_ | refine abl_n ?_ | refine ath_n ?_ | refine aw_seq ?_ | refine aw_skip ?_ | refine aw_block ?_))
            refine aw_draw hmix ?_
            refine adraw_tree ([(5, eL eI f.run), (6, eI 0), (4, .ptr 0 4 0 0)]) ([.row 4 [eC ⟨f.c.p, f.c.c + 1, mi, R⟩], .row 11 [eR n f.m ⟨f.m, ⟨f.c.p, f.c.c + 1, mi, R⟩, f.run, f.big⟩]]) ?_ ?_
            · skip
              refine adl_go [0, 2] (by kernel_rfl) rfl ⟨?_, ?_, trivial⟩
              · first | refine adl_op rfl rfl rfl (runs_none rfl) (does_fieldAddr_ptr rfl tf74_2 (by decide) rfl) ?_ | refine adl_op rfl rfl rfl (runs_none rfl) (does_fieldAddr_ref rfl tf74_2 (by decide) rfl) ?_
                refine adl_go [1, 2] (by kernel_rfl) rfl ⟨?_, ?_, trivial⟩
                · first | refine adl_op rfl rfl rfl (runs_none rfl) (does_load_refw rfl ta29 ti29 rfl rfl) ?_ | refine adl_op rfl rfl rfl (runs_none rfl) (does_load_whole rfl ta29 ti29 rfl rfl rfl rfl rfl) ?_ | refine adl_op rfl rfl rfl (runs_none rfl) (does_load_refs rfl ta29 ti29 rfl (Nat.le_of_ble_eq_true rfl)) ?_ | refine adl_op rfl rfl rfl (runs_none rfl) (does_load_ptrs rfl ta29 ti29 rfl rfl rfl rfl (Nat.le_of_ble_eq_true rfl)) ?_
                  refine adl_go [2, 4] (by kernel_rfl) rfl ⟨?_, ?_, trivial⟩
                  · first | refine adl_op rfl rfl rfl (runs_none rfl) (does_fieldAddr_ptr rfl tf74_3 (by decide) rfl) ?_ | refine adl_op rfl rfl rfl (runs_none rfl) (does_fieldAddr_ref rfl tf74_3 (by decide) rfl) ?_
                    refine adl_go [3, 4] (by kernel_rfl) rfl ⟨?_, ?_, trivial⟩
                    · first | refine adl_op rfl rfl rfl (runs_none rfl) (does_load_ref rfl ta30 rfl) ?_ | refine adl_op rfl rfl rfl (runs_none rfl) (does_load_ptr rfl ta30 rfl rfl rfl rfl rfl) ?_
                      refine adl_go [4] (by kernel_rfl) rfl ⟨?_, trivial⟩
                      refine adl_eff rfl rfl (runs_none rfl) (does_store rfl ti29 rfl rfl rfl rfl rfl rfl (by decide) (by decide)) ?_
                      refine adl_go [5] (by kernel_rfl) rfl ⟨?_, trivial⟩
                      first | refine adl_op rfl rfl rfl (runs_none rfl) (mv_own (.inr rfl) rfl) ?_ | refine adl_op rfl rfl rfl (runs_none rfl) (mv_sl (.inr rfl) rfl) ?_ | refine adl_op rfl rfl rfl (runs_none rfl) (mv_s (.inr rfl) rfl) ?_ | refine adl_op rfl rfl rfl (runs_none rfl) (mv_emp (.inr rfl) rfl) ?_
                      refine adl_go [6] (by kernel_rfl) rfl ⟨?_, trivial⟩
                      refine adl_op rfl rfl rfl (runs_none rfl) (mv_s (.inr rfl) rfl) ?_
                      refine adl_end (by kernel_rfl) ?_
                      exact wk_sub _ ⟨rfl, rfl, rfl, trivial⟩
                    · refine adl_eff rfl rfl (runs_none rfl) (does_store rfl ti29 rfl rfl rfl rfl rfl rfl (by decide) (by decide)) ?_
                      refine adl_go [3] (by kernel_rfl) rfl ⟨?_, trivial⟩
                      first | refine adl_op rfl rfl rfl (runs_none rfl) (does_load_ref rfl ta30 rfl) ?_ | refine adl_op rfl rfl rfl (runs_none rfl) (does_load_ptr rfl ta30 rfl rfl rfl rfl rfl) ?_
                      refine adl_go [5] (by kernel_rfl) rfl ⟨?_, trivial⟩
                      first | refine adl_op rfl rfl rfl (runs_none rfl) (mv_own (.inr rfl) rfl) ?_ | refine adl_op rfl rfl rfl (runs_none rfl) (mv_sl (.inr rfl) rfl) ?_ | refine adl_op rfl rfl rfl (runs_none rfl) (mv_s (.inr rfl) rfl) ?_ | refine adl_op rfl rfl rfl (runs_none rfl) (mv_emp (.inr rfl) rfl) ?_
                      refine adl_go [6] (by kernel_rfl) rfl ⟨?_, trivial⟩
                      refine adl_op rfl rfl rfl (runs_none rfl) (mv_s (.inr rfl) rfl) ?_
                      refine adl_end (by kernel_rfl) ?_
                      exact wk_sub _ ⟨rfl, rfl, rfl, trivial⟩
                  · refine adl_eff rfl rfl (runs_none rfl) (does_store rfl ti29 rfl rfl rfl rfl rfl rfl (by decide) (by decide)) ?_
                    refine adl_go [2] (by kernel_rfl) rfl ⟨?_, trivial⟩
                    first | refine adl_op rfl rfl rfl (runs_none rfl) (does_fieldAddr_ptr rfl tf74_3 (by decide) rfl) ?_ | refine adl_op rfl rfl rfl (runs_none rfl) (does_fieldAddr_ref rfl tf74_3 (by decide) rfl) ?_
                    refine adl_go [3] (by kernel_rfl) rfl ⟨?_, trivial⟩
                    first | refine adl_op rfl rfl rfl (runs_none rfl) (does_load_ref rfl ta30 rfl) ?_ | refine adl_op rfl rfl rfl (runs_none rfl) (does_load_ptr rfl ta30 rfl rfl rfl rfl rfl) ?_
                    refine adl_go [5] (by kernel_rfl) rfl ⟨?_, trivial⟩
                    first | refine adl_op rfl rfl rfl (runs_none rfl) (mv_own (.inr rfl) rfl) ?_ | refine adl_op rfl rfl rfl (runs_none rfl) (mv_sl (.inr rfl) rfl) ?_ | refine adl_op rfl rfl rfl (runs_none rfl) (mv_s (.inr rfl) rfl) ?_ | refine adl_op rfl rfl rfl (runs_none rfl) (mv_emp (.inr rfl) rfl) ?_
                    refine adl_go [6] (by kernel_rfl) rfl ⟨?_, trivial⟩
                    refine adl_op rfl rfl rfl (runs_none rfl) (mv_s (.inr rfl) rfl) ?_
                    refine adl_end (by kernel_rfl) ?_
                    exact wk_sub _ ⟨rfl, rfl, rfl, trivial⟩
                · first | refine adl_op rfl rfl rfl (runs_none rfl) (does_fieldAddr_ptr rfl tf74_3 (by decide) rfl) ?_ | refine adl_op rfl rfl rfl (runs_none rfl) (does_fieldAddr_ref rfl tf74_3 (by decide) rfl) ?_
                  refine adl_go [1, 3] (by kernel_rfl) rfl ⟨?_, ?_, trivial⟩
                  · first | refine adl_op rfl rfl rfl (runs_none rfl) (does_load_refw rfl ta29 ti29 rfl rfl) ?_ | refine adl_op rfl rfl rfl (runs_none rfl) (does_load_whole rfl ta29 ti29 rfl rfl rfl rfl rfl) ?_ | refine adl_op rfl rfl rfl (runs_none rfl) (does_load_refs rfl ta29 ti29 rfl (Nat.le_of_ble_eq_true rfl)) ?_ | refine adl_op rfl rfl rfl (runs_none rfl) (does_load_ptrs rfl ta29 ti29 rfl rfl rfl rfl (Nat.le_of_ble_eq_true rfl)) ?_
                    refine adl_go [3, 4] (by kernel_rfl) rfl ⟨?_, ?_, trivial⟩
                    · first | refine adl_op rfl rfl rfl (runs_none rfl) (does_load_ref rfl ta30 rfl) ?_ | refine adl_op rfl rfl rfl (runs_none rfl) (does_load_ptr rfl ta30 rfl rfl rfl rfl rfl) ?_
                      refine adl_go [4] (by kernel_rfl) rfl ⟨?_, trivial⟩
                      refine adl_eff rfl rfl (runs_none rfl) (does_store rfl ti29 rfl rfl rfl rfl rfl rfl (by decide) (by decide)) ?_
                      refine adl_go [5] (by kernel_rfl) rfl ⟨?_, trivial⟩
                      first | refine adl_op rfl rfl rfl (runs_none rfl) (mv_own (.inr rfl) rfl) ?_ | refine adl_op rfl rfl rfl (runs_none rfl) (mv_sl (.inr rfl) rfl) ?_ | refine adl_op rfl rfl rfl (runs_none rfl) (mv_s (.inr rfl) rfl) ?_ | refine adl_op rfl rfl rfl (runs_none rfl) (mv_emp (.inr rfl) rfl) ?_
                      refine adl_go [6] (by kernel_rfl) rfl ⟨?_, trivial⟩
                      refine adl_op rfl rfl rfl (runs_none rfl) (mv_s (.inr rfl) rfl) ?_
                      refine adl_end (by kernel_rfl) ?_
                      exact wk_sub _ ⟨rfl, rfl, rfl, trivial⟩
                    · refine adl_eff rfl rfl (runs_none rfl) (does_store rfl ti29 rfl rfl rfl rfl rfl rfl (by decide) (by decide)) ?_
                      refine adl_go [3] (by kernel_rfl) rfl ⟨?_, trivial⟩
                      first | refine adl_op rfl rfl rfl (runs_none rfl) (does_load_ref rfl ta30 rfl) ?_ | refine adl_op rfl rfl rfl (runs_none rfl) (does_load_ptr rfl ta30 rfl rfl rfl rfl rfl) ?_
                      refine adl_go [5] (by kernel_rfl) rfl ⟨?_, trivial⟩
                      first | refine adl_op rfl rfl rfl (runs_none rfl) (mv_own (.inr rfl) rfl) ?_ | refine adl_op rfl rfl rfl (runs_none rfl) (mv_sl (.inr rfl) rfl) ?_ | refine adl_op rfl rfl rfl (runs_none rfl) (mv_s (.inr rfl) rfl) ?_ | refine adl_op rfl rfl rfl (runs_none rfl) (mv_emp (.inr rfl) rfl) ?_
                      refine adl_go [6] (by kernel_rfl) rfl ⟨?_, trivial⟩
                      refine adl_op rfl rfl rfl (runs_none rfl) (mv_s (.inr rfl) rfl) ?_
                      refine adl_end (by kernel_rfl) ?_
                      exact wk_sub _ ⟨rfl, rfl, rfl, trivial⟩
                  · first | refine adl_op rfl rfl rfl (runs_none rfl) (does_load_ref rfl ta30 rfl) ?_ | refine adl_op rfl rfl rfl (runs_none rfl) (does_load_ptr rfl ta30 rfl rfl rfl rfl rfl) ?_
                    refine adl_go [1] (by kernel_rfl) rfl ⟨?_, trivial⟩
                    first | refine adl_op rfl rfl rfl (runs_none rfl) (does_load_refw rfl ta29 ti29 rfl rfl) ?_ | refine adl_op rfl rfl rfl (runs_none rfl) (does_load_whole rfl ta29 ti29 rfl rfl rfl rfl rfl) ?_ | refine adl_op rfl rfl rfl (runs_none rfl) (does_load_refs rfl ta29 ti29 rfl (Nat.le_of_ble_eq_true rfl)) ?_ | refine adl_op rfl rfl rfl (runs_none rfl) (does_load_ptrs rfl ta29 ti29 rfl rfl rfl rfl (Nat.le_of_ble_eq_true rfl)) ?_
                    refine adl_go [4] (by kernel_rfl) rfl ⟨?_, trivial⟩
                    refine adl_eff rfl rfl (runs_none rfl) (does_store rfl ti29 rfl rfl rfl rfl rfl rfl (by decide) (by decide)) ?_
                    refine adl_go [5] (by kernel_rfl) rfl ⟨?_, trivial⟩
                    first | refine adl_op rfl rfl rfl (runs_none rfl) (mv_own (.inr rfl) rfl) ?_ | refine adl_op rfl rfl rfl (runs_none rfl) (mv_sl (.inr rfl) rfl) ?_ | refine adl_op rfl rfl rfl (runs_none rfl) (mv_s (.inr rfl) rfl) ?_ | refine adl_op rfl rfl rfl (runs_none rfl) (mv_emp (.inr rfl) rfl) ?_
                    refine adl_go [6] (by kernel_rfl) rfl ⟨?_, trivial⟩
                    refine adl_op rfl rfl rfl (runs_none rfl) (mv_s (.inr rfl) rfl) ?_
                    refine adl_end (by kernel_rfl) ?_
                    exact wk_sub _ ⟨rfl, rfl, rfl, trivial⟩
              · first | refine adl_op rfl rfl rfl (runs_none rfl) (does_fieldAddr_ptr rfl tf74_3 (by decide) rfl) ?_ | refine adl_op rfl rfl rfl (runs_none rfl) (does_fieldAddr_ref rfl tf74_3 (by decide) rfl) ?_
                refine adl_go [0, 3] (by kernel_rfl) rfl ⟨?_, ?_, trivial⟩
                · first | refine adl_op rfl rfl rfl (runs_none rfl) (does_fieldAddr_ptr rfl tf74_2 (by decide) rfl) ?_ | refine adl_op rfl rfl rfl (runs_none rfl) (does_fieldAddr_ref rfl tf74_2 (by decide) rfl) ?_
                  refine adl_go [1, 3] (by kernel_rfl) rfl ⟨?_, ?_, trivial⟩
                  · first | refine adl_op rfl rfl rfl (runs_none rfl) (does_load_refw rfl ta29 ti29 rfl rfl) ?_ | refine adl_op rfl rfl rfl (runs_none rfl) (does_load_whole rfl ta29 ti29 rfl rfl rfl rfl rfl) ?_ | refine adl_op rfl rfl rfl (runs_none rfl) (does_load_refs rfl ta29 ti29 rfl (Nat.le_of_ble_eq_true rfl)) ?_ | refine adl_op rfl rfl rfl (runs_none rfl) (does_load_ptrs rfl ta29 ti29 rfl rfl rfl rfl (Nat.le_of_ble_eq_true rfl)) ?_
                    refine adl_go [3, 4] (by kernel_rfl) rfl ⟨?_, ?_, trivial⟩
                    · first | refine adl_op rfl rfl rfl (runs_none rfl) (does_load_ref rfl ta30 rfl) ?_ | refine adl_op rfl rfl rfl (runs_none rfl) (does_load_ptr rfl ta30 rfl rfl rfl rfl rfl) ?_
                      refine adl_go [4] (by kernel_rfl) rfl ⟨?_, trivial⟩
                      refine adl_eff rfl rfl (runs_none rfl) (does_store rfl ti29 rfl rfl rfl rfl rfl rfl (by decide) (by decide)) ?_
                      refine adl_go [5] (by kernel_rfl) rfl ⟨?_, trivial⟩
                      first | refine adl_op rfl rfl rfl (runs_none rfl) (mv_own (.inr rfl) rfl) ?_ | refine adl_op rfl rfl rfl (runs_none rfl) (mv_sl (.inr rfl) rfl) ?_ | refine adl_op rfl rfl rfl (runs_none rfl) (mv_s (.inr rfl) rfl) ?_ | refine adl_op rfl rfl rfl (runs_none rfl) (mv_emp (.inr rfl) rfl) ?_
                      refine adl_go [6] (by kernel_rfl) rfl ⟨?_, trivial⟩
                      refine adl_op rfl rfl rfl (runs_none rfl) (mv_s (.inr rfl) rfl) ?_
                      refine adl_end (by kernel_rfl) ?_
                      exact wk_sub _ ⟨rfl, rfl, rfl, trivial⟩
                    · refine adl_eff rfl rfl (runs_none rfl) (does_store rfl ti29 rfl rfl rfl rfl rfl rfl (by decide) (by decide)) ?_
                      refine adl_go [3] (by kernel_rfl) rfl ⟨?_, trivial⟩
                      first | refine adl_op rfl rfl rfl (runs_none rfl) (does_load_ref rfl ta30 rfl) ?_ | refine adl_op rfl rfl rfl (runs_none rfl) (does_load_ptr rfl ta30 rfl rfl rfl rfl rfl) ?_
                      refine adl_go [5] (by kernel_rfl) rfl ⟨?_, trivial⟩
                      first | refine adl_op rfl rfl rfl (runs_none rfl) (mv_own (.inr rfl) rfl) ?_ | refine adl_op rfl rfl rfl (runs_none rfl) (mv_sl (.inr rfl) rfl) ?_ | refine adl_op rfl rfl rfl (runs_none rfl) (mv_s (.inr rfl) rfl) ?_ | refine adl_op rfl rfl rfl (runs_none rfl) (mv_emp (.inr rfl) rfl) ?_
                      refine adl_go [6] (by kernel_rfl) rfl ⟨?_, trivial⟩
                      refine adl_op rfl rfl rfl (runs_none rfl) (mv_s (.inr rfl) rfl) ?_
                      refine adl_end (by kernel_rfl) ?_
                      exact wk_sub _ ⟨rfl, rfl, rfl, trivial⟩
                  · first | refine adl_op rfl rfl rfl (runs_none rfl) (does_load_ref rfl ta30 rfl) ?_ | refine adl_op rfl rfl rfl (runs_none rfl) (does_load_ptr rfl ta30 rfl rfl rfl rfl rfl) ?_
                    refine adl_go [1] (by kernel_rfl) rfl ⟨?_, trivial⟩
                    first | refine adl_op rfl rfl rfl (runs_none rfl) (does_load_refw rfl ta29 ti29 rfl rfl) ?_ | refine adl_op rfl rfl rfl (runs_none rfl) (does_load_whole rfl ta29 ti29 rfl rfl rfl rfl rfl) ?_ | refine adl_op rfl rfl rfl (runs_none rfl) (does_load_refs rfl ta29 ti29 rfl (Nat.le_of_ble_eq_true rfl)) ?_ | refine adl_op rfl rfl rfl (runs_none rfl) (does_load_ptrs rfl ta29 ti29 rfl rfl rfl rfl (Nat.le_of_ble_eq_true rfl)) ?_
                    refine adl_go [4] (by kernel_rfl) rfl ⟨?_, trivial⟩
                    refine adl_eff rfl rfl (runs_none rfl) (does_store rfl ti29 rfl rfl rfl rfl rfl rfl (by decide) (by decide)) ?_
                    refine adl_go [5] (by kernel_rfl) rfl ⟨?_, trivial⟩
                    first | refine adl_op rfl rfl rfl (runs_none rfl) (mv_own (.inr rfl) rfl) ?_ | refine adl_op rfl rfl rfl (runs_none rfl) (mv_sl (.inr rfl) rfl) ?_ | refine adl_op rfl rfl rfl (runs_none rfl) (mv_s (.inr rfl) rfl) ?_ | refine adl_op rfl rfl rfl (runs_none rfl) (mv_emp (.inr rfl) rfl) ?_
                    refine adl_go [6] (by kernel_rfl) rfl ⟨?_, trivial⟩
                    refine adl_op rfl rfl rfl (runs_none rfl) (mv_s (.inr rfl) rfl) ?_
                    refine adl_end (by kernel_rfl) ?_
                    exact wk_sub _ ⟨rfl, rfl, rfl, trivial⟩
                · first | refine adl_op rfl rfl rfl (runs_none rfl) (does_load_ref rfl ta30 rfl) ?_ | refine adl_op rfl rfl rfl (runs_none rfl) (does_load_ptr rfl ta30 rfl rfl rfl rfl rfl) ?_
                  refine adl_go [0] (by kernel_rfl) rfl ⟨?_, trivial⟩
                  first | refine adl_op rfl rfl rfl (runs_none rfl) (does_fieldAddr_ptr rfl tf74_2 (by decide) rfl) ?_ | refine adl_op rfl rfl rfl (runs_none rfl) (does_fieldAddr_ref rfl tf74_2 (by decide) rfl) ?_
                  refine adl_go [1] (by kernel_rfl) rfl ⟨?_, trivial⟩
                  first | refine adl_op rfl rfl rfl (runs_none rfl) (does_load_refw rfl ta29 ti29 rfl rfl) ?_ | refine adl_op rfl rfl rfl (runs_none rfl) (does_load_whole rfl ta29 ti29 rfl rfl rfl rfl rfl) ?_ | refine adl_op rfl rfl rfl (runs_none rfl) (does_load_refs rfl ta29 ti29 rfl (Nat.le_of_ble_eq_true rfl)) ?_ | refine adl_op rfl rfl rfl (runs_none rfl) (does_load_ptrs rfl ta29 ti29 rfl rfl rfl rfl (Nat.le_of_ble_eq_true rfl)) ?_
                  refine adl_go [4] (by kernel_rfl) rfl ⟨?_, trivial⟩
                  refine adl_eff rfl rfl (runs_none rfl) (does_store rfl ti29 rfl rfl rfl rfl rfl rfl (by decide) (by decide)) ?_
                  refine adl_go [5] (by kernel_rfl) rfl ⟨?_, trivial⟩
                  first | refine adl_op rfl rfl rfl (runs_none rfl) (mv_own (.inr rfl) rfl) ?_ | refine adl_op rfl rfl rfl (runs_none rfl) (mv_sl (.inr rfl) rfl) ?_ | refine adl_op rfl rfl rfl (runs_none rfl) (mv_s (.inr rfl) rfl) ?_ | refine adl_op rfl rfl rfl (runs_none rfl) (mv_emp (.inr rfl) rfl) ?_
                  refine adl_go [6] (by kernel_rfl) rfl ⟨?_, trivial⟩
                  refine adl_op rfl rfl rfl (runs_none rfl) (mv_s (.inr rfl) rfl) ?_
                  refine adl_end (by kernel_rfl) ?_
                  exact wk_sub _ ⟨rfl, rfl, rfl, trivial⟩
            repeat (first | refine aw_seq ?_ | refine ath_n ?_ | refine aw_skip ?_ | refine abl_n ?_ | refine aw_block ?_)
            (refine aw_ret ?_; repeat (first | refine ath_r ?_ | refine abl_r ?_))
            rw [hPE, hEE2]
            show APost _ _ (.tup [eC ⟨f.c.p, f.c.c + 1, mi, R⟩, eL eI f.run, eI 0]) _ _ _
            apply post3c (.inr rfl)
            · exact ta29
            · exact ti29
            · exact rfl
            · exact rfl
            · exact rfl
            · exact rfl
            · exact rfl
            · exact rfl
            · exact rfl
            · exact rfl
            · exact .refl _
            · exact .refl _
end Go.Proofs.Ytmhbfoaecebobaa.Aw
end
