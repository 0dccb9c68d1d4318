import Derived.Test.YtohmldibkojkfaaGreatDoorJB41
import Derived.Test.YtohmldibkojkfaaGreatDoorJB32
set_option linter.unusedSimpArgs false
set_option linter.unusedVariables false
set_option linter.unusedSectionVars false
section
namespace Go.Proofs.YtohmldibkojkfaaGreatDoor
open Go.RowKit
def noB : ByteArray := ⟨#[]⟩
def labT (n : Net) (t : Int) : ByteArray := (gti n.trans t.toNat).label
inductive RunW (n : Net) (m0 : List Int) : List ByteArray → List Int → Prop
 | nil : RunW n m0 [] m0
 | sil (w : List ByteArray) (x y : List Int) (t : Int) (h : RunW n m0 w x) (hf : zci n x t = (y, 0)) (hl : labT n t = noB) : RunW n m0 w y
 | act (w : List ByteArray) (x y : List Int) (t : Int) (h : RunW n m0 w x) (hf : zci n x t = (y, 0)) (hl : labT n t ≠ noB) : RunW n m0 (w ++ [labT n t]) y
structure GW (n : Net) (w : List ByteArray) (m0 : List Int) (q : List Nd) : Prop where
 at_ : ∀ i, i < q.length → 0 ≤ (gti q i).k ∧ (gti q i).k ≤ w.length ∧ RunW n m0 (w.take (gti q i).k.toNat) (gti q i).m
theorem GW.step {n : Net} {w : List ByteArray} {m0 : List Int} {q : List Nd} {i : Nat} (h : GW n w m0 q) (hi : i < q.length) {x : Nd} (hx : x = gti q i) (t : Nat) : GW n w m0 (zf3 n w x q t) := by
 subst hx
 unfold zf3
 split
 ·
  exact h
 ·
  rename_i k hk
  split
  ·
   exact h
  ·
   rename_i hc
   rw [not_or] at hc
   obtain ⟨a1, a2, a3⟩ := h.at_ i hi
   have h0 : (zci n (gti q i).m t).2 = 0 := Decidable.not_not.1 hc.1
   refine ⟨fun j hj => ?_⟩
   rw [gti_app]
   split
   ·
    rename_i hlt; exact h.at_ j hlt
   ·
    have hj2 : j = q.length := by simp at hj; omega
    subst hj2
    rw [Nat.sub_self]
    have e : gti [(⟨k, (zci n (gti q i).m t).1, (gti q i).run ++ [(t : Int)]⟩ : Nd)] 0 = ⟨k, (zci n (gti q i).m t).1, (gti q i).run ++ [(t : Int)]⟩ := rfl
    rw [e]
    have hf : zci n (gti q i).m t = ((zci n (gti q i).m t).1, 0) := by rw [← h0]
    have hlt : labT n (t : Int) = (gti n.trans t).label := rfl
    unfold lblK at hk
    split at hk
    ·
     rename_i hl
     cases hk
     exact ⟨a1, a2, .sil _ _ _ _ a3 hf (by rw [hlt]; exact hl)⟩
    ·
     rename_i hl
     split at hk
     ·
      cases hk
     ·
      rename_i hh
      rw [not_or] at hh
      cases hk
      refine ⟨by show 0 ≤ (gti q i).k + 1; omega, by show (gti q i).k + 1 ≤ (w.length : Int); omega, ?_⟩
      have hwl : gti w (gti q i).k.toNat = (gti n.trans t).label := Decidable.not_not.1 hh.2
      have := RunW.act _ _ _ (t : Int) a3 hf (by rw [hlt]; exact hl)
      show RunW n m0 (w.take ((gti q i).k + 1).toNat) _
      rw [show ((gti q i).k + 1).toNat = (gti q i).k.toNat + 1 by omega, List.take_add_one, zbn (by omega), hwl]
      exact this
theorem GW.round {n : Net} {w : List ByteArray} {m0 : List Int} {most : Int} {q : List Nd} {i : Nat} (h : GW n w m0 q) (hi : i < q.length) : ∀ k, GW n w m0 (zb4 n w most (gti q i) q k)
 | 0 => h
 | k + 1 => by
  have h1 := GW.round (most := most) h hi k
  have h2 := zd7 n w most (gti q i) q k
  have h3 := zf4 (n := n) (w := w) (most := most) (x := gti q i) hi k
  unfold zb4
  split
  ·
   exact h1.step (i := i) (by omega) h3.symm k
  ·
   exact h1
theorem zpb (n : Net) (w : List ByteArray) (x : Nd) (q : List Nd) (t : Nat) {z : Int × List Int} (h : z ∈ q.map nkey) : z ∈ (zf3 n w x q t).map nkey := by
 rcases zk3 n w x q t with e | ⟨y, e⟩ <;> rw [e]
 ·
  exact h
 ·
  rw [List.map_append]; exact List.mem_append_left _ h
theorem zjd (n : Net) (w : List ByteArray) (most : Int) (x : Nd) (q : List Nd) {z : Int × List Int} (h : z ∈ q.map nkey) : ∀ k, z ∈ (zb4 n w most x q k).map nkey
 | 0 => h
 | k + 1 => by
  have h1 := zjd n w most x q h k
  unfold zb4
  split
  ·
   exact zpb n w x _ k h1
  ·
   exact h1
theorem zyt {n : Net} {w : List ByteArray} {x : Nd} {q : List Nd} {t : Nat} {k : Int} (hk : lblK n w x t = some k) (h0 : (zci n x.m t).2 = 0) : (k, (zci n x.m t).1) ∈ (zf3 n w x q t).map nkey := by
 unfold zf3
 rw [hk]
 dsimp only
 split
 ·
  rename_i hc
  rcases hc with hc | hc
  ·
   exact absurd h0 hc
  ·
   exact hc
 ·
  rw [List.map_append]
  exact List.mem_append_right _ (by simp [nkey])
theorem zpi {n : Net} {w : List ByteArray} {most : Int} {x : Nd} {q : List Nd} : ∀ K, ((zb4 n w most x q K).length : Int) ≤ most → ∀ t, t < K → ∀ k, lblK n w x t = some k → (zci n x.m t).2 = 0 → (k, (zci n x.m t).1) ∈ (zb4 n w most x q K).map nkey
 | 0, _, t, ht, _, _, _ => by omega
 | K + 1, hl, t, ht, k, hk, h0 => by
  unfold zb4 at hl ⊢
  by_cases hc : ((zb4 n w most x q K).length : Int) ≤ most
  ·
   rw [if_pos hc] at hl ⊢
   by_cases e : t = K
   ·
    subst e; exact zyt hk h0
   ·
    exact zpb n w x _ K (zpi K hc t (by omega) k hk h0)
  ·
   rw [if_neg hc] at hl; exact absurd hl hc
def CF (n : Net) (w : List ByteArray) (i : Nat) (q : List Nd) : Prop := ∀ j, j < i → ∀ t, t < n.trans.length → ∀ k, lblK n w (gti q j) t = some k → (zci n (gti q j).m t).2 = 0 → (k, (zci n (gti q j).m t).1) ∈ q.map nkey
def ND (n : Net) (w : List ByteArray) (i : Nat) (q : List Nd) : Prop := ∀ j, j < i → zgc n w (gti q j) = false
theorem zs0 {n : Net} {w : List ByteArray} {most : Int} {q : List Nd} (hq : most < q.length) : ∀ (f i : Nat) (l : List Int) (e : Int), most.toNat < f + i → (i : Int) ≤ most → zfr n w most f i q = (false, l, e) → e = 13
 | 0, i, l, e, hf, hi, h => by omega
 | f + 1, i, l, e, hf, hi, h => by
  unfold zfr at h
  by_cases hlt : (i : Int) < most
  ·
   rw [if_pos ⟨by omega, hlt⟩] at h
   split at h
   ·
    cases h
   ·
    rw [zpj (by omega)] at h
    exact zs0 hq f (i + 1) l e (by omega) (by omega) h
  ·
   rw [if_neg (by omega), if_pos (by omega)] at h
   cases h; rfl
theorem zvx {n : Net} {w : List ByteArray} {most : Int} {z : Int × List Int} : ∀ (f i : Nat) (q : List Nd) (l : List Int), most.toNat < f + i → (i : Int) ≤ most → i ≤ q.length → z ∈ q.map nkey → CF n w i q → ND n w i q → zfr n w most f i q = (false, l, 0) → l = [] ∧ ∃ q', z ∈ q'.map nkey ∧ CF n w q'.length q' ∧ ND n w q'.length q'
 | 0, i, q, l, hf, hi, _, _, _, _, h => by omega
 | f + 1, i, q, l, hf, hi, hiq, hz, hc, hn, h => by
  unfold zfr at h
  by_cases hlt : i < q.length ∧ (i : Int) < most
  ·
   rw [if_pos hlt] at h
   split at h
   ·
    cases h
   ·
    rename_i hd
    have hge := zd7 n w most (gti q i) q n.trans.length
    have hat := fun j (hj : j < q.length) => zf4 (n := n) (w := w) (most := most) (x := gti q i) hj n.trans.length
    have hfit : ((zb4 n w most (gti q i) q n.trans.length).length : Int) ≤ most := by
     by_cases hbig : most < (zb4 n w most (gti q i) q n.trans.length).length
     ·
      have := zs0 hbig f (i + 1) l 0 (by omega) (by omega) h
      omega
     ·
      omega
    refine zvx f (i + 1) _ l (by omega) (by omega) (by omega) (zjd n w most _ q hz _) (fun j hj t ht k hk h0 => ?_) (fun j hj => ?_) h
    ·
     rw [hat j (by omega)] at hk h0 ⊢
     by_cases e : j = i
     ·
      subst e
      exact zpi _ hfit t ht k hk h0
     ·
      exact zjd n w most _ q (hc j (by omega) t ht k hk h0) _
    ·
     rw [hat j (by omega)]
     by_cases e : j = i
     ·
      subst e
      simpa using hd
     ·
      exact hn j (by omega)
  ·
   rw [if_neg hlt] at h
   by_cases hbig : most < q.length
   ·
    rw [if_pos hbig] at h; simp at h
   ·
    rw [if_neg hbig] at h
    cases h
    have e : i = q.length := by omega
    subst e
    exact ⟨rfl, q, hz, hc, hn⟩
theorem zsz {n : Net} {w : List ByteArray} {m0 : List Int} {most : Int} : ∀ (f i : Nat) (q : List Nd) (l : List Int) (e : Int), GW n w m0 q → zfr n w most f i q = (true, l, e) → RunW n m0 w (oneL n.places.toNat n.sink)
 | 0, i, q, l, e, _, h => by cases h
 | f + 1, i, q, l, e, hg, h => by
  unfold zfr at h
  by_cases hlt : i < q.length ∧ (i : Int) < most
  ·
   rw [if_pos hlt] at h
   split at h
   ·
    rename_i hd
    obtain ⟨a1, a2, a3⟩ := hg.at_ i hlt.1
    unfold zgc at hd
    simp only [Bool.and_eq_true, decide_eq_true_eq] at hd
    rw [hd.1, hd.2, Int.toNat_natCast, List.take_length] at a3
    exact a3
   ·
    exact zsz f (i + 1) _ l e (hg.round hlt.1 _) h
  ·
   rw [if_neg hlt] at h; cases h
theorem zof {n : Net} {x y : List Int} {t : Int} (h : zci n x t = (y, 0)) : ∃ q : Nat, t = q ∧ q < n.trans.length := by
 unfold zci at h
 split at h
 ·
  unfold zjo at h
  split at h
  ·
   cases h
  ·
   rename_i hr
   exact ⟨t.toNat, by omega, by omega⟩
 ·
  cases h
theorem zvb {n : Net} {w : List ByteArray} {m0 : List Int} {q : List Nd} (h0 : ((0 : Int), m0) ∈ q.map nkey) (hc : CF n w q.length q) {v : List ByteArray} {x : List Int} (hr : RunW n m0 v x) : v = w.take v.length → ((v.length : Int), x) ∈ q.map nkey := by
 induction hr with
 | nil => exact fun _ => h0
 | sil v x y t _ hf hl ih =>
  intro hv
  have h1 := ih hv
  obtain ⟨nd, hnd, he⟩ := List.mem_map.1 h1
  obtain ⟨j, hj, rfl⟩ := mem_gti' hnd
  unfold nkey at he
  obtain ⟨e1, e2⟩ := Prod.mk.injEq .. ▸ he
  obtain ⟨q0, rfl, hq0⟩ := zof hf
  have := hc j hj q0 hq0 (v.length : Int) (by
   unfold lblK
   rw [if_pos (show (gti n.trans q0).label = Aw.eBA from hl), e1]) (by rw [e2, hf])
  rw [e2, hf] at this
  exact this
 | act v x y t _ hf hl ih =>
  intro hv
  have hlen : (v ++ [labT n t]).length = v.length + 1 := by simp
  rw [hlen] at hv ⊢
  have hwl : v.length < w.length := by
   have h2 := congrArg List.length hv
   rw [hlen, List.length_take] at h2
   omega
  rw [List.take_add_one, zbn hwl] at hv
  have hv1 : v = w.take v.length ∧ labT n t = gti w v.length := by
   have h3 := List.append_inj hv (by rw [List.length_take]; omega)
   refine ⟨h3.1, ?_⟩
   have h4 := h3.2
   simpa using h4
  have h1 := ih hv1.1
  obtain ⟨nd, hnd, he⟩ := List.mem_map.1 h1
  obtain ⟨j, hj, rfl⟩ := mem_gti' hnd
  unfold nkey at he
  obtain ⟨e1, e2⟩ := Prod.mk.injEq .. ▸ he
  obtain ⟨q0, rfl, hq0⟩ := zof hf
  have := hc j hj q0 hq0 ((v.length : Int) + 1) (by
   unfold lblK
   rw [if_neg (show ¬ (gti n.trans q0).label = Aw.eBA from hl), if_neg, e1]
   rw [e1, Int.toNat_natCast]
   rintro (g | g)
   ·
    omega
   ·
    exact g hv1.2.symm) (by rw [e2, hf])
  rw [e2, hf] at this
  exact_mod_cast this
theorem zxp {n : Net} {w : List ByteArray} {most : Int} {b : Bool} {l : List Int} {e : Int} (h : FitsE n w most = (b, l, e)) (he : b = true ∨ e = 0) : (wfB n = true ∧ allN w = true) ∧ 1 ≤ most ∧ most ≤ 2000 ∧ zfr n w most (most.toNat + 1) 0 [⟨0, oneL n.places.toNat n.source, []⟩] = (b, l, e) := by
 unfold FitsE at h
 split at h
 ·
  rename_i hw
  cases h
  rcases he with he | he
  ·
   cases he
  ·
   exact absurd he hw
 ·
  rename_i hw
  split at h
  ·
   cases h
   rcases he with he | he
   ·
    cases he
   ·
    simp at he
  ·
   rename_i hm
   refine ⟨?_, by omega, by omega, h⟩
   unfold Aw.wordsE at hw
   cases h1 : wfB n <;> cases h2 : allN w <;> simp_all
theorem ztr {n : Net} {w : List ByteArray} {most : Int} {l : List Int} {e : Int} (h : FitsE n w most = (true, l, e)) : RunW n (oneL n.places.toNat n.source) w (oneL n.places.toNat n.sink) := by
 obtain ⟨_, _, _, h4⟩ := zxp h (.inl rfl)
 refine zsz _ _ _ _ _ ⟨fun i hi => ?_⟩ h4
 have : i = 0 := by simp at hi; omega
 subst this
 exact ⟨Int.le_refl 0, by show (0 : Int) ≤ w.length; omega, .nil⟩
theorem z2s {n : Net} {w : List ByteArray} {most : Int} {l : List Int} (h : FitsE n w most = (false, l, 0)) : ¬ RunW n (oneL n.places.toNat n.source) w (oneL n.places.toNat n.sink) := by
 obtain ⟨_, h2, h3, h4⟩ := zxp h (.inr rfl)
 obtain ⟨_, q, hz, hc, hn⟩ := zvx (z := ((0 : Int), oneL n.places.toNat n.source)) _ 0 _ _ (by omega) (by omega) (Nat.zero_le _) (by simp [nkey]) (fun j hj => by omega) (fun j hj => by omega) h4
 intro hr
 have := zvb hz hc hr (by rw [List.take_length])
 obtain ⟨nd, hnd, he⟩ := List.mem_map.1 this
 obtain ⟨j, hj, rfl⟩ := mem_gti' hnd
 unfold nkey at he
 obtain ⟨e1, e2⟩ := Prod.mk.injEq .. ▸ he
 have hd := hn j hj
 unfold zgc at hd
 rw [e1, e2] at hd
 simp at hd
end Go.Proofs.YtohmldibkojkfaaGreatDoor
namespace Go.Proofs.YtohmldibkojkfaaGreatDoor.Dl
open Go.RowKit
section
variable {n : Net} {w : List ByteArray} {c : Cst} {most : Int}
theorem noB_e : noB.toList.isEmpty = true := by
 rw [ByteArray.toList_eq]; rfl
theorem zvt {p : Int} {m : List Int} {t : Nat} (h1 : zih n m t = true) (h2 : (gti n.trans t).label.toList.isEmpty = false) (h3 : atB w p (gti n.trans t).label = true) : ∀ K, t < K → (⟨1, t, (gti n.trans t).label⟩ : Stp) ∈ zc4 n w p m K
 | 0, h => by omega
 | K + 1, h => by
  unfold zc4
  by_cases e : t = K
  ·
   subst e
   refine List.mem_append_right _ ?_
   unfold zmv
   rw [h1, h2, h3]
   exact List.mem_singleton.2 rfl
  ·
   exact List.mem_append_left _ (zvt h1 h2 h3 K (by omega))
theorem zpe {m : List Int} {t : Nat} (h1 : zih n m t = true) (h2 : (gti n.trans t).label.toList.isEmpty = true) : ∀ K, t < K → (⟨4, t, ByteArray.empty⟩ : Stp) ∈ zcl n m K
 | 0, h => by omega
 | K + 1, h => by
  unfold zcl
  by_cases e : t = K
  ·
   subst e
   refine List.mem_append_right _ ?_
   unfold zjk
   rw [h1, h2]
   exact List.mem_singleton.2 rfl
  ·
   exact List.mem_append_left _ (zpe h1 h2 K (by omega))
theorem zsv (p : Int) (m : List Int) (hp : 0 ≤ p) : ∀ K, zc4 n [] p m K = []
 | 0 => rfl
 | K + 1 => by
  unfold zc4
  rw [zsv p m hp K]
  unfold zmv atB
  rw [decide_eq_false (show ¬ p < (([] : List ByteArray).length : Int) by simp; omega)]
  simp
theorem zna {m : List Int} {x : Stp} : ∀ K, x ∈ zcl n m K → x.kind = 3 ∨ x.kind = 4
 | 0, h => by cases h
 | K + 1, h => by
  unfold zcl at h
  rcases List.mem_append.1 h with h | h
  ·
   exact zna K h
  ·
   unfold zjk at h
   split at h
   ·
    split at h
    ·
     simp at h; subst h; exact .inr rfl
    ·
     simp at h; subst h; exact .inl rfl
   ·
    cases h
theorem nn_nx (hc : vcB c = true) : NN (nxD n w c) (okS n w) := fun x e he hx => by obtain ⟨a, b, _⟩ := (zpu hc).ok x hx e he; exact ⟨b, a⟩
theorem run_wk (hc : vcB c = true) (hz : c.silent = 0) {m0 : List Int} (h0 : okS n w (0 :: m0)) {v : List ByteArray} {x : List Int} (hr : RunW n m0 v x) : v = w.take v.length → Wk (nxD n w c) (0 :: m0) ((v.length : Int) :: x) 0 ∧ okS n w ((v.length : Int) :: x) := by
 induction hr with
 | nil => exact fun _ => ⟨.nil, h0⟩
 | sil v x y t _ hf hl ih =>
  intro hv
  obtain ⟨h1, h2⟩ := ih hv
  obtain ⟨q, rfl, hq⟩ := zof hf
  have hfi : zih n x q = true := by unfold zih; rw [hf]; rfl
  have hle : (gti n.trans q).label.toList.isEmpty = true := by
   have : (gti n.trans q).label = noB := hl
   rw [this]; exact noB_e
  have hin : (⟨4, q, ByteArray.empty⟩ : Stp) ∈ zck n w ((v.length : Int) :: x) := List.mem_append_right _ (List.mem_append_right _ (zpe hfi hle _ hq))
  obtain ⟨m1, m2, m3⟩ := zez h2 hin
  have hap : (zbq n w ((v.length : Int) :: x) ⟨4, q, ByteArray.empty⟩).1 = (v.length : Int) :: y := by
   rw [ze3 h2 m2] at m1 ⊢
   unfold zeh at m1 ⊢
   have e1 : zci n (((v.length : Int) :: x).drop 1) (q : Int) = (y, 0) := hf
   have hap2 : ByteArray.empty = (gti n.trans q).label := (zko hle).symm
   simp only [e1] at m1 ⊢
   rw [if_neg (by decide), if_neg (by omega), if_neg (by rw [Int.toNat_natCast, hle]; rintro (h | h); exact h hap2; exact h rfl), if_neg (by rintro ⟨h, _⟩; cases h), if_neg (fun h => h rfl), if_neg (by decide)]
   rfl
  have hs := Wk.step _ 0 ((zbq n w ((v.length : Int) :: x) ⟨4, q, ByteArray.empty⟩).1, zbm c 4) h1 (List.mem_map.2 ⟨_, hin, rfl⟩)
  rw [hap] at hs m3
  have hp : zbm c 4 = 0 := hz
  rw [hp] at hs
  exact ⟨hs, m3⟩
 | act v x y t _ hf hl ih =>
  intro hv
  have hlen : (v ++ [labT n t]).length = v.length + 1 := by simp
  rw [hlen] at hv ⊢
  have hwl : v.length < w.length := by
   have h2 := congrArg List.length hv
   rw [hlen, List.length_take] at h2
   omega
  rw [List.take_add_one, zbn hwl] at hv
  have hv1 : v = w.take v.length ∧ labT n t = gti w v.length := by
   have h3 := List.append_inj hv (by rw [List.length_take]; omega)
   refine ⟨h3.1, ?_⟩
   have h4 := h3.2
   simpa using h4
  obtain ⟨h1, h2⟩ := ih hv1.1
  obtain ⟨q, rfl, hq⟩ := zof hf
  have hfi : zih n x q = true := by unfold zih; rw [hf]; rfl
  have hle : (gti n.trans q).label.toList.isEmpty = false := by
   cases he : (gti n.trans q).label.toList.isEmpty with
   | false => rfl
   | true => exact absurd (zko he) hl
  have hat : atB w (v.length : Int) (gti n.trans q).label = true := by
   unfold atB
   rw [decide_eq_true (show (v.length : Int) < (w.length : Int) by omega), Int.toNat_natCast, decide_eq_true (show gti w v.length = (gti n.trans q).label from hv1.2.symm)]; rfl
  have hin : (⟨1, q, (gti n.trans q).label⟩ : Stp) ∈ zck n w ((v.length : Int) :: x) := List.mem_append_left _ (zvt hfi hle hat _ hq)
  obtain ⟨m1, m2, m3⟩ := zez h2 hin
  have hap : (zbq n w ((v.length : Int) :: x) ⟨1, q, (gti n.trans q).label⟩).1 = ((v.length : Int) + 1) :: y := by
   rw [ze3 h2 m2] at m1 ⊢
   unfold zeh at m1 ⊢
   have e1 : zci n (((v.length : Int) :: x).drop 1) (q : Int) = (y, 0) := hf
   simp only [e1] at m1 ⊢
   rw [if_neg (by decide), if_neg (by omega), if_neg (by rw [Int.toNat_natCast, hle]; rintro (h | h); exact h rfl; exact h rfl), if_neg (by rintro ⟨_, h⟩; rw [show gti ((v.length : Int) :: x) 0 = (v.length : Int) from rfl, hat] at h; cases h), if_neg (fun h => h rfl)]
   simp only [if_true]
   rfl
  have hs := Wk.step _ 0 ((zbq n w ((v.length : Int) :: x) ⟨1, q, (gti n.trans q).label⟩).1, zbm c 1) h1 (List.mem_map.2 ⟨_, hin, rfl⟩)
  rw [hap] at hs m3
  have hp : zbm c 1 = 0 := rfl
  rw [hp] at hs
  have e2 : ((v.length + 1 : Nat) : Int) = (v.length : Int) + 1 := by omega
  rw [e2]
  exact ⟨hs, m3⟩
theorem wk_run (hc : vcB c = true) (hl : 0 < c.log) (hm : 0 < c.model) {m0 : List Int} (h0 : okS n w (0 :: m0)) {s : List Int} {a : Int} (hw : Wk (nxD n w c) (0 :: m0) s a) : okS n w s ∧ 0 ≤ a ∧ (a = 0 → RunW n m0 (w.take (gti s 0).toNat) (s.drop 1)) := by
 induction hw with
 | nil => exact ⟨h0, Int.le_refl _, fun _ => .nil⟩
 | step x a e _ he ih =>
  obtain ⟨i1, i2, i3⟩ := ih
  obtain ⟨n1, n2⟩ := nn_nx hc x e he i1
  refine ⟨n2, by omega, fun hz => ?_⟩
  have hr := i3 (by omega)
  have he0 : e.2 = 0 := by omega
  obtain ⟨m, hmm, rfl⟩ := List.mem_map.1 he
  obtain ⟨m1, m2, m3⟩ := zez i1 hmm
  obtain ⟨f1, f2, f3, f4, f5⟩ := zdj.1 i1
  rw [ze3 i1 m2] at m1 ⊢
  have hp : zbm c m.kind = 0 := he0
  have hk2 : m.kind ≠ 2 := fun h => by rw [h] at hp; have : c.log = 0 := hp; omega
  have hk3 : m.kind ≠ 3 := fun h => by rw [h] at hp; have : c.model = 0 := hp; omega
  have hk : m.kind = 1 ∨ m.kind = 4 := by
   unfold zif at m2
   simp only [Bool.and_eq_true, decide_eq_true_eq] at m2
   omega
  unfold zeh at m1 ⊢
  rw [if_neg hk2] at m1 ⊢
  by_cases ht : m.trans < 0 ∨ (n.trans.length : Int) ≤ m.trans
  ·
   rw [if_pos ht] at m1; cases m1
  rw [if_neg ht] at m1 ⊢
  by_cases hla : m.act ≠ (gti n.trans m.trans.toNat).label ∨ (gti n.trans m.trans.toNat).label.toList.isEmpty ≠ decide (m.kind = 4)
  ·
   rw [if_pos hla] at m1; cases m1
  rw [if_neg hla] at m1 ⊢
  rw [not_or] at hla
  have l1 := Decidable.not_not.1 hla.1
  have l2 := Decidable.not_not.1 hla.2
  by_cases hat : m.kind = 1 ∧ atB w (gti x 0) m.act = false
  ·
   rw [if_pos hat] at m1; cases m1
  rw [if_neg hat] at m1 ⊢
  by_cases hf : (zci n (x.drop 1) m.trans).2 ≠ 0
  ·
   rw [if_pos hf] at m1; exact absurd m1 hf
  rw [if_neg hf]
  have hf0 : zci n (x.drop 1) m.trans = ((zci n (x.drop 1) m.trans).1, 0) := by rw [← Decidable.not_not.1 hf]
  rcases hk with hk | hk
  ·
   rw [if_pos hk]
   show RunW n m0 (w.take (gti x 0 + 1).toNat) (zci n (x.drop 1) m.trans).1
   have hab : atB w (gti x 0) m.act = true := by
    cases h : atB w (gti x 0) m.act with
    | true => rfl
    | false => exact absurd ⟨hk, h⟩ hat
   unfold atB at hab
   simp only [Bool.and_eq_true, decide_eq_true_eq] at hab
   have hne : labT n m.trans ≠ noB := fun h => by
    have h' : (gti n.trans m.trans.toNat).label = noB := h
    rw [h', hk, noB_e] at l2
    exact absurd l2 (by decide)
   have := RunW.act _ _ _ m.trans hr hf0 hne
   rw [show (gti x 0 + 1).toNat = (gti x 0).toNat + 1 by omega, List.take_add_one, zbn (by omega), hab.2, l1]
   exact this
  ·
   rw [if_neg (by omega)]
   show RunW n m0 (w.take (gti x 0).toNat) (zci n (x.drop 1) m.trans).1
   rw [hk] at l2
   exact .sil _ _ _ m.trans hr hf0 (zko l2)
theorem z2a {nx : List Int → List (List Int × Int)} {s0 goal : List Int} {eN eL k e : Int} (h : Out nx s0 goal most eN eL k e) (h0 : e = 0) (h1 : eN ≠ 0) (h2 : eL ≠ 0) : OkS nx s0 goal most k := by
 cases h with
 | ok k h => exact h
 | none h => exact absurd h0 h1
 | lim h => exact absurd h0 h2
theorem zlp (h0 : (zb5 n w c most).2 = 0) : zca n = true ∧ ze9 w = true ∧ vcB c = true ∧ okS n w (0 :: oneL n.places.toNat n.source) ∧ OkS (nxD n w c) (0 :: oneL n.places.toNat n.source) ((w.length : Int) :: oneL n.places.toNat n.sink) most (zb5 n w c most).1 := by
 unfold zb5 at h0 ⊢
 by_cases h1 : (zc0 n w).2 ≠ 0 ∨ vcB c = false
 ·
  rw [if_pos h1] at h0; cases h0
 rw [if_neg h1] at h0 ⊢
 by_cases h2 : most < 1 ∨ 2000 < most
 ·
  rw [if_pos h2] at h0; cases h0
 rw [if_neg h2] at h0 ⊢
 rw [not_or] at h1
 have hs2 : (zc0 n w).2 = 0 := Decidable.not_not.1 h1.1
 have hc : vcB c = true := by
  cases h : vcB c with
  | true => rfl
  | false => exact absurd h h1.2
 obtain ⟨s1, s2, s3, s4, s5, s6⟩ := ziq hs2
 have ho := zrd (goal := (endE n w).1) (most := most) hc s5 (most.toNat * 1000 + 3) _ _ _ _ (zxh s5 (by omega)) (by simp; omega)
 have hk := z2a ho h0 (by decide) (by decide)
 rw [s4] at hk
 rw [s3] at hk s5
 refine ⟨s1, s2, hc, s5, ?_⟩
 unfold srP
 rw [s3, s4]
 exact hk
theorem znf (h0 : (zb5 n w c most).2 = 0) (hl : 0 < c.log) (hm : 0 < c.model) (hz : c.silent = 0) : (zb5 n w c most).1 = 0 ↔ RunW n (oneL n.places.toNat n.source) w (oneL n.places.toNat n.sink) := by
 obtain ⟨h1, h2, h3, h4, h5⟩ := zlp h0
 constructor
 ·
  intro h
  have h6 := (wk_run h3 hl hm h4 h5.wk).2.2 h
  have e : ((((w.length : Int) :: oneL n.places.toNat n.sink)).drop 1) = oneL n.places.toNat n.sink := rfl
  have e2 : (gti ((w.length : Int) :: oneL n.places.toNat n.sink) 0).toNat = w.length := by show ((w.length : Int)).toNat = _; omega
  rw [e, e2, List.take_length] at h6
  exact h6
 ·
  intro h
  have h6 := h5.le 0 (run_wk h3 hz h4 h (by rw [List.take_length])).1
  have h7 := (zga n w c most).1
  omega
theorem wk_nil (hc : vcB c = true) {m0 : List Int} (h0 : okS n [] (0 :: m0)) (h0w : okS n w (0 :: m0)) {s : List Int} {a : Int} (hw : Wk (nxD n [] c) (0 :: m0) s a) : okS n [] s ∧ gti s 0 = 0 ∧ Wk (nxD n w c) (0 :: m0) s a ∧ okS n w s := by
 induction hw with
 | nil => exact ⟨h0, rfl, .nil, h0w⟩
 | step x a e _ he ih =>
  obtain ⟨i1, i2, i3, i4⟩ := ih
  obtain ⟨m, hmm, rfl⟩ := List.mem_map.1 he
  obtain ⟨m1, m2, m3⟩ := zez i1 hmm
  have hmd : m ∈ zcl n (x.drop 1) n.trans.length := by
   unfold zck at hmm
   rw [i2, zsv 0 _ (Int.le_refl _), List.nil_append] at hmm
   rcases List.mem_append.1 hmm with h | h
   ·
    unfold zhz at h; simp at h
   ·
    exact h
  have hkd := zna _ hmd
  have hin : m ∈ zck n w x := List.mem_append_right _ (List.mem_append_right _ hmd)
  obtain ⟨k1, k2, k3⟩ := zez i4 hin
  have hap : zbq n w x m = zbq n [] x m := by
   rw [ze3 i4 k2, ze3 i1 m2]
   unfold zeh
   have e2 : ¬ m.kind = 2 := by omega
   have e1 : ¬ m.kind = 1 := by omega
   simp only [if_neg e2, e1, false_and, if_false]
  have hz : gti (zbq n [] x m).1 0 = 0 := by
   rw [ze3 i1 m2] at m1 ⊢
   unfold zeh at m1 ⊢
   have e2 : ¬ m.kind = 2 := by omega
   have e1 : ¬ m.kind = 1 := by omega
   simp only [if_neg e2, e1, false_and, if_false] at m1 ⊢
   split
   ·
    rename_i h; rw [if_pos h] at m1; cases m1
   ·
    split
    ·
     rename_i h1 h; rw [if_neg h1, if_pos h] at m1; cases m1
    ·
     split
     ·
      rename_i h1 h2 h; rw [if_neg h1, if_neg h2, if_pos h] at m1; exact absurd m1 h
     ·
      exact i2
  refine ⟨m3, hz, ?_, ?_⟩
  ·
   have := Wk.step x a ((zbq n w x m).1, zbm c m.kind) i3 (List.mem_map.2 ⟨m, hin, rfl⟩)
   rw [hap] at this
   exact this
  ·
   rw [hap] at k3; exact k3
theorem zve (hc : vcB c = true) {m0 x : List Int} {a : Int} (h : Wk (nxD n w c) (0 :: m0) (0 :: x) a) (ho : okS n w (0 :: x)) : ∀ k : Nat, k ≤ w.length → Wk (nxD n w c) (0 :: m0) ((k : Int) :: x) (a + c.log * k) ∧ okS n w ((k : Int) :: x)
 | 0, _ => by
  have e : a + c.log * ((0 : Nat) : Int) = a := by simp
  rw [e]; exact ⟨h, ho⟩
 | k + 1, hk => by
  obtain ⟨h1, h2⟩ := zve hc h ho k (by omega)
  have hlt : gti ((k : Int) :: x) 0 < w.length := by show (k : Int) < _; omega
  have hin : (⟨2, -1, gti w (gti ((k : Int) :: x) 0).toNat⟩ : Stp) ∈ zck n w ((k : Int) :: x) := by
   refine List.mem_append_right _ (List.mem_append_left _ ?_)
   unfold zhz
   rw [if_pos hlt]
   exact List.mem_singleton.2 rfl
  obtain ⟨m1, m2, m3⟩ := zez h2 hin
  have hap : (zbq n w ((k : Int) :: x) ⟨2, -1, gti w (gti ((k : Int) :: x) 0).toNat⟩).1 = ((k : Int) + 1) :: x := by
   rw [ze3 h2 m2] at m1 ⊢
   unfold zeh at m1 ⊢
   rw [if_pos rfl, if_neg (fun h => h rfl)] at m1 ⊢
   split
   ·
    rename_i h; rw [if_pos h] at m1; cases m1
   ·
    split
    ·
     rename_i h3 h; rw [if_neg h3, if_pos h] at m1; cases m1
    ·
     rfl
  have hs := Wk.step _ _ ((zbq n w ((k : Int) :: x) ⟨2, -1, gti w (gti ((k : Int) :: x) 0).toNat⟩).1, zbm c 2) h1 (List.mem_map.2 ⟨_, hin, rfl⟩)
  rw [hap] at hs m3
  have e2 : ((k + 1 : Nat) : Int) = (k : Int) + 1 := by omega
  have e3 : a + c.log * (k : Int) + zbm c 2 = a + c.log * ((k : Int) + 1) := by
   have : zbm c 2 = c.log := rfl
   rw [this, Int.mul_add, Int.mul_one]; omega
  rw [e2, ← e3]
  exact ⟨hs, m3⟩
theorem zrr (h0 : (zb5 n w c most).2 = 0) (h1 : (zcs n w c most).2 = 0) : (zb5 n w c most).1 ≤ (zcs n w c most).1 := by
 obtain ⟨g1, g2, g3, g4, g5⟩ := zlp h0
 unfold zcs at h1 ⊢
 by_cases h2 : (zc0 n w).2 ≠ 0 ∨ vcB c = false
 ·
  rw [if_pos h2] at h1; cases h1
 rw [if_neg h2] at h1 ⊢
 by_cases h3 : (zb5 n [] c most).2 ≠ 0
 ·
  rw [if_pos h3] at h1; exact absurd h1 h3
 rw [if_neg h3]
 obtain ⟨k1, k2, k3, k4, k5⟩ := zlp (Decidable.not_not.1 h3)
 obtain ⟨q1, q2, q3, q4⟩ := wk_nil g3 k4 g4 k5.wk
 have := (zve g3 q3 q4 w.length (Nat.le_refl _)).1
 exact g5.le _ this
end
end Go.Proofs.YtohmldibkojkfaaGreatDoor.Dl
end
