import Derived.Test.YtohmldibkojkfaaGreatDoorJA30
import Derived.Test.YtohmldibkojkfaaGreatDoorJA37
import Derived.Test.YtohmldibkojkfaaGreatDoorJA39
import Derived.Test.YtohmldibkojkfaaGreatDoorJA38
import Derived.Test.YtohmldibkojkfaaGreatDoorJA29
import Derived.Test.YtohmldibkojkfaaGreatDoorJA6
set_option linter.unusedSimpArgs false
set_option linter.unusedVariables false
set_option linter.unusedSectionVars false
section
namespace Go.Proofs.YtohmldibkojkfaaGreatDoor.Dl
open Go.RowKit
section
variable {n : Net} {w : List ByteArray} {c : Cst} {most : Int} {s0 goal : List Int}
theorem zvh (hc : vcB c = true) : ∀ (f : Nat) (S : Sr) (en nr : Int), RI n w c s0 goal most S en nr → most - nr < f → (refR n w c most goal f S en nr).2.2 = 0 →
  0 ≤ (refR n w c most goal f S en nr).2.1 ∧ (refR n w c most goal f S en nr).2.1.toNat < (refR n w c most goal f S en nr).1.st.length ∧ (refR n w c most goal f S en nr).1.co.length = (refR n w c most goal f S en nr).1.st.length
 | 0, S, en, nr, h, hf, _ => by have := h.nm; omega
 | f + 1, S, en, nr, h, hf, h0 => by
  obtain ⟨cx, hdi⟩ := h.di
  have hb := zls S S.st.length
  unfold refR at h0 ⊢
  generalize bstR S S.st.length = b at hb h0 ⊢
  by_cases hq : b < 0 ∨ (0 ≤ en ∧ gti S.co en.toNat < gti S.co b.toNat)
  ·
   rw [if_pos hq] at h0 ⊢
   by_cases he : en < 0
   ·
    rw [if_pos he] at h0; cases h0
   ·
    rw [if_neg he]
    rcases h.fd with ⟨f1, _⟩ | ⟨f1, f2, _⟩
    ·
     omega
    ·
     exact ⟨f1, f2, hdi.l1⟩
  ·
   rw [if_neg hq] at h0 ⊢
   by_cases hl : most < nr + 1
   ·
    rw [if_pos hl] at h0; cases h0
   ·
    rw [if_neg hl] at h0 ⊢
    rcases hb with ⟨b1, _⟩ | ⟨b1, b2, b3, b4⟩
    ·
     exact absurd (.inl (by omega)) hq
    ·
     exact zvh hc f _ _ _ (h.take hc b1 b2 b3 b4 (by omega)) (by omega) h0
end
end Go.Proofs.YtohmldibkojkfaaGreatDoor.Dl
namespace Go.Proofs.YtohmldibkojkfaaGreatDoor.Aw
open Go Go.RowKit Go.Proofs Dl
variable {P : Program} [IsP P]
theorem zef (n : Net) (w : List ByteArray) (c : Cst) : ((zce n w).2 ≠ 0 ∨ vcB c = false) ↔ zcz n w c = false := by
 unfold zcz
 by_cases h : (zce n w).2 = 0
 ·
  rw [decide_eq_true h, Bool.true_and]
  exact ⟨fun h1 => h1.resolve_left (fun h2 => h2 h), .inr⟩
 ·
  rw [decide_eq_false h, Bool.false_and]
  exact ⟨fun _ => rfl, fun _ => .inl h⟩
theorem zhm {n : Net} {w : List ByteArray} {c : Cst} (h : ¬ zcz n w c = false) : (zce n w).2 = 0 ∧ vcB c = true := by
 have h1 := fun h2 => h ((zef n w c).1 h2)
 refine ⟨Classical.byContradiction fun h3 => h1 (.inl h3), ?_⟩
 cases hv : vcB c with
 | true => rfl
 | false => exact absurd (.inr hv) h1
theorem zwy (n : Net) (w : List ByteArray) (c : Cst) (most : Int) : zco n w c most = (zjz (runO n w c most), (runO n w c most).2.2) := by
 unfold zco runO
 by_cases h : zcz n w c = false
 ·
  rw [if_pos ((zef n w c).2 h), if_pos h]; rfl
 ·
  rw [if_neg (fun h2 => h ((zef n w c).1 h2)), if_neg h]
  split
  ·
   rfl
  ·
   rfl
theorem zwz (n : Net) (w : List ByteArray) (c : Cst) (most : Int) : zco n w c most = (zjz (runR n w c most), (runR n w c most).2.2) := by
 unfold zco runR
 by_cases h : zcz n w c = false
 ·
  rw [if_pos ((zef n w c).2 h), if_pos h]; rfl
 ·
  rw [if_neg (fun h2 => h ((zef n w c).1 h2)), if_neg h]
  obtain ⟨hs, hc⟩ := zhm h
  by_cases hm : most < 1 ∨ 2000 < most
  ·
   rw [if_pos hm, if_pos hm]; rfl
  ·
   rw [if_neg hm, if_neg hm]
   have := z1j hc hs (most := most) (by omega)
   rw [this.1, this.2]
theorem zoz {f : FuncId} {a b d r : AV} (h : Pure P f [a, .sl [], b, d] r) : Pure P f [a, .s (.slice none 0 0), b, d] r :=
 ⟨h.ent, h.lo, fun G vargs hst hsz hrep => h.call G vargs hst hsz (fun j v x hv hx => by
  match j, hx with
  | 0, hx => exact hrep 0 v x hv hx
  | 1, hx => simp at hx; subst hx; exact zve (hrep 1 v _ hv rfl)
  | 2, hx => exact hrep 2 v x hv hx
  | 3, hx => exact hrep 3 v x hv hx
  | j + 4, hx => simp at hx)⟩
def eII (r : Int × Int) : AV := .tup [eI r.1, eI r.2]
theorem zt5 {k : Nat} (r : Int × Int) : Lo k (eII r) := .tup _ (zaj (.s _) (zaj (.s _) zbb))
theorem zfx {F : Frm} {σ : List Ob} {R : Int × Int} {e : Exit} {k m : Int} (he : e = .normal ∨ e = .ret) (h2 : F.get 8 = eI k) (h3 : F.get 9 = eI m) (hR : R = (k, m)) : zj1 P [.tmp 8, .tmp 9] (eII R) e F σ := by
 subst hR
 exact ⟨he, [eI k, eI m], .cons _ _ _ _ (.tmp _ _ h2) (.cons _ _ _ _ (.tmp _ _ h3) .nil), .refl _⟩
theorem zsg (n : Net) (w : List ByteArray) (c : Cst) (most : Int) : Pure P 33 [eN n, eL eS w, eC c, eI most] (eII (zco n w c most)) := by
 have hrun := run_pf (P := P) n w c most
 have hL := zwy n w c most
 have hok : (runO n w c most).2.2 = 0 → 0 ≤ (runO n w c most).2.1 ∧ (runO n w c most).2.1.toNat < (runO n w c most).1.co.length := by
  intro h
  unfold runO at h ⊢
  by_cases hr : zcz n w c = false
  ·
   rw [if_pos hr] at h; cases h
  ·
   rw [if_neg hr] at h ⊢
   by_cases hm : most < 1 ∨ 2000 < most
   ·
    rw [if_pos hm] at h; cases h
   ·
    rw [if_neg hm] at h ⊢
    obtain ⟨hs, hc⟩ := zhm hr
    have hf := zu1 hc hs (by omega) h
    exact ⟨hf.e0, by rw [hf.l1]; exact hf.el⟩
 generalize runO n w c most = r at hrun hL hok
 generalize zco n w c most = R at hL ⊢
 obtain ⟨S, k, m⟩ := r
 have hln : Lo 0 (.ref (eN n).cells) := .ref _ (lo_N n).cells
 have hlc : Lo 0 (.ref (eC c).cells) := .ref _ (lo_C c).cells
 refine zcy (by rw [IsP.eq (P := P)]; exact Tryz.func33) rfl rfl rfl rfl rfl (zaj (lo_N n) (zaj (lo_W w) (zaj (lo_C c) (zaj (.s _) zbb)))) (zt5 _) (by simp only [argF]; rfl) ?_
 refine zaf (zab (zad rfl rfl (zaa rfl) (zbg rfl rfl rfl rfl) ?_))
 refine zar (zbl (id := 0) rfl) (zar (zb3 (d := 4) rfl rfl rfl) ?_)
 refine zad rfl rfl (zaa rfl) (zbg rfl rfl rfl rfl) ?_
 refine zar (zbl (id := 1) rfl) (zar (zb3 (d := 6) rfl rfl rfl) ?_)
 refine zac rfl (zac rfl (zae (zaf ?_)))
 by_cases hm : m = 0
 ·
  subst hm
  replace hrun : Pure P 64 [eN n, eL eS w, eC c, eI most] (.tup [seR n w c S, eI k, eI 0]) := hrun
  refine zab (zbc ta24 ti24 rfl (zac rfl (zbc ta27 ti27 rfl (zac rfl (zad rfl rfl (zaa rfl) (zai rfl rfl (hrun) (zag rfl (zag rfl (zag rfl (zag rfl zam))))) (zac rfl (zac rfl (zac rfl (zac rfl (zac rfl (zac rfl (zac rfl (zae (zaf (zaf ?_)))))))))))))))
  obtain ⟨h1, h2⟩ := hok rfl
  obtain ⟨i, rfl⟩ : ∃ i : Nat, k = i := ⟨k.toNat, (Int.toNat_of_nonneg h1).symm⟩
  replace h2 : i < S.co.length := h2
  have hix : (S.co.map eI)[i]? = some (eI (gti S.co i)) := zch h2
  refine zab (zac rfl ?_)
  refine zad rfl rfl (zaa rfl) (zbj (fun h => h rfl) (zbf rfl rfl rfl)) ?_
  refine zae (zah (zat rfl (zaq (zaf ?_))))
  refine zbv (zbx [(10, seR n w c S), (11, eI i)] ⟨rfl, rfl, trivial⟩) ?_
  refine zab (zac rfl (zac rfl (zbm zg5 rfl (zbu ta48 rfl (zac rfl (zad rfl rfl (zaa rfl) (zap rfl ts48 ti3 rfl rfl rfl hix rfl) (zbu ta3 rfl (zac rfl (zac rfl (zae (zah ?_)))))))))))
  (refine zav ?_; repeat (first | refine za6 ?_ | refine za7 ?_))
  exact zfx (.inr rfl) rfl rfl hL
 ·
  replace hrun : Pure P 64 [eN n, eL eS w, eC c, eI most] (.tup [.s (.pointer none), eI k, eI m]) := by unfold eRun at hrun; rwa [if_neg hm] at hrun
  refine zab (zbc ta24 ti24 rfl (zac rfl (zbc ta27 ti27 rfl (zac rfl (zad rfl rfl (zaa rfl) (zai rfl rfl (hrun) (zag rfl (zag rfl (zag rfl (zag rfl zam))))) (zac rfl (zac rfl (zac rfl (zac rfl (zac rfl (zac rfl (zac rfl (zae (zaf (zaf (zab (zac rfl (zad rfl rfl (zaa rfl) (zbn hm (zbf rfl rfl rfl)) (zae (zah (zax rfl (zaf (zab (zac rfl (zac rfl (zac rfl (zae (zah ?_))))))))))))))))))))))))))))
  (refine zav ?_; repeat (first | refine za6 ?_ | refine za7 ?_))
  refine zfx (.inr rfl) rfl rfl ?_
  rw [hL]
  unfold zjz
  rw [if_neg hm]
theorem zov (n : Net) (w : List ByteArray) (c : Cst) (most : Int) : Pure P 68 [eN n, eL eS w, eC c, eI most] (eII (zco n w c most)) := by
 have hrun := ztr (P := P) n w c most
 have hL := zwz n w c most
 have hok : (runR n w c most).2.2 = 0 → 0 ≤ (runR n w c most).2.1 ∧ (runR n w c most).2.1.toNat < (runR n w c most).1.st.length ∧ (runR n w c most).1.co.length = (runR n w c most).1.st.length := by
  intro h
  unfold runR at h ⊢
  by_cases hr : zcz n w c = false
  ·
   rw [if_pos hr] at h; cases h
  ·
   rw [if_neg hr] at h ⊢
   by_cases hm : most < 1 ∨ 2000 < most
   ·
    rw [if_pos hm] at h; cases h
   ·
    rw [if_neg hm] at h ⊢
    obtain ⟨hs, hc⟩ := zhm hr
    exact zvh hc _ _ _ _ (zw6 (zgk hs).2.2.2.2.1 (by omega)) (by omega) h
 generalize runR n w c most = r at hrun hL hok
 generalize zco n w c most = R at hL ⊢
 obtain ⟨S, k, m⟩ := r
 have hln : Lo 0 (.ref (eN n).cells) := .ref _ (lo_N n).cells
 have hlc : Lo 0 (.ref (eC c).cells) := .ref _ (lo_C c).cells
 refine zcy (by rw [IsP.eq (P := P)]; exact Tryz.func68) rfl rfl rfl rfl rfl (zaj (lo_N n) (zaj (lo_W w) (zaj (lo_C c) (zaj (.s _) zbb)))) (zt5 _) (by simp only [argF]; rfl) ?_
 refine zaf (zab (zad rfl rfl (zaa rfl) (zbg rfl rfl rfl rfl) ?_))
 refine zar (zbl (id := 0) rfl) (zar (zb3 (d := 4) rfl rfl rfl) ?_)
 refine zad rfl rfl (zaa rfl) (zbg rfl rfl rfl rfl) ?_
 refine zar (zbl (id := 1) rfl) (zar (zb3 (d := 6) rfl rfl rfl) ?_)
 refine zac rfl (zac rfl (zae (zaf (zab (zbc ta24 ti24 rfl (zac rfl (zbc ta27 ti27 rfl (zac rfl (zad rfl rfl (zaa rfl) (zai rfl rfl (hrun) (zag rfl (zag rfl (zag rfl (zag rfl zam))))) (zac rfl (zac rfl (zac rfl (zac rfl (zac rfl (zac rfl (zac rfl (zae (zaf (zaf ?_)))))))))))))))))))
 by_cases hm : m = 0
 ·
  subst hm
  obtain ⟨h1, h2, h3⟩ := hok rfl
  obtain ⟨i, rfl⟩ : ∃ i : Nat, k = i := ⟨k.toNat, (Int.toNat_of_nonneg h1).symm⟩
  replace h2 : i < S.st.length := h2
  have hix : (fnds S)[i]? = some (aFd (gti S.st i) (gti S.co i) (gti S.dn i) (mx0 (gti S.fr i)) (gti S.mv i)) := zf0 h2
  refine zab (zac rfl ?_)
  refine zad rfl rfl (zaa rfl) (zbj (fun h => h rfl) (zbf rfl rfl rfl)) ?_
  refine zae (zah (zat rfl (zaq (zaf (zab (zac rfl (zac rfl (zad rfl rfl (zaa rfl) (zap rfl zd1 zd5 rfl rfl rfl hix rfl) (zbm zeq rfl (zbu ta3 rfl (zac rfl (zac rfl (zae (zah ?_))))))))))))))
  (refine zav ?_; repeat (first | refine za6 ?_ | refine za7 ?_))
  exact zfx (.inr rfl) rfl rfl hL
 ·
  refine zab (zac rfl (zad rfl rfl (zaa rfl) (zbn hm (zbf rfl rfl rfl)) (zae (zah (zax rfl (zaf (zab (zac rfl (zac rfl (zac rfl (zae (zah ?_))))))))))))
  (refine zav ?_; repeat (first | refine za6 ?_ | refine za7 ?_))
  refine zfx (.inr rfl) rfl rfl ?_
  rw [hL]
  unfold zjz
  rw [if_neg hm]
theorem zrt {n : Net} {w : List ByteArray} {c : Cst} {most : Int} (hr : zcz n w c = true) : IntKind.i64.wrap (c.log * (w.length : Int)) = c.log * (w.length : Int) ∧ IntKind.i64.wrap ((zco n [] c most).1 + c.log * (w.length : Int)) = (zco n [] c most).1 + c.log * (w.length : Int) := by
 obtain ⟨hs, hc⟩ := zhm (by rw [hr]; decide)
 have hw : w.length ≤ 200 := by
  have := (zgk hs).2.1
  unfold zd4 at this
  simp only [Bool.and_eq_true, decide_eq_true_eq] at this
  exact this.1
 have hb : 0 ≤ c.log ∧ c.log ≤ 1000 := by
  unfold vcB inB at hc
  simp only [Bool.and_eq_true, decide_eq_true_eq] at hc
  exact hc.1
 have hl := zir n [] c most
 have h3 : 0 ≤ c.log * (w.length : Int) := Int.mul_nonneg hb.1 (by omega)
 have h4 : c.log * (w.length : Int) ≤ 1000 * 200 := Int.mul_le_mul hb.2 (by omega) (by omega) (by omega)
 exact ⟨IntWalk.i64_in _ (by omega), IntWalk.i64_in _ (by omega)⟩
theorem zyi (n : Net) (w : List ByteArray) (c : Cst) (most : Int) : Pure P 34 [eN n, eL eS w, eC c, eI most] (eII (zdz n w c most)) := by
 have hrt := zr4 (P := P) n w c
 have hle := zoz (zsg (P := P) n [] c most)
 have har := fun h => zrt (n := n) (w := w) (c := c) (most := most) h
 have hW : zdz n w c most = if zcz n w c = false then (0, 1) else if (zco n [] c most).2 ≠ 0 then (0, (zco n [] c most).2) else ((zco n [] c most).1 + c.log * w.length, 0) := by
  unfold zdz
  by_cases h : zcz n w c = false
  ·
   rw [if_pos ((zef n w c).2 h), if_pos h]
  ·
   rw [if_neg (fun h2 => h ((zef n w c).1 h2)), if_neg h]
 generalize zcz n w c = rb at hrt har hW
 generalize zco n [] c most = r at hle har hW
 generalize zdz n w c most = R at hW ⊢
 obtain ⟨k, m⟩ := r
 have hln : Lo 0 (.ref (eN n).cells) := .ref _ (lo_N n).cells
 have hlc : Lo 0 (.ref (eC c).cells) := .ref _ (lo_C c).cells
 refine zcy (by rw [IsP.eq (P := P)]; exact Tryz.func34) rfl rfl rfl rfl rfl (zaj (lo_N n) (zaj (lo_W w) (zaj (lo_C c) (zaj (.s _) zbb)))) (zt5 _) (by simp only [argF]; rfl) ?_
 refine zaf (zab (zad rfl rfl (zaa rfl) (zbg rfl rfl rfl rfl) ?_))
 refine zar (zbl (id := 0) rfl) (zar (zb3 (d := 4) rfl rfl rfl) ?_)
 refine zad rfl rfl (zaa rfl) (zbg rfl rfl rfl rfl) ?_
 refine zar (zbl (id := 1) rfl) (zar (zb3 (d := 6) rfl rfl rfl) ?_)
 refine zac rfl (zac rfl (zae (zaf (zaf ?_))))
 cases rb with
 | false =>
  refine zab (zbc ta24 ti24 rfl (zac rfl (zbc ta27 ti27 rfl (zad rfl rfl (zaa rfl) (zai rfl rfl (hrt) (zag rfl (zag rfl (zag rfl zam)))) (zad rfl rfl (zaa rfl) (zay rfl rfl) (zae (zah (zax rfl (zaf (zab (zac rfl (zac rfl (zae (zah ?_))))))))))))))
  (refine zav ?_; repeat (first | refine za6 ?_ | refine za7 ?_))
  exact zfx (.inr rfl) rfl rfl (hW.trans (if_pos rfl))
 | true =>
 rw [if_neg (by decide)] at hW
 obtain ⟨ha1, ha2⟩ := har rfl
 refine zab (zbc ta24 ti24 rfl (zac rfl (zbc ta27 ti27 rfl (zad rfl rfl (zaa rfl) (zai rfl rfl (hrt) (zag rfl (zag rfl (zag rfl zam)))) (zad rfl rfl (zaa rfl) (zay rfl rfl) (zae (zah (zat rfl (zaq (zaf (zab (zbc ta24 ti24 rfl (zbc ta27 ti27 rfl (zac rfl (zad rfl rfl (zaa rfl) (zai rfl rfl (hle) (zag rfl (zag rfl (zag rfl (zag rfl zam))))) (zac rfl (zac rfl (zac rfl (zac rfl (zac rfl (zae (zaf (zaf ?_)))))))))))))))))))))))
 by_cases hm : m = 0
 ·
  subst hm
  refine zab (zac rfl ?_)
  refine zad rfl rfl (zaa rfl) (zbj (fun h => h rfl) (zbf rfl rfl rfl)) ?_
  refine zae (zah (zat rfl (zaq (zaf (zab (zac rfl (zbm z0a rfl (zbu ta3 rfl (zac rfl (zad rfl rfl (zaa rfl) (zak rfl ts44 rfl) (zad rfl rfl (zaa rfl) (zgu rfl rfl rfl ha1) (zad rfl rfl (zaa rfl) (za9 rfl rfl rfl ha2) (zac rfl (zac rfl (zae (zah ?_))))))))))))))))
  (refine zav ?_; repeat (first | refine za6 ?_ | refine za7 ?_))
  exact zfx (.inr rfl) rfl rfl (hW.trans (if_neg (fun h => h rfl)))
 ·
  refine zab (zac rfl (zad rfl rfl (zaa rfl) (zbn hm (zbf rfl rfl rfl)) (zae (zah (zax rfl (zaf (zab (zac rfl (zac rfl (zac rfl (zae (zah ?_))))))))))))
  (refine zav ?_; repeat (first | refine za6 ?_ | refine za7 ?_))
  exact zfx (.inr rfl) rfl rfl (hW.trans (if_pos hm))
theorem zvj (n : Net) (w : List ByteArray) (c : Cst) (most : Int) : Pure P 69 [eN n, eL eS w, eC c, eI most] (eII (zdz n w c most)) := by
 have hrt := zoy (P := P) n w c 1
 have hle := zoz (zov (P := P) n [] c most)
 have har := fun h => zrt (n := n) (w := w) (c := c) (most := most) h
 have hgv : givR n w c 1 = if zcz n w c = false then 1 else 0 := by
  unfold givR
  by_cases h : zcz n w c = false
  ·
   rw [if_pos h, if_pos h]
  ·
   rw [if_neg h, if_neg h]; rfl
 rw [hgv] at hrt
 have hW : zdz n w c most = if zcz n w c = false then (0, 1) else if (zco n [] c most).2 ≠ 0 then (0, (zco n [] c most).2) else ((zco n [] c most).1 + c.log * w.length, 0) := by
  unfold zdz
  by_cases h : zcz n w c = false
  ·
   rw [if_pos ((zef n w c).2 h), if_pos h]
  ·
   rw [if_neg (fun h2 => h ((zef n w c).1 h2)), if_neg h]
 clear hgv
 generalize zcz n w c = rb at hrt har hW
 generalize zco n [] c most = r at hle har hW
 generalize zdz n w c most = R at hW ⊢
 obtain ⟨k, m⟩ := r
 have hln : Lo 0 (.ref (eN n).cells) := .ref _ (lo_N n).cells
 have hlc : Lo 0 (.ref (eC c).cells) := .ref _ (lo_C c).cells
 refine zcy (by rw [IsP.eq (P := P)]; exact Tryz.func69) rfl rfl rfl rfl rfl (zaj (lo_N n) (zaj (lo_W w) (zaj (lo_C c) (zaj (.s _) zbb)))) (zt5 _) (by simp only [argF]; rfl) ?_
 refine zaf (zab (zad rfl rfl (zaa rfl) (zbg rfl rfl rfl rfl) ?_))
 refine zar (zbl (id := 0) rfl) (zar (zb3 (d := 4) rfl rfl rfl) ?_)
 refine zad rfl rfl (zaa rfl) (zbg rfl rfl rfl rfl) ?_
 refine zar (zbl (id := 1) rfl) (zar (zb3 (d := 6) rfl rfl rfl) ?_)
 refine zac rfl (zac rfl (zae (zaf (zaf (zab (zbc ta24 ti24 rfl (zac rfl (zbc ta27 ti27 rfl (zad rfl rfl (zaa rfl) (zai rfl rfl (hrt) (zag rfl (zag rfl (zag rfl (zag rfl zam))))) (zac rfl (zae (zaf ?_))))))))))))
 cases rb with
 | false =>
  refine zab (zac rfl (zad rfl rfl (zaa rfl) (zbn (by decide) (zbf rfl rfl rfl)) (zae (zah (zax rfl (zaf (zab (zac rfl (zac rfl (zac rfl (zae (zah ?_))))))))))))
  (refine zav ?_; repeat (first | refine za6 ?_ | refine za7 ?_))
  exact zfx (.inr rfl) rfl rfl (hW.trans (if_pos rfl))
 | true =>
 rw [if_neg (by decide)] at hW
 obtain ⟨ha1, ha2⟩ := har rfl
 refine zab (zac rfl (zad rfl rfl (zaa rfl) (zbj (by decide) (zbf rfl rfl rfl)) (zae (zah (zat rfl (zaq (zaf (zab (zbc ta24 ti24 rfl (zbc ta27 ti27 rfl (zac rfl (zad rfl rfl (zaa rfl) (zai rfl rfl (hle) (zag rfl (zag rfl (zag rfl (zag rfl zam))))) (zac rfl (zac rfl (zac rfl (zac rfl (zac rfl (zae (zaf (zaf ?_))))))))))))))))))))
 by_cases hm : m = 0
 ·
  subst hm
  refine zab (zac rfl ?_)
  refine zad rfl rfl (zaa rfl) (zbj (fun h => h rfl) (zbf rfl rfl rfl)) ?_
  refine zae (zah (zat rfl (zaq (zaf (zab (zac rfl (zbm z0a rfl (zbu ta3 rfl (zac rfl (zad rfl rfl (zaa rfl) (zak rfl ts44 rfl) (zad rfl rfl (zaa rfl) (zgu rfl rfl rfl ha1) (zad rfl rfl (zaa rfl) (za9 rfl rfl rfl ha2) (zac rfl (zac rfl (zae (zah ?_))))))))))))))))
  (refine zav ?_; repeat (first | refine za6 ?_ | refine za7 ?_))
  exact zfx (.inr rfl) rfl rfl (hW.trans (if_neg (fun h => h rfl)))
 ·
  refine zab (zac rfl (zad rfl rfl (zaa rfl) (zbn hm (zbf rfl rfl rfl)) (zae (zah (zax rfl (zaf (zab (zac rfl (zac rfl (zac rfl (zae (zah ?_))))))))))))
  (refine zav ?_; repeat (first | refine za6 ?_ | refine za7 ?_))
  exact zfx (.inr rfl) rfl rfl (hW.trans (if_pos hm))
end Go.Proofs.YtohmldibkojkfaaGreatDoor.Aw
end
section
namespace Go.Proofs.YtohmldibkojkfaaGreatDoor.Aw
open Go Go.RowKit Go.Proofs Dl
variable {P : Program} [IsP P]
theorem z06 {G : Cx} {vargs : Array Value} {s : ByteArray} (hsz : vargs.size = [eS s].length) (hrep : ∀ (j : Nat) v y, vargs[j]? = some v → [eS s][j]? = some y → Rep G v y) : vargs = #[.string s] := by
 obtain ⟨q⟩ := vargs
 match q, hsz with
 | [a], _ =>
  have := zdr (hrep 0 a _ rfl rfl)
  subst this
  rfl
theorem zw4 (s : ByteArray) : Pure P 78 [eS s] (eB (ze3 s)) :=
 ze2 (zc1 Tryz.func78 rfl rfl) fun G vargs hst hsz hrep => by
  rw [z06 hsz hrep]; exact zhs s G.w
theorem ztu (s : ByteArray) : Pure P 71 [eS s] (eB (ze3 s)) :=
 ze2 (zc1 Tryz.func71 rfl rfl) fun G vargs hst hsz hrep => by
  rw [z06 hsz hrep]; exact zeu s G.w
theorem zwg (s : ByteArray) : Pure P 145 [eS s] (eB (!ze3 s)) := by
 have h := zw4 (P := P) s
 refine zcy (by rw [IsP.eq (P := P)]; exact Tryz.func145) rfl rfl rfl rfl rfl (zaj (.s _) zbb) (.s _) (by simp only [argF]; rfl) ?_
 refine zaf (zab (zac rfl (zae (zaf (zab (zac rfl (zad rfl rfl (zaa rfl) (zai rfl rfl (h) (zag rfl zam)) (zad rfl rfl (zaa rfl) (zay rfl rfl) (zac rfl (zae (zah ?_)))))))))))
 (refine zav ?_; repeat (first | refine za6 ?_ | refine za7 ?_))
 exact zbq (.inr rfl) rfl rfl
theorem zuf (l : List ByteArray) : Pure P 116 [eL eS l] (eB (allN l)) := by
 have hc := zi2 (P := P) 145 [] (fun a => !ze3 a) l (fun _ => .s _) (.fn _ _ (by simp)) (fun a _ => zwg a)
 have e : (!(l.any fun a => !ze3 a)) = allN l := by rw [zrn]; simp [List.all_eq_not_any_not]
 refine zcy (by rw [IsP.eq (P := P)]; exact Tryz.func116) rfl rfl rfl rfl rfl (zaj (zb9 fun _ => .s _) zbb) (.s _) (by simp only [argF]; rfl) ?_
 refine zaf (zab (zac rfl (zae (zaf (zab (zac rfl (zad rfl rfl (zaa rfl) (zai rfl rfl (hc) (zag rfl (zag rfl zam))) (zad rfl rfl (zaa rfl) (zay rfl rfl) (zac rfl (zae (zah ?_)))))))))))
 (refine zav ?_; repeat (first | refine za6 ?_ | refine za7 ?_))
 exact zbq (.inr rfl) rfl (congrArg eB e)
theorem zvn (l : List ByteArray) : Pure P 41 [eL eS l] (eB (allN l)) := by
 obtain ⟨R, hR⟩ : ∃ R, allN l = R := ⟨_, rfl⟩
 rw [hR]
 refine zcy (by rw [IsP.eq (P := P)]; exact Tryz.func41) rfl rfl rfl rfl rfl (zaj (lo_W l) zbb) (.s _) (by simp only [argF]; rfl) ?_
 refine zju (d := 0) rfl (fun hmx => ?_)
 unfold maxLen at hmx
 refine zaf (zab (zac rfl (zae (zaf (zaf (zab (zac rfl (zae (zah (zaw ?_))))))))))
 refine zcb (S := Nat) (fun k => [(0, eL eS l), (3, eI k)]) (fun _ => []) (fun k => k ≤ l.length ∧ allN (l.drop k) = R) (fun k => l.length - k) 0 (zbx _ ⟨rfl, rfl, trivial⟩) ⟨Nat.zero_le _, hR⟩ (fun k hk => ?_)
 obtain ⟨hk, he⟩ := hk
 by_cases hlt : k < l.length
 ·
  have hix : (l.map eS)[k]? = some (eS (gti l k)) := zch hlt
  have hn := ztu (P := P) (gti l k)
  rw [zcr hlt, allN] at he
  generalize ze3 (gti l k) = b at hn he
  refine zaf (zaf (zab (zac rfl (zac rfl (zad rfl rfl (zaa rfl) (zak rfl ts44 rfl) (zad rfl rfl (zaa rfl) (zbn (by omega) (zaz rfl rfl rfl)) (zae (zah (zax rfl (zaq (zaf (zaw (zaf ?_)))))))))))))
  cases b with
  | true =>
   refine zab (zac rfl (zac rfl (zad rfl rfl (zaa rfl) (zap rfl ts44 ti9 rfl rfl rfl hix rfl) (zbu ta9 rfl (zad rfl rfl (zaa rfl) (zai rfl rfl (hn) (zag rfl zam)) (zad rfl rfl (zaa rfl) (zay rfl rfl) (zae (zah (zat rfl (zaq (zb8 (zah (zab (zac rfl (zad rfl rfl (zaa rfl) (za9 rfl rfl rfl (IntWalk.i64_in _ (by omega))) (zac rfl (zae (zah ?_))))))))))))))))))
   exact ⟨k + 1, ⟨by show k + 1 ≤ l.length; omega, he⟩, by show l.length - (k + 1) < l.length - k; omega, zbx _ ⟨rfl, rfl, trivial⟩⟩
  | false =>
   refine zab (zac rfl (zac rfl (zad rfl rfl (zaa rfl) (zap rfl ts44 ti9 rfl rfl rfl hix rfl) (zbu ta9 rfl (zad rfl rfl (zaa rfl) (zai rfl rfl (hn) (zag rfl zam)) (zad rfl rfl (zaa rfl) (zay rfl rfl) (zae (zah (zax rfl (zaf (zab (zac rfl (zae (zah ?_))))))))))))))
   (refine zav ?_; repeat (first | refine za6 ?_ | refine za7 ?_))
   exact zbq (.inr rfl) rfl (congrArg eB he)
 ·
  have e : k = l.length := by omega
  subst e
  rw [List.drop_length] at he
  refine zaf (zaf (zab (zac rfl (zac rfl (zad rfl rfl (zaa rfl) (zak rfl ts44 rfl) (zad rfl rfl (zaa rfl) (zbj (by omega) (zaz rfl rfl rfl)) (zae (zah (zat rfl ?_)))))))))
  (refine zcg ?_; repeat (first | refine zdn ?_ | refine zb7 ?_ | refine zbs rfl ?_ | refine zb8 ?_ | refine zah ?_ | refine zaf ?_ | refine zaq ?_ | refine zaw ?_))
  refine zab (zac rfl (zae (zah ?_)))
  (refine zav ?_; repeat (first | refine za6 ?_ | refine za7 ?_))
  exact zbq (.inr rfl) rfl (congrArg eB he)
theorem zso (s : ByteArray) : Pure P 161 [eS s] (eB false) := by
 refine zcy (by rw [IsP.eq (P := P)]; exact Tryz.func161) rfl rfl rfl rfl rfl (zaj (.s _) zbb) (.s _) (by simp only [argF]; rfl) ?_
 refine zaf (zab (zac rfl (zae (zaf (zab (zac rfl (zac rfl (zad rfl rfl (zaa rfl) (zzq rfl rfl rfl) (zac rfl (zae (zah ?_)))))))))))
 (refine zav ?_; repeat (first | refine za6 ?_ | refine za7 ?_))
 exact zbq (.inr rfl) rfl (congrArg eB (by simp))
theorem z0r (a b : ByteArray) : gtS a b = !(Go.Op.bytesLess a.toList b.toList || decide (a = b)) := by
 unfold gtS ltS
 have : (a.toList == b.toList) = decide (a = b) := by rw [Bool.eq_iff_iff]; simp [toList_inj]
 rw [this]
theorem z22 (a b : ByteArray) : Pure P 157 [eS a, eS b] (eI (cmpS a b)) := by
 have h1 := zso (P := P) a
 have h2 := zso (P := P) b
 have hR : cmpS a b = if ltS a b = true then -1 else if gtS a b = true then 1 else 0 := rfl
 rw [z0r] at hR
 unfold ltS at hR
 refine zcy (by rw [IsP.eq (P := P)]; exact Tryz.func157) rfl rfl rfl rfl rfl (zaj (.s _) (zaj (.s _) zbb)) (.s _) (by simp only [argF]; rfl) ?_
 refine zaf (zab (zac rfl (zae (zaf (zab (zac rfl (zad rfl rfl (zaa rfl) (zai rfl rfl (h1) (zag rfl zam)) (zac rfl (zae (zaf (zab (zac rfl (zad rfl rfl (zaa rfl) (zai rfl rfl (h2) (zag rfl zam)) (zac rfl (zae (zaf (zaf (zab (zac rfl (zae (zah (zat rfl (zaq (zaf (zaf (zab (zac rfl (zae (zah (zat rfl (zaq (zaf (zaf (zab (zac rfl (zac rfl (zad rfl rfl (zaa rfl) (zs3 rfl rfl rfl) (zae ?_))))))))))))))))))))))))))))))))))))))
 refine zah ?_
 refine zf2 rfl (fun h => ?_) (fun h => ?_)
 ·
  refine zaf (zab (zac rfl (zae (zah ?_))))
  (refine zav ?_; repeat (first | refine za6 ?_ | refine za7 ?_))
  exact zbq (.inr rfl) rfl (congrArg eI (hR.trans (if_pos h)).symm)
 ·
  rw [if_neg (by rw [h]; decide)] at hR
  refine zaq (zaf (zaf (zab (zac rfl (zac rfl (zad rfl rfl (zaa rfl) (zs5 rfl rfl rfl) (zae (zah ?_))))))))
  refine zf2 rfl (fun h => ?_) (fun h => ?_)
  ·
   refine zaf (zab (zac rfl (zae (zah ?_))))
   (refine zav ?_; repeat (first | refine za6 ?_ | refine za7 ?_))
   exact zbq (.inr rfl) rfl (congrArg eI (hR.trans (if_pos h)).symm)
  ·
   refine zaq (zaf (zab (zac rfl (zae (zah ?_)))))
   (refine zav ?_; repeat (first | refine za6 ?_ | refine za7 ?_))
   exact zbq (.inr rfl) rfl (congrArg eI (hR.trans (if_neg (by rw [h]; decide))).symm)
theorem z23 (x y : List ByteArray) : Pure P 146 [eL eS x, eL eS y] (eI (cmpW x y)) := by
 obtain ⟨R, hR⟩ : ∃ R, cmpW x y = R := ⟨_, rfl⟩
 rw [hR]
 refine zcy (by rw [IsP.eq (P := P)]; exact Tryz.func146) rfl rfl rfl rfl rfl (zaj (lo_W x) (zaj (lo_W y) zbb)) (.s _) (by simp only [argF]; rfl) ?_
 refine zju (d := 0) rfl (fun hmx => ?_)
 unfold maxLen at hmx
 refine zaf (zab (zac rfl (zae (zaf (zaf (zab (zac rfl (zad rfl rfl (zaa rfl) (zak rfl ts44 rfl) (zac rfl (zae (zah (zaw ?_))))))))))))
 refine zcb (S := Nat) (fun k => [(0, eL eS x), (1, eL eS y), (9, eL eS x), (10, eI x.length), (11, eI k)]) (fun _ => []) (fun k => k ≤ x.length ∧ cmpW (x.drop k) (y.drop k) = R) (fun k => x.length - k) 0 (zbx _ ⟨rfl, rfl, rfl, rfl, rfl, trivial⟩) ⟨Nat.zero_le _, hR⟩ (fun k hk => ?_)
 obtain ⟨hk, he⟩ := hk
 by_cases hlt : k < x.length
 ·
  have hix : (x.map eS)[k]? = some (eS (gti x k)) := zch hlt
  refine zaf (zab (zad rfl rfl (zaa rfl) (zbn (by omega) (zaz rfl rfl rfl)) (zae (zaf (zax rfl (zaq (zaf (zaw (zaf (zab (zac rfl (zad rfl rfl (zaa rfl) (zap rfl ts44 ti9 rfl rfl rfl hix rfl) (zbu ta9 rfl (zac rfl (zac rfl (zae (zaf (zaf ?_))))))))))))))))))
  by_cases hy : k < y.length
  ·
   have hiy : (y.map eS)[k]? = some (eS (gti y k)) := zch hy
   have hc := z22 (P := P) (gti x k) (gti y k)
   rw [zxw hlt hy] at he
   generalize cmpS (gti x k) (gti y k) = b at hc he
   refine zab (zac rfl (zac rfl (zad rfl rfl (zaa rfl) (zak rfl ts44 rfl) (zad rfl rfl (zaa rfl) (zbj (by omega) (zcx rfl rfl rfl)) (zae (zah (zat rfl (zaq (zaf (zab (zac rfl (zac rfl (zad rfl rfl (zaa rfl) (zap rfl ts44 ti9 rfl rfl rfl hiy rfl) (zbu ta9 rfl (zac rfl (zae (zaf (zab (zac rfl (zac rfl (zad rfl rfl (zaa rfl) (zai rfl rfl (hc) (zag rfl (zag rfl zam))) (zac rfl (zae (zaf ?_))))))))))))))))))))))))
   by_cases hb : b ≠ 0
   ·
    rw [if_pos hb] at he
    refine zab (zac rfl (zad rfl rfl (zaa rfl) (zbn hb (zbf rfl rfl rfl)) (zae (zah (zax rfl (zaf (zab (zac rfl (zac rfl (zae (zah ?_)))))))))))
    (refine zav ?_; repeat (first | refine za6 ?_ | refine za7 ?_))
    exact zbq (.inr rfl) rfl (congrArg eI he)
   ·
    rw [if_neg hb] at he
    refine zab (zac rfl (zad rfl rfl (zaa rfl) (zbj hb (zbf rfl rfl rfl)) (zae (zah (zat rfl (zaq (zb8 (zah (zab (zad rfl rfl (zaa rfl) (za9 rfl rfl rfl (IntWalk.i64_in _ (by omega))) (zac rfl (zae (zah ?_)))))))))))))
    exact ⟨k + 1, ⟨by show k + 1 ≤ x.length; omega, he⟩, by show x.length - (k + 1) < x.length - k; omega, zbx _ ⟨rfl, rfl, rfl, rfl, rfl, trivial⟩⟩
  ·
   rw [z01 hlt (by omega)] at he
   refine zab (zac rfl (zac rfl (zad rfl rfl (zaa rfl) (zak rfl ts44 rfl) (zad rfl rfl (zaa rfl) (zbn (by omega) (zcx rfl rfl rfl)) (zae (zah (zax rfl (zaf (zab (zac rfl (zae (zah ?_))))))))))))
   (refine zav ?_; repeat (first | refine za6 ?_ | refine za7 ?_))
   exact zbq (.inr rfl) rfl (congrArg eI he)
 ·
  have e : k = x.length := by omega
  subst e
  refine zaf (zab (zad rfl rfl (zaa rfl) (zbj (by omega) (zaz rfl rfl rfl)) (zae (zaf (zat rfl ?_)))))
  (refine zcg ?_; repeat (first | refine zdn ?_ | refine zb7 ?_ | refine zbs rfl ?_ | refine zb8 ?_ | refine zah ?_ | refine zaf ?_ | refine zaq ?_ | refine zaw ?_))
  by_cases hy : x.length < y.length
  ·
   rw [z00 (Nat.le_refl _) hy] at he
   refine zab (zac rfl (zad rfl rfl (zaa rfl) (zak rfl ts44 rfl) (zac rfl (zad rfl rfl (zaa rfl) (zak rfl ts44 rfl) (zad rfl rfl (zaa rfl) (zbn (by omega) (zaz rfl rfl rfl)) (zae (zah (zax rfl (zaf (zab (zac rfl (zae (zah ?_)))))))))))))
   (refine zav ?_; repeat (first | refine za6 ?_ | refine za7 ?_))
   exact zbq (.inr rfl) rfl (congrArg eI he)
  ·
   rw [z02 (Nat.le_refl _) (by omega)] at he
   refine zab (zac rfl (zad rfl rfl (zaa rfl) (zak rfl ts44 rfl) (zac rfl (zad rfl rfl (zaa rfl) (zak rfl ts44 rfl) (zad rfl rfl (zaa rfl) (zbj (by omega) (zaz rfl rfl rfl)) (zae (zah (zat rfl (zaq (zaf (zab (zac rfl (zae (zah ?_))))))))))))))
   (refine zav ?_; repeat (first | refine za6 ?_ | refine za7 ?_))
   exact zbq (.inr rfl) rfl (congrArg eI he)
theorem z15 (x y : List ByteArray) : Pure P 117 [eL eS x, eL eS y] (eI (cmpW x y)) := by
 have h := z23 (P := P) x y
 refine zcy (by rw [IsP.eq (P := P)]; exact Tryz.func117) rfl rfl rfl rfl rfl (zaj (lo_W x) (zaj (lo_W y) zbb)) (.s _) (by simp only [argF]; rfl) ?_
 refine zaf (zab (zac rfl (zae (zaf (zab (zac rfl (zac rfl (zad rfl rfl (zaa rfl) (zai rfl rfl (h) (zag rfl (zag rfl zam))) (zac rfl (zae (zah ?_)))))))))))
 (refine zav ?_; repeat (first | refine za6 ?_ | refine za7 ?_))
 exact zbq (.inr rfl) rfl rfl
theorem zyu (x y : List ByteArray) : Pure P 42 [eL eS x, eL eS y] (eI (cmpW x y)) := by
 obtain ⟨R, hR⟩ : ∃ R, cmpW x y = R := ⟨_, rfl⟩
 rw [hR]
 refine zcy (by rw [IsP.eq (P := P)]; exact Tryz.func42) rfl rfl rfl rfl rfl (zaj (lo_W x) (zaj (lo_W y) zbb)) (.s _) (by simp only [argF]; rfl) ?_
 refine zju (d := 0) rfl (fun hmx => ?_)
 unfold maxLen at hmx
 refine zaf (zab (zac rfl (zae (zaf (zaf (zab (zac rfl (zae (zah (zaw ?_))))))))))
 refine zcb (S := Nat) (fun k => [(0, eL eS x), (1, eL eS y), (5, eI k)]) (fun _ => []) (fun k => k ≤ x.length ∧ k ≤ y.length ∧ cmpW (x.drop k) (y.drop k) = R) (fun k => x.length - k) 0 (zbx _ ⟨rfl, rfl, rfl, trivial⟩) ⟨Nat.zero_le _, Nat.zero_le _, hR⟩ (fun k hk => ?_)
 obtain ⟨hk, hk2, he⟩ := hk
 by_cases hb : k < x.length ∧ k < y.length
 ·
  obtain ⟨hlt, hy⟩ := hb
  have hix : (x.map eS)[k]? = some (eS (gti x k)) := zch hlt
  have hiy : (y.map eS)[k]? = some (eS (gti y k)) := zch hy
  have hc : cmpS (gti x k) (gti y k) = if ltS (gti x k) (gti y k) = true then -1 else if gtS (gti x k) (gti y k) = true then 1 else 0 := rfl
  rw [z0r] at hc
  unfold ltS at hc
  rw [zxw hlt hy] at he
  refine zaf (zaf (zab (zac rfl (zac rfl (zad rfl rfl (zaa rfl) (zak rfl ts44 rfl) (zad rfl rfl (zaa rfl) (zbn (by omega) (zaz rfl rfl rfl)) (zac rfl (zac rfl (zac rfl (zad rfl rfl (zan rfl rfl rfl) (zak rfl ts44 rfl) (zad rfl rfl (zan rfl rfl rfl) (zbn (by omega) (zaz rfl rfl rfl)) (zac rfl (zae (zah (zax rfl (zaq (zaf (zaw (zaf (zaf ?_))))))))))))))))))))
  refine zb1 hmix ?_
  refine za5 (by kernel_rfl) ?_
  refine qx_s rfl (qx_s rfl (za2 rfl rfl (zaa rfl) (zap rfl ts44 ti9 rfl rfl rfl hix rfl) (qx_l ta9 rfl (qx_s rfl (qx_s rfl (za2 rfl rfl (zaa rfl) (zap rfl ts44 ti9 rfl rfl rfl hiy rfl) (qx_l ta9 rfl (za2 rfl rfl (zaa rfl) (zs3 rfl rfl rfl) ?_))))))))
  refine zck ?_
  refine zah ?_
  refine zf2 rfl (fun h => ?_) (fun h => ?_)
  ·
   rw [if_pos h] at hc
   rw [hc, if_pos (by decide)] at he
   refine zaf (zab (zac rfl (zae (zah ?_))))
   (refine zav ?_; repeat (first | refine za6 ?_ | refine za7 ?_))
   exact zbq (.inr rfl) rfl (congrArg eI he)
  ·
   rw [if_neg (by rw [h]; decide)] at hc
   refine zaq (zaf ?_)
   refine zb1 hmix ?_
   refine za5 (by kernel_rfl) ?_
   refine qx_s rfl (qx_s rfl (za2 rfl rfl (zaa rfl) (zap rfl ts44 ti9 rfl rfl rfl hix rfl) (qx_l ta9 rfl (qx_s rfl (qx_s rfl (za2 rfl rfl (zaa rfl) (zap rfl ts44 ti9 rfl rfl rfl hiy rfl) (qx_l ta9 rfl (za2 rfl rfl (zaa rfl) (zs5 rfl rfl rfl) ?_))))))))
   refine zck ?_
   refine zah ?_
   refine zf2 rfl (fun h => ?_) (fun h => ?_)
   ·
    rw [if_pos h] at hc
    rw [hc, if_pos (by decide)] at he
    refine zaf (zab (zac rfl (zae (zah ?_))))
    (refine zav ?_; repeat (first | refine za6 ?_ | refine za7 ?_))
    exact zbq (.inr rfl) rfl (congrArg eI he)
   ·
    rw [if_neg (by rw [h]; decide)] at hc
    rw [hc, if_neg (by decide)] at he
    refine zaq (zb8 (zah (zab (zac rfl (zad rfl rfl (zaa rfl) (za9 rfl rfl rfl (IntWalk.i64_in _ (by omega))) (zac rfl (zae (zah ?_))))))))
    exact ⟨k + 1, ⟨by show k + 1 ≤ x.length; omega, by show k + 1 ≤ y.length; omega, he⟩, by show x.length - (k + 1) < x.length - k; omega, zbx _ ⟨rfl, rfl, rfl, trivial⟩⟩
 ·
  by_cases hx : k < x.length
  ·
   have hke : k = y.length := by omega
   subst hke
   rw [z01 hx (Nat.le_refl _)] at he
   refine zaf (zaf (zab (zac rfl (zac rfl (zad rfl rfl (zaa rfl) (zak rfl ts44 rfl) (zad rfl rfl (zaa rfl) (zbn (by omega) (zaz rfl rfl rfl)) (zac rfl (zac rfl (zac rfl (zad rfl rfl (zan rfl rfl rfl) (zak rfl ts44 rfl) (zad rfl rfl (zan rfl rfl rfl) (zbj (by omega) (zaz rfl rfl rfl)) (zac rfl (zae (zah (zat rfl ?_)))))))))))))))
   (refine zcg ?_; repeat (first | refine zdn ?_ | refine zb7 ?_ | refine zbs rfl ?_ | refine zb8 ?_ | refine zah ?_ | refine zaf ?_ | refine zaq ?_ | refine zaw ?_))
   refine zab (zac rfl (zad rfl rfl (zaa rfl) (zak rfl ts44 rfl) (zac rfl (zad rfl rfl (zaa rfl) (zak rfl ts44 rfl) (zad rfl rfl (zaa rfl) (zbj (by omega) (zaz rfl rfl rfl)) (zae (zah (zat rfl (zaq (zaf (zaf (zab (zac rfl (zad rfl rfl (zaa rfl) (zak rfl ts44 rfl) (zac rfl (zad rfl rfl (zaa rfl) (zak rfl ts44 rfl) (zad rfl rfl (zaa rfl) (zbn (by omega) (za4 rfl rfl rfl)) (zae (zah (zax rfl (zaf (zab (zac rfl (zae ?_))))))))))))))))))))))))
   refine zah ?_
   (refine zav ?_; repeat (first | refine za6 ?_ | refine za7 ?_))
   exact zbq (.inr rfl) rfl (congrArg eI he)
  ·
   have hke : k = x.length := by omega
   subst hke
   refine zaf (zaf (zab (zac rfl (zac rfl (zad rfl rfl (zaa rfl) (zak rfl ts44 rfl) (zad rfl rfl (zaa rfl) (zbj (by omega) (zaz rfl rfl rfl)) (zac rfl (za3 rfl (za3 rfl (za3 rfl (za3 rfl (zac rfl (zae (zah (zat rfl ?_)))))))))))))))
   (refine zcg ?_; repeat (first | refine zdn ?_ | refine zb7 ?_ | refine zbs rfl ?_ | refine zb8 ?_ | refine zah ?_ | refine zaf ?_ | refine zaq ?_ | refine zaw ?_))
   by_cases hy : x.length < y.length
   ·
    rw [z00 (Nat.le_refl _) hy] at he
    refine zab (zac rfl (zad rfl rfl (zaa rfl) (zak rfl ts44 rfl) (zac rfl (zad rfl rfl (zaa rfl) (zak rfl ts44 rfl) (zad rfl rfl (zaa rfl) (zbn (by omega) (zaz rfl rfl rfl)) (zae (zah (zax rfl (zaf (zab (zac rfl (zae (zah ?_)))))))))))))
    (refine zav ?_; repeat (first | refine za6 ?_ | refine za7 ?_))
    exact zbq (.inr rfl) rfl (congrArg eI he)
   ·
    rw [z02 (Nat.le_refl _) (by omega)] at he
    refine zab (zac rfl (zad rfl rfl (zaa rfl) (zak rfl ts44 rfl) (zac rfl (zad rfl rfl (zaa rfl) (zak rfl ts44 rfl) (zad rfl rfl (zaa rfl) (zbj (by omega) (zaz rfl rfl rfl)) (zae (zah (zat rfl (zaq (zaf (zaf (zab (zac rfl (zad rfl rfl (zaa rfl) (zak rfl ts44 rfl) (zac rfl (zad rfl rfl (zaa rfl) (zak rfl ts44 rfl) (zad rfl rfl (zaa rfl) (zbj (by omega) (za4 rfl rfl rfl)) (zae (zah (zat rfl (zaq (zaf (zab (zac rfl ?_))))))))))))))))))))))))
    refine zae (zah ?_)
    (refine zav ?_; repeat (first | refine za6 ?_ | refine za7 ?_))
    exact zbq (.inr rfl) rfl (congrArg eI he)
def aVr (acts : List ByteArray) (cnt : Int) : AV := .agg [eL eS acts, eI cnt]
def eVr (v : Vr) : AV := aVr v.acts v.cnt
theorem zww {k : Nat} (v : Vr) : Lo k (eVr v) := .agg _ (zaj (lo_W _) (zaj (.s _) zbb))
theorem zfz {k : Nat} (l : List Vr) : Lo k (eL eVr l) := zb9 fun v => zww v
theorem zuq {l : List Vr} {i : Nat} : vvAt l i = true ↔ (gti l i).acts.length ≤ 200 ∧ allN (gti l i).acts = true ∧ 1 ≤ (gti l i).cnt ∧ (gti l i).cnt ≤ 1048576 ∧ (i = 0 ∨ cmpW (gti l (i - 1)).acts (gti l i).acts < 0) := by
 unfold vvAt okV
 simp only [Bool.and_eq_true, Bool.or_eq_true, decide_eq_true_eq]
 constructor
 ·
  rintro ⟨⟨a, b, c, d⟩, e⟩; exact ⟨a, b, c, d, e⟩
 ·
  rintro ⟨a, b, c, d, e⟩; exact ⟨⟨a, b, c, d⟩, e⟩
theorem zz8 {l : List Vr} {i : Nat} (h : ¬ ((gti l i).acts.length ≤ 200 ∧ allN (gti l i).acts = true ∧ 1 ≤ (gti l i).cnt ∧ (gti l i).cnt ≤ 1048576 ∧ (i = 0 ∨ cmpW (gti l (i - 1)).acts (gti l i).acts < 0))) : vvAt l i = false := by
 cases hv : vvAt l i with
 | false => rfl
 | true => exact absurd (zuq.1 hv) h
theorem z1a (l : List Vr) : Pure P 84 [eL eVr l] (eB (vvB l)) := by
 obtain ⟨R, hR⟩ : ∃ R, vvB l = R := ⟨_, rfl⟩
 rw [hR]
 refine zcy (by rw [IsP.eq (P := P)]; exact Tryz.func84) rfl rfl rfl rfl rfl (zaj (zfz l) zbb) (.s _) (by simp only [argF]; rfl) ?_
 refine zaf (zab (zac rfl (zae (zaf (zaf ?_)))))
 by_cases hlen : l.length ≤ 300
 rotate_left 1
 ·
  have hF : R = false := by rw [← hR]; unfold vvB; rw [decide_eq_false hlen, Bool.false_and]
  refine zab (zac rfl (zad rfl rfl (zaa rfl) (zak rfl ts25 rfl) (zad rfl rfl (zaa rfl) (zbn (by omega) (za4 rfl rfl rfl)) (zae (zah (zax rfl (zaf (zab (zac rfl (zae (zah ?_)))))))))))
  (refine zav ?_; repeat (first | refine za6 ?_ | refine za7 ?_))
  exact zbq (.inr rfl) rfl (congrArg eB hF.symm)
 refine zab (zac rfl (zad rfl rfl (zaa rfl) (zak rfl ts25 rfl) (zad rfl rfl (zaa rfl) (zbj (by omega) (za4 rfl rfl rfl)) (zae (zah (zat rfl (zaq (zaf (zaf (zab (zac rfl (zad rfl rfl (zaa rfl) (zak rfl ts25 rfl) (zac rfl (zae (zah (zaw ?_))))))))))))))))
 refine zcb (S := Nat) (fun k => [(0, eL eVr l), (8, eL eVr l), (9, eI l.length), (10, eI k)]) (fun _ => []) (fun k => k ≤ l.length ∧ ∀ i, i < k → vvAt l i = true) (fun k => l.length - k) 0 (zbx _ ⟨rfl, rfl, rfl, rfl, trivial⟩) ⟨Nat.zero_le _, fun i h => by omega⟩ (fun k hk => ?_)
 obtain ⟨hk, he⟩ := hk
 by_cases hlt : k < l.length
 ·
  have hix : (l.map eVr)[k]? = some (eVr (gti l k)) := zch hlt
  have hb := zuq (l := l) (i := k)
  have hbf := zz8 (l := l) (i := k)
  have hvf := fun h => vvB_f (l := l) hlt h
  rw [hR] at hvf
  have hnm := zuf (P := P) (gti l k).acts
  have hcp := fun y => z15 (P := P) y (gti l k).acts
  generalize gti l k = v at hix hb hbf hnm hcp
  obtain ⟨acts, cnt⟩ := v
  replace hix : (l.map eVr)[k]? = some (aVr acts cnt) := hix
  replace hnm : Pure P 116 [eL eS acts] (eB (allN acts)) := hnm
  dsimp only at hb hbf hcp
  generalize allN acts = bn at hnm hb hbf
  have hlv : Lo 0 (.ref (aVr acts cnt).cells) := .ref _ (zww ⟨acts, cnt⟩).cells
  refine zaf (zab (zad rfl rfl (zaa rfl) (zbn (by omega) (zaz rfl rfl rfl)) (zae (zaf (zax rfl (zaq (zaf (zaw (zaf (zab (zac rfl (zad rfl rfl (zaa rfl) (zap rfl ts25 ti46 rfl rfl rfl hix rfl) (zbc ta46 ti46 rfl (zad rfl rfl (zaa rfl) (zbw rfl ti46 rfl rfl) (zac rfl (zbz rfl (zaa rfl) (za0 rfl ti46 rfl rfl rfl rfl rfl rfl (by decide) (by decide)) (zae (zaf ?_))))))))))))))))))
  refine zbv (zbl (id := 0) rfl) ?_
  refine zbv (zb3 (d := 4) rfl rfl rfl) ?_
  refine zbv (zed (σ' := []) [] (by decide) trivial (F' := [(0, eL eVr l), (8, eL eVr l), (9, eI l.length), (10, eI k), (3, eI k), (4, .ref (aVr acts cnt).cells)]) ⟨.lo _ (zfz l), .lo _ (zfz l), .lo _ (.s _), .lo _ (.s _), .lo _ (.s _), .lo _ hlv, trivial⟩) ?_
  by_cases h1 : acts.length ≤ 200
  rotate_left 1
  ·
   have hF := hvf (hbf (by rintro ⟨a, _⟩; exact h1 a))
   refine zb1 hmix ?_
   refine za5 (by kernel_rfl) ?_
   refine qx_f zcn rfl (qx_l ta44 rfl (za2 rfl rfl (zaa rfl) (zak rfl ts44 rfl) (za2 rfl rfl (zaa rfl) (zbn (by omega) (za4 rfl rfl rfl)) (qx_s rfl (qx_z rfl (qx_z rfl (qx_z rfl (qx_z rfl (qx_s rfl (qx_s rfl (qx_z rfl (qx_z rfl (qx_z rfl (qx_s rfl (qx_s rfl (qx_z rfl (qx_z rfl (qx_z rfl (qx_s rfl (qx_s rfl (qx_z rfl (qx_z rfl (qx_z rfl (zbe rfl rfl (zbd rfl rfl rfl) (zbe rfl rfl (zbd rfl rfl rfl) (zbe rfl rfl (zbd rfl rfl rfl) (zbe rfl rfl (zbd rfl rfl rfl) (zbe rfl rfl (zbd rfl rfl rfl) (zbe rfl rfl (zbd rfl rfl rfl) ?_)))))))))))))))))))))))))))))
   refine zbe rfl rfl (zbd rfl rfl rfl) (zbe rfl rfl (zbd rfl rfl rfl) (zbe rfl rfl (zbd rfl rfl rfl) (zbe rfl rfl (zbd rfl rfl rfl) (qx_z rfl (qx_s rfl ?_)))))
   refine zck ?_
   refine zah (zax rfl (zaf (zab (zac rfl (zae (zah ?_))))))
   (refine zav ?_; repeat (first | refine za6 ?_ | refine za7 ?_))
   exact zbq (.inr rfl) rfl (congrArg eB hF.symm)
  cases bn with
  | false =>
   have hF := hvf (hbf (by rintro ⟨_, a, _⟩; cases a))
   refine zb1 hmix ?_
   refine za5 (by kernel_rfl) ?_
   refine qx_f zcn rfl (qx_l ta44 rfl (za2 rfl rfl (zaa rfl) (zak rfl ts44 rfl) (za2 rfl rfl (zaa rfl) (zbj (by omega) (za4 rfl rfl rfl)) (qx_s rfl (qx_f zcn rfl (qx_l ta44 rfl (za2 rfl rfl (zan rfl rfl rfl) (zai rfl rfl (hnm) (zag rfl zam)) (za2 rfl rfl (zan rfl rfl rfl) (zay rfl rfl) (qx_s rfl (qx_s rfl (qx_z rfl (qx_z rfl (qx_z rfl (qx_s rfl (qx_s rfl (qx_z rfl (qx_z rfl (qx_z rfl (qx_s rfl (qx_s rfl (qx_z rfl (qx_z rfl (qx_z rfl (zbe rfl rfl (zbd rfl rfl rfl) (zbe rfl rfl (zbd rfl rfl rfl) ?_)))))))))))))))))))))))))
   refine zbe rfl rfl (zbd rfl rfl rfl) (zbe rfl rfl (zbd rfl rfl rfl) (zbe rfl rfl (zbd rfl rfl rfl) (zbe rfl rfl (zbd rfl rfl rfl) (zbe rfl rfl (zbd rfl rfl rfl) (zbe rfl rfl (zbd rfl rfl rfl) (zbe rfl rfl (zbd rfl rfl rfl) (zbe rfl rfl (zbd rfl rfl rfl) (qx_z rfl (qx_s rfl ?_)))))))))
   refine zck ?_
   refine zah (zax rfl (zaf (zab (zac rfl (zae (zah ?_))))))
   (refine zav ?_; repeat (first | refine za6 ?_ | refine za7 ?_))
   exact zbq (.inr rfl) rfl (congrArg eB hF.symm)
  | true =>
  by_cases h3 : 1 ≤ cnt
  rotate_left 1
  ·
   have hF := hvf (hbf (by rintro ⟨_, _, a, _⟩; exact h3 a))
   refine zb1 hmix ?_
   refine za5 (by kernel_rfl) ?_
   refine qx_f zcn rfl (qx_l ta44 rfl (za2 rfl rfl (zaa rfl) (zak rfl ts44 rfl) (za2 rfl rfl (zaa rfl) (zbj (by omega) (za4 rfl rfl rfl)) (qx_s rfl (qx_f zcn rfl (qx_l ta44 rfl (za2 rfl rfl (zan rfl rfl rfl) (zai rfl rfl (hnm) (zag rfl zam)) (za2 rfl rfl (zan rfl rfl rfl) (zay rfl rfl) (qx_s rfl (qx_s rfl (qx_f zen rfl (qx_l ta3 rfl (za2 rfl rfl (zan rfl rfl rfl) (zbn (by omega) (zaz rfl rfl rfl)) (qx_s rfl (qx_s rfl (qx_z rfl (qx_z rfl (qx_z rfl (qx_s rfl (qx_s rfl (qx_z rfl (qx_z rfl (qx_z rfl (zbe rfl rfl (zbd rfl rfl rfl) ?_))))))))))))))))))))))))
   refine zbe rfl rfl (zbd rfl rfl rfl) (zbe rfl rfl (zbd rfl rfl rfl) (zbe rfl rfl (zbd rfl rfl rfl) (zbe rfl rfl (zbd rfl rfl rfl) (zbe rfl rfl (zbd rfl rfl rfl) (zbe rfl rfl (zbd rfl rfl rfl) (zbe rfl rfl (zbd rfl rfl rfl) (zbe rfl rfl (zbd rfl rfl rfl) (zbe rfl rfl (zbd rfl rfl rfl) (qx_z rfl (qx_s rfl ?_))))))))))
   refine zck ?_
   refine zah (zax rfl (zaf (zab (zac rfl (zae (zah ?_))))))
   (refine zav ?_; repeat (first | refine za6 ?_ | refine za7 ?_))
   exact zbq (.inr rfl) rfl (congrArg eB hF.symm)
  by_cases h4 : cnt ≤ 1048576
  rotate_left 1
  ·
   have hF := hvf (hbf (by rintro ⟨_, _, _, a, _⟩; exact h4 a))
   refine zb1 hmix ?_
   refine za5 (by kernel_rfl) ?_
   refine qx_f zcn rfl (qx_l ta44 rfl (za2 rfl rfl (zaa rfl) (zak rfl ts44 rfl) (za2 rfl rfl (zaa rfl) (zbj (by omega) (za4 rfl rfl rfl)) (qx_s rfl (qx_f zcn rfl (qx_l ta44 rfl (za2 rfl rfl (zan rfl rfl rfl) (zai rfl rfl (hnm) (zag rfl zam)) (za2 rfl rfl (zan rfl rfl rfl) (zay rfl rfl) (qx_s rfl (qx_s rfl (qx_f zen rfl (qx_l ta3 rfl (za2 rfl rfl (zan rfl rfl rfl) (zbj (by omega) (zaz rfl rfl rfl)) (qx_s rfl (qx_s rfl (qx_f zen rfl (qx_l ta3 rfl (za2 rfl rfl (zan rfl rfl rfl) (zbn (by omega) (za4 rfl rfl rfl)) ?_))))))))))))))))))
   refine qx_s rfl (qx_s rfl (qx_z rfl (qx_z rfl (qx_z rfl (zbe rfl rfl (zbd rfl rfl rfl) (zbe rfl rfl (zbd rfl rfl rfl) (zbe rfl rfl (zbd rfl rfl rfl) (zbe rfl rfl (zbd rfl rfl rfl) (zbe rfl rfl (zbd rfl rfl rfl) (zbe rfl rfl (zbd rfl rfl rfl) (zbe rfl rfl (zbd rfl rfl rfl) (zbe rfl rfl (zbd rfl rfl rfl) (zbe rfl rfl (zbd rfl rfl rfl) (zbe rfl rfl (zbd rfl rfl rfl) (qx_z rfl (qx_s rfl ?_))))))))))))))))
   refine zck ?_
   refine zah (zax rfl (zaf (zab (zac rfl (zae (zah ?_))))))
   (refine zav ?_; repeat (first | refine za6 ?_ | refine za7 ?_))
   exact zbq (.inr rfl) rfl (congrArg eB hF.symm)
  cases k with
  | zero =>
   refine zb1 hmix ?_
   refine za5 (by kernel_rfl) ?_
   refine qx_f zcn rfl (qx_l ta44 rfl (za2 rfl rfl (zaa rfl) (zak rfl ts44 rfl) (za2 rfl rfl (zaa rfl) (zbj (by omega) (za4 rfl rfl rfl)) (qx_s rfl (qx_f zcn rfl (qx_l ta44 rfl (za2 rfl rfl (zan rfl rfl rfl) (zai rfl rfl (hnm) (zag rfl zam)) (za2 rfl rfl (zan rfl rfl rfl) (zay rfl rfl) (qx_s rfl (qx_s rfl (qx_f zen rfl (qx_l ta3 rfl (za2 rfl rfl (zan rfl rfl rfl) (zbj (by omega) (zaz rfl rfl rfl)) (qx_s rfl (qx_s rfl (qx_f zen rfl (qx_l ta3 rfl (za2 rfl rfl (zan rfl rfl rfl) (zbj (by omega) (za4 rfl rfl rfl)) ?_))))))))))))))))))
   refine qx_s rfl (qx_s rfl (qx_s rfl (za2 rfl rfl (zan rfl rfl rfl) (zbj (by decide) (za4 rfl rfl rfl)) (qx_s rfl (qx_z rfl (qx_z rfl (qx_z rfl (qx_z rfl (qx_z rfl (qx_z rfl (qx_z rfl (qx_z rfl (qx_z rfl (qx_z rfl (qx_s rfl (qx_s rfl ?_))))))))))))))))
   refine zck ?_
   refine zah (zat rfl (zaq (zb8 (zah (zab (zad rfl rfl (zaa rfl) (za9 rfl rfl rfl (IntWalk.i64_in _ (by omega))) (zac rfl (zae (zah ?_)))))))))
   refine ⟨0 + 1, ⟨by show 0 + 1 ≤ l.length; omega, fun i hi => ?_⟩, by show l.length - (0 + 1) < l.length - 0; omega, zbx _ ⟨rfl, rfl, rfl, rfl, trivial⟩⟩
   by_cases hik : i = 0
   ·
    rw [hik]; exact hb.2 ⟨h1, rfl, h3, h4, .inl rfl⟩
   ·
    exact he i (by omega)
  | succ y =>
   have hiy : (l.map eVr)[y]? = some (eVr (gti l y)) := zch (by omega)
   have hc := hcp (gti l y).acts
   have hsb : IntKind.i64.wrap (((y + 1 : Nat) : Int) - 1) = (y : Int) := by rw [show ((y + 1 : Nat) : Int) - 1 = y by omega]; exact IntWalk.i64_in _ (by omega)
   replace hb : vvAt l (y + 1) = true ↔ acts.length ≤ 200 ∧ true = true ∧ 1 ≤ cnt ∧ cnt ≤ 1048576 ∧ (y + 1 = 0 ∨ cmpW (gti l y).acts acts < 0) := hb
   replace hbf : ¬ (acts.length ≤ 200 ∧ true = true ∧ 1 ≤ cnt ∧ cnt ≤ 1048576 ∧ (y + 1 = 0 ∨ cmpW (gti l y).acts acts < 0)) → vvAt l (y + 1) = false := hbf
   generalize cmpW (gti l y).acts acts = z at hc hb hbf
   by_cases h5 : z < 0
   ·
    refine zb1 hmix ?_
    refine za5 (by kernel_rfl) ?_
    refine qx_f zcn rfl (qx_l ta44 rfl (za2 rfl rfl (zaa rfl) (zak rfl ts44 rfl) (za2 rfl rfl (zaa rfl) (zbj (by omega) (za4 rfl rfl rfl)) (qx_s rfl (qx_f zcn rfl (qx_l ta44 rfl (za2 rfl rfl (zan rfl rfl rfl) (zai rfl rfl (hnm) (zag rfl zam)) (za2 rfl rfl (zan rfl rfl rfl) (zay rfl rfl) (qx_s rfl (qx_s rfl (qx_f zen rfl (qx_l ta3 rfl (za2 rfl rfl (zan rfl rfl rfl) (zbj (by omega) (zaz rfl rfl rfl)) (qx_s rfl (qx_s rfl (qx_f zen rfl (qx_l ta3 rfl (za2 rfl rfl (zan rfl rfl rfl) (zbj (by omega) (za4 rfl rfl rfl)) ?_))))))))))))))))))
    refine qx_s rfl (qx_s rfl (qx_s rfl (za2 rfl rfl (zan rfl rfl rfl) (zbn (by omega) (za4 rfl rfl rfl)) (qx_s rfl (qx_s rfl (qx_s rfl (za2 rfl rfl (zan rfl rfl rfl) (zcw rfl rfl rfl hsb) (za2 rfl rfl (zan rfl rfl rfl) (zap rfl ts25 ti46 rfl rfl rfl hiy rfl) (qx_f zcn rfl (qx_l ta44 rfl (qx_f zcn rfl (qx_l ta44 rfl (za2 rfl rfl (zan rfl rfl rfl) (zai rfl rfl (hc) (zag rfl (zag rfl zam))) (za2 rfl rfl (zan rfl rfl rfl) (zbj (by omega) (zcx rfl rfl rfl)) (qx_s rfl (qx_s rfl ?_))))))))))))))))
    refine zck ?_
    refine zah (zat rfl (zaq (zb8 (zah (zab (zad rfl rfl (zaa rfl) (za9 rfl rfl rfl (IntWalk.i64_in _ (by omega))) (zac rfl (zae (zah ?_)))))))))
    refine ⟨y + 1 + 1, ⟨by show y + 1 + 1 ≤ l.length; omega, fun i hi => ?_⟩, by show l.length - (y + 1 + 1) < l.length - (y + 1); omega, zbx _ ⟨rfl, rfl, rfl, rfl, trivial⟩⟩
    by_cases hik : i = y + 1
    ·
     rw [hik]; exact hb.2 ⟨h1, rfl, h3, h4, .inr h5⟩
    ·
     exact he i (by omega)
   ·
    have hF := hvf (hbf (by rintro ⟨_, _, _, _, a | a⟩; exact absurd a (by omega); exact h5 a))
    refine zb1 hmix ?_
    refine za5 (by kernel_rfl) ?_
    refine qx_f zcn rfl (qx_l ta44 rfl (za2 rfl rfl (zaa rfl) (zak rfl ts44 rfl) (za2 rfl rfl (zaa rfl) (zbj (by omega) (za4 rfl rfl rfl)) (qx_s rfl (qx_f zcn rfl (qx_l ta44 rfl (za2 rfl rfl (zan rfl rfl rfl) (zai rfl rfl (hnm) (zag rfl zam)) (za2 rfl rfl (zan rfl rfl rfl) (zay rfl rfl) (qx_s rfl (qx_s rfl (qx_f zen rfl (qx_l ta3 rfl (za2 rfl rfl (zan rfl rfl rfl) (zbj (by omega) (zaz rfl rfl rfl)) (qx_s rfl (qx_s rfl (qx_f zen rfl (qx_l ta3 rfl (za2 rfl rfl (zan rfl rfl rfl) (zbj (by omega) (za4 rfl rfl rfl)) ?_))))))))))))))))))
    refine qx_s rfl (qx_s rfl (qx_s rfl (za2 rfl rfl (zan rfl rfl rfl) (zbn (by omega) (za4 rfl rfl rfl)) (qx_s rfl (qx_s rfl (qx_s rfl (za2 rfl rfl (zan rfl rfl rfl) (zcw rfl rfl rfl hsb) (za2 rfl rfl (zan rfl rfl rfl) (zap rfl ts25 ti46 rfl rfl rfl hiy rfl) (qx_f zcn rfl (qx_l ta44 rfl (qx_f zcn rfl (qx_l ta44 rfl (za2 rfl rfl (zan rfl rfl rfl) (zai rfl rfl (hc) (zag rfl (zag rfl zam))) (za2 rfl rfl (zan rfl rfl rfl) (zbn (by omega) (zcx rfl rfl rfl)) (qx_s rfl (qx_s rfl ?_))))))))))))))))
    refine zck ?_
    refine zah (zax rfl (zaf (zab (zac rfl (zae (zah ?_))))))
    (refine zav ?_; repeat (first | refine za6 ?_ | refine za7 ?_))
    exact zbq (.inr rfl) rfl (congrArg eB hF.symm)
 ·
  have e : k = l.length := by omega
  subst e
  refine zaf (zab (zad rfl rfl (zaa rfl) (zbj (by omega) (zaz rfl rfl rfl)) (zae (zaf (zat rfl ?_)))))
  (refine zcg ?_; repeat (first | refine zdn ?_ | refine zb7 ?_ | refine zbs rfl ?_ | refine zb8 ?_ | refine zah ?_ | refine zaf ?_ | refine zaq ?_ | refine zaw ?_))
  refine zab (zac rfl (zae (zah ?_)))
  (refine zav ?_; repeat (first | refine za6 ?_ | refine za7 ?_))
  exact zbq (.inr rfl) rfl (congrArg eB (by rw [← hR]; exact (vvB_t hlen he).symm))
theorem zyt (l : List Vr) : Pure P 15 [eL eVr l] (eB (vvB l)) := by
 obtain ⟨R, hR⟩ : ∃ R, vvB l = R := ⟨_, rfl⟩
 rw [hR]
 refine zcy (by rw [IsP.eq (P := P)]; exact Tryz.func15) rfl rfl rfl rfl rfl (zaj (zfz l) zbb) (.s _) (by simp only [argF]; rfl) ?_
 refine zaf (zab (zac rfl (zae (zaf (zaf ?_)))))
 by_cases hlen : l.length ≤ 300
 rotate_left 1
 ·
  have hF : R = false := by rw [← hR]; unfold vvB; rw [decide_eq_false hlen, Bool.false_and]
  refine zab (zac rfl (zad rfl rfl (zaa rfl) (zak rfl ts25 rfl) (zad rfl rfl (zaa rfl) (zbn (by omega) (za4 rfl rfl rfl)) (zae (zah (zax rfl (zaf (zab (zac rfl (zae (zah ?_)))))))))))
  (refine zav ?_; repeat (first | refine za6 ?_ | refine za7 ?_))
  exact zbq (.inr rfl) rfl (congrArg eB hF.symm)
 refine zab (zac rfl (zad rfl rfl (zaa rfl) (zak rfl ts25 rfl) (zad rfl rfl (zaa rfl) (zbj (by omega) (za4 rfl rfl rfl)) (zae (zah (zat rfl (zaq (zaf (zaf (zab (zac rfl (zae (zah (zaw ?_))))))))))))))
 refine zcb (S := Nat) (fun k => [(0, eL eVr l), (3, eI k)]) (fun _ => []) (fun k => k ≤ l.length ∧ ∀ i, i < k → vvAt l i = true) (fun k => l.length - k) 0 (zbx _ ⟨rfl, rfl, trivial⟩) ⟨Nat.zero_le _, fun i h => by omega⟩ (fun k hk => ?_)
 obtain ⟨hk, he⟩ := hk
 by_cases hlt : k < l.length
 ·
  have hix : (l.map eVr)[k]? = some (eVr (gti l k)) := zch hlt
  have hb := zuq (l := l) (i := k)
  have hbf := zz8 (l := l) (i := k)
  have hvf := fun h => vvB_f (l := l) hlt h
  rw [hR] at hvf
  have hnm := zvn (P := P) (gti l k).acts
  have hcp := fun y => zyu (P := P) y (gti l k).acts
  generalize gti l k = v at hix hb hbf hnm hcp
  obtain ⟨acts, cnt⟩ := v
  replace hix : (l.map eVr)[k]? = some (aVr acts cnt) := hix
  replace hnm : Pure P 41 [eL eS acts] (eB (allN acts)) := hnm
  dsimp only at hb hbf hcp
  generalize allN acts = bn at hnm hb hbf
  refine zaf (zaf (zab (zac rfl (zac rfl (zad rfl rfl (zaa rfl) (zak rfl ts25 rfl) (zad rfl rfl (zaa rfl) (zbn (by omega) (zaz rfl rfl rfl)) (zae (zah (zax rfl (zaq (zaf (zaw (zaf (zaf ?_))))))))))))))
  by_cases h1 : acts.length ≤ 200
  rotate_left 1
  ·
   have hF := hvf (hbf (by rintro ⟨a, _⟩; exact h1 a))
   refine zab (zac rfl (zac rfl (zad rfl rfl (zaa rfl) (zap rfl ts25 ti46 rfl rfl rfl hix rfl) (zbm zcn rfl (zbu ta44 rfl (zad rfl rfl (zaa rfl) (zak rfl ts44 rfl) (zad rfl rfl (zaa rfl) (zbn (by omega) (za4 rfl rfl rfl)) (zac rfl (za3 rfl (za3 rfl (za3 rfl (za3 rfl (za3 rfl (za3 rfl (za3 rfl (zac rfl (zac rfl (za3 rfl (za3 rfl (za3 rfl (za3 rfl (za3 rfl (za3 rfl (zac rfl (zac rfl (za3 rfl (za3 rfl (za3 rfl (za3 rfl (za3 rfl (za3 rfl (zac rfl (zae ?_)))))))))))))))))))))))))))))))))
   refine zah (zax rfl (zaf (zab (zac rfl (zae (zah ?_))))))
   (refine zav ?_; repeat (first | refine za6 ?_ | refine za7 ?_))
   exact zbq (.inr rfl) rfl (congrArg eB hF.symm)
  cases bn with
  | false =>
   have hF := hvf (hbf (by rintro ⟨_, a, _⟩; cases a))
   refine zab (zac rfl (zac rfl (zad rfl rfl (zaa rfl) (zap rfl ts25 ti46 rfl rfl rfl hix rfl) (zbm zcn rfl (zbu ta44 rfl (zad rfl rfl (zaa rfl) (zak rfl ts44 rfl) (zad rfl rfl (zaa rfl) (zbj (by omega) (za4 rfl rfl rfl)) (zac rfl (zac rfl (zac rfl (zad rfl rfl (zan rfl rfl rfl) (zap rfl ts25 ti46 rfl rfl rfl hix rfl) (zbm zcn rfl (zbu ta44 rfl (zad rfl rfl (zan rfl rfl rfl) (zai rfl rfl (hnm) (zag rfl zam)) (zad rfl rfl (zan rfl rfl rfl) (zay rfl rfl) (zac rfl ?_))))))))))))))))
   refine zac rfl (za3 rfl (za3 rfl (za3 rfl (za3 rfl (za3 rfl (za3 rfl (zac rfl (zac rfl (za3 rfl (za3 rfl (za3 rfl (za3 rfl (za3 rfl (za3 rfl (zac rfl (zae (zah (zax rfl (zaf (zab (zac rfl (zae (zah ?_)))))))))))))))))))))))
   (refine zav ?_; repeat (first | refine za6 ?_ | refine za7 ?_))
   exact zbq (.inr rfl) rfl (congrArg eB hF.symm)
  | true =>
  by_cases h3 : 1 ≤ cnt
  rotate_left 1
  ·
   have hF := hvf (hbf (by rintro ⟨_, _, a, _⟩; exact h3 a))
   refine zab (zac rfl (zac rfl (zad rfl rfl (zaa rfl) (zap rfl ts25 ti46 rfl rfl rfl hix rfl) (zbm zcn rfl (zbu ta44 rfl (zad rfl rfl (zaa rfl) (zak rfl ts44 rfl) (zad rfl rfl (zaa rfl) (zbj (by omega) (za4 rfl rfl rfl)) (zac rfl (zac rfl (zac rfl (zad rfl rfl (zan rfl rfl rfl) (zap rfl ts25 ti46 rfl rfl rfl hix rfl) (zbm zcn rfl (zbu ta44 rfl (zad rfl rfl (zan rfl rfl rfl) (zai rfl rfl (hnm) (zag rfl zam)) (zad rfl rfl (zan rfl rfl rfl) (zay rfl rfl) (zac rfl ?_))))))))))))))))
   refine zac rfl (zac rfl (zac rfl (zad rfl rfl (zan rfl rfl rfl) (zap rfl ts25 ti46 rfl rfl rfl hix rfl) (zbm zen rfl (zbu ta3 rfl (zad rfl rfl (zan rfl rfl rfl) (zbn (by omega) (zaz rfl rfl rfl)) (zac rfl (zac rfl (za3 rfl (za3 rfl (za3 rfl (za3 rfl (za3 rfl (za3 rfl (zac rfl (zae (zah (zax rfl (zaf (zab (zac rfl (zae (zah ?_)))))))))))))))))))))))
   (refine zav ?_; repeat (first | refine za6 ?_ | refine za7 ?_))
   exact zbq (.inr rfl) rfl (congrArg eB hF.symm)
  by_cases h4 : cnt ≤ 1048576
  rotate_left 1
  ·
   have hF := hvf (hbf (by rintro ⟨_, _, _, a, _⟩; exact h4 a))
   refine zab (zac rfl (zac rfl (zad rfl rfl (zaa rfl) (zap rfl ts25 ti46 rfl rfl rfl hix rfl) (zbm zcn rfl (zbu ta44 rfl (zad rfl rfl (zaa rfl) (zak rfl ts44 rfl) (zad rfl rfl (zaa rfl) (zbj (by omega) (za4 rfl rfl rfl)) (zac rfl (zac rfl (zac rfl (zad rfl rfl (zan rfl rfl rfl) (zap rfl ts25 ti46 rfl rfl rfl hix rfl) (zbm zcn rfl (zbu ta44 rfl (zad rfl rfl (zan rfl rfl rfl) (zai rfl rfl (hnm) (zag rfl zam)) (zad rfl rfl (zan rfl rfl rfl) (zay rfl rfl) (zac rfl ?_))))))))))))))))
   refine zac rfl (zac rfl (zac rfl (zad rfl rfl (zan rfl rfl rfl) (zap rfl ts25 ti46 rfl rfl rfl hix rfl) (zbm zen rfl (zbu ta3 rfl (zad rfl rfl (zan rfl rfl rfl) (zbj (by omega) (zaz rfl rfl rfl)) (zac rfl (zac rfl (zac rfl (zac rfl (zad rfl rfl (zan rfl rfl rfl) (zap rfl ts25 ti46 rfl rfl rfl hix rfl) (zbm zen rfl (zbu ta3 rfl (zad rfl rfl (zan rfl rfl rfl) (zbn (by omega) (za4 rfl rfl rfl)) (zac rfl (zae (zah (zax rfl (zaf (zab (zac rfl (zae (zah ?_)))))))))))))))))))))))
   (refine zav ?_; repeat (first | refine za6 ?_ | refine za7 ?_))
   exact zbq (.inr rfl) rfl (congrArg eB hF.symm)
  refine zab (zac rfl (zac rfl (zad rfl rfl (zaa rfl) (zap rfl ts25 ti46 rfl rfl rfl hix rfl) (zbm zcn rfl (zbu ta44 rfl (zad rfl rfl (zaa rfl) (zak rfl ts44 rfl) (zad rfl rfl (zaa rfl) (zbj (by omega) (za4 rfl rfl rfl)) (zac rfl (zac rfl (zac rfl (zad rfl rfl (zan rfl rfl rfl) (zap rfl ts25 ti46 rfl rfl rfl hix rfl) (zbm zcn rfl (zbu ta44 rfl (zad rfl rfl (zan rfl rfl rfl) (zai rfl rfl (hnm) (zag rfl zam)) (zad rfl rfl (zan rfl rfl rfl) (zay rfl rfl) (zac rfl ?_))))))))))))))))
  refine zac rfl (zac rfl (zac rfl (zad rfl rfl (zan rfl rfl rfl) (zap rfl ts25 ti46 rfl rfl rfl hix rfl) (zbm zen rfl (zbu ta3 rfl (zad rfl rfl (zan rfl rfl rfl) (zbj (by omega) (zaz rfl rfl rfl)) (zac rfl (zac rfl (zac rfl (zac rfl (zad rfl rfl (zan rfl rfl rfl) (zap rfl ts25 ti46 rfl rfl rfl hix rfl) (zbm zen rfl (zbu ta3 rfl (zad rfl rfl (zan rfl rfl rfl) (zbj (by omega) (za4 rfl rfl rfl)) (zac rfl (zae (zah (zat rfl (zaq (zaf ?_))))))))))))))))))))
  cases k with
  | zero =>
   refine zb1 hmix ?_
   refine za5 (by kernel_rfl) ?_
   refine qx_s rfl (za2 rfl rfl (zaa rfl) (zbj (by decide) (za4 rfl rfl rfl)) (qx_s rfl (qx_z rfl (qx_z rfl (qx_z rfl (qx_z rfl (qx_z rfl (qx_z rfl (qx_z rfl (qx_z rfl (qx_z rfl (qx_z rfl (qx_z rfl (qx_z rfl (qx_z rfl (qx_s rfl ?_))))))))))))))))
   refine zck ?_
   refine zah (zat rfl (zaq (zb8 (zah (zab (zac rfl (zad rfl rfl (zaa rfl) (za9 rfl rfl rfl (IntWalk.i64_in _ (by omega))) (zac rfl (zae (zah ?_))))))))))
   refine ⟨0 + 1, ⟨by show 0 + 1 ≤ l.length; omega, fun i hi => ?_⟩, by show l.length - (0 + 1) < l.length - (0); omega, zbx _ ⟨rfl, rfl, trivial⟩⟩
   by_cases hik : i = 0
   ·
    rw [hik]; exact hb.2 ⟨h1, rfl, h3, h4, .inl rfl⟩
   ·
    exact he i (by omega)
  | succ y =>
   have hiy : (l.map eVr)[y]? = some (eVr (gti l y)) := zch (by omega)
   have hc := hcp (gti l y).acts
   have hsb : IntKind.i64.wrap (((y + 1 : Nat) : Int) - 1) = (y : Int) := by rw [show ((y + 1 : Nat) : Int) - 1 = y by omega]; exact IntWalk.i64_in _ (by omega)
   replace hb : vvAt l (y + 1) = true ↔ acts.length ≤ 200 ∧ true = true ∧ 1 ≤ cnt ∧ cnt ≤ 1048576 ∧ (y + 1 = 0 ∨ cmpW (gti l y).acts acts < 0) := hb
   replace hbf : ¬ (acts.length ≤ 200 ∧ true = true ∧ 1 ≤ cnt ∧ cnt ≤ 1048576 ∧ (y + 1 = 0 ∨ cmpW (gti l y).acts acts < 0)) → vvAt l (y + 1) = false := hbf
   generalize cmpW (gti l y).acts acts = z at hc hb hbf
   by_cases h5 : z < 0
   ·
    refine zb1 hmix ?_
    refine za5 (by kernel_rfl) ?_
    refine qx_s rfl (za2 rfl rfl (zaa rfl) (zbn (by omega) (za4 rfl rfl rfl)) (qx_s rfl (qx_s rfl (qx_s rfl (za2 rfl rfl (zan rfl rfl rfl) (zcw rfl rfl rfl hsb) (za2 rfl rfl (zan rfl rfl rfl) (zap rfl ts25 ti46 rfl rfl rfl hiy rfl) (qx_f zcn rfl (qx_l ta44 rfl (qx_s rfl (qx_s rfl (za2 rfl rfl (zan rfl rfl rfl) (zap rfl ts25 ti46 rfl rfl rfl hix rfl) (qx_f zcn rfl (qx_l ta44 rfl (za2 rfl rfl (zan rfl rfl rfl) (zai rfl rfl (hc) (zag rfl (zag rfl zam))) (za2 rfl rfl (zan rfl rfl rfl) (zbj (by omega) (zcx rfl rfl rfl)) ?_)))))))))))))))
    refine qx_s rfl ?_
    refine zck ?_
    refine zah (zat rfl (zaq (zb8 (zah (zab (zac rfl (zad rfl rfl (zaa rfl) (za9 rfl rfl rfl (IntWalk.i64_in _ (by omega))) (zac rfl (zae (zah ?_))))))))))
    refine ⟨y + 1 + 1, ⟨by show y + 1 + 1 ≤ l.length; omega, fun i hi => ?_⟩, by show l.length - (y + 1 + 1) < l.length - (y + 1); omega, zbx _ ⟨rfl, rfl, trivial⟩⟩
    by_cases hik : i = y + 1
    ·
     rw [hik]; exact hb.2 ⟨h1, rfl, h3, h4, .inr h5⟩
    ·
     exact he i (by omega)
   ·
    have hF := hvf (hbf (by rintro ⟨_, _, _, _, a | a⟩; exact absurd a (by omega); exact h5 a))
    refine zb1 hmix ?_
    refine za5 (by kernel_rfl) ?_
    refine qx_s rfl (za2 rfl rfl (zaa rfl) (zbn (by omega) (za4 rfl rfl rfl)) (qx_s rfl (qx_s rfl (qx_s rfl (za2 rfl rfl (zan rfl rfl rfl) (zcw rfl rfl rfl hsb) (za2 rfl rfl (zan rfl rfl rfl) (zap rfl ts25 ti46 rfl rfl rfl hiy rfl) (qx_f zcn rfl (qx_l ta44 rfl (qx_s rfl (qx_s rfl (za2 rfl rfl (zan rfl rfl rfl) (zap rfl ts25 ti46 rfl rfl rfl hix rfl) (qx_f zcn rfl (qx_l ta44 rfl (za2 rfl rfl (zan rfl rfl rfl) (zai rfl rfl (hc) (zag rfl (zag rfl zam))) (za2 rfl rfl (zan rfl rfl rfl) (zbn (by omega) (zcx rfl rfl rfl)) ?_)))))))))))))))
    refine qx_s rfl ?_
    refine zck ?_
    refine zah (zax rfl (zaf (zab (zac rfl (zae (zah ?_))))))
    (refine zav ?_; repeat (first | refine za6 ?_ | refine za7 ?_))
    exact zbq (.inr rfl) rfl (congrArg eB hF.symm)
 ·
  have e : k = l.length := by omega
  subst e
  refine zaf (zaf (zab (zac rfl (zac rfl (zad rfl rfl (zaa rfl) (zak rfl ts25 rfl) (zad rfl rfl (zaa rfl) (zbj (by omega) (zaz rfl rfl rfl)) (zae (zah (zat rfl ?_)))))))))
  (refine zcg ?_; repeat (first | refine zdn ?_ | refine zb7 ?_ | refine zbs rfl ?_ | refine zb8 ?_ | refine zah ?_ | refine zaf ?_ | refine zaq ?_ | refine zaw ?_))
  refine zab (zac rfl (zae (zah ?_)))
  (refine zav ?_; repeat (first | refine za6 ?_ | refine za7 ?_))
  exact zbq (.inr rfl) rfl (congrArg eB (by rw [← hR]; exact (vvB_t hlen he).symm))
end Go.Proofs.YtohmldibkojkfaaGreatDoor.Aw
end
section
namespace Go.Proofs.YtohmldibkojkfaaGreatDoor.Aw
open Go Go.RowKit Go.Proofs Dl
variable {P : Program} [IsP P]
theorem zsw (n d : Int) (hn : -4611686018427387904 ≤ n ∧ n ≤ 4611686018427387904) (hd : 0 < d ∧ d ≤ 4611686018427387904) : Pure P 35 [eI n, eI d] (eFE (zej n d)) :=
 zme (zc1 Tryz.func35 rfl rfl) fun G vargs hsz hrep => by
  obtain ⟨q⟩ := vargs
  match q, hsz with
  | [u, w], _ => rw [zdr (hrep 0 u _ rfl rfl), zdr (hrep 1 w _ rfl rfl)]; exact zxd n d G.w hn hd
theorem zr7 (n d : Int) (hn : -4611686018427387904 ≤ n ∧ n ≤ 4611686018427387904) (hd : -4611686018427387904 ≤ d ∧ d ≤ 4611686018427387904) : Pure P 39 [eI n, eI d] (eFE (zej n d)) :=
 zme (zc1 Tryz.func39 rfl rfl) fun G vargs hsz hrep => by
  obtain ⟨q⟩ := vargs
  match q, hsz with
  | [u, w], _ => rw [zdr (hrep 0 u _ rfl rfl), zdr (hrep 1 w _ rfl rfl)]; exact zy4 n d G.w hn hd
noncomputable def qgvE (n : Net) (vs : List Vr) (most : Int) : Int := if (wfB n && vvB vs) = false then 1 else if most < 1 ∨ 2000 < most then 2 else 0
noncomputable def qcoE (n : Net) (vs : List Vr) (c : Cst) (most : Int) : Int := if vcB c = false then 1 else qgvE n vs most
theorem zvz (n : Net) (vs : List Vr) (most : Int) : Pure P 58 [eN n, eL eVr vs, eI most] (eI (qgvE n vs most)) := by
 have hR : qgvE n vs most = if (wfB n && vvB vs) = false then 1 else if most < 1 ∨ 2000 < most then 2 else 0 := rfl
 generalize qgvE n vs most = R at hR ⊢
 have h1 := zkl (P := P) n
 have h2 := z1a (P := P) vs
 generalize wfB n = b1 at h1 hR
 generalize vvB vs = b2 at h2 hR
 have hln : Lo 0 (.ref (eN n).cells) := .ref _ (lo_N n).cells
 refine zcy (by rw [IsP.eq (P := P)]; exact Tryz.func58) rfl rfl rfl rfl rfl (zaj (lo_N n) (zaj (zfz vs) (zaj (.s _) zbb))) (.s _) (by simp only [argF]; rfl) ?_
 refine zaf (zab (zad rfl rfl (zaa rfl) (zbg rfl rfl rfl rfl) ?_))
 refine zar (zbl (id := 0) rfl) (zar (zb3 (d := 3) rfl rfl rfl) ?_)
 refine zac rfl (zae (zaf (zaw (zaf ?_))))
 cases b1 with
 | false =>
  refine zab (zbc ta24 ti24 rfl (zad rfl rfl (zaa rfl) (zai rfl rfl (h1) (zag rfl zam)) (zad rfl rfl (zaa rfl) (zay rfl rfl) (zac rfl (za3 rfl (za3 rfl (za3 rfl (zac rfl (zac rfl (zae (zah (zax rfl (zaf (zab (zac rfl (zae (zah ?_)))))))))))))))))
  (refine zav ?_; repeat (first | refine za6 ?_ | refine za7 ?_))
  exact zbq (.inr rfl) rfl (congrArg eI (hR.trans (if_pos rfl)).symm)
 | true =>
 cases b2 with
 | false =>
  refine zab (zbc ta24 ti24 rfl (zad rfl rfl (zaa rfl) (zai rfl rfl (h1) (zag rfl zam)) (zad rfl rfl (zaa rfl) (zay rfl rfl) (zac rfl (zac rfl (zad rfl rfl (zan rfl rfl rfl) (zai rfl rfl (h2) (zag rfl zam)) (zad rfl rfl (zan rfl rfl rfl) (zay rfl rfl) (zac rfl (zac rfl (zae (zah (zax rfl (zaf (zab (zac rfl (zae (zah ?_)))))))))))))))))
  (refine zav ?_; repeat (first | refine za6 ?_ | refine za7 ?_))
  exact zbq (.inr rfl) rfl (congrArg eI (hR.trans (if_pos rfl)).symm)
 | true =>
 rw [if_neg (by decide)] at hR
 refine zab (zbc ta24 ti24 rfl (zad rfl rfl (zaa rfl) (zai rfl rfl (h1) (zag rfl zam)) (zad rfl rfl (zaa rfl) (zay rfl rfl) (zac rfl (zac rfl (zad rfl rfl (zan rfl rfl rfl) (zai rfl rfl (h2) (zag rfl zam)) (zad rfl rfl (zan rfl rfl rfl) (zay rfl rfl) (zac rfl (zac rfl (zae (zah (zat rfl (zaf (zab (zac rfl ?_)))))))))))))))
 refine zet rfl rfl (zaa rfl) (zaz rfl rfl rfl) (fun h18 => ?_) (fun h18 => ?_)
 all_goals refine zac rfl ?_
 all_goals (first | refine zac rfl ?_ | refine za3 rfl ?_)
 all_goals (first | refine zet rfl rfl (zan rfl rfl rfl) (za4 rfl rfl rfl) (fun h21 => ?_) (fun h21 => ?_) | refine za3 rfl ?_)
 all_goals refine zac rfl (zac rfl (zae (zah ?_)))
 all_goals (first | refine zax rfl ?_ | refine zat rfl ?_)
 all_goals (repeat (first | refine zaf ?_ | refine zaq ?_))
 all_goals first
  |
   refine zab (zac rfl (zae (zah ?_)))
   (refine zav ?_; repeat (first | refine za6 ?_ | refine za7 ?_))
   exact zbq (.inr rfl) rfl (congrArg eI (hR.trans (if_pos (by omega))).symm)
  | skip
 refine zab (zac rfl (zae (zah ?_)))
 (refine zav ?_; repeat (first | refine za6 ?_ | refine za7 ?_))
 exact zbq (.inr rfl) rfl (congrArg eI (hR.trans (if_neg (by omega))).symm)
theorem zvr (n : Net) (vs : List Vr) (most : Int) : Pure P 37 [eN n, eL eVr vs, eI most] (eI (qgvE n vs most)) := by
 have hR : qgvE n vs most = if (wfB n && vvB vs) = false then 1 else if most < 1 ∨ 2000 < most then 2 else 0 := rfl
 generalize qgvE n vs most = R at hR ⊢
 have h1 := zfs (P := P) n
 have h2 := zyt (P := P) vs
 generalize wfB n = b1 at h1 hR
 generalize vvB vs = b2 at h2 hR
 have hln : Lo 0 (.ref (eN n).cells) := .ref _ (lo_N n).cells
 refine zcy (by rw [IsP.eq (P := P)]; exact Tryz.func37) rfl rfl rfl rfl rfl (zaj (lo_N n) (zaj (zfz vs) (zaj (.s _) zbb))) (.s _) (by simp only [argF]; rfl) ?_
 refine zaf (zab (zad rfl rfl (zaa rfl) (zbg rfl rfl rfl rfl) ?_))
 refine zar (zbl (id := 0) rfl) (zar (zb3 (d := 3) rfl rfl rfl) ?_)
 refine zac rfl (zae (zaf (zaf ?_)))
 cases b1 with
 | false =>
  refine zab (zbc ta24 ti24 rfl (zad rfl rfl (zaa rfl) (zai rfl rfl (h1) (zag rfl zam)) (zad rfl rfl (zaa rfl) (zay rfl rfl) (zac rfl (za3 rfl (za3 rfl (za3 rfl (zac rfl (zae (zah (zax rfl (zaf (zab (zac rfl (zae (zah ?_))))))))))))))))
  (refine zav ?_; repeat (first | refine za6 ?_ | refine za7 ?_))
  exact zbq (.inr rfl) rfl (congrArg eI (hR.trans (if_pos rfl)).symm)
 | true =>
 cases b2 with
 | false =>
  refine zab (zbc ta24 ti24 rfl (zad rfl rfl (zaa rfl) (zai rfl rfl (h1) (zag rfl zam)) (zad rfl rfl (zaa rfl) (zay rfl rfl) (zac rfl (zac rfl (zad rfl rfl (zan rfl rfl rfl) (zai rfl rfl (h2) (zag rfl zam)) (zad rfl rfl (zan rfl rfl rfl) (zay rfl rfl) (zac rfl (zae (zah (zax rfl (zaf (zab (zac rfl (zae (zah ?_))))))))))))))))
  (refine zav ?_; repeat (first | refine za6 ?_ | refine za7 ?_))
  exact zbq (.inr rfl) rfl (congrArg eI (hR.trans (if_pos rfl)).symm)
 | true =>
 rw [if_neg (by decide)] at hR
 refine zab (zbc ta24 ti24 rfl (zad rfl rfl (zaa rfl) (zai rfl rfl (h1) (zag rfl zam)) (zad rfl rfl (zaa rfl) (zay rfl rfl) (zac rfl (zac rfl (zad rfl rfl (zan rfl rfl rfl) (zai rfl rfl (h2) (zag rfl zam)) (zad rfl rfl (zan rfl rfl rfl) (zay rfl rfl) (zac rfl (zae (zah (zat rfl (zaq (zaf (zaf (zab (zac rfl ?_))))))))))))))))
 refine zet rfl rfl (zaa rfl) (zaz rfl rfl rfl) (fun h16 => ?_) (fun h16 => ?_)
 all_goals refine zac rfl ?_
 all_goals (first | refine zac rfl ?_ | refine za3 rfl ?_)
 all_goals (first | refine zet rfl rfl (zan rfl rfl rfl) (za4 rfl rfl rfl) (fun h19 => ?_) (fun h19 => ?_) | refine za3 rfl ?_)
 all_goals refine zac rfl (zae (zah ?_))
 all_goals (first | refine zax rfl ?_ | refine zat rfl ?_)
 all_goals (repeat (first | refine zaf ?_ | refine zaq ?_))
 all_goals first
  |
   refine zab (zac rfl (zae (zah ?_)))
   (refine zav ?_; repeat (first | refine za6 ?_ | refine za7 ?_))
   exact zbq (.inr rfl) rfl (congrArg eI (hR.trans (if_pos (by omega))).symm)
  | skip
 refine zab (zac rfl (zae (zah ?_)))
 (refine zav ?_; repeat (first | refine za6 ?_ | refine za7 ?_))
 exact zbq (.inr rfl) rfl (congrArg eI (hR.trans (if_neg (by omega))).symm)
theorem zlq (n : Net) (vs : List Vr) (c : Cst) (most : Int) : Pure P 32 [eN n, eL eVr vs, eC c, eI most] (eI (qcoE n vs c most)) := by
 have hR : qcoE n vs c most = if vcB c = false then 1 else qgvE n vs most := rfl
 generalize qcoE n vs c most = R at hR ⊢
 have h1 := zvz (P := P) n vs most
 have h2 := zif (P := P) c
 generalize qgvE n vs most = g at h1 hR
 generalize vcB c = b at h2 hR
 have hln : Lo 0 (.ref (eN n).cells) := .ref _ (lo_N n).cells
 have hlc : Lo 0 (.ref (eC c).cells) := .ref _ (lo_C c).cells
 refine zcy (by rw [IsP.eq (P := P)]; exact Tryz.func32) rfl rfl rfl rfl rfl (zaj (lo_N n) (zaj (zfz vs) (zaj (lo_C c) (zaj (.s _) zbb)))) (.s _) (by simp only [argF]; rfl) ?_
 refine zaf (zab (zad rfl rfl (zaa rfl) (zbg rfl rfl rfl rfl) ?_))
 refine zar (zbl (id := 0) rfl) (zar (zb3 (d := 4) rfl rfl rfl) ?_)
 refine zad rfl rfl (zaa rfl) (zbg rfl rfl rfl rfl) ?_
 refine zar (zbl (id := 1) rfl) (zar (zb3 (d := 6) rfl rfl rfl) ?_)
 refine zac rfl (zae (zaf (zab (zbc ta24 ti24 rfl (zac rfl (zac rfl (zad rfl rfl (zaa rfl) (zai rfl rfl (h1) (zag rfl (zag rfl (zag rfl zam)))) (zac rfl (zae (zaf (zaf ?_)))))))))))
 by_cases hg : g = 1
 ·
  refine zab (zac rfl ?_)
  refine zad rfl rfl (zaa rfl) (zbj (fun h => h hg) (zbf rfl rfl rfl)) ?_
  refine zac rfl (za3 rfl (za3 rfl (za3 rfl (zac rfl (zae (zah (zat rfl (zaq (zaf (zab (zac rfl (zac rfl (zae (zah ?_))))))))))))))
  (refine zav ?_; repeat (first | refine za6 ?_ | refine za7 ?_))
  refine zbq (.inr rfl) rfl (congrArg eI ?_)
  rw [hR, hg]; split <;> rfl
 ·
  cases b with
  | false =>
   refine zab (zac rfl (zad rfl rfl (zaa rfl) (zbn hg (zbf rfl rfl rfl)) (zac rfl (zbc ta27 ti27 rfl (zad rfl rfl (zan rfl rfl rfl) (zai rfl rfl (h2) (zag rfl zam)) (zad rfl rfl (zan rfl rfl rfl) (zay rfl rfl) (zac rfl (zae (zah (zax rfl (zaf (zab (zac rfl (zae (zah ?_)))))))))))))))
   (refine zav ?_; repeat (first | refine za6 ?_ | refine za7 ?_))
   exact zbq (.inr rfl) rfl (congrArg eI (hR.trans (if_pos rfl)).symm)
  | true =>
   refine zab (zac rfl (zad rfl rfl (zaa rfl) (zbn hg (zbf rfl rfl rfl)) (zac rfl (zbc ta27 ti27 rfl (zad rfl rfl (zan rfl rfl rfl) (zai rfl rfl (h2) (zag rfl zam)) (zad rfl rfl (zan rfl rfl rfl) (zay rfl rfl) (zac rfl (zae (zah (zat rfl (zaq (zaf (zab (zac rfl (zac rfl (zae (zah ?_)))))))))))))))))
   (refine zav ?_; repeat (first | refine za6 ?_ | refine za7 ?_))
   exact zbq (.inr rfl) rfl (congrArg eI (hR.trans (if_neg (by decide))).symm)
noncomputable def qFitE (n : Net) (vs : List Vr) (c : Cst) (most : Int) : FE :=
 if qcoE n vs c most ≠ 0 then ⟨0, 0, qcoE n vs c most⟩ else if (zdk n c most vs 0 0).2.2 ≠ 0 then ⟨0, 0, (zdk n c most vs 0 0).2.2⟩
 else if (zdk n c most vs 0 0).2.1 = 0 then ⟨0, 0, 10⟩ else zej ((zdk n c most vs 0 0).2.1 - (zdk n c most vs 0 0).1) (zdk n c most vs 0 0).2.1
theorem zr8 {n : Net} {vs : List Vr} {c : Cst} {most : Int} (h : qcoE n vs c most = 0) : vcB c = true ∧ qgvE n vs most = 0 ∧ wfB n = true ∧ vvB vs = true ∧ 1 ≤ most ∧ most ≤ 2000 := by
 unfold qcoE at h
 by_cases hc : vcB c = false
 ·
  rw [if_pos hc] at h; cases h
 ·
  rw [if_neg hc] at h
  have h2 := h
  unfold qgvE at h
  by_cases hb : (wfB n && vvB vs) = false
  ·
   rw [if_pos hb] at h; cases h
  ·
   rw [if_neg hb] at h
   by_cases hm : most < 1 ∨ 2000 < most
   ·
    rw [if_pos hm] at h; cases h
   ·
    have hbt : (wfB n && vvB vs) = true := by cases hx : (wfB n && vvB vs) with | true => rfl | false => exact absurd hx hb
    rw [Bool.and_eq_true] at hbt
    exact ⟨by cases hv : vcB c with | true => rfl | false => exact absurd hv hc, h2, hbt.1, hbt.2, by omega, by omega⟩
theorem zsv (n : Net) (c : Cst) (most : Int) : ∀ (vs : List Vr) (a b : Int) (i : Nat), (∀ v ∈ vs, okV v = true) → (0 ≤ a ∧ a ≤ 2306867200000 * i) → (0 ≤ b ∧ b ≤ 2306867200000 * i) →
  (0 ≤ (zdk n c most vs a b).1 ∧ (zdk n c most vs a b).1 ≤ 2306867200000 * ((i + vs.length : Nat) : Int)) ∧ (0 ≤ (zdk n c most vs a b).2.1 ∧ (zdk n c most vs a b).2.1 ≤ 2306867200000 * ((i + vs.length : Nat) : Int))
 | [], a, b, i, _, ha, hb => ⟨ha, hb⟩
 | v :: vs, a, b, i, hv, ha, hb => by
  unfold zdk
  have hok := hv v (by simp)
  unfold okV at hok
  simp only [Bool.and_eq_true, decide_eq_true_eq] at hok
  split
  ·
   constructor <;> (constructor <;> (try dsimp only) <;> omega)
  ·
   split
   ·
    constructor <;> (constructor <;> (try dsimp only) <;> omega)
   ·
    obtain ⟨_, _, h3, h4⟩ := zss (i := i) ⟨hok.2.2.1, hok.2.2.2⟩ (zir n v.acts c most) (zof n v.acts c most) ha hb
    have := zsv n c most vs _ _ (i + 1) (fun u hu => hv u (by simp [hu])) h3 h4
    rw [List.length_cons, show i + (vs.length + 1) = i + 1 + vs.length by omega]
    exact this
theorem zeh {F : Frm} {σ : List Ob} {ad u : Nat} {id : Nat} {ob : Ob} {cs : List AV} {e1 y : AV} {r : FE} {e : Exit} (he : e = .normal ∨ e = .ret) (hp : F.get ad = .ptr id 2 0 0) (hs : σ[id]? = some ob) (ho : zfp ob = some (2, cs)) (hk : cs[0]? = some e1) (hn : e1.cells = [eI r.n, eI r.d]) (hu : F.get u = y) (hy : y = eI r.e) : zj1 P [.cell ad 32, .tmp u] (eFE r) e F σ := by
 refine z1y he ta32 ti32 hp hs ho hk (by rw [hn]; rfl) hu ?_
 rw [hn, hy]; rfl
end Go.Proofs.YtohmldibkojkfaaGreatDoor.Aw
end
section
namespace Go.Proofs.YtohmldibkojkfaaGreatDoor.Aw
open Go Go.RowKit Go.Proofs Dl
variable {P : Program} [IsP P]
def zFA : AV := .agg [eI 0, eI 0]
theorem zod : ∀ e ∈ [zFA], ∀ c ∈ e.cells, Lo 0 c := by
 intro e he c hc
 simp at he; subst he
 simp [zFA, AV.cells] at hc; subst hc; exact .s _
theorem zy5 {k : Nat} (r : FE) : Lo k (eFE r) := .tup _ (zaj (.agg _ (zaj (.s _) (zaj (.s _) zbb))) (zaj (.s _) zbb))
theorem z0t {n : Net} {c : Cst} {most : Int} {v : Vr} (hv : okV v = true) {a b : Int} {i : Nat} (hi : i ≤ 300) (ha : 0 ≤ a ∧ a ≤ 2306867200000 * i) (hb : 0 ≤ b ∧ b ≤ 2306867200000 * i) :
  IntKind.i64.wrap (v.cnt * (zco n v.acts c most).1) = v.cnt * (zco n v.acts c most).1 ∧ IntKind.i64.wrap (a + v.cnt * (zco n v.acts c most).1) = a + v.cnt * (zco n v.acts c most).1 ∧
  IntKind.i64.wrap (v.cnt * (zdz n v.acts c most).1) = v.cnt * (zdz n v.acts c most).1 ∧ IntKind.i64.wrap (b + v.cnt * (zdz n v.acts c most).1) = b + v.cnt * (zdz n v.acts c most).1 ∧
  (0 ≤ a + v.cnt * (zco n v.acts c most).1 ∧ a + v.cnt * (zco n v.acts c most).1 ≤ 2306867200000 * ((i + 1 : Nat) : Int)) ∧ (0 ≤ b + v.cnt * (zdz n v.acts c most).1 ∧ b + v.cnt * (zdz n v.acts c most).1 ≤ 2306867200000 * ((i + 1 : Nat) : Int)) := by
 unfold okV at hv
 simp only [Bool.and_eq_true, decide_eq_true_eq] at hv
 obtain ⟨h1, h2, h3, h4⟩ := zss (i := i) ⟨hv.2.2.1, hv.2.2.2⟩ (zir n v.acts c most) (zof n v.acts c most) ha hb
 exact ⟨IntWalk.i64_in _ (by omega), IntWalk.i64_in _ (by omega), IntWalk.i64_in _ (by omega), IntWalk.i64_in _ (by omega), h3, h4⟩
set_option maxHeartbeats 4000000 in
theorem zst (n : Net) (vs : List Vr) (c : Cst) (most : Int) : Pure P 11 [eN n, eL eVr vs, eC c, eI most] (eFE (qFitE n vs c most)) := by
 have hR : qFitE n vs c most = if qcoE n vs c most ≠ 0 then ⟨0, 0, qcoE n vs c most⟩ else if (zdk n c most vs 0 0).2.2 ≠ 0 then ⟨0, 0, (zdk n c most vs 0 0).2.2⟩
  else if (zdk n c most vs 0 0).2.1 = 0 then ⟨0, 0, 10⟩ else zej ((zdk n c most vs 0 0).2.1 - (zdk n c most vs 0 0).1) (zdk n c most vs 0 0).2.1 := rfl
 generalize qFitE n vs c most = R at hR ⊢
 have hco := zlq (P := P) n vs c most
 have hqok := @zr8 n vs c most
 generalize qcoE n vs c most = g at hco hR hqok
 have hln : Lo 0 (.ref (eN n).cells) := .ref _ (lo_N n).cells
 have hlc : Lo 0 (.ref (eC c).cells) := .ref _ (lo_C c).cells
 refine zcy (by rw [IsP.eq (P := P)]; exact Tryz.func11) rfl rfl rfl rfl rfl (zaj (lo_N n) (zaj (zfz vs) (zaj (lo_C c) (zaj (.s _) zbb)))) (zy5 _) (by simp only [argF]; rfl) ?_
 refine zaf (zab (zad rfl rfl (zaa rfl) (zbg rfl rfl rfl rfl) ?_))
 refine zar (zbl (id := 0) rfl) (zar (zb3 (d := 4) rfl rfl rfl) ?_)
 refine zad rfl rfl (zaa rfl) (zbg rfl rfl rfl rfl) ?_
 refine zar (zbl (id := 1) rfl) (zar (zb3 (d := 6) rfl rfl rfl) ?_)
 refine zad rfl rfl (zaa rfl) (zbw rfl ti32 rfl rfl) (zac rfl (zae (zaf (zaf (zab (zbc ta24 ti24 rfl (zac rfl (zbc ta27 ti27 rfl (zac rfl (zad rfl rfl (zaa rfl) (zai rfl rfl (hco) (zag rfl (zag rfl (zag rfl (zag rfl zam))))) (zac rfl (zae (zaf ?_)))))))))))))
 by_cases hg : g ≠ 0
 ·
  rw [if_pos hg] at hR
  refine zab (zac rfl (zad rfl rfl (zaa rfl) (zbn hg (zbf rfl rfl rfl)) (zae (zah (zax rfl (zaf (zab (zad rfl rfl (zaa rfl) (zbr rfl ti32 tp32 rfl rfl) (zac rfl (zbz rfl (zaa rfl) (za0 rfl ti32 rfl rfl rfl rfl rfl rfl (by decide) (by decide)) (zac rfl (zae (zah ?_)))))))))))))
  (refine zav ?_; repeat (first | refine za6 ?_ | refine za7 ?_))
  subst hR
  exact zeh (.inr rfl) rfl rfl rfl rfl rfl rfl rfl
 rw [if_neg hg] at hR
 have hg0 : g = 0 := Classical.byContradiction hg
 obtain ⟨hvc, -, hwf, hvv, hm1, hm2⟩ := hqok hg0
 have hlen : vs.length ≤ 300 := by unfold vvB at hvv; simp only [Bool.and_eq_true, decide_eq_true_eq] at hvv; exact hvv.1
 have hokv : ∀ i, i < vs.length → okV (gti vs i) = true := fun i hi => zup hvv hi
 have hokm : ∀ v ∈ vs, okV v = true := fun v hv => by
  obtain ⟨i, hi, rfl⟩ := List.mem_iff_getElem.1 hv
  have := hokv i hi
  rwa [show gti vs i = vs[i] from zdq (List.getElem?_eq_getElem hi)] at this
 refine zab (zac rfl (zad rfl rfl (zaa rfl) (zbj hg (zbf rfl rfl rfl)) (zae (zah (zat rfl (zaq (zaf (zab (zac rfl (zac rfl (zae (zaf (zaf (zab (zac rfl (zad rfl rfl (zaa rfl) (zak rfl ts25 rfl) (zac rfl (zae (zah (zaw ?_))))))))))))))))))))
 obtain ⟨G, hG⟩ : ∃ G, zdk n c most vs 0 0 = G := ⟨_, rfl⟩
 rw [hG] at hR
 refine zcb (S := Nat × Int × Int) (fun p => [(1, eL eVr vs), (3, eI most), (4, .ref (eN n).cells), (6, .ref (eC c).cells), (8, .ptr 0 2 0 0), (9, eI 0), (11, eI p.2.1), (12, eI p.2.2), (27, eL eVr vs), (28, eI vs.length), (29, eI p.1)]) (fun _ => [.row 2 [zFA]]) (fun p => p.1 ≤ vs.length ∧ zdk n c most (vs.drop p.1) p.2.1 p.2.2 = G ∧ (0 ≤ p.2.1 ∧ p.2.1 ≤ 2306867200000 * (p.1 : Int)) ∧ (0 ≤ p.2.2 ∧ p.2.2 ≤ 2306867200000 * (p.1 : Int))) (fun p => vs.length - p.1) (0, 0, 0)
  (zed [2] (by decide) ⟨⟨_, rfl, .rowE zod rfl⟩, trivial⟩ ⟨.lo _ (zfz vs), .lo _ (.s _), .lo _ hln, .lo _ hlc, .ptr 2 0 2 0 0 rfl, .lo _ (.s _), .lo _ (.s _), .lo _ (.s _), .lo _ (zfz vs), .lo _ (.s _), .lo _ (.s _), trivial⟩) ⟨Nat.zero_le _, hG, by show (0 : Int) ≤ 0 ∧ (0 : Int) ≤ 2306867200000 * 0; decide, by show (0 : Int) ≤ 0 ∧ (0 : Int) ≤ 2306867200000 * 0; decide⟩ (fun p hp => ?_)
 obtain ⟨k, a, b⟩ := p
 obtain ⟨hk, hgo, ha, hb⟩ := hp
 replace hk : k ≤ vs.length := hk
 replace hgo : zdk n c most (vs.drop k) a b = G := hgo
 replace ha : 0 ≤ a ∧ a ≤ 2306867200000 * (k : Int) := ha
 replace hb : 0 ≤ b ∧ b ≤ 2306867200000 * (k : Int) := hb
 by_cases hlt : k < vs.length
 rotate_left 1
 ·
  have e : k = vs.length := by omega
  subst e
  rw [List.drop_length] at hgo
  replace hgo : (a, b, 0) = G := hgo
  rw [← hgo, if_neg (fun h => h rfl)] at hR
  refine zaf (zab (zad rfl rfl (zaa rfl) (zbj (by omega) (zaz rfl rfl rfl)) (zae (zaf (zat rfl ?_)))))
  (refine zcg ?_; repeat (first | refine zdn ?_ | refine zb7 ?_ | refine zbs rfl ?_ | refine zb8 ?_ | refine zah ?_ | refine zaf ?_ | refine zaq ?_ | refine zaw ?_))
  by_cases hb0 : b = 0
  ·
   rw [if_pos hb0] at hR
   refine zab (zac rfl (zad rfl rfl (zaa rfl) (zbn hb0 (zb5 rfl rfl rfl)) (zae (zah (zax rfl (zaf (zab (zad rfl rfl (zaa rfl) (zbr rfl ti32 tp32 rfl rfl) (zbz rfl (zaa rfl) (za0 rfl ti32 rfl rfl rfl rfl rfl rfl (by decide) (by decide)) (zac rfl (zae (zah ?_))))))))))))
   (refine zav ?_; repeat (first | refine za6 ?_ | refine za7 ?_))
   subst hR
   exact zeh (.inr rfl) rfl rfl rfl rfl rfl rfl rfl
  ·
   rw [if_neg hb0] at hR
   have hmk := zsw (P := P) (b - a) b (by omega) (by omega)
   dsimp only at hR
   have hsub : IntKind.i64.wrap (b - a) = b - a := IntWalk.i64_in _ (by omega)
   rw [← hR] at hmk
   refine zab (zac rfl (zad rfl rfl (zaa rfl) (zbj hb0 (zb5 rfl rfl rfl)) (zae (zah (zat rfl (zaq (zaf (zab (zac rfl (zac rfl (zad rfl rfl (zaa rfl) (zcw rfl rfl rfl hsub) (zac rfl (zad rfl rfl (zaa rfl) (zai rfl rfl (hmk) (zag rfl (zag rfl zam))) (zac rfl (zac rfl (zbz rfl (zaa rfl) (za0 rfl ti32 rfl rfl rfl rfl rfl rfl (by decide) (by decide)) (zac rfl (zae (zah ?_)))))))))))))))))))
   (refine zav ?_; repeat (first | refine za6 ?_ | refine za7 ?_))
   exact zeh (.inr rfl) rfl rfl rfl rfl rfl rfl rfl
 have hix : (vs.map eVr)[k]? = some (eVr (gti vs k)) := zch hlt
 have hL := zsg (P := P) n (gti vs k).acts c most
 have hW := zyi (P := P) n (gti vs k).acts c most
 have har := z0t (n := n) (c := c) (most := most) (hokv k hlt) (i := k) (by omega) ha hb
 rw [zcr hlt] at hgo
 unfold zdk at hgo
 generalize gti vs k = v at hix hL hW har hgo
 obtain ⟨acts, cnt⟩ := v
 dsimp only at hL hW har hgo
 replace hix : (vs.map eVr)[k]? = some (aVr acts cnt) := hix
 generalize zco n acts c most = l1 at hL har hgo
 generalize zdz n acts c most = l2 at hW har hgo
 obtain ⟨x, ex⟩ := l1
 obtain ⟨y, ey⟩ := l2
 dsimp only at har hgo
 obtain ⟨g1, g2, g3, g4, g5, g6⟩ := har
 have hlv : Lo 0 (.ref (aVr acts cnt).cells) := .ref _ (zww ⟨acts, cnt⟩).cells
 refine zaf (zab (zad rfl rfl (zaa rfl) (zbn (by omega) (zaz rfl rfl rfl)) (zae (zaf (zax rfl (zaq (zaf (zaw (zaf (zab (zad rfl rfl (zaa rfl) (zap rfl ts25 ti46 rfl rfl rfl hix rfl) (zbc ta46 ti46 rfl (zad rfl rfl (zaa rfl) (zbw rfl ti46 rfl rfl) (zbz rfl (zaa rfl) (za0 rfl ti46 rfl rfl rfl rfl rfl rfl (by decide) (by decide)) (zae (zaf ?_))))))))))))))))
 refine zbv (zbl (id := 1) rfl) ?_
 refine zbv (zb3 (d := 14) rfl rfl rfl) ?_
 refine zbv (zed (σ' := [.row 2 [zFA]]) [0] (by decide) ⟨⟨_, rfl, .rowE zod rfl⟩, trivial⟩ (F' := [(1, eL eVr vs), (3, eI most), (4, .ref (eN n).cells), (6, .ref (eC c).cells), (8, .ptr 0 2 0 0), (9, eI 0), (11, eI a), (12, eI b), (27, eL eVr vs), (28, eI vs.length), (29, eI k), (14, .ref (aVr acts cnt).cells)]) ⟨.lo _ (zfz vs), .lo _ (.s _), .lo _ hln, .lo _ hlc,   .ptr 0 0 2 0 0 rfl, .lo _ (.s _), .lo _ (.s _), .lo _ (.s _), .lo _ (zfz vs), .lo _ (.s _), .lo _ (.s _), .lo _ hlv, trivial⟩) ?_
 refine zab (zbc ta24 ti24 rfl (zbm zcn rfl (zbu ta44 rfl (zbc ta27 ti27 rfl (zac rfl (zad rfl rfl (zaa rfl) (zai rfl rfl (hL) (zag rfl (zag rfl (zag rfl (zag rfl zam))))) (zac rfl (zac rfl (zac rfl (zac rfl (zac rfl (zae (zaf (zaf ?_))))))))))))))
 by_cases he : ex ≠ 0
 ·
  rw [if_pos he] at hgo
  rw [← hgo, if_pos he] at hR
  refine zab (zac rfl (zad rfl rfl (zaa rfl) (zbn he (zbf rfl rfl rfl)) (zae (zah (zax rfl (zaf (zab (zad rfl rfl (zaa rfl) (zbr rfl ti32 tp32 rfl rfl) (zac rfl (zbz rfl (zaa rfl) (za0 rfl ti32 rfl rfl rfl rfl rfl rfl (by decide) (by decide)) (zac rfl (zae (zah ?_)))))))))))))
  (refine zav ?_; repeat (first | refine za6 ?_ | refine za7 ?_))
  subst hR
  exact zeh (.inr rfl) rfl rfl rfl rfl rfl rfl rfl
 rw [if_neg he] at hgo
 refine zab (zac rfl (zad rfl rfl (zaa rfl) (zbj he (zbf rfl rfl rfl)) (zae (zah (zat rfl (zaq (zaf (zab (zbc ta24 ti24 rfl (zbm zcn rfl (zbu ta44 rfl (zbc ta27 ti27 rfl (zac rfl (zad rfl rfl (zaa rfl) (zai rfl rfl (hW) (zag rfl (zag rfl (zag rfl (zag rfl zam))))) (zac rfl (zac rfl (zac rfl (zac rfl (zac rfl (zae (zaf (zaf ?_))))))))))))))))))))))
 by_cases he2 : ey ≠ 0
 ·
  rw [if_pos he2] at hgo
  rw [← hgo, if_pos he2] at hR
  refine zab (zac rfl (zad rfl rfl (zaa rfl) (zbn he2 (zbf rfl rfl rfl)) (zae (zah (zax rfl (zaf (zab (zad rfl rfl (zaa rfl) (zbr rfl ti32 tp32 rfl rfl) (zac rfl (zbz rfl (zaa rfl) (za0 rfl ti32 rfl rfl rfl rfl rfl rfl (by decide) (by decide)) (zac rfl (zae (zah ?_)))))))))))))
  (refine zav ?_; repeat (first | refine za6 ?_ | refine za7 ?_))
  subst hR
  exact zeh (.inr rfl) rfl rfl rfl rfl rfl rfl rfl
 rw [if_neg he2] at hgo
 refine zab (zac rfl (zad rfl rfl (zaa rfl) (zbj he2 (zbf rfl rfl rfl)) (zae (zah (zat rfl (zaq (zaf (zab (zac rfl (zbm zen rfl (zbu ta3 rfl (zac rfl (zad rfl rfl (zaa rfl) (zgu rfl rfl rfl g1) (zad rfl rfl (zaa rfl) (za9 rfl rfl rfl g2) (zac rfl (zae (zah (zab (zac rfl (zbm zen rfl (zbu ta3 rfl (zac rfl (zad rfl rfl (zaa rfl) (zgu rfl rfl rfl g3) (zad rfl rfl (zaa rfl) (za9 rfl rfl rfl g4) (zac rfl (zae (zb8 (zah (zab ?_)))))))))))))))))))))))))))))
 refine zad rfl rfl (zaa rfl) (za9 rfl rfl rfl (IntWalk.i64_in _ (by omega))) (zac rfl (zae (zah ?_)))
 exact ⟨(k + 1, a + cnt * x, b + cnt * y), ⟨by show k + 1 ≤ vs.length; omega, hgo, g5, g6⟩, by show vs.length - (k + 1) < vs.length - k; omega, zbx _ ⟨rfl, rfl, rfl, rfl, rfl, rfl, rfl, rfl, rfl, rfl, rfl, trivial⟩⟩
end Go.Proofs.YtohmldibkojkfaaGreatDoor.Aw
end
section
namespace Go.Proofs.YtohmldibkojkfaaGreatDoor.Aw
open Go Go.RowKit Go.Proofs Dl
variable {P : Program} [IsP P]
theorem zqp {F : Frm} {σ : List Ob} {G : Int × Int × Int} {e : Exit} (he : e = .normal ∨ e = .ret) (h1 : F.get 8 = eI G.1) (h2 : F.get 9 = eI G.2.1) (h3 : F.get 10 = eI G.2.2) : zj1 P [.tmp 8, .tmp 9, .tmp 10] (.tup [eI G.1, eI G.2.1, eI G.2.2]) e F σ :=
 ⟨he, [eI G.1, eI G.2.1, eI G.2.2], .cons _ _ _ _ (.tmp _ _ h1) (.cons _ _ _ _ (.tmp _ _ h2) (.cons _ _ _ _ (.tmp _ _ h3) .nil)), .refl _⟩
theorem zvs (n : Net) (vs : List Vr) (c : Cst) (most : Int) (hvv : vvB vs = true) : Pure P 38 [eN n, eL eVr vs, eC c, eI most] (.tup [eI (zdk n c most vs 0 0).1, eI (zdk n c most vs 0 0).2.1, eI (zdk n c most vs 0 0).2.2]) := by
 obtain ⟨G, hG⟩ : ∃ G, zdk n c most vs 0 0 = G := ⟨_, rfl⟩
 rw [hG]
 have hln : Lo 0 (.ref (eN n).cells) := .ref _ (lo_N n).cells
 have hlc : Lo 0 (.ref (eC c).cells) := .ref _ (lo_C c).cells
 have hlen : vs.length ≤ 300 := by unfold vvB at hvv; simp only [Bool.and_eq_true, decide_eq_true_eq] at hvv; exact hvv.1
 have hokv : ∀ i, i < vs.length → okV (gti vs i) = true := fun i hi => zup hvv hi
 refine zcy (by rw [IsP.eq (P := P)]; exact Tryz.func38) rfl rfl rfl rfl rfl (zaj (lo_N n) (zaj (zfz vs) (zaj (lo_C c) (zaj (.s _) zbb)))) (.tup _ (zaj (.s _) (zaj (.s _) (zaj (.s _) zbb)))) (by simp only [argF]; rfl) ?_
 refine zaf (zab (zad rfl rfl (zaa rfl) (zbg rfl rfl rfl rfl) ?_))
 refine zar (zbl (id := 0) rfl) (zar (zb3 (d := 4) rfl rfl rfl) ?_)
 refine zad rfl rfl (zaa rfl) (zbg rfl rfl rfl rfl) ?_
 refine zar (zbl (id := 1) rfl) (zar (zb3 (d := 6) rfl rfl rfl) ?_)
 refine zac rfl (zac rfl (zac rfl (zae (zaf (zab (zac rfl (zae (zaf (zab (zac rfl (zae (zaf (zaf (zab (zac rfl (zae (zah (zaw ?_))))))))))))))))))
 refine zcb (S := Nat × Int × Int) (fun p => [(1, eL eVr vs), (3, eI most), (4, .ref (eN n).cells), (6, .ref (eC c).cells), (11, eI p.2.1), (12, eI p.2.2), (13, eI p.1)]) (fun _ => []) (fun p => p.1 ≤ vs.length ∧ zdk n c most (vs.drop p.1) p.2.1 p.2.2 = G ∧ (0 ≤ p.2.1 ∧ p.2.1 ≤ 2306867200000 * (p.1 : Int)) ∧ (0 ≤ p.2.2 ∧ p.2.2 ≤ 2306867200000 * (p.1 : Int))) (fun p => vs.length - p.1) (0, 0, 0)
  (zed [] (by decide) trivial ⟨.lo _ (zfz vs), .lo _ (.s _), .lo _ hln, .lo _ hlc, .lo _ (.s _), .lo _ (.s _), .lo _ (.s _), trivial⟩) ⟨Nat.zero_le _, hG, by show (0 : Int) ≤ 0 ∧ (0 : Int) ≤ 2306867200000 * 0; decide, by show (0 : Int) ≤ 0 ∧ (0 : Int) ≤ 2306867200000 * 0; decide⟩ (fun p hp => ?_)
 obtain ⟨k, a, b⟩ := p
 obtain ⟨hk, hgo, ha, hb⟩ := hp
 replace hk : k ≤ vs.length := hk
 replace hgo : zdk n c most (vs.drop k) a b = G := hgo
 replace ha : 0 ≤ a ∧ a ≤ 2306867200000 * (k : Int) := ha
 replace hb : 0 ≤ b ∧ b ≤ 2306867200000 * (k : Int) := hb
 by_cases hlt : k < vs.length
 rotate_left 1
 ·
  have e : k = vs.length := by omega
  subst e
  rw [List.drop_length] at hgo
  replace hgo : (a, b, 0) = G := hgo
  subst hgo
  refine zaf (zaf (zab (zac rfl (zac rfl (zad rfl rfl (zaa rfl) (zak rfl ts25 rfl) (zad rfl rfl (zaa rfl) (zbj (by omega) (zaz rfl rfl rfl)) (zae (zah (zat rfl ?_)))))))))
  (refine zcg ?_; repeat (first | refine zdn ?_ | refine zb7 ?_ | refine zbs rfl ?_ | refine zb8 ?_ | refine zah ?_ | refine zaf ?_ | refine zaq ?_ | refine zaw ?_))
  refine zab (zac rfl (zac rfl (zac rfl (zac rfl (zac rfl (zae (zah ?_)))))))
  (refine zav ?_; repeat (first | refine za6 ?_ | refine za7 ?_))
  exact zqp (.inr rfl) rfl rfl rfl
 have hix : (vs.map eVr)[k]? = some (eVr (gti vs k)) := zch hlt
 have hL := zov (P := P) n (gti vs k).acts c most
 have hW := zvj (P := P) n (gti vs k).acts c most
 have har := z0t (n := n) (c := c) (most := most) (hokv k hlt) (i := k) (by omega) ha hb
 rw [zcr hlt] at hgo
 unfold zdk at hgo
 generalize gti vs k = v at hix hL hW har hgo
 obtain ⟨acts, cnt⟩ := v
 dsimp only at hL hW har hgo
 replace hix : (vs.map eVr)[k]? = some (aVr acts cnt) := hix
 generalize zco n acts c most = l1 at hL har hgo
 generalize zdz n acts c most = l2 at hW har hgo
 obtain ⟨x, ex⟩ := l1
 obtain ⟨y, ey⟩ := l2
 dsimp only at har hgo
 obtain ⟨g1, g2, g3, g4, g5, g6⟩ := har
 refine zaf (zaf (zab (zac rfl (zac rfl (zad rfl rfl (zaa rfl) (zak rfl ts25 rfl) (zad rfl rfl (zaa rfl) (zbn (by omega) (zaz rfl rfl rfl)) (zae (zah (zax rfl (zaq (zaf (zaw (zaf ?_)))))))))))))
 refine zb1 hmix ?_
 refine za5 (by kernel_rfl) ?_
 refine qx_w ta24 ti24 rfl (qx_s rfl (qx_s rfl (za2 rfl rfl (zaa rfl) (zap rfl ts25 ti46 rfl rfl rfl hix rfl) (qx_f zcn rfl (qx_l ta44 rfl (qx_w ta27 ti27 rfl (qx_s rfl (za2 rfl rfl (zaa rfl) (zai rfl rfl (hL) (zag rfl (zag rfl (zag rfl (zag rfl zam))))) (qx_s rfl (qx_s rfl (qx_s rfl (qx_s rfl (qx_s rfl ?_)))))))))))))
 refine zck ?_
 refine zaf (zaf ?_)
 by_cases he : ex ≠ 0
 ·
  rw [if_pos he] at hgo
  subst hgo
  refine zab (zac rfl (zad rfl rfl (zaa rfl) (zbn he (zbf rfl rfl rfl)) (zae (zah (zax rfl (zaf (zab (zac rfl (zac rfl (zac rfl (zac rfl (zae (zah ?_)))))))))))))
  (refine zav ?_; repeat (first | refine za6 ?_ | refine za7 ?_))
  exact zqp (.inr rfl) rfl rfl rfl
 rw [if_neg he] at hgo
 refine zab (zac rfl (zad rfl rfl (zaa rfl) (zbj he (zbf rfl rfl rfl)) (zae (zah (zat rfl (zaq (zaf ?_)))))))
 refine zb1 hmix ?_
 refine za5 (by kernel_rfl) ?_
 refine qx_w ta24 ti24 rfl (qx_s rfl (qx_s rfl (za2 rfl rfl (zaa rfl) (zap rfl ts25 ti46 rfl rfl rfl hix rfl) (qx_f zcn rfl (qx_l ta44 rfl (qx_w ta27 ti27 rfl (qx_s rfl (za2 rfl rfl (zaa rfl) (zai rfl rfl (hW) (zag rfl (zag rfl (zag rfl (zag rfl zam))))) (qx_s rfl (qx_s rfl (qx_s rfl (qx_s rfl (qx_s rfl ?_)))))))))))))
 refine zck ?_
 refine zaf (zaf ?_)
 by_cases he2 : ey ≠ 0
 ·
  rw [if_pos he2] at hgo
  subst hgo
  refine zab (zac rfl (zad rfl rfl (zaa rfl) (zbn he2 (zbf rfl rfl rfl)) (zae (zah (zax rfl (zaf (zab (zac rfl (zac rfl (zac rfl (zac rfl (zae (zah ?_)))))))))))))
  (refine zav ?_; repeat (first | refine za6 ?_ | refine za7 ?_))
  exact zqp (.inr rfl) rfl rfl rfl
 rw [if_neg he2] at hgo
 refine zab (zac rfl (zad rfl rfl (zaa rfl) (zbj he2 (zbf rfl rfl rfl)) (zae (zah (zat rfl (zaq (zaf (zab (zac rfl (zac rfl (zac rfl (zad rfl rfl (zaa rfl) (zap rfl ts25 ti46 rfl rfl rfl hix rfl) (zbm zen rfl (zbu ta3 rfl (zac rfl (zad rfl rfl (zaa rfl) (zgu rfl rfl rfl g1) (zad rfl rfl (zaa rfl) (za9 rfl rfl rfl g2) (zac rfl (zae (zah (zab (zac rfl (zac rfl (zac rfl (zad rfl rfl (zaa rfl) (zap rfl ts25 ti46 rfl rfl rfl hix rfl) ?_)))))))))))))))))))))))))
 refine zbm zen rfl (zbu ta3 rfl (zac rfl (zad rfl rfl (zaa rfl) (zgu rfl rfl rfl g3) (zad rfl rfl (zaa rfl) (za9 rfl rfl rfl g4) (zac rfl (zae (zb8 (zah (zab (zac rfl (zad rfl rfl (zaa rfl) (za9 rfl rfl rfl (IntWalk.i64_in _ (by omega))) (zac rfl (zae (zah ?_))))))))))))))
 exact ⟨(k + 1, a + cnt * x, b + cnt * y), ⟨by show k + 1 ≤ vs.length; omega, hgo, g5, g6⟩, by show vs.length - (k + 1) < vs.length - k; omega, zbx _ ⟨rfl, rfl, rfl, rfl, rfl, rfl, rfl, trivial⟩⟩
theorem zqo (n : Net) (vs : List Vr) (c : Cst) (most : Int) : Pure P 12 [eN n, eL eVr vs, eC c, eI most] (eFE (qFitE n vs c most)) := by
 have hR : qFitE n vs c most = if qcoE n vs c most ≠ 0 then ⟨0, 0, qcoE n vs c most⟩ else if (zdk n c most vs 0 0).2.2 ≠ 0 then ⟨0, 0, (zdk n c most vs 0 0).2.2⟩
  else if (zdk n c most vs 0 0).2.1 = 0 then ⟨0, 0, 10⟩ else zej ((zdk n c most vs 0 0).2.1 - (zdk n c most vs 0 0).1) (zdk n c most vs 0 0).2.1 := rfl
 generalize qFitE n vs c most = R at hR ⊢
 have hqok := @zr8 n vs c most
 have hqd : qcoE n vs c most = if vcB c = false then 1 else qgvE n vs most := rfl
 have hfa := zvr (P := P) n vs most
 have hva := zh1 (P := P) c
 have hcs := fun h => zvs (P := P) n vs c most h
 have hbd := fun h => zsv n c most vs 0 0 0 h (by show (0 : Int) ≤ 0 ∧ (0 : Int) ≤ 2306867200000 * 0; decide) (by show (0 : Int) ≤ 0 ∧ (0 : Int) ≤ 2306867200000 * 0; decide)
 generalize qcoE n vs c most = g at hR hqok hqd
 generalize qgvE n vs most = q at hfa hqd hqok
 generalize vcB c = bv at hva hqd hqok
 have hln : Lo 0 (.ref (eN n).cells) := .ref _ (lo_N n).cells
 have hlc : Lo 0 (.ref (eC c).cells) := .ref _ (lo_C c).cells
 refine zcy (by rw [IsP.eq (P := P)]; exact Tryz.func12) rfl rfl rfl rfl rfl (zaj (lo_N n) (zaj (zfz vs) (zaj (lo_C c) (zaj (.s _) zbb)))) (zy5 _) (by simp only [argF]; rfl) ?_
 refine zaf (zab (zad rfl rfl (zaa rfl) (zbg rfl rfl rfl rfl) ?_))
 refine zar (zbl (id := 0) rfl) (zar (zb3 (d := 4) rfl rfl rfl) ?_)
 refine zad rfl rfl (zaa rfl) (zbg rfl rfl rfl rfl) ?_
 refine zar (zbl (id := 1) rfl) (zar (zb3 (d := 6) rfl rfl rfl) ?_)
 refine zad rfl rfl (zaa rfl) (zbw rfl ti32 rfl rfl) (zac rfl (zae (zaf (zaf ?_))))
 cases bv with
 | false =>
  rw [if_pos rfl] at hqd
  subst hqd
  rw [if_pos (by decide)] at hR
  refine zab (zbc ta27 ti27 rfl (zad rfl rfl (zaa rfl) (zai rfl rfl (hva) (zag rfl zam)) (zad rfl rfl (zaa rfl) (zay rfl rfl) (zae (zah (zax rfl (zaf (zab (zad rfl rfl (zaa rfl) (zbr rfl ti32 tp32 rfl rfl) (zbz rfl (zaa rfl) (za0 rfl ti32 rfl rfl rfl rfl rfl rfl (by decide) (by decide)) (zac rfl (zae (zah ?_)))))))))))))
  (refine zav ?_; repeat (first | refine za6 ?_ | refine za7 ?_))
  subst hR
  exact zeh (.inr rfl) rfl rfl rfl rfl rfl rfl rfl
 | true =>
 rw [if_neg (by decide)] at hqd
 subst hqd
 refine zab (zbc ta27 ti27 rfl (zad rfl rfl (zaa rfl) (zai rfl rfl (hva) (zag rfl zam)) (zad rfl rfl (zaa rfl) (zay rfl rfl) (zae (zah (zat rfl (zaq (zaf (zab (zbc ta24 ti24 rfl (zac rfl (zac rfl (zad rfl rfl (zaa rfl) (zai rfl rfl (hfa) (zag rfl (zag rfl (zag rfl zam)))) (zac rfl (zae (zaf (zaf ?_)))))))))))))))))
 by_cases hg : g ≠ 0
 ·
  rw [if_pos hg] at hR
  refine zab (zac rfl (zad rfl rfl (zaa rfl) (zbn hg (zbf rfl rfl rfl)) (zae (zah (zax rfl (zaf (zab (zad rfl rfl (zaa rfl) (zbr rfl ti32 tp32 rfl rfl) (zac rfl (zbz rfl (zaa rfl) (za0 rfl ti32 rfl rfl rfl rfl rfl rfl (by decide) (by decide)) (zac rfl (zae (zah ?_)))))))))))))
  (refine zav ?_; repeat (first | refine za6 ?_ | refine za7 ?_))
  subst hR
  exact zeh (.inr rfl) rfl rfl rfl rfl rfl rfl rfl
 rw [if_neg hg] at hR
 have hg0 : g = 0 := Classical.byContradiction hg
 obtain ⟨-, -, hwf, hvv, hm1, hm2⟩ := hqok hg0
 have hlen : vs.length ≤ 300 := by unfold vvB at hvv; simp only [Bool.and_eq_true, decide_eq_true_eq] at hvv; exact hvv.1
 have hokm : ∀ v ∈ vs, okV v = true := fun v hv => by
  obtain ⟨i, hi, rfl⟩ := List.mem_iff_getElem.1 hv
  have := zup hvv hi
  rwa [show gti vs i = vs[i] from zdq (List.getElem?_eq_getElem hi)] at this
 have hbd := hbd hokm
 have hcs := hcs hvv
 generalize zdk n c most vs 0 0 = G at hR hbd hcs
 obtain ⟨a, b, e⟩ := G
 dsimp only at hR hbd hcs
 refine zab (zac rfl (zad rfl rfl (zaa rfl) (zbj hg (zbf rfl rfl rfl)) (zae (zah (zat rfl (zaq (zaf (zab (zbc ta24 ti24 rfl (zac rfl (zbc ta27 ti27 rfl (zac rfl (zad rfl rfl (zaa rfl) (zai rfl rfl (hcs) (zag rfl (zag rfl (zag rfl (zag rfl zam))))) (zac rfl (zac rfl (zac rfl (zac rfl (zac rfl (zac rfl (zac rfl (zae (zaf (zaf ?_)))))))))))))))))))))))
 by_cases he : e ≠ 0
 ·
  rw [if_pos he] at hR
  refine zab (zac rfl (zad rfl rfl (zaa rfl) (zbn he (zbf rfl rfl rfl)) (zae (zah (zax rfl (zaf (zab (zad rfl rfl (zaa rfl) (zbr rfl ti32 tp32 rfl rfl) (zac rfl (zbz rfl (zaa rfl) (za0 rfl ti32 rfl rfl rfl rfl rfl rfl (by decide) (by decide)) (zac rfl (zae (zah ?_)))))))))))))
  (refine zav ?_; repeat (first | refine za6 ?_ | refine za7 ?_))
  subst hR
  exact zeh (.inr rfl) rfl rfl rfl rfl rfl rfl rfl
 rw [if_neg he] at hR
 refine zab (zac rfl (zad rfl rfl (zaa rfl) (zbj he (zbf rfl rfl rfl)) (zae (zah (zat rfl (zaq (zaf (zaf ?_))))))))
 by_cases hb0 : b = 0
 ·
  rw [if_pos hb0] at hR
  refine zab (zac rfl (zad rfl rfl (zaa rfl) (zbn hb0 (zb5 rfl rfl rfl)) (zae (zah (zax rfl (zaf (zab (zad rfl rfl (zaa rfl) (zbr rfl ti32 tp32 rfl rfl) (zbz rfl (zaa rfl) (za0 rfl ti32 rfl rfl rfl rfl rfl rfl (by decide) (by decide)) (zac rfl (zae (zah ?_))))))))))))
  (refine zav ?_; repeat (first | refine za6 ?_ | refine za7 ?_))
  subst hR
  exact zeh (.inr rfl) rfl rfl rfl rfl rfl rfl rfl
 ·
  rw [if_neg hb0] at hR
  have hmk := zr7 (P := P) (b - a) b (by omega) (by omega)
  rw [← hR] at hmk
  have hsub : IntKind.i64.wrap (b - a) = b - a := IntWalk.i64_in _ (by omega)
  refine zab (zac rfl (zad rfl rfl (zaa rfl) (zbj hb0 (zb5 rfl rfl rfl)) (zae (zah (zat rfl (zaq (zaf (zab (zac rfl (zac rfl (zad rfl rfl (zaa rfl) (zcw rfl rfl rfl hsub) (zac rfl (zad rfl rfl (zaa rfl) (zai rfl rfl (hmk) (zag rfl (zag rfl zam))) (zac rfl (zac rfl (zbz rfl (zaa rfl) (za0 rfl ti32 rfl rfl rfl rfl rfl rfl (by decide) (by decide)) (zac rfl (zae (zah ?_)))))))))))))))))))
  (refine zav ?_; repeat (first | refine za6 ?_ | refine za7 ?_))
  exact zeh (.inr rfl) rfl rfl rfl rfl rfl rfl rfl
end Go.Proofs.YtohmldibkojkfaaGreatDoor.Aw
end
section
namespace Go.Proofs.YtohmldibkojkfaaGreatDoor.Aw
open Go Go.RowKit Go.Proofs Dl
variable {P : Program} [IsP P]
def zf3 : List Tr → Int
 | [] => 0
 | t :: l => (t.inn.length : Int) + t.out.length + zf3 l
noncomputable def simE (n : Net) : FE := if wfB n = false then ⟨0, 0, 1⟩ else zej (n.places + n.trans.length) (n.places + n.trans.length + zf3 n.trans)
theorem zjg : ∀ (l : List Tr), (∀ t ∈ l, t.inn.length ≤ 40 ∧ t.out.length ≤ 40) → 0 ≤ zf3 l ∧ zf3 l ≤ 80 * l.length
 | [], _ => ⟨Int.le_refl _, by simp [zf3]⟩
 | t :: l, h => by
  have h1 := h t (by simp)
  have h2 := zjg l fun u hu => h u (by simp [hu])
  unfold zf3
  rw [List.length_cons]
  omega
theorem zu3 {n : Net} (h : wfB n = true) : (1 ≤ n.places ∧ n.places ≤ 40 ∧ n.trans.length ≤ 60) ∧ ∀ i, i < n.trans.length → (gti n.trans i).inn.length ≤ 40 ∧ (gti n.trans i).out.length ≤ 40 := by
 have hv := (wfB_wf h).valid
 refine ⟨?_, fun i hi => ⟨(zj4 hv hi).2.2.1, (zj4 hv hi).2.2.2⟩⟩
 exact zbh hv
theorem ziw {l : List Tr} {B : Nat} (h : ∀ i, i < l.length → (gti l i).inn.length ≤ B ∧ (gti l i).out.length ≤ B) (k : Nat) : ∀ t ∈ l.drop k, t.inn.length ≤ B ∧ t.out.length ≤ B := fun t ht => by
 obtain ⟨i, hi, rfl⟩ := List.mem_iff_getElem.1 (List.mem_of_mem_drop ht)
 have := h i hi
 rwa [show gti l i = l[i] from zdq (List.getElem?_eq_getElem hi)] at this
theorem zu4 (n : Net) : Pure P 22 [eN n] (eFE (simE n)) := by
 have hR : simE n = if wfB n = false then ⟨0, 0, 1⟩ else zej (n.places + n.trans.length) (n.places + n.trans.length + zf3 n.trans) := rfl
 generalize simE n = R at hR ⊢
 have hw := zkl (P := P) n
 have hsw := @zu3 n
 generalize wfB n = b at hw hR hsw
 have hln : Lo 0 (.ref (eN n).cells) := .ref _ (lo_N n).cells
 refine zcy (by rw [IsP.eq (P := P)]; exact Tryz.func22) rfl rfl rfl rfl rfl (zaj (lo_N n) zbb) (zy5 _) (by simp only [argF]; rfl) ?_
 refine zaf (zab (zad rfl rfl (zaa rfl) (zbg rfl rfl rfl rfl) ?_))
 refine zar (zbl (id := 0) rfl) (zar (zb3 (d := 1) rfl rfl rfl) ?_)
 refine zad rfl rfl (zaa rfl) (zbw rfl ti32 rfl rfl) (zac rfl (zae (zaf (zaf ?_))))
 cases b with
 | false =>
  rw [if_pos rfl] at hR
  refine zab (zbc ta24 ti24 rfl (zad rfl rfl (zaa rfl) (zai rfl rfl (hw) (zag rfl zam)) (zad rfl rfl (zaa rfl) (zay rfl rfl) (zae (zah (zax rfl (zaf (zab (zad rfl rfl (zaa rfl) (zbr rfl ti32 tp32 rfl rfl) (zbz rfl (zaa rfl) (za0 rfl ti32 rfl rfl rfl rfl rfl rfl (by decide) (by decide)) (zac rfl (zae (zah ?_)))))))))))))
  (refine zav ?_; repeat (first | refine za6 ?_ | refine za7 ?_))
  subst hR
  exact zeh (.inr rfl) rfl rfl rfl rfl rfl rfl rfl
 | true =>
 rw [if_neg (by decide)] at hR
 obtain ⟨⟨hp1, hp2, hp3⟩, htr⟩ := hsw rfl
 have hbd := zjg n.trans (by simpa using ziw htr 0)
 obtain ⟨A, hA0⟩ : ∃ A, zf3 n.trans = A := ⟨_, rfl⟩
 rw [hA0] at hR hbd
 refine zab (zbc ta24 ti24 rfl (zad rfl rfl (zaa rfl) (zai rfl rfl (hw) (zag rfl zam)) (zad rfl rfl (zaa rfl) (zay rfl rfl) (zae (zah (zat rfl (zaq (zaf (zab (zbm zmb rfl (zbu ta3 rfl (zbm zd0 rfl (zbu ta22 rfl (zad rfl rfl (zaa rfl) (zak rfl ts22 rfl) (zad rfl rfl (zaa rfl) (za9 rfl rfl rfl (IntWalk.i64_in _ (by omega))) (zac rfl (zac rfl (zae (zaf (zaf (zab (zbm zd0 rfl (zbu ta22 rfl (zad rfl rfl (zaa rfl) (zak rfl ts22 rfl) ?_))))))))))))))))))))))))
 refine zac rfl (zae (zah (zaw ?_)))
 refine zcb (S := Nat × Int) (fun p => [(1, .ref (eN n).cells), (2, .ptr 0 2 0 0), (3, eI 0), (4, eI (n.places + n.trans.length)), (5, eI p.2), (19, eL eT n.trans), (20, eI n.trans.length), (21, eI p.1)]) (fun _ => [.row 2 [zFA]]) (fun p => p.1 ≤ n.trans.length ∧ p.2 + zf3 (n.trans.drop p.1) = A ∧ 0 ≤ p.2) (fun p => n.trans.length - p.1) (0, 0)
  (zed [1] (by decide) ⟨⟨_, rfl, .rowE zod rfl⟩, trivial⟩ ⟨.lo _ hln, .ptr 1 0 2 0 0 rfl, .lo _ (.s _), .lo _ (.s _), .lo _ (.s _), .lo _ (zb9 fun t => lo_T t), .lo _ (.s _), .lo _ (.s _), trivial⟩) ⟨Nat.zero_le _, by show 0 + zf3 n.trans = A; omega, Int.le_refl _⟩ (fun p hp => ?_)
 obtain ⟨k, a⟩ := p
 obtain ⟨hk, hA, ha⟩ := hp
 replace hk : k ≤ n.trans.length := hk
 replace hA : a + zf3 (n.trans.drop k) = A := hA
 replace ha : 0 ≤ a := ha
 by_cases hlt : k < n.trans.length
 rotate_left 1
 ·
  have e : k = n.trans.length := by omega
  subst e
  rw [List.drop_length] at hA
  replace hA : a + 0 = A := hA
  have hmk := zsw (P := P) (n.places + n.trans.length) (n.places + n.trans.length + a) (by omega) (by omega)
  rw [show a = A by omega, ← hR] at hmk
  rw [show a = A by omega]
  refine zaf (zab (zad rfl rfl (zaa rfl) (zbj (by omega) (zaz rfl rfl rfl)) (zae (zaf (zat rfl ?_)))))
  (refine zcg ?_; repeat (first | refine zdn ?_ | refine zb7 ?_ | refine zbs rfl ?_ | refine zb8 ?_ | refine zah ?_ | refine zaf ?_ | refine zaq ?_ | refine zaw ?_))
  refine zab (zac rfl (zac rfl (zac rfl (zad rfl rfl (zaa rfl) (za9 rfl rfl rfl (IntWalk.i64_in _ (by omega))) (zad rfl rfl (zaa rfl) (zai rfl rfl (hmk) (zag rfl (zag rfl zam))) (zac rfl (zac rfl (zbz rfl (zaa rfl) (za0 rfl ti32 rfl rfl rfl rfl rfl rfl (by decide) (by decide)) (zac rfl (zae (zah ?_)))))))))))
  (refine zav ?_; repeat (first | refine za6 ?_ | refine za7 ?_))
  exact zeh (.inr rfl) rfl rfl rfl rfl rfl rfl rfl
 have hbt := htr k hlt
 have hbr := zjg (n.trans.drop (k + 1)) (ziw htr (k + 1))
 rw [zcr hlt, zf3] at hA
 have hix : (n.trans.map eT)[k]? = some (eT (gti n.trans k)) := zch hlt
 generalize gti n.trans k = t at hix hA hbt
 have hlt2 : Lo 0 (.ref (eT t).cells) := .ref _ (lo_T t).cells
 refine zaf (zab (zad rfl rfl (zaa rfl) (zbn (by omega) (zaz rfl rfl rfl)) (zae (zaf (zax rfl (zaq (zaf (zaw (zaf (zab (zad rfl rfl (zaa rfl) (zap rfl ts22 ti65 rfl rfl rfl hix rfl) (zbc ta65 ti65 rfl (zad rfl rfl (zaa rfl) (zbw rfl ti65 rfl rfl) (zbz rfl (zaa rfl) (za0 rfl ti65 rfl rfl rfl rfl rfl rfl (by decide) (by decide)) (zae (zah ?_))))))))))))))))
 refine zbv (zbl (id := 1) rfl) ?_
 refine zbv (zb3 (d := 7) rfl rfl rfl) ?_
 refine zab (zac rfl (zbm zfr rfl (zbu ta48 rfl (zad rfl rfl (zaa rfl) (zak rfl ts48 rfl) (zbm zfj rfl (zbu ta48 rfl (zad rfl rfl (zaa rfl) (zak rfl ts48 rfl) (zad rfl rfl (zaa rfl) (za9 rfl rfl rfl (IntWalk.i64_in _ (by omega))) (zad rfl rfl (zaa rfl) (za9 rfl rfl rfl (IntWalk.i64_in _ (by omega))) (zac rfl (zae (zb8 (zah (zab (zad rfl rfl (zaa rfl) (za9 rfl rfl rfl (IntWalk.i64_in _ (by omega))) (zac rfl (zae (zah ?_))))))))))))))))))
 exact ⟨(k + 1, a + ((t.inn.length : Int) + t.out.length)), ⟨by show k + 1 ≤ n.trans.length; omega, by show a + ((t.inn.length : Int) + t.out.length) + zf3 (n.trans.drop (k + 1)) = A; omega, by show (0 : Int) ≤ _; omega⟩, by show n.trans.length - (k + 1) < n.trans.length - k; omega, zed [0] (by decide) ⟨⟨_, rfl, .rowE zod rfl⟩, trivial⟩ ⟨.lo _ hln, .ptr 0 0 2 0 0 rfl, .lo _ (.s _), .lo _ (.s _), .lo _ (.s _), .lo _ (zb9 fun t => lo_T t), .lo _ (.s _), .lo _ (.s _), trivial⟩⟩
theorem zvl (n : Net) : Pure P 23 [eN n] (eFE (simE n)) := by
 have hR : simE n = if wfB n = false then ⟨0, 0, 1⟩ else zej (n.places + n.trans.length) (n.places + n.trans.length + zf3 n.trans) := rfl
 generalize simE n = R at hR ⊢
 have hw := zfs (P := P) n
 have hsw := @zu3 n
 generalize wfB n = b at hw hR hsw
 have hln : Lo 0 (.ref (eN n).cells) := .ref _ (lo_N n).cells
 refine zcy (by rw [IsP.eq (P := P)]; exact Tryz.func23) rfl rfl rfl rfl rfl (zaj (lo_N n) zbb) (zy5 _) (by simp only [argF]; rfl) ?_
 refine zaf (zab (zad rfl rfl (zaa rfl) (zbg rfl rfl rfl rfl) ?_))
 refine zar (zbl (id := 0) rfl) (zar (zb3 (d := 1) rfl rfl rfl) ?_)
 refine zad rfl rfl (zaa rfl) (zbw rfl ti32 rfl rfl) (zac rfl (zae (zaf (zaf ?_))))
 cases b with
 | false =>
  rw [if_pos rfl] at hR
  refine zab (zbc ta24 ti24 rfl (zad rfl rfl (zaa rfl) (zai rfl rfl (hw) (zag rfl zam)) (zad rfl rfl (zaa rfl) (zay rfl rfl) (zae (zah (zax rfl (zaf (zab (zad rfl rfl (zaa rfl) (zbr rfl ti32 tp32 rfl rfl) (zbz rfl (zaa rfl) (za0 rfl ti32 rfl rfl rfl rfl rfl rfl (by decide) (by decide)) (zac rfl (zae (zah ?_)))))))))))))
  (refine zav ?_; repeat (first | refine za6 ?_ | refine za7 ?_))
  subst hR
  exact zeh (.inr rfl) rfl rfl rfl rfl rfl rfl rfl
 | true =>
 rw [if_neg (by decide)] at hR
 obtain ⟨⟨hp1, hp2, hp3⟩, htr⟩ := hsw rfl
 have hbd := zjg n.trans (by simpa using ziw htr 0)
 obtain ⟨A, hA0⟩ : ∃ A, zf3 n.trans = A := ⟨_, rfl⟩
 rw [hA0] at hR hbd
 refine zab (zbc ta24 ti24 rfl (zad rfl rfl (zaa rfl) (zai rfl rfl (hw) (zag rfl zam)) (zad rfl rfl (zaa rfl) (zay rfl rfl) (zae (zah (zat rfl (zaq (zaf (zab (zbm zmb rfl (zbu ta3 rfl (zbm zd0 rfl (zbu ta22 rfl (zad rfl rfl (zaa rfl) (zak rfl ts22 rfl) (zad rfl rfl (zaa rfl) (za9 rfl rfl rfl (IntWalk.i64_in _ (by omega))) (zac rfl (zae (zaf (zab (zac rfl (zae (zaf (zaf (zab (zac rfl (zae (zah (zaw ?_))))))))))))))))))))))))))))
 refine zcb (S := Nat × Int) (fun p => [(1, .ref (eN n).cells), (2, .ptr 0 2 0 0), (3, eI 0), (4, eI (n.places + n.trans.length)), (5, eI p.2), (6, eI p.1)]) (fun _ => [.row 2 [zFA]]) (fun p => p.1 ≤ n.trans.length ∧ p.2 + zf3 (n.trans.drop p.1) = A ∧ 0 ≤ p.2) (fun p => n.trans.length - p.1) (0, 0)
  (zed [1] (by decide) ⟨⟨_, rfl, .rowE zod rfl⟩, trivial⟩ ⟨.lo _ hln, .ptr 1 0 2 0 0 rfl, .lo _ (.s _), .lo _ (.s _), .lo _ (.s _), .lo _ (.s _), trivial⟩) ⟨Nat.zero_le _, by show 0 + zf3 n.trans = A; omega, Int.le_refl _⟩ (fun p hp => ?_)
 obtain ⟨k, a⟩ := p
 obtain ⟨hk, hA, ha⟩ := hp
 replace hk : k ≤ n.trans.length := hk
 replace hA : a + zf3 (n.trans.drop k) = A := hA
 replace ha : 0 ≤ a := ha
 by_cases hlt : k < n.trans.length
 rotate_left 1
 ·
  have e : k = n.trans.length := by omega
  subst e
  rw [List.drop_length] at hA
  replace hA : a + 0 = A := hA
  have hmk := zr7 (P := P) (n.places + n.trans.length) (n.places + n.trans.length + a) (by omega) (by omega)
  rw [show a = A by omega, ← hR] at hmk
  rw [show a = A by omega]
  refine zaf (zaf (zab (zac rfl (zbm zd0 rfl (zbu ta22 rfl (zad rfl rfl (zaa rfl) (zak rfl ts22 rfl) (zad rfl rfl (zaa rfl) (zbj (by omega) (zaz rfl rfl rfl)) (zae (zah (zat rfl ?_))))))))))
  (refine zcg ?_; repeat (first | refine zdn ?_ | refine zb7 ?_ | refine zbs rfl ?_ | refine zb8 ?_ | refine zah ?_ | refine zaf ?_ | refine zaq ?_ | refine zaw ?_))
  refine zab (zac rfl (zac rfl (zac rfl (zad rfl rfl (zaa rfl) (za9 rfl rfl rfl (IntWalk.i64_in _ (by omega))) (zad rfl rfl (zaa rfl) (zai rfl rfl (hmk) (zag rfl (zag rfl zam))) (zac rfl (zac rfl (zbz rfl (zaa rfl) (za0 rfl ti32 rfl rfl rfl rfl rfl rfl (by decide) (by decide)) (zac rfl (zae (zah ?_)))))))))))
  (refine zav ?_; repeat (first | refine za6 ?_ | refine za7 ?_))
  exact zeh (.inr rfl) rfl rfl rfl rfl rfl rfl rfl
 have hbt := htr k hlt
 have hbr := zjg (n.trans.drop (k + 1)) (ziw htr (k + 1))
 rw [zcr hlt, zf3] at hA
 have hix : (n.trans.map eT)[k]? = some (eT (gti n.trans k)) := zch hlt
 generalize gti n.trans k = t at hix hA hbt
 have hsum : a + (t.inn.length : Int) + (t.out.length : Int) = a + ((t.inn.length : Int) + t.out.length) := by omega
 refine zaf (zaf (zab (zac rfl (zbm zd0 rfl (zbu ta22 rfl (zad rfl rfl (zaa rfl) (zak rfl ts22 rfl) (zad rfl rfl (zaa rfl) (zbn (by omega) (zaz rfl rfl rfl)) (zae (zah (zax rfl (zaq (zaf (zaw ?_)))))))))))))
 refine zb1 hmix ?_
 refine za5 (by kernel_rfl) ?_
 refine qx_s rfl (qx_f zd0 rfl (qx_l ta22 rfl (qx_s rfl (za2 rfl rfl (zaa rfl) (zap rfl ts22 ti65 rfl rfl rfl hix rfl) (qx_f zfr rfl (qx_l ta48 rfl (za2 rfl rfl (zaa rfl) (zak rfl ts48 rfl) (za2 rfl rfl (zaa rfl) (za9 rfl rfl rfl (IntWalk.i64_in _ (by omega))) (qx_f zd0 rfl (qx_l ta22 rfl (qx_s rfl (za2 rfl rfl (zaa rfl) (zap rfl ts22 ti65 rfl rfl rfl hix rfl) (qx_f zfj rfl (qx_l ta48 rfl (za2 rfl rfl (zaa rfl) (zak rfl ts48 rfl) (za2 rfl rfl (zaa rfl) (za9 rfl rfl rfl (IntWalk.i64_in _ (by omega))) ?_))))))))))))))))
 refine qx_s rfl ?_
 refine zck ?_
 refine zb8 (zah (zab (zac rfl (zad rfl rfl (zaa rfl) (za9 rfl rfl rfl (IntWalk.i64_in _ (by omega))) (zac rfl (zae (zah ?_)))))))
 rw [hsum]
 exact ⟨(k + 1, a + ((t.inn.length : Int) + t.out.length)), ⟨by show k + 1 ≤ n.trans.length; omega, by show a + ((t.inn.length : Int) + t.out.length) + zf3 (n.trans.drop (k + 1)) = A; omega, by show (0 : Int) ≤ _; omega⟩, by show n.trans.length - (k + 1) < n.trans.length - k; omega, zbx _ ⟨rfl, rfl, rfl, rfl, rfl, rfl, trivial⟩⟩
end Go.Proofs.YtohmldibkojkfaaGreatDoor.Aw
end
