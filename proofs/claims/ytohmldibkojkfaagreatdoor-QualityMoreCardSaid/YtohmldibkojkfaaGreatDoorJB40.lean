import Derived.Test.YtohmldibkojkfaaGreatDoorJB38
import Derived.Test.YtohmldibkojkfaaGreatDoorJB34
import Derived.Test.YtohmldibkojkfaaGreatDoorJB13
import Derived.Test.YtohmldibkojkfaaGreatDoorJB32
import Derived.Test.YtohmldibkojkfaaGreatDoorJB39
import Derived.Test.YtohmldibkojkfaaGreatDoorJB31
import Derived.Test.YtohmldibkojkfaaGreatDoorJB6
import Derived.Test.YtohmldibkojkfaaGreatDoorJB17
set_option linter.unusedSimpArgs false
set_option linter.unusedVariables false
set_option linter.unusedSectionVars false
section
namespace Go.Proofs.YtohmldibkojkfaaGreatDoor.Aw
open Go Go.RowKit Go.Proofs Go.Maps Go.WideMaps Dl
variable {P : Program} [IsP P]
end Go.Proofs.YtohmldibkojkfaaGreatDoor.Aw
end
section
namespace Go.Proofs.YtohmldibkojkfaaGreatDoor.Aw
open Go Go.RowKit Go.Proofs Go.Maps Go.WideMaps Dl
variable {P : Program} [IsP P]
end Go.Proofs.YtohmldibkojkfaaGreatDoor.Aw
end
section
namespace Go.Proofs.YtohmldibkojkfaaGreatDoor.Aw
open Go Go.RowKit Go.Proofs Go.Maps Go.WideMaps Dl
variable {P : Program} [IsP P]
end Go.Proofs.YtohmldibkojkfaaGreatDoor.Aw
end
section
namespace Go.Proofs.YtohmldibkojkfaaGreatDoor.Dl
open Go.RowKit
section
variable {n : Net} {w : List ByteArray} {c : Cst} {most : Int} {s0 goal : List Int}
end
end Go.Proofs.YtohmldibkojkfaaGreatDoor.Dl
namespace Go.Proofs.YtohmldibkojkfaaGreatDoor.Aw
open Go Go.RowKit Go.Proofs Dl
variable {P : Program} [IsP P]
theorem zg8 (n : Net) (w : List ByteArray) (c : Cst) : ((zc0 n w).2 ≠ 0 ∨ vcB c = false) ↔ ze8 n w c = false := by
 unfold ze8
 by_cases h : (zc0 n w).2 = 0
 ·
  rw [decide_eq_true h, Bool.true_and]
  exact ⟨fun h1 => h1.resolve_left (fun h2 => h2 h), .inr⟩
 ·
  rw [decide_eq_false h, Bool.false_and]
  exact ⟨fun _ => rfl, fun _ => .inl h⟩
theorem zmz {n : Net} {w : List ByteArray} {c : Cst} (h : ¬ ze8 n w c = false) : (zc0 n w).2 = 0 ∧ vcB c = true := by
 have h1 := fun h2 => h ((zg8 n w c).1 h2)
 refine ⟨Classical.byContradiction fun h3 => h1 (.inl h3), ?_⟩
 cases hv : vcB c with
 | true => rfl
 | false => exact absurd (.inr hv) h1
theorem zw9 (n : Net) (w : List ByteArray) (c : Cst) (most : Int) : zb5 n w c most = (zse (runO n w c most), (runO n w c most).2.2) := by
 unfold zb5 runO
 by_cases h : ze8 n w c = false
 ·
  rw [if_pos ((zg8 n w c).2 h), if_pos h]; rfl
 ·
  rw [if_neg (fun h2 => h ((zg8 n w c).1 h2)), if_neg h]
  split
  ·
   rfl
  ·
   rfl
theorem zwj {f : FuncId} {a b d r : AV} (h : Pure P f [a, .sl [], b, d] r) : Pure P f [a, .s (.slice none 0 0), b, d] r :=
 ⟨h.ent, h.lo, fun G vargs hst hsz hrep => h.call G vargs hst hsz (fun j v x hv hx => by
  match j, hx with
  | 0, hx => exact hrep 0 v x hv hx
  | 1, hx => simp at hx; subst hx; exact znw (hrep 1 v _ hv rfl)
  | 2, hx => exact hrep 2 v x hv hx
  | 3, hx => exact hrep 3 v x hv hx
  | j + 4, hx => simp at hx)⟩
def eII (r : Int × Int) : AV := .tup [eI r.1, eI r.2]
theorem lo_P2 {k : Nat} (r : Int × Int) : Lo k (eII r) := .tup _ (zaj (.s _) (zaj (.s _) zar))
theorem zle {F : Frm} {σ : List Ob} {R : Int × Int} {e : Exit} {k m : Int} (he : e = .normal ∨ e = .ret) (h2 : F.get 8 = eI k) (h3 : F.get 9 = eI m) (hR : R = (k, m)) : zmq P [.tmp 8, .tmp 9] (eII R) e F σ := by
 subst hR
 exact ⟨he, [eI k, eI m], .cons _ _ _ _ (.tmp _ _ h2) (.cons _ _ _ _ (.tmp _ _ h3) .nil), .refl _⟩
theorem ztg (n : Net) (w : List ByteArray) (c : Cst) (most : Int) : Pure P 33 [eN n, eL eS w, eC c, eI most] (eII (zb5 n w c most)) := by
 have hrun := run_pf (P := P) n w c most
 have hL := zw9 n w c most
 have hok : (runO n w c most).2.2 = 0 → 0 ≤ (runO n w c most).2.1 ∧ (runO n w c most).2.1.toNat < (runO n w c most).1.co.length := by
  intro h
  unfold runO at h ⊢
  by_cases hr : ze8 n w c = false
  ·
   rw [if_pos hr] at h; cases h
  ·
   rw [if_neg hr] at h ⊢
   by_cases hm : most < 1 ∨ 2000 < most
   ·
    rw [if_pos hm] at h; cases h
   ·
    rw [if_neg hm] at h ⊢
    obtain ⟨hs, hc⟩ := zmz hr
    have hf := zvy hc hs (by omega) h
    exact ⟨hf.e0, by rw [hf.l1]; exact hf.el⟩
 generalize runO n w c most = r at hrun hL hok
 generalize zb5 n w c most = R at hL ⊢
 obtain ⟨S, k, m⟩ := r
 have hln : Lo 0 (.ref (eN n).cells) := .ref _ (lo_N n).cells
 have hlc : Lo 0 (.ref (eC c).cells) := .ref _ (lo_C c).cells
 refine zcu (by rw [IsP.eq (P := P)]; exact Tryz.func33) rfl rfl rfl rfl rfl (zaj (lo_N n) (zaj (lo_W w) (zaj (lo_C c) (zaj (.s _) zar)))) (lo_P2 _) (by simp only [argF]; rfl) ?_
 refine zaf (zab (zad rfl rfl (zaa rfl) (zbv rfl rfl rfl rfl) ?_))
 refine zau (zbk (id := 0) rfl) (zau (zch (d := 4) rfl rfl rfl) ?_)
 refine zad rfl rfl (zaa rfl) (zbv rfl rfl rfl rfl) ?_
 refine zau (zbk (id := 1) rfl) (zau (zch (d := 6) rfl rfl rfl) ?_)
 refine zac rfl (zac rfl (zae (zaf ?_)))
 by_cases hm : m = 0
 ·
  subst hm
  replace hrun : Pure P 64 [eN n, eL eS w, eC c, eI most] (.tup [seR n w c S, eI k, eI 0]) := hrun
  refine zab (zbr ta24 ti24 rfl (zac rfl (zbr ta27 ti27 rfl (zac rfl (zad rfl rfl (zaa rfl) (zai rfl rfl (hrun) (zag rfl (zag rfl (zag rfl (zag rfl zam))))) (zac rfl (zac rfl (zac rfl (zac rfl (zac rfl (zac rfl (zac rfl (zae (zaf (zaf ?_)))))))))))))))
  obtain ⟨h1, h2⟩ := hok rfl
  obtain ⟨i, rfl⟩ : ∃ i : Nat, k = i := ⟨k.toNat, (Int.toNat_of_nonneg h1).symm⟩
  replace h2 : i < S.co.length := h2
  have hix : (S.co.map eI)[i]? = some (eI (gti S.co i)) := zbz h2
  refine zab (zac rfl ?_)
  refine zad rfl rfl (zaa rfl) (zbi (fun h => h rfl) (zbg rfl rfl rfl)) ?_
  refine zae (zah (zax rfl (zao (zaf ?_))))
  refine zbd (zbx [(10, seR n w c S), (11, eI i)] ⟨rfl, rfl, trivial⟩) ?_
  refine zab (zac rfl (zac rfl (zbh zg5 rfl (zbl ta48 rfl (zac rfl (zad rfl rfl (zaa rfl) (zan rfl ts48 ti3 rfl rfl rfl hix rfl) (zbl ta3 rfl (zac rfl (zac rfl (zae (zah ?_)))))))))))
  (refine zav ?_; repeat (first | refine za6 ?_ | refine za7 ?_))
  exact zle (.inr rfl) rfl rfl hL
 ·
  replace hrun : Pure P 64 [eN n, eL eS w, eC c, eI most] (.tup [.s (.pointer none), eI k, eI m]) := by unfold eRun at hrun; rwa [if_neg hm] at hrun
  refine zab (zbr ta24 ti24 rfl (zac rfl (zbr ta27 ti27 rfl (zac rfl (zad rfl rfl (zaa rfl) (zai rfl rfl (hrun) (zag rfl (zag rfl (zag rfl (zag rfl zam))))) (zac rfl (zac rfl (zac rfl (zac rfl (zac rfl (zac rfl (zac rfl (zae (zaf (zaf (zab (zac rfl (zad rfl rfl (zaa rfl) (zbp hm (zbg rfl rfl rfl)) (zae (zah (za0 rfl (zaf (zab (zac rfl (zac rfl (zac rfl (zae (zah ?_))))))))))))))))))))))))))))
  (refine zav ?_; repeat (first | refine za6 ?_ | refine za7 ?_))
  refine zle (.inr rfl) rfl rfl ?_
  rw [hL]
  unfold zse
  rw [if_neg hm]
theorem zyl {n : Net} {w : List ByteArray} {c : Cst} {most : Int} (hr : ze8 n w c = true) : IntKind.i64.wrap (c.log * (w.length : Int)) = c.log * (w.length : Int) ∧ IntKind.i64.wrap ((zb5 n [] c most).1 + c.log * (w.length : Int)) = (zb5 n [] c most).1 + c.log * (w.length : Int) := by
 obtain ⟨hs, hc⟩ := zmz (by rw [hr]; decide)
 have hw : w.length ≤ 200 := by
  have := (ziq hs).2.1
  unfold ze9 at this
  simp only [Bool.and_eq_true, decide_eq_true_eq] at this
  exact this.1
 have hb : 0 ≤ c.log ∧ c.log ≤ 1000 := by
  unfold vcB inB at hc
  simp only [Bool.and_eq_true, decide_eq_true_eq] at hc
  exact hc.1
 have hl := zga n [] c most
 have h3 : 0 ≤ c.log * (w.length : Int) := Int.mul_nonneg hb.1 (by omega)
 have h4 : c.log * (w.length : Int) ≤ 1000 * 200 := Int.mul_le_mul hb.2 (by omega) (by omega) (by omega)
 exact ⟨IntWalk.i64_in _ (by omega), IntWalk.i64_in _ (by omega)⟩
theorem zyk (n : Net) (w : List ByteArray) (c : Cst) (most : Int) : Pure P 34 [eN n, eL eS w, eC c, eI most] (eII (zcs n w c most)) := by
 have hrt := zs6 (P := P) n w c
 have hle := zwj (ztg (P := P) n [] c most)
 have har := fun h => zyl (n := n) (w := w) (c := c) (most := most) h
 have hW : zcs n w c most = if ze8 n w c = false then (0, 1) else if (zb5 n [] c most).2 ≠ 0 then (0, (zb5 n [] c most).2) else ((zb5 n [] c most).1 + c.log * w.length, 0) := by
  unfold zcs
  by_cases h : ze8 n w c = false
  ·
   rw [if_pos ((zg8 n w c).2 h), if_pos h]
  ·
   rw [if_neg (fun h2 => h ((zg8 n w c).1 h2)), if_neg h]
 generalize ze8 n w c = rb at hrt har hW
 generalize zb5 n [] c most = r at hle har hW
 generalize zcs n w c most = R at hW ⊢
 obtain ⟨k, m⟩ := r
 have hln : Lo 0 (.ref (eN n).cells) := .ref _ (lo_N n).cells
 have hlc : Lo 0 (.ref (eC c).cells) := .ref _ (lo_C c).cells
 refine zcu (by rw [IsP.eq (P := P)]; exact Tryz.func34) rfl rfl rfl rfl rfl (zaj (lo_N n) (zaj (lo_W w) (zaj (lo_C c) (zaj (.s _) zar)))) (lo_P2 _) (by simp only [argF]; rfl) ?_
 refine zaf (zab (zad rfl rfl (zaa rfl) (zbv rfl rfl rfl rfl) ?_))
 refine zau (zbk (id := 0) rfl) (zau (zch (d := 4) rfl rfl rfl) ?_)
 refine zad rfl rfl (zaa rfl) (zbv rfl rfl rfl rfl) ?_
 refine zau (zbk (id := 1) rfl) (zau (zch (d := 6) rfl rfl rfl) ?_)
 refine zac rfl (zac rfl (zae (zaf (zaf ?_))))
 cases rb with
 | false =>
  refine zab (zbr ta24 ti24 rfl (zac rfl (zbr ta27 ti27 rfl (zad rfl rfl (zaa rfl) (zai rfl rfl (hrt) (zag rfl (zag rfl (zag rfl zam)))) (zad rfl rfl (zaa rfl) (zay rfl rfl) (zae (zah (za0 rfl (zaf (zab (zac rfl (zac rfl (zae (zah ?_))))))))))))))
  (refine zav ?_; repeat (first | refine za6 ?_ | refine za7 ?_))
  exact zle (.inr rfl) rfl rfl (hW.trans (if_pos rfl))
 | true =>
 rw [if_neg (by decide)] at hW
 obtain ⟨ha1, ha2⟩ := har rfl
 refine zab (zbr ta24 ti24 rfl (zac rfl (zbr ta27 ti27 rfl (zad rfl rfl (zaa rfl) (zai rfl rfl (hrt) (zag rfl (zag rfl (zag rfl zam)))) (zad rfl rfl (zaa rfl) (zay rfl rfl) (zae (zah (zax rfl (zao (zaf (zab (zbr ta24 ti24 rfl (zbr ta27 ti27 rfl (zac rfl (zad rfl rfl (zaa rfl) (zai rfl rfl (hle) (zag rfl (zag rfl (zag rfl (zag rfl zam))))) (zac rfl (zac rfl (zac rfl (zac rfl (zac rfl (zae (zaf (zaf ?_)))))))))))))))))))))))
 by_cases hm : m = 0
 ·
  subst hm
  refine zab (zac rfl ?_)
  refine zad rfl rfl (zaa rfl) (zbi (fun h => h rfl) (zbg rfl rfl rfl)) ?_
  refine zae (zah (zax rfl (zao (zaf (zab (zac rfl (zbh tf27_0 rfl (zbl ta3 rfl (zac rfl (zad rfl rfl (zaa rfl) (zak rfl ts44 rfl) (zad rfl rfl (zaa rfl) (zkq rfl rfl rfl ha1) (zad rfl rfl (zaa rfl) (za4 rfl rfl rfl ha2) (zac rfl (zac rfl (zae (zah ?_))))))))))))))))
  (refine zav ?_; repeat (first | refine za6 ?_ | refine za7 ?_))
  exact zle (.inr rfl) rfl rfl (hW.trans (if_neg (fun h => h rfl)))
 ·
  refine zab (zac rfl (zad rfl rfl (zaa rfl) (zbp hm (zbg rfl rfl rfl)) (zae (zah (za0 rfl (zaf (zab (zac rfl (zac rfl (zac rfl (zae (zah ?_))))))))))))
  (refine zav ?_; repeat (first | refine za6 ?_ | refine za7 ?_))
  exact zle (.inr rfl) rfl rfl (hW.trans (if_pos hm))
end Go.Proofs.YtohmldibkojkfaaGreatDoor.Aw
end
section
namespace Go.Proofs.YtohmldibkojkfaaGreatDoor.Aw
open Go Go.RowKit Go.Proofs Dl
variable {P : Program} [IsP P]
theorem z1g {G : Cx} {vargs : Array Value} {s : ByteArray} (hsz : vargs.size = [eS s].length) (hrep : ∀ (j : Nat) v y, vargs[j]? = some v → [eS s][j]? = some y → Rep G v y) : vargs = #[.string s] := by
 obtain ⟨q⟩ := vargs
 match q, hsz with
 | [a], _ =>
  have := zdd (hrep 0 a _ rfl rfl)
  subst this
  rfl
theorem zp5 (s : ByteArray) : Pure P 78 [eS s] (eB (zem s)) :=
 zf5 (zdb Tryz.func78 rfl rfl) fun G vargs hst hsz hrep => by
  rw [z1g hsz hrep]; exact zhu s G.w
theorem zum (s : ByteArray) : Pure P 71 [eS s] (eB (zem s)) :=
 zf5 (zdb Tryz.func71 rfl rfl) fun G vargs hst hsz hrep => by
  rw [z1g hsz hrep]; exact zlt s G.w
theorem zwu (s : ByteArray) : Pure P 145 [eS s] (eB (!zem s)) := by
 have h := zp5 (P := P) s
 refine zcu (by rw [IsP.eq (P := P)]; exact Tryz.func145) rfl rfl rfl rfl rfl (zaj (.s _) zar) (.s _) (by simp only [argF]; rfl) ?_
 refine zaf (zab (zac rfl (zae (zaf (zab (zac rfl (zad rfl rfl (zaa rfl) (zai rfl rfl (h) (zag rfl zam)) (zad rfl rfl (zaa rfl) (zay rfl rfl) (zac rfl (zae (zah ?_)))))))))))
 (refine zav ?_; repeat (first | refine za6 ?_ | refine za7 ?_))
 exact zbj (.inr rfl) rfl rfl
theorem zu3 (l : List ByteArray) : Pure P 116 [eL eS l] (eB (allN l)) := by
 have hc := zgx (P := P) 145 [] (fun a => !zem a) l (fun _ => .s _) (.fn _ _ (by simp)) (fun a _ => zwu a)
 have e : (!(l.any fun a => !zem a)) = allN l := by rw [zov]; simp [List.all_eq_not_any_not]
 refine zcu (by rw [IsP.eq (P := P)]; exact Tryz.func116) rfl rfl rfl rfl rfl (zaj (za1 fun _ => .s _) zar) (.s _) (by simp only [argF]; rfl) ?_
 refine zaf (zab (zac rfl (zae (zaf (zab (zac rfl (zad rfl rfl (zaa rfl) (zai rfl rfl (hc) (zag rfl (zag rfl zam))) (zad rfl rfl (zaa rfl) (zay rfl rfl) (zac rfl (zae (zah ?_)))))))))))
 (refine zav ?_; repeat (first | refine za6 ?_ | refine za7 ?_))
 exact zbj (.inr rfl) rfl (congrArg eB e)
theorem zlc (l : List ByteArray) : Pure P 41 [eL eS l] (eB (allN l)) := by
 obtain ⟨R, hR⟩ : ∃ R, allN l = R := ⟨_, rfl⟩
 rw [hR]
 refine zcu (by rw [IsP.eq (P := P)]; exact Tryz.func41) rfl rfl rfl rfl rfl (zaj (lo_W l) zar) (.s _) (by simp only [argF]; rfl) ?_
 refine zhn (d := 0) rfl (fun hmx => ?_)
 unfold maxLen at hmx
 refine zaf (zab (zac rfl (zae (zaf (zaf (zab (zac rfl (zae (zah (zaq ?_))))))))))
 refine zcd (S := Nat) (fun k => [(0, eL eS l), (3, eI k)]) (fun _ => []) (fun k => k ≤ l.length ∧ allN (l.drop k) = R) (fun k => l.length - k) 0 (zbx _ ⟨rfl, rfl, trivial⟩) ⟨Nat.zero_le _, hR⟩ (fun k hk => ?_)
 obtain ⟨hk, he⟩ := hk
 by_cases hlt : k < l.length
 ·
  have hix : (l.map eS)[k]? = some (eS (gti l k)) := zbz hlt
  have hn := zum (P := P) (gti l k)
  rw [zco hlt, allN] at he
  generalize zem (gti l k) = b at hn he
  refine zaf (zaf (zab (zac rfl (zac rfl (zad rfl rfl (zaa rfl) (zak rfl ts44 rfl) (zad rfl rfl (zaa rfl) (zbp (by omega) (zaz rfl rfl rfl)) (zae (zah (za0 rfl (zao (zaf (zaq (zaf ?_)))))))))))))
  cases b with
  | true =>
   refine zab (zac rfl (zac rfl (zad rfl rfl (zaa rfl) (zan rfl ts44 ti9 rfl rfl rfl hix rfl) (zbl ta9 rfl (zad rfl rfl (zaa rfl) (zai rfl rfl (hn) (zag rfl zam)) (zad rfl rfl (zaa rfl) (zay rfl rfl) (zae (zah (zax rfl (zao (zb3 (zah (zab (zac rfl (zad rfl rfl (zaa rfl) (za4 rfl rfl rfl (IntWalk.i64_in _ (by omega))) (zac rfl (zae (zah ?_))))))))))))))))))
   exact ⟨k + 1, ⟨by show k + 1 ≤ l.length; omega, he⟩, by show l.length - (k + 1) < l.length - k; omega, zbx _ ⟨rfl, rfl, trivial⟩⟩
  | false =>
   refine zab (zac rfl (zac rfl (zad rfl rfl (zaa rfl) (zan rfl ts44 ti9 rfl rfl rfl hix rfl) (zbl ta9 rfl (zad rfl rfl (zaa rfl) (zai rfl rfl (hn) (zag rfl zam)) (zad rfl rfl (zaa rfl) (zay rfl rfl) (zae (zah (za0 rfl (zaf (zab (zac rfl (zae (zah ?_))))))))))))))
   (refine zav ?_; repeat (first | refine za6 ?_ | refine za7 ?_))
   exact zbj (.inr rfl) rfl (congrArg eB he)
 ·
  have e : k = l.length := by omega
  subst e
  rw [List.drop_length] at he
  refine zaf (zaf (zab (zac rfl (zac rfl (zad rfl rfl (zaa rfl) (zak rfl ts44 rfl) (zad rfl rfl (zaa rfl) (zbi (by omega) (zaz rfl rfl rfl)) (zae (zah (zax rfl ?_)))))))))
  (refine zb1 ?_; repeat (first | refine zcx ?_ | refine zbs ?_ | refine zbe rfl ?_ | refine zb3 ?_ | refine zah ?_ | refine zaf ?_ | refine zao ?_ | refine zaq ?_))
  refine zab (zac rfl (zae (zah ?_)))
  (refine zav ?_; repeat (first | refine za6 ?_ | refine za7 ?_))
  exact zbj (.inr rfl) rfl (congrArg eB he)
theorem zto (s : ByteArray) : Pure P 161 [eS s] (eB false) := by
 refine zcu (by rw [IsP.eq (P := P)]; exact Tryz.func161) rfl rfl rfl rfl rfl (zaj (.s _) zar) (.s _) (by simp only [argF]; rfl) ?_
 refine zaf (zab (zac rfl (zae (zaf (zab (zac rfl (zac rfl (zad rfl rfl (zaa rfl) (zgw rfl rfl rfl) (zac rfl (zae (zah ?_)))))))))))
 (refine zav ?_; repeat (first | refine za6 ?_ | refine za7 ?_))
 exact zbj (.inr rfl) rfl (congrArg eB (by simp))
theorem z01 (a b : ByteArray) : gtS a b = !(Go.Op.bytesLess a.toList b.toList || decide (a = b)) := by
 unfold gtS ltS
 have : (a.toList == b.toList) = decide (a = b) := by rw [Bool.eq_iff_iff]; simp [toList_inj]
 rw [this]
theorem z27 (a b : ByteArray) : Pure P 157 [eS a, eS b] (eI (cmpS a b)) := by
 have h1 := zto (P := P) a
 have h2 := zto (P := P) b
 have hR : cmpS a b = if ltS a b = true then -1 else if gtS a b = true then 1 else 0 := rfl
 rw [z01] at hR
 unfold ltS at hR
 refine zcu (by rw [IsP.eq (P := P)]; exact Tryz.func157) rfl rfl rfl rfl rfl (zaj (.s _) (zaj (.s _) zar)) (.s _) (by simp only [argF]; rfl) ?_
 refine zaf (zab (zac rfl (zae (zaf (zab (zac rfl (zad rfl rfl (zaa rfl) (zai rfl rfl (h1) (zag rfl zam)) (zac rfl (zae (zaf (zab (zac rfl (zad rfl rfl (zaa rfl) (zai rfl rfl (h2) (zag rfl zam)) (zac rfl (zae (zaf (zaf (zab (zac rfl (zae (zah (zax rfl (zao (zaf (zaf (zab (zac rfl (zae (zah (zax rfl (zao (zaf (zaf (zab (zac rfl (zac rfl (zad rfl rfl (zaa rfl) (zt1 rfl rfl rfl) (zae ?_))))))))))))))))))))))))))))))))))))))
 refine zah ?_
 refine zep rfl (fun h => ?_) (fun h => ?_)
 ·
  refine zaf (zab (zac rfl (zae (zah ?_))))
  (refine zav ?_; repeat (first | refine za6 ?_ | refine za7 ?_))
  exact zbj (.inr rfl) rfl (congrArg eI (hR.trans (if_pos h)).symm)
 ·
  rw [if_neg (by rw [h]; decide)] at hR
  refine zao (zaf (zaf (zab (zac rfl (zac rfl (zad rfl rfl (zaa rfl) (zt3 rfl rfl rfl) (zae (zah ?_))))))))
  refine zep rfl (fun h => ?_) (fun h => ?_)
  ·
   refine zaf (zab (zac rfl (zae (zah ?_))))
   (refine zav ?_; repeat (first | refine za6 ?_ | refine za7 ?_))
   exact zbj (.inr rfl) rfl (congrArg eI (hR.trans (if_pos h)).symm)
  ·
   refine zao (zaf (zab (zac rfl (zae (zah ?_)))))
   (refine zav ?_; repeat (first | refine za6 ?_ | refine za7 ?_))
   exact zbj (.inr rfl) rfl (congrArg eI (hR.trans (if_neg (by rw [h]; decide))).symm)
theorem z29 (x y : List ByteArray) : Pure P 146 [eL eS x, eL eS y] (eI (cmpW x y)) := by
 obtain ⟨R, hR⟩ : ∃ R, cmpW x y = R := ⟨_, rfl⟩
 rw [hR]
 refine zcu (by rw [IsP.eq (P := P)]; exact Tryz.func146) rfl rfl rfl rfl rfl (zaj (lo_W x) (zaj (lo_W y) zar)) (.s _) (by simp only [argF]; rfl) ?_
 refine zhn (d := 0) rfl (fun hmx => ?_)
 unfold maxLen at hmx
 refine zaf (zab (zac rfl (zae (zaf (zaf (zab (zac rfl (zad rfl rfl (zaa rfl) (zak rfl ts44 rfl) (zac rfl (zae (zah (zaq ?_))))))))))))
 refine zcd (S := Nat) (fun k => [(0, eL eS x), (1, eL eS y), (9, eL eS x), (10, eI x.length), (11, eI k)]) (fun _ => []) (fun k => k ≤ x.length ∧ cmpW (x.drop k) (y.drop k) = R) (fun k => x.length - k) 0 (zbx _ ⟨rfl, rfl, rfl, rfl, rfl, trivial⟩) ⟨Nat.zero_le _, hR⟩ (fun k hk => ?_)
 obtain ⟨hk, he⟩ := hk
 by_cases hlt : k < x.length
 ·
  have hix : (x.map eS)[k]? = some (eS (gti x k)) := zbz hlt
  refine zaf (zab (zad rfl rfl (zaa rfl) (zbp (by omega) (zaz rfl rfl rfl)) (zae (zaf (za0 rfl (zao (zaf (zaq (zaf (zab (zac rfl (zad rfl rfl (zaa rfl) (zan rfl ts44 ti9 rfl rfl rfl hix rfl) (zbl ta9 rfl (zac rfl (zac rfl (zae (zaf (zaf ?_))))))))))))))))))
  by_cases hy : k < y.length
  ·
   have hiy : (y.map eS)[k]? = some (eS (gti y k)) := zbz hy
   have hc := z27 (P := P) (gti x k) (gti y k)
   rw [zx7 hlt hy] at he
   generalize cmpS (gti x k) (gti y k) = b at hc he
   refine zab (zac rfl (zac rfl (zad rfl rfl (zaa rfl) (zak rfl ts44 rfl) (zad rfl rfl (zaa rfl) (zbi (by omega) (zcr rfl rfl rfl)) (zae (zah (zax rfl (zao (zaf (zab (zac rfl (zac rfl (zad rfl rfl (zaa rfl) (zan rfl ts44 ti9 rfl rfl rfl hiy rfl) (zbl ta9 rfl (zac rfl (zae (zaf (zab (zac rfl (zac rfl (zad rfl rfl (zaa rfl) (zai rfl rfl (hc) (zag rfl (zag rfl zam))) (zac rfl (zae (zaf ?_))))))))))))))))))))))))
   by_cases hb : b ≠ 0
   ·
    rw [if_pos hb] at he
    refine zab (zac rfl (zad rfl rfl (zaa rfl) (zbp hb (zbg rfl rfl rfl)) (zae (zah (za0 rfl (zaf (zab (zac rfl (zac rfl (zae (zah ?_)))))))))))
    (refine zav ?_; repeat (first | refine za6 ?_ | refine za7 ?_))
    exact zbj (.inr rfl) rfl (congrArg eI he)
   ·
    rw [if_neg hb] at he
    refine zab (zac rfl (zad rfl rfl (zaa rfl) (zbi hb (zbg rfl rfl rfl)) (zae (zah (zax rfl (zao (zb3 (zah (zab (zad rfl rfl (zaa rfl) (za4 rfl rfl rfl (IntWalk.i64_in _ (by omega))) (zac rfl (zae (zah ?_)))))))))))))
    exact ⟨k + 1, ⟨by show k + 1 ≤ x.length; omega, he⟩, by show x.length - (k + 1) < x.length - k; omega, zbx _ ⟨rfl, rfl, rfl, rfl, rfl, trivial⟩⟩
  ·
   rw [z1b hlt (by omega)] at he
   refine zab (zac rfl (zac rfl (zad rfl rfl (zaa rfl) (zak rfl ts44 rfl) (zad rfl rfl (zaa rfl) (zbp (by omega) (zcr rfl rfl rfl)) (zae (zah (za0 rfl (zaf (zab (zac rfl (zae (zah ?_))))))))))))
   (refine zav ?_; repeat (first | refine za6 ?_ | refine za7 ?_))
   exact zbj (.inr rfl) rfl (congrArg eI he)
 ·
  have e : k = x.length := by omega
  subst e
  refine zaf (zab (zad rfl rfl (zaa rfl) (zbi (by omega) (zaz rfl rfl rfl)) (zae (zaf (zax rfl ?_)))))
  (refine zb1 ?_; repeat (first | refine zcx ?_ | refine zbs ?_ | refine zbe rfl ?_ | refine zb3 ?_ | refine zah ?_ | refine zaf ?_ | refine zao ?_ | refine zaq ?_))
  by_cases hy : x.length < y.length
  ·
   rw [z1a (Nat.le_refl _) hy] at he
   refine zab (zac rfl (zad rfl rfl (zaa rfl) (zak rfl ts44 rfl) (zac rfl (zad rfl rfl (zaa rfl) (zak rfl ts44 rfl) (zad rfl rfl (zaa rfl) (zbp (by omega) (zaz rfl rfl rfl)) (zae (zah (za0 rfl (zaf (zab (zac rfl (zae (zah ?_)))))))))))))
   (refine zav ?_; repeat (first | refine za6 ?_ | refine za7 ?_))
   exact zbj (.inr rfl) rfl (congrArg eI he)
  ·
   rw [z1c (Nat.le_refl _) (by omega)] at he
   refine zab (zac rfl (zad rfl rfl (zaa rfl) (zak rfl ts44 rfl) (zac rfl (zad rfl rfl (zaa rfl) (zak rfl ts44 rfl) (zad rfl rfl (zaa rfl) (zbi (by omega) (zaz rfl rfl rfl)) (zae (zah (zax rfl (zao (zaf (zab (zac rfl (zae (zah ?_))))))))))))))
   (refine zav ?_; repeat (first | refine za6 ?_ | refine za7 ?_))
   exact zbj (.inr rfl) rfl (congrArg eI he)
theorem z2c (x y : List ByteArray) : Pure P 117 [eL eS x, eL eS y] (eI (cmpW x y)) := by
 have h := z29 (P := P) x y
 refine zcu (by rw [IsP.eq (P := P)]; exact Tryz.func117) rfl rfl rfl rfl rfl (zaj (lo_W x) (zaj (lo_W y) zar)) (.s _) (by simp only [argF]; rfl) ?_
 refine zaf (zab (zac rfl (zae (zaf (zab (zac rfl (zac rfl (zad rfl rfl (zaa rfl) (zai rfl rfl (h) (zag rfl (zag rfl zam))) (zac rfl (zae (zah ?_)))))))))))
 (refine zav ?_; repeat (first | refine za6 ?_ | refine za7 ?_))
 exact zbj (.inr rfl) rfl rfl
theorem zta (x y : List ByteArray) : Pure P 42 [eL eS x, eL eS y] (eI (cmpW x y)) := by
 obtain ⟨R, hR⟩ : ∃ R, cmpW x y = R := ⟨_, rfl⟩
 rw [hR]
 refine zcu (by rw [IsP.eq (P := P)]; exact Tryz.func42) rfl rfl rfl rfl rfl (zaj (lo_W x) (zaj (lo_W y) zar)) (.s _) (by simp only [argF]; rfl) ?_
 refine zhn (d := 0) rfl (fun hmx => ?_)
 unfold maxLen at hmx
 refine zaf (zab (zac rfl (zae (zaf (zaf (zab (zac rfl (zae (zah (zaq ?_))))))))))
 refine zcd (S := Nat) (fun k => [(0, eL eS x), (1, eL eS y), (5, eI k)]) (fun _ => []) (fun k => k ≤ x.length ∧ k ≤ y.length ∧ cmpW (x.drop k) (y.drop k) = R) (fun k => x.length - k) 0 (zbx _ ⟨rfl, rfl, rfl, trivial⟩) ⟨Nat.zero_le _, Nat.zero_le _, hR⟩ (fun k hk => ?_)
 obtain ⟨hk, hk2, he⟩ := hk
 by_cases hb : k < x.length ∧ k < y.length
 ·
  obtain ⟨hlt, hy⟩ := hb
  have hix : (x.map eS)[k]? = some (eS (gti x k)) := zbz hlt
  have hiy : (y.map eS)[k]? = some (eS (gti y k)) := zbz hy
  have hc : cmpS (gti x k) (gti y k) = if ltS (gti x k) (gti y k) = true then -1 else if gtS (gti x k) (gti y k) = true then 1 else 0 := rfl
  rw [z01] at hc
  unfold ltS at hc
  rw [zx7 hlt hy] at he
  refine zaf (zaf (zab (zac rfl (zac rfl (zad rfl rfl (zaa rfl) (zak rfl ts44 rfl) (zad rfl rfl (zaa rfl) (zbp (by omega) (zaz rfl rfl rfl)) (zac rfl (zac rfl (zac rfl (zad rfl rfl (zal rfl rfl rfl) (zak rfl ts44 rfl) (zad rfl rfl (zal rfl rfl rfl) (zbp (by omega) (zaz rfl rfl rfl)) (zac rfl (zae (zah (za0 rfl (zao (zaf (zaq (zaf (zaf ?_))))))))))))))))))))
  refine zb6 hmix ?_
  refine zba (by kernel_rfl) ?_
  refine qx_s rfl (qx_s rfl (za9 rfl rfl (zaa rfl) (zan rfl ts44 ti9 rfl rfl rfl hix rfl) (qx_l ta9 rfl (qx_s rfl (qx_s rfl (za9 rfl rfl (zaa rfl) (zan rfl ts44 ti9 rfl rfl rfl hiy rfl) (qx_l ta9 rfl (za9 rfl rfl (zaa rfl) (zt1 rfl rfl rfl) ?_))))))))
  refine zcp ?_
  refine zah ?_
  refine zep rfl (fun h => ?_) (fun h => ?_)
  ·
   rw [if_pos h] at hc
   rw [hc, if_pos (by decide)] at he
   refine zaf (zab (zac rfl (zae (zah ?_))))
   (refine zav ?_; repeat (first | refine za6 ?_ | refine za7 ?_))
   exact zbj (.inr rfl) rfl (congrArg eI he)
  ·
   rw [if_neg (by rw [h]; decide)] at hc
   refine zao (zaf ?_)
   refine zb6 hmix ?_
   refine zba (by kernel_rfl) ?_
   refine qx_s rfl (qx_s rfl (za9 rfl rfl (zaa rfl) (zan rfl ts44 ti9 rfl rfl rfl hix rfl) (qx_l ta9 rfl (qx_s rfl (qx_s rfl (za9 rfl rfl (zaa rfl) (zan rfl ts44 ti9 rfl rfl rfl hiy rfl) (qx_l ta9 rfl (za9 rfl rfl (zaa rfl) (zt3 rfl rfl rfl) ?_))))))))
   refine zcp ?_
   refine zah ?_
   refine zep rfl (fun h => ?_) (fun h => ?_)
   ·
    rw [if_pos h] at hc
    rw [hc, if_pos (by decide)] at he
    refine zaf (zab (zac rfl (zae (zah ?_))))
    (refine zav ?_; repeat (first | refine za6 ?_ | refine za7 ?_))
    exact zbj (.inr rfl) rfl (congrArg eI he)
   ·
    rw [if_neg (by rw [h]; decide)] at hc
    rw [hc, if_neg (by decide)] at he
    refine zao (zb3 (zah (zab (zac rfl (zad rfl rfl (zaa rfl) (za4 rfl rfl rfl (IntWalk.i64_in _ (by omega))) (zac rfl (zae (zah ?_))))))))
    exact ⟨k + 1, ⟨by show k + 1 ≤ x.length; omega, by show k + 1 ≤ y.length; omega, he⟩, by show x.length - (k + 1) < x.length - k; omega, zbx _ ⟨rfl, rfl, rfl, trivial⟩⟩
 ·
  by_cases hx : k < x.length
  ·
   have hke : k = y.length := by omega
   subst hke
   rw [z1b hx (Nat.le_refl _)] at he
   refine zaf (zaf (zab (zac rfl (zac rfl (zad rfl rfl (zaa rfl) (zak rfl ts44 rfl) (zad rfl rfl (zaa rfl) (zbp (by omega) (zaz rfl rfl rfl)) (zac rfl (zac rfl (zac rfl (zad rfl rfl (zal rfl rfl rfl) (zak rfl ts44 rfl) (zad rfl rfl (zal rfl rfl rfl) (zbi (by omega) (zaz rfl rfl rfl)) (zac rfl (zae (zah (zax rfl ?_)))))))))))))))
   (refine zb1 ?_; repeat (first | refine zcx ?_ | refine zbs ?_ | refine zbe rfl ?_ | refine zb3 ?_ | refine zah ?_ | refine zaf ?_ | refine zao ?_ | refine zaq ?_))
   refine zab (zac rfl (zad rfl rfl (zaa rfl) (zak rfl ts44 rfl) (zac rfl (zad rfl rfl (zaa rfl) (zak rfl ts44 rfl) (zad rfl rfl (zaa rfl) (zbi (by omega) (zaz rfl rfl rfl)) (zae (zah (zax rfl (zao (zaf (zaf (zab (zac rfl (zad rfl rfl (zaa rfl) (zak rfl ts44 rfl) (zac rfl (zad rfl rfl (zaa rfl) (zak rfl ts44 rfl) (zad rfl rfl (zaa rfl) (zbp (by omega) (za5 rfl rfl rfl)) (zae (zah (za0 rfl (zaf (zab (zac rfl (zae ?_))))))))))))))))))))))))
   refine zah ?_
   (refine zav ?_; repeat (first | refine za6 ?_ | refine za7 ?_))
   exact zbj (.inr rfl) rfl (congrArg eI he)
  ·
   have hke : k = x.length := by omega
   subst hke
   refine zaf (zaf (zab (zac rfl (zac rfl (zad rfl rfl (zaa rfl) (zak rfl ts44 rfl) (zad rfl rfl (zaa rfl) (zbi (by omega) (zaz rfl rfl rfl)) (zac rfl (zat rfl (zat rfl (zat rfl (zat rfl (zac rfl (zae (zah (zax rfl ?_)))))))))))))))
   (refine zb1 ?_; repeat (first | refine zcx ?_ | refine zbs ?_ | refine zbe rfl ?_ | refine zb3 ?_ | refine zah ?_ | refine zaf ?_ | refine zao ?_ | refine zaq ?_))
   by_cases hy : x.length < y.length
   ·
    rw [z1a (Nat.le_refl _) hy] at he
    refine zab (zac rfl (zad rfl rfl (zaa rfl) (zak rfl ts44 rfl) (zac rfl (zad rfl rfl (zaa rfl) (zak rfl ts44 rfl) (zad rfl rfl (zaa rfl) (zbp (by omega) (zaz rfl rfl rfl)) (zae (zah (za0 rfl (zaf (zab (zac rfl (zae (zah ?_)))))))))))))
    (refine zav ?_; repeat (first | refine za6 ?_ | refine za7 ?_))
    exact zbj (.inr rfl) rfl (congrArg eI he)
   ·
    rw [z1c (Nat.le_refl _) (by omega)] at he
    refine zab (zac rfl (zad rfl rfl (zaa rfl) (zak rfl ts44 rfl) (zac rfl (zad rfl rfl (zaa rfl) (zak rfl ts44 rfl) (zad rfl rfl (zaa rfl) (zbi (by omega) (zaz rfl rfl rfl)) (zae (zah (zax rfl (zao (zaf (zaf (zab (zac rfl (zad rfl rfl (zaa rfl) (zak rfl ts44 rfl) (zac rfl (zad rfl rfl (zaa rfl) (zak rfl ts44 rfl) (zad rfl rfl (zaa rfl) (zbi (by omega) (za5 rfl rfl rfl)) (zae (zah (zax rfl (zao (zaf (zab (zac rfl ?_))))))))))))))))))))))))
    refine zae (zah ?_)
    (refine zav ?_; repeat (first | refine za6 ?_ | refine za7 ?_))
    exact zbj (.inr rfl) rfl (congrArg eI he)
def aVr (acts : List ByteArray) (cnt : Int) : AV := .agg [eL eS acts, eI cnt]
def eVr (v : Vr) : AV := aVr v.acts v.cnt
theorem zrq {k : Nat} (v : Vr) : Lo k (eVr v) := .agg _ (zaj (lo_W _) (zaj (.s _) zar))
theorem zdv {k : Nat} (l : List Vr) : Lo k (eL eVr l) := za1 fun v => zrq v
theorem zvg {l : List Vr} {i : Nat} : vvAt l i = true ↔ (gti l i).acts.length ≤ 200 ∧ allN (gti l i).acts = true ∧ 1 ≤ (gti l i).cnt ∧ (gti l i).cnt ≤ 1048576 ∧ (i = 0 ∨ cmpW (gti l (i - 1)).acts (gti l i).acts < 0) := by
 unfold vvAt okV
 simp only [Bool.and_eq_true, Bool.or_eq_true, decide_eq_true_eq]
 constructor
 ·
  rintro ⟨⟨a, b, c, d⟩, e⟩; exact ⟨a, b, c, d, e⟩
 ·
  rintro ⟨a, b, c, d, e⟩; exact ⟨⟨a, b, c, d⟩, e⟩
theorem z0k {l : List Vr} {i : Nat} (h : ¬ ((gti l i).acts.length ≤ 200 ∧ allN (gti l i).acts = true ∧ 1 ≤ (gti l i).cnt ∧ (gti l i).cnt ≤ 1048576 ∧ (i = 0 ∨ cmpW (gti l (i - 1)).acts (gti l i).acts < 0))) : vvAt l i = false := by
 cases hv : vvAt l i with
 | false => rfl
 | true => exact absurd (zvg.1 hv) h
theorem z1k (l : List Vr) : Pure P 84 [eL eVr l] (eB (vvB l)) := by
 obtain ⟨R, hR⟩ : ∃ R, vvB l = R := ⟨_, rfl⟩
 rw [hR]
 refine zcu (by rw [IsP.eq (P := P)]; exact Tryz.func84) rfl rfl rfl rfl rfl (zaj (zdv l) zar) (.s _) (by simp only [argF]; rfl) ?_
 refine zaf (zab (zac rfl (zae (zaf (zaf ?_)))))
 by_cases hlen : l.length ≤ 300
 rotate_left 1
 ·
  have hF : R = false := by rw [← hR]; unfold vvB; rw [decide_eq_false hlen, Bool.false_and]
  refine zab (zac rfl (zad rfl rfl (zaa rfl) (zak rfl ts25 rfl) (zad rfl rfl (zaa rfl) (zbp (by omega) (za5 rfl rfl rfl)) (zae (zah (za0 rfl (zaf (zab (zac rfl (zae (zah ?_)))))))))))
  (refine zav ?_; repeat (first | refine za6 ?_ | refine za7 ?_))
  exact zbj (.inr rfl) rfl (congrArg eB hF.symm)
 refine zab (zac rfl (zad rfl rfl (zaa rfl) (zak rfl ts25 rfl) (zad rfl rfl (zaa rfl) (zbi (by omega) (za5 rfl rfl rfl)) (zae (zah (zax rfl (zao (zaf (zaf (zab (zac rfl (zad rfl rfl (zaa rfl) (zak rfl ts25 rfl) (zac rfl (zae (zah (zaq ?_))))))))))))))))
 refine zcd (S := Nat) (fun k => [(0, eL eVr l), (8, eL eVr l), (9, eI l.length), (10, eI k)]) (fun _ => []) (fun k => k ≤ l.length ∧ ∀ i, i < k → vvAt l i = true) (fun k => l.length - k) 0 (zbx _ ⟨rfl, rfl, rfl, rfl, trivial⟩) ⟨Nat.zero_le _, fun i h => by omega⟩ (fun k hk => ?_)
 obtain ⟨hk, he⟩ := hk
 by_cases hlt : k < l.length
 ·
  have hix : (l.map eVr)[k]? = some (eVr (gti l k)) := zbz hlt
  have hb := zvg (l := l) (i := k)
  have hbf := z0k (l := l) (i := k)
  have hvf := fun h => vvB_f (l := l) hlt h
  rw [hR] at hvf
  have hnm := zu3 (P := P) (gti l k).acts
  have hcp := fun y => z2c (P := P) y (gti l k).acts
  generalize gti l k = v at hix hb hbf hnm hcp
  obtain ⟨acts, cnt⟩ := v
  replace hix : (l.map eVr)[k]? = some (aVr acts cnt) := hix
  replace hnm : Pure P 116 [eL eS acts] (eB (allN acts)) := hnm
  dsimp only at hb hbf hcp
  generalize allN acts = bn at hnm hb hbf
  have hlv : Lo 0 (.ref (aVr acts cnt).cells) := .ref _ (zrq ⟨acts, cnt⟩).cells
  refine zaf (zab (zad rfl rfl (zaa rfl) (zbp (by omega) (zaz rfl rfl rfl)) (zae (zaf (za0 rfl (zao (zaf (zaq (zaf (zab (zac rfl (zad rfl rfl (zaa rfl) (zan rfl ts25 ti46 rfl rfl rfl hix rfl) (zbr ta46 ti46 rfl (zad rfl rfl (zaa rfl) (zbw rfl ti46 rfl rfl) (zac rfl (zcg rfl (zaa rfl) (za8 rfl ti46 rfl rfl rfl rfl rfl rfl (by decide) (by decide)) (zae (zaf ?_))))))))))))))))))
  refine zbd (zbk (id := 0) rfl) ?_
  refine zbd (zch (d := 4) rfl rfl rfl) ?_
  refine zbd (zc3 (σ' := []) [] (by decide) trivial (F' := [(0, eL eVr l), (8, eL eVr l), (9, eI l.length), (10, eI k), (3, eI k), (4, .ref (aVr acts cnt).cells)]) ⟨.lo _ (zdv l), .lo _ (zdv l), .lo _ (.s _), .lo _ (.s _), .lo _ (.s _), .lo _ hlv, trivial⟩) ?_
  by_cases h1 : acts.length ≤ 200
  rotate_left 1
  ·
   have hF := hvf (hbf (by rintro ⟨a, _⟩; exact h1 a))
   refine zb6 hmix ?_
   refine zba (by kernel_rfl) ?_
   refine qx_f zcm rfl (qx_l ta44 rfl (za9 rfl rfl (zaa rfl) (zak rfl ts44 rfl) (za9 rfl rfl (zaa rfl) (zbp (by omega) (za5 rfl rfl rfl)) (qx_s rfl (qx_z rfl (qx_z rfl (qx_z rfl (qx_z rfl (qx_s rfl (qx_s rfl (qx_z rfl (qx_z rfl (qx_z rfl (qx_s rfl (qx_s rfl (qx_z rfl (qx_z rfl (qx_z rfl (qx_s rfl (qx_s rfl (qx_z rfl (qx_z rfl (qx_z rfl (zb8 rfl rfl (zbu rfl rfl rfl) (zb8 rfl rfl (zbu rfl rfl rfl) (zb8 rfl rfl (zbu rfl rfl rfl) (zb8 rfl rfl (zbu rfl rfl rfl) (zb8 rfl rfl (zbu rfl rfl rfl) (zb8 rfl rfl (zbu rfl rfl rfl) ?_)))))))))))))))))))))))))))))
   refine zb8 rfl rfl (zbu rfl rfl rfl) (zb8 rfl rfl (zbu rfl rfl rfl) (zb8 rfl rfl (zbu rfl rfl rfl) (zb8 rfl rfl (zbu rfl rfl rfl) (qx_z rfl (qx_s rfl ?_)))))
   refine zcp ?_
   refine zah (za0 rfl (zaf (zab (zac rfl (zae (zah ?_))))))
   (refine zav ?_; repeat (first | refine za6 ?_ | refine za7 ?_))
   exact zbj (.inr rfl) rfl (congrArg eB hF.symm)
  cases bn with
  | false =>
   have hF := hvf (hbf (by rintro ⟨_, a, _⟩; cases a))
   refine zb6 hmix ?_
   refine zba (by kernel_rfl) ?_
   refine qx_f zcm rfl (qx_l ta44 rfl (za9 rfl rfl (zaa rfl) (zak rfl ts44 rfl) (za9 rfl rfl (zaa rfl) (zbi (by omega) (za5 rfl rfl rfl)) (qx_s rfl (qx_f zcm rfl (qx_l ta44 rfl (za9 rfl rfl (zal rfl rfl rfl) (zai rfl rfl (hnm) (zag rfl zam)) (za9 rfl rfl (zal rfl rfl rfl) (zay rfl rfl) (qx_s rfl (qx_s rfl (qx_z rfl (qx_z rfl (qx_z rfl (qx_s rfl (qx_s rfl (qx_z rfl (qx_z rfl (qx_z rfl (qx_s rfl (qx_s rfl (qx_z rfl (qx_z rfl (qx_z rfl (zb8 rfl rfl (zbu rfl rfl rfl) (zb8 rfl rfl (zbu rfl rfl rfl) ?_)))))))))))))))))))))))))
   refine zb8 rfl rfl (zbu rfl rfl rfl) (zb8 rfl rfl (zbu rfl rfl rfl) (zb8 rfl rfl (zbu rfl rfl rfl) (zb8 rfl rfl (zbu rfl rfl rfl) (zb8 rfl rfl (zbu rfl rfl rfl) (zb8 rfl rfl (zbu rfl rfl rfl) (zb8 rfl rfl (zbu rfl rfl rfl) (zb8 rfl rfl (zbu rfl rfl rfl) (qx_z rfl (qx_s rfl ?_)))))))))
   refine zcp ?_
   refine zah (za0 rfl (zaf (zab (zac rfl (zae (zah ?_))))))
   (refine zav ?_; repeat (first | refine za6 ?_ | refine za7 ?_))
   exact zbj (.inr rfl) rfl (congrArg eB hF.symm)
  | true =>
  by_cases h3 : 1 ≤ cnt
  rotate_left 1
  ·
   have hF := hvf (hbf (by rintro ⟨_, _, a, _⟩; exact h3 a))
   refine zb6 hmix ?_
   refine zba (by kernel_rfl) ?_
   refine qx_f zcm rfl (qx_l ta44 rfl (za9 rfl rfl (zaa rfl) (zak rfl ts44 rfl) (za9 rfl rfl (zaa rfl) (zbi (by omega) (za5 rfl rfl rfl)) (qx_s rfl (qx_f zcm rfl (qx_l ta44 rfl (za9 rfl rfl (zal rfl rfl rfl) (zai rfl rfl (hnm) (zag rfl zam)) (za9 rfl rfl (zal rfl rfl rfl) (zay rfl rfl) (qx_s rfl (qx_s rfl (qx_f zex rfl (qx_l ta3 rfl (za9 rfl rfl (zal rfl rfl rfl) (zbp (by omega) (zaz rfl rfl rfl)) (qx_s rfl (qx_s rfl (qx_z rfl (qx_z rfl (qx_z rfl (qx_s rfl (qx_s rfl (qx_z rfl (qx_z rfl (qx_z rfl (zb8 rfl rfl (zbu rfl rfl rfl) ?_))))))))))))))))))))))))
   refine zb8 rfl rfl (zbu rfl rfl rfl) (zb8 rfl rfl (zbu rfl rfl rfl) (zb8 rfl rfl (zbu rfl rfl rfl) (zb8 rfl rfl (zbu rfl rfl rfl) (zb8 rfl rfl (zbu rfl rfl rfl) (zb8 rfl rfl (zbu rfl rfl rfl) (zb8 rfl rfl (zbu rfl rfl rfl) (zb8 rfl rfl (zbu rfl rfl rfl) (zb8 rfl rfl (zbu rfl rfl rfl) (qx_z rfl (qx_s rfl ?_))))))))))
   refine zcp ?_
   refine zah (za0 rfl (zaf (zab (zac rfl (zae (zah ?_))))))
   (refine zav ?_; repeat (first | refine za6 ?_ | refine za7 ?_))
   exact zbj (.inr rfl) rfl (congrArg eB hF.symm)
  by_cases h4 : cnt ≤ 1048576
  rotate_left 1
  ·
   have hF := hvf (hbf (by rintro ⟨_, _, _, a, _⟩; exact h4 a))
   refine zb6 hmix ?_
   refine zba (by kernel_rfl) ?_
   refine qx_f zcm rfl (qx_l ta44 rfl (za9 rfl rfl (zaa rfl) (zak rfl ts44 rfl) (za9 rfl rfl (zaa rfl) (zbi (by omega) (za5 rfl rfl rfl)) (qx_s rfl (qx_f zcm rfl (qx_l ta44 rfl (za9 rfl rfl (zal rfl rfl rfl) (zai rfl rfl (hnm) (zag rfl zam)) (za9 rfl rfl (zal rfl rfl rfl) (zay rfl rfl) (qx_s rfl (qx_s rfl (qx_f zex rfl (qx_l ta3 rfl (za9 rfl rfl (zal rfl rfl rfl) (zbi (by omega) (zaz rfl rfl rfl)) (qx_s rfl (qx_s rfl (qx_f zex rfl (qx_l ta3 rfl (za9 rfl rfl (zal rfl rfl rfl) (zbp (by omega) (za5 rfl rfl rfl)) ?_))))))))))))))))))
   refine qx_s rfl (qx_s rfl (qx_z rfl (qx_z rfl (qx_z rfl (zb8 rfl rfl (zbu rfl rfl rfl) (zb8 rfl rfl (zbu rfl rfl rfl) (zb8 rfl rfl (zbu rfl rfl rfl) (zb8 rfl rfl (zbu rfl rfl rfl) (zb8 rfl rfl (zbu rfl rfl rfl) (zb8 rfl rfl (zbu rfl rfl rfl) (zb8 rfl rfl (zbu rfl rfl rfl) (zb8 rfl rfl (zbu rfl rfl rfl) (zb8 rfl rfl (zbu rfl rfl rfl) (zb8 rfl rfl (zbu rfl rfl rfl) (qx_z rfl (qx_s rfl ?_))))))))))))))))
   refine zcp ?_
   refine zah (za0 rfl (zaf (zab (zac rfl (zae (zah ?_))))))
   (refine zav ?_; repeat (first | refine za6 ?_ | refine za7 ?_))
   exact zbj (.inr rfl) rfl (congrArg eB hF.symm)
  cases k with
  | zero =>
   refine zb6 hmix ?_
   refine zba (by kernel_rfl) ?_
   refine qx_f zcm rfl (qx_l ta44 rfl (za9 rfl rfl (zaa rfl) (zak rfl ts44 rfl) (za9 rfl rfl (zaa rfl) (zbi (by omega) (za5 rfl rfl rfl)) (qx_s rfl (qx_f zcm rfl (qx_l ta44 rfl (za9 rfl rfl (zal rfl rfl rfl) (zai rfl rfl (hnm) (zag rfl zam)) (za9 rfl rfl (zal rfl rfl rfl) (zay rfl rfl) (qx_s rfl (qx_s rfl (qx_f zex rfl (qx_l ta3 rfl (za9 rfl rfl (zal rfl rfl rfl) (zbi (by omega) (zaz rfl rfl rfl)) (qx_s rfl (qx_s rfl (qx_f zex rfl (qx_l ta3 rfl (za9 rfl rfl (zal rfl rfl rfl) (zbi (by omega) (za5 rfl rfl rfl)) ?_))))))))))))))))))
   refine qx_s rfl (qx_s rfl (qx_s rfl (za9 rfl rfl (zal rfl rfl rfl) (zbi (by decide) (za5 rfl rfl rfl)) (qx_s rfl (qx_z rfl (qx_z rfl (qx_z rfl (qx_z rfl (qx_z rfl (qx_z rfl (qx_z rfl (qx_z rfl (qx_z rfl (qx_z rfl (qx_s rfl (qx_s rfl ?_))))))))))))))))
   refine zcp ?_
   refine zah (zax rfl (zao (zb3 (zah (zab (zad rfl rfl (zaa rfl) (za4 rfl rfl rfl (IntWalk.i64_in _ (by omega))) (zac rfl (zae (zah ?_)))))))))
   refine ⟨0 + 1, ⟨by show 0 + 1 ≤ l.length; omega, fun i hi => ?_⟩, by show l.length - (0 + 1) < l.length - 0; omega, zbx _ ⟨rfl, rfl, rfl, rfl, trivial⟩⟩
   by_cases hik : i = 0
   ·
    rw [hik]; exact hb.2 ⟨h1, rfl, h3, h4, .inl rfl⟩
   ·
    exact he i (by omega)
  | succ y =>
   have hiy : (l.map eVr)[y]? = some (eVr (gti l y)) := zbz (by omega)
   have hc := hcp (gti l y).acts
   have hsb : IntKind.i64.wrap (((y + 1 : Nat) : Int) - 1) = (y : Int) := by rw [show ((y + 1 : Nat) : Int) - 1 = y by omega]; exact IntWalk.i64_in _ (by omega)
   replace hb : vvAt l (y + 1) = true ↔ acts.length ≤ 200 ∧ true = true ∧ 1 ≤ cnt ∧ cnt ≤ 1048576 ∧ (y + 1 = 0 ∨ cmpW (gti l y).acts acts < 0) := hb
   replace hbf : ¬ (acts.length ≤ 200 ∧ true = true ∧ 1 ≤ cnt ∧ cnt ≤ 1048576 ∧ (y + 1 = 0 ∨ cmpW (gti l y).acts acts < 0)) → vvAt l (y + 1) = false := hbf
   generalize cmpW (gti l y).acts acts = z at hc hb hbf
   by_cases h5 : z < 0
   ·
    refine zb6 hmix ?_
    refine zba (by kernel_rfl) ?_
    refine qx_f zcm rfl (qx_l ta44 rfl (za9 rfl rfl (zaa rfl) (zak rfl ts44 rfl) (za9 rfl rfl (zaa rfl) (zbi (by omega) (za5 rfl rfl rfl)) (qx_s rfl (qx_f zcm rfl (qx_l ta44 rfl (za9 rfl rfl (zal rfl rfl rfl) (zai rfl rfl (hnm) (zag rfl zam)) (za9 rfl rfl (zal rfl rfl rfl) (zay rfl rfl) (qx_s rfl (qx_s rfl (qx_f zex rfl (qx_l ta3 rfl (za9 rfl rfl (zal rfl rfl rfl) (zbi (by omega) (zaz rfl rfl rfl)) (qx_s rfl (qx_s rfl (qx_f zex rfl (qx_l ta3 rfl (za9 rfl rfl (zal rfl rfl rfl) (zbi (by omega) (za5 rfl rfl rfl)) ?_))))))))))))))))))
    refine qx_s rfl (qx_s rfl (qx_s rfl (za9 rfl rfl (zal rfl rfl rfl) (zbp (by omega) (za5 rfl rfl rfl)) (qx_s rfl (qx_s rfl (qx_s rfl (za9 rfl rfl (zal rfl rfl rfl) (zeu rfl rfl rfl hsb) (za9 rfl rfl (zal rfl rfl rfl) (zan rfl ts25 ti46 rfl rfl rfl hiy rfl) (qx_f zcm rfl (qx_l ta44 rfl (qx_f zcm rfl (qx_l ta44 rfl (za9 rfl rfl (zal rfl rfl rfl) (zai rfl rfl (hc) (zag rfl (zag rfl zam))) (za9 rfl rfl (zal rfl rfl rfl) (zbi (by omega) (zcr rfl rfl rfl)) (qx_s rfl (qx_s rfl ?_))))))))))))))))
    refine zcp ?_
    refine zah (zax rfl (zao (zb3 (zah (zab (zad rfl rfl (zaa rfl) (za4 rfl rfl rfl (IntWalk.i64_in _ (by omega))) (zac rfl (zae (zah ?_)))))))))
    refine ⟨y + 1 + 1, ⟨by show y + 1 + 1 ≤ l.length; omega, fun i hi => ?_⟩, by show l.length - (y + 1 + 1) < l.length - (y + 1); omega, zbx _ ⟨rfl, rfl, rfl, rfl, trivial⟩⟩
    by_cases hik : i = y + 1
    ·
     rw [hik]; exact hb.2 ⟨h1, rfl, h3, h4, .inr h5⟩
    ·
     exact he i (by omega)
   ·
    have hF := hvf (hbf (by rintro ⟨_, _, _, _, a | a⟩; exact absurd a (by omega); exact h5 a))
    refine zb6 hmix ?_
    refine zba (by kernel_rfl) ?_
    refine qx_f zcm rfl (qx_l ta44 rfl (za9 rfl rfl (zaa rfl) (zak rfl ts44 rfl) (za9 rfl rfl (zaa rfl) (zbi (by omega) (za5 rfl rfl rfl)) (qx_s rfl (qx_f zcm rfl (qx_l ta44 rfl (za9 rfl rfl (zal rfl rfl rfl) (zai rfl rfl (hnm) (zag rfl zam)) (za9 rfl rfl (zal rfl rfl rfl) (zay rfl rfl) (qx_s rfl (qx_s rfl (qx_f zex rfl (qx_l ta3 rfl (za9 rfl rfl (zal rfl rfl rfl) (zbi (by omega) (zaz rfl rfl rfl)) (qx_s rfl (qx_s rfl (qx_f zex rfl (qx_l ta3 rfl (za9 rfl rfl (zal rfl rfl rfl) (zbi (by omega) (za5 rfl rfl rfl)) ?_))))))))))))))))))
    refine qx_s rfl (qx_s rfl (qx_s rfl (za9 rfl rfl (zal rfl rfl rfl) (zbp (by omega) (za5 rfl rfl rfl)) (qx_s rfl (qx_s rfl (qx_s rfl (za9 rfl rfl (zal rfl rfl rfl) (zeu rfl rfl rfl hsb) (za9 rfl rfl (zal rfl rfl rfl) (zan rfl ts25 ti46 rfl rfl rfl hiy rfl) (qx_f zcm rfl (qx_l ta44 rfl (qx_f zcm rfl (qx_l ta44 rfl (za9 rfl rfl (zal rfl rfl rfl) (zai rfl rfl (hc) (zag rfl (zag rfl zam))) (za9 rfl rfl (zal rfl rfl rfl) (zbp (by omega) (zcr rfl rfl rfl)) (qx_s rfl (qx_s rfl ?_))))))))))))))))
    refine zcp ?_
    refine zah (za0 rfl (zaf (zab (zac rfl (zae (zah ?_))))))
    (refine zav ?_; repeat (first | refine za6 ?_ | refine za7 ?_))
    exact zbj (.inr rfl) rfl (congrArg eB hF.symm)
 ·
  have e : k = l.length := by omega
  subst e
  refine zaf (zab (zad rfl rfl (zaa rfl) (zbi (by omega) (zaz rfl rfl rfl)) (zae (zaf (zax rfl ?_)))))
  (refine zb1 ?_; repeat (first | refine zcx ?_ | refine zbs ?_ | refine zbe rfl ?_ | refine zb3 ?_ | refine zah ?_ | refine zaf ?_ | refine zao ?_ | refine zaq ?_))
  refine zab (zac rfl (zae (zah ?_)))
  (refine zav ?_; repeat (first | refine za6 ?_ | refine za7 ?_))
  exact zbj (.inr rfl) rfl (congrArg eB (by rw [← hR]; exact (vvB_t hlen he).symm))
theorem zs9 (l : List Vr) : Pure P 15 [eL eVr l] (eB (vvB l)) := by
 obtain ⟨R, hR⟩ : ∃ R, vvB l = R := ⟨_, rfl⟩
 rw [hR]
 refine zcu (by rw [IsP.eq (P := P)]; exact Tryz.func15) rfl rfl rfl rfl rfl (zaj (zdv l) zar) (.s _) (by simp only [argF]; rfl) ?_
 refine zaf (zab (zac rfl (zae (zaf (zaf ?_)))))
 by_cases hlen : l.length ≤ 300
 rotate_left 1
 ·
  have hF : R = false := by rw [← hR]; unfold vvB; rw [decide_eq_false hlen, Bool.false_and]
  refine zab (zac rfl (zad rfl rfl (zaa rfl) (zak rfl ts25 rfl) (zad rfl rfl (zaa rfl) (zbp (by omega) (za5 rfl rfl rfl)) (zae (zah (za0 rfl (zaf (zab (zac rfl (zae (zah ?_)))))))))))
  (refine zav ?_; repeat (first | refine za6 ?_ | refine za7 ?_))
  exact zbj (.inr rfl) rfl (congrArg eB hF.symm)
 refine zab (zac rfl (zad rfl rfl (zaa rfl) (zak rfl ts25 rfl) (zad rfl rfl (zaa rfl) (zbi (by omega) (za5 rfl rfl rfl)) (zae (zah (zax rfl (zao (zaf (zaf (zab (zac rfl (zae (zah (zaq ?_))))))))))))))
 refine zcd (S := Nat) (fun k => [(0, eL eVr l), (3, eI k)]) (fun _ => []) (fun k => k ≤ l.length ∧ ∀ i, i < k → vvAt l i = true) (fun k => l.length - k) 0 (zbx _ ⟨rfl, rfl, trivial⟩) ⟨Nat.zero_le _, fun i h => by omega⟩ (fun k hk => ?_)
 obtain ⟨hk, he⟩ := hk
 by_cases hlt : k < l.length
 ·
  have hix : (l.map eVr)[k]? = some (eVr (gti l k)) := zbz hlt
  have hb := zvg (l := l) (i := k)
  have hbf := z0k (l := l) (i := k)
  have hvf := fun h => vvB_f (l := l) hlt h
  rw [hR] at hvf
  have hnm := zlc (P := P) (gti l k).acts
  have hcp := fun y => zta (P := P) y (gti l k).acts
  generalize gti l k = v at hix hb hbf hnm hcp
  obtain ⟨acts, cnt⟩ := v
  replace hix : (l.map eVr)[k]? = some (aVr acts cnt) := hix
  replace hnm : Pure P 41 [eL eS acts] (eB (allN acts)) := hnm
  dsimp only at hb hbf hcp
  generalize allN acts = bn at hnm hb hbf
  refine zaf (zaf (zab (zac rfl (zac rfl (zad rfl rfl (zaa rfl) (zak rfl ts25 rfl) (zad rfl rfl (zaa rfl) (zbp (by omega) (zaz rfl rfl rfl)) (zae (zah (za0 rfl (zao (zaf (zaq (zaf (zaf ?_))))))))))))))
  by_cases h1 : acts.length ≤ 200
  rotate_left 1
  ·
   have hF := hvf (hbf (by rintro ⟨a, _⟩; exact h1 a))
   refine zab (zac rfl (zac rfl (zad rfl rfl (zaa rfl) (zan rfl ts25 ti46 rfl rfl rfl hix rfl) (zbh zcm rfl (zbl ta44 rfl (zad rfl rfl (zaa rfl) (zak rfl ts44 rfl) (zad rfl rfl (zaa rfl) (zbp (by omega) (za5 rfl rfl rfl)) (zac rfl (zat rfl (zat rfl (zat rfl (zat rfl (zat rfl (zat rfl (zat rfl (zac rfl (zac rfl (zat rfl (zat rfl (zat rfl (zat rfl (zat rfl (zat rfl (zac rfl (zac rfl (zat rfl (zat rfl (zat rfl (zat rfl (zat rfl (zat rfl (zac rfl (zae ?_)))))))))))))))))))))))))))))))))
   refine zah (za0 rfl (zaf (zab (zac rfl (zae (zah ?_))))))
   (refine zav ?_; repeat (first | refine za6 ?_ | refine za7 ?_))
   exact zbj (.inr rfl) rfl (congrArg eB hF.symm)
  cases bn with
  | false =>
   have hF := hvf (hbf (by rintro ⟨_, a, _⟩; cases a))
   refine zab (zac rfl (zac rfl (zad rfl rfl (zaa rfl) (zan rfl ts25 ti46 rfl rfl rfl hix rfl) (zbh zcm rfl (zbl ta44 rfl (zad rfl rfl (zaa rfl) (zak rfl ts44 rfl) (zad rfl rfl (zaa rfl) (zbi (by omega) (za5 rfl rfl rfl)) (zac rfl (zac rfl (zac rfl (zad rfl rfl (zal rfl rfl rfl) (zan rfl ts25 ti46 rfl rfl rfl hix rfl) (zbh zcm rfl (zbl ta44 rfl (zad rfl rfl (zal rfl rfl rfl) (zai rfl rfl (hnm) (zag rfl zam)) (zad rfl rfl (zal rfl rfl rfl) (zay rfl rfl) (zac rfl ?_))))))))))))))))
   refine zac rfl (zat rfl (zat rfl (zat rfl (zat rfl (zat rfl (zat rfl (zac rfl (zac rfl (zat rfl (zat rfl (zat rfl (zat rfl (zat rfl (zat rfl (zac rfl (zae (zah (za0 rfl (zaf (zab (zac rfl (zae (zah ?_)))))))))))))))))))))))
   (refine zav ?_; repeat (first | refine za6 ?_ | refine za7 ?_))
   exact zbj (.inr rfl) rfl (congrArg eB hF.symm)
  | true =>
  by_cases h3 : 1 ≤ cnt
  rotate_left 1
  ·
   have hF := hvf (hbf (by rintro ⟨_, _, a, _⟩; exact h3 a))
   refine zab (zac rfl (zac rfl (zad rfl rfl (zaa rfl) (zan rfl ts25 ti46 rfl rfl rfl hix rfl) (zbh zcm rfl (zbl ta44 rfl (zad rfl rfl (zaa rfl) (zak rfl ts44 rfl) (zad rfl rfl (zaa rfl) (zbi (by omega) (za5 rfl rfl rfl)) (zac rfl (zac rfl (zac rfl (zad rfl rfl (zal rfl rfl rfl) (zan rfl ts25 ti46 rfl rfl rfl hix rfl) (zbh zcm rfl (zbl ta44 rfl (zad rfl rfl (zal rfl rfl rfl) (zai rfl rfl (hnm) (zag rfl zam)) (zad rfl rfl (zal rfl rfl rfl) (zay rfl rfl) (zac rfl ?_))))))))))))))))
   refine zac rfl (zac rfl (zac rfl (zad rfl rfl (zal rfl rfl rfl) (zan rfl ts25 ti46 rfl rfl rfl hix rfl) (zbh zex rfl (zbl ta3 rfl (zad rfl rfl (zal rfl rfl rfl) (zbp (by omega) (zaz rfl rfl rfl)) (zac rfl (zac rfl (zat rfl (zat rfl (zat rfl (zat rfl (zat rfl (zat rfl (zac rfl (zae (zah (za0 rfl (zaf (zab (zac rfl (zae (zah ?_)))))))))))))))))))))))
   (refine zav ?_; repeat (first | refine za6 ?_ | refine za7 ?_))
   exact zbj (.inr rfl) rfl (congrArg eB hF.symm)
  by_cases h4 : cnt ≤ 1048576
  rotate_left 1
  ·
   have hF := hvf (hbf (by rintro ⟨_, _, _, a, _⟩; exact h4 a))
   refine zab (zac rfl (zac rfl (zad rfl rfl (zaa rfl) (zan rfl ts25 ti46 rfl rfl rfl hix rfl) (zbh zcm rfl (zbl ta44 rfl (zad rfl rfl (zaa rfl) (zak rfl ts44 rfl) (zad rfl rfl (zaa rfl) (zbi (by omega) (za5 rfl rfl rfl)) (zac rfl (zac rfl (zac rfl (zad rfl rfl (zal rfl rfl rfl) (zan rfl ts25 ti46 rfl rfl rfl hix rfl) (zbh zcm rfl (zbl ta44 rfl (zad rfl rfl (zal rfl rfl rfl) (zai rfl rfl (hnm) (zag rfl zam)) (zad rfl rfl (zal rfl rfl rfl) (zay rfl rfl) (zac rfl ?_))))))))))))))))
   refine zac rfl (zac rfl (zac rfl (zad rfl rfl (zal rfl rfl rfl) (zan rfl ts25 ti46 rfl rfl rfl hix rfl) (zbh zex rfl (zbl ta3 rfl (zad rfl rfl (zal rfl rfl rfl) (zbi (by omega) (zaz rfl rfl rfl)) (zac rfl (zac rfl (zac rfl (zac rfl (zad rfl rfl (zal rfl rfl rfl) (zan rfl ts25 ti46 rfl rfl rfl hix rfl) (zbh zex rfl (zbl ta3 rfl (zad rfl rfl (zal rfl rfl rfl) (zbp (by omega) (za5 rfl rfl rfl)) (zac rfl (zae (zah (za0 rfl (zaf (zab (zac rfl (zae (zah ?_)))))))))))))))))))))))
   (refine zav ?_; repeat (first | refine za6 ?_ | refine za7 ?_))
   exact zbj (.inr rfl) rfl (congrArg eB hF.symm)
  refine zab (zac rfl (zac rfl (zad rfl rfl (zaa rfl) (zan rfl ts25 ti46 rfl rfl rfl hix rfl) (zbh zcm rfl (zbl ta44 rfl (zad rfl rfl (zaa rfl) (zak rfl ts44 rfl) (zad rfl rfl (zaa rfl) (zbi (by omega) (za5 rfl rfl rfl)) (zac rfl (zac rfl (zac rfl (zad rfl rfl (zal rfl rfl rfl) (zan rfl ts25 ti46 rfl rfl rfl hix rfl) (zbh zcm rfl (zbl ta44 rfl (zad rfl rfl (zal rfl rfl rfl) (zai rfl rfl (hnm) (zag rfl zam)) (zad rfl rfl (zal rfl rfl rfl) (zay rfl rfl) (zac rfl ?_))))))))))))))))
  refine zac rfl (zac rfl (zac rfl (zad rfl rfl (zal rfl rfl rfl) (zan rfl ts25 ti46 rfl rfl rfl hix rfl) (zbh zex rfl (zbl ta3 rfl (zad rfl rfl (zal rfl rfl rfl) (zbi (by omega) (zaz rfl rfl rfl)) (zac rfl (zac rfl (zac rfl (zac rfl (zad rfl rfl (zal rfl rfl rfl) (zan rfl ts25 ti46 rfl rfl rfl hix rfl) (zbh zex rfl (zbl ta3 rfl (zad rfl rfl (zal rfl rfl rfl) (zbi (by omega) (za5 rfl rfl rfl)) (zac rfl (zae (zah (zax rfl (zao (zaf ?_))))))))))))))))))))
  cases k with
  | zero =>
   refine zb6 hmix ?_
   refine zba (by kernel_rfl) ?_
   refine qx_s rfl (za9 rfl rfl (zaa rfl) (zbi (by decide) (za5 rfl rfl rfl)) (qx_s rfl (qx_z rfl (qx_z rfl (qx_z rfl (qx_z rfl (qx_z rfl (qx_z rfl (qx_z rfl (qx_z rfl (qx_z rfl (qx_z rfl (qx_z rfl (qx_z rfl (qx_z rfl (qx_s rfl ?_))))))))))))))))
   refine zcp ?_
   refine zah (zax rfl (zao (zb3 (zah (zab (zac rfl (zad rfl rfl (zaa rfl) (za4 rfl rfl rfl (IntWalk.i64_in _ (by omega))) (zac rfl (zae (zah ?_))))))))))
   refine ⟨0 + 1, ⟨by show 0 + 1 ≤ l.length; omega, fun i hi => ?_⟩, by show l.length - (0 + 1) < l.length - (0); omega, zbx _ ⟨rfl, rfl, trivial⟩⟩
   by_cases hik : i = 0
   ·
    rw [hik]; exact hb.2 ⟨h1, rfl, h3, h4, .inl rfl⟩
   ·
    exact he i (by omega)
  | succ y =>
   have hiy : (l.map eVr)[y]? = some (eVr (gti l y)) := zbz (by omega)
   have hc := hcp (gti l y).acts
   have hsb : IntKind.i64.wrap (((y + 1 : Nat) : Int) - 1) = (y : Int) := by rw [show ((y + 1 : Nat) : Int) - 1 = y by omega]; exact IntWalk.i64_in _ (by omega)
   replace hb : vvAt l (y + 1) = true ↔ acts.length ≤ 200 ∧ true = true ∧ 1 ≤ cnt ∧ cnt ≤ 1048576 ∧ (y + 1 = 0 ∨ cmpW (gti l y).acts acts < 0) := hb
   replace hbf : ¬ (acts.length ≤ 200 ∧ true = true ∧ 1 ≤ cnt ∧ cnt ≤ 1048576 ∧ (y + 1 = 0 ∨ cmpW (gti l y).acts acts < 0)) → vvAt l (y + 1) = false := hbf
   generalize cmpW (gti l y).acts acts = z at hc hb hbf
   by_cases h5 : z < 0
   ·
    refine zb6 hmix ?_
    refine zba (by kernel_rfl) ?_
    refine qx_s rfl (za9 rfl rfl (zaa rfl) (zbp (by omega) (za5 rfl rfl rfl)) (qx_s rfl (qx_s rfl (qx_s rfl (za9 rfl rfl (zal rfl rfl rfl) (zeu rfl rfl rfl hsb) (za9 rfl rfl (zal rfl rfl rfl) (zan rfl ts25 ti46 rfl rfl rfl hiy rfl) (qx_f zcm rfl (qx_l ta44 rfl (qx_s rfl (qx_s rfl (za9 rfl rfl (zal rfl rfl rfl) (zan rfl ts25 ti46 rfl rfl rfl hix rfl) (qx_f zcm rfl (qx_l ta44 rfl (za9 rfl rfl (zal rfl rfl rfl) (zai rfl rfl (hc) (zag rfl (zag rfl zam))) (za9 rfl rfl (zal rfl rfl rfl) (zbi (by omega) (zcr rfl rfl rfl)) ?_)))))))))))))))
    refine qx_s rfl ?_
    refine zcp ?_
    refine zah (zax rfl (zao (zb3 (zah (zab (zac rfl (zad rfl rfl (zaa rfl) (za4 rfl rfl rfl (IntWalk.i64_in _ (by omega))) (zac rfl (zae (zah ?_))))))))))
    refine ⟨y + 1 + 1, ⟨by show y + 1 + 1 ≤ l.length; omega, fun i hi => ?_⟩, by show l.length - (y + 1 + 1) < l.length - (y + 1); omega, zbx _ ⟨rfl, rfl, trivial⟩⟩
    by_cases hik : i = y + 1
    ·
     rw [hik]; exact hb.2 ⟨h1, rfl, h3, h4, .inr h5⟩
    ·
     exact he i (by omega)
   ·
    have hF := hvf (hbf (by rintro ⟨_, _, _, _, a | a⟩; exact absurd a (by omega); exact h5 a))
    refine zb6 hmix ?_
    refine zba (by kernel_rfl) ?_
    refine qx_s rfl (za9 rfl rfl (zaa rfl) (zbp (by omega) (za5 rfl rfl rfl)) (qx_s rfl (qx_s rfl (qx_s rfl (za9 rfl rfl (zal rfl rfl rfl) (zeu rfl rfl rfl hsb) (za9 rfl rfl (zal rfl rfl rfl) (zan rfl ts25 ti46 rfl rfl rfl hiy rfl) (qx_f zcm rfl (qx_l ta44 rfl (qx_s rfl (qx_s rfl (za9 rfl rfl (zal rfl rfl rfl) (zan rfl ts25 ti46 rfl rfl rfl hix rfl) (qx_f zcm rfl (qx_l ta44 rfl (za9 rfl rfl (zal rfl rfl rfl) (zai rfl rfl (hc) (zag rfl (zag rfl zam))) (za9 rfl rfl (zal rfl rfl rfl) (zbp (by omega) (zcr rfl rfl rfl)) ?_)))))))))))))))
    refine qx_s rfl ?_
    refine zcp ?_
    refine zah (za0 rfl (zaf (zab (zac rfl (zae (zah ?_))))))
    (refine zav ?_; repeat (first | refine za6 ?_ | refine za7 ?_))
    exact zbj (.inr rfl) rfl (congrArg eB hF.symm)
 ·
  have e : k = l.length := by omega
  subst e
  refine zaf (zaf (zab (zac rfl (zac rfl (zad rfl rfl (zaa rfl) (zak rfl ts25 rfl) (zad rfl rfl (zaa rfl) (zbi (by omega) (zaz rfl rfl rfl)) (zae (zah (zax rfl ?_)))))))))
  (refine zb1 ?_; repeat (first | refine zcx ?_ | refine zbs ?_ | refine zbe rfl ?_ | refine zb3 ?_ | refine zah ?_ | refine zaf ?_ | refine zao ?_ | refine zaq ?_))
  refine zab (zac rfl (zae (zah ?_)))
  (refine zav ?_; repeat (first | refine za6 ?_ | refine za7 ?_))
  exact zbj (.inr rfl) rfl (congrArg eB (by rw [← hR]; exact (vvB_t hlen he).symm))
end Go.Proofs.YtohmldibkojkfaaGreatDoor.Aw
end
section
namespace Go.Proofs.YtohmldibkojkfaaGreatDoor.Aw
open Go Go.RowKit Go.Proofs Dl
variable {P : Program} [IsP P]
theorem ztv (n d : Int) (hn : -4611686018427387904 ≤ n ∧ n ≤ 4611686018427387904) (hd : 0 < d ∧ d ≤ 4611686018427387904) : Pure P 35 [eI n, eI d] (eFE (zcy n d)) :=
 zm1 (zdb Tryz.func35 rfl rfl) fun G vargs hsz hrep => by
  obtain ⟨q⟩ := vargs
  match q, hsz with
  | [u, w], _ => rw [zdd (hrep 0 u _ rfl rfl), zdd (hrep 1 w _ rfl rfl)]; exact zxm n d G.w hn hd
theorem zyz (n d : Int) (hn : -4611686018427387904 ≤ n ∧ n ≤ 4611686018427387904) (hd : -4611686018427387904 ≤ d ∧ d ≤ 4611686018427387904) : Pure P 39 [eI n, eI d] (eFE (zcy n d)) :=
 zm1 (zdb Tryz.func39 rfl rfl) fun G vargs hsz hrep => by
  obtain ⟨q⟩ := vargs
  match q, hsz with
  | [u, w], _ => rw [zdd (hrep 0 u _ rfl rfl), zdd (hrep 1 w _ rfl rfl)]; exact zn4 n d G.w hn hd
noncomputable def qgvE (n : Net) (vs : List Vr) (most : Int) : Int := if (wfB n && vvB vs) = false then 1 else if most < 1 ∨ 2000 < most then 2 else 0
noncomputable def qcoE (n : Net) (vs : List Vr) (c : Cst) (most : Int) : Int := if vcB c = false then 1 else qgvE n vs most
theorem zpo (n : Net) (vs : List Vr) (most : Int) : Pure P 58 [eN n, eL eVr vs, eI most] (eI (qgvE n vs most)) := by
 have hR : qgvE n vs most = if (wfB n && vvB vs) = false then 1 else if most < 1 ∨ 2000 < most then 2 else 0 := rfl
 generalize qgvE n vs most = R at hR ⊢
 have h1 := zh5 (P := P) n
 have h2 := z1k (P := P) vs
 generalize wfB n = b1 at h1 hR
 generalize vvB vs = b2 at h2 hR
 have hln : Lo 0 (.ref (eN n).cells) := .ref _ (lo_N n).cells
 refine zcu (by rw [IsP.eq (P := P)]; exact Tryz.func58) rfl rfl rfl rfl rfl (zaj (lo_N n) (zaj (zdv vs) (zaj (.s _) zar))) (.s _) (by simp only [argF]; rfl) ?_
 refine zaf (zab (zad rfl rfl (zaa rfl) (zbv rfl rfl rfl rfl) ?_))
 refine zau (zbk (id := 0) rfl) (zau (zch (d := 3) rfl rfl rfl) ?_)
 refine zac rfl (zae (zaf (zaq (zaf ?_))))
 cases b1 with
 | false =>
  refine zab (zbr ta24 ti24 rfl (zad rfl rfl (zaa rfl) (zai rfl rfl (h1) (zag rfl zam)) (zad rfl rfl (zaa rfl) (zay rfl rfl) (zac rfl (zat rfl (zat rfl (zat rfl (zac rfl (zac rfl (zae (zah (za0 rfl (zaf (zab (zac rfl (zae (zah ?_)))))))))))))))))
  (refine zav ?_; repeat (first | refine za6 ?_ | refine za7 ?_))
  exact zbj (.inr rfl) rfl (congrArg eI (hR.trans (if_pos rfl)).symm)
 | true =>
 cases b2 with
 | false =>
  refine zab (zbr ta24 ti24 rfl (zad rfl rfl (zaa rfl) (zai rfl rfl (h1) (zag rfl zam)) (zad rfl rfl (zaa rfl) (zay rfl rfl) (zac rfl (zac rfl (zad rfl rfl (zal rfl rfl rfl) (zai rfl rfl (h2) (zag rfl zam)) (zad rfl rfl (zal rfl rfl rfl) (zay rfl rfl) (zac rfl (zac rfl (zae (zah (za0 rfl (zaf (zab (zac rfl (zae (zah ?_)))))))))))))))))
  (refine zav ?_; repeat (first | refine za6 ?_ | refine za7 ?_))
  exact zbj (.inr rfl) rfl (congrArg eI (hR.trans (if_pos rfl)).symm)
 | true =>
 rw [if_neg (by decide)] at hR
 refine zab (zbr ta24 ti24 rfl (zad rfl rfl (zaa rfl) (zai rfl rfl (h1) (zag rfl zam)) (zad rfl rfl (zaa rfl) (zay rfl rfl) (zac rfl (zac rfl (zad rfl rfl (zal rfl rfl rfl) (zai rfl rfl (h2) (zag rfl zam)) (zad rfl rfl (zal rfl rfl rfl) (zay rfl rfl) (zac rfl (zac rfl (zae (zah (zax rfl (zaf (zab (zac rfl ?_)))))))))))))))
 refine zfo rfl rfl (zaa rfl) (zaz rfl rfl rfl) (fun h18 => ?_) (fun h18 => ?_)
 all_goals refine zac rfl ?_
 all_goals (first | refine zac rfl ?_ | refine zat rfl ?_)
 all_goals (first | refine zfo rfl rfl (zal rfl rfl rfl) (za5 rfl rfl rfl) (fun h21 => ?_) (fun h21 => ?_) | refine zat rfl ?_)
 all_goals refine zac rfl (zac rfl (zae (zah ?_)))
 all_goals (first | refine za0 rfl ?_ | refine zax rfl ?_)
 all_goals (repeat (first | refine zaf ?_ | refine zao ?_))
 all_goals first
  |
   refine zab (zac rfl (zae (zah ?_)))
   (refine zav ?_; repeat (first | refine za6 ?_ | refine za7 ?_))
   exact zbj (.inr rfl) rfl (congrArg eI (hR.trans (if_pos (by omega))).symm)
  | skip
 refine zab (zac rfl (zae (zah ?_)))
 (refine zav ?_; repeat (first | refine za6 ?_ | refine za7 ?_))
 exact zbj (.inr rfl) rfl (congrArg eI (hR.trans (if_neg (by omega))).symm)
theorem zwd (n : Net) (vs : List Vr) (most : Int) : Pure P 37 [eN n, eL eVr vs, eI most] (eI (qgvE n vs most)) := by
 have hR : qgvE n vs most = if (wfB n && vvB vs) = false then 1 else if most < 1 ∨ 2000 < most then 2 else 0 := rfl
 generalize qgvE n vs most = R at hR ⊢
 have h1 := zfv (P := P) n
 have h2 := zs9 (P := P) vs
 generalize wfB n = b1 at h1 hR
 generalize vvB vs = b2 at h2 hR
 have hln : Lo 0 (.ref (eN n).cells) := .ref _ (lo_N n).cells
 refine zcu (by rw [IsP.eq (P := P)]; exact Tryz.func37) rfl rfl rfl rfl rfl (zaj (lo_N n) (zaj (zdv vs) (zaj (.s _) zar))) (.s _) (by simp only [argF]; rfl) ?_
 refine zaf (zab (zad rfl rfl (zaa rfl) (zbv rfl rfl rfl rfl) ?_))
 refine zau (zbk (id := 0) rfl) (zau (zch (d := 3) rfl rfl rfl) ?_)
 refine zac rfl (zae (zaf (zaf ?_)))
 cases b1 with
 | false =>
  refine zab (zbr ta24 ti24 rfl (zad rfl rfl (zaa rfl) (zai rfl rfl (h1) (zag rfl zam)) (zad rfl rfl (zaa rfl) (zay rfl rfl) (zac rfl (zat rfl (zat rfl (zat rfl (zac rfl (zae (zah (za0 rfl (zaf (zab (zac rfl (zae (zah ?_))))))))))))))))
  (refine zav ?_; repeat (first | refine za6 ?_ | refine za7 ?_))
  exact zbj (.inr rfl) rfl (congrArg eI (hR.trans (if_pos rfl)).symm)
 | true =>
 cases b2 with
 | false =>
  refine zab (zbr ta24 ti24 rfl (zad rfl rfl (zaa rfl) (zai rfl rfl (h1) (zag rfl zam)) (zad rfl rfl (zaa rfl) (zay rfl rfl) (zac rfl (zac rfl (zad rfl rfl (zal rfl rfl rfl) (zai rfl rfl (h2) (zag rfl zam)) (zad rfl rfl (zal rfl rfl rfl) (zay rfl rfl) (zac rfl (zae (zah (za0 rfl (zaf (zab (zac rfl (zae (zah ?_))))))))))))))))
  (refine zav ?_; repeat (first | refine za6 ?_ | refine za7 ?_))
  exact zbj (.inr rfl) rfl (congrArg eI (hR.trans (if_pos rfl)).symm)
 | true =>
 rw [if_neg (by decide)] at hR
 refine zab (zbr ta24 ti24 rfl (zad rfl rfl (zaa rfl) (zai rfl rfl (h1) (zag rfl zam)) (zad rfl rfl (zaa rfl) (zay rfl rfl) (zac rfl (zac rfl (zad rfl rfl (zal rfl rfl rfl) (zai rfl rfl (h2) (zag rfl zam)) (zad rfl rfl (zal rfl rfl rfl) (zay rfl rfl) (zac rfl (zae (zah (zax rfl (zao (zaf (zaf (zab (zac rfl ?_))))))))))))))))
 refine zfo rfl rfl (zaa rfl) (zaz rfl rfl rfl) (fun h16 => ?_) (fun h16 => ?_)
 all_goals refine zac rfl ?_
 all_goals (first | refine zac rfl ?_ | refine zat rfl ?_)
 all_goals (first | refine zfo rfl rfl (zal rfl rfl rfl) (za5 rfl rfl rfl) (fun h19 => ?_) (fun h19 => ?_) | refine zat rfl ?_)
 all_goals refine zac rfl (zae (zah ?_))
 all_goals (first | refine za0 rfl ?_ | refine zax rfl ?_)
 all_goals (repeat (first | refine zaf ?_ | refine zao ?_))
 all_goals first
  |
   refine zab (zac rfl (zae (zah ?_)))
   (refine zav ?_; repeat (first | refine za6 ?_ | refine za7 ?_))
   exact zbj (.inr rfl) rfl (congrArg eI (hR.trans (if_pos (by omega))).symm)
  | skip
 refine zab (zac rfl (zae (zah ?_)))
 (refine zav ?_; repeat (first | refine za6 ?_ | refine za7 ?_))
 exact zbj (.inr rfl) rfl (congrArg eI (hR.trans (if_neg (by omega))).symm)
theorem zx5 (n : Net) (vs : List Vr) (c : Cst) (most : Int) : Pure P 32 [eN n, eL eVr vs, eC c, eI most] (eI (qcoE n vs c most)) := by
 have hR : qcoE n vs c most = if vcB c = false then 1 else qgvE n vs most := rfl
 generalize qcoE n vs c most = R at hR ⊢
 have h1 := zpo (P := P) n vs most
 have h2 := zil (P := P) c
 generalize qgvE n vs most = g at h1 hR
 generalize vcB c = b at h2 hR
 have hln : Lo 0 (.ref (eN n).cells) := .ref _ (lo_N n).cells
 have hlc : Lo 0 (.ref (eC c).cells) := .ref _ (lo_C c).cells
 refine zcu (by rw [IsP.eq (P := P)]; exact Tryz.func32) rfl rfl rfl rfl rfl (zaj (lo_N n) (zaj (zdv vs) (zaj (lo_C c) (zaj (.s _) zar)))) (.s _) (by simp only [argF]; rfl) ?_
 refine zaf (zab (zad rfl rfl (zaa rfl) (zbv rfl rfl rfl rfl) ?_))
 refine zau (zbk (id := 0) rfl) (zau (zch (d := 4) rfl rfl rfl) ?_)
 refine zad rfl rfl (zaa rfl) (zbv rfl rfl rfl rfl) ?_
 refine zau (zbk (id := 1) rfl) (zau (zch (d := 6) rfl rfl rfl) ?_)
 refine zac rfl (zae (zaf (zab (zbr ta24 ti24 rfl (zac rfl (zac rfl (zad rfl rfl (zaa rfl) (zai rfl rfl (h1) (zag rfl (zag rfl (zag rfl zam)))) (zac rfl (zae (zaf (zaf ?_)))))))))))
 by_cases hg : g = 1
 ·
  refine zab (zac rfl ?_)
  refine zad rfl rfl (zaa rfl) (zbi (fun h => h hg) (zbg rfl rfl rfl)) ?_
  refine zac rfl (zat rfl (zat rfl (zat rfl (zac rfl (zae (zah (zax rfl (zao (zaf (zab (zac rfl (zac rfl (zae (zah ?_))))))))))))))
  (refine zav ?_; repeat (first | refine za6 ?_ | refine za7 ?_))
  refine zbj (.inr rfl) rfl (congrArg eI ?_)
  rw [hR, hg]; split <;> rfl
 ·
  cases b with
  | false =>
   refine zab (zac rfl (zad rfl rfl (zaa rfl) (zbp hg (zbg rfl rfl rfl)) (zac rfl (zbr ta27 ti27 rfl (zad rfl rfl (zal rfl rfl rfl) (zai rfl rfl (h2) (zag rfl zam)) (zad rfl rfl (zal rfl rfl rfl) (zay rfl rfl) (zac rfl (zae (zah (za0 rfl (zaf (zab (zac rfl (zae (zah ?_)))))))))))))))
   (refine zav ?_; repeat (first | refine za6 ?_ | refine za7 ?_))
   exact zbj (.inr rfl) rfl (congrArg eI (hR.trans (if_pos rfl)).symm)
  | true =>
   refine zab (zac rfl (zad rfl rfl (zaa rfl) (zbp hg (zbg rfl rfl rfl)) (zac rfl (zbr ta27 ti27 rfl (zad rfl rfl (zal rfl rfl rfl) (zai rfl rfl (h2) (zag rfl zam)) (zad rfl rfl (zal rfl rfl rfl) (zay rfl rfl) (zac rfl (zae (zah (zax rfl (zao (zaf (zab (zac rfl (zac rfl (zae (zah ?_)))))))))))))))))
   (refine zav ?_; repeat (first | refine za6 ?_ | refine za7 ?_))
   exact zbj (.inr rfl) rfl (congrArg eI (hR.trans (if_neg (by decide))).symm)
noncomputable def qFitE (n : Net) (vs : List Vr) (c : Cst) (most : Int) : FE :=
 if qcoE n vs c most ≠ 0 then ⟨0, 0, qcoE n vs c most⟩ else if (zdc n c most vs 0 0).2.2 ≠ 0 then ⟨0, 0, (zdc n c most vs 0 0).2.2⟩
 else if (zdc n c most vs 0 0).2.1 = 0 then ⟨0, 0, 10⟩ else zcy ((zdc n c most vs 0 0).2.1 - (zdc n c most vs 0 0).1) (zdc n c most vs 0 0).2.1
theorem zpn {n : Net} {vs : List Vr} {c : Cst} {most : Int} (h : qcoE n vs c most = 0) : vcB c = true ∧ qgvE n vs most = 0 ∧ wfB n = true ∧ vvB vs = true ∧ 1 ≤ most ∧ most ≤ 2000 := by
 unfold qcoE at h
 by_cases hc : vcB c = false
 ·
  rw [if_pos hc] at h; cases h
 ·
  rw [if_neg hc] at h
  have h2 := h
  unfold qgvE at h
  by_cases hb : (wfB n && vvB vs) = false
  ·
   rw [if_pos hb] at h; cases h
  ·
   rw [if_neg hb] at h
   by_cases hm : most < 1 ∨ 2000 < most
   ·
    rw [if_pos hm] at h; cases h
   ·
    have hbt : (wfB n && vvB vs) = true := by cases hx : (wfB n && vvB vs) with | true => rfl | false => exact absurd hx hb
    rw [Bool.and_eq_true] at hbt
    exact ⟨by cases hv : vcB c with | true => rfl | false => exact absurd hv hc, h2, hbt.1, hbt.2, by omega, by omega⟩
theorem ztu (n : Net) (c : Cst) (most : Int) : ∀ (vs : List Vr) (a b : Int) (i : Nat), (∀ v ∈ vs, okV v = true) → (0 ≤ a ∧ a ≤ 2306867200000 * i) → (0 ≤ b ∧ b ≤ 2306867200000 * i) →
  (0 ≤ (zdc n c most vs a b).1 ∧ (zdc n c most vs a b).1 ≤ 2306867200000 * ((i + vs.length : Nat) : Int)) ∧ (0 ≤ (zdc n c most vs a b).2.1 ∧ (zdc n c most vs a b).2.1 ≤ 2306867200000 * ((i + vs.length : Nat) : Int))
 | [], a, b, i, _, ha, hb => ⟨ha, hb⟩
 | v :: vs, a, b, i, hv, ha, hb => by
  unfold zdc
  have hok := hv v (by simp)
  unfold okV at hok
  simp only [Bool.and_eq_true, decide_eq_true_eq] at hok
  split
  ·
   constructor <;> (constructor <;> (try dsimp only) <;> omega)
  ·
   split
   ·
    constructor <;> (constructor <;> (try dsimp only) <;> omega)
   ·
    obtain ⟨_, _, h3, h4⟩ := zts (i := i) ⟨hok.2.2.1, hok.2.2.2⟩ (zga n v.acts c most) (zkv n v.acts c most) ha hb
    have := ztu n c most vs _ _ (i + 1) (fun u hu => hv u (by simp [hu])) h3 h4
    rw [List.length_cons, show i + (vs.length + 1) = i + 1 + vs.length by omega]
    exact this
theorem zgo {F : Frm} {σ : List Ob} {ad u : Nat} {id : Nat} {ob : Ob} {cs : List AV} {e1 y : AV} {r : FE} {e : Exit} (he : e = .normal ∨ e = .ret) (hp : F.get ad = .ptr id 2 0 0) (hs : σ[id]? = some ob) (ho : zfs ob = some (2, cs)) (hk : cs[0]? = some e1) (hn : e1.cells = [eI r.n, eI r.d]) (hu : F.get u = y) (hy : y = eI r.e) : zmq P [.cell ad 32, .tmp u] (eFE r) e F σ := by
 refine z16 he ta32 ti32 hp hs ho hk (by rw [hn]; rfl) hu ?_
 rw [hn, hy]; rfl
end Go.Proofs.YtohmldibkojkfaaGreatDoor.Aw
end
section
namespace Go.Proofs.YtohmldibkojkfaaGreatDoor.Aw
open Go Go.RowKit Go.Proofs Dl
variable {P : Program} [IsP P]
def zFA : AV := .agg [eI 0, eI 0]
theorem zoy : ∀ e ∈ [zFA], ∀ c ∈ e.cells, Lo 0 c := by
 intro e he c hc
 simp at he; subst he
 simp [zFA, AV.cells] at hc; subst hc; exact .s _
theorem z2m {k : Nat} (r : FE) : Lo k (eFE r) := .tup _ (zaj (.agg _ (zaj (.s _) (zaj (.s _) zar))) (zaj (.s _) zar))
theorem fit_ar {n : Net} {c : Cst} {most : Int} {v : Vr} (hv : okV v = true) {a b : Int} {i : Nat} (hi : i ≤ 300) (ha : 0 ≤ a ∧ a ≤ 2306867200000 * i) (hb : 0 ≤ b ∧ b ≤ 2306867200000 * i) :
  IntKind.i64.wrap (v.cnt * (zb5 n v.acts c most).1) = v.cnt * (zb5 n v.acts c most).1 ∧ IntKind.i64.wrap (a + v.cnt * (zb5 n v.acts c most).1) = a + v.cnt * (zb5 n v.acts c most).1 ∧
  IntKind.i64.wrap (v.cnt * (zcs n v.acts c most).1) = v.cnt * (zcs n v.acts c most).1 ∧ IntKind.i64.wrap (b + v.cnt * (zcs n v.acts c most).1) = b + v.cnt * (zcs n v.acts c most).1 ∧
  (0 ≤ a + v.cnt * (zb5 n v.acts c most).1 ∧ a + v.cnt * (zb5 n v.acts c most).1 ≤ 2306867200000 * ((i + 1 : Nat) : Int)) ∧ (0 ≤ b + v.cnt * (zcs n v.acts c most).1 ∧ b + v.cnt * (zcs n v.acts c most).1 ≤ 2306867200000 * ((i + 1 : Nat) : Int)) := by
 unfold okV at hv
 simp only [Bool.and_eq_true, decide_eq_true_eq] at hv
 obtain ⟨h1, h2, h3, h4⟩ := zts (i := i) ⟨hv.2.2.1, hv.2.2.2⟩ (zga n v.acts c most) (zkv n v.acts c most) ha hb
 exact ⟨IntWalk.i64_in _ (by omega), IntWalk.i64_in _ (by omega), IntWalk.i64_in _ (by omega), IntWalk.i64_in _ (by omega), h3, h4⟩
set_option maxHeartbeats 4000000 in
theorem ztt (n : Net) (vs : List Vr) (c : Cst) (most : Int) : Pure P 11 [eN n, eL eVr vs, eC c, eI most] (eFE (qFitE n vs c most)) := by
 have hR : qFitE n vs c most = if qcoE n vs c most ≠ 0 then ⟨0, 0, qcoE n vs c most⟩ else if (zdc n c most vs 0 0).2.2 ≠ 0 then ⟨0, 0, (zdc n c most vs 0 0).2.2⟩
  else if (zdc n c most vs 0 0).2.1 = 0 then ⟨0, 0, 10⟩ else zcy ((zdc n c most vs 0 0).2.1 - (zdc n c most vs 0 0).1) (zdc n c most vs 0 0).2.1 := rfl
 generalize qFitE n vs c most = R at hR ⊢
 have hco := zx5 (P := P) n vs c most
 have hqok := @zpn n vs c most
 generalize qcoE n vs c most = g at hco hR hqok
 have hln : Lo 0 (.ref (eN n).cells) := .ref _ (lo_N n).cells
 have hlc : Lo 0 (.ref (eC c).cells) := .ref _ (lo_C c).cells
 refine zcu (by rw [IsP.eq (P := P)]; exact Tryz.func11) rfl rfl rfl rfl rfl (zaj (lo_N n) (zaj (zdv vs) (zaj (lo_C c) (zaj (.s _) zar)))) (z2m _) (by simp only [argF]; rfl) ?_
 refine zaf (zab (zad rfl rfl (zaa rfl) (zbv rfl rfl rfl rfl) ?_))
 refine zau (zbk (id := 0) rfl) (zau (zch (d := 4) rfl rfl rfl) ?_)
 refine zad rfl rfl (zaa rfl) (zbv rfl rfl rfl rfl) ?_
 refine zau (zbk (id := 1) rfl) (zau (zch (d := 6) rfl rfl rfl) ?_)
 refine zad rfl rfl (zaa rfl) (zbw rfl ti32 rfl rfl) (zac rfl (zae (zaf (zaf (zab (zbr ta24 ti24 rfl (zac rfl (zbr ta27 ti27 rfl (zac rfl (zad rfl rfl (zaa rfl) (zai rfl rfl (hco) (zag rfl (zag rfl (zag rfl (zag rfl zam))))) (zac rfl (zae (zaf ?_)))))))))))))
 by_cases hg : g ≠ 0
 ·
  rw [if_pos hg] at hR
  refine zab (zac rfl (zad rfl rfl (zaa rfl) (zbp hg (zbg rfl rfl rfl)) (zae (zah (za0 rfl (zaf (zab (zad rfl rfl (zaa rfl) (zbf rfl ti32 tp32 rfl rfl) (zac rfl (zcg rfl (zaa rfl) (za8 rfl ti32 rfl rfl rfl rfl rfl rfl (by decide) (by decide)) (zac rfl (zae (zah ?_)))))))))))))
  (refine zav ?_; repeat (first | refine za6 ?_ | refine za7 ?_))
  subst hR
  exact zgo (.inr rfl) rfl rfl rfl rfl rfl rfl rfl
 rw [if_neg hg] at hR
 have hg0 : g = 0 := Classical.byContradiction hg
 obtain ⟨hvc, -, hwf, hvv, hm1, hm2⟩ := hqok hg0
 have hlen : vs.length ≤ 300 := by unfold vvB at hvv; simp only [Bool.and_eq_true, decide_eq_true_eq] at hvv; exact hvv.1
 have hokv : ∀ i, i < vs.length → okV (gti vs i) = true := fun i hi => z0j hvv hi
 have hokm : ∀ v ∈ vs, okV v = true := fun v hv => by
  obtain ⟨i, hi, rfl⟩ := List.mem_iff_getElem.1 hv
  have := hokv i hi
  rwa [show gti vs i = vs[i] from zed (List.getElem?_eq_getElem hi)] at this
 refine zab (zac rfl (zad rfl rfl (zaa rfl) (zbi hg (zbg rfl rfl rfl)) (zae (zah (zax rfl (zao (zaf (zab (zac rfl (zac rfl (zae (zaf (zaf (zab (zac rfl (zad rfl rfl (zaa rfl) (zak rfl ts25 rfl) (zac rfl (zae (zah (zaq ?_))))))))))))))))))))
 obtain ⟨G, hG⟩ : ∃ G, zdc n c most vs 0 0 = G := ⟨_, rfl⟩
 rw [hG] at hR
 refine zcd (S := Nat × Int × Int) (fun p => [(1, eL eVr vs), (3, eI most), (4, .ref (eN n).cells), (6, .ref (eC c).cells), (8, .ptr 0 2 0 0), (9, eI 0), (11, eI p.2.1), (12, eI p.2.2), (27, eL eVr vs), (28, eI vs.length), (29, eI p.1)]) (fun _ => [.row 2 [zFA]]) (fun p => p.1 ≤ vs.length ∧ zdc n c most (vs.drop p.1) p.2.1 p.2.2 = G ∧ (0 ≤ p.2.1 ∧ p.2.1 ≤ 2306867200000 * (p.1 : Int)) ∧ (0 ≤ p.2.2 ∧ p.2.2 ≤ 2306867200000 * (p.1 : Int))) (fun p => vs.length - p.1) (0, 0, 0)
  (zc3 [2] (by decide) ⟨⟨_, rfl, .rowE zoy rfl⟩, trivial⟩ ⟨.lo _ (zdv vs), .lo _ (.s _), .lo _ hln, .lo _ hlc, .ptr 2 0 2 0 0 rfl, .lo _ (.s _), .lo _ (.s _), .lo _ (.s _), .lo _ (zdv vs), .lo _ (.s _), .lo _ (.s _), trivial⟩) ⟨Nat.zero_le _, hG, by show (0 : Int) ≤ 0 ∧ (0 : Int) ≤ 2306867200000 * 0; decide, by show (0 : Int) ≤ 0 ∧ (0 : Int) ≤ 2306867200000 * 0; decide⟩ (fun p hp => ?_)
 obtain ⟨k, a, b⟩ := p
 obtain ⟨hk, hgo, ha, hb⟩ := hp
 replace hk : k ≤ vs.length := hk
 replace hgo : zdc n c most (vs.drop k) a b = G := hgo
 replace ha : 0 ≤ a ∧ a ≤ 2306867200000 * (k : Int) := ha
 replace hb : 0 ≤ b ∧ b ≤ 2306867200000 * (k : Int) := hb
 by_cases hlt : k < vs.length
 rotate_left 1
 ·
  have e : k = vs.length := by omega
  subst e
  rw [List.drop_length] at hgo
  replace hgo : (a, b, 0) = G := hgo
  rw [← hgo, if_neg (fun h => h rfl)] at hR
  refine zaf (zab (zad rfl rfl (zaa rfl) (zbi (by omega) (zaz rfl rfl rfl)) (zae (zaf (zax rfl ?_)))))
  (refine zb1 ?_; repeat (first | refine zcx ?_ | refine zbs ?_ | refine zbe rfl ?_ | refine zb3 ?_ | refine zah ?_ | refine zaf ?_ | refine zao ?_ | refine zaq ?_))
  by_cases hb0 : b = 0
  ·
   rw [if_pos hb0] at hR
   refine zab (zac rfl (zad rfl rfl (zaa rfl) (zbp hb0 (zcc rfl rfl rfl)) (zae (zah (za0 rfl (zaf (zab (zad rfl rfl (zaa rfl) (zbf rfl ti32 tp32 rfl rfl) (zcg rfl (zaa rfl) (za8 rfl ti32 rfl rfl rfl rfl rfl rfl (by decide) (by decide)) (zac rfl (zae (zah ?_))))))))))))
   (refine zav ?_; repeat (first | refine za6 ?_ | refine za7 ?_))
   subst hR
   exact zgo (.inr rfl) rfl rfl rfl rfl rfl rfl rfl
  ·
   rw [if_neg hb0] at hR
   have hmk := ztv (P := P) (b - a) b (by omega) (by omega)
   dsimp only at hR
   have hsub : IntKind.i64.wrap (b - a) = b - a := IntWalk.i64_in _ (by omega)
   rw [← hR] at hmk
   refine zab (zac rfl (zad rfl rfl (zaa rfl) (zbi hb0 (zcc rfl rfl rfl)) (zae (zah (zax rfl (zao (zaf (zab (zac rfl (zac rfl (zad rfl rfl (zaa rfl) (zeu rfl rfl rfl hsub) (zac rfl (zad rfl rfl (zaa rfl) (zai rfl rfl (hmk) (zag rfl (zag rfl zam))) (zac rfl (zac rfl (zcg rfl (zaa rfl) (za8 rfl ti32 rfl rfl rfl rfl rfl rfl (by decide) (by decide)) (zac rfl (zae (zah ?_)))))))))))))))))))
   (refine zav ?_; repeat (first | refine za6 ?_ | refine za7 ?_))
   exact zgo (.inr rfl) rfl rfl rfl rfl rfl rfl rfl
 have hix : (vs.map eVr)[k]? = some (eVr (gti vs k)) := zbz hlt
 have hL := ztg (P := P) n (gti vs k).acts c most
 have hW := zyk (P := P) n (gti vs k).acts c most
 have har := fit_ar (n := n) (c := c) (most := most) (hokv k hlt) (i := k) (by omega) ha hb
 rw [zco hlt] at hgo
 unfold zdc at hgo
 generalize gti vs k = v at hix hL hW har hgo
 obtain ⟨acts, cnt⟩ := v
 dsimp only at hL hW har hgo
 replace hix : (vs.map eVr)[k]? = some (aVr acts cnt) := hix
 generalize zb5 n acts c most = l1 at hL har hgo
 generalize zcs n acts c most = l2 at hW har hgo
 obtain ⟨x, ex⟩ := l1
 obtain ⟨y, ey⟩ := l2
 dsimp only at har hgo
 obtain ⟨g1, g2, g3, g4, g5, g6⟩ := har
 have hlv : Lo 0 (.ref (aVr acts cnt).cells) := .ref _ (zrq ⟨acts, cnt⟩).cells
 refine zaf (zab (zad rfl rfl (zaa rfl) (zbp (by omega) (zaz rfl rfl rfl)) (zae (zaf (za0 rfl (zao (zaf (zaq (zaf (zab (zad rfl rfl (zaa rfl) (zan rfl ts25 ti46 rfl rfl rfl hix rfl) (zbr ta46 ti46 rfl (zad rfl rfl (zaa rfl) (zbw rfl ti46 rfl rfl) (zcg rfl (zaa rfl) (za8 rfl ti46 rfl rfl rfl rfl rfl rfl (by decide) (by decide)) (zae (zaf ?_))))))))))))))))
 refine zbd (zbk (id := 1) rfl) ?_
 refine zbd (zch (d := 14) rfl rfl rfl) ?_
 refine zbd (zc3 (σ' := [.row 2 [zFA]]) [0] (by decide) ⟨⟨_, rfl, .rowE zoy rfl⟩, trivial⟩ (F' := [(1, eL eVr vs), (3, eI most), (4, .ref (eN n).cells), (6, .ref (eC c).cells), (8, .ptr 0 2 0 0), (9, eI 0), (11, eI a), (12, eI b), (27, eL eVr vs), (28, eI vs.length), (29, eI k), (14, .ref (aVr acts cnt).cells)]) ⟨.lo _ (zdv vs), .lo _ (.s _), .lo _ hln, .lo _ hlc,   .ptr 0 0 2 0 0 rfl, .lo _ (.s _), .lo _ (.s _), .lo _ (.s _), .lo _ (zdv vs), .lo _ (.s _), .lo _ (.s _), .lo _ hlv, trivial⟩) ?_
 refine zab (zbr ta24 ti24 rfl (zbh zcm rfl (zbl ta44 rfl (zbr ta27 ti27 rfl (zac rfl (zad rfl rfl (zaa rfl) (zai rfl rfl (hL) (zag rfl (zag rfl (zag rfl (zag rfl zam))))) (zac rfl (zac rfl (zac rfl (zac rfl (zac rfl (zae (zaf (zaf ?_))))))))))))))
 by_cases he : ex ≠ 0
 ·
  rw [if_pos he] at hgo
  rw [← hgo, if_pos he] at hR
  refine zab (zac rfl (zad rfl rfl (zaa rfl) (zbp he (zbg rfl rfl rfl)) (zae (zah (za0 rfl (zaf (zab (zad rfl rfl (zaa rfl) (zbf rfl ti32 tp32 rfl rfl) (zac rfl (zcg rfl (zaa rfl) (za8 rfl ti32 rfl rfl rfl rfl rfl rfl (by decide) (by decide)) (zac rfl (zae (zah ?_)))))))))))))
  (refine zav ?_; repeat (first | refine za6 ?_ | refine za7 ?_))
  subst hR
  exact zgo (.inr rfl) rfl rfl rfl rfl rfl rfl rfl
 rw [if_neg he] at hgo
 refine zab (zac rfl (zad rfl rfl (zaa rfl) (zbi he (zbg rfl rfl rfl)) (zae (zah (zax rfl (zao (zaf (zab (zbr ta24 ti24 rfl (zbh zcm rfl (zbl ta44 rfl (zbr ta27 ti27 rfl (zac rfl (zad rfl rfl (zaa rfl) (zai rfl rfl (hW) (zag rfl (zag rfl (zag rfl (zag rfl zam))))) (zac rfl (zac rfl (zac rfl (zac rfl (zac rfl (zae (zaf (zaf ?_))))))))))))))))))))))
 by_cases he2 : ey ≠ 0
 ·
  rw [if_pos he2] at hgo
  rw [← hgo, if_pos he2] at hR
  refine zab (zac rfl (zad rfl rfl (zaa rfl) (zbp he2 (zbg rfl rfl rfl)) (zae (zah (za0 rfl (zaf (zab (zad rfl rfl (zaa rfl) (zbf rfl ti32 tp32 rfl rfl) (zac rfl (zcg rfl (zaa rfl) (za8 rfl ti32 rfl rfl rfl rfl rfl rfl (by decide) (by decide)) (zac rfl (zae (zah ?_)))))))))))))
  (refine zav ?_; repeat (first | refine za6 ?_ | refine za7 ?_))
  subst hR
  exact zgo (.inr rfl) rfl rfl rfl rfl rfl rfl rfl
 rw [if_neg he2] at hgo
 refine zab (zac rfl (zad rfl rfl (zaa rfl) (zbi he2 (zbg rfl rfl rfl)) (zae (zah (zax rfl (zao (zaf (zab (zac rfl (zbh zex rfl (zbl ta3 rfl (zac rfl (zad rfl rfl (zaa rfl) (zkq rfl rfl rfl g1) (zad rfl rfl (zaa rfl) (za4 rfl rfl rfl g2) (zac rfl (zae (zah (zab (zac rfl (zbh zex rfl (zbl ta3 rfl (zac rfl (zad rfl rfl (zaa rfl) (zkq rfl rfl rfl g3) (zad rfl rfl (zaa rfl) (za4 rfl rfl rfl g4) (zac rfl (zae (zb3 (zah (zab ?_)))))))))))))))))))))))))))))
 refine zad rfl rfl (zaa rfl) (za4 rfl rfl rfl (IntWalk.i64_in _ (by omega))) (zac rfl (zae (zah ?_)))
 exact ⟨(k + 1, a + cnt * x, b + cnt * y), ⟨by show k + 1 ≤ vs.length; omega, hgo, g5, g6⟩, by show vs.length - (k + 1) < vs.length - k; omega, zbx _ ⟨rfl, rfl, rfl, rfl, rfl, rfl, rfl, rfl, rfl, rfl, rfl, trivial⟩⟩
end Go.Proofs.YtohmldibkojkfaaGreatDoor.Aw
end
section
namespace Go.Proofs.YtohmldibkojkfaaGreatDoor.Aw
open Go Go.RowKit Go.Proofs Dl
variable {P : Program} [IsP P]
end Go.Proofs.YtohmldibkojkfaaGreatDoor.Aw
end
section
namespace Go.Proofs.YtohmldibkojkfaaGreatDoor.Aw
open Go Go.RowKit Go.Proofs Dl
variable {P : Program} [IsP P]
def zgg : List Tr → Int
 | [] => 0
 | t :: l => (t.inn.length : Int) + t.out.length + zgg l
noncomputable def simE (n : Net) : FE := if wfB n = false then ⟨0, 0, 1⟩ else zcy (n.places + n.trans.length) (n.places + n.trans.length + zgg n.trans)
theorem zmb : ∀ (l : List Tr), (∀ t ∈ l, t.inn.length ≤ 40 ∧ t.out.length ≤ 40) → 0 ≤ zgg l ∧ zgg l ≤ 80 * l.length
 | [], _ => ⟨Int.le_refl _, by simp [zgg]⟩
 | t :: l, h => by
  have h1 := h t (by simp)
  have h2 := zmb l fun u hu => h u (by simp [hu])
  unfold zgg
  rw [List.length_cons]
  omega
theorem z0p {n : Net} (h : wfB n = true) : (1 ≤ n.places ∧ n.places ≤ 40 ∧ n.trans.length ≤ 60) ∧ ∀ i, i < n.trans.length → (gti n.trans i).inn.length ≤ 40 ∧ (gti n.trans i).out.length ≤ 40 := by
 have hv := (zvf h).valid
 refine ⟨?_, fun i hi => ⟨(zkc hv hi).2.2.1, (zkc hv hi).2.2.2⟩⟩
 exact zbo hv
theorem zkp {l : List Tr} {B : Nat} (h : ∀ i, i < l.length → (gti l i).inn.length ≤ B ∧ (gti l i).out.length ≤ B) (k : Nat) : ∀ t ∈ l.drop k, t.inn.length ≤ B ∧ t.out.length ≤ B := fun t ht => by
 obtain ⟨i, hi, rfl⟩ := List.mem_iff_getElem.1 (List.mem_of_mem_drop ht)
 have := h i hi
 rwa [show gti l i = l[i] from zed (List.getElem?_eq_getElem hi)] at this
theorem z0q (n : Net) : Pure P 22 [eN n] (eFE (simE n)) := by
 have hR : simE n = if wfB n = false then ⟨0, 0, 1⟩ else zcy (n.places + n.trans.length) (n.places + n.trans.length + zgg n.trans) := rfl
 generalize simE n = R at hR ⊢
 have hw := zh5 (P := P) n
 have hsw := @z0p n
 generalize wfB n = b at hw hR hsw
 have hln : Lo 0 (.ref (eN n).cells) := .ref _ (lo_N n).cells
 refine zcu (by rw [IsP.eq (P := P)]; exact Tryz.func22) rfl rfl rfl rfl rfl (zaj (lo_N n) zar) (z2m _) (by simp only [argF]; rfl) ?_
 refine zaf (zab (zad rfl rfl (zaa rfl) (zbv rfl rfl rfl rfl) ?_))
 refine zau (zbk (id := 0) rfl) (zau (zch (d := 1) rfl rfl rfl) ?_)
 refine zad rfl rfl (zaa rfl) (zbw rfl ti32 rfl rfl) (zac rfl (zae (zaf (zaf ?_))))
 cases b with
 | false =>
  rw [if_pos rfl] at hR
  refine zab (zbr ta24 ti24 rfl (zad rfl rfl (zaa rfl) (zai rfl rfl (hw) (zag rfl zam)) (zad rfl rfl (zaa rfl) (zay rfl rfl) (zae (zah (za0 rfl (zaf (zab (zad rfl rfl (zaa rfl) (zbf rfl ti32 tp32 rfl rfl) (zcg rfl (zaa rfl) (za8 rfl ti32 rfl rfl rfl rfl rfl rfl (by decide) (by decide)) (zac rfl (zae (zah ?_)))))))))))))
  (refine zav ?_; repeat (first | refine za6 ?_ | refine za7 ?_))
  subst hR
  exact zgo (.inr rfl) rfl rfl rfl rfl rfl rfl rfl
 | true =>
 rw [if_neg (by decide)] at hR
 obtain ⟨⟨hp1, hp2, hp3⟩, htr⟩ := hsw rfl
 have hbd := zmb n.trans (by simpa using zkp htr 0)
 obtain ⟨A, hA0⟩ : ∃ A, zgg n.trans = A := ⟨_, rfl⟩
 rw [hA0] at hR hbd
 refine zab (zbr ta24 ti24 rfl (zad rfl rfl (zaa rfl) (zai rfl rfl (hw) (zag rfl zam)) (zad rfl rfl (zaa rfl) (zay rfl rfl) (zae (zah (zax rfl (zao (zaf (zab (zbh zkz rfl (zbl ta3 rfl (zbh zc7 rfl (zbl ta22 rfl (zad rfl rfl (zaa rfl) (zak rfl ts22 rfl) (zad rfl rfl (zaa rfl) (za4 rfl rfl rfl (IntWalk.i64_in _ (by omega))) (zac rfl (zac rfl (zae (zaf (zaf (zab (zbh zc7 rfl (zbl ta22 rfl (zad rfl rfl (zaa rfl) (zak rfl ts22 rfl) ?_))))))))))))))))))))))))
 refine zac rfl (zae (zah (zaq ?_)))
 refine zcd (S := Nat × Int) (fun p => [(1, .ref (eN n).cells), (2, .ptr 0 2 0 0), (3, eI 0), (4, eI (n.places + n.trans.length)), (5, eI p.2), (19, eL eT n.trans), (20, eI n.trans.length), (21, eI p.1)]) (fun _ => [.row 2 [zFA]]) (fun p => p.1 ≤ n.trans.length ∧ p.2 + zgg (n.trans.drop p.1) = A ∧ 0 ≤ p.2) (fun p => n.trans.length - p.1) (0, 0)
  (zc3 [1] (by decide) ⟨⟨_, rfl, .rowE zoy rfl⟩, trivial⟩ ⟨.lo _ hln, .ptr 1 0 2 0 0 rfl, .lo _ (.s _), .lo _ (.s _), .lo _ (.s _), .lo _ (za1 fun t => lo_T t), .lo _ (.s _), .lo _ (.s _), trivial⟩) ⟨Nat.zero_le _, by show 0 + zgg n.trans = A; omega, Int.le_refl _⟩ (fun p hp => ?_)
 obtain ⟨k, a⟩ := p
 obtain ⟨hk, hA, ha⟩ := hp
 replace hk : k ≤ n.trans.length := hk
 replace hA : a + zgg (n.trans.drop k) = A := hA
 replace ha : 0 ≤ a := ha
 by_cases hlt : k < n.trans.length
 rotate_left 1
 ·
  have e : k = n.trans.length := by omega
  subst e
  rw [List.drop_length] at hA
  replace hA : a + 0 = A := hA
  have hmk := ztv (P := P) (n.places + n.trans.length) (n.places + n.trans.length + a) (by omega) (by omega)
  rw [show a = A by omega, ← hR] at hmk
  rw [show a = A by omega]
  refine zaf (zab (zad rfl rfl (zaa rfl) (zbi (by omega) (zaz rfl rfl rfl)) (zae (zaf (zax rfl ?_)))))
  (refine zb1 ?_; repeat (first | refine zcx ?_ | refine zbs ?_ | refine zbe rfl ?_ | refine zb3 ?_ | refine zah ?_ | refine zaf ?_ | refine zao ?_ | refine zaq ?_))
  refine zab (zac rfl (zac rfl (zac rfl (zad rfl rfl (zaa rfl) (za4 rfl rfl rfl (IntWalk.i64_in _ (by omega))) (zad rfl rfl (zaa rfl) (zai rfl rfl (hmk) (zag rfl (zag rfl zam))) (zac rfl (zac rfl (zcg rfl (zaa rfl) (za8 rfl ti32 rfl rfl rfl rfl rfl rfl (by decide) (by decide)) (zac rfl (zae (zah ?_)))))))))))
  (refine zav ?_; repeat (first | refine za6 ?_ | refine za7 ?_))
  exact zgo (.inr rfl) rfl rfl rfl rfl rfl rfl rfl
 have hbt := htr k hlt
 have hbr := zmb (n.trans.drop (k + 1)) (zkp htr (k + 1))
 rw [zco hlt, zgg] at hA
 have hix : (n.trans.map eT)[k]? = some (eT (gti n.trans k)) := zbz hlt
 generalize gti n.trans k = t at hix hA hbt
 have hlt2 : Lo 0 (.ref (eT t).cells) := .ref _ (lo_T t).cells
 refine zaf (zab (zad rfl rfl (zaa rfl) (zbp (by omega) (zaz rfl rfl rfl)) (zae (zaf (za0 rfl (zao (zaf (zaq (zaf (zab (zad rfl rfl (zaa rfl) (zan rfl ts22 ti65 rfl rfl rfl hix rfl) (zbr ta65 ti65 rfl (zad rfl rfl (zaa rfl) (zbw rfl ti65 rfl rfl) (zcg rfl (zaa rfl) (za8 rfl ti65 rfl rfl rfl rfl rfl rfl (by decide) (by decide)) (zae (zah ?_))))))))))))))))
 refine zbd (zbk (id := 1) rfl) ?_
 refine zbd (zch (d := 7) rfl rfl rfl) ?_
 refine zab (zac rfl (zbh zfu rfl (zbl ta48 rfl (zad rfl rfl (zaa rfl) (zak rfl ts48 rfl) (zbh zfk rfl (zbl ta48 rfl (zad rfl rfl (zaa rfl) (zak rfl ts48 rfl) (zad rfl rfl (zaa rfl) (za4 rfl rfl rfl (IntWalk.i64_in _ (by omega))) (zad rfl rfl (zaa rfl) (za4 rfl rfl rfl (IntWalk.i64_in _ (by omega))) (zac rfl (zae (zb3 (zah (zab (zad rfl rfl (zaa rfl) (za4 rfl rfl rfl (IntWalk.i64_in _ (by omega))) (zac rfl (zae (zah ?_))))))))))))))))))
 exact ⟨(k + 1, a + ((t.inn.length : Int) + t.out.length)), ⟨by show k + 1 ≤ n.trans.length; omega, by show a + ((t.inn.length : Int) + t.out.length) + zgg (n.trans.drop (k + 1)) = A; omega, by show (0 : Int) ≤ _; omega⟩, by show n.trans.length - (k + 1) < n.trans.length - k; omega, zc3 [0] (by decide) ⟨⟨_, rfl, .rowE zoy rfl⟩, trivial⟩ ⟨.lo _ hln, .ptr 0 0 2 0 0 rfl, .lo _ (.s _), .lo _ (.s _), .lo _ (.s _), .lo _ (za1 fun t => lo_T t), .lo _ (.s _), .lo _ (.s _), trivial⟩⟩
theorem z13 (n : Net) : Pure P 23 [eN n] (eFE (simE n)) := by
 have hR : simE n = if wfB n = false then ⟨0, 0, 1⟩ else zcy (n.places + n.trans.length) (n.places + n.trans.length + zgg n.trans) := rfl
 generalize simE n = R at hR ⊢
 have hw := zfv (P := P) n
 have hsw := @z0p n
 generalize wfB n = b at hw hR hsw
 have hln : Lo 0 (.ref (eN n).cells) := .ref _ (lo_N n).cells
 refine zcu (by rw [IsP.eq (P := P)]; exact Tryz.func23) rfl rfl rfl rfl rfl (zaj (lo_N n) zar) (z2m _) (by simp only [argF]; rfl) ?_
 refine zaf (zab (zad rfl rfl (zaa rfl) (zbv rfl rfl rfl rfl) ?_))
 refine zau (zbk (id := 0) rfl) (zau (zch (d := 1) rfl rfl rfl) ?_)
 refine zad rfl rfl (zaa rfl) (zbw rfl ti32 rfl rfl) (zac rfl (zae (zaf (zaf ?_))))
 cases b with
 | false =>
  rw [if_pos rfl] at hR
  refine zab (zbr ta24 ti24 rfl (zad rfl rfl (zaa rfl) (zai rfl rfl (hw) (zag rfl zam)) (zad rfl rfl (zaa rfl) (zay rfl rfl) (zae (zah (za0 rfl (zaf (zab (zad rfl rfl (zaa rfl) (zbf rfl ti32 tp32 rfl rfl) (zcg rfl (zaa rfl) (za8 rfl ti32 rfl rfl rfl rfl rfl rfl (by decide) (by decide)) (zac rfl (zae (zah ?_)))))))))))))
  (refine zav ?_; repeat (first | refine za6 ?_ | refine za7 ?_))
  subst hR
  exact zgo (.inr rfl) rfl rfl rfl rfl rfl rfl rfl
 | true =>
 rw [if_neg (by decide)] at hR
 obtain ⟨⟨hp1, hp2, hp3⟩, htr⟩ := hsw rfl
 have hbd := zmb n.trans (by simpa using zkp htr 0)
 obtain ⟨A, hA0⟩ : ∃ A, zgg n.trans = A := ⟨_, rfl⟩
 rw [hA0] at hR hbd
 refine zab (zbr ta24 ti24 rfl (zad rfl rfl (zaa rfl) (zai rfl rfl (hw) (zag rfl zam)) (zad rfl rfl (zaa rfl) (zay rfl rfl) (zae (zah (zax rfl (zao (zaf (zab (zbh zkz rfl (zbl ta3 rfl (zbh zc7 rfl (zbl ta22 rfl (zad rfl rfl (zaa rfl) (zak rfl ts22 rfl) (zad rfl rfl (zaa rfl) (za4 rfl rfl rfl (IntWalk.i64_in _ (by omega))) (zac rfl (zae (zaf (zab (zac rfl (zae (zaf (zaf (zab (zac rfl (zae (zah (zaq ?_))))))))))))))))))))))))))))
 refine zcd (S := Nat × Int) (fun p => [(1, .ref (eN n).cells), (2, .ptr 0 2 0 0), (3, eI 0), (4, eI (n.places + n.trans.length)), (5, eI p.2), (6, eI p.1)]) (fun _ => [.row 2 [zFA]]) (fun p => p.1 ≤ n.trans.length ∧ p.2 + zgg (n.trans.drop p.1) = A ∧ 0 ≤ p.2) (fun p => n.trans.length - p.1) (0, 0)
  (zc3 [1] (by decide) ⟨⟨_, rfl, .rowE zoy rfl⟩, trivial⟩ ⟨.lo _ hln, .ptr 1 0 2 0 0 rfl, .lo _ (.s _), .lo _ (.s _), .lo _ (.s _), .lo _ (.s _), trivial⟩) ⟨Nat.zero_le _, by show 0 + zgg n.trans = A; omega, Int.le_refl _⟩ (fun p hp => ?_)
 obtain ⟨k, a⟩ := p
 obtain ⟨hk, hA, ha⟩ := hp
 replace hk : k ≤ n.trans.length := hk
 replace hA : a + zgg (n.trans.drop k) = A := hA
 replace ha : 0 ≤ a := ha
 by_cases hlt : k < n.trans.length
 rotate_left 1
 ·
  have e : k = n.trans.length := by omega
  subst e
  rw [List.drop_length] at hA
  replace hA : a + 0 = A := hA
  have hmk := zyz (P := P) (n.places + n.trans.length) (n.places + n.trans.length + a) (by omega) (by omega)
  rw [show a = A by omega, ← hR] at hmk
  rw [show a = A by omega]
  refine zaf (zaf (zab (zac rfl (zbh zc7 rfl (zbl ta22 rfl (zad rfl rfl (zaa rfl) (zak rfl ts22 rfl) (zad rfl rfl (zaa rfl) (zbi (by omega) (zaz rfl rfl rfl)) (zae (zah (zax rfl ?_))))))))))
  (refine zb1 ?_; repeat (first | refine zcx ?_ | refine zbs ?_ | refine zbe rfl ?_ | refine zb3 ?_ | refine zah ?_ | refine zaf ?_ | refine zao ?_ | refine zaq ?_))
  refine zab (zac rfl (zac rfl (zac rfl (zad rfl rfl (zaa rfl) (za4 rfl rfl rfl (IntWalk.i64_in _ (by omega))) (zad rfl rfl (zaa rfl) (zai rfl rfl (hmk) (zag rfl (zag rfl zam))) (zac rfl (zac rfl (zcg rfl (zaa rfl) (za8 rfl ti32 rfl rfl rfl rfl rfl rfl (by decide) (by decide)) (zac rfl (zae (zah ?_)))))))))))
  (refine zav ?_; repeat (first | refine za6 ?_ | refine za7 ?_))
  exact zgo (.inr rfl) rfl rfl rfl rfl rfl rfl rfl
 have hbt := htr k hlt
 have hbr := zmb (n.trans.drop (k + 1)) (zkp htr (k + 1))
 rw [zco hlt, zgg] at hA
 have hix : (n.trans.map eT)[k]? = some (eT (gti n.trans k)) := zbz hlt
 generalize gti n.trans k = t at hix hA hbt
 have hsum : a + (t.inn.length : Int) + (t.out.length : Int) = a + ((t.inn.length : Int) + t.out.length) := by omega
 refine zaf (zaf (zab (zac rfl (zbh zc7 rfl (zbl ta22 rfl (zad rfl rfl (zaa rfl) (zak rfl ts22 rfl) (zad rfl rfl (zaa rfl) (zbp (by omega) (zaz rfl rfl rfl)) (zae (zah (za0 rfl (zao (zaf (zaq ?_)))))))))))))
 refine zb6 hmix ?_
 refine zba (by kernel_rfl) ?_
 refine qx_s rfl (qx_f zc7 rfl (qx_l ta22 rfl (qx_s rfl (za9 rfl rfl (zaa rfl) (zan rfl ts22 ti65 rfl rfl rfl hix rfl) (qx_f zfu rfl (qx_l ta48 rfl (za9 rfl rfl (zaa rfl) (zak rfl ts48 rfl) (za9 rfl rfl (zaa rfl) (za4 rfl rfl rfl (IntWalk.i64_in _ (by omega))) (qx_f zc7 rfl (qx_l ta22 rfl (qx_s rfl (za9 rfl rfl (zaa rfl) (zan rfl ts22 ti65 rfl rfl rfl hix rfl) (qx_f zfk rfl (qx_l ta48 rfl (za9 rfl rfl (zaa rfl) (zak rfl ts48 rfl) (za9 rfl rfl (zaa rfl) (za4 rfl rfl rfl (IntWalk.i64_in _ (by omega))) ?_))))))))))))))))
 refine qx_s rfl ?_
 refine zcp ?_
 refine zb3 (zah (zab (zac rfl (zad rfl rfl (zaa rfl) (za4 rfl rfl rfl (IntWalk.i64_in _ (by omega))) (zac rfl (zae (zah ?_)))))))
 rw [hsum]
 exact ⟨(k + 1, a + ((t.inn.length : Int) + t.out.length)), ⟨by show k + 1 ≤ n.trans.length; omega, by show a + ((t.inn.length : Int) + t.out.length) + zgg (n.trans.drop (k + 1)) = A; omega, by show (0 : Int) ≤ _; omega⟩, by show n.trans.length - (k + 1) < n.trans.length - k; omega, zbx _ ⟨rfl, rfl, rfl, rfl, rfl, rfl, trivial⟩⟩
end Go.Proofs.YtohmldibkojkfaaGreatDoor.Aw
end
section
namespace Go.Proofs.YtohmldibkojkfaaGreatDoor.Dl
open Go.RowKit
def exQ : Net := ⟨3, [⟨⟨#[97]⟩, [0], [1]⟩, ⟨⟨#[98]⟩, [1], [2]⟩], 0, 2⟩
def exQv : List Vr := [⟨[⟨#[97]⟩], 1⟩, ⟨[⟨#[97]⟩, ⟨#[98]⟩], 3⟩]
def exQc : Cst := ⟨1, 1, 0⟩
theorem z03 : Wf exQ := by
 have h0 : Rch exQ false 0 0 := .start
 have h1 : Rch exQ false 0 1 := .step (i := 0) (p := 0) (q := 1) (by decide) (by decide) h0 (by decide)
 have h2 : Rch exQ false 0 2 := .step (i := 1) (p := 1) (q := 2) (by decide) (by decide) h1 (by decide)
 have k2 : Rch exQ true 2 2 := .start
 have k1 : Rch exQ true 2 1 := .step (i := 1) (p := 2) (q := 1) (by decide) (by decide) k2 (by decide)
 have k0 : Rch exQ true 2 0 := .step (i := 0) (p := 1) (q := 0) (by decide) (by decide) k1 (by decide)
 refine ⟨by decide +kernel, by decide, ?_, ?_, ?_⟩
 ·
  intro i hi
  match i, hi with
  | 0, _ => exact ⟨by decide, by decide⟩
  | 1, _ => exact ⟨by decide, by decide⟩
  | i + 2, hi => exact absurd hi (by simp [exQ])
 ·
  intro back p hp
  match p, hp with
  | 0, _ => cases back; exact h0; exact k0
  | 1, _ => cases back; exact h1; exact k1
  | 2, _ => cases back; exact h2; exact k2
  | p + 3, hp => exact absurd hp (by simp [exQ])
 ·
  intro back i hi
  match i, hi with
  | 0, _ => cases back; exact ⟨0, by decide, h0⟩; exact ⟨1, by decide, k1⟩
  | 1, _ => cases back; exact ⟨1, by decide, h1⟩; exact ⟨2, by decide, k2⟩
  | i + 2, hi => exact absurd hi (by simp [exQ])
theorem exQ_go : zdc exQ exQc 50 exQv 0 0 = (1, 15, 0) := by kernel_rfl
theorem exQ_vv : vvB exQv = true := by kernel_rfl
end Go.Proofs.YtohmldibkojkfaaGreatDoor.Dl
namespace Go.Proofs.YtohmldibkojkfaaGreatDoor.Aw
open Go Go.RowKit Go.Proofs Dl
variable {P : Program} [IsP P]
theorem ex_mk : zcy 14 15 = ⟨14, 15, 0⟩ := by kernel_rfl
theorem ex_mk2 : zcy 5 9 = ⟨5, 9, 0⟩ := by kernel_rfl
theorem z2x : qFitE exQ exQv exQc 50 = ⟨14, 15, 0⟩ := by
 have h : qcoE exQ exQv exQc 50 = 0 := by
  unfold qcoE qgvE
  rw [zka z03, exQ_vv, if_neg (by decide +kernel), if_neg (by decide), if_neg (by decide)]
 unfold qFitE
 rw [h, exQ_go, if_neg (by decide), if_neg (by decide), if_neg (by decide)]
 exact ex_mk
theorem z2w : simE exQ = ⟨5, 9, 0⟩ := by
 unfold simE
 rw [zka z03, if_neg (by decide)]
 exact ex_mk2
theorem zsh : Pure P 8 [] (eB true) := by
 have hF := ztt (P := P) exQ exQv exQc 50
 rw [z2x] at hF
 have hS := z0q (P := P) exQ
 rw [z2w] at hS
 refine zcu (by rw [IsP.eq (P := P)]; exact Tryz.func8) rfl rfl rfl rfl rfl (zar) (.s _) (by simp only [argF]; rfl) ?_
 refine zaf (zab (zac rfl (zae (zaf (zab (zad rfl rfl (zaa rfl) (zhg rfl ts48 ti3 rfl rfl rfl rfl) (zad rfl rfl (zaa rfl) (zhg rfl ts48 ti3 rfl rfl rfl rfl) (zad rfl rfl (zaa rfl) (zbf rfl ti65 tp65 rfl rfl) (zad rfl rfl (zaa rfl) (zhg rfl ts48 ti3 rfl rfl rfl rfl) (zad rfl rfl (zaa rfl) (zhg rfl ts48 ti3 rfl rfl rfl rfl) (zad rfl rfl (zaa rfl) (zbf rfl ti65 tp65 rfl rfl) (zad rfl rfl (zaa rfl) (zl6 rfl ts22 ti65 rfl rfl (by decide) (by decide) (by decide) rfl rfl) (zad rfl rfl (zaa rfl) (zbf rfl ti24 tp24 rfl rfl) ?_)))))))))))))
 refine zad rfl rfl (zaa rfl) (zbw rfl ti24 rfl rfl) (zcg rfl (zaa rfl) (za8 rfl ti24 rfl rfl rfl rfl rfl rfl (by decide) (by decide)) (zae (zaf ?_)))
 refine zbd (zbk (id := 0) rfl) ?_
 refine zbd (zch (d := 1) rfl rfl rfl) ?_
 refine zbd (F' := [(1, .ref (eN exQ).cells)]) (σ' := []) (zc3 [] (by decide) trivial ⟨.lo _ (.ref _ (lo_N exQ).cells), trivial⟩) ?_
 refine zab (zad rfl rfl (zaa rfl) (zhg rfl ts44 ti9 rfl rfl rfl rfl) (zad rfl rfl (zaa rfl) (zbf rfl ti46 tp46 rfl rfl) (zad rfl rfl (zaa rfl) (zl6 rfl ts44 ti9 rfl rfl (by decide) (by decide) (by decide) rfl rfl) (zad rfl rfl (zaa rfl) (zbf rfl ti46 tp46 rfl rfl) (zad rfl rfl (zaa rfl) (zl6 rfl ts25 ti46 rfl rfl (by decide) (by decide) (by decide) rfl rfl) (zac rfl (zae (zaf ?_))))))))
 refine zbd (F' := [(1, .ref (eN exQ).cells), (2, eL eVr exQv)]) (σ' := []) (zc3 [] (by decide) trivial ⟨.lo _ (.ref _ (lo_N exQ).cells), .lo _ (show Lo 0 (eL eVr exQv) from zdv exQv), trivial⟩) ?_
 refine zab (zbr ta24 ti24 rfl (zac rfl (zad rfl rfl (zaa rfl) (zbf rfl ti27 tp27 rfl rfl) (zad rfl rfl (zaa rfl) (zai rfl rfl (hF) (zag rfl (zag rfl (zag rfl (zag rfl zam))))) (zac rfl (zac rfl (zac rfl (zad rfl rfl (zaa rfl) (zbw rfl ti32 rfl rfl) (zcg rfl (zaa rfl) (za8 rfl ti32 rfl rfl rfl rfl rfl rfl (by decide) (by decide)) (zac rfl (zae (zaf ?_))))))))))))
 refine zbd (zbk (id := 0) rfl) ?_
 refine zbd (zch (d := 3) rfl rfl rfl) ?_
 refine zbd (F' := [(1, .ref (eN exQ).cells), (3, .ref (eF ⟨14, 15⟩).cells), (4, eI 0)]) (σ' := []) (zc3 [] (by decide) trivial ⟨.lo _ (.ref _ (lo_N exQ).cells), .lo _ (show Lo 0 (.ref (eF ⟨14, 15⟩).cells) from .ref _ (zaj (.s _) (zaj (.s _) zar))), .lo _ (.s _), trivial⟩) ?_
 refine zab (zbr ta24 ti24 rfl (zad rfl rfl (zaa rfl) (zai rfl rfl (hS) (zag rfl zam)) (zac rfl (zac rfl (zac rfl (zad rfl rfl (zaa rfl) (zbw rfl ti32 rfl rfl) (zcg rfl (zaa rfl) (za8 rfl ti32 rfl rfl rfl rfl rfl rfl (by decide) (by decide)) (zac rfl (zae (zaf ?_))))))))))
 refine zbd (zbk (id := 0) rfl) ?_
 refine zbd (zch (d := 5) rfl rfl rfl) ?_
 refine zbd (F' := [(3, .ref (eF ⟨14, 15⟩).cells), (4, eI 0), (5, .ref (eF ⟨5, 9⟩).cells), (6, eI 0)]) (σ' := []) (zc3 [] (by decide) trivial ⟨.lo _ (show Lo 0 (.ref (eF ⟨14, 15⟩).cells) from .ref _ (zaj (.s _) (zaj (.s _) zar))), .lo _ (.s _), .lo _ (show Lo 0 (.ref (eF ⟨5, 9⟩).cells) from .ref _ (zaj (.s _) (zaj (.s _) zar))), .lo _ (.s _), trivial⟩) ?_
 refine zab (zac rfl (zad rfl rfl (zaa rfl) (zcc rfl rfl rfl) (zac rfl (zbr ta32 ti32 rfl (zad rfl rfl (zal rfl rfl rfl) (zbf rfl ti32 tp32 rfl rfl) ?_)))))
 refine zad rfl rfl (zal rfl rfl rfl) (zqq (by rfl) (zhv rfl rfl rfl te32 rfl rfl rfl)) ?_
 refine zac rfl (zac rfl (zac rfl (zad rfl rfl (zal rfl rfl rfl) (zcc rfl rfl rfl) (zac rfl (zac rfl (zbr ta32 ti32 rfl (zad rfl rfl (zal rfl rfl rfl) (zbf rfl ti32 tp32 rfl rfl) ?_)))))))
 refine zad rfl rfl (zal rfl rfl rfl) (zqq (by rfl) (zhv rfl rfl rfl te32 rfl rfl rfl)) ?_
 refine zac rfl (zac rfl (zae (zah ?_)))
 (refine zav ?_; repeat (first | refine za6 ?_ | refine za7 ?_))
 exact zbj (.inr rfl) rfl rfl
def bigS (s : ByteArray) : Bool := decide (100 < s.size)
theorem zw7 (s : ByteArray) : Pure P 28 [eS s] (eB (bigS s)) := by
 refine zcu (by rw [IsP.eq (P := P)]; exact Tryz.func28) rfl rfl rfl rfl rfl (zaj (.s _) zar) (.s _) (by simp only [argF]; rfl) ?_
 refine zaf (zab (zac rfl (zae (zaf (zab (zac rfl (zad rfl rfl (zaa rfl) (zqn rfl tg9 rfl) (zad rfl rfl (zaa rfl) (za5 rfl rfl rfl) (zac rfl (zae (zah ?_)))))))))))
 (refine zav ?_; repeat (first | refine za6 ?_ | refine za7 ?_))
 exact zbj (.inr rfl) rfl (congrArg eB (decide_eq_decide.2 (by omega)))
theorem zu0 (f : FuncId) (caps : List AV) (p : Tr → Bool) (l : List Tr) (hlo : ∀ a : Tr, Lo 0 (eT a)) (hlc : Lo 0 (.fn f caps)) (hf : ∀ a ∈ l, Pure P f ([eT a] ++ caps) (eB (p a))) :
  Pure P 60 [eL eT l, .fn f caps] (eI (zds p l)) := by
 refine zcu (by rw [IsP.eq (P := P)]; exact Tryz.func60) rfl rfl rfl rfl rfl (zaj (za1 hlo) (zaj hlc zar)) (.s _) (by simp only [argF]; rfl) ?_
 refine zhn (d := 0) rfl (fun hmx => ?_)
 unfold maxLen at hmx
 refine zaf (zab (zac rfl (zae (zaf (zaf (zab (zac rfl (zad rfl rfl (zaa rfl) (zak rfl ts22 rfl) (zac rfl (zae (zah (zaq ?_))))))))))))
 refine zcd (S := Nat) (fun k => [(0, eL eT l), (1, .fn f caps), (7, eI l.length), (8, eI k)]) (fun _ => []) (fun k => k ≤ l.length ∧ ∀ j a, j < k → l[j]? = some a → p a = false) (fun k => l.length - k) 0 (zbx _ ⟨rfl, rfl, rfl, rfl, trivial⟩) ⟨by omega, fun j a hj => by omega⟩ (fun k hk => ?_)
 refine zaf (zab (zad rfl rfl (zaa rfl) (zaz rfl rfl rfl) (zae (zaf ?_))))
 refine zeg rfl (fun h => ?_) (fun h => ?_)
 ·
  have hlt : k < l.length := by omega
  refine zao (zaf (zaq (zaf (zab (zac rfl (zac rfl (zae (zaf ?_))))))))
  have hp := hf (gti l k) (gti_mem hlt)
  refine zab (zac rfl (zac rfl (zac rfl (zad rfl rfl (zaa rfl) (zan rfl ts22 ti65 rfl rfl rfl (zbz (by omega)) rfl) (zbr ta65 ti65 rfl (zad rfl rfl (zaa rfl) (zai rfl rfl (hp) (zag rfl zam)) (zae (zah ?_))))))))
  refine zep rfl (fun h => ?_) (fun h => ?_)
  ·
   refine zaf (zab (zac rfl (zac rfl (zae (zah ?_)))))
   (refine zav ?_; repeat (first | refine za6 ?_ | refine za7 ?_))
   exact zbj (.inr rfl) rfl (congrArg eI (zdq (zbn hlt) h hk.2).symm)
  ·
   refine zao (zb3 (zah (zab (zad rfl rfl (zaa rfl) (za4 rfl rfl rfl (IntWalk.i64_in _ (by omega))) (zac rfl (zae (zah ?_)))))))
   refine ⟨k + 1, ⟨by omega, fun j a hj ha => ?_⟩, by omega, zbx _ ⟨rfl, rfl, rfl, rfl, trivial⟩⟩
   by_cases e : j = k
   ·
    subst e
    rw [zbn hlt] at ha
    cases ha
    exact h
   ·
    exact hk.2 j a (by omega) ha
 ·
  (refine zb1 ?_; repeat (first | refine zcx ?_ | refine zbs ?_ | refine zbe rfl ?_ | refine zb3 ?_ | refine zah ?_ | refine zaf ?_ | refine zao ?_ | refine zaq ?_))
  refine zab (zac rfl (zae (zah ?_)))
  (refine zav ?_; repeat (first | refine za6 ?_ | refine za7 ?_))
  exact zbj (.inr rfl) rfl (congrArg eI (zd4 (fun j a hj ha => hk.2 j a (by omega) ha)).symm)
theorem zop (f : FuncId) (caps : List AV) (p : Tr → Bool) (l : List Tr) (hlo : ∀ a : Tr, Lo 0 (eT a)) (hlc : Lo 0 (.fn f caps)) (hf : ∀ a ∈ l, Pure P f ([eT a] ++ caps) (eB (p a))) :
  Pure P 26 [eL eT l, .fn f caps] (eB (l.any p)) := by
 refine zcu (by rw [IsP.eq (P := P)]; exact Tryz.func26) rfl rfl rfl rfl rfl (zaj (za1 hlo) (zaj hlc zar)) (.s _) (by simp only [argF]; rfl) ?_
 have hi := zu0 f caps p l hlo hlc hf
 refine zaf (zab (zac rfl (zae (zaf (zab (zac rfl (zac rfl (zad rfl rfl (zaa rfl) (zai rfl rfl (hi) (zag rfl (zag rfl zam))) (zad rfl rfl (zaa rfl) (zcr rfl rfl rfl) (zac rfl (zae (zah ?_))))))))))))
 (refine zav ?_; repeat (first | refine za6 ?_ | refine za7 ?_))
 exact zbj (.inr rfl) rfl (congrArg eB (zd0 p l))
theorem zrv (f : FuncId) (caps : List AV) (p : Vr → Bool) (l : List Vr) (hlo : ∀ a : Vr, Lo 0 (eVr a)) (hlc : Lo 0 (.fn f caps)) (hf : ∀ a ∈ l, Pure P f ([eVr a] ++ caps) (eB (p a))) :
  Pure P 61 [eL eVr l, .fn f caps] (eI (zds p l)) := by
 refine zcu (by rw [IsP.eq (P := P)]; exact Tryz.func61) rfl rfl rfl rfl rfl (zaj (za1 hlo) (zaj hlc zar)) (.s _) (by simp only [argF]; rfl) ?_
 refine zhn (d := 0) rfl (fun hmx => ?_)
 unfold maxLen at hmx
 refine zaf (zab (zac rfl (zae (zaf (zaf (zab (zac rfl (zad rfl rfl (zaa rfl) (zak rfl ts25 rfl) (zac rfl (zae (zah (zaq ?_))))))))))))
 refine zcd (S := Nat) (fun k => [(0, eL eVr l), (1, .fn f caps), (7, eI l.length), (8, eI k)]) (fun _ => []) (fun k => k ≤ l.length ∧ ∀ j a, j < k → l[j]? = some a → p a = false) (fun k => l.length - k) 0 (zbx _ ⟨rfl, rfl, rfl, rfl, trivial⟩) ⟨by omega, fun j a hj => by omega⟩ (fun k hk => ?_)
 refine zaf (zab (zad rfl rfl (zaa rfl) (zaz rfl rfl rfl) (zae (zaf ?_))))
 refine zeg rfl (fun h => ?_) (fun h => ?_)
 ·
  have hlt : k < l.length := by omega
  refine zao (zaf (zaq (zaf (zab (zac rfl (zac rfl (zae (zaf ?_))))))))
  have hp := hf (gti l k) (gti_mem hlt)
  refine zab (zac rfl (zac rfl (zac rfl (zad rfl rfl (zaa rfl) (zan rfl ts25 ti46 rfl rfl rfl (zbz (by omega)) rfl) (zbr ta46 ti46 rfl (zad rfl rfl (zaa rfl) (zai rfl rfl (hp) (zag rfl zam)) (zae (zah ?_))))))))
  refine zep rfl (fun h => ?_) (fun h => ?_)
  ·
   refine zaf (zab (zac rfl (zac rfl (zae (zah ?_)))))
   (refine zav ?_; repeat (first | refine za6 ?_ | refine za7 ?_))
   exact zbj (.inr rfl) rfl (congrArg eI (zdq (zbn hlt) h hk.2).symm)
  ·
   refine zao (zb3 (zah (zab (zad rfl rfl (zaa rfl) (za4 rfl rfl rfl (IntWalk.i64_in _ (by omega))) (zac rfl (zae (zah ?_)))))))
   refine ⟨k + 1, ⟨by omega, fun j a hj ha => ?_⟩, by omega, zbx _ ⟨rfl, rfl, rfl, rfl, trivial⟩⟩
   by_cases e : j = k
   ·
    subst e
    rw [zbn hlt] at ha
    cases ha
    exact h
   ·
    exact hk.2 j a (by omega) ha
 ·
  (refine zb1 ?_; repeat (first | refine zcx ?_ | refine zbs ?_ | refine zbe rfl ?_ | refine zb3 ?_ | refine zah ?_ | refine zaf ?_ | refine zao ?_ | refine zaq ?_))
  refine zab (zac rfl (zae (zah ?_)))
  (refine zav ?_; repeat (first | refine za6 ?_ | refine za7 ?_))
  exact zbj (.inr rfl) rfl (congrArg eI (zd4 (fun j a hj ha => hk.2 j a (by omega) ha)).symm)
theorem zmn (f : FuncId) (caps : List AV) (p : Vr → Bool) (l : List Vr) (hlo : ∀ a : Vr, Lo 0 (eVr a)) (hlc : Lo 0 (.fn f caps)) (hf : ∀ a ∈ l, Pure P f ([eVr a] ++ caps) (eB (p a))) :
  Pure P 29 [eL eVr l, .fn f caps] (eB (l.any p)) := by
 refine zcu (by rw [IsP.eq (P := P)]; exact Tryz.func29) rfl rfl rfl rfl rfl (zaj (za1 hlo) (zaj hlc zar)) (.s _) (by simp only [argF]; rfl) ?_
 have hi := zrv f caps p l hlo hlc hf
 refine zaf (zab (zac rfl (zae (zaf (zab (zac rfl (zac rfl (zad rfl rfl (zaa rfl) (zai rfl rfl (hi) (zag rfl (zag rfl zam))) (zad rfl rfl (zaa rfl) (zcr rfl rfl rfl) (zac rfl (zae (zah ?_))))))))))))
 (refine zav ?_; repeat (first | refine za6 ?_ | refine za7 ?_))
 exact zbj (.inr rfl) rfl (congrArg eB (zd0 p l))
def bigQ (t : Tr) : Bool := if 50 < t.inn.length ∨ 50 < t.out.length then true else bigS t.label
theorem z3d (t : Tr) : Pure P 27 [eT t] (eB (bigQ t)) := by
 have hl := zw7 (P := P) t.label
 have hR : bigQ t = if 50 < t.inn.length ∨ 50 < t.out.length then true else bigS t.label := rfl
 generalize bigQ t = R at hR ⊢
 generalize bigS t.label = b at hl hR
 refine zcu (by rw [IsP.eq (P := P)]; exact Tryz.func27) rfl rfl rfl rfl rfl (zaj (lo_T t) zar) (.s _) (by simp only [argF]; rfl) ?_
 refine zaf (zab (zad rfl rfl (zaa rfl) (zbv rfl rfl rfl rfl) ?_))
 refine zau (zbk (id := 0) rfl) (zau (zch (d := 1) rfl rfl rfl) ?_)
 refine zac rfl (zae (zaf ?_))
 by_cases h1 : (t.inn.length : Int) > 50
 ·
  refine zab (zbh zfu rfl (zbl ta48 rfl (zad rfl rfl (zaa rfl) (zak rfl ts48 rfl) (zad rfl rfl (zaa rfl) (zbp h1 (za5 rfl rfl rfl)) (zac rfl (zat rfl (zat rfl (zat rfl (zat rfl (zac rfl (zac rfl (zat rfl (zat rfl (zat rfl (zac rfl (zac rfl (zae (zah ?_))))))))))))))))))
  (refine zav ?_; repeat (first | refine za6 ?_ | refine za7 ?_))
  exact zbj (.inr rfl) rfl (congrArg eB (hR.trans (if_pos (by omega))).symm)
 by_cases h2 : (t.out.length : Int) > 50
 ·
  refine zab (zbh zfu rfl (zbl ta48 rfl (zad rfl rfl (zaa rfl) (zak rfl ts48 rfl) (zad rfl rfl (zaa rfl) (zbi h1 (za5 rfl rfl rfl)) (zac rfl (zbh zfk rfl (zbl ta48 rfl (zad rfl rfl (zal rfl rfl rfl) (zak rfl ts48 rfl) (zad rfl rfl (zal rfl rfl rfl) (zbp h2 (za5 rfl rfl rfl)) (zac rfl (zac rfl (zat rfl (zat rfl (zat rfl (zac rfl (zac rfl (zae (zah ?_))))))))))))))))))
  (refine zav ?_; repeat (first | refine za6 ?_ | refine za7 ?_))
  exact zbj (.inr rfl) rfl (congrArg eB (hR.trans (if_pos (by omega))).symm)
 ·
  refine zab (zbh zfu rfl (zbl ta48 rfl (zad rfl rfl (zaa rfl) (zak rfl ts48 rfl) (zad rfl rfl (zaa rfl) (zbi h1 (za5 rfl rfl rfl)) (zac rfl (zbh zfk rfl (zbl ta48 rfl (zad rfl rfl (zal rfl rfl rfl) (zak rfl ts48 rfl) (zad rfl rfl (zal rfl rfl rfl) (zbi h2 (za5 rfl rfl rfl)) (zac rfl (zac rfl (zbh zjs rfl (zbl ta9 rfl (zad rfl rfl (zal rfl rfl rfl) (zai rfl rfl (hl) (zag rfl zam)) (zac rfl (zac rfl (zae (zah ?_))))))))))))))))))
  (refine zav ?_; repeat (first | refine za6 ?_ | refine za7 ?_))
  exact zbj (.inr rfl) rfl (congrArg eB (hR.trans (if_neg (by omega))).symm)
def znj (n : Net) : Bool := if (9 < n.trans.length ∧ n.trans.length ≤ 60) ∨ 100 < n.trans.length ∨ (9 < n.places ∧ n.places ≤ 40) then true else n.trans.any bigQ
theorem zoc (n : Net) : Pure P 9 [eN n] (eB (znj n)) := by
 have hT := zop (P := P) 27 [] bigQ n.trans (fun a => lo_T a) (.fn _ _ zar) (fun a _ => z3d a)
 have hR : znj n = if (9 < n.trans.length ∧ n.trans.length ≤ 60) ∨ 100 < n.trans.length ∨ (9 < n.places ∧ n.places ≤ 40) then true else n.trans.any bigQ := rfl
 generalize znj n = R at hR ⊢
 generalize n.trans.any bigQ = b at hT hR
 have hln : Lo 0 (.ref (eN n).cells) := .ref _ (lo_N n).cells
 refine zcu (by rw [IsP.eq (P := P)]; exact Tryz.func9) rfl rfl rfl rfl rfl (zaj (lo_N n) zar) (.s _) (by simp only [argF]; rfl) ?_
 refine zaf (zab (zad rfl rfl (zaa rfl) (zbv rfl rfl rfl rfl) ?_))
 refine zau (zbk (id := 0) rfl) (zau (zch (d := 1) rfl rfl rfl) ?_)
 refine zac rfl (zae (zaf (zaf (zab (zbh zc7 rfl (zbl ta22 rfl (zad rfl rfl (zaa rfl) (zak rfl ts22 rfl) ?_)))))))
 refine zfo rfl rfl (zaa rfl) (za5 rfl rfl rfl) (fun h6 => ?_) (fun h6 => ?_)
 all_goals refine zac rfl ?_
 all_goals (first | refine zbh zc7 rfl ?_ | refine zat rfl ?_)
 all_goals (first | refine zbl ta22 rfl ?_ | refine zat rfl ?_)
 all_goals (first | refine zad rfl rfl (zal rfl rfl rfl) (zak rfl ts22 rfl) ?_ | refine zat rfl ?_)
 all_goals (first | refine zfo rfl rfl (zal rfl rfl rfl) (zev rfl rfl rfl) (fun h11 => ?_) (fun h11 => ?_) | refine zat rfl ?_)
 all_goals refine zac rfl (zac rfl ?_)
 all_goals (first | refine zbh zc7 rfl ?_ | refine zat rfl ?_)
 all_goals (first | refine zbl ta22 rfl ?_ | refine zat rfl ?_)
 all_goals (first | refine zad rfl rfl (zal rfl rfl rfl) (zak rfl ts22 rfl) ?_ | refine zat rfl ?_)
 all_goals (first | refine zfo rfl rfl (zal rfl rfl rfl) (za5 rfl rfl rfl) (fun h17 => ?_) (fun h17 => ?_) | refine zat rfl ?_)
 all_goals refine zac rfl (zac rfl ?_)
 all_goals (first | refine zbh zkz rfl ?_ | refine zat rfl ?_)
 all_goals (first | refine zbl ta3 rfl ?_ | refine zat rfl ?_)
 all_goals (first | refine zfo rfl rfl (zal rfl rfl rfl) (za5 rfl rfl rfl) (fun h22 => ?_) (fun h22 => ?_) | refine zat rfl ?_)
 all_goals (first | refine zac rfl ?_ | refine zat rfl ?_)
 all_goals (first | refine zbh zkz rfl ?_ | refine zat rfl ?_ | refine zeq rfl rfl (zbu rfl rfl rfl) ?_)
 all_goals (first | refine zbl ta3 rfl ?_ | refine zat rfl ?_ | refine zeq rfl rfl (zbu rfl rfl rfl) ?_)
 all_goals (first | refine zfo rfl rfl (zal rfl rfl rfl) (zev rfl rfl rfl) (fun h26 => ?_) (fun h26 => ?_) | refine zat rfl ?_ | refine zeq rfl rfl (zbu rfl rfl rfl) ?_)
 all_goals (first | refine zac rfl ?_ | refine zat rfl ?_)
 all_goals refine zac rfl (zae (zah ?_))
 all_goals (first | refine za0 rfl ?_ | refine zax rfl ?_)
 all_goals (repeat (first | refine zaf ?_ | refine zao ?_))
 all_goals first
  |
   refine zab (zac rfl (zae (zah ?_)))
   (refine zav ?_; repeat (first | refine za6 ?_ | refine za7 ?_))
   exact zbj (.inr rfl) rfl (congrArg eB (hR.trans (if_pos (by omega))).symm)
  | skip
 all_goals (have hR2 := hR.trans (if_neg (by omega)); subst hR2)
 all_goals refine zab (zbh zc7 rfl (zbl ta22 rfl (zad rfl rfl (zaa rfl) (zai rfl rfl (hT) (zag rfl (zag rfl zam))) (zac rfl (zae (zah (zav ?_)))))))
 all_goals exact zbj (.inr rfl) rfl rfl
def bigV (v : Vr) : Bool := if 8 < v.acts.length then true else v.acts.any bigS
theorem z3c (v : Vr) : Pure P 30 [eVr v] (eB (bigV v)) := by
 have hl := zgx (P := P) 28 [] bigS v.acts (fun a => .s _) (.fn _ _ zar) (fun a _ => zw7 a)
 have hR : bigV v = if 8 < v.acts.length then true else v.acts.any bigS := rfl
 generalize bigV v = R at hR ⊢
 generalize v.acts.any bigS = b at hl hR
 refine zcu (by rw [IsP.eq (P := P)]; exact Tryz.func30) rfl rfl rfl rfl rfl (zaj (zrq v) zar) (.s _) (by simp only [argF]; rfl) ?_
 refine zaf (zab (zad rfl rfl (zaa rfl) (zbv rfl rfl rfl rfl) ?_))
 refine zau (zbk (id := 0) rfl) (zau (zch (d := 1) rfl rfl rfl) ?_)
 refine zac rfl (zae (zaf ?_))
 by_cases h1 : (v.acts.length : Int) > 8
 ·
  refine zab (zbh zcm rfl (zbl ta44 rfl (zad rfl rfl (zaa rfl) (zak rfl ts44 rfl) (zad rfl rfl (zaa rfl) (zbp h1 (za5 rfl rfl rfl)) (zac rfl (zat rfl (zat rfl (zat rfl (zac rfl (zac rfl (zae (zah ?_))))))))))))
  (refine zav ?_; repeat (first | refine za6 ?_ | refine za7 ?_))
  exact zbj (.inr rfl) rfl (congrArg eB (hR.trans (if_pos (by omega))).symm)
 ·
  refine zab (zbh zcm rfl (zbl ta44 rfl (zad rfl rfl (zaa rfl) (zak rfl ts44 rfl) (zad rfl rfl (zaa rfl) (zbi h1 (za5 rfl rfl rfl)) (zac rfl (zbh zcm rfl (zbl ta44 rfl (zad rfl rfl (zal rfl rfl rfl) (zai rfl rfl (hl) (zag rfl (zag rfl zam))) (zac rfl (zac rfl (zae (zah ?_))))))))))))
  (refine zav ?_; repeat (first | refine za6 ?_ | refine za7 ?_))
  exact zbj (.inr rfl) rfl (congrArg eB (hR.trans (if_neg (by omega))).symm)
def zrp (vs : List Vr) (most : Int) : Bool := if (60 < most ∧ most ≤ 2000) ∨ 6 < vs.length then true else vs.any bigV
theorem zn3 (vs : List Vr) (most : Int) : Pure P 10 [eL eVr vs, eI most] (eB (zrp vs most)) := by
 have hT := zmn (P := P) 30 [] bigV vs (fun a => zrq a) (.fn _ _ zar) (fun a _ => z3c a)
 have hR : zrp vs most = if (60 < most ∧ most ≤ 2000) ∨ 6 < vs.length then true else vs.any bigV := rfl
 generalize zrp vs most = R at hR ⊢
 generalize vs.any bigV = b at hT hR
 refine zcu (by rw [IsP.eq (P := P)]; exact Tryz.func10) rfl rfl rfl rfl rfl (zaj (zdv vs) (zaj (.s _) zar)) (.s _) (by simp only [argF]; rfl) ?_
 refine zaf (zab (zac rfl (zae (zaf ?_))))
 by_cases h1 : 60 < most ∧ most ≤ 2000
 ·
  rw [if_pos (.inl h1)] at hR
  refine zab (zac rfl (zad rfl rfl (zaa rfl) (zbp (by omega) (za5 rfl rfl rfl)) (zac rfl (zac rfl (zad rfl rfl (zal rfl rfl rfl) (zbp (by omega) (zev rfl rfl rfl)) (zac rfl (zac rfl (zat rfl (zat rfl (zat rfl (zac rfl (zac rfl (zat rfl (zat rfl (zac rfl (zac rfl (zae (zah ?_))))))))))))))))))
  (refine zav ?_; repeat (first | refine za6 ?_ | refine za7 ?_))
  exact zbj (.inr rfl) rfl (congrArg eB hR.symm)
 by_cases h2 : 6 < vs.length
 ·
  rw [if_pos (.inr h2)] at hR
  by_cases h3 : most > 60
  ·
   refine zab (zac rfl (zad rfl rfl (zaa rfl) (zbp h3 (za5 rfl rfl rfl)) (zac rfl (zac rfl (zad rfl rfl (zal rfl rfl rfl) (zbi (by omega) (zev rfl rfl rfl)) (zac rfl (zac rfl (zac rfl (zad rfl rfl (zal rfl rfl rfl) (zak rfl ts25 rfl) (zad rfl rfl (zal rfl rfl rfl) (zbp (by omega) (za5 rfl rfl rfl)) (zac rfl (zac rfl (zat rfl (zat rfl (zac rfl (zac rfl (zae (zah ?_))))))))))))))))))
   (refine zav ?_; repeat (first | refine za6 ?_ | refine za7 ?_))
   exact zbj (.inr rfl) rfl (congrArg eB hR.symm)
  ·
   refine zab (zac rfl (zad rfl rfl (zaa rfl) (zbi h3 (za5 rfl rfl rfl)) (zac rfl (zat rfl (zat rfl (zac rfl (zac rfl (zac rfl (zad rfl rfl (zal rfl rfl rfl) (zak rfl ts25 rfl) (zad rfl rfl (zal rfl rfl rfl) (zbp (by omega) (za5 rfl rfl rfl)) (zac rfl (zac rfl (zat rfl (zat rfl (zac rfl (zac rfl (zae (zah ?_))))))))))))))))))
   (refine zav ?_; repeat (first | refine za6 ?_ | refine za7 ?_))
   exact zbj (.inr rfl) rfl (congrArg eB hR.symm)
 ·
  rw [if_neg (by omega)] at hR
  by_cases h3 : most > 60
  ·
   refine zab (zac rfl (zad rfl rfl (zaa rfl) (zbp h3 (za5 rfl rfl rfl)) (zac rfl (zac rfl (zad rfl rfl (zal rfl rfl rfl) (zbi (by omega) (zev rfl rfl rfl)) (zac rfl (zac rfl (zac rfl (zad rfl rfl (zal rfl rfl rfl) (zak rfl ts25 rfl) (zad rfl rfl (zal rfl rfl rfl) (zbi (by omega) (za5 rfl rfl rfl)) (zac rfl (zac rfl (zac rfl (zad rfl rfl (zal rfl rfl rfl) (zai rfl rfl (hT) (zag rfl (zag rfl zam))) (zac rfl (zac rfl (zae (zah ?_))))))))))))))))))
   (refine zav ?_; repeat (first | refine za6 ?_ | refine za7 ?_))
   exact zbj (.inr rfl) rfl (congrArg eB hR.symm)
  ·
   refine zab (zac rfl (zad rfl rfl (zaa rfl) (zbi h3 (za5 rfl rfl rfl)) (zac rfl (zat rfl (zat rfl (zac rfl (zac rfl (zac rfl (zad rfl rfl (zal rfl rfl rfl) (zak rfl ts25 rfl) (zad rfl rfl (zal rfl rfl rfl) (zbi (by omega) (za5 rfl rfl rfl)) (zac rfl (zac rfl (zac rfl (zad rfl rfl (zal rfl rfl rfl) (zai rfl rfl (hT) (zag rfl (zag rfl zam))) (zac rfl (zac rfl (zae (zah ?_))))))))))))))))))
   (refine zav ?_; repeat (first | refine za6 ?_ | refine za7 ?_))
   exact zbj (.inr rfl) rfl (congrArg eB hR.symm)
end Go.Proofs.YtohmldibkojkfaaGreatDoor.Aw
end
section
namespace Go.Proofs.YtohmldibkojkfaaGreatDoor.Aw
open Go.RowKit Go.Proofs
variable {P : Program} [IsP P]
noncomputable def wordsE (n : Net) (l : List ByteArray) : Int := if (wfB n && allN l) = false then 1 else if 200 < l.length then 5 else 0
theorem zym (n : Net) (l : List ByteArray) : Pure P 85 [eN n, eL eS l] (eI (wordsE n l)) := by
 have h1 := zfv (P := P) n
 have h2 := zlc (P := P) l
 unfold wordsE
 generalize wfB n = b1 at *
 generalize allN l = b2 at *
 refine zcu (by rw [IsP.eq (P := P)]; exact Tryz.func85) rfl rfl rfl rfl rfl (by repeat' (first | exact Lo.s _ | exact zar | refine zaj ?_ ?_ | refine za1 ?_ | refine Lo.agg _ ?_ | refine Lo.sl _ ?_ | intro _)) (.s _) (by simp only [argF]; rfl) ?_
 refine zaf (zab (zad rfl rfl (zaa rfl) (zbv rfl rfl rfl rfl) ?_))
 refine zau (zbk (id := 0) rfl) (zau (zch (d := 2) rfl rfl rfl) ?_)
 refine zac rfl (zae (zaf (zaf ?_)))
 cases b1 with
 | false =>
  refine zab (zbr ta24 ti24 rfl (zad rfl rfl (zaa rfl) (zai rfl rfl (h1) (zag rfl zam)) (zad rfl rfl (zaa rfl) (zay rfl rfl) (zac rfl (zat rfl (zat rfl (zat rfl (zac rfl (zae (zah (za0 rfl (zaf (zab (zac rfl (zae (zah ?_))))))))))))))))
  (refine zav ?_; repeat (first | refine za6 ?_ | refine za7 ?_))
  exact zbj (.inr rfl) rfl rfl
 | true =>
  cases b2 with
  | false =>
   refine zab (zbr ta24 ti24 rfl (zad rfl rfl (zaa rfl) (zai rfl rfl (h1) (zag rfl zam)) (zad rfl rfl (zaa rfl) (zay rfl rfl) (zac rfl (zac rfl (zad rfl rfl (zal rfl rfl rfl) (zai rfl rfl (h2) (zag rfl zam)) (zad rfl rfl (zal rfl rfl rfl) (zay rfl rfl) (zac rfl (zae (zah (za0 rfl (zaf (zab (zac rfl (zae (zah ?_))))))))))))))))
   (refine zav ?_; repeat (first | refine za6 ?_ | refine za7 ?_))
   exact zbj (.inr rfl) rfl rfl
  | true =>
   refine zab (zbr ta24 ti24 rfl (zad rfl rfl (zaa rfl) (zai rfl rfl (h1) (zag rfl zam)) (zad rfl rfl (zaa rfl) (zay rfl rfl) (zac rfl (zac rfl (zad rfl rfl (zal rfl rfl rfl) (zai rfl rfl (h2) (zag rfl zam)) (zad rfl rfl (zal rfl rfl rfl) (zay rfl rfl) (zac rfl (zae (zah (zax rfl (zao (zaf (zaf (zab (zac rfl (zad rfl rfl (zaa rfl) (zak rfl ts44 rfl) (zad rfl rfl (zaa rfl) (za5 rfl rfl rfl) (zae (zah ?_))))))))))))))))))))
   refine zeg rfl (fun h => ?_) (fun h => ?_)
   ·
    refine zaf (zab (zac rfl (zae (zah ?_))))
    (refine zav ?_; repeat (first | refine za6 ?_ | refine za7 ?_))
    exact zbj (.inr rfl) rfl (congrArg eI (by rw [if_neg (by simp), if_pos (by omega)]))
   ·
    refine zao (zaf (zab (zac rfl (zae (zah ?_)))))
    (refine zav ?_; repeat (first | refine za6 ?_ | refine za7 ?_))
    exact zbj (.inr rfl) rfl (congrArg eI (by rw [if_neg (by simp), if_neg (by omega)]))
end Go.Proofs.YtohmldibkojkfaaGreatDoor.Aw
end
