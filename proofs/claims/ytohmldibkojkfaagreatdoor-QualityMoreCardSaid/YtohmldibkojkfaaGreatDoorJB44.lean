import Derived.Test.YtohmldibkojkfaaGreatDoorJB26
import Derived.Test.YtohmldibkojkfaaGreatDoorJB43
import Derived.Test.YtohmldibkojkfaaGreatDoorJB41
import Derived.Test.YtohmldibkojkfaaGreatDoorJB17
set_option linter.unusedSimpArgs false
set_option linter.unusedVariables false
set_option linter.unusedSectionVars false
section
namespace Go.Proofs.YtohmldibkojkfaaGreatDoor.Aw
open Go.RowKit Go.Proofs
variable {P : Program} [IsP P]
def eNd (x : Nd) : AV := .agg [eI x.k, eL eI x.m, eL eI x.run]
def eFt (r : Bool × List Int × Int) : AV := .tup [eB r.1, eL eI r.2.1, eI r.2.2]
abbrev rfF (n : Net) (w : List ByteArray) (most : Int) (q : List Nd) (i : Nat) : Frm := [(1, eL eS w), (2, eI most), (3, .ref (eN n).cells), (10, .own 0 3 q.length), (11, eI i)]
abbrev rfS (q : List Nd) : List Ob := [.row 3 (q.map eNd)]
set_option maxHeartbeats 4000000 in
theorem zy0 (n : Net) (w : List ByteArray) (most : Int) : Pure P 59 [eN n, eL eS w, eI most] (eFt (FitsE n w most)) := by
 have hw := zym (P := P) n w
 have hW0 : wordsE n w = 0 → wfB n = true ∧ allN w = true ∧ w.length ≤ 200 := by
  unfold wordsE
  intro h
  split at h
  ·
   cases h
  ·
   rename_i h1
   split at h
   ·
    cases h
   ·
    rename_i h2
    simp at h1
    exact ⟨h1.1, h1.2, by omega⟩
 refine zcu (by rw [IsP.eq (P := P)]; exact Tryz.func59) rfl rfl rfl rfl rfl (by repeat' (first | exact Lo.s _ | exact zar | refine zaj ?_ ?_ | refine za1 ?_ | refine Lo.agg _ ?_ | refine Lo.sl _ ?_ | intro _)) (by repeat' (first | exact Lo.s _ | exact zar | refine zaj ?_ ?_ | refine za1 ?_ | refine Lo.cells ?_ | refine Lo.agg _ ?_ | refine Lo.ref _ ?_ | refine Lo.tup _ ?_ | refine Lo.fn _ _ ?_ | refine Lo.sl _ ?_ | intro _)) (by simp only [argF]; rfl) ?_
 refine zaf (zab (zad rfl rfl (zaa rfl) (zbv rfl rfl rfl rfl) ?_))
 refine zau (zbk (id := 0) rfl) (zau (zch (d := 3) rfl rfl rfl) ?_)
 refine zac rfl (zac rfl (zac rfl (zae (zaf (zab (zbr ta24 ti24 rfl (zac rfl (zad rfl rfl (zaa rfl) (zai rfl rfl (hw) (zag rfl (zag rfl zam))) (zac rfl (zae (zaf (zaf (zab (zac rfl (zad rfl rfl (zaa rfl) (zbg rfl rfl rfl) (zae (zah ?_)))))))))))))))))
 refine zeg rfl (fun h => ?_) (fun h => ?_)
 ·
  have hF : FitsE n w most = (false, [], wordsE n w) := if_pos h
  refine zaf (zab (zac rfl (zac rfl (zac rfl (zac rfl (zae (zah ?_)))))))
  (refine zav ?_; repeat (first | refine za6 ?_ | refine za7 ?_))
  rw [hF]
  exact zhd (.inr rfl) rfl rfl rfl (.refl _) .nil (.refl _)
 ·
  have h0 : wordsE n w = 0 := by simpa using h
  obtain ⟨hwf, hnames, hl200⟩ := hW0 h0
  have hval := (zvf hwf).valid
  have hpl := zbo hval
  have hends := zej hval
  obtain ⟨ksr, hksr⟩ : ∃ k : Nat, n.source = k := ⟨n.source.toNat, by omega⟩
  have hone := zv6 (P := P) n n.places.toNat ksr (by omega) (by omega) (by omega)
  rw [← hksr] at hone
  obtain ⟨ksk, hksk⟩ : ∃ k : Nat, n.sink = k := ⟨n.sink.toNat, by omega⟩
  have hfin := zv6 (P := P) n n.places.toNat ksk (by omega) (by omega) (by omega)
  rw [← hksk] at hfin
  have hF0 : FitsE n w most = if most < 1 ∨ 2000 < most then (false, [], 2) else zfr n w most (most.toNat + 1) 0 [⟨0, oneL n.places.toNat n.source, []⟩] := if_neg h
  refine zao (zaf (zaf ?_))
  by_cases hr1 : most < 1
  ·
   rw [if_pos (.inl hr1)] at hF0
   refine zab (zac rfl (zad rfl rfl (zaa rfl) (zbp hr1 (zaz rfl rfl rfl)) (zac rfl (zat rfl (zat rfl (zac rfl (zae (zah (za0 rfl (zaf (zab (zac rfl (zac rfl (zac rfl (zae (zah ?_))))))))))))))))
   (refine zav ?_; repeat (first | refine za6 ?_ | refine za7 ?_))
   rw [hF0]
   exact zhd (.inr rfl) rfl rfl rfl (.refl _) .nil (.refl _)
  by_cases hr2 : 2000 < most
  ·
   rw [if_pos (.inr hr2)] at hF0
   refine zab (zac rfl (zad rfl rfl (zaa rfl) (zbi hr1 (zaz rfl rfl rfl)) (zac rfl (zac rfl (zad rfl rfl (zal rfl rfl rfl) (zbp hr2 (za5 rfl rfl rfl)) (zac rfl (zae (zah (za0 rfl (zaf (zab (zac rfl (zac rfl (zac rfl (zae (zah ?_))))))))))))))))
   (refine zav ?_; repeat (first | refine za6 ?_ | refine za7 ?_))
   rw [hF0]
   exact zhd (.inr rfl) rfl rfl rfl (.refl _) .nil (.refl _)
  rw [if_neg (by omega)] at hF0
  refine zab (zac rfl (zad rfl rfl (zaa rfl) (zbi hr1 (zaz rfl rfl rfl)) (zac rfl (zac rfl (zad rfl rfl (zal rfl rfl rfl) (zbi hr2 (za5 rfl rfl rfl)) (zac rfl (zae (zah (zax rfl (zao (zaf (zab (zbr ta24 ti24 rfl (zbh zio rfl (zbl ta3 rfl (zad rfl rfl (zaa rfl) (zai rfl rfl (hone) (zag rfl (zag rfl zam))) (zad rfl rfl (zaa rfl) (zbf rfl zh6 tp134 rfl rfl) (zad rfl rfl (zaa rfl) (zef rfl zfj zh6 rfl rfl (by decide) (by decide) rfl rfl rfl) (zac rfl ?_)))))))))))))))))))
  refine zae (zaf (zaf ?_))
  refine zbd (zvd (id := 1) (e' := eNd ⟨0, oneL n.places.toNat n.source, []⟩) (pre := [eI 0, eL eI (oneL n.places.toNat n.source)]) (post := []) rfl rfl rfl) ?_
  refine zab (zac rfl (zae (zah (zaq ?_))))
  refine zcd (S := List Nd × Nat) (fun s => rfF n w most s.1 s.2) (fun s => rfS s.1) (fun s => s.2 ≤ s.1.length ∧ (s.2 : Int) ≤ most ∧ (s.1.length : Int) ≤ most + 1 ∧ QF n w s.1 ∧ FitsE n w most = zfr n w most (most.toNat + 1 - s.2) s.2 s.1) (fun s => most.toNat + 1 - s.2) ([⟨0, oneL n.places.toNat n.source, []⟩], 0)
   (zc3 [1] (by decide) ⟨⟨_, rfl, .row 3 [eNd ⟨0, oneL n.places.toNat n.source, []⟩] (by repeat' (first | exact Lo.s _ | exact zar | exact zd9 | refine zaj ?_ ?_ | refine zdr ?_ ?_ | refine za1 ?_ | refine zdl ?_ | refine Lo.cells ?_ | refine Lo.agg _ ?_ | refine Lo.sl _ ?_ | intro _))⟩, trivial⟩ ⟨.lo _ (za1 fun _ => .s _), .lo _ (.s _), .lo _ (by repeat' (first | exact Lo.s _ | exact zar | refine zaj ?_ ?_ | refine za1 ?_ | refine Lo.cells ?_ | refine Lo.agg _ ?_ | refine Lo.ref _ ?_ | refine Lo.tup _ ?_ | refine Lo.fn _ _ ?_ | refine Lo.sl _ ?_ | intro _)), .own 1 0 3 1 _ rfl rfl, .lo _ (.s _), trivial⟩) ⟨by simp, by dsimp only; omega, by simp; omega, QF.init w hval, hF0⟩ ?_
  rintro ⟨q, i⟩ ⟨hil, him, hql, HQ, HI⟩
  dsimp only at hil him hql HQ HI ⊢
  refine zaf (zaf ?_)
  by_cases hlt : i < q.length
  ·
   by_cases hm : (i : Int) < most
   ·
    have HI1 : FitsE n w most = if zgc n w (gti q i) then (true, (gti q i).run, 0) else zfr n w most (most.toNat + 1 - (i + 1)) (i + 1) (zb4 n w most (gti q i) q n.trans.length) := by
     rw [HI, show most.toNat + 1 - i = (most.toNat + 1 - (i + 1)) + 1 by omega, zfr, if_pos ⟨hlt, hm⟩]
    obtain ⟨hxm, hxk0, hxk1, hxr⟩ := HQ.at_ i hlt
    refine zab (zac rfl (zac rfl (zad rfl rfl (zaa rfl) (zb7 rfl zfj rfl) (zad rfl rfl (zaa rfl) (zbp (by omega) (zaz rfl rfl rfl)) (zac rfl (zac rfl (zac rfl (zad rfl rfl (zal rfl rfl rfl) (zbp hm (zaz rfl rfl rfl)) (zac rfl (zae (zah (za0 rfl (zao (zaf (zaq (zaf (zaf ?_)))))))))))))))))
    obtain ⟨z, hz⟩ : ∃ z, zgc n w (gti q i) = z := ⟨_, rfl⟩
    rw [hz] at HI1
    refine zsi (S := Unit) (fun _ => (66, eB z) :: rfF n w most q i) (fun _ => rfS q) (fun _ => True) ?_ (fun _ _ => ?_)
    ·
     unfold zgc at hz
     by_cases hk : (gti q i).k = w.length
     ·
      have hsr := zmx (P := P) (gti q i).m (oneL n.places.toNat n.sink)
      rw [decide_eq_true hk, Bool.true_and] at hz
      rw [hz] at hsr
      refine zb6 hmix ?_
      refine zba (by kernel_rfl) ?_
      refine qx_s rfl (qx_s rfl (za9 rfl rfl (zaa rfl) (za2 rfl zfj zh6 rfl rfl rfl (by omega)) (qx_f zk0 rfl (za9 rfl rfl (zaa rfl) (zap rfl ta3 rfl rfl rfl (zbz hlt) rfl) (qx_s rfl (za9 rfl rfl (zaa rfl) (zak rfl ts44 rfl) (za9 rfl rfl (zaa rfl) (zbp hk (zcc rfl rfl rfl)) (qx_s rfl (qx_s rfl (qx_s rfl (za9 rfl rfl (zal rfl rfl rfl) (za2 rfl zfj zh6 rfl rfl rfl (by omega)) (qx_f zq7 rfl (za9 rfl rfl (zal rfl rfl rfl) (zap rfl ta48 rfl rfl rfl (zbz hlt) rfl) (qx_w ta24 ti24 rfl ?_))))))))))))))
      refine qx_f zjt rfl (qx_l ta3 rfl (za9 rfl rfl (zal rfl rfl rfl) (zai rfl rfl (hfin) (zag rfl (zag rfl zam))) (za9 rfl rfl (zal rfl rfl rfl) (zai rfl rfl (hsr) (zag rfl (zag rfl zam))) (qx_s rfl ?_))))
      refine zcp ?_
      refine zah ?_
      exact ⟨(), trivial, zbx _ ⟨rfl, rfl, rfl, rfl, rfl, rfl, trivial⟩⟩
     ·
      rw [decide_eq_false hk, Bool.false_and] at hz
      refine zb6 hmix ?_
      refine zba (by kernel_rfl) ?_
      refine qx_s rfl (qx_s rfl (za9 rfl rfl (zaa rfl) (za2 rfl zfj zh6 rfl rfl rfl (by omega)) (qx_f zk0 rfl (za9 rfl rfl (zaa rfl) (zap rfl ta3 rfl rfl rfl (zbz hlt) rfl) (qx_s rfl (za9 rfl rfl (zaa rfl) (zak rfl ts44 rfl) (za9 rfl rfl (zaa rfl) (zbi hk (zcc rfl rfl rfl)) (qx_s rfl (qx_z rfl (qx_z rfl (qx_z rfl (qx_z rfl (qx_z rfl (qx_z rfl (qx_z rfl (qx_z rfl (qx_z rfl (qx_z rfl (qx_s rfl ?_)))))))))))))))))))
      refine zcp ?_
      refine zah ?_
      exact ⟨(), trivial, zbx _ ⟨by rw [← hz]; rfl, rfl, rfl, rfl, rfl, rfl, trivial⟩⟩
    refine zah ?_
    refine zep rfl (fun hzt => ?_) (fun hzf => ?_)
    ·
     subst hzt
     rw [if_pos rfl] at HI1
     refine zaf ?_
     refine zb6 hmix ?_
     refine zba (by kernel_rfl) ?_
     refine qx_s rfl (qx_s rfl (za9 rfl rfl (zaa rfl) (za2 rfl zfj zh6 rfl rfl rfl (by omega)) (qx_f zvq rfl (za9 rfl rfl (zaa rfl) (zap rfl ta48 rfl rfl rfl (zbz hlt) rfl) (qx_s rfl (qx_s rfl (qx_s rfl ?_)))))))
     refine zcp ?_
     refine zah ?_
     (refine zav ?_; repeat (first | refine za6 ?_ | refine za7 ?_))
     rw [HI1]
     exact zhd (.inr rfl) rfl rfl rfl (.refl _) (.refl _) (.refl _)
    ·
     subst hzf
     rw [if_neg (by simp)] at HI1
     refine zao (zaf (zab (zac rfl (zae (zah (zaq ?_))))))
     refine zcd (S := Nat) (fun k => (12, eI k) :: rfF n w most (zb4 n w most (gti q i) q k) i) (fun k => rfS (zb4 n w most (gti q i) q k)) (fun k => k ≤ n.trans.length) (fun k => n.trans.length - k) 0 (zbx _ ⟨rfl, rfl, rfl, rfl, rfl, rfl, trivial⟩) (Nat.zero_le _) (fun k hk => ?_)
     have hQk := HQ.round (most := most) hlt k
     have hqg := zd7 n w most (gti q i) q k
     have hqle := zk7 n w most (gti q i) q hql k
     have hqx : gti (zb4 n w most (gti q i) q k) i = gti q i := zf4 hlt k
     have hstep : (zb4 n w most (gti q i) q (k + 1)) = if ((zb4 n w most (gti q i) q k).length : Int) ≤ most then zf3 n w (gti q i) (zb4 n w most (gti q i) q k) k else zb4 n w most (gti q i) q k := rfl
     have hend : (k = n.trans.length ∨ most < ((zb4 n w most (gti q i) q k).length : Int)) → zb4 n w most (gti q i) q n.trans.length = zb4 n w most (gti q i) q k := by
      rintro (h | h)
      ·
       rw [h]
      ·
       have := zgn h (n.trans.length - k)
       rwa [show k + (n.trans.length - k) = n.trans.length by omega] at this
     have hQT := HQ.round (most := most) hlt n.trans.length
     have hleT := zk7 n w most (gti q i) q hql n.trans.length
     have hgeT := zd7 n w most (gti q i) q n.trans.length
     generalize hqk : zb4 n w most (gti q i) q k = qk at *
     generalize hqT : zb4 n w most (gti q i) q n.trans.length = qT at *
     generalize hqS : zb4 n w most (gti q i) q (k + 1) = qS at *
     have hi2 : i < qk.length := by omega
     have hrun := (hQk.at_ i hi2).2.2.2
     refine zaf (zaf ?_)
     by_cases hkt : k < n.trans.length
     ·
      by_cases hmk : (qk.length : Int) ≤ most
      ·
       rw [if_pos hmk] at hstep
       refine zab (zac rfl (zbh zc7 rfl (zbl ta22 rfl (zad rfl rfl (zaa rfl) (zak rfl ts22 rfl) (zad rfl rfl (zaa rfl) (zbp (by omega) (zaz rfl rfl rfl)) (zac rfl (zac rfl (zad rfl rfl (zal rfl rfl rfl) (zb7 rfl zfj rfl) (zac rfl (zad rfl rfl (zal rfl rfl rfl) (zbp hmk (zev rfl rfl rfl)) (zac rfl (zae (zah (za0 rfl (zao (zaf (zaq (zaf ?_))))))))))))))))))
       have hxm2 : (gti qk i).m = (gti q i).m := by rw [hqx]
       have hxk2 : (gti qk i).k = (gti q i).k := by rw [hqx]
       refine zab (zac rfl (zac rfl (zad rfl rfl (zaa rfl) (za2 rfl zfj zh6 rfl rfl rfl (by omega)) (zbh zk0 rfl (zad rfl rfl (zaa rfl) (zap rfl ta3 rfl rfl rfl (zbz hi2) rfl) (zac rfl (zae (zaf (zaf ?_)))))))))
       rw [hxk2]
       have hlk : lblK n w (gti q i) k = if (gti n.trans k).label = eBA then some (gti q i).k else if (w.length : Int) ≤ (gti q i).k ∨ gti w (gti q i).k.toNat ≠ (gti n.trans k).label then none else some ((gti q i).k + 1) := rfl
       have hSn : lblK n w (gti q i) k = none → qS = qk := by
        intro h
        rw [hstep]; unfold zf3; rw [h]
       have hSs : ∀ kk, lblK n w (gti q i) k = some kk → qS = if (zci n (gti q i).m k).2 ≠ 0 ∨ (kk, (zci n (gti q i).m k).1) ∈ qk.map nkey then qk else qk ++ [⟨kk, (zci n (gti q i).m k).1, (gti q i).run ++ [(k : Int)]⟩] := by
        intro kk h
        rw [hstep]; unfold zf3; rw [h]
       generalize hxkk : (gti q i).k = xk at *
       obtain ⟨kn, hkn⟩ : ∃ kn : Nat, xk = kn := ⟨xk.toNat, by omega⟩
       refine zab (zbh zc7 rfl (zbl ta22 rfl (zac rfl (zad rfl rfl (zaa rfl) (zan rfl ts22 ti65 rfl rfl rfl (zbz hkt) rfl) (zbh zjs rfl (zbl ta9 rfl (zad rfl rfl (zaa rfl) (zgw rfl rfl rfl) (zae (zah ?_)))))))))
       refine zsi (S := Int) (fun kk => (13, eI kk) :: (12, eI k) :: rfF n w most qk i) (fun _ => rfS qk) (fun kk => lblK n w (gti q i) k = some kk) ?_ ?_
       ·
        refine zeg rfl (fun hlab => ?_) (fun hlab => ?_)
        rotate_left
        ·
         have hlab2 : (gti n.trans k).label = eBA := Decidable.not_not.1 hlab
         rw [if_pos hlab2] at hlk
         refine zao (zah ?_)
         exact ⟨xk, hlk, zbx _ ⟨rfl, rfl, rfl, rfl, rfl, rfl, rfl, trivial⟩⟩
        ·
         rw [if_neg hlab] at hlk
         refine zaf (zaf ?_)
         by_cases hke : (w.length : Int) ≤ xk
         ·
          rw [if_pos (.inl hke)] at hlk
          have hSq := hSn hlk
          refine zb6 hmix ?_
          refine zba (by kernel_rfl) ?_
          refine qx_s rfl (qx_s rfl (za9 rfl rfl (zaa rfl) (zak rfl ts44 rfl) (za9 rfl rfl (zaa rfl) (zbp hke (zcr rfl rfl rfl)) (qx_s rfl (qx_z rfl (qx_z rfl (qx_z rfl (qx_z rfl (qx_z rfl (qx_z rfl (qx_z rfl (qx_z rfl (qx_z rfl (qx_z rfl (qx_z rfl (qx_s rfl ?_))))))))))))))))
          refine zcp ?_
          refine zah (za0 rfl ?_)
          (refine zb1 ?_; repeat (first | refine zcx ?_ | refine zbs ?_ | refine zbe rfl ?_ | refine zb3 ?_ | refine zah ?_ | refine zaf ?_ | refine zao ?_ | refine zaq ?_))
          refine zab (zac rfl (zad rfl rfl (zaa rfl) (za4 rfl rfl rfl (IntWalk.i64_in _ (by omega))) (zac rfl (zae (zah ?_)))))
          refine ⟨k + 1, hkt, by omega, ?_⟩
          rw [hqS, hSq]
          exact zbx _ ⟨rfl, rfl, rfl, rfl, rfl, rfl, trivial⟩
         ·
          have hkw : kn < w.length := by omega
          by_cases hwl : gti w kn = (gti n.trans k).label
          ·
           rw [if_neg (by rw [not_or, hkn, Int.toNat_natCast]; exact ⟨by omega, fun h => h hwl⟩)] at hlk
           refine zb6 hmix ?_
           refine zba (by kernel_rfl) ?_
           refine qx_s rfl (qx_s rfl (za9 rfl rfl (zaa rfl) (zak rfl ts44 rfl) (za9 rfl rfl (zaa rfl) (zbi hke (zcr rfl rfl rfl)) (qx_s rfl (qx_s rfl (qx_s rfl (za9 rfl rfl (zal rfl rfl rfl) (zan rfl ts44 ti9 rfl rfl hkn (zbz hkw) rfl) (qx_l ta9 rfl (qx_f zc7 rfl (qx_l ta22 rfl (qx_s rfl (za9 rfl rfl (zal rfl rfl rfl) (zan rfl ts22 ti65 rfl rfl rfl (zbz hkt) rfl) (qx_f zjs rfl (qx_l ta9 rfl ?_))))))))))))))
           refine za9 rfl rfl (zal rfl rfl rfl) (zbi (fun h => h hwl) (zgw rfl rfl rfl)) ?_
           refine qx_s rfl ?_
           refine zcp ?_
           refine zah (zax rfl (zao (zah (zab (zac rfl (zad rfl rfl (zaa rfl) (za4 rfl rfl rfl (IntWalk.i64_in _ (by omega))) (zac rfl (zae (zah ?_)))))))))
           exact ⟨xk + 1, hlk, zbx _ ⟨rfl, rfl, rfl, rfl, rfl, rfl, rfl, trivial⟩⟩
          ·
           rw [if_pos (.inr (by rw [hkn, Int.toNat_natCast]; exact hwl))] at hlk
           have hSq := hSn hlk
           refine zb6 hmix ?_
           refine zba (by kernel_rfl) ?_
           refine qx_s rfl (qx_s rfl (za9 rfl rfl (zaa rfl) (zak rfl ts44 rfl) (za9 rfl rfl (zaa rfl) (zbi hke (zcr rfl rfl rfl)) (qx_s rfl (qx_s rfl (qx_s rfl (za9 rfl rfl (zal rfl rfl rfl) (zan rfl ts44 ti9 rfl rfl hkn (zbz hkw) rfl) (qx_l ta9 rfl (qx_f zc7 rfl (qx_l ta22 rfl (qx_s rfl (za9 rfl rfl (zal rfl rfl rfl) (zan rfl ts22 ti65 rfl rfl rfl (zbz hkt) rfl) (qx_f zjs rfl (qx_l ta9 rfl (za9 rfl rfl (zal rfl rfl rfl) (zbp hwl (zgw rfl rfl rfl)) (qx_s rfl ?_))))))))))))))))
           refine zcp ?_
           refine zah (za0 rfl ?_)
           (refine zb1 ?_; repeat (first | refine zcx ?_ | refine zbs ?_ | refine zbe rfl ?_ | refine zb3 ?_ | refine zah ?_ | refine zaf ?_ | refine zao ?_ | refine zaq ?_))
           refine zab (zac rfl (zad rfl rfl (zaa rfl) (za4 rfl rfl rfl (IntWalk.i64_in _ (by omega))) (zac rfl (zae (zah ?_)))))
           refine ⟨k + 1, hkt, by omega, ?_⟩
           rw [hqS, hSq]
           exact zbx _ ⟨rfl, rfl, rfl, rfl, rfl, rfl, trivial⟩
       ·
        intro kk hkk
        have hSS := hSs kk hkk
        have hfire := zy1 (P := P) n (gti qk i).m k
        refine zaf ?_
        refine zb6 hmix ?_
        refine zba (by kernel_rfl) ?_
        refine qx_w ta24 ti24 rfl (qx_s rfl (qx_s rfl (za9 rfl rfl (zaa rfl) (za2 rfl zfj zh6 rfl rfl rfl (by omega)) (qx_f zq7 rfl (za9 rfl rfl (zaa rfl) (zap rfl ta48 rfl rfl rfl (zbz hi2) rfl) (qx_s rfl (za9 rfl rfl (zaa rfl) (zai rfl rfl (hfire) (zag rfl (zag rfl (zag rfl zam)))) (qx_s rfl (qx_s rfl (qx_s rfl (qx_s rfl (qx_s rfl ?_))))))))))))
        refine zcp ?_
        refine zaf ?_
        rw [hxm2]
        generalize hfe : zci n (gti q i).m k = fe at *
        refine zab (zac rfl (zad rfl rfl (zaa rfl) (zbg rfl rfl rfl) (zac rfl (zae (zaf (zaf (zab (zac rfl (zae (zah (zaq ?_)))))))))))
        refine zcd (S := Nat × Bool) (fun s => (17, eI s.1) :: (16, eB s.2) :: (14, eL eI fe.1) :: (13, eI kk) :: (12, eI k) :: rfF n w most qk i) (fun _ => rfS qk) (fun s => s.1 ≤ qk.length ∧ (s.2 = true ↔ fe.2 ≠ 0 ∨ (kk, fe.1) ∈ (qk.take s.1).map nkey)) (fun s => qk.length - s.1) (0, decide (fe.2 ≠ 0)) (zbx _ ⟨rfl, rfl, rfl, rfl, rfl, rfl, rfl, rfl, rfl, rfl, trivial⟩) ⟨Nat.zero_le _, by simp⟩ ?_
        rintro ⟨j, b⟩ ⟨hj, hb⟩
        dsimp only at hj hb ⊢
        refine zaf (zaf ?_)
        by_cases hjl : j < qk.length
        ·
         have htake : (qk.take (j + 1)).map nkey = (qk.take j).map nkey ++ [nkey (gti qk j)] := by rw [List.take_add_one, zbn hjl]; simp
         cases b with
         | false =>
          have hb2 : ¬ (fe.2 ≠ 0 ∨ (kk, fe.1) ∈ (qk.take j).map nkey) := fun h => by have := hb.2 h; cases this
          rw [not_or] at hb2
          refine zab (zac rfl (zac rfl (zad rfl rfl (zaa rfl) (zb7 rfl zfj rfl) (zad rfl rfl (zaa rfl) (zbp (by omega) (zaz rfl rfl rfl)) (zac rfl (zac rfl (zad rfl rfl (zal rfl rfl rfl) (zay rfl rfl) (zac rfl (zae (zah (za0 rfl (zao (zaf (zaq ?_))))))))))))))
          by_cases hyk : (gti qk j).k = kk
          ·
           have hsr := zmx (P := P) (gti qk j).m fe.1
           refine zab (zac rfl (zac rfl (zad rfl rfl (zaa rfl) (za2 rfl zfj zh6 rfl rfl rfl (by omega)) (zbh zk0 rfl (zad rfl rfl (zaa rfl) (zap rfl ta3 rfl rfl rfl (zbz hjl) rfl) (zac rfl (zad rfl rfl (zaa rfl) (zbp hyk (zcc rfl rfl rfl)) (zac rfl (zac rfl (zac rfl (zad rfl rfl (zal rfl rfl rfl) (za2 rfl zfj zh6 rfl rfl rfl (by omega)) (zbh zq7 rfl (zad rfl rfl (zal rfl rfl rfl) (zap rfl ta48 rfl rfl rfl (zbz hjl) rfl) (zac rfl (zad rfl rfl (zal rfl rfl rfl) (zai rfl rfl (hsr) (zag rfl (zag rfl zam))) ?_)))))))))))))))
           refine zac rfl (zac rfl (zae (zb3 (zah (zab (zac rfl (zad rfl rfl (zaa rfl) (za4 rfl rfl rfl (IntWalk.i64_in _ (by omega))) (zac rfl (zae (zah ?_))))))))))
           refine ⟨(j + 1, decide ((gti qk j).m = fe.1)), ⟨hjl, ?_⟩, by dsimp only; omega, zbx _ ⟨rfl, rfl, rfl, rfl, rfl, rfl, rfl, rfl, rfl, rfl, trivial⟩⟩
           dsimp only
           rw [htake, decide_eq_true_eq, List.mem_append, List.mem_singleton]
           constructor
           ·
            intro h; exact .inr (.inr (by unfold nkey; rw [hyk, h]))
           ·
            rintro (h | h | h)
            ·
             exact absurd h hb2.1
            ·
             exact absurd h hb2.2
            ·
             unfold nkey at h; injection h with h1 h2; exact h2.symm
          ·
           refine zab (zac rfl (zac rfl (zad rfl rfl (zaa rfl) (za2 rfl zfj zh6 rfl rfl rfl (by omega)) (zbh zk0 rfl (zad rfl rfl (zaa rfl) (zap rfl ta3 rfl rfl rfl (zbz hjl) rfl) (zac rfl (zad rfl rfl (zaa rfl) (zbi hyk (zcc rfl rfl rfl)) (zac rfl (zat rfl (zat rfl (zat rfl (zat rfl (zat rfl (zat rfl (zat rfl (zac rfl (zac rfl (zae (zb3 (zah (zab (zac rfl (zad rfl rfl (zaa rfl) (za4 rfl rfl rfl (IntWalk.i64_in _ (by omega))) (zac rfl (zae (zah ?_))))))))))))))))))))))))))
           refine ⟨(j + 1, false), ⟨hjl, ?_⟩, by dsimp only; omega, zbx _ ⟨rfl, rfl, rfl, rfl, rfl, rfl, rfl, rfl, rfl, rfl, trivial⟩⟩
           dsimp only
           rw [htake, List.mem_append, List.mem_singleton]
           constructor
           ·
            intro h; cases h
           ·
            rintro (h | h | h)
            ·
             exact absurd h hb2.1
            ·
             exact absurd h hb2.2
            ·
             unfold nkey at h; injection h with h1 h2; exact absurd h1.symm hyk
         | true =>
          have hb2 : fe.2 ≠ 0 ∨ (kk, fe.1) ∈ qk.map nkey := (hb.1 rfl).imp (fun h => h) (fun h => by
           rw [List.mem_map] at h ⊢
           obtain ⟨y, h1, h2⟩ := h
           exact ⟨y, List.mem_of_mem_take h1, h2⟩)
          rw [if_pos hb2] at hSS
          refine zab (zac rfl (zac rfl (zad rfl rfl (zaa rfl) (zb7 rfl zfj rfl) (zad rfl rfl (zaa rfl) (zbp (by omega) (zaz rfl rfl rfl)) (zac rfl (zac rfl (zad rfl rfl (zal rfl rfl rfl) (zay rfl rfl) (zac rfl (zae (zah (zax rfl ?_)))))))))))
          (refine zb1 ?_; repeat (first | refine zcx ?_ | refine zbs ?_ | refine zbe rfl ?_ | refine zb3 ?_ | refine zah ?_ | refine zaf ?_ | refine zao ?_ | refine zaq ?_))
          refine zab (zac rfl (zad rfl rfl (zaa rfl) (zay rfl rfl) (zae (zah (zax rfl (zao (zb3 (zah (zab (zac rfl (zad rfl rfl (zaa rfl) (za4 rfl rfl rfl (IntWalk.i64_in _ (by omega))) (zac rfl (zae (zah ?_))))))))))))))
          refine ⟨k + 1, hkt, by omega, ?_⟩
          rw [hqS, hSS]
          exact zbx _ ⟨rfl, rfl, rfl, rfl, rfl, rfl, trivial⟩
        ·
         rw [List.take_of_length_le (by omega)] at hb
         refine zab (zac rfl (zac rfl (zad rfl rfl (zaa rfl) (zb7 rfl zfj rfl) (zad rfl rfl (zaa rfl) (zbi (by omega) (zaz rfl rfl rfl)) (zac rfl (zat rfl (zat rfl (zac rfl (zae (zah (zax rfl ?_)))))))))))
         (refine zb1 ?_; repeat (first | refine zcx ?_ | refine zbs ?_ | refine zbe rfl ?_ | refine zb3 ?_ | refine zah ?_ | refine zaf ?_ | refine zao ?_ | refine zaq ?_))
         refine zab (zac rfl (zad rfl rfl (zaa rfl) (zay rfl rfl) (zae (zah ?_))))
         cases b with
         | true =>
          rw [if_pos (hb.1 rfl)] at hSS
          refine zax rfl (zao (zb3 (zah (zab (zac rfl (zad rfl rfl (zaa rfl) (za4 rfl rfl rfl (IntWalk.i64_in _ (by omega))) (zac rfl (zae (zah ?_)))))))))
          refine ⟨k + 1, hkt, by omega, ?_⟩
          rw [hqS, hSS]
          exact zbx _ ⟨rfl, rfl, rfl, rfl, rfl, rfl, trivial⟩
         | false =>
          rw [if_neg (fun h => by have := hb.2 h; cases this)] at hSS
          refine za0 rfl (zab (zac rfl (zac rfl (zac rfl (zad rfl rfl (zaa rfl) (zge rfl rfl ts48 ti3) (zac rfl (zac rfl (zad rfl rfl (zaa rfl) (za2 rfl zfj zh6 rfl rfl rfl (by omega)) (zbh zvq rfl (zad rfl rfl (zaa rfl) (zap rfl ta48 rfl rfl rfl (zbz hi2) rfl) ?_))))))))))
          refine zad rfl rfl (zaa rfl) (ze1 rfl ts48 ti3 rfl (by decide) rfl (.inl rfl) rfl (by first | exact .own _ _ _ rfl rfl _ (by first | rfl | simp) | exact .emp | exact .nil | exact .sl _ (by first | simp; done | intro e he; simp at he; obtain ⟨_, _, rfl⟩ := he; rfl)) (by first | omega | (simp; omega) | (unfold maxLen; simp; omega)) (by first | omega | (simp; omega) | (unfold maxLen; simp; omega))) ?_
          refine zac rfl (zad rfl rfl (zaa rfl) (ziy rfl ts48 ti3 rfl rfl rfl rfl) ?_)
          refine zad rfl rfl (zaa rfl) (zb0 rfl ts48 ti3 rfl (by decide) rfl rfl (by first | rfl | (simp; done) | (simp; omega)) rfl (by first | exact .own _ _ _ rfl rfl _ (by first | rfl | simp) | exact .emp | exact .nil | exact .sl _ (by first | simp; done | intro e he; simp at he; obtain ⟨_, _, rfl⟩ := he; rfl)) (by first | omega | (simp; omega) | (unfold maxLen; simp; omega)) (by first | omega | (simp; omega) | (unfold maxLen; simp; omega))) ?_
          refine zau (zbk (id := 3) rfl) (zau (zkw (d := 169) rfl rfl (by first | rfl | (simp; done) | (simp; omega))) ?_)
          refine zad rfl rfl (zaa rfl) (zbf rfl zh6 tp134 rfl rfl) (zad rfl rfl (zaa rfl) (zef rfl zfj zh6 rfl rfl (by decide) (by decide) rfl rfl rfl) ?_)
          refine zad rfl rfl (zaa rfl) (zb0 rfl zfj zh6 rfl (by decide) rfl rfl (by first | rfl | (simp; done) | (simp; omega)) rfl (by first | exact .own _ _ _ rfl rfl _ (by first | rfl | simp) | exact .emp | exact .nil | exact .sl _ (by first | simp; done | intro e he; simp at he; obtain ⟨_, _, rfl⟩ := he; rfl)) (by first | omega | (simp; omega) | (unfold maxLen; simp; omega)) (by first | omega | (simp; omega) | (unfold maxLen; simp; omega))) ?_
          refine zac rfl (zae (zb3 (zah (zab (zac rfl (zad rfl rfl (zaa rfl) (za4 rfl rfl rfl (IntWalk.i64_in _ (by omega))) (zac rfl (zae (zah ?_)))))))))
          refine ⟨k + 1, hkt, by omega, ?_⟩
          have hrow : (qk ++ [(⟨kk, fe.1, (gti q i).run ++ [(k : Int)]⟩ : Nd)]).map eNd = qk.map eNd ++ [AV.agg [eI kk, eL eI fe.1, .sl ((gti qk i).run.map eI ++ [eI k])]] := by rw [← hqx]; simp [eNd, eL]
          rw [hqS, hSS]
          exact zc3 [5] (by decide) ⟨⟨_, rfl, .rowE (by repeat' (first | exact Lo.s _ | exact zar | exact zd9 | refine zaj ?_ ?_ | refine zdr ?_ ?_ | refine za1 ?_ | refine zdl ?_ | refine Lo.cells ?_ | refine Lo.agg _ ?_ | refine Lo.sl _ ?_ | intro _)) (Eq.trans (b := qk.map eNd ++ [AV.agg [eI kk, eL eI fe.1, .sl ((gti qk i).run.map eI ++ [eI k])]]) rfl hrow.symm)⟩, trivial⟩ ⟨.lo _ (.s _), .lo _ (za1 fun _ => .s _), .lo _ (.s _), .lo _ (by repeat' (first | exact Lo.s _ | exact zar | refine zaj ?_ ?_ | refine za1 ?_ | refine Lo.cells ?_ | refine Lo.agg _ ?_ | refine Lo.ref _ ?_ | refine Lo.tup _ ?_ | refine Lo.fn _ _ ?_ | refine Lo.sl _ ?_ | intro _)), .own 5 0 3 _ _ rfl (by simp), .lo _ (.s _), trivial⟩
      ·
       have hT := hend (.inr (by omega))
       refine zab (zac rfl (zbh zc7 rfl (zbl ta22 rfl (zad rfl rfl (zaa rfl) (zak rfl ts22 rfl) (zad rfl rfl (zaa rfl) (zbp (by omega) (zaz rfl rfl rfl)) (zac rfl (zac rfl (zad rfl rfl (zal rfl rfl rfl) (zb7 rfl zfj rfl) (zac rfl (zad rfl rfl (zal rfl rfl rfl) (zbi hmk (zev rfl rfl rfl)) (zac rfl (zae (zah (zax rfl ?_))))))))))))))
       (refine zb1 ?_; repeat (first | refine zcx ?_ | refine zbs ?_ | refine zbe rfl ?_ | refine zb3 ?_ | refine zah ?_ | refine zaf ?_ | refine zao ?_ | refine zaq ?_))
       refine zab (zac rfl (zad rfl rfl (zaa rfl) (za4 rfl rfl rfl (IntWalk.i64_in _ (by omega))) (zac rfl (zae (zah ?_)))))
       rw [← hT] at *
       exact ⟨(qT, i + 1), ⟨by dsimp only; omega, by dsimp only; omega, by dsimp only; omega, hQT, HI1⟩, by dsimp only; omega, zbx _ ⟨rfl, rfl, rfl, rfl, rfl, trivial⟩⟩
     ·
      have hT := hend (.inl (by omega))
      refine zab (zac rfl (zbh zc7 rfl (zbl ta22 rfl (zad rfl rfl (zaa rfl) (zak rfl ts22 rfl) (zad rfl rfl (zaa rfl) (zbi (by omega) (zaz rfl rfl rfl)) (zac rfl (zat rfl (zat rfl (zat rfl (zat rfl (zac rfl (zae (zah (zax rfl ?_))))))))))))))
      (refine zb1 ?_; repeat (first | refine zcx ?_ | refine zbs ?_ | refine zbe rfl ?_ | refine zb3 ?_ | refine zah ?_ | refine zaf ?_ | refine zao ?_ | refine zaq ?_))
      refine zab (zac rfl (zad rfl rfl (zaa rfl) (za4 rfl rfl rfl (IntWalk.i64_in _ (by omega))) (zac rfl (zae (zah ?_)))))
      rw [← hT] at *
      exact ⟨(qT, i + 1), ⟨by dsimp only; omega, by dsimp only; omega, by dsimp only; omega, hQT, HI1⟩, by dsimp only; omega, zbx _ ⟨rfl, rfl, rfl, rfl, rfl, trivial⟩⟩
   ·
    have HE : FitsE n w most = (false, [], if most < q.length then 13 else 0) := by
     rw [HI, show most.toNat + 1 - i = (most.toNat - i) + 1 by omega, zfr, if_neg (by omega)]
    refine zab (zac rfl (zac rfl (zad rfl rfl (zaa rfl) (zb7 rfl zfj rfl) (zad rfl rfl (zaa rfl) (zbp (by omega) (zaz rfl rfl rfl)) (zac rfl (zac rfl (zac rfl (zad rfl rfl (zal rfl rfl rfl) (zbi hm (zaz rfl rfl rfl)) (zac rfl (zae (zah (zax rfl ?_))))))))))))
    (refine zb1 ?_; repeat (first | refine zcx ?_ | refine zbs ?_ | refine zbe rfl ?_ | refine zb3 ?_ | refine zah ?_ | refine zaf ?_ | refine zao ?_ | refine zaq ?_))
    refine zab (zac rfl (zad rfl rfl (zaa rfl) (zb7 rfl zfj rfl) (zac rfl (zad rfl rfl (zaa rfl) (za5 rfl rfl rfl) (zae (zah ?_))))))
    refine zeg rfl (fun h => ?_) (fun h => ?_)
    ·
     rw [if_pos (by omega)] at HE
     refine zaf (zab (zac rfl (zac rfl (zac rfl (zae (zah ?_))))))
     (refine zav ?_; repeat (first | refine za6 ?_ | refine za7 ?_))
     rw [HE]
     exact zhd (.inr rfl) rfl rfl rfl (.refl _) .nil (.refl _)
    ·
     rw [if_neg (by omega)] at HE
     refine zao (zaf (zab (zac rfl (zac rfl (zac rfl (zae (zah ?_)))))))
     (refine zav ?_; repeat (first | refine za6 ?_ | refine za7 ?_))
     rw [HE]
     exact zhd (.inr rfl) rfl rfl rfl (.refl _) .nil (.refl _)
  ·
   have HE : FitsE n w most = (false, [], if most < q.length then 13 else 0) := by
    rw [HI, show most.toNat + 1 - i = (most.toNat - i) + 1 by omega, zfr, if_neg (by omega)]
   refine zab (zac rfl (zac rfl (zad rfl rfl (zaa rfl) (zb7 rfl zfj rfl) (zad rfl rfl (zaa rfl) (zbi (by omega) (zaz rfl rfl rfl)) (zac rfl (zat rfl (zat rfl (zat rfl (zac rfl (zae (zah (zax rfl ?_))))))))))))
   (refine zb1 ?_; repeat (first | refine zcx ?_ | refine zbs ?_ | refine zbe rfl ?_ | refine zb3 ?_ | refine zah ?_ | refine zaf ?_ | refine zao ?_ | refine zaq ?_))
   refine zab (zac rfl (zad rfl rfl (zaa rfl) (zb7 rfl zfj rfl) (zac rfl (zad rfl rfl (zaa rfl) (za5 rfl rfl rfl) (zae (zah ?_))))))
   refine zeg rfl (fun h => ?_) (fun h => ?_)
   ·
    rw [if_pos (by omega)] at HE
    refine zaf (zab (zac rfl (zac rfl (zac rfl (zae (zah ?_))))))
    (refine zav ?_; repeat (first | refine za6 ?_ | refine za7 ?_))
    rw [HE]
    exact zhd (.inr rfl) rfl rfl rfl (.refl _) .nil (.refl _)
   ·
    rw [if_neg (by omega)] at HE
    refine zao (zaf (zab (zac rfl (zac rfl (zac rfl (zae (zah ?_)))))))
    (refine zav ?_; repeat (first | refine za6 ?_ | refine za7 ?_))
    rw [HE]
    exact zhd (.inr rfl) rfl rfl rfl (.refl _) .nil (.refl _)
end Go.Proofs.YtohmldibkojkfaaGreatDoor.Aw
end
