import Derived.Test.YtohmldibkojkfaaGreatDoorJB46
set_option linter.unusedSimpArgs false
set_option linter.unusedVariables false
set_option linter.unusedSectionVars false
section
namespace Go.Proofs.YtohmldibkojkfaaGreatDoor.Dl
open Go Go.RowKit Aw
def addV : List Vr → List ByteArray → Int → List Vr
 | [], w, m => [⟨w, m⟩]
 | v :: l, w, m => if cmpW v.acts w < 0 then v :: addV l w m else if cmpW v.acts w = 0 then ⟨w, v.cnt + m⟩ :: l else ⟨w, m⟩ :: v :: l
theorem z28 {a b : ByteArray} (h : cmpS a b = 0) : a = b := by
 unfold cmpS at h
 split at h
 ·
  cases h
 ·
  rename_i h1
  split at h
  ·
   cases h
  ·
   rename_i h2
   unfold gtS at h2
   have h3 : ltS a b = false := by simpa using h1
   rw [h3] at h2
   have h4 : a.toList = b.toList := by simpa using h2
   exact toList_inj.1 h4
theorem zsf : ∀ {x y : List ByteArray}, cmpW x y = 0 → x = y
 | [], [], _ => rfl
 | [], _ :: _, h => by simp [cmpW] at h
 | _ :: _, [], h => by simp [cmpW] at h
 | a :: x, b :: y, h => by
  unfold cmpW at h
  split at h
  ·
   rename_i h1; exact absurd h h1
  ·
   rename_i h1
   rw [z28 (Decidable.not_not.1 h1), zsf h]
section
variable (n : Net) (c : Cst) (most : Int)
def sumL : List Vr → Int
 | [] => 0
 | v :: l => v.cnt * (zb5 n v.acts c most).1 + sumL l
def sumW : List Vr → Int
 | [] => 0
 | v :: l => v.cnt * (zcs n v.acts c most).1 + sumW l
theorem zly : ∀ (vs : List Vr) (a b : Int), (∀ v ∈ vs, (zb5 n v.acts c most).2 = 0 ∧ (zcs n v.acts c most).2 = 0) → zdc n c most vs a b = (a + sumL n c most vs, b + sumW n c most vs, 0)
 | [], a, b, _ => by
  show (a, b, (0 : Int)) = (a + 0, b + 0, 0)
  rw [Int.add_zero, Int.add_zero]
 | v :: l, a, b, h => by
  obtain ⟨h1, h2⟩ := h v (by simp)
  unfold zdc
  rw [if_neg (fun e => e h1), if_neg (fun e => e h2), zly l _ _ (fun u hu => h u (by simp [hu]))]
  show (_, _, _) = (a + (v.cnt * (zb5 n v.acts c most).1 + sumL n c most l), b + (v.cnt * (zcs n v.acts c most).1 + sumW n c most l), (0 : Int))
  rw [Int.add_assoc, Int.add_assoc]
theorem zsx (w : List ByteArray) (m : Int) : ∀ vs, sumL n c most (addV vs w m) = sumL n c most vs + m * (zb5 n w c most).1
 | [] => by show m * (zb5 n w c most).1 + 0 = 0 + m * (zb5 n w c most).1; omega
 | v :: l => by
  unfold addV
  split
  ·
   show v.cnt * (zb5 n v.acts c most).1 + sumL n c most (addV l w m) = (v.cnt * (zb5 n v.acts c most).1 + sumL n c most l) + _
   rw [zsx w m l]; omega
  ·
   split
   ·
    rename_i h
    show (v.cnt + m) * (zb5 n w c most).1 + sumL n c most l = (v.cnt * (zb5 n v.acts c most).1 + sumL n c most l) + _
    rw [zsf h, Int.add_mul]; omega
   ·
    show m * (zb5 n w c most).1 + (v.cnt * (zb5 n v.acts c most).1 + sumL n c most l) = (v.cnt * (zb5 n v.acts c most).1 + sumL n c most l) + _
    omega
theorem zsw (w : List ByteArray) (m : Int) : ∀ vs, sumW n c most (addV vs w m) = sumW n c most vs + m * (zcs n w c most).1
 | [] => by show m * (zcs n w c most).1 + 0 = 0 + m * (zcs n w c most).1; omega
 | v :: l => by
  unfold addV
  split
  ·
   show v.cnt * (zcs n v.acts c most).1 + sumW n c most (addV l w m) = (v.cnt * (zcs n v.acts c most).1 + sumW n c most l) + _
   rw [zsw w m l]; omega
  ·
   split
   ·
    rename_i h
    show (v.cnt + m) * (zcs n w c most).1 + sumW n c most l = (v.cnt * (zcs n v.acts c most).1 + sumW n c most l) + _
    rw [zsf h, Int.add_mul]; omega
   ·
    show m * (zcs n w c most).1 + (v.cnt * (zcs n v.acts c most).1 + sumW n c most l) = (v.cnt * (zcs n v.acts c most).1 + sumW n c most l) + _
    omega
end
theorem zuf (w : List ByteArray) (m : Int) : ∀ vs, ∃ v ∈ addV vs w m, v.acts = w
 | [] => ⟨⟨w, m⟩, List.mem_singleton.2 rfl, rfl⟩
 | v :: l => by
  unfold addV
  split
  ·
   obtain ⟨u, h1, h2⟩ := zuf w m l
   exact ⟨u, List.mem_cons_of_mem _ h1, h2⟩
  ·
   split
   ·
    exact ⟨_, List.mem_cons_self, rfl⟩
   ·
    exact ⟨_, List.mem_cons_self, rfl⟩
theorem z3i {vs : List Vr} {w : List ByteArray} {m : Int} {k : Nat} (hk : k < vs.length) (h : cmpW (gti vs k).acts w < 0) : addV (vs.drop k) w m = gti vs k :: addV (vs.drop (k + 1)) w m := by
 rw [zco hk, addV, if_pos h]
theorem z3k {vs : List Vr} {w : List ByteArray} {m : Int} {k : Nat} (hk : k < vs.length) (h : cmpW (gti vs k).acts w = 0) : addV (vs.drop k) w m = ⟨w, (gti vs k).cnt + m⟩ :: vs.drop (k + 1) := by
 rw [zco hk, addV, if_neg (by omega), if_pos h]
theorem z3j {vs : List Vr} {w : List ByteArray} {m : Int} {k : Nat} (hk : k < vs.length) (h : ¬ cmpW (gti vs k).acts w < 0) (h2 : ¬ cmpW (gti vs k).acts w = 0) : addV (vs.drop k) w m = ⟨w, m⟩ :: vs.drop k := by
 rw [zco hk, addV, if_neg h, if_neg h2]
end Go.Proofs.YtohmldibkojkfaaGreatDoor.Dl
namespace Go.Proofs.YtohmldibkojkfaaGreatDoor.Aw
open Go Go.RowKit Go.Proofs Dl
def z0d (a : Fr) : Prop := a.ok ∧ 0 ≤ a.n ∧ a.n ≤ a.d
theorem zpy {l w : Int} (hw : 0 < w) (hl : 0 ≤ l) (hlw : l ≤ w) (h : (zcy (w - l) w).e = 0) : z0d (frE (zcy (w - l) w)) := by
 obtain ⟨g, hg, h1, h2, h3⟩ := zkh hw h
 refine ⟨h3, ?_, ?_⟩
 ·
  by_cases hn : 0 ≤ (zcy (w - l) w).n
  ·
   exact hn
  ·
   have := Int.mul_neg_of_pos_of_neg hg (show (zcy (w - l) w).n < 0 by omega)
   omega
 ·
  show (zcy (w - l) w).n ≤ (zcy (w - l) w).d
  exact Int.le_of_mul_le_mul_left (by omega) hg
theorem zw5 {l w w' : Int} (hw : 0 < w) (hl : 0 ≤ l) (hww : w ≤ w') (h : (zcy (w - l) w).e = 0) (h' : (zcy (w' - l) w').e = 0) : 0 ≤ cmpN (frE (zcy (w' - l) w')) (frE (zcy (w - l) w)) := by
 obtain ⟨g, hg, h1, h2, h3⟩ := zkh hw h
 obtain ⟨g', hg', h1', h2', h3'⟩ := zkh (show 0 < w' by omega) h'
 generalize zcy (w - l) w = f at h1 h2
 generalize zcy (w' - l) w' = f' at h1' h2'
 obtain ⟨a, b, e⟩ := f
 obtain ⟨a', b', e'⟩ := f'
 dsimp only at h1 h2 h1' h2'
 have k1 : (w - l) * w' = (g * g') * (a * b') := by rw [h1, h2']; ac_rfl
 have k2 : (w' - l) * w = (g * g') * (a' * b) := by rw [h1', h2]; ac_rfl
 have k3 : (w - l) * w' ≤ (w' - l) * w := by
  rw [Int.sub_mul, Int.sub_mul, Int.mul_comm w w']
  have := Int.mul_le_mul_of_nonneg_left hww hl
  omega
 have k4 : a * b' ≤ a' * b := Int.le_of_mul_le_mul_left (by rw [← k1, ← k2]; exact k3) (Int.mul_pos hg hg')
 unfold cmpN frE
 dsimp only
 rw [if_neg (by omega)]
 split <;> decide
theorem zzb {n : Net} {vs : List Vr} {w : List ByteArray} {m : Int} {c : Cst} {most : Int} (hm : 0 ≤ m) (hl : 0 < c.log) (hmd : 0 < c.model) (hz : c.silent = 0) (hF : (qFitE n vs c most).e = 0) {run : List Int} {e : Int} (hw : FitsE n w most = (true, run, e)) (hG : (qFitE n (addV vs w m) c most).e = 0) :
  z0d (frE (qFitE n vs c most)) ∧ z0d (frE (qFitE n (addV vs w m) c most)) ∧ 0 ≤ cmpN (frE (qFitE n (addV vs w m) c most)) (frE (qFitE n vs c most)) := by
 obtain ⟨f1, f2, f3, f4⟩ := zr5 hF
 obtain ⟨g1, g2, g3, g4⟩ := zr5 hG
 obtain ⟨-, -, -, q3, -, -⟩ := zpn f1
 obtain ⟨-, -, -, r3, -, -⟩ := zpn g1
 obtain ⟨s1, s2, -, s4⟩ := zi1 n c most vs 0 0 (zo1 q3) (Int.le_refl _) f2
 obtain ⟨t1, t2, -, t4⟩ := zi1 n c most (addV vs w m) 0 0 (zo1 r3) (Int.le_refl _) g2
 have s5 := s4 (Int.le_refl _)
 have t5 := t4 (Int.le_refl _)
 obtain ⟨u, hu, hua⟩ := zuf w m vs
 have hlw := (t1 u hu).1
 rw [hua] at hlw
 have h0 := (znf hlw hl hmd hz).2 (ztr hw)
 have hwb := (zkv n w c most).1
 have v1 := zly n c most vs 0 0 s1
 have v2 := zly n c most (addV vs w m) 0 0 t1
 rw [zsx, zsw, h0, Int.mul_zero, Int.add_zero] at v2
 have hmw : 0 ≤ m * (zcs n w c most).1 := Int.mul_nonneg hm hwb
 rw [f4] at hF ⊢
 rw [g4] at hG ⊢
 rw [v1] at hF s2 s5 f3 ⊢
 rw [v2] at hG t2 t5 g3 ⊢
 dsimp only at hF hG s2 s5 t2 t5 f3 g3 ⊢
 exact ⟨zpy f3 s2 s5 hF, zpy g3 t2 t5 hG, zw5 f3 s2 (by omega) hF hG⟩
section
variable {P : Program} [IsP P]
theorem zxf (w : List ByteArray) : Pure P 18 [eL eS w] (eB (ze9 w)) := by
 have hN := zlc (P := P) w
 have hW : ze9 w = (decide (w.length ≤ 200) && allN w) := by unfold ze9; rw [zov]
 rw [hW]
 generalize allN w = b at hN
 refine zcu (by rw [IsP.eq (P := P)]; exact Tryz.func18) rfl rfl rfl rfl rfl (zaj (za1 fun _ => .s _) zar) (.s _) (by simp only [argF]; rfl) ?_
 refine zaf ?_
 refine zhn (d := 0) rfl (fun hmx => ?_)
 unfold maxLen at hmx
 refine zab (zac rfl (zae (zaf ?_)))
 by_cases h : w.length ≤ 200
 ·
  refine zab (zac rfl (zad rfl rfl (zaa rfl) (zak rfl ts44 rfl) (zad rfl rfl (zaa rfl) (zbp (by omega) (zev rfl rfl rfl)) (zac rfl (zac rfl (zad rfl rfl (zal rfl rfl rfl) (zai rfl rfl (hN) (zag rfl zam)) (zac rfl (zac rfl (zae (zah ?_))))))))))
  (refine zav ?_; repeat (first | refine za6 ?_ | refine za7 ?_))
  exact zbj (.inr rfl) rfl (congrArg eB (by rw [decide_eq_true h, Bool.true_and]))
 ·
  refine zab (zac rfl (zad rfl rfl (zaa rfl) (zak rfl ts44 rfl) (zad rfl rfl (zaa rfl) (zbi (by omega) (zev rfl rfl rfl)) (zac rfl (zat rfl (zat rfl (zac rfl (zac rfl (zae (zah ?_))))))))))
  (refine zav ?_; repeat (first | refine za6 ?_ | refine za7 ?_))
  exact zbj (.inr rfl) rfl (congrArg eB (by rw [decide_eq_false h, Bool.false_and]))
theorem zvj (a : Fr) (h : z0d a) : Pure P 20 [eF a] (eB true) := by
 have hV := zwb (P := P) a
 rw [Fr.okB_of h.1] at hV
 obtain ⟨x, y⟩ := a
 have h1 : 0 ≤ x := h.2.1
 have h2 : x ≤ y := h.2.2
 refine zcu (by rw [IsP.eq (P := P)]; exact Tryz.func20) rfl rfl rfl rfl rfl (by repeat' (first | exact Lo.s _ | exact zar | refine zaj ?_ ?_ | refine za1 ?_ | refine Lo.agg _ ?_ | refine Lo.sl _ ?_ | intro _)) (.s _) (by simp only [argF]; rfl) ?_
 refine zaf (zab (zad rfl rfl (zaa rfl) (zbv rfl rfl rfl rfl) (zac rfl (zae (zaf (zab (zad rfl rfl (zaa rfl) (zb2 rfl ta32 ti32 rfl rfl rfl rfl rfl) (zad rfl rfl (zaa rfl) (zai rfl rfl (hV) (zag rfl zam)) (zac rfl (zbh z0m rfl (zad rfl rfl (zal rfl rfl rfl) (zap rfl ta3 rfl rfl rfl rfl rfl) (zad rfl rfl (zal rfl rfl rfl) (zbp h1 (zcr rfl rfl rfl)) (zac rfl (zac rfl (zbh z0m rfl (zad rfl rfl (zal rfl rfl rfl) (zap rfl ta3 rfl rfl rfl rfl rfl) ?_))))))))))))))))
 refine zbh tf32_1 rfl (zad rfl rfl (zal rfl rfl rfl) (zap rfl ta3 rfl rfl rfl rfl rfl) (zad rfl rfl (zal rfl rfl rfl) (zbp h2 (zev rfl rfl rfl)) (zac rfl (zac rfl (zae (zah ?_))))))
 (refine zav ?_; repeat (first | refine za6 ?_ | refine za7 ?_))
 exact zbj (.inr rfl) rfl rfl
end
end Go.Proofs.YtohmldibkojkfaaGreatDoor.Aw
end
